import Derived.Test.YtbmebmhdkpmclaaDoorFFmt
import Derived.Test.YtbmebmhdkpmclaaDoorShAll
import Derived.Test.YtbmebmhdkpmclaaDoorFWithin
import Derived.Test.YtbmebmhdkpmclaaDoorMBase
namespace Go.Proofs.YtbmebmhdkpmclaaDoor.P
open Go.RowKit Go.Proofs.YtbmebmhdkpmclaaDoorW.PrintWords Go.Proofs.YtbmebmhdkpmclaaDoorW.PrintLast Go.Proofs.YtbmebmhdkpmclaaDoorW.PrintMore
set_option linter.unusedVariables false
set_option linter.unusedSimpArgs false
/-- The table of spaces lies as its text lays it. -/
def SpaceIs (w : World) : Prop := Lib.TabIs Tryd.prog w "strings.asciiSpace" .u8 Lib.asciiSpaceTab
theorem SpaceIs.below {w W : World} (h : SpaceIs w) (hb : Below w.heap.size w W) : SpaceIs W :=
  Go.Joins.var_stays (show Tryd.prog.globalNamed "strings.asciiSpace" = some 1 by kernel_rfl) h hb (Nat.le_refl _)
def lineOk (s : ByteArray) : Bool := (List.range s.size).all fun i : Nat => inR (bt s (i : Int)) 32 126
def wordsOf (s : ByteArray) : List ByteArray := (Lib.fields s.data.toList).map tx
def splitF (s : ByteArray) : List ByteArray × Bool := if s.size ≤ 600 ∧ lineOk s = true ∧ (wordsOf s).length ≤ 24 then (wordsOf s, true) else ([], false)
theorem bt_of {s : ByteArray} {j : Nat} {b : UInt8} (hj : s.data.toList[j]? = some b) : bt s (j : Int) = (b.toNat : Int) := by
  obtain ⟨h1, h2⟩ := List.getElem?_eq_some_iff.1 hj
  have hlt : (j : Int).toNat < s.size := by rw [Int.toNat_natCast]; rwa [Array.length_toList] at h1
  rw [← bt_at s j hlt, ← h2]
  rfl
theorem line_ascii {s : ByteArray} (h : lineOk s = true) : ∀ (j : Nat) b, s.data.toList[j]? = some b → b.toNat < 128 := by
  intro j b hj
  unfold lineOk at h
  rw [List.all_eq_true] at h
  have hlt : j < s.size := by have := (List.getElem?_eq_some_iff.1 hj).1; rwa [Array.length_toList] at this
  have := inR_iff.mp (h j (List.mem_range.mpr hlt))
  rw [bt_of hj] at this
  omega
theorem fields_row (s : ByteArray) (w : World) (hn : (wordsOf s).length ≤ 9223372036854775807) : Kd.R Kd.string 9 (w.alloc (.cells ((Lib.fields s.data.toList).map fun l => Value.string ⟨l.toArray⟩).toArray 9)) w.heap.size (fun _ => True) (.slice (some ⟨w.heap.size, 0, none⟩) (Lib.fields s.data.toList).length (Lib.fields s.data.toList).length) (wordsOf s) := by
  have h2 := World.ownsRow_lit (base := w.heap.size) (e := 9) (size := 1) w ((Lib.fields s.data.toList).map fun l => Value.string ⟨l.toArray⟩).toArray (Lib.fields s.data.toList).length (Nat.le_refl _) (by simpa [maxLen, wordsOf] using hn) (by simp)
  have e : encs Value.string (wordsOf s) = (Lib.fields s.data.toList).map fun l => Value.string ⟨l.toArray⟩ := by
    unfold encs wordsOf tx
    rw [List.map_map]; rfl
  have hl : (wordsOf s).length = (Lib.fields s.data.toList).length := by unfold wordsOf; simp
  refine Kd.R_of_own (enc := Value.string) ?_ (fun _ _ => trivial)
  rw [e, hl]
  simpa using h2
theorem cntF_le : ∀ (l : List UInt8) (b : Bool), Lib.cntF b l ≤ l.length := by
  intro l
  induction l with
  | nil => intro b; simp [Lib.cntF]
  | cons a r ih =>
    intro b
    have := ih (Lib.isSp a)
    simp only [Lib.cntF, List.length_cons]
    split <;> omega
theorem fields_len (l : List UInt8) : (Lib.fields l).length ≤ l.length := by rw [Lib.fields_length]; exact cntF_le l true
set_option maxHeartbeats 2000000 in
theorem SplitFields_calls (s : ByteArray) (w : World) (hs : SpaceIs w) :
    Calls Tryd.prog 27 #[.string s] w fun e w' => ∃ v0_ : Value, e = .returned (.tuple #[v0_, .bool (splitF s).2]) ∧ Kd.R Kd.string 9 w' w.heap.size (fun _ => True) v0_ (splitF s).1 ∧ Below w.heap.size w w' := by
  have HT := Aside0.mk hs
  clear hs
  by_cases h6 : s.size ≤ 600
  · have hz : ¬ (s.size : Int) > 600 := by omega
    have hm : s.size ≤ 600 := h6
    go_enter Tryd.func27, Tryd.ntmps27
    go_wp2
    go_loopg [11] 601 (fun gg v11 wr => ∃ i : Nat, i ≤ s.size ∧ s.size - i < gg ∧ v11 = .int .i64 i ∧ Aside0 (∀ j : Nat, j < i → inR (bt s (j : Int)) 32 126 = true) ∧ Aside0 (w = wr))
    case atStart => exact ⟨0, Nat.zero_le _, by omega, rfl, ⟨fun j hj => absurd hj (Nat.not_lt_zero _)⟩, ⟨rfl⟩⟩
    case round =>
      obtain ⟨i, hi, hg, rfl, HA, HW⟩ := hrel
      obtain rfl := HW.out
      by_cases hlt : i < s.size
      · have hltz : (i : Int) < (s.size : Int) := by omega
        obtain ⟨x, hx⟩ : ∃ x, bt s (i : Int) = x := ⟨_, rfl⟩
        have hb : ((s[i]'hlt).toNat : Int) = x := by rw [← hx]; exact bt_at s i (by rw [Int.toNat_natCast]; exact hlt)
        have hxr := bt_range s (i : Int)
        rw [hx] at hxr
        have HWX := Aside0.mk (w64 (a := x) (by omega) (by omega))
        cases hr : inR x 32 126 with
        | false =>
          have HS : Aside0 (splitF s = ([], false)) := ⟨by
            unfold splitF
            rw [if_neg]
            intro h
            have := h.2.1
            unfold lineOk at this
            rw [List.all_eq_true] at this
            have := this i (List.mem_range.mpr hlt)
            rw [hx, hr] at this; cases this⟩
          have HR := Aside0.mk hr
          clear hr hxr
          go_wp2_with (fail)
          rw [HWX.out]
          refine (within_calls x 32 126 _).mono ?_
          rw [HR.out]
          rintro e w2 ⟨rfl, rfl⟩
          clear hb
          go_wp2
          go_ret2
          exact ⟨_, by rw [HS.out]; rfl, by rw [HS.out]; exact Kd.R_nil _ _ _ _ _, Below.refl _ _⟩
        | true =>
          have HA2 : Aside0 (∀ j : Nat, j < i + 1 → inR (bt s (j : Int)) 32 126 = true) := ⟨fun j hj => by
            by_cases e : j = i
            · subst e; rw [hx]; exact hr
            · exact HA.out j (by omega)⟩
          have HR := Aside0.mk hr
          clear hr hxr
          go_wp2_with (fail)
          rw [HWX.out]
          refine (within_calls x 32 126 _).mono ?_
          rw [HR.out]
          rintro e w2 ⟨rfl, rfl⟩
          clear hb
          go_wp2
          go_roundg (s.size - i)
          case measure => omega
          case rel => exact ⟨i + 1, by omega, by omega, by go_num, HA2, ⟨rfl⟩⟩
      · have hltz : ¬ (i : Int) < (s.size : Int) := by omega
        obtain rfl : i = s.size := by omega
        have hok : lineOk s = true := by
          unfold lineOk
          rw [List.all_eq_true]
          intro j hj
          exact HA.out j (List.mem_range.mp hj)
        have hf := Tryd.strings_Fields s w (by omega) (line_ascii hok) HT.out
        have hlen : (wordsOf s).length = (Lib.fields s.data.toList).length := by unfold wordsOf; simp
        have hfl : (Lib.fields s.data.toList).length ≤ 600 := by
          have h1 := fields_len s.data.toList
          have h2 : s.data.toList.length = s.size := Array.length_toList
          omega
        have hrow := Aside0.mk (fields_row s w (by omega))
        have HF := Aside0.mk hf
        have HOK := Aside0.mk hok
        have HLEN := Aside0.mk hlen
        clear hf hok
        go_wp2_with (fail)
        refine HF.out.mono ?_
        rintro e w2 ⟨rfl, rfl⟩
        by_cases h24 : (Lib.fields s.data.toList).length ≤ 24
        · have hz24 : ¬ ((Lib.fields s.data.toList).length : Int) > 24 := by omega
          have HS : Aside0 (splitF s = (wordsOf s, true)) := ⟨by unfold splitF; rw [if_pos ⟨hm, HOK.out, by rw [HLEN.out]; exact h24⟩]⟩
          clear h24 hlen hfl
          go_wp2
          go_ret2
          exact ⟨_, by rw [HS.out]; rfl, by rw [HS.out]; exact hrow.out, below_alloc (Below.refl _ _) _⟩
        · have hz24 : ((Lib.fields s.data.toList).length : Int) > 24 := by omega
          have HS : Aside0 (splitF s = ([], false)) := ⟨by unfold splitF; rw [if_neg (fun h => h24 (by rw [← HLEN.out]; exact h.2.2))]⟩
          clear h24 hlen hfl
          go_wp2
          go_ret2
          exact ⟨_, by rw [HS.out]; rfl, by rw [HS.out]; exact Kd.R_nil _ _ _ _ _, below_alloc (Below.refl _ _) _⟩
  · have hz : (s.size : Int) > 600 := by omega
    have HS : Aside0 (splitF s = ([], false)) := ⟨by unfold splitF; rw [if_neg (fun h => h6 h.1)]⟩
    go_enter Tryd.func27, Tryd.ntmps27
    go_wp2
    go_ret2
    exact ⟨_, by rw [HS.out]; rfl, by rw [HS.out]; exact Kd.R_nil _ _ _ _ _, Below.refl _ _⟩
end Go.Proofs.YtbmebmhdkpmclaaDoor.P
