import Derived.Test.YtbmebmhdkpmclaaDoorFSplit
import Derived.Test.YtbmebmhdkpmclaaDoorMBase
import Derived.Test.YtbmebmhdkpmclaaDoorPf24
namespace Go.Proofs.YtbmebmhdkpmclaaDoor.P
open Go.RowKit Go.Proofs.YtbmebmhdkpmclaaDoorW.PrintWords Go.Proofs.YtbmebmhdkpmclaaDoorW.PrintLast Go.Proofs.YtbmebmhdkpmclaaDoorW.PrintMore
set_option linter.unusedSimpArgs false
set_option linter.unusedVariables false
/-- The bytes from place b to place i. -/
def seg (s : ByteArray) (b i : Nat) : List UInt8 := (s.data.toList.drop b).take (i - b)
theorem seg_extract (s : ByteArray) (b i : Nat) : s.extract b i = tx (seg s b i) := by
  apply ByteArray.ext
  apply Array.ext'
  unfold tx seg
  rw [ByteArray.data_extract, Array.toList_extract]
theorem seg_more {s : ByteArray} {b i : Nat} (h0 : b ≤ i) {c : UInt8} {r : List UInt8} (hc : s.data.toList.drop i = c :: r) : seg s b (i + 1) = seg s b i ++ [c] := by
  unfold seg
  have e : s.data.toList.drop i = (s.data.toList.drop b).drop (i - b) := by rw [List.drop_drop]; congr 1; omega
  rw [e] at hc
  rw [show i + 1 - b = (i - b) + 1 by omega, List.take_add_one]
  have h1 : (s.data.toList.drop b)[i - b]? = some c := by
    have := congrArg (·[0]?) hc
    simpa [List.getElem?_drop] using this
  rw [h1]; rfl
theorem seg_none (s : ByteArray) (b : Nat) : seg s b b = [] := by unfold seg; simp
theorem seg_empty {s : ByteArray} {b i : Nat} (h0 : b ≤ i) (h1 : i ≤ s.size) : seg s b i = [] ↔ b = i := by
  unfold seg
  rw [← List.length_eq_zero_iff, List.length_take, List.length_drop, Array.length_toList]
  have : s.data.size = s.size := rfl
  omega
def finU (ws : List ByteArray) : List ByteArray × Bool := if ws.length > 24 then ([], false) else (ws, true)
def okFrom (s : ByteArray) (i : Nat) : Prop := ∀ j : Nat, i ≤ j → j < s.size → inR (bt s (j : Int)) 32 126 = true
theorem split_last (s : ByteArray) (hs : s.size ≤ 600) (out : List ByteArray) (b : Nat) (hb : b ≤ s.size) (ho : out.length ≤ s.size) : Ev (fun k => spec_SplitFields.l0 k s out b s.size) (finU (out ++ (Lib.fieldsGo (seg s b s.size) []).map tx)) := by
  have fin : ∀ (ws : List ByteArray) (q : Int), Ev (fun k => spec_SplitFields.l0 k s ws q ((s.size : Int) + 1)) (finU ws) := by
    intro ws q
    refine Ev.step (f := fun _ => some (finU ws)) (fun k => ?_) (Ev.now _)
    simp only [spec_SplitFields.l0]
    rw [if_neg (by omega)]
    unfold finU
    by_cases h : ws.length > 24
    · rw [if_pos h, if_pos (by omega)]
    · rw [if_neg h, if_neg (by omega)]
  refine Ev.step (f := fun k => spec_SplitFields.j1 k s out b s.size false) (fun k => ?_) (Ev.step (f := fun k => spec_SplitFields.j2 k s out b s.size false) (fun k => ?_) ?_)
  · simp only [spec_SplitFields.l0]
    rw [if_pos (by omega), if_neg (by omega)]
  · simp only [spec_SplitFields.j1]
    rw [if_neg (by simp), if_neg (by omega)]
  · by_cases hlt : b < s.size
    · have hne : seg s b s.size ≠ [] := fun e => by have := (seg_empty hb (Nat.le_refl _)).mp e; omega
      have e : Lib.fieldsGo (seg s b s.size) [] = [seg s b s.size] := by
        unfold Lib.fieldsGo
        rw [if_neg (by simpa using hne)]
      rw [e]
      refine Ev.step (fun k => ?_) (fin (out ++ [tx (seg s b s.size)]) ((s.size : Int) + 1))
      simp only [spec_SplitFields.j2]
      rw [if_neg (by simp), if_pos (by omega), if_pos (by omega), if_pos (by omega), if_pos (by omega), if_pos (by omega), w64 (by omega) (by omega), Int.toNat_natCast, Int.toNat_natCast, seg_extract]
    · obtain rfl : b = s.size := by omega
      rw [seg_none]
      have e : Lib.fieldsGo [] [] = [] := rfl
      rw [e, List.map_nil, List.append_nil]
      refine Ev.step (fun k => ?_) (fin out ((s.size : Int) + 1))
      simp only [spec_SplitFields.j2]
      rw [if_neg (by simp), if_neg (by omega), w64 (by omega) (by omega)]
theorem isSp_ok {c : UInt8} (h : inR (c.toNat : Int) 32 126 = true) : Lib.isSp c = (c == 32) := by
  have hr := inR_iff.mp h
  unfold Lib.isSp
  have ne : ∀ n : UInt8, n.toNat < 32 → (c == n) = false := fun n hn => beq_eq_false_iff_ne.mpr (fun e => by subst e; omega)
  rw [ne 9 (by decide), ne 10 (by decide), ne 11 (by decide), ne 12 (by decide), ne 13 (by decide)]
  simp
theorem split_go (s : ByteArray) (hs : s.size ≤ 600) : ∀ (d i b : Nat) (out : List ByteArray), s.size - i ≤ d → b ≤ i → i ≤ s.size → out.length ≤ i →
    ((okFrom s i → Ev (fun k => spec_SplitFields.l0 k s out b i) (finU (out ++ (Lib.fieldsGo (seg s b i) (s.data.toList.drop i)).map tx))) ∧ (¬ okFrom s i → Ev (fun k => spec_SplitFields.l0 k s out b i) ([], false))) := by
  have last : ∀ (i b : Nat) (out : List ByteArray), i = s.size → b ≤ i → out.length ≤ i → ((okFrom s i → Ev (fun k => spec_SplitFields.l0 k s out b i) (finU (out ++ (Lib.fieldsGo (seg s b i) (s.data.toList.drop i)).map tx))) ∧ (¬ okFrom s i → Ev (fun k => spec_SplitFields.l0 k s out b i) ([], false))) := by
    intro i b out hi hb ho
    subst hi
    have hd : s.data.toList.drop s.size = [] := List.drop_eq_nil_of_le (by rw [Array.length_toList]; exact Nat.le_refl _)
    rw [hd]
    exact ⟨fun _ => split_last s hs out b hb ho, fun h => absurd (fun j h1 h2 => absurd h2 (by omega)) h⟩
  intro d
  induction d with
  | zero => intro i b out hd hb hi ho; exact last i b out (by omega) hb ho
  | succ d ih =>
    intro i b out hd hb hi ho
    by_cases hlt : i < s.size
    · have hl : i < s.data.toList.length := by rw [Array.length_toList]; exact hlt
      obtain ⟨c, hc⟩ : ∃ c, c = s.data.toList[i] := ⟨_, rfl⟩
      have hdr : s.data.toList.drop i = c :: s.data.toList.drop (i + 1) := by rw [hc]; exact List.drop_eq_getElem_cons hl
      have hbt : bt s (i : Int) = (c.toNat : Int) := bt_of (by rw [hc]; exact List.getElem?_eq_getElem hl)
      cases hr : inR (c.toNat : Int) 32 126 with
      | false =>
        have hnot : ¬ okFrom s i := fun h => by have := h i (Nat.le_refl _) hlt; rw [hbt, hr] at this; cases this
        refine ⟨fun h => absurd h hnot, fun _ => ?_⟩
        have hrr := inR_not hr
        refine Ev.step (f := fun k => spec_SplitFields.j1 k s out b i true) (fun k => ?_) (Ev.step (f := fun _ => some (([] : List ByteArray), false)) (fun k => ?_) (Ev.now _))
        · simp only [spec_SplitFields.l0]
          rw [if_pos (by omega), if_pos (by omega), if_pos (by omega), hbt]
          by_cases h32 : (c.toNat : Int) < 32
          · rw [if_pos h32]
          · rw [if_neg h32, decide_eq_true (show (c.toNat : Int) > 126 by omega)]
        · simp only [spec_SplitFields.j1]
          rw [if_pos trivial]
      | true =>
        have hrr := inR_iff.mp hr
        have hok : okFrom s i ↔ okFrom s (i + 1) := by
          constructor
          · exact fun h j h1 h2 => h j (by omega) h2
          · intro h j h1 h2
            by_cases e : j = i
            · subst e; rw [hbt, hr]
            · exact h j (by omega) h2
        -- the three steps to the next place
        have step : ∀ (out' : List ByteArray) (b' : Nat) (r : List ByteArray × Bool), Ev (fun k => spec_SplitFields.l0 k s out' b' ((i + 1 : Nat) : Int)) r → (∀ k, spec_SplitFields.j2 (k + 1) s out b i ((c.toNat : Int) != 32) = spec_SplitFields.l0 k s out' b' ((i + 1 : Nat) : Int)) → Ev (fun k => spec_SplitFields.l0 k s out b i) r := by
          intro out' b' r e hj
          refine Ev.step (f := fun k => spec_SplitFields.j1 k s out b i false) (fun k => ?_) (Ev.step (f := fun k => spec_SplitFields.j2 k s out b i ((c.toNat : Int) != 32)) (fun k => ?_) (Ev.step hj e))
          · simp only [spec_SplitFields.l0]
            rw [if_pos (by omega), if_pos (by omega), if_pos (by omega), hbt, if_neg (by omega), decide_eq_false (show ¬ (c.toNat : Int) > 126 by omega)]
          · simp only [spec_SplitFields.j1]
            rw [if_neg (by simp), if_pos (by omega), if_pos (by omega), hbt]
        by_cases h32 : c = 32
        · have hsp : Lib.isSp c = true := by rw [isSp_ok hr, h32]; rfl
          have hz : ((c.toNat : Int) != 32) = false := by rw [h32]; rfl
          by_cases hbi : b < i
          · have hne : seg s b i ≠ [] := fun e => by have := (seg_empty hb (by omega)).mp e; omega
            have ih2 := ih (i + 1) (i + 1) (out ++ [tx (seg s b i)]) (by omega) (Nat.le_refl _) (by omega) (by simp; omega)
            have hj : ∀ k, spec_SplitFields.j2 (k + 1) s out b i ((c.toNat : Int) != 32) = spec_SplitFields.l0 k s (out ++ [tx (seg s b i)]) ((i + 1 : Nat) : Int) ((i + 1 : Nat) : Int) := by
              intro k
              simp only [spec_SplitFields.j2]
              rw [hz, if_neg (by simp), if_pos (by omega), if_pos (by omega), if_pos (by omega), if_pos (by omega), if_pos (by omega), w64 (by omega) (by omega), Int.toNat_natCast, Int.toNat_natCast, seg_extract]
              rfl
            have e : Lib.fieldsGo (seg s b i) (s.data.toList.drop i) = seg s b i :: Lib.fieldsGo [] (s.data.toList.drop (i + 1)) := by rw [hdr, Lib.fieldsGo_end _ _ _ hsp hne]
            refine ⟨fun h => step _ _ _ ?_ hj, fun h => step _ _ _ (ih2.2 (fun h2 => h (hok.mpr h2))) hj⟩
            have := ih2.1 (hok.mp h)
            rw [seg_none, List.append_assoc, List.singleton_append] at this
            rw [e, List.map_cons]
            exact this
          · obtain rfl : b = i := by omega
            have ih2 := ih (b + 1) (b + 1) out (by omega) (Nat.le_refl _) (by omega) (by omega)
            have hj : ∀ k, spec_SplitFields.j2 (k + 1) s out b b ((c.toNat : Int) != 32) = spec_SplitFields.l0 k s out ((b + 1 : Nat) : Int) ((b + 1 : Nat) : Int) := by
              intro k
              simp only [spec_SplitFields.j2]
              rw [hz, if_neg (by simp), if_neg (by omega), w64 (by omega) (by omega)]
              rfl
            have e : Lib.fieldsGo (seg s b b) (s.data.toList.drop b) = Lib.fieldsGo [] (s.data.toList.drop (b + 1)) := by rw [seg_none, hdr, Lib.fieldsGo_sp _ _ hsp]
            refine ⟨fun h => step _ _ _ ?_ hj, fun h => step _ _ _ (ih2.2 (fun h2 => h (hok.mpr h2))) hj⟩
            have := ih2.1 (hok.mp h)
            rw [seg_none] at this
            rw [e]
            exact this
        · have hsp : Lib.isSp c = false := by rw [isSp_ok hr]; exact beq_eq_false_iff_ne.mpr h32
          have hz : ((c.toNat : Int) != 32) = true := by
            rw [bne_iff_ne]
            intro e
            exact h32 (UInt8.toNat_inj.mp (by have : c.toNat = 32 := by omega
                                              rw [this]; rfl))
          have ih2 := ih (i + 1) b out (by omega) (by omega) (by omega) (by omega)
          have hj : ∀ k, spec_SplitFields.j2 (k + 1) s out b i ((c.toNat : Int) != 32) = spec_SplitFields.l0 k s out b ((i + 1 : Nat) : Int) := by
            intro k
            simp only [spec_SplitFields.j2]
            rw [hz, if_pos rfl, w64 (by omega) (by omega)]
            rfl
          have e : Lib.fieldsGo (seg s b i) (s.data.toList.drop i) = Lib.fieldsGo (seg s b (i + 1)) (s.data.toList.drop (i + 1)) := by rw [hdr, Lib.fieldsGo_more _ _ _ hsp, seg_more hb hdr]
          refine ⟨fun h => step _ _ _ ?_ hj, fun h => step _ _ _ (ih2.2 (fun h2 => h (hok.mpr h2))) hj⟩
          rw [e]
          exact ih2.1 (hok.mp h)
    · exact last i b out (by omega) hb ho
theorem lineOk_iff (s : ByteArray) : lineOk s = true ↔ okFrom s 0 := by
  unfold lineOk okFrom
  rw [List.all_eq_true]
  exact ⟨fun h j _ h2 => h j (List.mem_range.mpr h2), fun h j hj => h j (Nat.zero_le _) (List.mem_range.mp hj)⟩
theorem splitFields_ev (s : ByteArray) : Ev (fun k => spec_SplitFields.f k s) (splitF s) := by
  by_cases hs : s.size ≤ 600
  · have h := split_go s hs s.size 0 0 [] (by omega) (Nat.le_refl _) (by omega) (by simp)
    have hc : ∀ r, Ev (fun k => spec_SplitFields.l0 k s [] ((0 : Nat) : Int) ((0 : Nat) : Int)) r → Ev (fun k => spec_SplitFields.f k s) r := by
      intro r e
      refine Ev.congr (fun k => ?_) e
      simp only [spec_SplitFields.f, Option.bind_some]
      rw [if_neg (by omega)]
      rfl
    by_cases hok : lineOk s = true
    · have h1 := hc _ (h.1 ((lineOk_iff s).mp hok))
      rw [seg_none, List.drop_zero, List.nil_append] at h1
      have e : splitF s = finU ((Lib.fieldsGo [] s.data.toList).map tx) := by
        unfold splitF finU wordsOf Lib.fields
        by_cases h24 : ((Lib.fieldsGo [] s.data.toList).map tx).length > 24
        · rw [if_pos h24, if_neg (fun h => by omega)]
        · rw [if_neg h24, if_pos ⟨hs, hok, by omega⟩]
      rw [e]; exact h1
    · have e : splitF s = ([], false) := by unfold splitF; rw [if_neg (fun h => hok h.2.1)]
      rw [e]
      exact hc _ (h.2 (fun h2 => hok ((lineOk_iff s).mpr h2)))
  · have e : splitF s = ([], false) := by unfold splitF; rw [if_neg (fun h => hs h.1)]
    rw [e]
    refine Ev.congr (fun k => ?_) (Ev.now _)
    simp only [spec_SplitFields.f, Option.bind_some]
    rw [if_pos (by omega)]
end Go.Proofs.YtbmebmhdkpmclaaDoor.P
