import Derived.Test.YtbmebmhdkpmclaaDoorShItoa
import Derived.Test.YtbmebmhdkpmclaaDoorPf22
import Derived.Lib.SmallJoins
import Derived.Lib.ItoaLen
import Derived.IntWalk
import Derived.BigRegion
namespace Go.Proofs.YtbmebmhdkpmclaaDoor.P
open Go.RowKit Go.Proofs.YtbmebmhdkpmclaaDoorW.PrintWords Go.Proofs.YtbmebmhdkpmclaaDoorW.PrintLast Go.Proofs.YtbmebmhdkpmclaaDoorW.PrintMore
set_option linter.unusedVariables false
set_option linter.unusedSimpArgs false
theorem grow_below (w : World) (k : Nat) (os : Array Obj) : Below w.heap.size w (Sort.grow (w.drewN k) os) :=
  ⟨rfl, rfl, rfl, by show w.heap.size ≤ ((w.drewN k).heap ++ os).size; rw [Array.size_append]; exact Nat.le_add_right _ _, fun i hi => by
    show ((w.drewN k).heap ++ os)[i]? = _
    rw [Array.getElem?_append_left (by exact hi)]; rfl⟩
/-- The table of powers lies as its text lays it. -/
def PowIs (w : World) : Prop := Lib.TabIs Tryd.prog w "internal/strconv.uint64pow10" .u64 Lib.pow10Tab
theorem PowIs.below {w W : World} (h : PowIs w) (hb : Below w.heap.size w W) : PowIs W :=
  Go.Joins.var_stays (show Tryd.prog.globalNamed "internal/strconv.uint64pow10" = some 6 by kernel_rfl) h hb (Nat.le_refl _)
/-- A number's text. -/
def itoaB (n : Int) : ByteArray := ⟨(Lib.itoa n).toArray⟩
theorem FormatInt_calls (n : Int) (h0 : -9223372036854775808 ≤ n) (h1 : n ≤ 9223372036854775807) (w : World) (hp : PowIs w) :
    Calls Tryd.prog 23 #[.int .i64 n] w fun e w' => e = .returned (.string (itoaB n)) ∧ Below w.heap.size w w' := by
  have H := Aside0.mk (Tryd.strconv_Itoa n h0 h1 w hp)
  clear hp
  go_enter Tryd.func23, Tryd.ntmps23
  go_wp2_with (go_at_call 37; refine H.out.mono ?_; rintro e w' ⟨rfl, ⟨k, os, rfl⟩⟩)
  go_ret
  exact ⟨rfl, grow_below _ _ _⟩
/-- A list of bytes as a text. -/
def tx (l : List UInt8) : ByteArray := ⟨l.toArray⟩
theorem tx_app (a b : List UInt8) : tx a ++ tx b = tx (a ++ b) := by apply ByteArray.ext; rw [ByteArray.data_append]; simp [tx]
theorem tx_size (a : List UInt8) : (tx a).size = a.length := by show a.toArray.size = _; simp
def wordsV : Array Value := #[.string ⟨#[119, 114, 105, 116, 101]⟩, .string ⟨#[114, 101, 97, 100]⟩, .string ⟨#[99, 117, 116]⟩, .string ⟨#[111, 112, 101, 110]⟩]
/-- The words of acts lie as the text lays them. -/
def WordsIs (w : World) : Prop := w.var? Tryd.prog "loop.example/g00986/impl.actWords" = some wordsV
theorem WordsIs.below {w W : World} (h : WordsIs w) (hb : Below w.heap.size w W) : WordsIs W :=
  Go.Joins.var_stays (show Tryd.prog.globalNamed "loop.example/g00986/impl.actWords" = some 0 by kernel_rfl) h hb (Nat.le_refl _)
def actWord (k : Int) : ByteArray := if k = 1 then ⟨#[119, 114, 105, 116, 101]⟩ else if k = 2 then ⟨#[114, 101, 97, 100]⟩ else if k = 3 then ⟨#[99, 117, 116]⟩ else ⟨#[111, 112, 101, 110]⟩
def actOk (k n a b : Int) : Bool := inR n 0 11 && (if k = 1 then inR a 0 65535 && inR b 0 65535 else if k = 2 then inR a 0 65535 && b == 0 else if k = 3 ∨ k = 4 then a == 0 && b == 0 else false)
theorem actOk_eq (k n a b : Int) : impl_ActOk.f k n a b = some (actOk k n a b) := by
  unfold impl_ActOk.f actOk impl_isWord.f impl_within.f
  simp only [Option.bind_some]
  cases inR n 0 11 <;> simp
  by_cases h1 : k = 1
  · simp [h1]; cases inR a 0 65535 <;> simp
  · by_cases h2 : k = 2
    · simp [h2]; cases inR a 0 65535 <;> simp
    · by_cases h3 : k = 3
      · simp [h3]; by_cases ha : a = 0 <;> simp [ha]
      · by_cases h4 : k = 4
        · simp [h4]; by_cases ha : a = 0 <;> simp [ha]
        · simp [h1, h2, h3, h4]
def sp : ByteArray := ⟨#[32]⟩
def actText (k n a b : Int) : ByteArray := if k = 1 then actWord k ++ sp ++ itoaB n ++ (sp ++ itoaB a) ++ (sp ++ itoaB b) else if k = 2 then actWord k ++ sp ++ itoaB n ++ (sp ++ itoaB a) else actWord k ++ sp ++ itoaB n
def fmtAct (k n a b : Int) : ByteArray × Bool := if actOk k n a b = true then (actText k n a b, true) else (⟨#[]⟩, false)
theorem itoaB_size (n : Int) (h0 : -9223372036854775808 ≤ n) (h1 : n ≤ 9223372036854775807) : (itoaB n).size ≤ 21 := by
  have := Lib.itoa_length_le n h0 h1
  show (Lib.itoa n).toArray.size ≤ 21
  simpa using this
theorem actWord_size (k : Int) : (actWord k).size ≤ 5 := by
  unfold actWord
  split
  · decide
  · split
    · decide
    · split <;> decide
theorem word_cell {w : World} {k : Int} (h : WordsIs w) (h0 : 1 ≤ k) (h1 : k ≤ 4) : w.cell? ⟨0, k.toNat - 1, none⟩ = some (.string (actWord k)) := by
  have hk : k = 1 ∨ k = 2 ∨ k = 3 ∨ k = 4 := by omega
  rw [World.var?_cell (show Tryd.prog.globalNamed "loop.example/g00986/impl.actWords" = some 0 by kernel_rfl) h]
  rcases hk with rfl | rfl | rfl | rfl <;> rfl
theorem actOk_range {k n a b : Int} (h : actOk k n a b = true) : (1 ≤ k ∧ k ≤ 4) ∧ (0 ≤ n ∧ n ≤ 11) ∧ (0 ≤ a ∧ a ≤ 65535) ∧ (0 ≤ b ∧ b ≤ 65535) := by
  unfold actOk at h
  simp only [Bool.and_eq_true, inR_iff] at h
  obtain ⟨hn, h⟩ := h
  refine ⟨?_, hn, ?_⟩
  · by_cases h1 : k = 1
    · omega
    · rw [if_neg h1] at h
      by_cases h2 : k = 2
      · omega
      · rw [if_neg h2] at h
        by_cases h3 : k = 3 ∨ k = 4
        · omega
        · rw [if_neg h3] at h; cases h
  · by_cases h1 : k = 1
    · rw [if_pos h1] at h; simp only [Bool.and_eq_true, inR_iff] at h; exact h
    · rw [if_neg h1] at h
      by_cases h2 : k = 2
      · rw [if_pos h2] at h; simp only [Bool.and_eq_true, inR_iff, beq_iff_eq] at h; omega
      · rw [if_neg h2] at h
        by_cases h3 : k = 3 ∨ k = 4
        · rw [if_pos h3] at h; simp only [Bool.and_eq_true, beq_iff_eq] at h; omega
        · rw [if_neg h3] at h; cases h
--<T3>
def fmtAct3.T : Bool × List (List Nat × List Nat) := (true, [([], []), ([0], [0]), ([1], [1]), ([2], [2]), ([3], [3]), ([4], [4]), ([], []), ([6], [6]), ([7], [7]), ([5, 8], [5, 8]), ([9, 8, 0, 1, 2, 3, 4, 5, 6, 7, 8, 9], [9])])
def fmtAct3.B : List Nat := [0, 1, 3, 7, 15, 31, 0, 64, 192, 511, 1023]
theorem fmtAct3.tab : rtab .any (opsOf Tryd.f9 3) = fmtAct3.T := by kernel_rfl
theorem fmtAct3.bits : waitsOk fmtAct3.T.2 fmtAct3.B = true := by kernel_rfl
--</T3>
set_option maxHeartbeats 4000000 in
set_option maxRecDepth 100000 in
theorem FormatAct_calls (k n a_ b_ : Int) (w : World) (hp : PowIs w) (hw : WordsIs w) :
    Calls Tryd.prog 9 #[.agg #[.int .i64 k, .int .i64 n, .int .i64 a_, .int .i64 b_]] w fun e w' => e = .returned (.tuple #[.string (fmtAct k n a_ b_).1, .bool (fmtAct k n a_ b_).2]) ∧ Below w.heap.size w w' := by
  have hu := Tryd.underlying26
  have HP := Aside0.mk hp
  have HW := Aside0.mk hw
  have HO := Aside0.mk (actOk_eq k n a_ b_)
  clear hp hw
  have BK0 := Aside0.mk (heap_alloc_new w (.cells #[.int .i64 k, .int .i64 n, .int .i64 a_, .int .i64 b_] 26))
  cases hok : actOk k n a_ b_ with
  | false =>
    rw [hok] at HO
    have HF : Aside0 (fmtAct k n a_ b_ = (⟨#[]⟩, false)) := ⟨by unfold fmtAct; rw [if_neg (by rw [hok]; simp)]⟩
    clear hok
    go_enter Tryd.func9, Tryd.ntmps9
    go_wp2_with (go_at_call 22; refine (impl_ActOk.calls k n a_ b_ false _ HO.out).mono ?_; rintro e w' ⟨rfl, hb'⟩; have HB := Aside0.mk hb'; clear hb')
    go_ret2
    exact ⟨by rw [HF.out]; rfl, below_step (below_alloc (Below.refl _ _) _) HB.out⟩
  | true =>
    rw [hok] at HO
    obtain ⟨hk, hn, ha, hb⟩ := actOk_range hok
    have KR := Aside0.mk hk
    have NR : Aside0 (-9223372036854775808 ≤ n ∧ n ≤ 9223372036854775807) := ⟨by omega, by omega⟩
    have AR : Aside0 (-9223372036854775808 ≤ a_ ∧ a_ ≤ 9223372036854775807) := ⟨by omega, by omega⟩
    have BR : Aside0 (-9223372036854775808 ≤ b_ ∧ b_ ≤ 9223372036854775807) := ⟨by omega, by omega⟩
    have HF : Aside0 (fmtAct k n a_ b_ = (actText k n a_ b_, true)) := ⟨by unfold fmtAct; rw [if_pos hok]⟩
    have KW : Aside0 (IntKind.i64.wrap (k - 1) = k - 1) := ⟨IntWalk.i64_in _ (by omega)⟩
    have K0 : Aside0 (¬ k < 1) := ⟨by omega⟩
    have K1 : Aside0 (k - 1 < 4) := ⟨by omega⟩
    have SZ1 : Aside0 ((actWord k).size + 1 ≤ 9223372036854775807) := ⟨by have := actWord_size k; omega⟩
    have SZ2 : Aside0 ((actWord k).size + sp.size + (itoaB n).size ≤ 9223372036854775807) := ⟨by have := actWord_size k; have := itoaB_size n NR.out.1 NR.out.2; rw [show sp.size = 1 from rfl]; omega⟩
    clear hok hk hn ha hb
    go_enter Tryd.func9, Tryd.ntmps9
    go_wp2_with (go_at_call 22; refine (impl_ActOk.calls k n a_ b_ true _ HO.out).mono ?_; rintro e w' ⟨rfl, hb'⟩; have HB := Aside0.mk (below_step (below_alloc (Below.refl _ _) _) hb'); have BK := Aside0.mk (blk_below BK0.out hb'); clear hb')
--<W3>
    refine start_ (n := 11) (S := fun w' => True) (ds := []) #[false, false, false, false, false, false, false, false, false, false, false] (by kernel_rfl) rfl rfl trivial (fun hHeld => ?_); refine with_tabW fmtAct3.tab fmtAct3.bits (fun HT_ HW_ => ?_)
    have S_BK := Aside0.mk (blk_drew BK.out)
    have S_HB := Aside0.mk (below_drew1 HB.out)
    generalize w'.drew = wS_ at S_BK S_HB ⊢
    refine inv_at [0, 1, 2, 3, 4, 5, 6, 7, 8, 9, 10] (fun a0_ b a w' =>  a = putSel a0_ b [(0, 8, .pointer (some ⟨w.heap.size, 0, none⟩)), (1, 9, .int .i64 k), (2, 10, .int .i64 (k - 1)), (3, 11, .pointer (some ⟨0, k.toNat - 1, none⟩)), (4, 12, .string (actWord k)), (5, 13, .string (actWord k ++ sp)), (6, 14, .pointer (some ⟨w.heap.size, 1, none⟩)), (7, 15, .int .i64 n), (8, 16, .string (itoaB n)), (9, 17, .string (actWord k ++ sp ++ itoaB n)), (10, 4, .string (actWord k ++ sp ++ itoaB n))] ∧ (w'.heap[w.heap.size]? = some (.cells #[.int .i64 k, .int .i64 n, .int .i64 a_, .int .i64 b_] 26 (0, 0))) ∧ (Below w.heap.size w w')) HT_.out HW_.out (by kernel_rfl) (by kernel_rfl) ?_ ?_ ?_
    · exact ⟨by simp only [putSel, Bool.false_eq_true, if_false], S_BK.out, S_HB.out⟩
    · clear S_BK S_HB
      refine steps_cons ?_ ?_
      · rintro b a w' ⟨ha, Q_BK, Q_HB⟩ hb_ hon hoff
        refine ⟨_, rfl, fun K hK => ?_⟩
        have e1 : a.tmps[1]? = some (.pointer (some ⟨w.heap.size, 0, none⟩)) := by rw [ha]; exact (putSel_off rfl).trans rfl
        replace ha := Aside0.mk ha
        have BK := Aside0.mk Q_BK
        have HB := Aside0.mk Q_HB
        refine value_ (w1 := w') (v := .pointer (some ⟨w.heap.size, 0, none⟩)) (by rfl) rfl ?_ ?_
        · go_simp
          (try simp only [i64_w])
          try rfl
        exact hK.out _ _ ⟨(by rw [ha.out]; exact putSel_upk 0 hb_ rfl rfl rfl), Q_BK, Q_HB⟩
      refine steps_cons ?_ ?_
      · rintro b a w' ⟨ha, Q_BK, Q_HB⟩ hb_ hon hoff
        refine ⟨_, rfl, fun K hK => ?_⟩
        have e8 : a.tmps[8]? = some (.pointer (some ⟨w.heap.size, 0, none⟩)) := by rw [ha]; exact putSel_on (e := (0, 8, .pointer (some ⟨w.heap.size, 0, none⟩))) 0 rfl rfl (hon 0 (by kernel_rfl)) rfl
        replace ha := Aside0.mk ha
        have BK := Aside0.mk Q_BK
        have HB := Aside0.mk Q_HB
        have hc0_ : w'.cell? ⟨w.heap.size, 0, none⟩ = some (.int .i64 k) := (blk_cell BK.out 0).trans rfl
        have hc1_ : w'.cell? ⟨w.heap.size, 1, none⟩ = some (.int .i64 n) := (blk_cell BK.out 1).trans rfl
        refine value_ (w1 := w') (v := .int .i64 k) (by rfl) rfl ?_ ?_
        · go_simp
          (try simp only [i64_w])
          try rfl
        exact hK.out _ _ ⟨(by rw [ha.out]; exact putSel_upk 1 hb_ rfl rfl rfl), Q_BK, Q_HB⟩
      refine steps_cons ?_ ?_
      · rintro b a w' ⟨ha, Q_BK, Q_HB⟩ hb_ hon hoff
        refine ⟨_, rfl, fun K hK => ?_⟩
        have e9 : a.tmps[9]? = some (.int .i64 k) := by rw [ha]; exact putSel_on (e := (1, 9, .int .i64 k)) 1 rfl rfl (hon 1 (by kernel_rfl)) rfl
        replace ha := Aside0.mk ha
        have BK := Aside0.mk Q_BK
        have HB := Aside0.mk Q_HB
        have hw_ := KW.out
        refine value_ (w1 := w') (v := .int .i64 (k - 1)) (by rfl) rfl ?_ ?_
        · go_simp
          (try simp only [i64_w])
          try rfl
        exact hK.out _ _ ⟨(by rw [ha.out]; exact putSel_upk 2 hb_ rfl rfl rfl), Q_BK, Q_HB⟩
      refine steps_cons ?_ ?_
      · rintro b a w' ⟨ha, Q_BK, Q_HB⟩ hb_ hon hoff
        refine ⟨_, rfl, fun K hK => ?_⟩
        have e10 : a.tmps[10]? = some (.int .i64 (k - 1)) := by rw [ha]; exact putSel_on (e := (2, 10, .int .i64 (k - 1))) 2 rfl rfl (hon 2 (by kernel_rfl)) rfl
        replace ha := Aside0.mk ha
        have BK := Aside0.mk Q_BK
        have HB := Aside0.mk Q_HB
        have q1_ := K0.out
        have q2_ := K1.out
        refine value_ (w1 := w') (v := .pointer (some ⟨0, k.toNat - 1, none⟩)) (by rfl) rfl ?_ ?_
        · go_simp
          (try simp only [i64_w])
          try rfl
        exact hK.out _ _ ⟨(by rw [ha.out]; exact putSel_upk 3 hb_ rfl rfl rfl), Q_BK, Q_HB⟩
      refine steps_cons ?_ ?_
      · rintro b a w' ⟨ha, Q_BK, Q_HB⟩ hb_ hon hoff
        refine ⟨_, rfl, fun K hK => ?_⟩
        have e11 : a.tmps[11]? = some (.pointer (some ⟨0, k.toNat - 1, none⟩)) := by rw [ha]; exact putSel_on (e := (3, 11, .pointer (some ⟨0, k.toNat - 1, none⟩))) 3 rfl rfl (hon 3 (by kernel_rfl)) rfl
        replace ha := Aside0.mk ha
        have BK := Aside0.mk Q_BK
        have HB := Aside0.mk Q_HB
        have hcw_ := word_cell (HW.out.below HB.out) KR.out.1 KR.out.2
        refine value_ (w1 := w') (v := .string (actWord k)) (by rfl) rfl ?_ ?_
        · go_simp
          (try simp only [i64_w])
          try rfl
        exact hK.out _ _ ⟨(by rw [ha.out]; exact putSel_upk 4 hb_ rfl rfl rfl), Q_BK, Q_HB⟩
      refine steps_cons ?_ ?_
      · rintro b a w' ⟨ha, Q_BK, Q_HB⟩ hb_ hon hoff
        refine ⟨_, rfl, fun K hK => ?_⟩
        have e12 : a.tmps[12]? = some (.string (actWord k)) := by rw [ha]; exact putSel_on (e := (4, 12, .string (actWord k))) 4 rfl rfl (hon 4 (by kernel_rfl)) rfl
        replace ha := Aside0.mk ha
        have BK := Aside0.mk Q_BK
        have HB := Aside0.mk Q_HB
        have z1 : (9223372036854775807 < (actWord k).size + 1) = False := eq_false (Nat.not_lt.2 SZ1.out)
        refine value_ (w1 := w') (v := .string (actWord k ++ sp)) (by rfl) rfl ?_ ?_
        · go_simp
          (try simp only [i64_w])
          try rfl
        exact hK.out _ _ ⟨(by rw [ha.out]; exact putSel_upk 5 hb_ rfl rfl rfl), Q_BK, Q_HB⟩
      refine steps_cons ?_ ?_
      · rintro b a w' ⟨ha, Q_BK, Q_HB⟩ hb_ hon hoff
        refine ⟨_, rfl, fun K hK => ?_⟩
        have e1 : a.tmps[1]? = some (.pointer (some ⟨w.heap.size, 0, none⟩)) := by rw [ha]; exact (putSel_off rfl).trans rfl
        replace ha := Aside0.mk ha
        have BK := Aside0.mk Q_BK
        have HB := Aside0.mk Q_HB
        refine value_ (w1 := w') (v := .pointer (some ⟨w.heap.size, 1, none⟩)) (by rfl) rfl ?_ ?_
        · go_simp
          (try simp only [i64_w])
          try rfl
        exact hK.out _ _ ⟨(by rw [ha.out]; exact putSel_upk 6 hb_ rfl rfl rfl), Q_BK, Q_HB⟩
      refine steps_cons ?_ ?_
      · rintro b a w' ⟨ha, Q_BK, Q_HB⟩ hb_ hon hoff
        refine ⟨_, rfl, fun K hK => ?_⟩
        have e14 : a.tmps[14]? = some (.pointer (some ⟨w.heap.size, 1, none⟩)) := by rw [ha]; exact putSel_on (e := (6, 14, .pointer (some ⟨w.heap.size, 1, none⟩))) 6 rfl rfl (hon 6 (by kernel_rfl)) rfl
        replace ha := Aside0.mk ha
        have BK := Aside0.mk Q_BK
        have HB := Aside0.mk Q_HB
        have hc0_ : w'.cell? ⟨w.heap.size, 0, none⟩ = some (.int .i64 k) := (blk_cell BK.out 0).trans rfl
        have hc1_ : w'.cell? ⟨w.heap.size, 1, none⟩ = some (.int .i64 n) := (blk_cell BK.out 1).trans rfl
        refine value_ (w1 := w') (v := .int .i64 n) (by rfl) rfl ?_ ?_
        · go_simp
          (try simp only [i64_w])
          try rfl
        exact hK.out _ _ ⟨(by rw [ha.out]; exact putSel_upk 7 hb_ rfl rfl rfl), Q_BK, Q_HB⟩
      refine steps_cons ?_ ?_
      · rintro b a w' ⟨ha, Q_BK, Q_HB⟩ hb_ hon hoff
        refine ⟨_, rfl, fun K hK => ?_⟩
        have e15 : a.tmps[15]? = some (.int .i64 n) := by rw [ha]; exact putSel_on (e := (7, 15, .int .i64 n)) 7 rfl rfl (hon 7 (by kernel_rfl)) rfl
        replace ha := Aside0.mk ha
        have BK := Aside0.mk Q_BK
        have HB := Aside0.mk Q_HB
        refine goes_ Tryd.func23 (by kernel_rfl) rfl #[.int .i64 n] (by rfl) rfl rfl (by first | (simp only [List.map_toArray, List.map_cons, List.map_nil, Act.eval, Array.getD_eq_getD_getElem?, Option.getD_some, e15]; done) | (simp only [List.map_toArray, List.map_cons, List.map_nil, Act.eval, Array.getD_eq_getD_getElem?, Option.getD_some, e15]; rfl)) ?_
        refine (FormatInt_calls n NR.out.1 NR.out.2 _ (HP.out.below HB.out)).mono ?_
        rintro e wN_ ⟨rfl, hb⟩
        refine ⟨_, rfl, ?_⟩
        exact hK.out _ _ ⟨(by rw [ha.out]; exact putSel_upk 8 hb_ rfl rfl rfl), blk_below BK.out hb, below_step HB.out hb⟩
      refine steps_cons ?_ ?_
      · rintro b a w' ⟨ha, Q_BK, Q_HB⟩ hb_ hon hoff
        refine ⟨_, rfl, fun K hK => ?_⟩
        have e13 : a.tmps[13]? = some (.string (actWord k ++ sp)) := by rw [ha]; exact putSel_on (e := (5, 13, .string (actWord k ++ sp))) 5 rfl rfl (hon 5 (by kernel_rfl)) rfl
        have e16 : a.tmps[16]? = some (.string (itoaB n)) := by rw [ha]; exact putSel_on (e := (8, 16, .string (itoaB n))) 8 rfl rfl (hon 8 (by kernel_rfl)) rfl
        replace ha := Aside0.mk ha
        have BK := Aside0.mk Q_BK
        have HB := Aside0.mk Q_HB
        have z2 : (actWord k).size + sp.size + (itoaB n).size ≤ 9223372036854775807 := SZ2.out
        refine value_ (w1 := w') (v := .string (actWord k ++ sp ++ itoaB n)) (by rfl) rfl ?_ ?_
        · go_simp
          (try simp only [i64_w])
          try rfl
        exact hK.out _ _ ⟨(by rw [ha.out]; exact putSel_upk 9 hb_ rfl rfl rfl), Q_BK, Q_HB⟩
      refine steps_cons ?_ ?_
      · rintro b a w' ⟨ha, Q_BK, Q_HB⟩ hb_ hon hoff
        refine ⟨_, rfl, fun K hK => ?_⟩
        have e17 : a.tmps[17]? = some (.string (actWord k ++ sp ++ itoaB n)) := by rw [ha]; exact putSel_on (e := (9, 17, .string (actWord k ++ sp ++ itoaB n))) 9 rfl rfl (hon 9 (by kernel_rfl)) rfl
        replace ha := Aside0.mk ha
        have BK := Aside0.mk Q_BK
        have HB := Aside0.mk Q_HB
        refine value_ (w1 := w') (v := .string (actWord k ++ sp ++ itoaB n)) (by rfl) rfl ?_ ?_
        · go_simp
          (try simp only [i64_w])
          try rfl
        exact hK.out _ _ ⟨(by rw [ha.out]; exact putSel_upk 10 hb_ rfl rfl rfl), Q_BK, Q_HB⟩
      exact steps_nil
    rintro b a wr3 hall ⟨ha, Q_BK, Q_HB⟩
    have hb0_ := hall 0 (by kernel_rfl)
    have hb1_ := hall 1 (by kernel_rfl)
    have hb2_ := hall 2 (by kernel_rfl)
    have hb3_ := hall 3 (by kernel_rfl)
    have hb4_ := hall 4 (by kernel_rfl)
    have hb5_ := hall 5 (by kernel_rfl)
    have hb6_ := hall 6 (by kernel_rfl)
    have hb7_ := hall 7 (by kernel_rfl)
    have hb8_ := hall 8 (by kernel_rfl)
    have hb9_ := hall 9 (by kernel_rfl)
    have hb10_ := hall 10 (by kernel_rfl)
    subst ha
    simp only [putSel, hb0_, hb1_, hb2_, hb3_, hb4_, hb5_, hb6_, hb7_, hb8_, hb9_, hb10_, if_true, Act.put, List.setIfInBounds_toArray, List.set_cons_zero, List.set_cons_succ]
    have BK := Aside0.mk Q_BK
    clear Q_BK
    have HB := Aside0.mk Q_HB
    clear Q_HB
    clear hall hb0_ hb1_ hb2_ hb3_ hb4_ hb5_ hb6_ hb7_ hb8_ hb9_ hb10_
--</W3>
    clear hHeld
    have hsa := itoaB_size a_ AR.out.1 AR.out.2
    have hsb := itoaB_size b_ BR.out.1 BR.out.2
    have hsn := itoaB_size n NR.out.1 NR.out.2
    have hsw := actWord_size k
    obtain ⟨T1, hT1⟩ : ∃ T1, actWord k ++ sp ++ itoaB n = T1 := ⟨_, rfl⟩
    have hz1 : T1.size ≤ 27 := by rw [← hT1, ByteArray.size_append, ByteArray.size_append, show sp.size = 1 from rfl]; omega
    have E1 : Aside0 (actText k n a_ b_ = if k = 1 then T1 ++ (sp ++ itoaB a_) ++ (sp ++ itoaB b_) else if k = 2 then T1 ++ (sp ++ itoaB a_) else T1) := ⟨by unfold actText; rw [hT1]⟩
    rw [hT1]
    clear hT1 SZ1 SZ2 hsn hsw K0 K1 KW HO
    have hk : k = 1 ∨ k = 2 ∨ k = 3 ∨ k = 4 := by have := KR.out; omega
    obtain ⟨W1, hW1⟩ : ∃ W1, actWord k = W1 := ⟨_, rfl⟩
    rw [hW1]
    clear hW1 hu
    have hu := Tryd.underlying26
    have hc0 : wr3.cell? ⟨w.heap.size, 0, none⟩ = some (.int .i64 k) := (blk_cell BK.out 0).trans rfl
    rcases hk with rfl | rfl | rfl | rfl
    · have hc2 : wr3.cell? ⟨w.heap.size, 2, none⟩ = some (.int .i64 a_) := (blk_cell BK.out 2).trans rfl
      go_wp2_with (fail)
      refine (FormatInt_calls a_ AR.out.1 AR.out.2 _ (HP.out.below HB.out)).mono ?_
      rintro e w4 ⟨rfl, hb4⟩
      have HB4 := Aside0.mk (below_step HB.out hb4)
      have BK4 := Aside0.mk (blk_below BK.out hb4)
      clear hc0 hc2 hb4 HB BK
      have hc0 : w4.cell? ⟨w.heap.size, 0, none⟩ = some (.int .i64 1) := (blk_cell BK4.out 0).trans rfl
      have hc3 : w4.cell? ⟨w.heap.size, 3, none⟩ = some (.int .i64 b_) := (blk_cell BK4.out 3).trans rfl
      have hs1 : 1 + (itoaB a_).size ≤ 9223372036854775807 := by omega
      have hs2 : T1.size + (1 + (itoaB a_).size) ≤ 9223372036854775807 := by omega
      have hs3 : 1 + (itoaB b_).size ≤ 9223372036854775807 := by omega
      have hs4 : T1.size + (1 + (itoaB a_).size) + (1 + (itoaB b_).size) ≤ 9223372036854775807 := by omega
      go_wp2_with (fail)
      refine (FormatInt_calls b_ BR.out.1 BR.out.2 _ (HP.out.below HB4.out)).mono ?_
      rintro e w5 ⟨rfl, hb5⟩
      have HB5 := Aside0.mk (below_step HB4.out hb5)
      clear hc0 hc3 hb5 HB4 BK4
      go_wp2
      go_ret2
      exact ⟨by rw [HF.out, E1.out]; rfl, HB5.out⟩
    · have hc2 : wr3.cell? ⟨w.heap.size, 2, none⟩ = some (.int .i64 a_) := (blk_cell BK.out 2).trans rfl
      go_wp2_with (fail)
      refine (FormatInt_calls a_ AR.out.1 AR.out.2 _ (HP.out.below HB.out)).mono ?_
      rintro e w4 ⟨rfl, hb4⟩
      have HB4 := Aside0.mk (below_step HB.out hb4)
      have BK4 := Aside0.mk (blk_below BK.out hb4)
      clear hc0 hc2 hb4 HB BK
      have hc0 : w4.cell? ⟨w.heap.size, 0, none⟩ = some (.int .i64 2) := (blk_cell BK4.out 0).trans rfl
      have hs1 : 1 + (itoaB a_).size ≤ 9223372036854775807 := by omega
      have hs2 : T1.size + (1 + (itoaB a_).size) ≤ 9223372036854775807 := by omega
      go_wp2
      go_ret2
      exact ⟨by rw [HF.out, E1.out]; rfl, HB4.out⟩
    · go_wp2
      go_ret2
      exact ⟨by rw [HF.out, E1.out]; rfl, HB.out⟩
    · go_wp2
      go_ret2
      exact ⟨by rw [HF.out, E1.out]; rfl, HB.out⟩
end Go.Proofs.YtbmebmhdkpmclaaDoor.P
