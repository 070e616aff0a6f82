import Derived.Test.YtbmebmhdkpmclaaDoorFParseU
import Derived.Test.YtbmebmhdkpmclaaDoorFRow
import Derived.Test.YtbmebmhdkpmclaaDoorPf30
namespace Go.Proofs.YtbmebmhdkpmclaaDoor.P
open Go.RowKit Go.Proofs.YtbmebmhdkpmclaaDoorW.PrintWords Go.Proofs.YtbmebmhdkpmclaaDoorW.PrintLast Go.Proofs.YtbmebmhdkpmclaaDoorW.PrintMore
set_option linter.unusedVariables false
set_option linter.unusedSimpArgs false
theorem join_calls (g c : Nat) (xs : List ByteArray) (w : World) (h : Kd.C Kd.string w (some ⟨g, 0, none⟩) xs.length xs) (hg : g < w.heap.size) (hc : xs.length ≤ c) (hn : xs.length ≤ 1000) (hl : (Lib.join (xs.map (·.data.toList)) [32]).length ≤ 140737488355328) :
    Calls Tryd.prog 31 #[.slice (some ⟨g, 0, none⟩) xs.length c, .string ⟨#[32]⟩] w fun e w' => e = .returned (.string (tx (Lib.join (xs.map (·.data.toList)) [32]))) ∧ Below w.heap.size w w' := by
  refine Tryd.strings_Join g 0 c xs ⟨#[32]⟩ w (fun j x hj => ?_) hg (by omega) hc hl
  have hlt : j < xs.length := (List.getElem?_eq_some_iff.1 hj).1
  obtain ⟨ad, e, hx⟩ := Kd.at_string h (j : Int) (by omega) (by omega)
  cases e
  rw [Int.toNat_natCast, add_plain] at hx
  rw [Nat.zero_add, hx]
  congr 2
  unfold rdOf
  rw [Int.toNat_natCast, List.getD_eq_getElem?_getD, hj]
  rfl
theorem fields_mem_len : ∀ (l cur : List UInt8), ∀ x ∈ Lib.fieldsGo cur l, x.length ≤ cur.length + l.length := by
  intro l
  induction l with
  | nil =>
    intro cur x hx
    unfold Lib.fieldsGo at hx
    split at hx
    · simp at hx
    · rw [List.mem_singleton] at hx; subst hx; simp
  | cons b r ih =>
    intro cur x hx
    cases hs : Lib.isSp b with
    | true =>
      by_cases hc : cur = []
      · subst hc
        rw [Lib.fieldsGo_sp _ _ hs] at hx
        have := ih [] x hx
        simp at this ⊢
        omega
      · rw [Lib.fieldsGo_end _ _ _ hs hc] at hx
        rcases List.mem_cons.mp hx with rfl | hx
        · simp
        · have := ih [] x hx
          simp at this ⊢
          omega
    | false =>
      rw [Lib.fieldsGo_more _ _ _ hs] at hx
      have := ih (cur ++ [b]) x hx
      simp at this ⊢
      omega
theorem split_mem_size {s : ByteArray} {fs : List ByteArray} (h : splitF s = (fs, true)) : ∀ x ∈ fs, x.size ≤ 600 := by
  unfold splitF at h
  split at h
  · rename_i hc
    obtain rfl : wordsOf s = fs := (Prod.mk.inj h).1
    intro x hx
    unfold wordsOf at hx
    obtain ⟨l, hl, rfl⟩ := List.mem_map.mp hx
    have := fields_mem_len _ _ l hl
    rw [tx_size]
    have h2 : s.data.toList.length = s.size := Array.length_toList
    simp at this
    have := hc.1
    omega
  · cases (Prod.mk.inj h).2
def numAt (fs : List ByteArray) (j : Nat) : Int := if j + 1 < fs.length then (parseU (rdOf ByteArray.empty fs ((j : Int) + 1))).1 else 0
def upTo (fs : List ByteArray) (i j : Nat) : Int := if j < i then numAt fs j else 0
def kindOf (x : ByteArray) : Int := if x = ⟨#[119, 114, 105, 116, 101]⟩ then 1 else if x = ⟨#[114, 101, 97, 100]⟩ then 2 else if x = ⟨#[99, 117, 116]⟩ then 3 else if x = ⟨#[111, 112, 101, 110]⟩ then 4 else 0
def joinB (fs : List ByteArray) : ByteArray := tx (Lib.join (fs.map (·.data.toList)) [32])
def parseA (s : ByteArray) : (Int × Int × Int × Int) × Bool :=
  if (splitF s).2 = true ∧ 2 ≤ (splitF s).1.length ∧ (splitF s).1.length ≤ 4 then
    (if fmtAct (kindOf (rdOf ByteArray.empty (splitF s).1 0)) (numAt (splitF s).1 0) (numAt (splitF s).1 1) (numAt (splitF s).1 2) = (joinB (splitF s).1, true) then ((kindOf (rdOf ByteArray.empty (splitF s).1 0), numAt (splitF s).1 0, numAt (splitF s).1 1, numAt (splitF s).1 2), true) else ((0, 0, 0, 0), false))
  else ((0, 0, 0, 0), false)
theorem cutF_ {P : Program} {α : Type} (k : Kd α) (t e : TypeId) {i : TypeInfo} (ht : P.underlying t = some (.slice e)) (hi : P.info? e = some i) (hs : i.size = k.sz) (A : Option Addr) (c : Nat) (l : List α) (m : Nat) (hm : m ≤ l.length) (hc : l.length ≤ c) :
    ∃ A' : Option Addr, (∀ W : World, (Instr.slice t (.slice A l.length c) (some (.int .i64 (m : Int))) none none).run P W = .ok (.slice A' (l.drop m).length (c - m)) W) ∧ ∀ W, Kd.C k W A l.length l → Kd.C k W A' (l.drop m).length (l.drop m) := by
  refine ⟨if c = m then A else A.map (·.add (m * k.sz)), fun W => ?_, fun W h => Kd.C_drop h hm hc⟩
  have h := cut_from t e .i64 ht hi k.sz hs A l.length c (m : Int) (by omega) (by omega) W
  rw [Int.toNat_natCast] at h
  rw [h, List.length_drop]
/-- The four cells of a result, set anew. -/
theorem put4 {w : World} {g t : Nat} {c0 c1 c2 c3 : Value} (h : w.heap[g]? = some (.cells #[c0, c1, c2, c3] t (0, 0))) (v0 v1 v2 v3 : Value) :
    ((((w.setCell ⟨g, 0, none⟩ v0).setCell ⟨g, 1, none⟩ v1).setCell ⟨g, 2, none⟩ v2).setCell ⟨g, 3, none⟩ v3).heap[g]? = some (.cells #[v0, v1, v2, v3] t (0, 0)) := by
  refine blk_put (cs := #[v0, v1, v2, c3]) ?_ 3 _ rfl
  refine blk_put (cs := #[v0, v1, c2, c3]) ?_ 2 _ rfl
  refine blk_put (cs := #[v0, c1, c2, c3]) ?_ 1 _ rfl
  exact blk_put (cs := #[c0, c1, c2, c3]) h 0 _ rfl
theorem below4 {w W : World} {g : Nat} (h : Below w.heap.size w W) (hg : w.heap.size ≤ g) (v0 v1 v2 v3 : Value) : Below w.heap.size w ((((W.setCell ⟨g, 0, none⟩ v0).setCell ⟨g, 1, none⟩ v1).setCell ⟨g, 2, none⟩ v2).setCell ⟨g, 3, none⟩ v3) :=
  below_set (below_set (below_set (below_set h hg) hg) hg) hg
theorem lens_le {m : Nat} : ∀ l : List (List UInt8), (∀ x ∈ l, x.length ≤ m) → Lib.lens l ≤ m * l.length := by
  intro l
  induction l with
  | nil => intro _; simp [Lib.lens]
  | cons a r ih =>
    intro h
    have h1 := h a List.mem_cons_self
    have h2 := ih (fun x hx => h x (List.mem_cons_of_mem _ hx))
    have e : Lib.lens (a :: r) = a.length + Lib.lens r := by simp [Lib.lens]
    rw [e, List.length_cons, Nat.mul_add]; omega
theorem joinB_len {fs : List ByteArray} (h : ∀ x ∈ fs, x.size ≤ 600) (hl : fs.length ≤ 4) : (Lib.join (fs.map (·.data.toList)) [32]).length ≤ 3000 := by
  cases fs with
  | nil => simp [Lib.join_nil]
  | cons a r =>
    rw [List.map_cons, Lib.join_length]
    have h2 := lens_le (m := 600) ((a :: r).map (·.data.toList)) (fun x hx => by
      obtain ⟨y, hy, rfl⟩ := List.mem_map.mp hx
      rw [Array.length_toList]; exact h y hy)
    rw [List.map_cons] at h2
    simp only [List.length_cons, List.length_map, List.length_nil] at h2 hl ⊢
    omega
def wordsL : List ByteArray := [⟨#[119, 114, 105, 116, 101]⟩, ⟨#[114, 101, 97, 100]⟩, ⟨#[99, 117, 116]⟩, ⟨#[111, 112, 101, 110]⟩]
theorem words_C {w : World} (h : WordsIs w) : Kd.C Kd.string w (some ⟨0, 0, none⟩) wordsL.length wordsL := by
  refine Kd.C_of_reads (d := ByteArray.empty) ⟨rfl, by decide, fun _ => ⟨_, rfl, fun j hj => ?_⟩⟩
  have hj4 : j < 4 := hj
  rw [add_plain]
  try rw [Nat.zero_add]
  rw [World.var?_cell (show Tryd.prog.globalNamed "loop.example/g00986/impl.actWords" = some 0 by kernel_rfl) h]
  have : j = 0 ∨ j = 1 ∨ j = 2 ∨ j = 3 := by omega
  rcases this with rfl | rfl | rfl | rfl <;> rfl
theorem text_iff {a b : ByteArray} : a.toList = b.toList ↔ a = b := ⟨text_inj, fun h => by rw [h]⟩
theorem index_words (x : ByteArray) : slices_Index_string_string.f 6 wordsL x = some (kindOf x - 1) := by
  have r0 : rdOf ByteArray.empty wordsL 0 = ⟨#[119, 114, 105, 116, 101]⟩ := rfl
  have r1 : rdOf ByteArray.empty wordsL 1 = ⟨#[114, 101, 97, 100]⟩ := rfl
  have r2 : rdOf ByteArray.empty wordsL 2 = ⟨#[99, 117, 116]⟩ := rfl
  have r3 : rdOf ByteArray.empty wordsL 3 = ⟨#[111, 112, 101, 110]⟩ := rfl
  have hl : (wordsL.length : Int) = 4 := rfl
  have w1 : wrap64 (0 + 1) = 1 := by unfold wrap64; omega
  have w2 : wrap64 (1 + 1) = 2 := by unfold wrap64; omega
  have w3 : wrap64 (2 + 1) = 3 := by unfold wrap64; omega
  have w4 : wrap64 (3 + 1) = 4 := by unfold wrap64; omega
  unfold slices_Index_string_string.f kindOf
  rw [hl]
  simp only [slices_Index_string_string.l0, hl, w1, w2, w3, w4, r0, r1, r2, r3, text_iff, show ((0 : Int) < 4) = True from by simp, show ((1 : Int) < 4) = True from by simp, show ((2 : Int) < 4) = True from by simp, show ((3 : Int) < 4) = True from by simp, show ((4 : Int) < 4) = False from by simp, show ((0 : Int) ≤ 0) = True from by simp, show ((0 : Int) ≤ 1) = True from by simp, show ((0 : Int) ≤ 2) = True from by simp, show ((0 : Int) ≤ 3) = True from by simp, if_true, if_false]
  by_cases a0 : x = ⟨#[119, 114, 105, 116, 101]⟩
  · rw [if_pos a0, if_pos a0]; rfl
  rw [if_neg a0, if_neg a0]
  by_cases a1 : x = ⟨#[114, 101, 97, 100]⟩
  · rw [if_pos a1, if_pos a1]; rfl
  rw [if_neg a1, if_neg a1]
  by_cases a2 : x = ⟨#[99, 117, 116]⟩
  · rw [if_pos a2, if_pos a2]; rfl
  rw [if_neg a2, if_neg a2]
  by_cases a3 : x = ⟨#[111, 112, 101, 110]⟩
  · rw [if_pos a3, if_pos a3]; rfl
  rw [if_neg a3, if_neg a3]; rfl
theorem kindOf_range (x : ByteArray) : 0 ≤ kindOf x ∧ kindOf x ≤ 4 := by unfold kindOf; split <;> (try split) <;> (try split) <;> (try split) <;> omega
theorem head_cell {w W : World} {g : Nat} {fs : List ByteArray} {X : ByteArray} (h : Kd.C Kd.string w (some ⟨g, 0, none⟩) fs.length fs) (hb : Below w.heap.size w W) (hp : 0 < fs.length) (hx : rdOf ByteArray.empty fs 0 = X) : W.cell? ⟨g, 0, none⟩ = some (.string X) := by
  obtain ⟨ad, e, hc⟩ := Kd.at_string (Kd.C_below h hb) (0 : Int) (by omega) (by omega)
  cases e
  rw [hx] at hc
  exact hc
/-- The memory inside region 10: the act's block is made by operation 13 and filled by operation 14. -/
def M10 (wr : World) (vs : Array Value) (b : Nat → Bool) (w' : World) : Prop :=
  Below wr.heap.size wr w' ∧ (b 13 = false → w'.heap.size = wr.heap.size) ∧ (b 13 = true → w'.heap[wr.heap.size]? = some (.cells (if b 14 = true then vs else #[.int .i64 0, .int .i64 0, .int .i64 0, .int .i64 0]) 26 (0, 0)))
theorem M10.start (wr : World) (vs : Array Value) : M10 wr vs (fun _ => false) wr.drew := ⟨below_drew1 (Below.refl _ _), fun _ => rfl, (fun h => by cases h)⟩
theorem M10.same {wr w' : World} {vs : Array Value} {b : Nat → Bool} {i : Nat} (h : M10 wr vs b w') (h3 : 13 ≠ i) (h4 : 14 ≠ i) : M10 wr vs (up b i) w' := by
  unfold M10
  rw [up_ne h3, up_ne h4]
  exact h
theorem M10.drawn {wr w' w2 : World} {vs : Array Value} {b : Nat → Bool} (h : M10 wr vs b w') (hd : Drawn0 w' w2) : M10 wr vs (up b 4) w2 := by
  obtain ⟨n, rfl⟩ := hd.out
  have h2 := M10.same (i := 4) h (by decide) (by decide)
  exact ⟨pw_below_drewN h2.1 n, h2.2.1, h2.2.2⟩
theorem M10.alloc {wr w' : World} {vs : Array Value} {b : Nat → Bool} (h : M10 wr vs b w') (h3 : b 13 = false) (h4 : b 14 = false) : M10 wr vs (up b 13) (w'.alloc (.cells #[.int .i64 0, .int .i64 0, .int .i64 0, .int .i64 0] 26)) := by
  refine ⟨below_alloc h.1 _, (fun h5 => by rw [up_self] at h5; cases h5), fun _ => ?_⟩
  rw [up_ne (by decide : (14 : Nat) ≠ 13), h4, ← h.2.1 h3]
  exact heap_alloc_new _ _
theorem M10.blk {wr w' : World} {vs : Array Value} {b : Nat → Bool} (h : M10 wr vs b w') (h3 : b 13 = true) (h4 : b 14 = false) : w'.heap[wr.heap.size]? = some (.cells #[.int .i64 0, .int .i64 0, .int .i64 0, .int .i64 0] 26 (0, 0)) := by
  have := h.2.2 h3
  rw [h4] at this
  exact this
theorem M10.store {wr w' : World} {v0 v1 v2 v3 : Value} {b : Nat → Bool} (h : M10 wr #[v0, v1, v2, v3] b w') (h3 : b 13 = true) (h4 : b 14 = false) : M10 wr #[v0, v1, v2, v3] (up b 14) ((((w'.setCell ⟨wr.heap.size, 0, none⟩ v0).setCell ⟨wr.heap.size, 1, none⟩ v1).setCell ⟨wr.heap.size, 2, none⟩ v2).setCell ⟨wr.heap.size, 3, none⟩ v3) := by
  refine ⟨below4 h.1 (Nat.le_refl _) _ _ _ _, (fun h5 => by rw [up_ne (by decide), h3] at h5; cases h5), fun _ => ?_⟩
  rw [up_self]
  exact put4 (h.blk h3 h4) _ _ _ _
theorem M10.fin {wr w' : World} {vs : Array Value} {b : Nat → Bool} (h : M10 wr vs b w') (h3 : b 13 = true) (h4 : b 14 = true) : Below wr.heap.size wr w' ∧ w'.heap[wr.heap.size]? = some (.cells vs 26 (0, 0)) := by
  have := h.2.2 h3
  rw [h4] at this
  exact ⟨h.1, this⟩
--<T10>
def parse10.T : Bool × List (List Nat × List Nat) := (true, [([], []), ([], []), ([1], [1]), ([2], [2]), ([0, 3], [0, 3]), ([4], [4]), ([], []), ([6], [6]), ([], []), ([8], [8]), ([], []), ([10], [10]), ([5, 7, 9, 11], [5, 7, 9, 11]), ([], []), ([13, 12, 4, 0, 1, 2, 3, 4, 5, 6, 7, 8, 9, 10, 11, 12, 13], [12, 13])])
def parse10.B : List Nat := [0, 0, 2, 6, 15, 31, 0, 64, 0, 256, 0, 1024, 4095, 0, 16383]
theorem parse10.tab : rtab .any (opsOf Tryd.f16 10) = parse10.T := by kernel_rfl
theorem parse10.bits : waitsOk parse10.T.2 parse10.B = true := by kernel_rfl
--</T10>
set_option maxHeartbeats 4000000 in
set_option maxRecDepth 100000 in
theorem ParseAct_calls (s : ByteArray) (w : World) (hs : SpaceIs w) (hw : WordsIs w) (he : ErrsIs w) (hp : PowIs w) :
    Calls Tryd.prog 16 #[.string s] w fun e w' => e = .returned (.tuple #[.agg #[.int .i64 (parseA s).1.1, .int .i64 (parseA s).1.2.1, .int .i64 (parseA s).1.2.2.1, .int .i64 (parseA s).1.2.2.2], .bool (parseA s).2]) ∧ Below w.heap.size w w' := by
  have hu := Tryd.underlying26
  have HT := Aside0.mk hs
  have HW := Aside0.mk hw
  have HE := Aside0.mk he
  have HP := Aside0.mk hp
  clear hs hw he hp
  have BK0 := Aside0.mk (heap_alloc_new w (.cells #[.int .i64 0, .int .i64 0, .int .i64 0, .int .i64 0] 26))
  have HB0 := Aside0.mk (below_alloc (Below.refl w.heap.size w) (.cells #[.int .i64 0, .int .i64 0, .int .i64 0, .int .i64 0] 26))
  go_enter Tryd.func16, Tryd.ntmps16
  go_wp2_with (fail)
  refine (SplitFields_calls s _ (HT.out.below HB0.out)).mono ?_
  rintro e w1 ⟨v0, rfl, r0, b⟩
  have HB1 := Aside0.mk (below_step HB0.out b)
  have BK1 := Aside0.mk (blk_below BK0.out b)
  have HR1 := Aside0.mk r0
  clear b r0
  obtain ⟨fs, ok, hfs⟩ : ∃ fs ok, splitF s = (fs, ok) := ⟨_, _, rfl⟩
  rw [hfs] at HR1 ⊢
  have HFS := Aside0.mk hfs
  clear hfs
  cases ok with
  | false =>
    have HS : Aside0 (parseA s = ((0, 0, 0, 0), false)) := ⟨by unfold parseA; rw [HFS.out]; rw [if_neg (fun h => by cases h.1)]⟩
    have hc0 : w1.cell? ⟨w.heap.size, 0, none⟩ = some (.int .i64 0) := (blk_cell BK1.out 0).trans rfl
    have hc1 : w1.cell? ⟨w.heap.size, 1, none⟩ = some (.int .i64 0) := (blk_cell BK1.out 1).trans rfl
    have hc2 : w1.cell? ⟨w.heap.size, 2, none⟩ = some (.int .i64 0) := (blk_cell BK1.out 2).trans rfl
    have hc3 : w1.cell? ⟨w.heap.size, 3, none⟩ = some (.int .i64 0) := (blk_cell BK1.out 3).trans rfl
    have hf0 := blk_frozen BK1.out 0
    have hf1 := blk_frozen BK1.out 1
    have hf2 := blk_frozen BK1.out 2
    have hf3 := blk_frozen BK1.out 3
    go_wp2
    refine bodyPost_ret (results_ct rfl _ _ w.heap.size 26 #[.int .i64 0, .int .i64 0, .int .i64 0, .int .i64 0] (0, 0) _ rfl (put4 BK1.out _ _ _ _) Tryd.underlying26 rfl (by kernel_rfl)) rfl ?_
    exact ⟨by rw [HS.out]; rfl, below4 HB1.out (Nat.le_refl _) _ _ _ _⟩
  | true =>
    obtain ⟨A, c, rfl, hc, hC⟩ := Kd.R_reads HR1.out
    cases hin : inR (fs.length : Int) 2 4 with
    | false =>
      have HS : Aside0 (parseA s = ((0, 0, 0, 0), false)) := ⟨by
        unfold parseA
        rw [HFS.out]
        rw [if_neg (fun h => by
          have h2 : 2 ≤ fs.length := h.2.1
          have h3 : fs.length ≤ 4 := h.2.2
          exact inR_not hin (by omega))]⟩
      have HI := Aside0.mk hin
      have hc0 : w1.cell? ⟨w.heap.size, 0, none⟩ = some (.int .i64 0) := (blk_cell BK1.out 0).trans rfl
      have hc1 : w1.cell? ⟨w.heap.size, 1, none⟩ = some (.int .i64 0) := (blk_cell BK1.out 1).trans rfl
      have hc2 : w1.cell? ⟨w.heap.size, 2, none⟩ = some (.int .i64 0) := (blk_cell BK1.out 2).trans rfl
      have hc3 : w1.cell? ⟨w.heap.size, 3, none⟩ = some (.int .i64 0) := (blk_cell BK1.out 3).trans rfl
      have hf0 := blk_frozen BK1.out 0
      have hf1 := blk_frozen BK1.out 1
      have hf2 := blk_frozen BK1.out 2
      have hf3 := blk_frozen BK1.out 3
      clear hin hC hc
      go_wp2_with (fail)
      refine (within_calls (fs.length : Int) 2 4 _).mono ?_
      rw [HI.out]
      rintro e w2 ⟨rfl, rfl⟩
      go_wp2
      refine bodyPost_ret (results_ct rfl _ _ w.heap.size 26 #[.int .i64 0, .int .i64 0, .int .i64 0, .int .i64 0] (0, 0) _ rfl (put4 BK1.out _ _ _ _) Tryd.underlying26 rfl (by kernel_rfl)) rfl ?_
      exact ⟨by rw [HS.out]; rfl, below4 HB1.out (Nat.le_refl _) _ _ _ _⟩
    | true =>
      have hr := inR_iff.mp hin
      have HI := Aside0.mk hin
      have hp0 : 0 < fs.length := by omega
      obtain ⟨g, c', hv, hg0, hg1⟩ := R_open (enc := Value.string) (h1 := fun _ => rfl) HR1.out hp0
      obtain ⟨rfl, rfl⟩ : A = some ⟨g, 0, none⟩ ∧ c' = c := by injection hv with x1 x2 x3; exact ⟨x1, x3.symm⟩
      clear hv hp0
      have HG := Aside0.mk (And.intro hg0 hg1)
      have HC1 := Aside0.mk hC
      have HCC := Aside0.mk hc
      obtain ⟨i9, hi9, hs9⟩ : ∃ i, Tryd.prog.info? 9 = some i ∧ i.size = 1 := by
        have h := info9
        cases h' : Tryd.prog.info? 9 with
        | none => rw [h'] at h; cases h
        | some i => rw [h'] at h; simp at h; exact ⟨i, rfl, h.2.1⟩
      obtain ⟨A1, hcut, hC1⟩ := cutF_ Kd.string 54 9 Tryd.underlying54 hi9 hs9 (some ⟨g, 0, none⟩) _ fs 1 (by omega) hc
      have hl1 : (fs.drop 1).length = fs.length - 1 := List.length_drop
      rw [hl1, show ((1 : Nat) : Int) = 1 from rfl] at hcut
      clear hin hC hc hg0 hg1 hi9 hs9
      go_wp2_with (fail)
      refine (within_calls (fs.length : Int) 2 4 _).mono ?_
      rw [HI.out]
      rintro e w2 ⟨rfl, rfl⟩
      have hL3 : fs.length ≤ 4 := by omega
      have HC2 := Aside0.mk (hC1 w1 HC1.out)
      clear hC1
      go_wp2
      go_loopg [30] 5 (fun gg v30 wr => ∃ i : Nat, i ≤ fs.length - 1 ∧ fs.length - 1 - i < gg ∧ v30 = .int .i64 i ∧ Aside0 (Below w1.heap.size w1 wr) ∧ Aside0 (wr.heap[w1.heap.size]? = some (.cells #[.int .i64 (upTo fs i 0), .int .i64 (upTo fs i 1), .int .i64 (upTo fs i 2)] 62 (0, 0))))
      case atStart => exact ⟨0, Nat.zero_le _, by omega, rfl, ⟨below_alloc (Below.refl _ _) _⟩, ⟨heap_alloc_new _ _⟩⟩
      case round =>
        obtain ⟨i, hi, hg, rfl, HB, HX⟩ := hrel
        by_cases hlt : i < fs.length - 1
        · have hltz : (i : Int) < ((fs.length - 1 : Nat) : Int) := by omega
          obtain ⟨ad, e1, hx⟩ := Kd.at_string (Kd.C_below HC2.out HB.out) (i : Int) (by omega) (by rw [hl1]; omega)
          cases e1
          rw [Int.toNat_natCast] at hx
          have hel : rdOf ByteArray.empty (fs.drop 1) (i : Int) = rdOf ByteArray.empty fs ((i : Int) + 1) := by
            unfold rdOf
            rw [show ((i : Int) + 1).toNat = i + 1 by omega, Int.toNat_natCast, List.getD_eq_getElem?_getD, List.getD_eq_getElem?_getD, List.getElem?_drop, Nat.add_comm]
          obtain ⟨x, hxe⟩ : ∃ x, rdOf ByteArray.empty fs ((i : Int) + 1) = x := ⟨_, rfl⟩
          rw [hel, hxe] at hx
          have hmem : x ∈ fs := by
            rw [← hxe]
            unfold rdOf
            rw [show ((i : Int) + 1).toNat = i + 1 by omega, List.getD_eq_getElem?_getD, List.getElem?_eq_getElem (by omega)]
            exact List.getElem_mem _
          have hsz := split_mem_size HFS.out x hmem
          have HBW := Aside0.mk (below_step HB1.out HB.out)
          have HPU := Aside0.mk (ParseUint_calls x (by omega) wr (HE.out.below HBW.out) (HP.out.below HBW.out))
          have hnum : numAt fs i = (parseU x).1 := by unfold numAt; rw [if_pos (by omega), hxe]
          have HN := Aside0.mk hnum
          clear hel hmem hsz hnum hxe
          go_wp2_with (fail)
          refine HPU.out.mono ?_
          rintro e w3 ⟨rfl, b3⟩
          have HB3 := Aside0.mk (below_step HB.out b3)
          have HX3 := Aside0.mk (blk_below HX.out b3)
          clear b3 hx
          have hi3 : (i : Int) < 3 := by omega
          have hi0 : (0 : Int) ≤ (i : Int) := by omega
          have hf := blk_frozen HX3.out i
          obtain ⟨vo, hvo⟩ : ∃ vo, w3.cell? ⟨w1.heap.size, i, none⟩ = some vo := by
            have h3 : i = 0 ∨ i = 1 ∨ i = 2 := by omega
            rcases h3 with rfl | rfl | rfl
            · exact ⟨_, (blk_cell HX3.out 0).trans rfl⟩
            · exact ⟨_, (blk_cell HX3.out 1).trans rfl⟩
            · exact ⟨_, (blk_cell HX3.out 2).trans rfl⟩
          go_wp2
          go_roundg (fs.length - 1 - i)
          case measure => omega
          case rel =>
            refine ⟨i + 1, by omega, by omega, by go_num, ⟨below_set HB3.out (Nat.le_refl _)⟩, ⟨?_⟩⟩
            have h3 : i = 0 ∨ i = 1 ∨ i = 2 := by omega
            have hnn := HN.out
            rcases h3 with rfl | rfl | rfl
            · exact (blk_put HX3.out 0 _ rfl).trans (by simp [upTo, hnn])
            · exact (blk_put HX3.out 1 _ rfl).trans (by simp [upTo, hnn])
            · exact (blk_put HX3.out 2 _ rfl).trans (by simp [upTo, hnn])
        · have hltz : ¬ (i : Int) < ((fs.length - 1 : Nat) : Int) := by omega
          obtain rfl : i = fs.length - 1 := by omega
          have hup : ∀ j, upTo fs (fs.length - 1) j = numAt fs j := by
            intro j
            unfold upTo
            by_cases h : j < fs.length - 1
            · rw [if_pos h]
            · rw [if_neg h]; unfold numAt; rw [if_neg (by omega)]
          rw [hup, hup, hup] at HX
          obtain ⟨N0, hN0⟩ : ∃ N0, numAt fs 0 = N0 := ⟨_, rfl⟩
          obtain ⟨N1, hN1⟩ : ∃ N1, numAt fs 1 = N1 := ⟨_, rfl⟩
          obtain ⟨N2, hN2⟩ : ∃ N2, numAt fs 2 = N2 := ⟨_, rfl⟩
          rw [hN0, hN1, hN2] at HX
          obtain ⟨X, hX⟩ : ∃ X, rdOf ByteArray.empty fs 0 = X := ⟨_, rfl⟩
          obtain ⟨kk, hkk⟩ : ∃ kk, kindOf X = kk := ⟨_, rfl⟩
          have hkr := kindOf_range X
          rw [hkk] at hkr
          have HS : Aside0 (parseA s = if fmtAct kk N0 N1 N2 = (joinB fs, true) then ((kk, N0, N1, N2), true) else ((0, 0, 0, 0), false)) := ⟨by
            unfold parseA
            rw [HFS.out]
            rw [if_pos ⟨rfl, by show 2 ≤ fs.length; omega, by show fs.length ≤ 4; omega⟩]
            show (if fmtAct (kindOf (rdOf ByteArray.empty fs 0)) (numAt fs 0) (numAt fs 1) (numAt fs 2) = (joinB fs, true) then ((kindOf (rdOf ByteArray.empty fs 0), numAt fs 0, numAt fs 1, numAt fs 2), true) else ((0, 0, 0, 0), false)) = _
            rw [hX, hkk, hN0, hN1, hN2]⟩
          have HXE := Aside0.mk hX
          have HP0 : Aside0 (0 < fs.length) := ⟨by omega⟩
          have HIX : Aside0 (slices_Index_string_string.f 6 wordsL X = some (kk - 1)) := ⟨by rw [index_words, hkk]⟩
          have HKW : Aside0 (IntKind.i64.wrap (1 + (kk - 1)) = kk) := ⟨by rw [IntWalk.i64_in _ (by omega)]; omega⟩
          clear hN0 hN1 hN2 hX hkk hup
          go_wp2_with (fail)
--<W10>
          refine start_ (n := 15) (S := fun w' => True) (ds := []) #[false, false, false, false, false, false, false, false, false, false, false, false, false, false, false] (by kernel_rfl) rfl rfl trivial (fun hHeld => ?_); refine with_tabW parse10.tab parse10.bits (fun HT_ HW_ => ?_)
          have S_M := Aside0.mk (M10.start wr #[.int .i64 kk, .int .i64 N0, .int .i64 N1, .int .i64 N2])
          generalize wr.drew = wS_ at S_M ⊢
          refine inv_at [0, 1, 2, 3, 4, 5, 6, 7, 8, 9, 10, 11, 12, 13, 14] (fun a0_ b a w' => a = putSel a0_ b [(0, 43, .slice (some ⟨0, 0, none⟩) 4 4), (1, 44, .slice (some ⟨g, 0, none⟩) fs.length c'), (2, 45, .pointer (some ⟨g, 0, none⟩)), (3, 46, .string X), (4, 47, .int .i64 (kk - 1)), (5, 48, .int .i64 kk), (6, 49, .pointer (some ⟨w1.heap.size, 0, none⟩)), (7, 50, .int .i64 (N0)), (8, 51, .pointer (some ⟨w1.heap.size, 1, none⟩)), (9, 52, .int .i64 (N1)), (10, 53, .pointer (some ⟨w1.heap.size, 2, none⟩)), (11, 54, .int .i64 (N2)), (12, 55, .agg #[.int .i64 kk, .int .i64 N0, .int .i64 N1, .int .i64 N2]), (13, 9, .pointer (some ⟨wr.heap.size, 0, none⟩))] ∧ (M10 wr #[.int .i64 kk, .int .i64 N0, .int .i64 N1, .int .i64 N2] b w')) HT_.out HW_.out (by kernel_rfl) (by kernel_rfl) ?_ ?_ ?_
          · exact ⟨by simp only [putSel, Bool.false_eq_true, if_false], S_M.out⟩
          · clear S_M
            refine steps_cons ?_ ?_
            · rintro b a w' ⟨ha, Q_M⟩ hb_ hon hoff
              refine ⟨_, rfl, fun K hK => ?_⟩
              replace ha := Aside0.mk ha
              have M := Aside0.mk Q_M
              refine value_ (w1 := w') (v := .slice (some ⟨0, 0, none⟩) 4 4) (by rfl) rfl ?_ ?_
              · go_simp
                (try simp only [i64_w])
                try rfl
              exact hK.out _ _ ⟨(by rw [ha.out]; exact putSel_upk 0 hb_ rfl rfl rfl), M.out.same (by decide) (by decide)⟩
            refine steps_cons ?_ ?_
            · rintro b a w' ⟨ha, Q_M⟩ hb_ hon hoff
              refine ⟨_, rfl, fun K hK => ?_⟩
              have e4 : a.tmps[4]? = some (.slice (some ⟨g, 0, none⟩) fs.length c') := by rw [ha]; exact (putSel_off rfl).trans rfl
              replace ha := Aside0.mk ha
              have M := Aside0.mk Q_M
              refine value_ (w1 := w') (v := .slice (some ⟨g, 0, none⟩) fs.length c') (by rfl) rfl ?_ ?_
              · go_simp
                (try simp only [i64_w])
                try rfl
              exact hK.out _ _ ⟨(by rw [ha.out]; exact putSel_upk 1 hb_ rfl rfl rfl), M.out.same (by decide) (by decide)⟩
            refine steps_cons ?_ ?_
            · rintro b a w' ⟨ha, Q_M⟩ hb_ hon hoff
              refine ⟨_, rfl, fun K hK => ?_⟩
              have e44 : a.tmps[44]? = some (.slice (some ⟨g, 0, none⟩) fs.length c') := by rw [ha]; exact putSel_on (e := (1, 44, .slice (some ⟨g, 0, none⟩) fs.length c')) 1 rfl rfl (hon 1 (by kernel_rfl)) rfl
              replace ha := Aside0.mk ha
              have M := Aside0.mk Q_M
              have q0_ := HP0.out
              refine value_ (w1 := w') (v := .pointer (some ⟨g, 0, none⟩)) (by rfl) rfl ?_ ?_
              · go_simp
                (try simp only [i64_w])
                try rfl
              exact hK.out _ _ ⟨(by rw [ha.out]; exact putSel_upk 2 hb_ rfl rfl rfl), M.out.same (by decide) (by decide)⟩
            refine steps_cons ?_ ?_
            · rintro b a w' ⟨ha, Q_M⟩ hb_ hon hoff
              refine ⟨_, rfl, fun K hK => ?_⟩
              have e45 : a.tmps[45]? = some (.pointer (some ⟨g, 0, none⟩)) := by rw [ha]; exact putSel_on (e := (2, 45, .pointer (some ⟨g, 0, none⟩))) 2 rfl rfl (hon 2 (by kernel_rfl)) rfl
              replace ha := Aside0.mk ha
              have M := Aside0.mk Q_M
              have hx_ := head_cell HC1.out (below_step HB.out M.out.1) HP0.out HXE.out
              refine value_ (w1 := w') (v := .string X) (by rfl) rfl ?_ ?_
              · go_simp
                (try simp only [i64_w])
                try rfl
              exact hK.out _ _ ⟨(by rw [ha.out]; exact putSel_upk 3 hb_ rfl rfl rfl), M.out.same (by decide) (by decide)⟩
            refine steps_cons ?_ ?_
            · rintro b a w' ⟨ha, Q_M⟩ hb_ hon hoff
              refine ⟨_, rfl, fun K hK => ?_⟩
              have e43 : a.tmps[43]? = some (.slice (some ⟨0, 0, none⟩) 4 4) := by rw [ha]; exact putSel_on (e := (0, 43, .slice (some ⟨0, 0, none⟩) 4 4)) 0 rfl rfl (hon 0 (by kernel_rfl)) rfl
              have e46 : a.tmps[46]? = some (.string X) := by rw [ha]; exact putSel_on (e := (3, 46, .string X)) 3 rfl rfl (hon 3 (by kernel_rfl)) rfl
              replace ha := Aside0.mk ha
              have M := Aside0.mk Q_M
              refine goes_ Tryd.func30 (by kernel_rfl) rfl #[(.slice (some ⟨0, 0, none⟩) 4 4), (.string X)] (by rfl) rfl rfl (by first | (simp only [List.map_toArray, List.map_cons, List.map_nil, Act.eval, Array.getD_eq_getD_getElem?, Option.getD_some, e43, e46]; done) | (simp only [List.map_toArray, List.map_cons, List.map_nil, Act.eval, Array.getD_eq_getD_getElem?, Option.getD_some, e43, e46]; rfl)) ?_
              refine (slices_Index_string_string.calls 6 _ _ wordsL X (kk - 1) _ (words_C (HW.out.below (below_step HB1.out (below_step HB.out M.out.1)))) (Nat.le_refl _) HIX.out).mono ?_
              rintro e wN_ ⟨rfl, hd⟩
              refine ⟨_, rfl, ?_⟩
              exact hK.out _ _ ⟨(by rw [ha.out]; exact putSel_upk 4 hb_ rfl rfl rfl), M.out.drawn hd⟩
            refine steps_cons ?_ ?_
            · rintro b a w' ⟨ha, Q_M⟩ hb_ hon hoff
              refine ⟨_, rfl, fun K hK => ?_⟩
              have e47 : a.tmps[47]? = some (.int .i64 (kk - 1)) := by rw [ha]; exact putSel_on (e := (4, 47, .int .i64 (kk - 1))) 4 rfl rfl (hon 4 (by kernel_rfl)) rfl
              replace ha := Aside0.mk ha
              have M := Aside0.mk Q_M
              have hw_ := HKW.out
              refine value_ (w1 := w') (v := .int .i64 kk) (by rfl) rfl ?_ ?_
              · go_simp
                (try simp only [i64_w])
                try rfl
              exact hK.out _ _ ⟨(by rw [ha.out]; exact putSel_upk 5 hb_ rfl rfl rfl), M.out.same (by decide) (by decide)⟩
            refine steps_cons ?_ ?_
            · rintro b a w' ⟨ha, Q_M⟩ hb_ hon hoff
              refine ⟨_, rfl, fun K hK => ?_⟩
              have e6 : a.tmps[6]? = some (.pointer (some ⟨w1.heap.size, 0, none⟩)) := by rw [ha]; exact (putSel_off rfl).trans rfl
              replace ha := Aside0.mk ha
              have M := Aside0.mk Q_M
              refine value_ (w1 := w') (v := .pointer (some ⟨w1.heap.size, 0, none⟩)) (by rfl) rfl ?_ ?_
              · go_simp
                (try simp only [i64_w])
                try rfl
              exact hK.out _ _ ⟨(by rw [ha.out]; exact putSel_upk 6 hb_ rfl rfl rfl), M.out.same (by decide) (by decide)⟩
            refine steps_cons ?_ ?_
            · rintro b a w' ⟨ha, Q_M⟩ hb_ hon hoff
              refine ⟨_, rfl, fun K hK => ?_⟩
              have e49 : a.tmps[49]? = some (.pointer (some ⟨w1.heap.size, 0, none⟩)) := by rw [ha]; exact putSel_on (e := (6, 49, .pointer (some ⟨w1.heap.size, 0, none⟩))) 6 rfl rfl (hon 6 (by kernel_rfl)) rfl
              replace ha := Aside0.mk ha
              have M := Aside0.mk Q_M
              have hn_ : w'.cell? ⟨w1.heap.size, 0, none⟩ = some (.int .i64 N0) := (blk_cell (blk_below HX.out M.out.1) 0).trans rfl
              refine value_ (w1 := w') (v := .int .i64 (N0)) (by rfl) rfl ?_ ?_
              · go_simp
                (try simp only [i64_w])
                try rfl
              exact hK.out _ _ ⟨(by rw [ha.out]; exact putSel_upk 7 hb_ rfl rfl rfl), M.out.same (by decide) (by decide)⟩
            refine steps_cons ?_ ?_
            · rintro b a w' ⟨ha, Q_M⟩ hb_ hon hoff
              refine ⟨_, rfl, fun K hK => ?_⟩
              have e6 : a.tmps[6]? = some (.pointer (some ⟨w1.heap.size, 0, none⟩)) := by rw [ha]; exact (putSel_off rfl).trans rfl
              replace ha := Aside0.mk ha
              have M := Aside0.mk Q_M
              refine value_ (w1 := w') (v := .pointer (some ⟨w1.heap.size, 1, none⟩)) (by rfl) rfl ?_ ?_
              · go_simp
                (try simp only [i64_w])
                try rfl
              exact hK.out _ _ ⟨(by rw [ha.out]; exact putSel_upk 8 hb_ rfl rfl rfl), M.out.same (by decide) (by decide)⟩
            refine steps_cons ?_ ?_
            · rintro b a w' ⟨ha, Q_M⟩ hb_ hon hoff
              refine ⟨_, rfl, fun K hK => ?_⟩
              have e51 : a.tmps[51]? = some (.pointer (some ⟨w1.heap.size, 1, none⟩)) := by rw [ha]; exact putSel_on (e := (8, 51, .pointer (some ⟨w1.heap.size, 1, none⟩))) 8 rfl rfl (hon 8 (by kernel_rfl)) rfl
              replace ha := Aside0.mk ha
              have M := Aside0.mk Q_M
              have hn_ : w'.cell? ⟨w1.heap.size, 1, none⟩ = some (.int .i64 N1) := (blk_cell (blk_below HX.out M.out.1) 1).trans rfl
              refine value_ (w1 := w') (v := .int .i64 (N1)) (by rfl) rfl ?_ ?_
              · go_simp
                (try simp only [i64_w])
                try rfl
              exact hK.out _ _ ⟨(by rw [ha.out]; exact putSel_upk 9 hb_ rfl rfl rfl), M.out.same (by decide) (by decide)⟩
            refine steps_cons ?_ ?_
            · rintro b a w' ⟨ha, Q_M⟩ hb_ hon hoff
              refine ⟨_, rfl, fun K hK => ?_⟩
              have e6 : a.tmps[6]? = some (.pointer (some ⟨w1.heap.size, 0, none⟩)) := by rw [ha]; exact (putSel_off rfl).trans rfl
              replace ha := Aside0.mk ha
              have M := Aside0.mk Q_M
              refine value_ (w1 := w') (v := .pointer (some ⟨w1.heap.size, 2, none⟩)) (by rfl) rfl ?_ ?_
              · go_simp
                (try simp only [i64_w])
                try rfl
              exact hK.out _ _ ⟨(by rw [ha.out]; exact putSel_upk 10 hb_ rfl rfl rfl), M.out.same (by decide) (by decide)⟩
            refine steps_cons ?_ ?_
            · rintro b a w' ⟨ha, Q_M⟩ hb_ hon hoff
              refine ⟨_, rfl, fun K hK => ?_⟩
              have e53 : a.tmps[53]? = some (.pointer (some ⟨w1.heap.size, 2, none⟩)) := by rw [ha]; exact putSel_on (e := (10, 53, .pointer (some ⟨w1.heap.size, 2, none⟩))) 10 rfl rfl (hon 10 (by kernel_rfl)) rfl
              replace ha := Aside0.mk ha
              have M := Aside0.mk Q_M
              have hn_ : w'.cell? ⟨w1.heap.size, 2, none⟩ = some (.int .i64 N2) := (blk_cell (blk_below HX.out M.out.1) 2).trans rfl
              refine value_ (w1 := w') (v := .int .i64 (N2)) (by rfl) rfl ?_ ?_
              · go_simp
                (try simp only [i64_w])
                try rfl
              exact hK.out _ _ ⟨(by rw [ha.out]; exact putSel_upk 11 hb_ rfl rfl rfl), M.out.same (by decide) (by decide)⟩
            refine steps_cons ?_ ?_
            · rintro b a w' ⟨ha, Q_M⟩ hb_ hon hoff
              refine ⟨_, rfl, fun K hK => ?_⟩
              have e48 : a.tmps[48]? = some (.int .i64 kk) := by rw [ha]; exact putSel_on (e := (5, 48, .int .i64 kk)) 5 rfl rfl (hon 5 (by kernel_rfl)) rfl
              have e50 : a.tmps[50]? = some (.int .i64 (N0)) := by rw [ha]; exact putSel_on (e := (7, 50, .int .i64 (N0))) 7 rfl rfl (hon 7 (by kernel_rfl)) rfl
              have e52 : a.tmps[52]? = some (.int .i64 (N1)) := by rw [ha]; exact putSel_on (e := (9, 52, .int .i64 (N1))) 9 rfl rfl (hon 9 (by kernel_rfl)) rfl
              have e54 : a.tmps[54]? = some (.int .i64 (N2)) := by rw [ha]; exact putSel_on (e := (11, 54, .int .i64 (N2))) 11 rfl rfl (hon 11 (by kernel_rfl)) rfl
              replace ha := Aside0.mk ha
              have M := Aside0.mk Q_M
              refine value_ (w1 := w') (v := .agg #[.int .i64 kk, .int .i64 N0, .int .i64 N1, .int .i64 N2]) (by rfl) rfl ?_ ?_
              · go_simp
                (try simp only [i64_w])
                try rfl
              exact hK.out _ _ ⟨(by rw [ha.out]; exact putSel_upk 12 hb_ rfl rfl rfl), M.out.same (by decide) (by decide)⟩
            refine steps_cons ?_ ?_
            · rintro b a w' ⟨ha, Q_M⟩ hb_ hon hoff
              refine ⟨_, rfl, fun K hK => ?_⟩
              replace ha := Aside0.mk ha
              have M := Aside0.mk Q_M
              have hz_ : w'.heap.size = wr.heap.size := M.out.2.1 hb_
              refine value_ (w1 := w'.alloc (.cells #[.int .i64 0, .int .i64 0, .int .i64 0, .int .i64 0] 26)) (v := .pointer (some ⟨w'.heap.size, 0, none⟩)) (by rfl) rfl ?_ ?_
              · go_simp
                try rfl
              exact hK.out _ _ ⟨(by rw [ha.out, hz_]; exact putSel_upk 13 hb_ rfl rfl rfl), M.out.alloc hb_ (hoff 14 (by kernel_rfl))⟩
            refine steps_cons ?_ ?_
            · rintro b a w' ⟨ha, Q_M⟩ hb_ hon hoff
              refine ⟨_, rfl, fun K hK => ?_⟩
              have e9 : a.tmps[9]? = some (.pointer (some ⟨wr.heap.size, 0, none⟩)) := by rw [ha]; exact putSel_on (e := (13, 9, .pointer (some ⟨wr.heap.size, 0, none⟩))) 13 rfl rfl (hon 13 (by kernel_rfl)) rfl
              have e55 : a.tmps[55]? = some (.agg #[.int .i64 kk, .int .i64 N0, .int .i64 N1, .int .i64 N2]) := by rw [ha]; exact putSel_on (e := (12, 55, .agg #[.int .i64 kk, .int .i64 N0, .int .i64 N1, .int .i64 N2])) 12 rfl rfl (hon 12 (by kernel_rfl)) rfl
              replace ha := Aside0.mk ha
              have M := Aside0.mk Q_M
              have hb13_ := hon 13 (by kernel_rfl)
              have hblk_ := M.out.blk hb13_ hb_
              have h0_ : w'.cell? ⟨wr.heap.size, 0, none⟩ = some (.int .i64 0) := (blk_cell hblk_ 0).trans rfl
              have h1_ : w'.cell? ⟨wr.heap.size, 1, none⟩ = some (.int .i64 0) := (blk_cell hblk_ 1).trans rfl
              have h2_ : w'.cell? ⟨wr.heap.size, 2, none⟩ = some (.int .i64 0) := (blk_cell hblk_ 2).trans rfl
              have h3_ : w'.cell? ⟨wr.heap.size, 3, none⟩ = some (.int .i64 0) := (blk_cell hblk_ 3).trans rfl
              have f0_ := blk_frozen hblk_ 0
              have f1_ := blk_frozen hblk_ 1
              have f2_ := blk_frozen hblk_ 2
              have f3_ := blk_frozen hblk_ 3
              have hu_ := Tryd.underlying26
              refine skip_ (w1 := ((((w'.setCell ⟨wr.heap.size, 0, none⟩ (.int .i64 kk)).setCell ⟨wr.heap.size, 1, none⟩ (.int .i64 N0)).setCell ⟨wr.heap.size, 2, none⟩ (.int .i64 N1)).setCell ⟨wr.heap.size, 3, none⟩ (.int .i64 N2))) (by rfl) rfl ?_ ?_
              · go_simp
                try rfl
              exact hK.out _ _ ⟨(by rw [ha.out]; exact (putSel_same rfl).symm), M.out.store hb13_ hb_⟩
            exact steps_nil
          rintro b a wr3 hall ⟨ha, Q_M⟩
          have hb0_ := hall 0 (by kernel_rfl)
          have hb1_ := hall 1 (by kernel_rfl)
          have hb2_ := hall 2 (by kernel_rfl)
          have hb3_ := hall 3 (by kernel_rfl)
          have hb4_ := hall 4 (by kernel_rfl)
          have hb5_ := hall 5 (by kernel_rfl)
          have hb6_ := hall 6 (by kernel_rfl)
          have hb7_ := hall 7 (by kernel_rfl)
          have hb8_ := hall 8 (by kernel_rfl)
          have hb9_ := hall 9 (by kernel_rfl)
          have hb10_ := hall 10 (by kernel_rfl)
          have hb11_ := hall 11 (by kernel_rfl)
          have hb12_ := hall 12 (by kernel_rfl)
          have hb13_ := hall 13 (by kernel_rfl)
          have hb14_ := hall 14 (by kernel_rfl)
          subst ha
          simp only [putSel, hb0_, hb1_, hb2_, hb3_, hb4_, hb5_, hb6_, hb7_, hb8_, hb9_, hb10_, hb11_, hb12_, hb13_, if_true, Act.put, List.setIfInBounds_toArray, List.set_cons_zero, List.set_cons_succ]
          have M := Aside0.mk (Q_M.fin (hall 13 (by kernel_rfl)) (hall 14 (by kernel_rfl)))
          clear Q_M
          clear hall hb0_ hb1_ hb2_ hb3_ hb4_ hb5_ hb6_ hb7_ hb8_ hb9_ hb10_ hb11_ hb12_ hb13_ hb14_
--</W10>
          clear hHeld HIX HKW HXE
          have HBM := Aside0.mk (below_step HB.out M.out.1)
          have HBW := Aside0.mk (below_step HB1.out HBM.out)
          have BKA := Aside0.mk M.out.2
          have BKR := Aside0.mk (blk_below BK1.out HBM.out)
          have HCF := Aside0.mk (Kd.C_below HC1.out HBM.out)
          have HJL := Aside0.mk (joinB_len (split_mem_size HFS.out) hL3)
          have HGS : Aside0 (g < wr3.heap.size) := ⟨Nat.lt_of_lt_of_le HG.out.2 HBM.out.size⟩
          have hsz9 : w1.heap.size ≤ wr.heap.size := below_size HB.out
          clear HX HB M
          obtain ⟨T, ok, hT⟩ : ∃ T ok, fmtAct kk N0 N1 N2 = (T, ok) := ⟨_, _, rfl⟩
          have HFA := FormatAct_calls kk N0 N1 N2 wr3 (HP.out.below HBW.out) (HW.out.below HBW.out)
          rw [hT] at HFA HS
          have HFC := Aside0.mk HFA
          clear HFA hT
          obtain ⟨ga, hga⟩ : ∃ ga, wr.heap.size = ga := ⟨_, rfl⟩
          have hgw : ga ≠ w.heap.size := by have := below_size HB1.out; have := blk_lt BKR.out; have := blk_lt BK1.out; omega
          have HGW := Aside0.mk hgw
          rw [hga] at BKA ⊢
          have a0 : wr3.cell? ⟨ga, 0, none⟩ = some (.int .i64 kk) := (blk_cell BKA.out 0).trans rfl
          have a1 : wr3.cell? ⟨ga, 1, none⟩ = some (.int .i64 N0) := (blk_cell BKA.out 1).trans rfl
          have a2 : wr3.cell? ⟨ga, 2, none⟩ = some (.int .i64 N1) := (blk_cell BKA.out 2).trans rfl
          have a3 : wr3.cell? ⟨ga, 3, none⟩ = some (.int .i64 N2) := (blk_cell BKA.out 3).trans rfl
          clear hga hgw
          go_wp2_with (fail)
          refine HFC.out.mono ?_
          rintro e w4 ⟨rfl, b4⟩
          have HBW4 := Aside0.mk (below_step HBW.out b4)
          have BKA4 := Aside0.mk (blk_below BKA.out b4)
          have BKR4 := Aside0.mk (blk_below BKR.out b4)
          have HCF4 := Aside0.mk (Kd.C_below HCF.out b4)
          have HGS4 : Aside0 (g < w4.heap.size) := ⟨Nat.lt_of_lt_of_le HGS.out b4.size⟩
          clear a0 a1 a2 a3 b4
          cases ok with
          | false =>
            have HZ : Aside0 (parseA s = ((0, 0, 0, 0), false)) := ⟨by rw [HS.out]; rw [if_neg (fun h => by cases (Prod.mk.inj h).2)]⟩
            have hc0 : w4.cell? ⟨w.heap.size, 0, none⟩ = some (.int .i64 0) := (blk_cell BKR4.out 0).trans rfl
            have hc1 : w4.cell? ⟨w.heap.size, 1, none⟩ = some (.int .i64 0) := (blk_cell BKR4.out 1).trans rfl
            have hc2 : w4.cell? ⟨w.heap.size, 2, none⟩ = some (.int .i64 0) := (blk_cell BKR4.out 2).trans rfl
            have hc3 : w4.cell? ⟨w.heap.size, 3, none⟩ = some (.int .i64 0) := (blk_cell BKR4.out 3).trans rfl
            have hf0 := blk_frozen BKR4.out 0
            have hf1 := blk_frozen BKR4.out 1
            have hf2 := blk_frozen BKR4.out 2
            have hf3 := blk_frozen BKR4.out 3
            go_wp2
            refine bodyPost_ret (results_ct rfl _ _ w.heap.size 26 #[.int .i64 0, .int .i64 0, .int .i64 0, .int .i64 0] (0, 0) _ rfl (put4 BKR4.out _ _ _ _) Tryd.underlying26 rfl (by kernel_rfl)) rfl ?_
            exact ⟨by rw [HZ.out]; rfl, below4 HBW4.out (Nat.le_refl _) _ _ _ _⟩
          | true =>
            have HJ := Aside0.mk (join_calls g c' fs w4 HCF4.out HGS4.out HCC.out (by omega) (Nat.le_trans HJL.out (by omega)))
            go_wp2_with (fail)
            refine HJ.out.mono ?_
            rintro e w5 ⟨rfl, b5⟩
            have HBW5 := Aside0.mk (below_step HBW4.out b5)
            have BKA5 := Aside0.mk (blk_below BKA4.out b5)
            have BKR5 := Aside0.mk (blk_below BKR4.out b5)
            clear b5
            have hJd : tx (Lib.join (fs.map (·.data.toList)) [32]) = joinB fs := rfl
            rw [hJd]
            clear hJd
            obtain ⟨J, hJ⟩ : ∃ J, joinB fs = J := ⟨_, rfl⟩
            rw [hJ] at HS ⊢
            clear hJ
            have hc0 : w5.cell? ⟨w.heap.size, 0, none⟩ = some (.int .i64 0) := (blk_cell BKR5.out 0).trans rfl
            have hc1 : w5.cell? ⟨w.heap.size, 1, none⟩ = some (.int .i64 0) := (blk_cell BKR5.out 1).trans rfl
            have hc2 : w5.cell? ⟨w.heap.size, 2, none⟩ = some (.int .i64 0) := (blk_cell BKR5.out 2).trans rfl
            have hc3 : w5.cell? ⟨w.heap.size, 3, none⟩ = some (.int .i64 0) := (blk_cell BKR5.out 3).trans rfl
            have hf0 := blk_frozen BKR5.out 0
            have hf1 := blk_frozen BKR5.out 1
            have hf2 := blk_frozen BKR5.out 2
            have hf3 := blk_frozen BKR5.out 3
            by_cases hq : T = J
            · have HZ : Aside0 (parseA s = ((kk, N0, N1, N2), true)) := ⟨by rw [HS.out, hq, if_pos rfl]⟩
              subst hq
              have a0 : w5.cell? ⟨ga, 0, none⟩ = some (.int .i64 kk) := (blk_cell BKA5.out 0).trans rfl
              have a1 : w5.cell? ⟨ga, 1, none⟩ = some (.int .i64 N0) := (blk_cell BKA5.out 1).trans rfl
              have a2 : w5.cell? ⟨ga, 2, none⟩ = some (.int .i64 N1) := (blk_cell BKA5.out 2).trans rfl
              have a3 : w5.cell? ⟨ga, 3, none⟩ = some (.int .i64 N2) := (blk_cell BKA5.out 3).trans rfl
              go_wp2
              refine bodyPost_ret (results_ct rfl _ _ w.heap.size 26 #[.int .i64 kk, .int .i64 N0, .int .i64 N1, .int .i64 N2] (0, 0) _ rfl (put4 BKR5.out _ _ _ _) Tryd.underlying26 rfl (by kernel_rfl)) rfl ?_
              exact ⟨by rw [HZ.out]; rfl, below4 HBW5.out (Nat.le_refl _) _ _ _ _⟩
            · have HZ : Aside0 (parseA s = ((0, 0, 0, 0), false)) := ⟨by rw [HS.out]; rw [if_neg (fun h => hq (Prod.mk.inj h).1)]⟩
              have hne := text_ne hq
              clear hq
              go_wp2
              refine bodyPost_ret (results_ct rfl _ _ w.heap.size 26 #[.int .i64 0, .int .i64 0, .int .i64 0, .int .i64 0] (0, 0) _ rfl (put4 BKR5.out _ _ _ _) Tryd.underlying26 rfl (by kernel_rfl)) rfl ?_
              exact ⟨by rw [HZ.out]; rfl, below4 HBW5.out (Nat.le_refl _) _ _ _ _⟩
end Go.Proofs.YtbmebmhdkpmclaaDoor.P
