import Derived.Test.YtijfagfkoiklaaaMTree
import Derived.Test.YtijfagfkoiklaaaPf10
import Derived.Test.YtijfagfkoiklaaaPf28
namespace Go.Proofs.Ytijfagfkoiklaaa.P
open Go.RowKit Go.Proofs.YtijfagfkoiklaaaW.PrintWords Go.Proofs.YtijfagfkoiklaaaW.PrintLast Go.Proofs.YtijfagfkoiklaaaW.PrintMore
set_option linter.unusedSimpArgs false
theorem rd_nat (l : List Int) (i : Nat) : rd l (i : Int) = l.getD i 0 := by unfold rd; rw [Int.toNat_natCast]
theorem rd_get {l : List Int} {i : Nat} (h : i < l.length) : rd l (i : Int) = l[i] := by rw [rd_nat, List.getD_eq_getElem?_getD, List.getElem?_eq_getElem h]; rfl
theorem rd_ext {a b : List Int} (hl : a.length = b.length) (h : ∀ i : Nat, i < a.length → rd a i = rd b i) : a = b := by
  apply List.ext_getElem hl
  intro i h1 h2
  rw [← rd_get h1, ← rd_get h2]
  exact h i h1
theorem rd_set (l : List Int) (i : Nat) (v : Int) (j : Nat) : rd (l.set i v) (j : Int) = if i = j ∧ j < l.length then v else rd l j := by
  rw [rd_nat, rd_nat, List.getD_eq_getElem?_getD, List.getD_eq_getElem?_getD, List.getElem?_set]
  by_cases e : i = j
  · subst e
    by_cases h : i < l.length
    · rw [if_pos rfl, if_pos h, if_pos ⟨rfl, h⟩]; rfl
    · rw [if_pos rfl, if_neg h, if_neg (fun hh => h hh.2), List.getElem?_eq_none (by omega)]
  · rw [if_neg e, if_neg (fun hh => e hh.1)]
theorem reverse_go : ∀ (d : Nat) (x : List Int) (i j : Int), x.length ≤ 140737488351232 → 0 ≤ i → i + j = (x.length : Int) - 1 → j - i < d →
    ∃ y, Ev (fun k => slices_Reverse_int_int.l0 k x i j) y ∧ y.length = x.length ∧ ∀ m : Nat, m < x.length → rd y m = if i ≤ m ∧ m ≤ j then rd x ((x.length : Int) - 1 - m) else rd x m := by
  intro d
  induction d with
  | zero =>
    intro x i j hx h0 hs hd
    refine ⟨x, Ev.step (f := fun _ => some x) (fun k => ?_) (Ev.now _), rfl, fun m hm => by rw [if_neg (by omega)]⟩
    simp only [slices_Reverse_int_int.l0]
    rw [if_neg (by omega)]
  | succ d ih =>
    intro x i j hx h0 hs hd
    by_cases hlt : i < j
    · obtain ⟨y, ev, hl, hy⟩ := ih ((x.set i.toNat (rd x j)).set j.toNat (rd x i)) (i + 1) (j - 1) (by simpa using hx) (by omega) (by simp; omega) (by omega)
      simp only [List.length_set] at hl hy
      refine ⟨y, Ev.step (fun k => ?_) ev, hl, fun m hm => ?_⟩
      · simp only [slices_Reverse_int_int.l0]
        rw [if_pos hlt, if_pos (by omega), if_pos (by omega), if_pos h0, if_pos (by omega), w64 (by omega) (by omega), w64 (by omega) (by omega)]
      · rw [hy m hm]
        obtain ⟨p, rfl⟩ := Int.eq_ofNat_of_zero_le h0
        obtain ⟨q, rfl⟩ := Int.eq_ofNat_of_zero_le (show 0 ≤ j by omega)
        rw [Int.toNat_natCast, Int.toNat_natCast]
        by_cases e1 : (p : Int) + 1 ≤ m ∧ (m : Int) ≤ (q : Int) - 1
        · rw [if_pos e1, if_pos (by omega)]
          obtain ⟨r, hr⟩ : ∃ r : Nat, (x.length : Int) - 1 - m = r := ⟨x.length - 1 - m, by omega⟩
          rw [hr, rd_set, rd_set, if_neg (by omega), if_neg (by omega)]
        · rw [if_neg e1, rd_set, rd_set]
          simp only [List.length_set]
          by_cases e2 : q = m
          · subst e2
            rw [if_pos ⟨rfl, hm⟩, if_pos (by omega), show (x.length : Int) - 1 - (q : Int) = (p : Int) by omega]
          · rw [if_neg (fun h => e2 h.1)]
            by_cases e3 : p = m
            · subst e3
              rw [if_pos ⟨rfl, hm⟩, if_pos (by omega), show (x.length : Int) - 1 - (p : Int) = (q : Int) by omega]
            · rw [if_neg (fun h => e3 h.1), if_neg (by omega)]
    · refine ⟨x, Ev.step (f := fun _ => some x) (fun k => ?_) (Ev.now _), rfl, fun m hm => ?_⟩
      · simp only [slices_Reverse_int_int.l0]
        rw [if_neg hlt]
      · by_cases e : i ≤ m ∧ (m : Int) ≤ j
        · rw [if_pos e, show (x.length : Int) - 1 - (m : Int) = (m : Int) by omega]
        · rw [if_neg e]
theorem reverse_ev (l : List Int) (h : l.length ≤ 140737488351232) : Ev (fun k => slices_Reverse_int_int.f k l) l.reverse := by
  obtain ⟨y, ev, hl, hy⟩ := reverse_go (l.length + 1) l 0 ((l.length : Int) - 1) h (by omega) (by omega) (by omega)
  have : y = l.reverse := by
    apply rd_ext (by simpa using hl)
    intro i hi
    rw [hl] at hi
    rw [hy i hi, if_pos (by omega)]
    obtain ⟨r, hr⟩ : ∃ r : Nat, (l.length : Int) - 1 - i = r := ⟨l.length - 1 - i, by omega⟩
    rw [hr, rd_get (show r < l.length by omega), rd_get (by simpa using hi), List.getElem_reverse]
    congr 1
    omega
  subst this
  refine Ev.congr (fun k => ?_) ev
  simp only [slices_Reverse_int_int.f]
  rw [w64 (by omega) (by omega)]
/-- From a node to the root. -/
def upFrom (t : List S41) : Nat → Int → List Int
  | 0, _ => []
  | d + 1, k => if 0 ≤ k then k :: upFrom t d (rd_T41 t k).f0 else []
/-- The nodes from the root to a node. -/
def pathTo (t : List S41) (k : Int) : List Int := (upFrom t 13 k).reverse
def isNodeB (t : List S41) (k : Int) : Bool := treeOk t && inR k 0 ((t.length : Int) - 1)
theorem isNode_some (t : List S41) (k : Int) : impl_isNode.f t k = some (isNodeB t k) := by
  unfold impl_isNode.f isNodeB impl_TreeOk.f impl_within.f
  simp only [Option.bind_some]
  cases h : treeOk t with
  | false => rfl
  | true =>
    have := tree_len h
    rw [if_pos rfl, w64 (by omega) (by omega)]; rfl
theorem upFrom_len (t : List S41) : ∀ d k, (upFrom t d k).length ≤ d := by
  intro d
  induction d with
  | zero => intro k; simp [upFrom]
  | succ d ih =>
    intro k; unfold upFrom
    split
    · simp; exact ih _
    · simp
theorem pathTo_go {t : List S41} (ht : treeOk t = true) : ∀ (d : Nat) (k : Int) (acc : List Int), k < (t.length : Int) → k < d → -1 ≤ k → acc.length + d ≤ 100 →
    Ev (fun n => impl_PathTo.l0 n t k acc) (acc ++ upFrom t (d + 1) k).reverse := by
  intro d
  have hl := tree_len ht
  induction d with
  | zero =>
    intro k acc h1 h2 h3 h4
    have : upFrom t (0 + 1) k = [] := by unfold upFrom; rw [if_neg (by omega)]
    rw [this, List.append_nil]
    refine Ev.step (f := fun n => slices_Reverse_int_int.f n acc) (fun n => ?_) (reverse_ev acc (by omega))
    simp only [impl_PathTo.l0]
    rw [if_neg (by omega)]
    simp
  | succ d ih =>
    intro k acc h1 h2 h3 h4
    by_cases hk : 0 ≤ k
    · have hpar : -1 ≤ (rd_T41 t k).f0 ∧ (rd_T41 t k).f0 < k := by
        by_cases e : k = 0
        · subst e; rw [(tree_root ht).1]; omega
        · obtain ⟨m, rfl⟩ := Int.eq_ofNat_of_zero_le hk
          obtain ⟨a, b, _⟩ := tree_at ht (k := m) (by omega) (by omega)
          exact ⟨by omega, b⟩
      have := ih (rd_T41 t k).f0 (acc ++ [k]) (by omega) (by omega) hpar.1 (by simp; omega)
      have e : acc ++ upFrom t (d + 1 + 1) k = acc ++ [k] ++ upFrom t (d + 1) (rd_T41 t k).f0 := by
        rw [upFrom, if_pos hk]; simp
      rw [e]
      refine Ev.step (fun n => ?_) this
      simp only [impl_PathTo.l0]
      rw [if_pos (by omega), if_pos (by omega), if_pos hk, if_pos (by omega)]
    · have : upFrom t (d + 1 + 1) k = [] := by unfold upFrom; rw [if_neg hk]
      rw [this, List.append_nil]
      refine Ev.step (f := fun n => slices_Reverse_int_int.f n acc) (fun n => ?_) (reverse_ev acc (by omega))
      simp only [impl_PathTo.l0]
      rw [if_neg (by omega)]
      simp
theorem pathTo_ev (t : List S41) (k : Int) : Ev (fun n => impl_PathTo.f n t k) (if isNodeB t k = true then pathTo t k else []) := by
  cases h : isNodeB t k with
  | false =>
    rw [if_neg (by simp)]
    refine Ev.congr (f := fun _ => some []) (fun n => ?_) (Ev.now _)
    simp only [impl_PathTo.f, isNode_some, Option.bind_some, h]
    rw [if_neg (by simp)]
  | true =>
    rw [if_pos rfl]
    have h' := h
    unfold isNodeB at h'
    simp only [Bool.and_eq_true, inR_iff] at h'
    have hl := tree_len h'.1
    have := pathTo_go h'.1 12 k [] (by omega) (by omega) (by omega) (by simp)
    refine Ev.congr (fun n => ?_) this
    simp only [impl_PathTo.f, isNode_some, Option.bind_some, h]
    rw [if_pos trivial]
/-- Members of a path. -/
theorem up_mem {t : List S41} (ht : treeOk t = true) : ∀ (d : Nat) (k : Int), k < (t.length : Int) → k < d → -1 ≤ k →
    (∀ i ∈ upFrom t (d + 1) k, 0 ≤ i ∧ i < (t.length : Int)) ∧ (0 ≤ k → k ∈ upFrom t (d + 1) k) ∧ ∀ i ∈ upFrom t (d + 1) k, i ≠ 0 → (rd_T41 t i).f0 ∈ upFrom t (d + 1) k := by
  intro d
  induction d with
  | zero =>
    intro k h1 h2 h3
    have : upFrom t (0 + 1) k = [] := by unfold upFrom; rw [if_neg (by omega)]
    rw [this]
    exact ⟨by simp, fun h => by omega, by simp⟩
  | succ d ih =>
    intro k h1 h2 h3
    by_cases hk : 0 ≤ k
    · have hpar : -1 ≤ (rd_T41 t k).f0 ∧ (rd_T41 t k).f0 < k ∧ (k ≠ 0 → 0 ≤ (rd_T41 t k).f0) := by
        by_cases e : k = 0
        · subst e; rw [(tree_root ht).1]; omega
        · obtain ⟨m, rfl⟩ := Int.eq_ofNat_of_zero_le hk
          obtain ⟨a, b, _⟩ := tree_at ht (k := m) (by omega) (by omega)
          exact ⟨by omega, b, fun _ => a⟩
      obtain ⟨a, b, c⟩ := ih (rd_T41 t k).f0 (by omega) (by omega) hpar.1
      rw [upFrom, if_pos hk]
      refine ⟨fun i hi => ?_, fun _ => by simp, fun i hi hne => ?_⟩
      · rcases List.mem_cons.mp hi with rfl | hi
        · exact ⟨hk, h1⟩
        · exact a i hi
      · rcases List.mem_cons.mp hi with rfl | hi
        · exact List.mem_cons_of_mem _ (b (hpar.2.2 hne))
        · exact List.mem_cons_of_mem _ (c i hi hne)
    · have : upFrom t (d + 1 + 1) k = [] := by unfold upFrom; rw [if_neg hk]
      rw [this]
      exact ⟨by simp, fun h => absurd h hk, by simp⟩
theorem path_mem {t : List S41} {k : Int} (h : isNodeB t k = true) : (∀ i ∈ pathTo t k, 0 ≤ i ∧ i < (t.length : Int)) ∧ k ∈ pathTo t k ∧ ∀ i ∈ pathTo t k, i ≠ 0 → (rd_T41 t i).f0 ∈ pathTo t k := by
  unfold isNodeB at h
  simp only [Bool.and_eq_true, inR_iff] at h
  have hl := tree_len h.1
  obtain ⟨a, b, c⟩ := up_mem h.1 12 k (by omega) (by omega) (by omega)
  unfold pathTo
  simp only [List.mem_reverse]
  exact ⟨a, b h.2.1, c⟩
end Go.Proofs.Ytijfagfkoiklaaa.P
