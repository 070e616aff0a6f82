import Derived.Test.YtijfagfkoiklaaaFSettle
namespace Go.Proofs.Ytijfagfkoiklaaa.P
open Go.RowKit Go.Proofs.YtijfagfkoiklaaaW.PrintWords Go.Proofs.YtijfagfkoiklaaaW.PrintLast Go.Proofs.YtijfagfkoiklaaaW.PrintMore
set_option linter.unusedSimpArgs false
set_option linter.unusedVariables false
/-! The library's insertion sort, over lists. -/
def swap1 (l : List Int) (j : Nat) : List Int := (l.set j (rd l ((j : Int) - 1))).set (j - 1) (rd l j)
def insGo (cf : Int → Int → Int) : Nat → List Int → List Int
  | 0, l => l
  | j + 1, l => if cf (rd l ((j : Int) + 1)) (rd l j) < 0 then insGo cf j (swap1 l (j + 1)) else l
def sortGo (cf : Int → Int → Int) : Nat → Nat → List Int → List Int
  | 0, _, l => l
  | d + 1, i, l => sortGo cf d (i + 1) (insGo cf i l)
def insSort (cf : Int → Int → Int) (l : List Int) : List Int := sortGo cf (l.length - 1) 1 l
theorem swap1_len (l : List Int) (j : Nat) : (swap1 l j).length = l.length := by simp [swap1]
theorem insGo_len (cf : Int → Int → Int) : ∀ j l, (insGo cf j l).length = l.length := by
  intro j
  induction j with
  | zero => intro l; rfl
  | succ j ih =>
    intro l
    unfold insGo
    split
    · rw [ih, swap1_len]
    · rfl
theorem sortGo_len (cf : Int → Int → Int) : ∀ d i l, (sortGo cf d i l).length = l.length := by
  intro d
  induction d with
  | zero => intro i l; rfl
  | succ d ih => intro i l; unfold sortGo; rw [ih, insGo_len]
theorem insSort_len (cf : Int → Int → Int) (l : List Int) : (insSort cf l).length = l.length := sortGo_len cf _ _ _
/-- x put into a row from behind. -/
def insInto (cf : Int → Int → Int) (x : Int) : List Int → List Int   -- the row is given from its end
  | [] => [x]
  | a :: r => if cf x a < 0 then a :: insInto cf x r else x :: a :: r
theorem rd_app_left {a b : List Int} {i : Nat} (h : i < a.length) : rd (a ++ b) i = rd a i := by
  unfold rd; rw [Int.toNat_natCast, List.getD_eq_getElem?_getD, List.getD_eq_getElem?_getD, List.getElem?_append_left h]
theorem rd_app_mid (a : List Int) (x : Int) (b : List Int) : rd (a ++ x :: b) (a.length : Int) = x := by
  unfold rd; rw [Int.toNat_natCast, List.getD_eq_getElem?_getD, List.getElem?_append_right (Nat.le_refl _)]; simp
theorem swap1_mid (a : List Int) (y x : Int) (b : List Int) : swap1 (a ++ y :: x :: b) (a.length + 1) = a ++ x :: y :: b := by
  unfold swap1
  have e1 : rd (a ++ y :: x :: b) (((a.length + 1 : Nat) : Int) - 1) = y := by
    rw [show ((a.length + 1 : Nat) : Int) - 1 = (a.length : Int) by omega, rd_app_mid]
  have e2 : rd (a ++ y :: x :: b) ((a.length + 1 : Nat) : Int) = x := by
    have := rd_app_mid (a ++ [y]) x b
    simp only [List.append_assoc, List.singleton_append, List.length_append, List.length_cons, List.length_nil, Nat.zero_add] at this
    exact this
  rw [e1, e2]
  simp
theorem insGo_into (cf : Int → Int → Int) (x : Int) : ∀ (ra b : List Int), insGo cf ra.length (ra.reverse ++ x :: b) = (insInto cf x ra).reverse ++ b := by
  intro ra
  induction ra with
  | nil => intro b; simp [insGo, insInto]
  | cons y r ih =>
    intro b
    rw [List.length_cons, insGo, List.reverse_cons, List.append_assoc, List.singleton_append]
    have e1 : rd (r.reverse ++ y :: x :: b) ((r.length : Int) + 1) = x := by
      have := rd_app_mid (r.reverse ++ [y]) x b
      simp only [List.append_assoc, List.singleton_append, List.length_append, List.length_cons, List.length_nil, Nat.zero_add, List.length_reverse] at this
      exact this
    have e2 : rd (r.reverse ++ y :: x :: b) (r.length : Int) = y := by
      have := rd_app_mid r.reverse y (x :: b)
      rwa [List.length_reverse] at this
    rw [e1, e2, insInto]
    split
    · have := swap1_mid r.reverse y x b
      rw [List.length_reverse] at this
      rw [this, ih]
      simp
    · simp
/-- All of it, from behind. -/
def sortRev (cf : Int → Int → Int) : List Int → List Int → List Int   -- done (from its end), to do
  | acc, [] => acc
  | acc, x :: r => sortRev cf (insInto cf x acc) r
theorem insInto_len (cf : Int → Int → Int) (x : Int) : ∀ l, (insInto cf x l).length = l.length + 1 := by
  intro l
  induction l with
  | nil => rfl
  | cons a r ih => unfold insInto; split <;> simp [ih]
theorem sortGo_rev (cf : Int → Int → Int) : ∀ (todo acc : List Int), sortGo cf todo.length acc.length (acc.reverse ++ todo) = (sortRev cf acc todo).reverse := by
  intro todo
  induction todo with
  | nil => intro acc; simp [sortGo, sortRev]
  | cons x r ih =>
    intro acc
    rw [List.length_cons, sortGo, insGo_into, sortRev, ← ih, insInto_len]
theorem insSort_eq (cf : Int → Int → Int) (l : List Int) : insSort cf l = (sortRev cf [] l).reverse := by
  cases l with
  | nil => rfl
  | cons a r =>
    have := sortGo_rev cf r [a]
    unfold insSort
    rw [List.length_cons, Nat.add_sub_cancel, sortRev]
    exact this
theorem insInto_perm (cf : Int → Int → Int) (x : Int) : ∀ l, (insInto cf x l).Perm (x :: l) := by
  intro l
  induction l with
  | nil => exact .refl _
  | cons a r ih =>
    unfold insInto
    split
    · exact (List.Perm.cons a ih).trans (.swap x a r)
    · exact .refl _
theorem sortRev_perm (cf : Int → Int → Int) : ∀ todo acc, (sortRev cf acc todo).Perm (acc ++ todo) := by
  intro todo
  induction todo with
  | nil => intro acc; simp [sortRev]
  | cons x r ih =>
    intro acc
    unfold sortRev
    refine (ih _).trans ?_
    refine ((insInto_perm cf x acc).append_right r).trans ?_
    exact (List.perm_middle (a := x) (l₁ := acc) (l₂ := r)).symm
theorem insSort_perm (cf : Int → Int → Int) (l : List Int) : (insSort cf l).Perm l := by
  rw [insSort_eq]
  exact (List.reverse_perm _).trans (sortRev_perm cf l [])
/-- Sorted from behind: each is not less than what stands behind it. -/
theorem insInto_sorted {cf : Int → Int → Int} {le : Int → Int → Prop} (ht : ∀ a b c, le a b → le b c → le a c) (x : Int) : ∀ l, (∀ a ∈ l, cf x a < 0 → le x a) → (∀ a ∈ l, ¬ cf x a < 0 → le a x) → l.Pairwise (fun a b => le b a) → (insInto cf x l).Pairwise (fun a b => le b a) := by
  intro l
  induction l with
  | nil => intro _ _ _; simp [insInto]
  | cons a r ih =>
    intro h1 h2 hp
    rw [List.pairwise_cons] at hp
    unfold insInto
    by_cases hc : cf x a < 0
    · rw [if_pos hc, List.pairwise_cons]
      refine ⟨fun b hb => ?_, ih (fun b hb => h1 b (List.mem_cons_of_mem _ hb)) (fun b hb => h2 b (List.mem_cons_of_mem _ hb)) hp.2⟩
      rcases List.mem_cons.mp ((insInto_perm cf x r).mem_iff.mp hb) with rfl | hb
      · exact h1 a List.mem_cons_self hc
      · exact hp.1 b hb
    · rw [if_neg hc, List.pairwise_cons]
      refine ⟨fun b hb => ?_, List.pairwise_cons.mpr hp⟩
      have hax := h2 a List.mem_cons_self hc
      rcases List.mem_cons.mp hb with rfl | hb
      · exact hax
      · exact ht _ _ _ (hp.1 b hb) hax
theorem sortRev_sorted {cf : Int → Int → Int} {le : Int → Int → Prop} (ht : ∀ a b c, le a b → le b c → le a c) (h1 : ∀ x a, cf x a < 0 → le x a) (h2 : ∀ x a, ¬ cf x a < 0 → le a x) : ∀ todo acc, acc.Pairwise (fun a b => le b a) → (sortRev cf acc todo).Pairwise (fun a b => le b a) := by
  intro todo
  induction todo with
  | nil => intro acc h; exact h
  | cons x r ih => intro acc h; unfold sortRev; exact ih _ (insInto_sorted ht x acc (fun a _ => h1 x a) (fun a _ => h2 x a) h)
theorem insSort_sorted {cf : Int → Int → Int} {le : Int → Int → Prop} (ht : ∀ a b c, le a b → le b c → le a c) (h1 : ∀ x a, cf x a < 0 → le x a) (h2 : ∀ x a, ¬ cf x a < 0 → le a x) (l : List Int) : (insSort cf l).Pairwise le := by
  rw [insSort_eq, List.pairwise_reverse]
  exact sortRev_sorted ht h1 h2 l [] List.Pairwise.nil
end Go.Proofs.Ytijfagfkoiklaaa.P
