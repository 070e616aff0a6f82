import Derived.Test.YtijfagfkoiklaaaMDraw
import Derived.Test.YtijfagfkoiklaaaPf12
namespace Go.Proofs.Ytijfagfkoiklaaa.P
open Go.RowKit Go.Proofs.YtijfagfkoiklaaaW.PrintWords Go.Proofs.YtijfagfkoiklaaaW.PrintLast Go.Proofs.YtijfagfkoiklaaaW.PrintMore
set_option linter.unusedSimpArgs false
set_option linter.unusedVariables false
theorem rd_nat (l : List Int) (i : Nat) : rd l (i : Int) = l.getD i 0 := by unfold rd; rw [Int.toNat_natCast]
theorem rd_get {l : List Int} {i : Nat} (h : i < l.length) : rd l (i : Int) = l[i] := by rw [rd_nat, List.getD_eq_getElem?_getD, List.getElem?_eq_getElem h]; rfl
theorem rd_ext {a b : List Int} (hl : a.length = b.length) (h : ∀ i : Nat, i < a.length → rd a i = rd b i) : a = b := by
  apply List.ext_getElem hl
  intro i h1 h2
  rw [← rd_get h1, ← rd_get h2]
  exact h i h1
theorem rd_set (l : List Int) (i : Nat) (v : Int) (j : Nat) : rd (l.set i v) (j : Int) = if i = j ∧ j < l.length then v else rd l j := by
  rw [rd_nat, rd_nat, List.getD_eq_getElem?_getD, List.getD_eq_getElem?_getD, List.getElem?_set]
  by_cases e : i = j
  · subst e
    by_cases h : i < l.length
    · rw [if_pos rfl, if_pos h, if_pos ⟨rfl, h⟩]; rfl
    · rw [if_pos rfl, if_neg h, if_neg (fun hh => h hh.2), List.getElem?_eq_none (by omega)]
  · rw [if_neg e, if_neg (fun hh => e hh.1)]
theorem has_go (l : List Int) (x : Int) (hl : l.length ≤ 140737488351232) : ∀ (d i : Nat), l.length - i ≤ d → i ≤ l.length → Ev (fun n => laws_has.l0 n l x i) (decide (x ∈ l.drop i)) := by
  intro d
  induction d with
  | zero =>
    intro i hd hi
    rw [List.drop_eq_nil_of_le (by omega), decide_eq_false (by simp)]
    refine Ev.step (f := fun _ => some false) (fun n => ?_) (Ev.now _)
    simp only [laws_has.l0]
    rw [if_neg (by omega)]
  | succ d ih =>
    intro i hd hi
    by_cases hlt : i < l.length
    · have hdr : l.drop i = l[i] :: l.drop (i + 1) := List.drop_eq_getElem_cons hlt
      by_cases e : rd l i = x
      · rw [decide_eq_true (by rw [← e, rd_get hlt, hdr]; exact List.mem_cons_self)]
        refine Ev.step (f := fun _ => some true) (fun n => ?_) (Ev.now _)
        simp only [laws_has.l0]
        rw [if_pos (by omega), if_pos (by omega), if_pos e]
      · have := ih (i + 1) (by omega) (by omega)
        have e2 : decide (x ∈ l.drop i) = decide (x ∈ l.drop (i + 1)) := by
          rw [decide_eq_decide, hdr]
          constructor
          · intro h
            rcases List.mem_cons.mp h with h | h
            · exact absurd (by rw [rd_get hlt]; exact h.symm) e
            · exact h
          · intro h; exact List.mem_cons_of_mem _ h
        rw [e2]
        refine Ev.step (fun n => ?_) this
        simp only [laws_has.l0]
        rw [if_pos (by omega), if_pos (by omega), if_neg e, w64 (by omega) (by omega)]; rfl
    · rw [List.drop_eq_nil_of_le (by omega), decide_eq_false (by simp)]
      refine Ev.step (f := fun _ => some false) (fun n => ?_) (Ev.now _)
      simp only [laws_has.l0]
      rw [if_neg (by omega)]
theorem has_ev (l : List Int) (x : Int) (hl : l.length ≤ 140737488351232) : Ev (fun n => laws_has.f n l x) (decide (x ∈ l)) := by
  have := has_go l x hl l.length 0 (by omega) (by omega)
  rw [List.drop_zero] at this
  exact Ev.congr (fun n => rfl) this
end Go.Proofs.Ytijfagfkoiklaaa.P
