import Derived.Test.YtijfagfkoiklaaaMDraw
import Derived.Test.YtijfagfkoiklaaaFSTree
import Derived.Test.YtijfagfkoiklaaaFSettle
import Derived.Test.YtijfagfkoiklaaaPf21
import Derived.Test.YtijfagfkoiklaaaPf7
namespace Go.Proofs.Ytijfagfkoiklaaa.P
open Go.RowKit Go.Proofs.YtijfagfkoiklaaaW.PrintWords Go.Proofs.YtijfagfkoiklaaaW.PrintLast Go.Proofs.YtijfagfkoiklaaaW.PrintMore
set_option linter.unusedSimpArgs false
/-- A drawn tree is valid. -/
theorem l19Tree_go (b : List Int) : ∀ (d : Nat) (t : List S41) (x i h : Int), treeOk t = true → CurOk b i → 0 ≤ x → x ≤ 11 → 11 - x ≤ d →
    ∃ t' i' h', Ev (fun k => spec_l19Tree.l0 k t x b i h) (t', i', h') ∧ treeOk t' = true ∧ CurOk b i' := by
  intro d
  induction d with
  | zero =>
    intro t x i h ht hc h0 h1 hd
    obtain ⟨y, i1, h1', e1, c1, r1, s1, _⟩ := below_some h 8 hc
    have := s1 (by omega)
    refine ⟨t, i1, h1', Ev.step (f := fun _ => some (t, i1, h1')) (fun k => ?_) (Ev.now _), ht, c1⟩
    simp only [spec_l19Tree.l0]
    rw [e1]; simp only [Option.bind_some]
    rw [w64 (by omega) (by omega), if_neg (by omega)]
  | succ d ih =>
    intro t x i h ht hc h0 h1 hd
    obtain ⟨y, i1, h1', e1, c1, r1, s1, _⟩ := below_some h 8 hc
    have hy := s1 (by omega)
    by_cases hlt : x < 3 + y
    · have hl := tree_len ht
      obtain ⟨z, i2, h2, e2, c2, r2, s2, _⟩ := below_some h1' (t.length : Int) c1
      obtain ⟨v, i3, h3, e3, c3, r3, s3, _⟩ := below_some h2 4 c2
      obtain ⟨u, i4, h4, e4, c4, hu⟩ := pick_some h3 [0, 0, 1, 1, 2, 4] c3 (by simp)
      cases hn : treeOk ([] ++ t ++ [(⟨z, v, u⟩ : S41)]) with
      | true =>
        obtain ⟨t', i', h', ev, ht', hc'⟩ := ih ([] ++ t ++ [(⟨z, v, u⟩ : S41)]) (x + 1) i4 h4 hn c4 (by omega) (by omega) (by omega)
        refine ⟨t', i', h', Ev.step (fun k => ?_) ev, ht', hc'⟩
        simp only [spec_l19Tree.l0]
        rw [e1]; simp only [Option.bind_some]
        rw [w64 (a := 3 + y) (by omega) (by omega), if_pos hlt, e2]; simp only [Option.bind_some]
        rw [e3]; simp only [Option.bind_some]
        rw [e4]; simp only [Option.bind_some]
        rw [if_pos (by simp; omega), if_pos (by simp; omega)]
        simp only [spec_TreeOk.f, Option.bind_some]
        rw [hn, if_pos rfl, w64 (by omega) (by omega)]
      | false =>
        obtain ⟨t', i', h', ev, ht', hc'⟩ := ih t (x + 1) i4 h4 ht c4 (by omega) (by omega) (by omega)
        refine ⟨t', i', h', Ev.step (fun k => ?_) ev, ht', hc'⟩
        simp only [spec_l19Tree.l0]
        rw [e1]; simp only [Option.bind_some]
        rw [w64 (a := 3 + y) (by omega) (by omega), if_pos hlt, e2]; simp only [Option.bind_some]
        rw [e3]; simp only [Option.bind_some]
        rw [e4]; simp only [Option.bind_some]
        rw [if_pos (by simp; omega), if_pos (by simp; omega)]
        simp only [spec_TreeOk.f, Option.bind_some]
        rw [hn, if_neg (by simp), w64 (by omega) (by omega)]
    · refine ⟨t, i1, h1', Ev.step (f := fun _ => some (t, i1, h1')) (fun k => ?_) (Ev.now _), ht, c1⟩
      simp only [spec_l19Tree.l0]
      rw [e1]; simp only [Option.bind_some]
      rw [w64 (by omega) (by omega), if_neg hlt]
theorem l19Tree_ev {b : List Int} {i : Int} (h : Int) (hc : CurOk b i) : ∃ t i' h', Ev (fun k => spec_l19Tree.f k b i h) (t, i', h') ∧ treeOk t = true ∧ CurOk b i' := by
  obtain ⟨t, i', h', e, ht, hc'⟩ := l19Tree_go b 11 [⟨-1, 0, 0⟩] 0 i h (by decide) hc (by omega) (by omega) (by omega)
  exact ⟨t, i', h', e, ht, hc'⟩
theorem new_some (k : Nat) {b : List Int} (hb : b.length ≤ 140737488351232) : ∃ h, spec_l01New.f k b = some (b, 0, h) ∧ CurOk b 0 := ⟨_, rfl, Int.le_refl _, hb⟩
/-- Drawn places are twelve numbers from 0 to 9999. -/
theorem places_go (b : List Int) : ∀ (d : Nat) (l : List Int) (x i h : Int), (∀ y ∈ l, 0 ≤ y ∧ y < 10000) → (l.length : Int) = x → CurOk b i → 0 ≤ x → x ≤ 12 → 12 - x ≤ d →
    ∃ l', Ev (fun k => spec_DrawPlaces.l0 k l x b i h) l' ∧ l'.length = 12 ∧ ∀ y ∈ l', 0 ≤ y ∧ y < 10000 := by
  intro d
  induction d with
  | zero =>
    intro l x i h hl hx hc h0 h1 hd
    refine ⟨l, Ev.step (f := fun _ => some l) (fun k => ?_) (Ev.now _), by omega, hl⟩
    simp only [spec_DrawPlaces.l0]
    rw [if_neg (by omega)]
  | succ d ih =>
    intro l x i h hl hx hc h0 h1 hd
    by_cases hlt : x < 12
    · obtain ⟨y, i1, h1', e1, c1, r1, s1, _⟩ := below_some h 10000 hc
      have hy := s1 (by omega)
      obtain ⟨l', ev, h2, h3⟩ := ih (l ++ [y]) (x + 1) i1 h1' (by
        intro z hz
        rcases List.mem_append.mp hz with hz | hz
        · exact hl z hz
        · rw [List.mem_singleton] at hz; subst hz; exact ⟨r1, hy⟩) (by simp; omega) c1 (by omega) (by omega) (by omega)
      refine ⟨l', Ev.step (fun k => ?_) ev, h2, h3⟩
      simp only [spec_DrawPlaces.l0]
      rw [if_pos hlt, e1]; simp only [Option.bind_some]
      rw [if_pos (by omega), w64 (by omega) (by omega)]
    · refine ⟨l, Ev.step (f := fun _ => some l) (fun k => ?_) (Ev.now _), by omega, hl⟩
      simp only [spec_DrawPlaces.l0]
      rw [if_neg hlt]
theorem places_ev {b : List Int} (hb : b.length ≤ 140737488351232) : ∃ l, Ev (fun k => spec_DrawPlaces.f k b) l ∧ l.length = 12 ∧ ∀ y ∈ l, 0 ≤ y ∧ y < 10000 := by
  obtain ⟨h, _, hc⟩ := new_some 0 hb
  obtain ⟨l, ev, h1, h2⟩ := places_go b 12 [] 0 0 (l01h 4001 b (wrap64 (98663 + (b.length : Int))) 0) (by simp) rfl ⟨Int.le_refl _, hb⟩ (by omega) (by omega) (by omega)
  refine ⟨l, Ev.congr (fun k => ?_) ev, h1, h2⟩
  simp only [spec_DrawPlaces.f, spec_l01New.f, Option.bind_some]
end Go.Proofs.Ytijfagfkoiklaaa.P
