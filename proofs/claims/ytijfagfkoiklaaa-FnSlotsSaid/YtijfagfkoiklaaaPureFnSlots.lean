import Derived.Test.YtijfagfkoiklaaaPf4
import Derived.Test.YtijfagfkoiklaaaMSlots
namespace Go.Proofs.Ytijfagfkoiklaaa.Pure
open Go.RowKit Go.Proofs.Ytijfagfkoiklaaa.P Go.Proofs.YtijfagfkoiklaaaW.PrintWords Go.Proofs.YtijfagfkoiklaaaW.PrintLast
theorem slots_go {l0 : List Int} {t : List S41} {p : List Int} {kn : Nat} {c : Int} (F : SlotsWay l0 t p kn c) : ∀ (m d : Nat), d ≤ 4 → 4 - d ≤ m → Ev (fun k => laws_FnSlots.l0 k t kn (slotsOf t kn) d) true := by
  have hkl := F.kl
  have hll := F.ll
  have hcl := F.cl
  have last : Ev (fun k => laws_FnSlots.l0 k t kn (slotsOf t kn) (4 : Nat)) true := by
    refine Ev.step (f := fun k => (impl_CountBridges.f k t).bind fun t212 => (some (decide (t212 ≥ 1)))) (fun k => ?_) (Ev.bind F.bridges ?_)
    · simp only [laws_FnSlots.l0, impl_ChildrenOf.f, Option.bind_some]
      rw [if_neg (by omega), if_pos (by omega), if_pos (by omega), w64 (by omega) (by omega), ← F.four, if_pos (by cases (rd_T41 t kn).f2 == 0 <;> rfl)]
    · rw [decide_eq_true (show c ≥ 1 from F.c1)]; exact Ev.now _
  intro m
  induction m with
  | zero =>
    intro d h1 h2
    obtain rfl : d = 4 := by omega
    exact last
  | succ m ih =>
    intro d h1 h2
    by_cases e : d = 4
    · subst e; exact last
    · have hd : d ≤ 3 := by omega
      obtain ⟨r, ha⟩ := F.add d hd
      have hh := F.has d hd
      have hi := ih (d + 1) (by omega) (by omega)
      obtain ⟨x, hx⟩ : ∃ x, ((rd_T41 t kn).f2 == 0 && freeAt t kn d) = x := ⟨_, rfl⟩
      rw [hx] at ha hh
      refine Ev.step (f := fun k => (laws_has.f k (slotsOf t kn) d).bind fun t217 => if t217 = true then (if ((decide (t.length < 12) && x) != (decide ((t.length : Int) < 12))) = true then some false else laws_FnSlots.l0 k t kn (slotsOf t kn) ((d + 1 : Nat) : Int)) else (if ((decide (t.length < 12) && x) != false) = true then some false else laws_FnSlots.l0 k t kn (slotsOf t kn) ((d + 1 : Nat) : Int))) (fun k => ?_) (Ev.bind hh ?_)
      · simp only [laws_FnSlots.l0]
        rw [if_pos (by omega), ha]; simp only [Option.bind_some]
        rw [w64 (by omega) (by omega)]
        rfl
      · cases x with
        | true =>
          refine Ev.pos rfl (Ev.neg ?_ hi)
          rw [Bool.and_true, show decide (t.length < 12) = decide ((t.length : Int) < 12) by rw [decide_eq_decide]; omega]
          simp
        | false => exact Ev.neg (by simp) (Ev.neg (by simp) hi)
theorem FnSlots : laws_FnSlots.Pure := by
  intro l0 _ hsz _
  obtain ⟨t, p, kn, c, F⟩ := slots_way (l0 := l0) (by omega)
  have htl := F.tl
  have hpl := F.pl
  have hg := slots_go F 4 0 (by omega) (by omega)
  cases hb : decide ((l0.length : Int) > 1048576) with
  | true => exact ⟨0, by simp only [laws_FnSlots.f, laws_big.f, hb, Option.bind_some]; rfl⟩
  | false =>
    refine Ev.rounds (g := fun k => laws_FnSlots.f k l0) (Ev.congr (fun k => ?_) (Ev.bind F.draw (f := fun k t198 => (spec_DrawPlaces.f k l0).bind fun t201 => (if 0 < (t201.length : Int) then (if (t198.length : Int) = 0 then (none) else ((impl_SlotsOf.f t198 (Int.tmod (rd t201 0) (t198.length : Int))).bind fun t205 => (laws_FnSlots.l0 k t198 (Int.tmod (rd t201 0) (t198.length : Int)) t205 0))) else (none))) (Ev.bind F.places ?_)))
    · simp only [laws_FnSlots.f, laws_big.f, hb, Option.bind_some]
      rfl
    · refine Ev.pos (by omega) (Ev.neg (by omega) ?_)
      rw [F.node]
      simp only [impl_SlotsOf.f, Option.bind_some]
      exact hg
end Go.Proofs.Ytijfagfkoiklaaa.Pure
