/- Proved: for every input the law FnExactScriptText returns true and leaves its argument as it was: the program's ScriptText returns what the reference's returns. The listed variables lie as the card ties them. -/
import Derived.Test.YtbmebmhdkpmclaaDoorLFnExactScriptText
import Derived.Test.YtbmebmhdkpmclaaDoorFLaid
import Derived.Test.YtbmebmhdkpmclaaDoorOpens
import Derived.Test.YtbmebmhdkpmclaaDoorCards
import Derived.Test.YtbmebmhdkpmclaaDoorTie
import Derived.WalkKit
import Derived.ProofKit
import Derived.OpenVars
import Derived.OpenShut
import Derived.LaidMore
import Derived.Lay
import Derived.LaidOnce
import Derived.SevenTiedAt
import Derived.Lib.SmallJoins
import Derived.Below
import Derived.SizedLaws
namespace Go.Proofs.YtbmebmhdkpmclaaDoor.fnExactScriptText
open Go.ChangeShapes Go.WideShapes Go.ChangeAt Go.RowKit
set_option linter.unusedVariables false
set_option linter.unusedSimpArgs false
theorem own : ownKnob Tryd.prog.godebug = none := by kernel_rfl
theorem laidOut : laidOutB Tryd.prog = true := by kernel_rfl
theorem plain (W : World) : laidMetH Tryd.prog Rows.fnExactScriptTextRow.laid W = laidMet Tryd.prog Rows.fnExactScriptTextRow.laid W := MakeChecks.laidMetH_plain _ _ _ (by kernel_rfl)
set_option maxRecDepth 100000 in
theorem lifted (os : Os) (started : os.Started) (H : Type) (enc : TypeId × Value → H) :
    ReturnsInHanded {} Tryd.checked os 4 .any (fun w args => (Rows.fnExactScriptTextSpec.pre enc Tryd.prog Tryd.f4 Rows.fnExactScriptTextRow.domain false w args ∧ laidMetH Tryd.prog Rows.fnExactScriptTextRow.laid w) ∧ sizedMet enc Tryd.prog Tryd.f4 (OpenSpec.ofChange Rows.fnExactScriptTextSpec) false w args)
      (Rows.fnExactScriptTextSpec.post enc Tryd.prog Tryd.f4 false true false false) := by
  refine returnsInHanded_of_change_and (C := Tryd.checked) (X := fun w _ => laidMetH Tryd.prog Rows.fnExactScriptTextRow.laid w) (fun _ _ _ hh h => h.of_heap hh) own started (by kernel_rfl) Tryd.func4
    (ChangeSpec.witness_at (enc := enc) (C := Tryd.checked) (os := os) (X := fun w _ => laidMetH Tryd.prog Rows.fnExactScriptTextRow.laid w) false (World.laidAll Tryd.prog os Rows.fnExactScriptTextRow.laid) #[.slice none 0 0] 8 (World.laidAll_os _ _ _) (by kernel_rfl) (by kernel_rfl) (by kernel_rfl) (by kernel_rfl) (by kernel_rfl)
      (by show laidMetH _ _ _; rw [plain]; exact laidMet_laidAll _ (by kernel_rfl) (by kernel_rfl))) ?_
  intro W base args ds gs before hval0 hW _ hsz0 hL _
  have hval : ∀ (j : Nat) t v, Tryd.f4.params[j]? = some t → args[j]? = some v → Value.okWide Tryd.prog W .any base t v := hval0
  have hW' := hW
  obtain ⟨p, q, hA0, hV, rfl, _, _⟩ := hW
  have hA : DataW.TrodAll enc Tryd.prog W 0 (fun _ => true) true Tryd.f4.params.toList args.toList ds p := hA0
  rw [Tryd.params4] at hA hval
  obtain ⟨v0, vs0, d0, ds0, p0, q0, hargs, rfl, rfl, h0, r0⟩ := trodAll_cons hA
  obtain ⟨rfl, rfl, rfl⟩ := trodAll_nil r0
  obtain rfl : args = #[v0] := by cases args; simp_all
  have k0 := h0
  have lt0 : ∀ x ∈ p0, x.block < W.heap.size := by obtain ⟨m, hm⟩ := k0; exact DataW.trod_lt m _ _ _ hm
  have ho : P.Opens P.k23 23 := by
    refine P.Opens.struct (g := fun x => (⟨x.1, x.2.1, x.2.2.1, x.2.2.2⟩ : P.S23)) (fun _ => rfl) Tryd.underlying23 (by kernel_rfl) ?_
    refine P.OpensF.cons (by rfl) rfl (by kernel_rfl) (P.Opens.int Tryd.underlying3) ?_
    refine P.OpensF.cons (by rfl) rfl (by kernel_rfl) (P.Opens.int Tryd.underlying3) ?_
    refine P.OpensF.cons (by rfl) rfl (by kernel_rfl) (P.Opens.int Tryd.underlying3) ?_
    exact P.OpensF.last (by rfl) rfl (by kernel_rfl) (P.Opens.int Tryd.underlying3)
  obtain ⟨l0, A0, cap0, rfl, hc0, hr0⟩ := P.opens_arg Tryd.underlying29 (by kernel_rfl) ho (hval 0 29 v0 rfl rfl) h0
  have hL0 : laidMet Tryd.prog Rows.fnExactScriptTextRow.laid W := by have h : laidMetH _ _ _ := hL; rwa [plain] at h
  have hp := P.pow_of_laid hL0.tail.tail
  have hw := P.words_of_laid hL0.tail.tail.tail
  have hV' : DataW.TrodVars enc Tryd.prog W (fun _ => true) ["loop.example/g00986/impl.actWords"] gs q := hV
  obtain ⟨g1, rfl⟩ : ∃ g1, gs = [g1] := by
    match gs, hV' with
    | [], h => exact h.elim
    | [g], _ => exact ⟨g, rfl⟩
    | _ :: _ :: _, h => obtain ⟨_, _, _, _, _, _, _, _, _, _, h, _⟩ := h; exact h.elim
  refine (P.FnExactScriptText_walk A0 cap0 l0 W hr0 hc0 hp hw).mono fun e W' ⟨he, bel⟩ => ?_
  subst he
  exact ⟨_, rfl, _, _, _, [], _, _, hW', trodAll_mk1 (shut_bool Tryd.underlying4 _), (trodAll_cons_mk (Below.trod laidOut (by kernel_rfl) (of_decide_eq_true (by kernel_rfl)) k0 bel lt0) trodAll_mk0), bel.trodVars laidOut (by kernel_rfl) hV', bel.frame _, fun h => by cases h⟩
theorem over : Rows.fnExactScriptTextRow.holds Tryd.pinned (OpenSpec.ofChange Rows.fnExactScriptTextSpec) :=
  OpenClaim.holds_of_wide 4 Tryd.f4 rfl rfl rfl rfl rfl rfl rfl ⟨rfl, rfl, rfl, rfl, rfl⟩ rfl rfl rfl rfl rfl (by kernel_rfl) Tryd.func4 (by kernel_rfl)
    (of_decide_eq_true (by kernel_rfl)) (by unfold Func.isWrapper; first | (rw [if_pos (by decide +kernel)]; kernel_rfl) | (rw [if_neg (by decide +kernel)]; exact ⟨rfl, rfl⟩))
    (fun os started H enc _ => lifted os started H enc)
theorem proved : Rows.FnExactScriptTextCardSaid :=
  Claim7.holds_tied_plain_at .later [] Rows.fnExactScriptTextCard.laidKinds true Rows.fnExactScriptTextCard.stood.harness true over (fun _ h => by cases h) (by kernel_rfl) (fun _ h => by cases h) fnExactScriptText_row_tie rfl ⟨rfl, rfl⟩ (by kernel_rfl) rfl
    (fun f fn hf hfn => by
      obtain rfl : f = 4 := Option.some.inj ((show Tryd.prog.funcNamed "loop.example/g00986/laws.FnExactScriptText" = some 4 by kernel_rfl).symm.trans hf) |>.symm
      obtain rfl : fn = Tryd.f4 := (Option.some.inj (Tryd.func4.symm.trans hfn)).symm
      exact ⟨by kernel_rfl, fun j t ht => by
        rw [Tryd.params4] at ht
        have hm : t ∈ [29] := by simpa using Array.mem_of_getElem? ht
        have hall : ([29].all fun u => !Tryd.prog.wantsStandIn u) = true := by kernel_rfl
        exact (show Tryd.prog.wantsStandIn t = false by simpa using List.all_eq_true.1 hall t hm)⟩)
    (by kernel_rfl)
#print axioms proved
end Go.Proofs.YtbmebmhdkpmclaaDoor.fnExactScriptText
namespace Go.Proofs.YtbmebmhdkpmclaaDoor
/-- The card, under a short name, for the claim. -/
theorem fnExactScriptText_holds : Rows.FnExactScriptTextCardSaid := fnExactScriptText.proved
end Go.Proofs.YtbmebmhdkpmclaaDoor
