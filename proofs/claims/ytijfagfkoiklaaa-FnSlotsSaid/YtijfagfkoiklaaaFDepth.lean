import Derived.Test.YtijfagfkoiklaaaFInts
namespace Go.Proofs.Ytijfagfkoiklaaa.P
open Go.RowKit Go.Proofs.YtijfagfkoiklaaaW.PrintWords Go.Proofs.YtijfagfkoiklaaaW.PrintLast Go.Proofs.YtijfagfkoiklaaaW.PrintMore
set_option linter.unusedVariables false
set_option linter.unusedSimpArgs false
theorem areDepths1_calls (x : Int) (W : World) : Calls Try.prog 41 #[.int .i64 x] W fun e w' => e = .returned (.bool (!inR x 0 3)) ∧ W = w' := by
  go_enter Try.func41, Try.ntmps41
  go_wp2_with (go_at_call 26; refine (within_calls _ _ _ _).mono ?_; rintro e w' ⟨rfl, rfl⟩)
  go_ret
  exact ⟨rfl, rfl⟩
def areD (t : List S41) (l : List Int) : Bool := treeOk t && (l.length == t.length) && !l.any (fun x => !inR x 0 3)
set_option maxHeartbeats 1000000 in
theorem areDepths_calls (A0 : Option Addr) (c0 : Nat) (l0 : List S41) (A1 : Option Addr) (c1 : Nat) (l1 : List Int) (w : World) (hr0 : Kd.C k41 w A0 l0.length l0) (hc0 : l0.length ≤ c0) (hr1 : Kd.C (Kd.int .i64) w A1 l1.length l1) (hc1 : l1.length ≤ c1) :
    Calls Try.prog 24 #[.slice A0 l0.length c0, .slice A1 l1.length c1] w fun e w' => e = .returned (.bool (areD l0 l1)) ∧ Below w.heap.size w w' := by
  have HR1 := Aside0.mk hr1
  have HT := Aside0.mk (TreeOk_calls A0 c0 l0 w hr0 hc0)
  have e41 : ∀ args w, (callFunc 41 args).run Try.prog w = .ok (.enter 41 args) w := fun args w => enters_ Try.func41 (by kernel_rfl) rfl args w
  have E41 := Aside0.mk e41
  clear hr0 hc0 hr1 hc1 e41
  cases h1 : treeOk l0 with
  | false =>
    have H1 := Aside0.mk h1
    rw [h1] at HT
    clear h1
    go_enter Try.func24, Try.ntmps24
    go_wp2_with (go_at_call 33; refine HT.out.mono ?_; rintro e w' ⟨rfl, hb'⟩)
    go_ret
    exact ⟨by unfold areD; rw [H1.out]; rfl, hb'⟩
  | true =>
    have H1 := Aside0.mk h1
    rw [h1] at HT
    clear h1
    cases h2 : l1.length == l0.length with
    | false =>
      have H2 := Aside0.mk h2
      have h2' : ((l1.length : Int) == (l0.length : Int)) = false := by simp at h2 ⊢; omega
      go_enter Try.func24, Try.ntmps24
      go_wp2_with (go_at_call 33; refine HT.out.mono ?_; rintro e w' ⟨rfl, hb'⟩)
      go_ret
      exact ⟨by unfold areD; rw [H1.out, H2.out]; rfl, hb'⟩
    | true =>
      have H2 := Aside0.mk h2
      have h2' : ((l1.length : Int) == (l0.length : Int)) = true := by simp at h2 ⊢; omega
      go_enter Try.func24, Try.ntmps24
      go_wp2_with (first | (go_at_call 33; refine HT.out.mono ?_; rintro e w' ⟨rfl, hb'⟩; have HB1 := Aside0.mk hb'; clear hb') | (go_at_call 40; refine (conI_calls 41 #[] (fun x => !inR x 0 3) E41.out A1 c1 _ l1 _ rfl (Kd.C_below HR1.out HB1.out) (fun W x hb => (areDepths1_calls x W).mono fun e w' ⟨he, hw⟩ => ⟨he, hw ▸ hb⟩)).mono ?_; rintro e w' ⟨rfl, hb'⟩))
      go_ret
      exact ⟨by unfold areD; rw [H1.out, H2.out]; rfl, below_step HB1.out hb'⟩
def impl_areDepths.f (l0 : List S41) (l1 : List Int) : Option Bool := some (areD l0 l1)
theorem impl_areDepths.calls (A0 : Option Addr) (c0 : Nat) (l0 : List S41) (A1 : Option Addr) (c1 : Nat) (l1 : List Int) (r : Bool) (w : World) (hr0 : Kd.C k41 w A0 l0.length l0) (hc0 : l0.length ≤ c0) (hr1 : Kd.C (Kd.int .i64) w A1 l1.length l1) (hc1 : l1.length ≤ c1) (h : impl_areDepths.f l0 l1 = some r) :
    Calls Try.prog 24 #[.slice A0 l0.length c0, .slice A1 l1.length c1] w fun e w' => e = .returned (.bool r) ∧ Below w.heap.size w w' := by
  obtain rfl := Option.some.inj h
  exact areDepths_calls A0 c0 l0 A1 c1 l1 w hr0 hc0 hr1 hc1
end Go.Proofs.Ytijfagfkoiklaaa.P
