import Derived.Test.YtbmebmhdkpmclaaDoorMScript
namespace Go.Proofs.YtbmebmhdkpmclaaDoor.P
open Go.RowKit Go.Proofs.YtbmebmhdkpmclaaDoorW.PrintWords Go.Proofs.YtbmebmhdkpmclaaDoorW.PrintLast Go.Proofs.YtbmebmhdkpmclaaDoorW.PrintMore
set_option linter.unusedVariables false
set_option linter.unusedSimpArgs false
theorem R_val' {α : Type} {d : Kd α} {e base : Nat} {ok : Nat → Prop} {w : World} {v : Value} {xs : List α} (h : d.R e w base ok v xs) : ∃ A c, v = .slice A xs.length c ∧ xs.length ≤ c ∧ d.C w A xs.length xs := Kd.R_reads h
set_option maxHeartbeats 2000000 in
theorem FnExactScriptText_walk (A0 : Option Addr) (c0 : Nat) (l0 : List S23) (w : World) (hr0 : Kd.C k23 w A0 l0.length l0) (hc0 : l0.length ≤ c0) (hp : PowIs w) (hw : WordsIs w) :
    Calls Tryd.prog 4 #[.slice A0 l0.length c0] w fun e w' => e = .returned (.bool true) ∧ Below w.heap.size w w' := by
  have HR0 := Aside0.mk hr0
  have HC0 := Aside0.mk hc0
  have HP := Aside0.mk hp
  have HW := Aside0.mk hw
  have hm : l0.length ≤ 9223372036854775807 := hr0.2.1
  clear hr0 hc0 hp hw
  have hwr : wrap64 (1048576 - (l0.length : Int)) = 1048576 - (l0.length : Int) := w64 (by omega) (by omega)
  by_cases hl : (1048576 : Int) - (l0.length : Int) < 0
  · have HSZ : Aside0 (laws_szActS.f l0 1048576 = some (-1)) := ⟨by unfold laws_szActS.f; rw [hwr, if_pos hl]⟩
    clear hl hwr
    go_enter Tryd.func4, Tryd.ntmps4
    go_wp2_with (fail)
    refine (laws_szActS.calls _ _ l0 1048576 (-1) _ HR0.out HC0.out HSZ.out).mono ?_
    rintro e w1 ⟨rfl, hd⟩
    have HB := Aside0.mk hd.below
    clear hd
    go_wp2
    go_ret
    exact ⟨rfl, HB.out⟩
  · have hl20 : l0.length ≤ 1048576 := by omega
    obtain ⟨lf, hlf⟩ : ∃ lf : Int, (1048576 : Int) - (l0.length : Int) = lf := ⟨_, rfl⟩
    rw [hlf] at hl hwr
    have HSZ : Aside0 (laws_szActS.f l0 1048576 = some lf) := ⟨by unfold laws_szActS.f; rw [hlf, hwr, if_neg hl]⟩
    obtain ⟨K1, h1⟩ := (toActS_ev l0 (by omega)).rounds
    have HK1 := Aside0.mk h1
    obtain ⟨t, ht⟩ : ∃ t, l0.map toA = t := ⟨_, rfl⟩
    have htl : t.length = l0.length := by rw [← ht]; simp
    rw [ht] at HK1
    obtain ⟨K2, h2⟩ := (script_ev t).rounds
    obtain ⟨s, ok, hs⟩ : ∃ s ok, scriptText t = (s, ok) := ⟨_, _, rfl⟩
    rw [hs] at h2
    have HK2 := Aside0.mk h2
    have HS := Aside0.mk hs
    obtain ⟨K3, h3⟩ := (eqActS_ev t (by omega)).rounds
    have HK3 := Aside0.mk h3
    clear h1 h2 h3 hs ht hlf hwr htl hl20
    go_enter Tryd.func4, Tryd.ntmps4
    go_wp2_with (fail)
    refine (laws_szActS.calls _ _ l0 1048576 lf _ HR0.out HC0.out HSZ.out).mono ?_
    rintro e w1 ⟨rfl, hd⟩
    have HB := Aside0.mk hd.below
    clear hd
    go_wp2_with (fail)
    refine (laws_toActS.calls K1 _ _ l0 t _ (Kd.C_below HR0.out HB.out) HC0.out HK1.out).mono ?_
    rintro e w2 ⟨v0, rfl, r0, b⟩
    obtain ⟨At, ct, rfl, hct, rt⟩ := R_val' r0
    replace HB := Aside0.mk (below_step HB.out b)
    have HT := Aside0.mk rt
    have HCT := Aside0.mk hct
    clear r0 b rt hct
    go_wp2_with (fail)
    refine (spec_ScriptText.calls K2 _ _ t s ok _ HT.out HCT.out HK2.out).mono ?_
    rintro e w3 ⟨rfl, b⟩
    replace HB := Aside0.mk (below_step HB.out b)
    clear b HT HCT
    go_wp2_with (fail)
    refine (laws_toActS.calls K1 _ _ l0 t _ (Kd.C_below HR0.out HB.out) HC0.out HK1.out).mono ?_
    rintro e w4 ⟨v0, rfl, r0, b⟩
    obtain ⟨Ax, cx, rfl, hcx, rx⟩ := R_val' r0
    replace HB := Aside0.mk (below_step HB.out b)
    have HX := Aside0.mk rx
    have HCX := Aside0.mk hcx
    clear r0 b rx hcx
    go_wp2_with (fail)
    have hf := ScriptText_calls Ax cx t w4 HX.out (HP.out.below HB.out) (HW.out.below HB.out)
    rw [HS.out] at hf
    refine hf.mono ?_
    clear hf
    rintro e w5 ⟨rfl, b⟩
    replace HB := Aside0.mk (below_step HB.out b)
    replace HX := Aside0.mk (Kd.C_below HX.out b)
    clear b
    have hok : (ok != ok) = false := by cases ok <;> rfl
    go_wp2_with (fail)
    refine (laws_toActS.calls K1 _ _ l0 t _ (Kd.C_below HR0.out HB.out) HC0.out HK1.out).mono ?_
    rintro e w6 ⟨v0, rfl, r0, b⟩
    obtain ⟨Ay, cy, rfl, hcy, ry⟩ := R_val' r0
    replace HB := Aside0.mk (below_step HB.out b)
    replace HX := Aside0.mk (Kd.C_below HX.out b)
    have HY := Aside0.mk ry
    have HCY := Aside0.mk hcy
    clear r0 b ry hcy hok
    go_wp2_with (fail)
    refine (laws_eqActS.calls K3 _ _ t _ _ t true _ HX.out HCX.out HY.out HCY.out HK3.out).mono ?_
    rintro e w7 ⟨rfl, b⟩
    replace HB := Aside0.mk (below_step HB.out b)
    clear b
    go_wp2
    go_ret
    exact ⟨rfl, HB.out⟩
end Go.Proofs.YtbmebmhdkpmclaaDoor.P
