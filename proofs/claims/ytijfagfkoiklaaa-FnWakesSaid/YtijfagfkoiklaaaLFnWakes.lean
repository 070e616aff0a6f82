import Derived.Test.YtijfagfkoiklaaaMWakes
import Derived.Test.YtijfagfkoiklaaaPf5
import Derived.BigQuiet
import Derived.Deep.QuietTactic
namespace Go.Proofs.Ytijfagfkoiklaaa.P
open Go.RowKit Go.Proofs.YtijfagfkoiklaaaW.PrintWords Go.Proofs.YtijfagfkoiklaaaW.PrintLast Go.Proofs.YtijfagfkoiklaaaW.PrintMore
set_option linter.unusedVariables false
set_option linter.unusedSimpArgs false
theorem Drawn0.upC {α : Type} {k : Kd α} {w W : World} {A : Option Addr} {n : Nat} {xs : List α} (h : k.C w A n xs) (d : Drawn0 w W) : k.C W A n xs := Kd.C_below h d.below
theorem R_val {α : Type} {d : Kd α} {e base : Nat} {ok : Nat → Prop} {w : World} {v : Value} {xs : List α} (h : d.R e w base ok v xs) : ∃ A c, v = .slice A xs.length c ∧ xs.length ≤ c ∧ d.C w A xs.length xs := Kd.R_reads h
set_option maxHeartbeats 4000000 in
set_option maxRecDepth 100000 in
theorem FnWakes_walk (A0 : Option Addr) (c0 : Nat) (l0 : List Int) (w : World) (hr0 : Kd.C (Kd.int .u8) w A0 l0.length l0) (hc0 : l0.length ≤ c0) (hsz : l0.length ≤ 140737488351232) :
    Calls Try.prog 3 #[.slice A0 l0.length c0] w fun e w' => e = .returned (.bool true) ∧ Below w.heap.size w w' := by
  have HR0 := Aside0.mk hr0
  have HC0 := Aside0.mk hc0
  have hbig := laws_big.calls A0 c0 l0 (decide ((l0.length : Int) > 1048576)) w hr0 hc0 rfl
  have HBIG := Aside0.mk hbig
  clear hr0 hc0 hbig
  cases hb : decide ((l0.length : Int) > 1048576) with
  | true =>
    rw [hb] at HBIG
    clear hb
    go_enter Try.func3, Try.ntmps3
    go_wp2_with (go_at_call 5; refine HBIG.out.mono ?_; rintro e w' ⟨rfl, hd⟩; have HD := Aside0.mk hd; clear hd)
    go_ret
    exact ⟨rfl, HD.out.below⟩
  | false =>
    rw [hb] at HBIG
    clear hb
    obtain ⟨t, wd, p, kn, s, x, y, z, m, F⟩ := wakes_way hsz
    have HF := Aside0.mk F
    clear F
    go_enter Try.func3, Try.ntmps3
    go_wp2_with (fail)
    refine HBIG.out.mono ?_
    rintro e w1 ⟨rfl, hd⟩
    have HB := Aside0.mk hd.below
    have H0 := Aside0.mk (Drawn0.upC HR0.out hd)
    clear hd HBIG
    go_wp2_with (fail)
    obtain ⟨k1, e1⟩ := HF.out.draw
    refine (spec_DrawDepths.calls k1 _ _ l0 t wd _ H0.out HC0.out e1).mono ?_
    clear e1
    rintro e w2 ⟨v0, v1, rfl, r0, r1, b⟩
    obtain ⟨At, ct, rfl, hct, rt⟩ := R_val r0
    obtain ⟨Aw, cw, rfl, hcw, rw1⟩ := R_val r1
    replace HB := Aside0.mk (below_step HB.out b)
    replace H0 := Aside0.mk (Kd.C_below H0.out b)
    have HT := Aside0.mk rt
    have HW := Aside0.mk rw1
    have HCT := Aside0.mk hct
    have HCW := Aside0.mk hcw
    clear r0 r1 b rt rw1 hct hcw
    go_wp2_with (fail)
    obtain ⟨k1, e1⟩ := HF.out.places
    refine (spec_DrawPlaces.calls k1 _ _ l0 p _ H0.out HC0.out e1).mono ?_
    clear e1
    rintro e w3 ⟨v0, rfl, r0, b⟩
    obtain ⟨Ap, cp, rfl, hcp, rp⟩ := R_val r0
    replace HB := Aside0.mk (below_step HB.out b)
    replace HT := Aside0.mk (Kd.C_below HT.out b)
    replace HW := Aside0.mk (Kd.C_below HW.out b)
    have HP := Aside0.mk rp
    clear r0 b rp hcp H0
    go_wp2_with (fail)
    have hset := settle_calls At ct t Aw cw wd w3 HT.out HCT.out HW.out HCW.out
    rw [HF.out.settled] at hset
    refine hset.mono ?_
    clear hset
    rintro e w4 ⟨v0, rfl, r0, b⟩
    obtain ⟨As, cs, rfl, hcs, rs⟩ := R_val r0
    replace HB := Aside0.mk (below_step HB.out b)
    replace HT := Aside0.mk (Kd.C_below HT.out b)
    replace HP := Aside0.mk (Kd.C_below HP.out b)
    have HS := Aside0.mk rs
    have HCS := Aside0.mk hcs
    clear r0 b rs hcs HW HCW
    have hp0 : (0 : Int) < (p.length : Int) := by have := HF.out.pl; omega
    obtain ⟨adp, ep, hxp⟩ := at_I HP.out (Below.refl _ _) 0 (by omega)
    cases ep
    rw [Addr.add_zero'] at hxp
    have ht0 : (0 : Int) < (t.length : Int) := by have := HF.out.tl; omega
    have htz : ((t.length : Int) == 0) = false := beq_eq_false_iff_ne.mpr (by omega)
    have htz2 : ¬ (t = []) := fun h => by rw [h] at ht0; simp at ht0
    go_wp2_with (fail)
    rw [HF.out.node]
    clear htz htz2 ht0 hp0 hxp
    obtain ⟨k1, e1⟩ := HF.out.woken
    refine (impl_WakeNode.calls k1 At ct t As cs s kn x true w4 HT.out HCT.out HS.out HCS.out e1).mono ?_
    clear e1
    rintro e w5 ⟨v0, rfl, r0, b⟩
    obtain ⟨Ax, cx, rfl, hcx, rx⟩ := R_val r0
    replace HB := Aside0.mk (below_step HB.out b)
    replace HT := Aside0.mk (Kd.C_below HT.out b)
    replace HS := Aside0.mk (Kd.C_below HS.out b)
    have HX := Aside0.mk rx
    have HCX := Aside0.mk hcx
    clear r0 b rx hcx HP
    go_wp2_with (fail)
    obtain ⟨k1, e1⟩ := HF.out.path
    refine (impl_PathTo.calls k1 At ct t kn (pathTo t kn) w5 HT.out HCT.out e1).mono ?_
    clear e1
    rintro e w6 ⟨v0, rfl, r0, b⟩
    obtain ⟨Aq, cq, rfl, hcq, rq⟩ := R_val r0
    replace HB := Aside0.mk (below_step HB.out b)
    replace HT := Aside0.mk (Kd.C_below HT.out b)
    replace HS := Aside0.mk (Kd.C_below HS.out b)
    replace HX := Aside0.mk (Kd.C_below HX.out b)
    have HQ := Aside0.mk rq
    have HCQ := Aside0.mk hcq
    clear r0 b rq hcq
    go_wp2_with (fail)
    obtain ⟨k1, e1⟩ := HF.out.ok
    refine (impl_SleepOk.calls k1 At ct t Ax cx x true w6 HT.out HCT.out HX.out HCX.out e1).mono ?_
    clear e1
    rintro e w7 ⟨rfl, b⟩
    replace HB := Aside0.mk (below_step HB.out b)
    replace HT := Aside0.mk (Kd.C_below HT.out b)
    replace HS := Aside0.mk (Kd.C_below HS.out b)
    replace HX := Aside0.mk (Kd.C_below HX.out b)
    replace HQ := Aside0.mk (Kd.C_below HQ.out b)
    clear b
    have hne : ((x.length : Int) != (t.length : Int)) = false := bne_eq_false_iff_eq.mpr (by rw [HF.out.xl])
    go_wp2_with (fail)
    clear hne
    have hqm : (pathTo t kn).length ≤ 13 := HF.out.ql
    have htm : t.length ≤ 12 := HF.out.tl.2
    obtain ⟨q, hq⟩ : ∃ q, pathTo t kn = q := ⟨_, rfl⟩
    rw [hq] at HQ HCQ hqm ⊢
    have HQE := Aside0.mk hq
    clear hq
    go_loopg [11] (t.length + 1) (fun gg v11 wr => ∃ i : Nat, i ≤ t.length ∧ t.length - i < gg ∧ v11 = .int .i64 i ∧ Aside0 (Below w7.heap.size w7 wr))
    case atStart => exact ⟨0, Nat.zero_le _, by omega, rfl, ⟨Below.refl _ _⟩⟩
    case round =>
      obtain ⟨i, hi, hg, rfl, HBR⟩ := hrel
      by_cases hlt : i < t.length
      · have hltz : (i : Int) < (t.length : Int) := by omega
        obtain ⟨k1, e1⟩ := HF.out.has i
        rw [HQE.out] at e1
        have hxl := HF.out.xl
        have hsl := HF.out.sl
        obtain ⟨adx, ex, hx⟩ := at_I HX.out HBR.out i (by omega)
        cases ex
        obtain ⟨ads, es, hs⟩ := at_I HS.out HBR.out i (by omega)
        cases es
        have hxz : (i : Int) < (x.length : Int) := by omega
        have hsz1 : (i : Int) < (s.length : Int) := by omega
        have HQR := Aside0.mk (Kd.C_below HQ.out HBR.out)
        clear hxl hsl
        by_cases hin : (i : Int) ∈ q
        · have hx0 := HF.out.at_in i hlt (by rw [HQE.out]; exact hin)
          rw [hx0] at hx
          rw [decide_eq_true hin] at e1
          have E1 := Aside0.mk e1
          clear e1 hx0 hin
          go_wp2
          go_quiet ((go_at_call 12; (with_reducible refine (laws_has.calls k1 _ _ q i true _ ?side1 ?side2 E1.out).mono ?_); (case side1 => repeat (first | exact HQR.out | (with_reducible refine Kd.C_drewN ?_ _) | (with_reducible refine Kd.C_drew ?_))); (case side2 => exact HCQ.out); rintro e w' ⟨rfl, ⟨nd, rfl⟩⟩; (first | exact ⟨rfl, _, World.drewN_drewN _ _ _⟩ | exact ⟨rfl, _, Eq.trans (World.drewN_drewN _ _ _) (congrArg (World.drewN _) (Nat.add_assoc _ _ _))⟩)))
          go_wp2
          go_roundg (t.length - i)
          case measure => omega
          case rel => exact ⟨i + 1, by omega, by omega, by go_num, ⟨pw_below_drewN HBR.out _⟩⟩
        · have hxs := HF.out.at_out i hlt (by rw [HQE.out]; exact hin)
          rw [hxs] at hx
          have hne : (rd s i != rd s i) = false := by simp
          rw [decide_eq_false hin] at e1
          have E1 := Aside0.mk e1
          clear e1 hxs hin
          go_wp2
          go_quiet ((go_at_call 12; (with_reducible refine (laws_has.calls k1 _ _ q i false _ ?side1 ?side2 E1.out).mono ?_); (case side1 => repeat (first | exact HQR.out | (with_reducible refine Kd.C_drewN ?_ _) | (with_reducible refine Kd.C_drew ?_))); (case side2 => exact HCQ.out); rintro e w' ⟨rfl, ⟨nd, rfl⟩⟩; (first | exact ⟨rfl, _, World.drewN_drewN _ _ _⟩ | exact ⟨rfl, _, Eq.trans (World.drewN_drewN _ _ _) (congrArg (World.drewN _) (Nat.add_assoc _ _ _))⟩)))
          go_wp2
          go_roundg (t.length - i)
          case measure => omega
          case rel => exact ⟨i + 1, by omega, by omega, by go_num, ⟨pw_below_drewN HBR.out _⟩⟩
      · have hltz : ¬ (i : Int) < (t.length : Int) := by omega
        go_wp2_with (fail)
        replace HB := Aside0.mk (below_step HB.out HBR.out)
        replace HT := Aside0.mk (Kd.C_below HT.out HBR.out)
        replace HS := Aside0.mk (Kd.C_below HS.out HBR.out)
        clear HX HQ HBR
        obtain ⟨k1, e1⟩ := HF.out.deep
        refine (impl_DeepestFor.calls k1 At ct t As cs s kn m _ HT.out HCT.out HS.out HCS.out e1).mono ?_
        clear e1
        rintro e w8 ⟨rfl, b⟩
        replace HB := Aside0.mk (below_step HB.out b)
        replace HT := Aside0.mk (Kd.C_below HT.out b)
        replace HS := Aside0.mk (Kd.C_below HS.out b)
        clear b
        go_wp2_with (fail)
        obtain ⟨k1, e1⟩ := HF.out.set1
        refine (impl_SetSleep.calls k1 At ct t As cs s kn m y true _ HT.out HCT.out HS.out HCS.out e1).mono ?_
        clear e1
        rintro e w9 ⟨v0, rfl, r0, b⟩
        obtain ⟨Ay, cy, rfl, hcy, ry⟩ := R_val r0
        replace HB := Aside0.mk (below_step HB.out b)
        replace HT := Aside0.mk (Kd.C_below HT.out b)
        replace HS := Aside0.mk (Kd.C_below HS.out b)
        have HY := Aside0.mk ry
        have HCY := Aside0.mk hcy
        clear r0 b ry hcy
        have hm4 : (m : Int) + 1 ≤ 4 := by have := HF.out.m4; omega
        go_wp2_with (fail)
        obtain ⟨k1, e1⟩ := HF.out.set2
        refine (impl_SetSleep.calls k1 At ct t As cs s kn ((m : Int) + 1) z false _ HT.out HCT.out HS.out HCS.out e1).mono ?_
        clear e1
        rintro e w10 ⟨v0, rfl, r0, b⟩
        obtain ⟨Az, cz, rfl, hcz, rz⟩ := R_val r0
        replace HB := Aside0.mk (below_step HB.out b)
        replace HT := Aside0.mk (Kd.C_below HT.out b)
        replace HS := Aside0.mk (Kd.C_below HS.out b)
        replace HY := Aside0.mk (Kd.C_below HY.out b)
        clear r0 b rz hcz
        have hkl : (kn : Int) < (s.length : Int) := by have := HF.out.kl; have := HF.out.sl; omega
        obtain ⟨ads, es, hs⟩ := at_I HS.out (Below.refl _ _) kn (by omega)
        cases es
        have hge : decide (rd s kn ≤ (m : Int)) = true := decide_eq_true HF.out.ge
        go_wp2_with (fail)
        clear hge hs
        obtain ⟨k1, e1⟩ := HF.out.ok2
        refine (impl_SleepOk.calls k1 At ct t Ay cy y true _ HT.out HCT.out HY.out HCY.out e1).mono ?_
        clear e1
        rintro e w11 ⟨rfl, b⟩
        replace HB := Aside0.mk (below_step HB.out b)
        clear b
        go_wp2
        go_ret
        exact ⟨rfl, HB.out⟩
end Go.Proofs.Ytijfagfkoiklaaa.P
