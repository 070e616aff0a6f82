import Derived.Test.YtijfagfkoiklaaaMSort
import Derived.BigQuiet
import Derived.Deep.QuietTactic
import Derived.BigRegion
import Derived.IntWalk
namespace Go.Proofs.Ytijfagfkoiklaaa.P
open Go.RowKit Go.Proofs.YtijfagfkoiklaaaW.PrintWords Go.Proofs.YtijfagfkoiklaaaW.PrintLast Go.Proofs.YtijfagfkoiklaaaW.PrintMore
set_option linter.unusedVariables false
set_option linter.unusedSimpArgs false
set_option maxRecDepth 100000 in
theorem len64_small (n : Nat) (h : n ≤ 12) (W : World) : Calls Try.prog 58 #[.int .u64 n] W fun e w' => (∃ l : Int, e = .returned (.int .i64 l)) ∧ W = w' := by
  have : n = 0 ∨ n = 1 ∨ n = 2 ∨ n = 3 ∨ n = 4 ∨ n = 5 ∨ n = 6 ∨ n = 7 ∨ n = 8 ∨ n = 9 ∨ n = 10 ∨ n = 11 ∨ n = 12 := by omega
  rcases this with rfl | rfl | rfl | rfl | rfl | rfl | rfl | rfl | rfl | rfl | rfl | rfl | rfl
  all_goals
    go_enter Try.func58, Try.ntmps58
    go_wp2
    go_ret
    exact ⟨⟨_, rfl⟩, rfl⟩
theorem bitsLen_small (n : Nat) (h : n ≤ 12) (W : World) : Calls Try.prog 45 #[.int .u64 n] W fun e w' => (∃ l : Int, e = .returned (.int .i64 l)) ∧ W = w' := by
  go_enter Try.func45, Try.ntmps45
  go_wp2_with (go_at_call 58; refine (len64_small n h _).mono ?_; rintro e w' ⟨⟨l, rfl⟩, rfl⟩)
  go_ret
  exact ⟨⟨_, rfl⟩, rfl⟩
/-- A comparison that draws at the most, in every world that differs in block gb alone. -/
def CmpI (g : Nat) (lb : Array Value) (cf : Int → Int → Int) (gb : Nat) (D : List Int) (w : World) : Prop :=
  ∀ (W : World) (x y : Int), w.grownBy W (some gb) → x ∈ D → y ∈ D → Calls Try.prog g (#[.int .i64 x, .int .i64 y] ++ lb) W fun e w' => e = .returned (.int .i64 (cf x y)) ∧ Drawn0 W w'
theorem grown_drewN {w W : World} {r : Option Nat} (h : w.grownBy W r) (n : Nat) : w.grownBy (W.drewN n) r := ⟨h.os, h.tape, h.output, h.size, h.block⟩
theorem grown_drew {w W : World} {r : Option Nat} (h : w.grownBy W r) : w.grownBy W.drew r := ⟨h.os, h.tape, h.output, h.size, h.block⟩
theorem grown_set {w W : World} {g : Nat} (h : w.grownBy W (some g)) (i : Nat) (u : Value) : w.grownBy (W.setCell ⟨g, i, none⟩ u) (some g) :=
  ⟨h.os, h.tape, h.output, by rw [World.size_setCell]; exact h.size, fun k hk hne => (Below.heap_setCell W _ u k (fun e => hne (by rw [e]))).trans (h.block k hk hne)⟩
theorem grown_refl (w : World) (r : Option Nat) : w.grownBy w r := ⟨rfl, rfl, rfl, Nat.le_refl _, fun _ _ _ => rfl⟩
theorem swap1_perm {l : List Int} {j : Nat} (h0 : 0 < j) (h : j < l.length) : (swap1 l j).Perm l := by
  obtain ⟨a, y, x, b, rfl, ha⟩ : ∃ a y x b, l = a ++ y :: x :: b ∧ a.length + 1 = j := by
    refine ⟨l.take (j - 1), l[j - 1], l[j], l.drop (j + 1), ?_, by rw [List.length_take]; omega⟩
    have e1 : l.drop (j - 1) = l[j - 1] :: l.drop j := by
      have := List.drop_eq_getElem_cons (l := l) (i := j - 1) (by omega)
      rw [this, show j - 1 + 1 = j by omega]
    have e2 : l.drop j = l[j] :: l.drop (j + 1) := List.drop_eq_getElem_cons h
    rw [← e2, ← e1, List.take_append_drop]
  rw [← ha, swap1_mid]
  exact List.Perm.append_left a (.swap y x b)
set_option maxHeartbeats 4000000 in
theorem insSort_calls (g : Nat) (lb : Array Value) (cf : Int → Int → Int) (eg : ∀ args w, (callFunc g args).run Try.prog w = .ok (.enter g args) w) (gb cap n : Nat) (xs : List Int) (base : Nat) (ok : Nat → Prop) (w : World)
    (hR : Kd.R (Kd.int .i64) 3 w base ok (.slice (some ⟨gb, 0, none⟩) n cap) xs) (hc : CmpI g lb cf gb xs w) (hn : xs.length = n) (hn1 : 1 ≤ n) (hn2 : n ≤ 12) :
    Calls Try.prog 49 #[.slice (some ⟨gb, 0, none⟩) n cap, .int .i64 0, .int .i64 n, .func (.func g) #[] lb] w fun e w' => e = .returned (.tuple #[]) ∧ Kd.R (Kd.int .i64) 3 w' base ok (.slice (some ⟨gb, 0, none⟩) n cap) (insSort cf xs) ∧ w.grownBy w' (some gb) := by
  have HR := Aside0.mk hR
  have HC := Aside0.mk hc
  have HN := Aside0.mk hn
  have EG := Aside0.mk eg
  clear hR hc hn EG
  go_enter Try.func49, Try.ntmps49
  go_wp2
  go_loopg [8] 13 (fun gg v8 wr => ∃ (i : Nat) (l : List Int), 1 ≤ i ∧ i ≤ n ∧ n - i < gg ∧ v8 = .int .i64 i ∧ Aside0 (l.length = n) ∧ Aside0 (l.Perm xs) ∧ Aside0 (sortGo cf (n - i) i l = insSort cf xs) ∧ Aside0 (Kd.R (Kd.int .i64) 3 wr base ok (.slice (some ⟨gb, 0, none⟩) n cap) l) ∧ Aside0 (w.grownBy wr (some gb)))
  case atStart => exact ⟨1, xs, Nat.le_refl _, hn1, by omega, rfl, HN, ⟨.refl _⟩, ⟨by unfold insSort; rw [HN.out]⟩, HR, ⟨grown_refl _ _⟩⟩
  case round =>
    obtain ⟨i, l, hi1, hin, hg, rfl, HL, HP, HS, HRl, HG⟩ := hrel
    obtain ⟨wo, rfl⟩ : ∃ wo : World, wo = wr := ⟨_, rfl⟩
    obtain ⟨go, rfl⟩ : ∃ go : Nat, gk = go + 1 := ⟨gk - 1, by omega⟩
    by_cases hlt : i < n
    · have hltz : (i : Int) < (n : Int) := by omega
      have hstep : sortGo cf (n - (i + 1)) (i + 1) (insGo cf i l) = insSort cf xs := by
        have := HS.out
        rw [show n - i = (n - (i + 1)) + 1 by omega, sortGo] at this
        exact this
      have HST := Aside0.mk hstep
      clear hstep
      go_wp2
      go_loopg [9] 13 (fun g2 v9 wr2 => ∃ (j : Nat) (l2 : List Int), j ≤ i ∧ j < g2 ∧ v9 = .int .i64 j ∧ Aside0 (l2.length = n) ∧ Aside0 (l2.Perm xs) ∧ Aside0 (insGo cf j l2 = insGo cf i l) ∧ Aside0 (Kd.R (Kd.int .i64) 3 wr2 base ok (.slice (some ⟨gb, 0, none⟩) n cap) l2) ∧ Aside0 (w.grownBy wr2 (some gb)))
      case atStart => exact ⟨i, l, Nat.le_refl _, by omega, rfl, HL, HP, ⟨rfl⟩, HRl, HG⟩
      case round =>
        obtain ⟨j, l2, hj, hg2, rfl, HL2, HP2, HI, HR2, HG2⟩ := hrel
        cases j with
        | zero =>
          have hz : ¬ (0 : Int) > 0 := by omega
          have HI' : Aside0 (l2 = insGo cf i l) := ⟨by have := HI.out; rwa [insGo] at this⟩
          go_wp2
          go_quiet (fail)
          go_wp2
          go_roundg (n - i)
          case measure => omega
          case rel => exact ⟨i + 1, l2, by omega, by omega, by omega, by go_num, HL2, HP2, ⟨by rw [HI'.out]; exact HST.out⟩, ⟨Kd.R_drewN HR2.out _⟩, ⟨grown_drewN HG2.out _⟩⟩
        | succ j =>
          have hjn : j + 1 < n := by omega
          have i0 : (0 : Int) < (j : Int) + 1 := by omega
          have i1 : (0 : Int) ≤ (j : Int) + 1 := by omega
          have i2 : (j : Int) + 1 < (n : Int) := by omega
          have i3 : (0 : Int) ≤ (j : Int) := by omega
          have i4 : (j : Int) < (n : Int) := by omega
          obtain ⟨hc1, hf1⟩ := Kd.R_celln (0 : Int) HR2.out ((j : Int) + 1) (by omega) (by omega)
          obtain ⟨hc2, hf2⟩ := Kd.R_celln (0 : Int) HR2.out (j : Int) (by omega) (by omega)
          rw [show ((j : Int) + 1).toNat = j + 1 by omega] at hc1 hf1
          rw [Int.toNat_natCast] at hc2 hf2
          have hl2 := HL2.out
          have m1 : rdOf 0 l2 ((j : Int) + 1) ∈ xs := HP2.out.mem_iff.mp (rd_mem (l := l2) (by omega) (by omega))
          have m2 : rdOf 0 l2 (j : Int) ∈ xs := HP2.out.mem_iff.mp (rd_mem (l := l2) (by omega) (by omega))
          have HCL := fun q => Aside0.mk (HC.out (wr.drewN q) _ _ (grown_drewN HG2.out q) m1 m2)
          clear hl2 m1 m2
          obtain ⟨cv, hcv⟩ : ∃ cv, cf (rdOf 0 l2 ((j : Int) + 1)) (rdOf 0 l2 (j : Int)) = cv := ⟨_, rfl⟩
          rw [hcv] at HCL
          by_cases hneg : cv < 0
          · have hstep2 : insGo cf j (swap1 l2 (j + 1)) = insGo cf i l := by
              have := HI.out
              rw [insGo, if_pos (show cf (rd l2 ((j : Int) + 1)) (rd l2 j) < 0 from hcv ▸ hneg)] at this
              exact this
            have HST2 := Aside0.mk hstep2
            have HPS := Aside0.mk ((swap1_perm (l := l2) (j := j + 1) (by omega) (by have := HL2.out; omega)).trans HP2.out)
            clear hstep2 hcv
            have iw : IntKind.i64.wrap (j : Int) = (j : Int) := IntWalk.i64_in _ (by omega)
            go_wp2
            go_quiet (((with_reducible refine (HCL _).out.mono ?_); rintro e w' ⟨rfl, ⟨nd, rfl⟩⟩; (first | exact ⟨rfl, _, World.drewN_drewN _ _ _⟩ | exact ⟨rfl, _, Eq.trans (World.drewN_drewN _ _ _) (congrArg (World.drewN _) (Nat.add_assoc _ _ _))⟩)))
            go_wp2
            go_region
            go_wp2
            go_roundg (j + 1)
            case measure => omega
            case rel =>
              refine ⟨j, swap1 l2 (j + 1), by omega, by omega, by go_num, ⟨by rw [swap1_len]; exact HL2.out⟩, HPS, HST2, ⟨?_⟩, ⟨?_⟩⟩
              · have h1 := Kd.R_putn (Kd.R_drewN HR2.out (nq + 1)) ((j : Int) + 1) (rdOf 0 l2 (j : Int))
                have h2 := Kd.R_putn h1 (j : Int) (rdOf 0 l2 ((j : Int) + 1))
                rw [show ((j : Int) + 1).toNat = j + 1 by omega, Int.toNat_natCast] at h2
                unfold swap1
                rw [show ((j + 1 : Nat) : Int) - 1 = (j : Int) by omega, Nat.add_sub_cancel]
                exact h2
              · exact grown_set (grown_set (grown_drewN HG2.out _) _ _) _ _
          · have hstep2 : l2 = insGo cf i l := by
              have := HI.out
              rw [insGo, if_neg (show ¬ cf (rd l2 ((j : Int) + 1)) (rd l2 j) < 0 from hcv ▸ hneg)] at this
              exact this
            have HST2 := Aside0.mk hstep2
            clear hstep2 hcv
            have iw : IntKind.i64.wrap (j : Int) = (j : Int) := IntWalk.i64_in _ (by omega)
            go_wp2
            go_quiet (((with_reducible refine (HCL _).out.mono ?_); rintro e w' ⟨rfl, ⟨nd, rfl⟩⟩; (first | exact ⟨rfl, _, World.drewN_drewN _ _ _⟩ | exact ⟨rfl, _, Eq.trans (World.drewN_drewN _ _ _) (congrArg (World.drewN _) (Nat.add_assoc _ _ _))⟩)))
            go_wp2
            go_roundg (n - i)
            case measure => omega
            case rel => exact ⟨i + 1, l2, by omega, by omega, by omega, by go_num, HL2, HP2, ⟨by rw [HST2.out]; exact HST.out⟩, ⟨Kd.R_drewN HR2.out _⟩, ⟨grown_drewN HG2.out _⟩⟩
    · have hltz : ¬ (i : Int) < (n : Int) := by omega
      go_wp2
      go_end0
      refine ⟨rfl, ?_, HG.out⟩
      have := HS.out
      rw [show n - i = 0 by omega, sortGo] at this
      rw [← this]; exact HRl.out
set_option maxHeartbeats 1000000 in
theorem pdq_small (g : Nat) (lb : Array Value) (cf : Int → Int → Int) (eg : ∀ args w, (callFunc g args).run Try.prog w = .ok (.enter g args) w) (gb cap n : Nat) (m : Int) (xs : List Int) (base : Nat) (ok : Nat → Prop) (w : World)
    (hR : Kd.R (Kd.int .i64) 3 w base ok (.slice (some ⟨gb, 0, none⟩) n cap) xs) (hc : CmpI g lb cf gb xs w) (hn : xs.length = n) (hn1 : 1 ≤ n) (hn2 : n ≤ 12) :
    Calls Try.prog 44 #[.slice (some ⟨gb, 0, none⟩) n cap, .int .i64 0, .int .i64 n, .int .i64 m, .func (.func g) #[] lb] w fun e w' => e = .returned (.tuple #[]) ∧ Kd.R (Kd.int .i64) 3 w' base ok (.slice (some ⟨gb, 0, none⟩) n cap) (insSort cf xs) ∧ w.grownBy w' (some gb) := by
  have HI := Aside0.mk (insSort_calls g lb cf eg gb cap n xs base ok w hR hc hn hn1 hn2)
  clear hR hc hn eg
  have hz : (n : Int) ≤ 12 := by omega
  go_enter Try.func44, Try.ntmps44
  go_wp2
  refine wp_loop_rounds 1 ?_
  rw [rounds_succ]
  go_wp2_with (go_at_call 49; refine HI.out.mono ?_; rintro e w' ⟨rfl, h1, h2⟩; have H1 := Aside0.mk h1; have H2 := Aside0.mk h2; clear h1 h2)
  refine bodyPost_ret (results_none rfl _ _ _) rfl ?_
  exact ⟨rfl, H1.out, H2.out⟩
set_option maxHeartbeats 1000000 in
/-- slices.SortFunc at numbers, from 1 to 12 of them. -/
theorem sortFunc_small (g : Nat) (lb : Array Value) (cf : Int → Int → Int) (eg : ∀ args w, (callFunc g args).run Try.prog w = .ok (.enter g args) w) (gb cap n : Nat) (xs : List Int) (base : Nat) (ok : Nat → Prop) (w : World)
    (hR : Kd.R (Kd.int .i64) 3 w base ok (.slice (some ⟨gb, 0, none⟩) n cap) xs) (hc : CmpI g lb cf gb xs w) (hn : xs.length = n) (hn1 : 1 ≤ n) (hn2 : n ≤ 12) :
    Calls Try.prog 34 #[.slice (some ⟨gb, 0, none⟩) n cap, .func (.func g) #[] lb] w fun e w' => e = .returned (.tuple #[]) ∧ Kd.R (Kd.int .i64) 3 w' base ok (.slice (some ⟨gb, 0, none⟩) n cap) (insSort cf xs) ∧ w.grownBy w' (some gb) := by
  have HI := fun m => Aside0.mk (pdq_small g lb cf eg gb cap n m xs base ok w hR hc hn hn1 hn2)
  clear hR hc hn eg
  have hz : (n : Int) ≤ 12 := by omega
  go_enter Try.func34, Try.ntmps34
  go_wp2_with (fail)
  refine (bitsLen_small n hn2 _).mono ?_
  rintro e w' ⟨⟨l, rfl⟩, rfl⟩
  go_wp2_with (fail)
  refine (HI _).out.mono ?_
  rintro e w' ⟨rfl, h1, h2⟩
  have H1 := Aside0.mk h1
  have H2 := Aside0.mk h2
  clear h1 h2
  go_wp2
  go_end0
  exact ⟨rfl, H1.out, H2.out⟩
set_option maxHeartbeats 1000000 in
/-- slices.SortFunc at no number. -/
theorem sortFunc_none (A : Option Addr) (cap : Nat) (fv : Value) (w : World) :
    Calls Try.prog 34 #[.slice A 0 cap, fv] w fun e w' => e = .returned (.tuple #[]) ∧ w = w' := by
  have h1 : Calls Try.prog 49 #[.slice A 0 cap, .int .i64 0, .int .i64 0, fv] w fun e w' => e = .returned (.tuple #[]) ∧ w = w' := by
    go_enter Try.func49, Try.ntmps49
    go_wp2
    refine wp_loop_rounds 1 ?_
    rw [rounds_succ]
    go_wp2
    go_end0
    exact ⟨rfl, rfl⟩
  have H1 := Aside0.mk h1
  clear h1
  have h2 : ∀ m : Int, Calls Try.prog 44 #[.slice A 0 cap, .int .i64 0, .int .i64 0, .int .i64 m, fv] w fun e w' => e = .returned (.tuple #[]) ∧ w = w' := by
    intro m
    go_enter Try.func44, Try.ntmps44
    go_wp2
    refine wp_loop_rounds 1 ?_
    rw [rounds_succ]
    go_wp2_with (go_at_call 49; refine H1.out.mono ?_; rintro e w' ⟨rfl, rfl⟩)
    refine bodyPost_ret (results_none rfl _ _ _) rfl ?_
    exact ⟨rfl, rfl⟩
  have H2 := Aside0.mk h2
  clear h2
  go_enter Try.func34, Try.ntmps34
  go_wp2_with (fail)
  refine (bitsLen_small 0 (by omega) _).mono ?_
  rintro e w' ⟨⟨l, rfl⟩, rfl⟩
  go_wp2_with (fail)
  refine (H2.out _).mono ?_
  rintro e w' ⟨rfl, rfl⟩
  go_wp2
  go_end0
  exact ⟨rfl, rfl⟩
end Go.Proofs.Ytijfagfkoiklaaa.P
