import Derived.Test.YtijfagfkoiklaaaFChild
import Derived.Test.YtijfagfkoiklaaaFCloneN
namespace Go.Proofs.Ytijfagfkoiklaaa.P
open Go.RowKit Go.Proofs.YtijfagfkoiklaaaW.PrintWords Go.Proofs.YtijfagfkoiklaaaW.PrintLast Go.Proofs.YtijfagfkoiklaaaW.PrintMore
set_option linter.unusedVariables false
set_option linter.unusedSimpArgs false
/-- No node of the tree at place k has device d. -/
def freeAt (t : List S41) (k d : Int) : Bool := !t.any fun n => n.f0 == k && n.f1 == d
set_option maxHeartbeats 1000000 in
theorem SlotsOf1_calls (k d : Int) (B1 B2 : Nat) (W : World) (h1 : W.heap[B1]? = some (.cells #[.int .i64 k] 3 (0,0))) (h2 : W.heap[B2]? = some (.cells #[.int .i64 d] 3 (0,0))) (x : S41) :
    Calls Try.prog 31 (#[.agg #[.int .i64 x.f0, .int .i64 x.f1, .int .i64 x.f2]] ++ #[.pointer (some ⟨B1,0,none⟩), .pointer (some ⟨B2,0,none⟩)]) W fun e w' => e = .returned (.bool (x.f0 == k && x.f1 == d)) ∧ Below W.heap.size W w' := by
  have hu := Try.underlying41
  have c1 : W.cell? ⟨B1, 0, none⟩ = some (.int .i64 k) := (blk_cell h1 0).trans rfl
  have c2 : W.cell? ⟨B2, 0, none⟩ = some (.int .i64 d) := (blk_cell h2 0).trans rfl
  have l1 := blk_lt h1
  have l2 := blk_lt h2
  have n1 : ¬ B1 = W.heap.size := by omega
  have n2 : ¬ B2 = W.heap.size := by omega
  clear h1 h2
  cases h : x.f0 == k with
  | true =>
    go_enter Try.func31, Try.ntmps31
    go_wp2
    go_ret
    exact ⟨by simp [h], below_alloc (Below.refl _ _) _⟩
  | false =>
    go_enter Try.func31, Try.ntmps31
    go_wp2
    go_ret
    exact ⟨by simp [h], below_alloc (Below.refl _ _) _⟩
theorem isBridge_calls (A0 : Option Addr) (c0 : Nat) (l0 : List S41) (k : Int) (w : World) (hr0 : Kd.C k41 w A0 l0.length l0) (h0 : 0 ≤ k) (h1 : k < l0.length) :
    Calls Try.prog 29 #[.slice A0 l0.length c0, .int .i64 k] w fun e w' => e = .returned (.bool ((rd_T41 l0 k).f2 == 0)) ∧ Below w.heap.size w w' := by
  have hu := Try.underlying41
  obtain ⟨ad, e, x0, x1, x2⟩ := at_T41 hr0 k h0 h1
  cases e
  clear x0 x1 hr0
  go_enter Try.func29, Try.ntmps29
  go_wp2
  go_ret
  exact ⟨rfl, Below.refl _ _⟩
def slotsTo (t : List S41) (k : Int) (n : Nat) : List Int := ((List.range n).filter fun i : Nat => freeAt t k (i : Int)).map fun i : Nat => (i : Int)
theorem slotsTo_succ (t : List S41) (k : Int) (n : Nat) : slotsTo t k (n + 1) = slotsTo t k n ++ (if freeAt t k (n : Int) then [(n : Int)] else []) := by
  unfold slotsTo
  rw [List.range_succ, List.filter_append, List.map_append]
  congr 1
  cases h : freeAt t k (n : Int) <;> simp [h]
theorem slotsTo_len (t : List S41) (k : Int) (n : Nat) : (slotsTo t k n).length ≤ n := by
  unfold slotsTo
  rw [List.length_map]
  exact Nat.le_trans (List.length_filter_le _ _) (by simp)
def slotsOf (t : List S41) (k : Int) : List Int := if isNodeB t k = true ∧ (rd_T41 t k).f2 = 0 then slotsTo t k 4 else []
set_option maxHeartbeats 4000000 in
theorem SlotsOf_calls (A0 : Option Addr) (c0 : Nat) (l0 : List S41) (k : Int) (w : World) (hr0 : Kd.C k41 w A0 l0.length l0) (hc0 : l0.length ≤ c0) :
    Calls Try.prog 16 #[.slice A0 l0.length c0, .int .i64 k] w fun e w' => ∃ v0_ : Value, e = .returned v0_ ∧ Kd.R (Kd.int .i64) 3 w' w.heap.size (fun _ => True) v0_ (slotsOf l0 k) ∧ Below w.heap.size w w' := by
  have hu := Try.underlying41
  have HR0 := Aside0.mk hr0
  have HC0 := Aside0.mk hc0
  clear hr0 hc0
  go_enter Try.func16, Try.ntmps16
  have HBX := Aside0.mk (heap_alloc_new w (.cells #[.int .i64 k] 3))
  have HW := Aside0.mk (below_alloc (Below.refl w.heap.size w) (.cells #[.int .i64 k] 3))
  obtain ⟨wk, hwk⟩ : ∃ wk : World, wk = w.alloc (.cells #[.int .i64 k] 3) := ⟨_, rfl⟩
  rw [← hwk] at HBX HW
  have HWK := Aside0.mk hwk
  clear hwk
  go_upto_region 1 with (fail)
  rw [← HWK.out]
  go_wp2_with (first | ((with_reducible refine gate_dst (N := 7) rfl ?_); refine Kd.R_lit (Kd.int .i64) _ 3 ?hg (N := 7) ?hd (xs := ([] : List Int)) (inner := []) (ok := fun _ => True) (okp := fun _ => True) ?hr ?hp (fun _ hk => hk) trivial (Below.refl wk.heap.size wk) (Nat.le_refl _) (by simp) ?_; (case hd => rfl); (case hg => rfl); (case hr => first | (go_simp; done) | (go_simp; rfl)); (case hp => exact (Reps.none _ _)); intro v1 w1 ho1 hb1 hg_ hnew_; have HX1 := Aside0.mk (blk_grown HBX.out hg_ (by simp)); have HO1 := Aside0.mk ho1; have HB1 := Aside0.mk hb1; clear ho1 hb1 hg_ hnew_; have hcb1 := (blk_cell HX1.out 0).trans rfl) | fail)
  have hisn := isNode_calls A0 c0 l0 k w1 (Kd.C_below HR0.out (below_step HW.out HB1.out)) HC0.out
  cases hN : isNodeB l0 k with
  | false =>
    rw [hN] at hisn
    refine hisn.mono ?_
    clear hisn
    rintro e w2 ⟨rfl, hb⟩
    have HB2 := Aside0.mk (below_step HB1.out hb)
    have HO2 := Aside0.mk (Kd.R_below HO1.out hb)
    have HQ : Aside0 (slotsOf l0 k = []) := ⟨by unfold slotsOf; rw [hN]; rfl⟩
    clear hb hcb1 hN
    go_wp2
    go_ret
    exact ⟨_, rfl, by rw [HQ.out]; exact Kd.R_lower HO2.out HW.out.size, below_step HW.out HB2.out⟩
  | true =>
    rw [hN] at hisn
    refine hisn.mono ?_
    clear hisn hcb1
    rintro e w2 ⟨rfl, hb⟩
    have HB2 := Aside0.mk (below_step HB1.out hb)
    have HO2 := Aside0.mk (Kd.R_below HO1.out hb)
    have HX2 := Aside0.mk (blk_grown HX1.out (grown_of_below hb none) (by simp))
    have hcb2 : w2.cell? ⟨w.heap.size, 0, none⟩ = some (.int .i64 k) := (blk_cell HX2.out 0).trans rfl
    have hk : 0 ≤ k ∧ k < l0.length := by unfold isNodeB at hN; simp only [Bool.and_eq_true, inR_iff] at hN; omega
    have hbr := isBridge_calls A0 c0 l0 k w2 (Kd.C_below HR0.out (below_step HW.out HB2.out)) hk.1 hk.2
    have HNN := Aside0.mk hN
    clear hb hN hk
    go_wp2_with (fail)
    cases hF : (rd_T41 l0 k).f2 == 0 with
    | false =>
      rw [hF] at hbr
      refine hbr.mono ?_
      clear hbr hcb2
      rintro e w3 ⟨rfl, hb⟩
      have HB3 := Aside0.mk (below_step HB2.out hb)
      have HO3 := Aside0.mk (Kd.R_below HO2.out hb)
      have HQ : Aside0 (slotsOf l0 k = []) := ⟨by unfold slotsOf; rw [if_neg]; rintro ⟨_, h⟩; rw [h] at hF; simp at hF⟩
      clear hb hF
      go_wp2
      go_ret
      exact ⟨_, rfl, by rw [HQ.out]; exact Kd.R_lower HO3.out HW.out.size, below_step HW.out HB3.out⟩
    | true =>
      rw [hF] at hbr
      refine hbr.mono ?_
      clear hbr hcb2
      rintro e w3 ⟨rfl, hb⟩
      have HB3 := Aside0.mk (below_step HB2.out hb)
      have HO3 := Aside0.mk (Kd.R_below HO2.out hb)
      have HQ : Aside0 (slotsOf l0 k = slotsTo l0 k 4) := ⟨by unfold slotsOf; rw [if_pos]; exact ⟨HNN.out, by simpa using hF⟩⟩
      clear hb hF
      have HX := HBX
      go_wp2
      go_loopg [5, 19] 5 (fun gg v5 v19 wr => ∃ i : Nat, i ≤ 4 ∧ 4 - i < gg ∧ v19 = .int .i64 i ∧ Aside0 (Kd.R (Kd.int .i64) 3 wr wk.heap.size (fun _ => True) v5 (slotsTo l0 k i)) ∧ Aside0 (Below wk.heap.size wk wr))
      case atStart => exact ⟨0, Nat.zero_le _, by omega, rfl, HO3, HB3⟩
      case round =>
        obtain ⟨i, hi, hg, rfl, HO, HB⟩ := hrel
        have HX := Aside0.mk (blk_grown HBX.out (grown_of_below HB.out none) (by simp))
        have hcb2 : wr.cell? ⟨w.heap.size, 0, none⟩ = some (.int .i64 k) := (blk_cell HX.out 0).trans rfl
        by_cases hlt : i < 4
        · have hltz : (i : Int) < 4 := by omega
          have HK := Aside0.mk (slotsTo_succ l0 k i)
          have HOA := Aside0.mk (Kd.R_alloc HO.out (.cells #[.int .i64 i] 3))
          have HBA := Aside0.mk (below_alloc HB.out (.cells #[.int .i64 i] 3))
          have HXA := Aside0.mk (heap_alloc_new wr (.cells #[.int .i64 i] 3))
          have e31 : ∀ args w, (callFunc 31 args).run Try.prog w = .ok (.enter 31 args) w := fun args w => enters_ Try.func31 (by kernel_rfl) rfl args w
          have hpred : PredN 31 #[.pointer (some ⟨w.heap.size, 0, none⟩), .pointer (some ⟨wr.heap.size, 0, none⟩)] (fun n => n.f0 == k && n.f1 == i) (wr.alloc (.cells #[.int .i64 i] 3)) := by
            intro W x hb
            have hb2 := below_step HBA.out hb
            exact (SlotsOf1_calls k i w.heap.size wr.heap.size W (blk_grown HBX.out (grown_of_below hb2 none) (by simp)) (blk_grown HXA.out (grown_of_below hb none) (by simp)) x).mono fun e w' ⟨h1, h2⟩ => ⟨h1, below_step hb h2⟩
          have HCON := Aside0.mk (conN_calls 31 _ _ e31 A0 c0 l0 _ (Kd.C_below HR0.out (below_step HW.out HBA.out)) hpred)
          clear hpred e31 hcb2
          have HSZ := Aside0.mk (show wr.heap.size < (wr.alloc (.cells #[.int .i64 i] 3)).heap.size by rw [World.size_alloc]; omega)
          go_wp2_with (fail)
          refine HCON.out.mono ?_
          rintro e w6 ⟨rfl, hb6⟩
          have HO6 := Aside0.mk (Kd.R_below HOA.out hb6)
          have HB6 := Aside0.mk (below_step HBA.out hb6)
          have hx6 := (blk_cell (blk_grown HXA.out (grown_of_below hb6 none) (by simp)) 0).trans rfl
          clear hb6
          cases hq : freeAt l0 k (i : Int) with
          | false =>
            rw [hq] at HK
            have hq2 : (l0.any fun n => n.f0 == k && n.f1 == i) = true := by unfold freeAt at hq; simpa using hq
            rw [hq2]
            clear hq hq2 hx6
            go_wp2
            go_roundg (4 - i)
            case measure => omega
            case rel => exact ⟨i + 1, by omega, by omega, by go_num, ⟨by rw [HK.out]; simpa using HO6.out⟩, HB6⟩
          | true =>
            rw [hq] at HK
            have hq2 : (l0.any fun n => n.f0 == k && n.f1 == i) = false := by unfold freeAt at hq; simpa using hq
            rw [hq2]
            have hkl := slotsTo_len l0 k i
            clear hq hq2
            go_wp2_with ((with_reducible refine gate_builtin (b := .append) (xs := #[.tmp 26, .tmp 28]) rfl ?_); at_builtin; refine Kd.R_append (Kd.int .i64) (w0 := wk) wk.heap.size rfl (.tmp 26) (.tmp 28) 25 3 (.int .i64 0) 8 rfl Try.underlying25 info3 rfl (by decide) (by omega) u5 (slotsTo l0 k i) i [.int .i64 i] (fun _ => True) (fun _ => False) rfl rfl ?aP (fun _ hk => hk.elim) ?aF ?aO ?aB ?aS ?aL ?_; (case aP => exact rfl); (case aF => exact (fun _ _ => trivial)); (case aO => exact HO6.out); (case aB => exact HB6.out); (case aS => exact HB6.out.size); (case aL => omega); intro v1 w3 ho hb hg3 hat; have HO3 := Aside0.mk ho; have HB3 := Aside0.mk hb; clear ho hb hg3 hat)
            go_roundg (4 - i)
            case measure => omega
            case rel => exact ⟨i + 1, by omega, by omega, by go_num, ⟨by rw [HK.out]; exact HO3.out⟩, HB3⟩
        · have hltz : ¬ (i : Int) < 4 := by omega
          have hi4 : i = 4 := by omega
          subst hi4
          clear hcb2
          go_wp2
          go_ret
          exact ⟨_, rfl, by rw [HQ.out]; exact Kd.R_lower HO.out HW.out.size, below_step HW.out HB.out⟩
def impl_SlotsOf.f (l0 : List S41) (k : Int) : Option (List Int) := some (slotsOf l0 k)
theorem impl_SlotsOf.calls (A0 : Option Addr) (c0 : Nat) (l0 : List S41) (k : Int) (r : List Int) (w : World) (hr0 : Kd.C k41 w A0 l0.length l0) (hc0 : l0.length ≤ c0) (h : impl_SlotsOf.f l0 k = some r) :
    Calls Try.prog 16 #[.slice A0 l0.length c0, .int .i64 k] w fun e w' => ∃ v0_ : Value, e = .returned (v0_) ∧ Kd.R (Kd.int .i64) 3 w' w.heap.size (fun _ => True) v0_ r ∧ Below w.heap.size w w' := by
  obtain rfl := Option.some.inj h
  exact SlotsOf_calls A0 c0 l0 k w hr0 hc0
end Go.Proofs.Ytijfagfkoiklaaa.P
