import Derived.Test.YtijfagfkoiklaaaFSort
namespace Go.Proofs.Ytijfagfkoiklaaa.P
open Go.RowKit Go.Proofs.YtijfagfkoiklaaaW.PrintWords Go.Proofs.YtijfagfkoiklaaaW.PrintLast Go.Proofs.YtijfagfkoiklaaaW.PrintMore
set_option linter.unusedVariables false
set_option linter.unusedSimpArgs false
set_option maxHeartbeats 1000000 in
theorem isNode_calls (A0 : Option Addr) (c0 : Nat) (l0 : List S41) (k : Int) (w : World) (hr0 : Kd.C k41 w A0 l0.length l0) (hc0 : l0.length ≤ c0) :
    Calls Try.prog 27 #[.slice A0 l0.length c0, .int .i64 k] w fun e w' => e = .returned (.bool (isNodeB l0 k)) ∧ Below w.heap.size w w' := by
  have HT := Aside0.mk (TreeOk_calls A0 c0 l0 w hr0 hc0)
  clear hr0 hc0
  cases h1 : treeOk l0 with
  | false =>
    have H1 := Aside0.mk h1
    rw [h1] at HT
    clear h1
    go_enter Try.func27, Try.ntmps27
    go_wp2_with (go_at_call 33; refine HT.out.mono ?_; rintro e w' ⟨rfl, hb'⟩; have HB := Aside0.mk hb'; clear hb')
    go_ret
    exact ⟨by unfold isNodeB; rw [H1.out]; rfl, HB.out⟩
  | true =>
    have hl := treeOk_len h1
    have H1 := Aside0.mk h1
    rw [h1] at HT
    clear h1
    have hl1 : (1 : Int) ≤ (l0.length : Int) := by omega
    have hl2 : (l0.length : Int) ≤ 12 := by omega
    go_enter Try.func27, Try.ntmps27
    go_wp2_with (first | (go_at_call 33; refine HT.out.mono ?_; rintro e w' ⟨rfl, hb'⟩; have HB := Aside0.mk hb'; clear hb') | (go_at_call 26; refine (within_calls _ _ _ _).mono ?_; rintro e w' ⟨rfl, rfl⟩))
    go_ret
    exact ⟨by unfold isNodeB; rw [H1.out]; rfl, HB.out⟩
def cmpI (a b : Int) : Int := if a < b then -1 else if b < a then 1 else 0
theorem isNaN_calls (a : Int) (w : World) : Calls Try.prog 46 #[.int .i64 a] w fun e w' => e = .returned (.bool false) ∧ w = w' := by
  have h : (a != a) = false := by simp
  go_enter Try.func46, Try.ntmps46
  go_wp2
  go_ret
  exact ⟨rfl, rfl⟩
set_option maxHeartbeats 1000000 in
theorem compare_calls (a b : Int) (w : World) : Calls Try.prog 36 #[.int .i64 a, .int .i64 b] w fun e w' => e = .returned (.int .i64 (cmpI a b)) ∧ w = w' := by
  by_cases h1 : a < b
  · have e : cmpI a b = -1 := if_pos h1
    have E := Aside0.mk e
    clear e
    go_enter Try.func36, Try.ntmps36
    go_wp2_with (go_at_call 46; refine (isNaN_calls _ _).mono ?_; rintro e w' ⟨rfl, rfl⟩)
    go_ret
    exact ⟨by rw [E.out]; rfl, rfl⟩
  · by_cases h2 : b < a
    · have e : cmpI a b = 1 := by unfold cmpI; rw [if_neg h1, if_pos h2]
      have E := Aside0.mk e
      clear e
      go_enter Try.func36, Try.ntmps36
      go_wp2_with (go_at_call 46; refine (isNaN_calls _ _).mono ?_; rintro e w' ⟨rfl, rfl⟩)
      go_ret
      exact ⟨by rw [E.out]; rfl, rfl⟩
    · have e : cmpI a b = 0 := by unfold cmpI; rw [if_neg h1, if_neg h2]
      have E := Aside0.mk e
      clear e
      go_enter Try.func36, Try.ntmps36
      go_wp2_with (go_at_call 46; refine (isNaN_calls _ _).mono ?_; rintro e w' ⟨rfl, rfl⟩)
      go_ret
      exact ⟨by rw [E.out]; rfl, rfl⟩
/-- The comparison of ChildrenOf: by the devices of two nodes of the tree whose slice lies in the cell at block B. -/
theorem ChildrenOf1_calls (A0 : Option Addr) (c0 : Nat) (l0 : List S41) (B : Nat) (W : World) (hr : Kd.C k41 W A0 l0.length l0) (hb : W.cell? ⟨B, 0, none⟩ = some (.slice A0 l0.length c0)) (x y : Int) (hx : 0 ≤ x ∧ x < l0.length) (hy : 0 ≤ y ∧ y < l0.length) :
    Calls Try.prog 35 (#[.int .i64 x, .int .i64 y] ++ #[.pointer (some ⟨B, 0, none⟩)]) W fun e w' => e = .returned (.int .i64 (cmpI (rd_T41 l0 x).f1 (rd_T41 l0 y).f1)) ∧ Drawn0 W w' := by
  have hu := Try.underlying41
  obtain ⟨ad, e, x0, x1, x2⟩ := at_T41 hr x hx.1 hx.2
  cases e
  obtain ⟨ad2, e, y0, y1, y2⟩ := at_T41 hr y hy.1 hy.2
  cases e
  obtain ⟨hx0, hx1⟩ := hx
  obtain ⟨hy0, hy1⟩ := hy
  clear x0 x2 y0 y2 hr
  go_enter Try.func35, Try.ntmps35
  go_wp2
  go_quiet ((go_at_call 36; refine (compare_calls _ _ _).mono ?_; rintro e w' ⟨rfl, rfl⟩; (first | exact ⟨rfl, 0, rfl⟩ | exact ⟨rfl, _, rfl⟩)))
  go_wp2
  go_ret
  exact ⟨rfl, ⟨⟨_, rfl⟩⟩⟩
/-- The nodes below node k among the first n, by their numbers. -/
def kidsTo (t : List S41) (k : Int) (n : Nat) : List Int := ((List.range n).filter fun i : Nat => (rd_T41 t (i : Int)).f0 == k).map fun i : Nat => (i : Int)
theorem kidsTo_succ (t : List S41) (k : Int) (n : Nat) : kidsTo t k (n + 1) = kidsTo t k n ++ (if (rd_T41 t (n : Int)).f0 == k then [(n : Int)] else []) := by
  unfold kidsTo
  rw [List.range_succ, List.filter_append, List.map_append]
  congr 1
  cases h : (rd_T41 t (n : Int)).f0 == k <;> simp [h]
theorem kidsTo_len (t : List S41) (k : Int) (n : Nat) : (kidsTo t k n).length ≤ n := by
  unfold kidsTo
  rw [List.length_map]
  exact Nat.le_trans (List.length_filter_le _ _) (by simp)
theorem kidsTo_mem {t : List S41} {k : Int} {n : Nat} {x : Int} : x ∈ kidsTo t k n ↔ 0 ≤ x ∧ x < n ∧ (rd_T41 t x).f0 = k := by
  unfold kidsTo
  simp only [List.mem_map, List.mem_filter, List.mem_range, beq_iff_eq]
  constructor
  · rintro ⟨i, ⟨h1, h2⟩, rfl⟩; exact ⟨by omega, by omega, h2⟩
  · rintro ⟨h0, h1, h2⟩; exact ⟨x.toNat, ⟨by omega, by rw [Int.toNat_of_nonneg h0]; exact h2⟩, Int.toNat_of_nonneg h0⟩
def devCmp (t : List S41) (a b : Int) : Int := cmpI (rd_T41 t a).f1 (rd_T41 t b).f1
/-- The nodes below a node, by their devices. -/
def childrenOf (t : List S41) (k : Int) : List Int := if isNodeB t k = true then insSort (devCmp t) (kidsTo t k t.length) else []
set_option maxHeartbeats 4000000 in
theorem ChildrenOf_calls (A0 : Option Addr) (c0 : Nat) (l0 : List S41) (k : Int) (w : World) (hr0 : Kd.C k41 w A0 l0.length l0) (hc0 : l0.length ≤ c0) :
    Calls Try.prog 18 #[.slice A0 l0.length c0, .int .i64 k] w fun e w' => ∃ v0_ : Value, e = .returned v0_ ∧ Kd.R (Kd.int .i64) 3 w' w.heap.size (fun _ => True) v0_ (childrenOf l0 k) ∧ Below w.heap.size w w' := by
  have hu := Try.underlying41
  have HR0 := Aside0.mk hr0
  have HC0 := Aside0.mk hc0
  have hm : l0.length ≤ 9223372036854775807 := hr0.2.1
  clear hr0 hc0
  go_enter Try.func18, Try.ntmps18
  go_wp2_with (first | ((with_reducible refine gate_dst (N := 8) rfl ?_); refine Kd.R_lit (Kd.int .i64) _ 3 ?hg (N := 8) ?hd (xs := ([] : List Int)) (inner := []) (ok := fun _ => True) (okp := fun _ => True) ?hr ?hp (fun _ hk => hk) trivial (below_alloc (Below.refl w.heap.size w) _) (by simp) (by simp) ?_; (case hd => rfl); (case hg => rfl); (case hr => first | (go_simp; done) | (go_simp; rfl)); (case hp => exact (Reps.none _ _)); intro v1 w1 ho1 hb1 hg_ hnew_; have HX1 := Aside0.mk (blk_grown (heap_alloc_new _ _) hg_ (by simp)); have HO1 := Aside0.mk ho1; have HB1 := Aside0.mk hb1; clear ho1 hb1 hg_ hnew_; have hcb1 := (blk_cell HX1.out 0).trans rfl) | fail)
  have hisn := isNode_calls A0 c0 l0 k w1 (Kd.C_below HR0.out HB1.out) HC0.out
  cases hN : isNodeB l0 k with
  | false =>
    rw [hN] at hisn
    refine hisn.mono ?_
    clear hisn
    rintro e w2 ⟨rfl, hb⟩
    have HB2 := Aside0.mk (below_step HB1.out hb)
    have HO2 := Aside0.mk (Kd.R_below HO1.out hb)
    have HNN := Aside0.mk hN
    clear hb hcb1 hN
    go_wp2
    go_ret
    exact ⟨_, rfl, by unfold childrenOf; rw [HNN.out]; exact HO2.out, HB2.out⟩
  | true =>
    rw [hN] at hisn
    refine hisn.mono ?_
    clear hisn
    rintro e w2 ⟨rfl, hb⟩
    have HB2 := Aside0.mk (below_step HB1.out hb)
    have HO2 := Aside0.mk (Kd.R_below HO1.out hb)
    have HX2 := Aside0.mk (blk_grown HX1.out (grown_of_below hb none) (by simp))
    have hln : l0.length ≤ 12 := by unfold isNodeB at hN; simp only [Bool.and_eq_true] at hN; exact (treeOk_len hN.1).2
    have HNN := Aside0.mk hN
    clear hb hcb1 hN
    have hcb2 : w2.cell? ⟨w.heap.size, 0, none⟩ = some (.slice A0 l0.length c0) := (blk_cell HX2.out 0).trans rfl
    go_wp2
    clear hcb2
    go_loopg [5, 16] 13 (fun gg v5 v16 wr => ∃ i : Nat, i ≤ l0.length ∧ l0.length - i < gg ∧ v16 = .int .i64 i ∧ Aside0 (Kd.R (Kd.int .i64) 3 wr w.heap.size (fun _ => True) v5 (kidsTo l0 k i)) ∧ Aside0 (Below w.heap.size w wr) ∧ Aside0 (wr.heap[w.heap.size]? = some (.cells #[.slice A0 l0.length c0] 24 (0, 0))))
    case atStart => exact ⟨0, Nat.zero_le _, by omega, rfl, HO2, HB2, HX2⟩
    case round =>
      obtain ⟨i, hi, hg, rfl, HO, HB, HX⟩ := hrel
      by_cases hlt : i < l0.length
      · have hltz : (i : Int) < (l0.length : Int) := by omega
        obtain ⟨ad, e1, hx0, hx1, hx2⟩ := at_B HR0.out HB.out i hlt
        cases e1
        have HK := Aside0.mk (kidsTo_succ l0 k i)
        cases hq : (rd_T41 l0 (i : Int)).f0 == k with
        | false =>
          rw [hq] at HK
          have HOA := Aside0.mk (Kd.R_alloc HO.out (.cells #[.int .i64 (rd_T41 l0 (i : Int)).f0, .int .i64 (rd_T41 l0 (i : Int)).f1, .int .i64 (rd_T41 l0 (i : Int)).f2] 41))
          go_wp2
          go_roundg (l0.length - i)
          case measure => omega
          case rel => exact ⟨i + 1, by omega, by omega, by go_num, ⟨by rw [HK.out]; simpa using HOA.out⟩, ⟨below_alloc HB.out _⟩, ⟨blk_alloc HX.out _⟩⟩
        | true =>
          rw [hq] at HK
          have hkl := kidsTo_len l0 k i
          have HOA := Aside0.mk (Kd.R_alloc HO.out (.cells #[.int .i64 (rd_T41 l0 (i : Int)).f0, .int .i64 (rd_T41 l0 (i : Int)).f1, .int .i64 (rd_T41 l0 (i : Int)).f2] 41))
          have HBA := Aside0.mk (below_alloc HB.out (.cells #[.int .i64 (rd_T41 l0 (i : Int)).f0, .int .i64 (rd_T41 l0 (i : Int)).f1, .int .i64 (rd_T41 l0 (i : Int)).f2] 41))
          have HXA := Aside0.mk (blk_alloc HX.out (.cells #[.int .i64 (rd_T41 l0 (i : Int)).f0, .int .i64 (rd_T41 l0 (i : Int)).f1, .int .i64 (rd_T41 l0 (i : Int)).f2] 41))
          go_upto_region 8 with (fail)
          generalize (wr.alloc (.cells #[.int .i64 (rd_T41 l0 (i : Int)).f0, .int .i64 (rd_T41 l0 (i : Int)).f1, .int .i64 (rd_T41 l0 (i : Int)).f2] 41)) = w5 at HOA HBA HXA ⊢
          go_wp2_with ((with_reducible refine gate_builtin (b := .append) (xs := #[.tmp 25, .tmp 27]) rfl ?_); at_builtin; refine Kd.R_append (Kd.int .i64) (w0 := w) w.heap.size rfl (.tmp 25) (.tmp 27) 25 3 (.int .i64 0) 8 rfl Try.underlying25 info3 rfl (by decide) (by omega) u5 (kidsTo l0 k i) i [.int .i64 i] (fun _ => True) (fun _ => False) rfl rfl ?aP (fun _ hk => hk.elim) ?aF ?aO ?aB ?aS ?aL ?_; (case aP => exact rfl); (case aF => exact (fun _ _ => trivial)); (case aO => exact HOA.out); (case aB => exact HBA.out); (case aS => exact HBA.out.size); (case aL => omega); intro v1 w3 ho hb hg3 hat; have HO3 := Aside0.mk ho; have HB3 := Aside0.mk hb; have HX3 := Aside0.mk (blk_grown HXA.out hg3 (Kd.R_ne HOA.out HXA.out (by decide))); clear ho hb hg3 hat)
          go_roundg (l0.length - i)
          case measure => omega
          case rel => exact ⟨i + 1, by omega, by omega, by go_num, ⟨by rw [HK.out]; exact HO3.out⟩, HB3, HX3⟩
      · have hltz : ¬ (i : Int) < (l0.length : Int) := by omega
        have hil : i = l0.length := by omega
        subst hil
        obtain ⟨xs, hxs⟩ : ∃ xs, kidsTo l0 k l0.length = xs := ⟨_, rfl⟩
        have HO9 := HO
        rw [hxs] at HO9
        cases xs with
        | nil =>
          have HQ : childrenOf l0 k = [] := by unfold childrenOf; rw [if_pos HNN.out, hxs]; rfl
          have HQ' := Aside0.mk HQ
          obtain ⟨A9, c9, rfl, _, _⟩ := Kd.R_reads HO9.out
          clear hxs HQ
          go_wp2_with (fail)
          refine (sortFunc_none _ _ _ _).mono ?_
          rintro e w' ⟨rfl, rfl⟩
          go_wp2
          go_ret
          exact ⟨_, rfl, by rw [HQ'.out]; exact HO9.out, HB.out⟩
        | cons a r =>
          obtain ⟨g, c, rfl, hgw, hgs⟩ := R_open HO9.out (by simp)
          have HQ : childrenOf l0 k = insSort (devCmp l0) (a :: r) := by unfold childrenOf; rw [if_pos HNN.out, hxs]
          have HQ' := Aside0.mk HQ
          have hne : some w.heap.size ≠ some g := Kd.R_ne HO9.out HX.out (by decide)
          have hcmp : CmpI 35 #[.pointer (some ⟨w.heap.size, 0, none⟩)] (devCmp l0) g (a :: r) wr := by
            intro W x y hg hx hy
            have hb : Below w.heap.size w W := pw_below_grown HB.out (some g) HB.out.size hg (fun j hj => by cases hj; exact hgw)
            rw [← hxs] at hx hy
            obtain ⟨x0, x1, _⟩ := kidsTo_mem.mp hx
            obtain ⟨y0, y1, _⟩ := kidsTo_mem.mp hy
            exact ChildrenOf1_calls A0 c0 l0 w.heap.size W (Kd.C_below HR0.out hb) ((blk_cell (blk_grown HX.out hg hne) 0).trans rfl) x y ⟨x0, x1⟩ ⟨y0, y1⟩
          have eg : ∀ args w, (callFunc 35 args).run Try.prog w = .ok (.enter 35 args) w := fun args w => enters_ Try.func35 (by kernel_rfl) rfl args w
          have hlen : (a :: r).length ≤ 12 := by rw [← hxs]; exact Nat.le_trans (kidsTo_len _ _ _) hln
          have HS := Aside0.mk (sortFunc_small 35 #[.pointer (some ⟨w.heap.size, 0, none⟩)] (devCmp l0) eg g c (a :: r).length (a :: r) w.heap.size (fun _ => True) wr HO9.out hcmp rfl (by simp) hlen)
          have HG := Aside0.mk hgw
          clear hcmp hne hxs HQ eg hlen hgw
          go_wp2_with (fail)
          refine HS.out.mono ?_
          rintro e w' ⟨rfl, h1, h2⟩
          have H1 := Aside0.mk h1
          have H2 := Aside0.mk h2
          clear h1 h2
          go_wp2
          go_ret
          exact ⟨_, rfl, by rw [HQ'.out]; exact H1.out, pw_below_grown HB.out (some g) HB.out.size H2.out (fun j hj => by cases hj; exact HG.out)⟩
def impl_ChildrenOf.f (l0 : List S41) (k : Int) : Option (List Int) := some (childrenOf l0 k)
theorem impl_ChildrenOf.calls (A0 : Option Addr) (c0 : Nat) (l0 : List S41) (k : Int) (r : List Int) (w : World) (hr0 : Kd.C k41 w A0 l0.length l0) (hc0 : l0.length ≤ c0) (h : impl_ChildrenOf.f l0 k = some r) :
    Calls Try.prog 18 #[.slice A0 l0.length c0, .int .i64 k] w fun e w' => ∃ v0_ : Value, e = .returned (v0_) ∧ Kd.R (Kd.int .i64) 3 w' w.heap.size (fun _ => True) v0_ r ∧ Below w.heap.size w w' := by
  obtain rfl := Option.some.inj h
  exact ChildrenOf_calls A0 c0 l0 k w hr0 hc0
end Go.Proofs.Ytijfagfkoiklaaa.P
