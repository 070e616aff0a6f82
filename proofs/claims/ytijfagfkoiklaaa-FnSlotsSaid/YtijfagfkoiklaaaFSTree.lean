import Derived.Test.YtijfagfkoiklaaaFTree
namespace Go.Proofs.Ytijfagfkoiklaaa.P
open Go.RowKit Go.Proofs.YtijfagfkoiklaaaW.PrintWords Go.Proofs.YtijfagfkoiklaaaW.PrintLast Go.Proofs.YtijfagfkoiklaaaW.PrintMore
attribute [local go_sem] max2_int min2_int max_two min_two max_three min_three max_four min_four
attribute [local go_sem high] eqNode
set_option linter.unusedVariables false
set_option linter.unusedSimpArgs false
theorem l01In_calls (a0 a1 a2 : Int) (w : World) :
    Calls Try.prog 47 #[.int .i64 a0, .int .i64 a1, .int .i64 a2] w fun e w' => e = .returned (.bool (inR a0 a1 a2)) ∧ w = w' := by
  by_cases c4 : a1 ≤ a0
  · have c4b0 : decide (a1 ≤ a0) = true := decide_eq_true c4
    go_enter Try.func47, Try.ntmps47
    go_wp2
    go_ret
    exact ⟨by simp [c4, inR], rfl⟩
  · have c4b0 : decide (a1 ≤ a0) = false := decide_eq_false c4
    go_enter Try.func47, Try.ntmps47
    go_wp2
    go_ret
    exact ⟨by simp [c4b0, inR], rfl⟩
/-- No node of the places 1 .. i-1 is like n. -/
def noLike (l : List S41) (n : S41) (i : Nat) : Prop := ∀ j, 1 ≤ j → j < i → ((rd_T41 l j).f0 == n.f0 && (rd_T41 l j).f1 == n.f1) = false
theorem noLike_any {l : List S41} {n : S41} {k : Nat} (h : noLike l n k) (hk : k ≤ l.length) (h0 : (rd_T41 l 0).f0 = -1) (hn : 0 ≤ n.f0) : (l.take k).any (fun o => o.f0 == n.f0 && o.f1 == n.f1) = false := by
  rw [List.any_eq_false]
  intro x hx
  obtain ⟨j, hj, rfl⟩ := List.mem_iff_getElem.mp hx
  rw [List.length_take] at hj
  have hjl : j < l.length := by omega
  rw [List.getElem_take]
  have e : rd_T41 l (j : Int) = l[j] := by unfold rd_T41; rw [Int.toNat_natCast, List.getD_eq_getElem?_getD, List.getElem?_eq_getElem hjl]; rfl
  by_cases hj0 : j = 0
  · subst hj0
    rw [← e]
    simp only [Int.natCast_zero] at *
    have : ¬ (rd_T41 l 0).f0 = n.f0 := by omega
    simp [show ((0 : Nat) : Int) = 0 from rfl, this]
  · have := h j (by omega) (by omega)
    rw [e] at this
    rw [this]; simp
theorem like_any {l : List S41} {n : S41} {k i : Nat} (hi : i < k) (hk : k ≤ l.length) (h : ((rd_T41 l i).f0 == n.f0 && (rd_T41 l i).f1 == n.f1) = true) : (l.take k).any (fun o => o.f0 == n.f0 && o.f1 == n.f1) = true := by
  rw [List.any_eq_true]
  have hil : i < l.length := by omega
  have e : rd_T41 l (i : Int) = l[i] := by unfold rd_T41; rw [Int.toNat_natCast, List.getD_eq_getElem?_getD, List.getElem?_eq_getElem hil]; rfl
  refine ⟨l[i], ?_, by rw [← e]; exact h⟩
  rw [List.mem_iff_getElem]
  exact ⟨i, by rw [List.length_take]; omega, by rw [List.getElem_take]⟩
theorem noLike_step {l : List S41} {n : S41} {i : Nat} (h : noLike l n i) (hi : ((rd_T41 l i).f0 == n.f0 && (rd_T41 l i).f1 == n.f1) = false) : noLike l n (i + 1) := by
  intro j h1 h2
  by_cases e : j = i
  · subst e; exact hi
  · exact h j h1 (by omega)
set_option maxHeartbeats 4000000 in
theorem STreeOk_calls (A0 : Option Addr) (c0 : Nat) (l0 : List S41) (w : World) (hr0 : Kd.C k41 w A0 l0.length l0) (hc0 : l0.length ≤ c0) :
    Calls Try.prog 38 #[.slice A0 l0.length c0] w fun e w' => e = .returned (.bool (treeOk l0)) ∧ Below w.heap.size w w' := by
  have hu41 := Try.underlying41
  have HR0 := Aside0.mk hr0
  have HC0 := Aside0.mk hc0
  have hm : l0.length ≤ 9223372036854775807 := hr0.2.1
  clear hr0 hc0
  cases h1 : inR (l0.length : Int) 1 12 with
  | false =>
    have H1 := Aside0.mk h1
    go_enter Try.func38, Try.ntmps38
    go_wp2_with (go_at_call 47; refine (l01In_calls _ _ _ _).mono ?_; rintro e w' ⟨rfl, rfl⟩)
    go_ret
    exact ⟨by simp [treeOk, H1.out], Below.refl _ _⟩
  | true =>
    have H1 := Aside0.mk h1
    have hb1 := inR_iff.mp h1
    obtain ⟨ad, e1, hx0, hx1, hx2⟩ := at_T41 HR0.out 0 (by omega) (by omega)
    cases e1
    rw [show (0 : Int).toNat * 3 = 0 from rfl, Addr.add_zero'] at hx0 hx1 hx2
    have q1 : (0 : Int) < (l0.length : Int) := by omega
    have q2 : 0 < l0.length := by omega
    cases h2 : rootOk (rd_T41 l0 0) with
    | false =>
      have H2 := Aside0.mk h2
      have h3 : (!(rd_T41 l0 0).f0 == -1 || (!(rd_T41 l0 0).f1 == 0 || !(rd_T41 l0 0).f2 == 0)) = true := by
        rw [rootNot]; unfold rootOk at h2; rw [h2]; rfl
      clear h2
      go_enter Try.func38, Try.ntmps38
      go_wp2_with (go_at_call 47; refine (l01In_calls _ _ _ _).mono ?_; rintro e w' ⟨rfl, rfl⟩)
      go_ret
      exact ⟨by simp [treeOk, H2.out], Below.refl _ _⟩
    | true =>
      have H2 := Aside0.mk h2
      have h3 : (!(rd_T41 l0 0).f0 == -1 || (!(rd_T41 l0 0).f1 == 0 || !(rd_T41 l0 0).f2 == 0)) = false := by
        rw [rootNot]; unfold rootOk at h2; rw [h2]; rfl
      have hroot : (rd_T41 l0 0).f0 = -1 := by unfold rootOk at h2; simp at h2; exact h2.1.1
      have HROOT := Aside0.mk hroot
      clear h2 hroot
      go_enter Try.func38, Try.ntmps38
      go_wp2_with (go_at_call 47; refine (l01In_calls _ _ _ _).mono ?_; rintro e w' ⟨rfl, rfl⟩)
      go_loopg [3] l0.length (fun gg v3 wr => ∃ kk : Nat, 1 ≤ kk ∧ kk ≤ l0.length ∧ l0.length - kk < gg ∧ v3 = .int .i64 kk ∧ Aside0 (Below w.heap.size w wr) ∧ Aside0 (∀ j, j + 1 < kk → nodeOk (l0.take (j + 1)) (rd_T41 l0 ((j : Int) + 1)) = true))
      case atStart => exact ⟨1, Nat.le_refl _, by omega, by omega, rfl, ⟨Below.refl _ w⟩, ⟨fun j hj => absurd hj (by omega)⟩⟩
      case round =>
        obtain ⟨kk, hk1, hkk, hg, rfl, BW, A⟩ := hrel
        obtain ⟨wo, rfl⟩ : ∃ wo : World, wo = wr := ⟨_, rfl⟩
        obtain ⟨go, rfl⟩ : ∃ go : Nat, gk = go + 1 := ⟨gk - 1, by omega⟩
        clear hx0 hx1 hx2 h3
        by_cases hlt : kk < l0.length
        · have hltz : (kk : Int) < (l0.length : Int) := by omega
          obtain ⟨ad1, e1, hx0, hx1, hx2⟩ := at_B HR0.out BW.out kk hlt
          cases e1
          obtain ⟨n, hn⟩ : ∃ n, rd_T41 l0 kk = n := ⟨_, rfl⟩
          rw [hn] at hx0 hx1 hx2
          have HN := Aside0.mk hn
          clear hn
          have HT := Aside0.mk (Kd.C_take HR0.out (m := kk) (by omega))
          have hlen : (l0.take kk).length = kk := by rw [List.length_take]; omega
          have HLT := Aside0.mk hlen
          clear hlen
          have hin : ∀ b, nodeOk (l0.take kk) n = b → (inR n.f0 0 ((kk : Int) - 1) && (rd_T41 (l0.take kk) n.f0).f2 == 0 && inR n.f1 0 3 && inR n.f2 0 4 && !(l0.take kk).any (fun o => o.f0 == n.f0 && o.f1 == n.f1)) = b := by
            intro b h; rw [← h]; unfold nodeOk; rw [HLT.out]
          have HIN := Aside0.mk hin
          clear hin
          have hbad : nodeOk (l0.take kk) n = false → treeOk l0 = false := by
            intro h
            unfold treeOk
            rw [H1.out, H2.out]
            simp only [Bool.true_and]
            rw [List.all_eq_false]
            refine ⟨kk - 1, by simp; omega, ?_⟩
            rw [show kk - 1 + 1 = kk by omega, show ((kk - 1 : Nat) : Int) + 1 = (kk : Int) by omega, HN.out, h]; simp
          have HBAD := Aside0.mk hbad
          clear hbad
          have hgood : nodeOk (l0.take kk) n = true → ∀ j, j + 1 < kk + 1 → nodeOk (l0.take (j + 1)) (rd_T41 l0 ((j : Int) + 1)) = true := by
            intro h j hj
            by_cases e : j + 1 = kk
            · rw [e, show (j : Int) + 1 = (kk : Int) by omega, HN.out]; exact h
            · exact A.out j (by omega)
          have HGOOD := Aside0.mk hgood
          clear hgood
          cases g1 : inR n.f0 0 ((kk : Int) - 1) with
          | false =>
            have G := Aside0.mk (HBAD.out (by have := HIN.out _ rfl; rw [← this, g1]; rfl))
            go_wp2_with (go_at_call 47; refine (l01In_calls _ _ _ _).mono ?_; rintro e w' ⟨rfl, rfl⟩)
            go_ret
            exact ⟨by rw [G.out]; rfl, below_alloc BW.out _⟩
          | true =>
            have hr1 := inR_iff.mp g1
            have G1 := Aside0.mk g1
            obtain ⟨ad2, e2, hy0, hy1, hy2⟩ := at_BI HT.out BW.out n.f0 hr1.1 (by rw [HLT.out]; omega)
            cases e2
            have hyb : (ad.add (n.f0.toNat * 3)).block < wo.heap.size := World.block_lt_of_cell? wo _ hy0
            clear hy0 hy1
            have hyn : ¬ (ad.add (n.f0.toNat * 3)).block = wo.heap.size := by omega
            have hp0 : 0 ≤ n.f0 := hr1.1
            have hpl : n.f0 < (l0.length : Int) := by omega
            cases g2 : (rd_T41 (l0.take kk) n.f0).f2 == 0 with
            | false =>
              have G := Aside0.mk (HBAD.out (by have := HIN.out _ rfl; rw [← this, g2]; simp))
              have g2' : ((rd_T41 (l0.take kk) n.f0).f2 != 0) = true := by simpa using g2
              go_wp2_with (go_at_call 47; refine (l01In_calls _ _ _ _).mono ?_; rintro e w' ⟨rfl, rfl⟩)
              go_ret
              exact ⟨by rw [G.out]; rfl, below_alloc BW.out _⟩
            | true =>
              have g2' : ((rd_T41 (l0.take kk) n.f0).f2 != 0) = false := by simpa using g2
              have G2 := Aside0.mk g2
              cases g3 : inR n.f1 0 3 with
              | false =>
                have G := Aside0.mk (HBAD.out (by have := HIN.out _ rfl; rw [← this, g3]; simp))
                go_wp2_with (go_at_call 47; refine (l01In_calls _ _ _ _).mono ?_; rintro e w' ⟨rfl, rfl⟩)
                go_ret
                exact ⟨by rw [G.out]; rfl, below_alloc BW.out _⟩
              | true =>
                have G3 := Aside0.mk g3
                cases g4 : inR n.f2 0 4 with
                | false =>
                  have G := Aside0.mk (HBAD.out (by have := HIN.out _ rfl; rw [← this, g4]; simp))
                  go_wp2_with (go_at_call 47; refine (l01In_calls _ _ _ _).mono ?_; rintro e w' ⟨rfl, rfl⟩)
                  go_ret
                  exact ⟨by rw [G.out]; rfl, below_alloc BW.out _⟩
                | true =>
                  have G4 := Aside0.mk g4
                  go_wp2_with (go_at_call 47; refine (l01In_calls _ _ _ _).mono ?_; rintro e w' ⟨rfl, rfl⟩)
                  clear hy2 hx0 hx1 hx2 hyb hyn g1 g2 g3 g4 g2'
                  go_loopg [5] l0.length (fun g2 v5 wr2 => ∃ ii : Nat, 1 ≤ ii ∧ ii ≤ kk ∧ kk - ii ≤ g2 ∧ v5 = .int .i64 ii ∧ Aside0 (wr2.heap[wo.heap.size]? = some (.cells #[.int .i64 n.f0, .int .i64 n.f1, .int .i64 n.f2] 41 (0, 0))) ∧ Aside0 (Below w.heap.size w wr2) ∧ Aside0 (noLike l0 n ii))
                  case atStart => exact ⟨1, Nat.le_refl _, hk1, by omega, rfl, ⟨heap_alloc_new _ _⟩, ⟨below_alloc BW.out _⟩, ⟨fun j h1 h2 => absurd h2 (by omega)⟩⟩
                  case round =>
                    obtain ⟨ii, hi1, hik, hg2, rfl, hh, BW2, B⟩ := hrel
                    have b0 : wr.cell? ⟨wo.heap.size, 0, none⟩ = some (.int .i64 n.f0) := (blk_cell hh.out 0).trans rfl
                    have b1 : wr.cell? ⟨wo.heap.size, 1, none⟩ = some (.int .i64 n.f1) := (blk_cell hh.out 1).trans rfl
                    by_cases hil : ii < kk
                    · have hilz : (ii : Int) < (kk : Int) := by omega
                      have hill : (ii : Int) < (l0.length : Int) := by omega
                      obtain ⟨ad3, e3, hx0, hx1, hx2⟩ := at_B HR0.out BW2.out ii (by omega)
                      cases e3
                      cases d1 : (rd_T41 l0 ii).f0 == n.f0 with
                      | false =>
                        have D := Aside0.mk (noLike_step B.out (by rw [d1]; rfl))
                        go_wp2
                        go_quiet (fail)
                        go_wp2
                        go_roundg (kk - (ii + 1))
                        case measure => omega
                        case rel => exact ⟨ii + 1, by omega, by omega, by omega, by go_num, hh, ⟨pw_below_drewN BW2.out _⟩, D⟩
                      | true =>
                        cases d2 : (rd_T41 l0 ii).f1 == n.f1 with
                        | false =>
                          have D := Aside0.mk (noLike_step B.out (by rw [d1, d2]; rfl))
                          go_wp2
                          go_quiet (fail)
                          go_wp2
                          go_roundg (kk - (ii + 1))
                          case measure => omega
                          case rel => exact ⟨ii + 1, by omega, by omega, by omega, by go_num, hh, ⟨pw_below_drewN BW2.out _⟩, D⟩
                        | true =>
                          have D := Aside0.mk (HBAD.out (by have := HIN.out _ rfl; rw [← this, like_any hil (by omega) (by rw [d1, d2]; rfl)]; simp))
                          go_wp2
                          go_quiet (fail)
                          go_wp2
                          go_ret
                          exact ⟨by rw [D.out]; rfl, pw_below_drewN BW2.out _⟩
                    · have hilz : ¬ (ii : Int) < (kk : Int) := by omega
                      have D := Aside0.mk (HGOOD.out (by
                        have h := HIN.out _ rfl
                        rw [G1.out, G2.out, G3.out, G4.out, noLike_any (k := kk) (by have := B.out; rwa [show ii = kk by omega] at this) (by omega) HROOT.out hp0] at h
                        exact h.symm))
                      go_wp2
                      go_roundg (l0.length - kk)
                      case measure => omega
                      case rel => exact ⟨kk + 1, by omega, by omega, by omega, by go_num, BW2, D⟩
        · have hltz : ¬ (kk : Int) < (l0.length : Int) := by omega
          go_wp2
          go_ret
          refine ⟨?_, BW.out⟩
          have : treeOk l0 = true := by
            unfold treeOk
            rw [H1.out, H2.out]
            simp only [Bool.true_and, List.all_eq_true, List.mem_range]
            intro j hj
            exact A.out j (by omega)
          rw [this]; rfl
def spec_TreeOk.f (l0 : List S41) : Option Bool := some (treeOk l0)
theorem spec_TreeOk.calls (A0 : Option Addr) (c0 : Nat) (l0 : List S41) (r : Bool) (w : World) (hr0 : Kd.C k41 w A0 l0.length l0) (hc0 : l0.length ≤ c0) (h : spec_TreeOk.f l0 = some r) :
    Calls Try.prog 38 #[.slice A0 l0.length c0] w fun e w' => e = .returned (.bool r) ∧ Below w.heap.size w w' := by
  obtain rfl := Option.some.inj h
  exact STreeOk_calls A0 c0 l0 w hr0 hc0
def spec_l01In.f (a0 a1 a2 : Int) : Option Bool := some (inR a0 a1 a2)
theorem spec_l01In.calls (a0 a1 a2 : Int) (r : Bool) (w : World) (h : spec_l01In.f a0 a1 a2 = some r) :
    Calls Try.prog 47 #[.int .i64 a0, .int .i64 a1, .int .i64 a2] w fun e w' => e = .returned (.bool r) ∧ Drawn0 w w' := by
  obtain rfl := Option.some.inj h
  exact (l01In_calls a0 a1 a2 w).mono fun e w' ⟨he, hw⟩ => ⟨he, hw ▸ Drawn0.refl w⟩
end Go.Proofs.Ytijfagfkoiklaaa.P
