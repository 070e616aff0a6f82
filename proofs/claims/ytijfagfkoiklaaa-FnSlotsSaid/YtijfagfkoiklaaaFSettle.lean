import Derived.Test.YtijfagfkoiklaaaFClone
import Derived.Test.YtijfagfkoiklaaaFDepth
import Derived.BigRegion
import Derived.RegionTactic
import Derived.ChangeAlike
namespace Go.Proofs.Ytijfagfkoiklaaa.P
open Go.RowKit Go.Proofs.YtijfagfkoiklaaaW.PrintWords Go.Proofs.YtijfagfkoiklaaaW.PrintLast Go.Proofs.YtijfagfkoiklaaaW.PrintMore
attribute [local go_sem] max2_int min2_int max_two min_two max_three min_three max_four min_four
set_option linter.unusedVariables false
set_option linter.unusedSimpArgs false
theorem R_open {α : Type} {enc : α → Value} {h1 : ∀ x, (enc x).oneCell' = true} {e base : Nat} {ok : Nat → Prop} {W : World} {v : Value} {xs : List α} (h : (Kd.scalar enc h1).R e W base ok v xs) (hp : 0 < xs.length) :
    ∃ g cap, v = .slice (some ⟨g, 0, none⟩) xs.length cap ∧ base ≤ g ∧ g < W.heap.size := by
  have ho := Kd.own_of_R h
  rcases ho.2 with ⟨rfl, h0⟩ | ⟨g, cap, cur, rfl, hb, hh, _⟩
  · omega
  · exact ⟨g, cap, rfl, hb, blk_lt hh⟩
def settleGo (t : List S41) : Nat → List Int → List Int
  | 0, s => s
  | k + 1, s => settleGo t k (s.set ((rd_T41 t ((k : Int) + 1)).f0).toNat (mn (rd s ((rd_T41 t ((k : Int) + 1)).f0)) (rd s ((k : Int) + 1))))
/-- Wishes, settled. -/
def settleW (t : List S41) (w : List Int) : List Int := if areD t w = true then settleGo t (t.length - 1) w else []
theorem rd_take' {l : List S41} {k : Nat} {i : Int} (h0 : 0 ≤ i) (h : i < k) : rd_T41 (l.take k) i = rd_T41 l i := by
  unfold rd_T41
  rw [List.getD_eq_getElem?_getD, List.getD_eq_getElem?_getD, List.getElem?_take_of_lt (by omega)]
/-- What a valid tree says of node k. -/
theorem tree_at {t : List S41} (h : treeOk t = true) {k : Nat} (h0 : 1 ≤ k) (h1 : k < t.length) : 0 ≤ (rd_T41 t k).f0 ∧ (rd_T41 t k).f0 < k ∧ (rd_T41 t (rd_T41 t k).f0).f2 = 0 ∧ 0 ≤ (rd_T41 t k).f1 ∧ (rd_T41 t k).f1 ≤ 3 ∧ 0 ≤ (rd_T41 t k).f2 ∧ (rd_T41 t k).f2 ≤ 4 := by
  unfold treeOk at h
  simp only [Bool.and_eq_true, List.all_eq_true, List.mem_range] at h
  have hn := h.2 (k - 1) (by omega)
  rw [show k - 1 + 1 = k by omega, show ((k - 1 : Nat) : Int) + 1 = (k : Int) by omega] at hn
  unfold nodeOk at hn
  simp only [Bool.and_eq_true, beq_iff_eq, inR_iff] at hn
  have hl : (t.take k).length = k := by rw [List.length_take]; omega
  rw [hl] at hn
  obtain ⟨⟨⟨⟨a, b⟩, c⟩, d⟩, _⟩ := hn
  rw [rd_take' a.1 (by omega)] at b
  exact ⟨a.1, by omega, b, c.1, c.2, d.1, d.2⟩
theorem tree_len {t : List S41} (h : treeOk t = true) : 1 ≤ t.length ∧ t.length ≤ 12 := by
  unfold treeOk at h
  simp only [Bool.and_eq_true, inR_iff] at h
  omega
theorem tree_root {t : List S41} (h : treeOk t = true) : (rd_T41 t 0).f0 = -1 ∧ (rd_T41 t 0).f1 = 0 ∧ (rd_T41 t 0).f2 = 0 := by
  unfold treeOk rootOk at h
  simp only [Bool.and_eq_true, beq_iff_eq] at h
  exact ⟨h.1.2.1.1, h.1.2.1.2, h.1.2.2⟩
theorem areD_iff {t : List S41} {l : List Int} : areD t l = true ↔ treeOk t = true ∧ l.length = t.length ∧ ∀ x ∈ l, 0 ≤ x ∧ x ≤ 3 := by
  unfold areD
  simp only [Bool.and_eq_true, beq_iff_eq, Bool.not_eq_true', List.any_eq_false, Bool.not_eq_true, Bool.not_eq_false, inR_iff, and_assoc]
set_option maxHeartbeats 2000000 in
theorem settle_calls (A0 : Option Addr) (c0 : Nat) (l0 : List S41) (A1 : Option Addr) (c1 : Nat) (l1 : List Int) (w : World) (hr0 : Kd.C k41 w A0 l0.length l0) (hc0 : l0.length ≤ c0) (hr1 : Kd.C (Kd.int .i64) w A1 l1.length l1) (hc1 : l1.length ≤ c1) :
    Calls Try.prog 8 #[.slice A0 l0.length c0, .slice A1 l1.length c1] w fun e w' => ∃ v0_ : Value, e = .returned v0_ ∧ Kd.R (Kd.int .i64) 3 w' w.heap.size (fun _ => True) v0_ (settleW l0 l1) ∧ Below w.heap.size w w' := by
  have hu := Try.underlying41
  have HD := Aside0.mk (areDepths_calls A0 c0 l0 A1 c1 l1 w hr0 hc0 hr1 hc1)
  have HR0 := Aside0.mk hr0
  have HR1 := Aside0.mk hr1
  clear hr0 hc0 hr1
  cases h1 : areD l0 l1 with
  | false =>
    have H1 := Aside0.mk h1
    rw [h1] at HD
    clear h1
    go_enter Try.func8, Try.ntmps8
    go_wp2_with (go_at_call 24; refine HD.out.mono ?_; rintro e w' ⟨rfl, hb'⟩; have HB := Aside0.mk hb'; clear hb')
    go_ret
    exact ⟨_, rfl, by unfold settleW; rw [H1.out]; exact Kd.R_nil _ _ _ _ _, HB.out⟩
  | true =>
    have H1 := Aside0.mk h1
    rw [h1] at HD
    obtain ⟨ht, hl, hx⟩ := areD_iff.mp h1
    have hln := tree_len ht
    have HT := Aside0.mk ht
    have HL := Aside0.mk hl
    have hl1 : l1.length < 17592186044416 := by omega
    clear h1 ht hl hx
    have hll : l0.length ≤ 12 := hln.2
    have hl0 : 1 ≤ l0.length := hln.1
    clear hln
    go_enter Try.func8, Try.ntmps8
    go_wp2_with (first | (go_at_call 24; refine HD.out.mono ?_; rintro e w' ⟨rfl, hb'⟩; have HB := Aside0.mk hb'; clear hb') | (go_at_call 25; refine (cloneI_calls A1 c1 l1 _ (Kd.C_below HR1.out HB.out) hl1).mono ?_; rintro e w2 ⟨v, rfl, hr2, hb2⟩; obtain ⟨g, cap, rfl, hg, hgl⟩ := R_open hr2 (by have := HL.out; omega); have HR2 := Aside0.mk (Kd.R_lower hr2 HB.out.size); have HB2 := Aside0.mk (below_step HB.out hb2); have HG := Aside0.mk (Nat.le_trans HB.out.size hg); clear hr2 hb2 hg hgl))
    go_loopg [6] l0.length (fun gg v6 wr => ∃ (kk : Nat) (s : List Int), kk + 1 ≤ l0.length ∧ kk < gg ∧ v6 = .int .i64 kk ∧ s.length = l0.length ∧ Aside0 (Kd.R (Kd.int .i64) 3 wr w.heap.size (fun _ => True) (.slice (some ⟨g, 0, none⟩) l1.length cap) s) ∧ Aside0 (Below w.heap.size w wr) ∧ Aside0 (settleGo l0 kk s = settleW l0 l1))
    case atStart =>
      refine ⟨l0.length - 1, l1, by omega, by omega, ?_, HL.out, HR2, HB2, ⟨by unfold settleW; rw [if_pos H1.out]⟩⟩
      rw [show ((l0.length - 1 : Nat) : Int) = (l0.length : Int) - 1 by omega]
    case round =>
      obtain ⟨kk, s, hk, hg, rfl, hsl, HRS, HBS, HE⟩ := hrel
      have HSL := Aside0.mk hsl
      clear hsl
      cases kk with
      | zero =>
        have hz : ¬ (0 : Int) < 0 := by omega
        go_wp2
        go_ret
        refine ⟨_, rfl, ?_, HBS.out⟩
        have := HE.out
        rw [settleGo] at this
        rw [← this]; exact HRS.out
      | succ j =>
        have hj0 : (0 : Int) < ((j + 1 : Nat) : Int) := by omega
        have hjl : ((j + 1 : Nat) : Int) < (l0.length : Int) := by omega
        obtain ⟨hp0, hp1, _, _⟩ := tree_at HT.out (k := j + 1) (by omega) (by omega)
        obtain ⟨ad, e1, hx0, hx1, hx2⟩ := at_B HR0.out HBS.out (j + 1) (by omega)
        cases e1
        obtain ⟨p, hp⟩ : ∃ p, (rd_T41 l0 ((j + 1 : Nat) : Int)).f0 = p := ⟨_, rfl⟩
        rw [hp] at hp0 hp1 hx0
        have HP := Aside0.mk hp
        clear hp hx1 hx2
        have hlen := HSL.out
        obtain ⟨hc1, hf1⟩ := Kd.R_celln (0 : Int) HRS.out p hp0 (by have := HL.out; omega)
        obtain ⟨hc2, hf2⟩ := Kd.R_celln (0 : Int) HRS.out ((j + 1 : Nat) : Int) (by omega) (by have := HL.out; omega)
        have HW := fun x => Aside0.mk (Kd.R_putn HRS.out p x)
        have hpl : p < (l1.length : Int) := by have := HL.out; omega
        have hjl1 : ((j + 1 : Nat) : Int) < (l1.length : Int) := by have := HL.out; omega
        have hG := HG.out
        clear hlen
        rw [Int.toNat_natCast] at hc2 hf2
        have i0 : (0 : Int) ≤ (j : Int) + 1 := by omega
        have i1 : (j : Int) + 1 < (l0.length : Int) := by omega
        have i2 : (j : Int) + 1 < (l1.length : Int) := by omega
        have hstep : settleGo l0 j (s.set p.toNat (mn (rd s p) (rd s ((j : Int) + 1)))) = settleW l0 l1 := by
          rw [← HE.out, settleGo, ← show (rd_T41 l0 ((j + 1 : Nat) : Int)).f0 = p from HP.out]; rfl
        by_cases hm : rdOf 0 s ((j : Int) + 1) < rdOf 0 s p
        · have hmn : mn (rd s p) (rd s ((j : Int) + 1)) = rdOf 0 s ((j : Int) + 1) := if_pos hm
          rw [hmn] at hstep
          have HSTEP := Aside0.mk hstep
          clear hstep hmn
          go_wp2
          go_region
          go_wp2
          go_roundg (j + 1)
          case measure => omega
          case rel => exact ⟨j, s.set p.toNat (rdOf 0 s ((j : Int) + 1)), by omega, by omega, by go_num, by rw [List.length_set]; exact HSL.out, ⟨Kd.R_drew (HW (rdOf 0 s ((j : Int) + 1))).out⟩, ⟨below_drew1 (below_set HBS.out HG.out)⟩, HSTEP⟩
        · have hmn : mn (rd s p) (rd s ((j : Int) + 1)) = rdOf 0 s p := if_neg hm
          rw [hmn] at hstep
          have HSTEP := Aside0.mk hstep
          clear hstep hmn
          go_wp2
          go_region
          go_wp2
          go_roundg (j + 1)
          case measure => omega
          case rel => exact ⟨j, s.set p.toNat (rdOf 0 s p), by omega, by omega, by go_num, by rw [List.length_set]; exact HSL.out, ⟨Kd.R_drew (HW (rdOf 0 s p)).out⟩, ⟨below_drew1 (below_set HBS.out HG.out)⟩, HSTEP⟩
def impl_SettleSleep.f (l0 : List S41) (l1 : List Int) : Option (List Int) := some (settleW l0 l1)
theorem impl_SettleSleep.calls (A0 : Option Addr) (c0 : Nat) (l0 : List S41) (A1 : Option Addr) (c1 : Nat) (l1 : List Int) (r : List Int) (w : World) (hr0 : Kd.C k41 w A0 l0.length l0) (hc0 : l0.length ≤ c0) (hr1 : Kd.C (Kd.int .i64) w A1 l1.length l1) (hc1 : l1.length ≤ c1) (h : impl_SettleSleep.f l0 l1 = some r) :
    Calls Try.prog 8 #[.slice A0 l0.length c0, .slice A1 l1.length c1] w fun e w' => ∃ v0_ : Value, e = .returned (v0_) ∧ Kd.R (Kd.int .i64) 3 w' w.heap.size (fun _ => True) v0_ r ∧ Below w.heap.size w w' := by
  obtain rfl := Option.some.inj h
  exact settle_calls A0 c0 l0 A1 c1 l1 w hr0 hc0 hr1 hc1
end Go.Proofs.Ytijfagfkoiklaaa.P
