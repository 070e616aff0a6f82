import Derived.Test.YtijfagfkoiklaaaPk
namespace Go.Proofs.Ytijfagfkoiklaaa.P
open Go.RowKit Go.Proofs.YtijfagfkoiklaaaW.PrintWords Go.Proofs.YtijfagfkoiklaaaW.PrintLast Go.Proofs.YtijfagfkoiklaaaW.PrintMore
attribute [local go_sem] max2_int min2_int max_two min_two max_three min_three max_four min_four
set_option linter.unusedVariables false
set_option linter.unusedSimpArgs false
theorem eqNode (d : Nat) (w : World) (x0 y0 : Int) (x1 y1 : Int) (x2 y2 : Int) :
    (Op.equalIn (d + 2) 41 (.agg #[.int .i64 x0, .int .i64 x1, .int .i64 x2]) (.agg #[.int .i64 y0, .int .i64 y1, .int .i64 y2])).run Try.prog w = .ok (x0 == y0 && (x1 == y1 && (x2 == y2))) w := by
  refine eqA_of Try.underlying41 (by kernel_rfl) ?_
  refine eqf_cons (by rfl) (by go_simp; rfl) (by go_simp; rfl) (by go_simp) ?_
  refine eqf_cons (by rfl) (by go_simp; rfl) (by go_simp; rfl) (by go_simp) ?_
  exact eqf_last (by rfl) (by go_simp; rfl) (by go_simp; rfl) (by go_simp)
attribute [local go_sem high] eqNode
def inR (a lo hi : Int) : Bool := decide (lo ≤ a) && decide (a ≤ hi)
theorem inR_iff {a lo hi : Int} : inR a lo hi = true ↔ lo ≤ a ∧ a ≤ hi := by simp [inR]
theorem inR_not {a lo hi : Int} (h : inR a lo hi = false) : ¬ (lo ≤ a ∧ a ≤ hi) := by rw [← inR_iff, h]; simp
theorem within_calls (a0 a1 a2 : Int) (w : World) :
    Calls Try.prog 26 #[.int .i64 a0, .int .i64 a1, .int .i64 a2] w fun e w' => e = .returned (.bool (inR a0 a1 a2)) ∧ w = w' := by
  by_cases c4 : a1 ≤ a0
  · have c4b0 : decide (a1 ≤ a0) = true := decide_eq_true c4
    go_enter Try.func26, Try.ntmps26
    go_wp2
    go_ret
    exact ⟨by simp [c4, inR], rfl⟩
  · have c4b0 : decide (a1 ≤ a0) = false := decide_eq_false c4
    go_enter Try.func26, Try.ntmps26
    go_wp2
    go_ret
    exact ⟨by simp [c4b0, inR], rfl⟩
def nodeOk (before : List S41) (n : S41) : Bool :=
  inR n.f0 0 ((before.length : Int) - 1) && (rd_T41 before n.f0).f2 == 0 && inR n.f1 0 3 && inR n.f2 0 4 && !before.any (fun o => o.f0 == n.f0 && o.f1 == n.f1)
def rootOk (n : S41) : Bool := n.f0 == -1 && n.f1 == 0 && n.f2 == 0
def treeOk (t : List S41) : Bool :=
  inR (t.length : Int) 1 12 && rootOk (rd_T41 t 0) && (List.range (t.length - 1)).all fun k => nodeOk (t.take (k + 1)) (rd_T41 t ((k : Int) + 1))
def v41 (x : S41) : Value := .agg #[.int .i64 x.f0, .int .i64 x.f1, .int .i64 x.f2]
set_option maxHeartbeats 1000000 in
theorem TreeOk1_calls (n x : S41) (B : Nat) (w W : World) (hn : w.heap[B]? = some (.cells #[.int .i64 n.f0, .int .i64 n.f1, .int .i64 n.f2] 41 (0,0))) (hb : Below w.heap.size w W) :
    Calls Try.prog 43 (#[.agg #[.int .i64 x.f0, .int .i64 x.f1, .int .i64 x.f2]] ++ #[.pointer (some ⟨B,0,none⟩)]) W fun e w' => e = .returned (.bool (x.f0 == n.f0 && x.f1 == n.f1)) ∧ Below w.heap.size w w' := by
  have hu41 := Try.underlying41
  have hB := blk_lt hn
  have c0 : W.cell? ⟨B, 0, none⟩ = some (.int .i64 n.f0) := (hb.cell (p := ⟨B, 0, none⟩) hB).trans ((blk_cell hn 0).trans rfl)
  have c1 : W.cell? ⟨B, 1, none⟩ = some (.int .i64 n.f1) := (hb.cell (p := ⟨B, 1, none⟩) hB).trans ((blk_cell hn 1).trans rfl)
  have hlt : B < W.heap.size := Nat.lt_of_lt_of_le hB hb.size
  have hne : ¬ B = W.heap.size := by omega
  have HB := Aside0.mk hb
  clear hn hb
  by_cases h : x.f0 = n.f0
  · have h1 : (x.f0 == n.f0) = true := beq_iff_eq.mpr h
    clear h
    go_enter Try.func43, Try.ntmps43
    go_wp2
    go_ret
    exact ⟨by simp [h1], below_alloc HB.out _⟩
  · have h1 : (x.f0 == n.f0) = false := beq_eq_false_iff_ne.mpr h
    clear h
    go_enter Try.func43, Try.ntmps43
    go_wp2
    go_ret
    exact ⟨by simp [h1], below_alloc HB.out _⟩
/-- What is asked of a predicate on nodes: in every later world. -/
def PredN (g : Nat) (lb : Array Value) (p : S41 → Bool) (w : World) : Prop :=
  ∀ (W : World) (x : S41), Below w.heap.size w W → Calls Try.prog g (#[.agg #[.int .i64 x.f0, .int .i64 x.f1, .int .i64 x.f2]] ++ lb) W fun e w' => e = .returned (.bool (p x)) ∧ Below w.heap.size w w'

set_option maxHeartbeats 1000000 in
theorem idxN_calls (g : Nat) (lb : Array Value) (p : S41 → Bool) (eg : ∀ args w, (callFunc g args).run Try.prog w = .ok (.enter g args) w) (A0 : Option Addr) (c0 : Nat) (l0 : List S41) (w : World) (hr0 : Kd.C k41 w A0 l0.length l0) (hp : PredN g lb p w) :
    Calls Try.prog 42 #[.slice A0 l0.length c0, .func (.func g) #[] lb] w fun e w' => (∃ i : Int, e = .returned (.int .i64 i) ∧ decide (0 ≤ i) = l0.any p) ∧ Below w.heap.size w w' := by
  have hu41 := Try.underlying41
  have HR0 := Aside0.mk hr0
  have hm : l0.length ≤ 9223372036854775807 := hr0.2.1
  have HP := Aside0.mk hp
  clear hr0 hp
  go_enter Try.func42, Try.ntmps42
  go_wp2
  go_loopg [5, 8] l0.length (fun gg _ s8 wr => ∃ kk : Nat, kk ≤ l0.length ∧ l0.length - kk ≤ gg ∧ s8 = .int .i64 kk ∧ Aside0 (Below w.heap.size w wr) ∧ Aside0 ((l0.take kk).any p = false))
  case atStart => exact ⟨0, Nat.zero_le _, by omega, rfl, ⟨Below.refl _ w⟩, ⟨by simp⟩⟩
  case round =>
    obtain ⟨kk, hkk, hg, rfl, BW, A⟩ := hrel
    by_cases hlt : kk < l0.length
    · have hltz : (kk : Int) < (l0.length : Int) := by omega
      obtain ⟨ad, e1, hx0, hx1, hx2⟩ := at_T41 HR0.out kk (by omega) hltz
      cases e1; rw [Int.toNat_natCast] at hx0 hx1 hx2
      replace hx0 := (BW.out.cell (World.block_lt_of_cell? w _ hx0)).trans hx0
      replace hx1 := (BW.out.cell (World.block_lt_of_cell? w _ hx1)).trans hx1
      replace hx2 := (BW.out.cell (World.block_lt_of_cell? w _ hx2)).trans hx2
      have hcall := HP.out wr (rd_T41 l0 kk) BW.out
      have hel : rd_T41 l0 kk = l0[kk] := by simp [rd_T41, hlt]
      have hsn : (l0.take (kk + 1)).any p = ((l0.take kk).any p || p (rd_T41 l0 kk)) := by
        rw [List.take_succ_eq_append_getElem hlt, List.any_append, hel]; simp
      have HS := Aside0.mk hsn
      have HE := Aside0.mk hel
      clear hsn hel
      cases hq : p (rd_T41 l0 kk) with
      | true =>
        rw [hq] at hcall
        have HQ := Aside0.mk hq
        clear hq
        have HCL := Aside0.mk hcall
        clear hcall
        go_wp2_with (fail)
        refine HCL.out.mono ?_
        rintro e w' ⟨rfl, hb'⟩
        clear HCL hx0 hx1 hx2
        go_wp2
        go_ret
        refine ⟨⟨_, rfl, ?_⟩, hb'⟩
        rw [show decide (0 ≤ (kk : Int)) = true by simp]
        symm
        rw [List.any_eq_true]
        exact ⟨l0[kk], List.getElem_mem hlt, by rw [← HE.out]; exact HQ.out⟩
      | false =>
        rw [hq] at hcall
        have HQ := Aside0.mk hq
        clear hq
        have HCL := Aside0.mk hcall
        clear hcall
        go_wp2_with (fail)
        refine HCL.out.mono ?_
        rintro e w' ⟨rfl, hb'⟩
        clear HCL hx0 hx1 hx2
        go_wp2
        go_roundg (l0.length - (kk + 1))
        case measure => omega
        case rel => exact ⟨kk + 1, by omega, by omega, by go_num, ⟨hb'⟩, ⟨by rw [HS.out, A.out, HQ.out]; rfl⟩⟩
    · have hltz : ¬ (kk : Int) < (l0.length : Int) := by omega
      go_wp2
      go_ret
      refine ⟨⟨_, rfl, ?_⟩, BW.out⟩
      have ha := A.out
      rw [List.take_of_length_le (by omega)] at ha
      rw [ha]; rfl

set_option maxHeartbeats 1000000 in
theorem conN_calls (g : Nat) (lb : Array Value) (p : S41 → Bool) (eg : ∀ args w, (callFunc g args).run Try.prog w = .ok (.enter g args) w) (A0 : Option Addr) (c0 : Nat) (l0 : List S41) (w : World) (hr0 : Kd.C k41 w A0 l0.length l0) (hp : PredN g lb p w) :
    Calls Try.prog 30 #[.slice A0 l0.length c0, .func (.func g) #[] lb] w fun e w' => e = .returned (.bool (l0.any p)) ∧ Below w.heap.size w w' := by
  have H := Aside0.mk (idxN_calls g lb p eg A0 c0 l0 w hr0 hp)
  clear hr0 hp
  go_enter Try.func30, Try.ntmps30
  go_wp2_with (go_at_call 42; refine H.out.mono ?_; rintro e w' ⟨⟨i, rfl, hi⟩, hb'⟩; have HI := Aside0.mk hi; clear hi)
  go_ret
  exact ⟨by rw [← HI.out]; rfl, hb'⟩
theorem cutF {P : Program} {α : Type} (k : Kd α) (t e : TypeId) {i : TypeInfo} (ht : P.underlying t = some (.slice e)) (hi : P.info? e = some i) (hs : i.size = k.sz) (A : Option Addr) (c : Nat) (l : List α) (m : Nat) (hm : m ≤ l.length) (hc : l.length ≤ c) :
    ∃ A' : Option Addr, (∀ W : World, (Instr.slice t (.slice A l.length c) (some (.int .i64 (m : Int))) none none).run P W = .ok (.slice A' (l.drop m).length (c - m)) W) ∧ ∀ W, Kd.C k W A l.length l → Kd.C k W A' (l.drop m).length (l.drop m) := by
  refine ⟨if c = m then A else A.map (·.add (m * k.sz)), fun W => ?_, fun W h => Kd.C_drop h hm hc⟩
  have h := cut_from t e .i64 ht hi k.sz hs A l.length c (m : Int) (by omega) (by omega) W
  rw [Int.toNat_natCast] at h
  rw [h, List.length_drop]
theorem rootNot (a b c : Bool) : (!a || (!b || !c)) = !(a && b && c) := by cases a <;> cases b <;> cases c <;> rfl
theorem info41' : ∃ i, Try.prog.info? 41 = some i ∧ i.size = 3 := by
  have h := info41
  cases h' : Try.prog.info? 41 with
  | none => rw [h'] at h; cases h
  | some i => rw [h'] at h; simp at h; exact ⟨i, rfl, h.2.1⟩
theorem at_B {w W : World} {A : Option Addr} {n : Nat} {xs : List S41} (h : Kd.C k41 w A n xs) (hb : Below w.heap.size w W) (i : Nat) (h1 : i < n) : ∃ ad , A = some ad ∧ W.cell? (ad.add (i * 3)) = some (.int .i64 (rd_T41 xs i).f0) ∧ W.cell? ⟨(ad.add (i * 3)).block, (ad.add (i * 3)).off + 1, none⟩ = some (.int .i64 (rd_T41 xs i).f1) ∧ W.cell? ⟨(ad.add (i * 3)).block, (ad.add (i * 3)).off + 2, none⟩ = some (.int .i64 (rd_T41 xs i).f2) := by
  obtain ⟨ad, e, h0, h1, h2⟩ := at_T41 h i (by omega) (by omega)
  rw [Int.toNat_natCast] at h0 h1 h2
  exact ⟨ad, e, (hb.cell (World.block_lt_of_cell? w _ h0)).trans h0, (hb.cell (World.block_lt_of_cell? w _ h1)).trans h1, (hb.cell (World.block_lt_of_cell? w _ h2)).trans h2⟩
theorem at_BI {w W : World} {A : Option Addr} {n : Nat} {xs : List S41} (h : Kd.C k41 w A n xs) (hb : Below w.heap.size w W) (i : Int) (h0 : 0 ≤ i) (h1 : i < n) : ∃ ad , A = some ad ∧ W.cell? (ad.add (i.toNat * 3)) = some (.int .i64 (rd_T41 xs i).f0) ∧ W.cell? ⟨(ad.add (i.toNat * 3)).block, (ad.add (i.toNat * 3)).off + 1, none⟩ = some (.int .i64 (rd_T41 xs i).f1) ∧ W.cell? ⟨(ad.add (i.toNat * 3)).block, (ad.add (i.toNat * 3)).off + 2, none⟩ = some (.int .i64 (rd_T41 xs i).f2) := by
  obtain ⟨ad, e, h0, h1, h2⟩ := at_T41 h i h0 h1
  exact ⟨ad, e, (hb.cell (World.block_lt_of_cell? w _ h0)).trans h0, (hb.cell (World.block_lt_of_cell? w _ h1)).trans h1, (hb.cell (World.block_lt_of_cell? w _ h2)).trans h2⟩
theorem rd_drop1 (l : List S41) (k : Nat) : rd_T41 (l.drop 1) k = rd_T41 l ((k : Int) + 1) := by
  unfold rd_T41
  rw [show ((k : Int) + 1).toNat = k + 1 by omega, Int.toNat_natCast, List.getD_eq_getElem?_getD, List.getD_eq_getElem?_getD, List.getElem?_drop, Nat.add_comm]
theorem inR_pred (a : Int) (k : Nat) : inR a 0 (((k + 1 : Nat) : Int) - 1) = inR a 0 k := by rw [show (((k + 1 : Nat) : Int) - 1) = (k : Int) by omega]
theorem conN_calls' (g : Nat) (lb : Array Value) (p : S41 → Bool) (eg : ∀ args w, (callFunc g args).run Try.prog w = .ok (.enter g args) w) (A0 : Option Addr) (c0 n : Nat) (l0 : List S41) (w : World) (hn : l0.length = n) (hr0 : Kd.C k41 w A0 l0.length l0) (hp : PredN g lb p w) :
    Calls Try.prog 30 #[.slice A0 n c0, .func (.func g) #[] lb] w fun e w' => e = .returned (.bool (l0.any p)) ∧ Below w.heap.size w w' := by
  subst hn; exact conN_calls g lb p eg A0 c0 l0 w hr0 hp
set_option maxHeartbeats 2000000 in
theorem TreeOk_calls (A0 : Option Addr) (c0 : Nat) (l0 : List S41) (w : World) (hr0 : Kd.C k41 w A0 l0.length l0) (hc0 : l0.length ≤ c0) :
    Calls Try.prog 33 #[.slice A0 l0.length c0] w fun e w' => e = .returned (.bool (treeOk l0)) ∧ Below w.heap.size w w' := by
  have hu41 := Try.underlying41
  have HR0 := Aside0.mk hr0
  have HC0 := Aside0.mk hc0
  have hm : l0.length ≤ 9223372036854775807 := hr0.2.1
  clear hr0 hc0
  cases h1 : inR (l0.length : Int) 1 12 with
  | false =>
    have H1 := Aside0.mk h1
    go_enter Try.func33, Try.ntmps33
    go_wp2_with (go_at_call 26; refine (within_calls _ _ _ _).mono ?_; rintro e w' ⟨rfl, rfl⟩)
    go_ret
    exact ⟨by simp [treeOk, H1.out], Below.refl _ _⟩
  | true =>
    have H1 := Aside0.mk h1
    have hb1 := inR_iff.mp h1
    obtain ⟨ad, e1, hx0, hx1, hx2⟩ := at_T41 HR0.out 0 (by omega) (by omega)
    cases e1
    rw [show (0 : Int).toNat * 3 = 0 from rfl, Addr.add_zero'] at hx0 hx1 hx2
    have q1 : (0 : Int) < (l0.length : Int) := by omega
    have q2 : 0 < l0.length := by omega
    cases h2 : rootOk (rd_T41 l0 0) with
    | false =>
      have H2 := Aside0.mk h2
      have h3 : (!(rd_T41 l0 0).f0 == -1 || (!(rd_T41 l0 0).f1 == 0 || !(rd_T41 l0 0).f2 == 0)) = true := by
        rw [rootNot]; unfold rootOk at h2; rw [h2]; rfl
      clear h2
      go_enter Try.func33, Try.ntmps33
      go_wp2_with (go_at_call 26; refine (within_calls _ _ _ _).mono ?_; rintro e w' ⟨rfl, rfl⟩)
      go_ret
      exact ⟨by simp [treeOk, H2.out], Below.refl _ _⟩
    | true =>
      have H2 := Aside0.mk h2
      have h3 : (!(rd_T41 l0 0).f0 == -1 || (!(rd_T41 l0 0).f1 == 0 || !(rd_T41 l0 0).f2 == 0)) = false := by
        rw [rootNot]; unfold rootOk at h2; rw [h2]; rfl
      obtain ⟨i41, hi, hs⟩ := info41'
      obtain ⟨A1, hcut, hC1⟩ := cutF k41 24 41 Try.underlying24 hi hs (some ad) c0 l0 1 (by omega) HC0.out
      have HR1 := Aside0.mk (hC1 w HR0.out)
      have HI := Aside0.mk hi
      have HS := Aside0.mk hs
      have hl1 : (l0.drop 1).length = l0.length - 1 := List.length_drop
      rw [hl1, show ((1 : Nat) : Int) = 1 from rfl] at hcut
      have HL1 := Aside0.mk hl1
      clear h2 hC1 hi hs hl1
      go_enter Try.func33, Try.ntmps33
      go_wp2_with (go_at_call 26; refine (within_calls _ _ _ _).mono ?_; rintro e w' ⟨rfl, rfl⟩)
      go_loopg [20] l0.length (fun gg v20 wr => ∃ kk : Nat, kk ≤ l0.length - 1 ∧ l0.length - kk ≤ gg ∧ v20 = .int .i64 kk ∧ Aside0 (Below w.heap.size w wr) ∧ Aside0 (∀ j, j < kk → nodeOk (l0.take (j + 1)) (rd_T41 l0 ((j : Int) + 1)) = true))
      case atStart => exact ⟨0, Nat.zero_le _, by omega, rfl, ⟨Below.refl _ w⟩, ⟨fun j hj => absurd hj (Nat.not_lt_zero _)⟩⟩
      case round =>
        obtain ⟨kk, hkk, hg, rfl, BW, A⟩ := hrel
        by_cases hlt : kk < l0.length - 1
        · have hltz : (kk : Int) < ((l0.length - 1 : Nat) : Int) := by omega
          clear hx0 hx1 hx2 h3
          obtain ⟨ad1, e1, hx0, hx1, hx2⟩ := at_B HR1.out BW.out kk (by rw [HL1.out]; exact hlt)
          cases e1
          obtain ⟨n, hn⟩ : ∃ n, rd_T41 (l0.drop 1) kk = n := ⟨_, rfl⟩
          rw [hn] at hx0 hx1 hx2
          have HN := Aside0.mk ((rd_drop1 l0 kk).symm.trans hn)
          clear hn
          have hk1 : (kk : Int) + 1 ≤ (l0.length : Int) := by omega
          have hcut2 := cut_to 24 41 .i64 Try.underlying24 HI.out (some ad) l0.length c0 ((kk : Int) + 1) (by omega) hk1 HC0.out
          rw [show ((kk : Int) + 1).toNat = kk + 1 by omega] at hcut2
          have HT := Aside0.mk (Kd.C_take HR0.out (m := kk + 1) (by omega))
          have hlen : (l0.take (kk + 1)).length = kk + 1 := by rw [List.length_take]; omega
          have HLT := Aside0.mk hlen
          clear hlen
          have HAB := Aside0.mk (inR_pred n.f0 kk)
          have hin : ∀ b, nodeOk (l0.take (kk + 1)) n = b → (l0.take (kk + 1)).length = kk + 1 → (inR n.f0 0 kk && (rd_T41 (l0.take (kk + 1)) n.f0).f2 == 0 && inR n.f1 0 3 && inR n.f2 0 4 && !(l0.take (kk + 1)).any (fun o => o.f0 == n.f0 && o.f1 == n.f1)) = b := by
            intro b h hl; rw [← h]; unfold nodeOk; rw [hl, show (((kk + 1 : Nat) : Int) - 1) = (kk : Int) by omega]
          have HIN := Aside0.mk hin
          clear hin
          have hbad : nodeOk (l0.take (kk + 1)) n = false → treeOk l0 = false := by
            intro h
            unfold treeOk
            rw [H1.out, H2.out]
            simp only [Bool.true_and]
            rw [List.all_eq_false]
            exact ⟨kk, by simp; omega, by rw [HN.out, h]; simp⟩
          have HBAD := Aside0.mk hbad
          clear hbad
          cases g1 : inR n.f0 0 kk with
          | false =>
            have G := Aside0.mk (HBAD.out (by have := HIN.out _ rfl HLT.out; rw [← this, g1]; rfl))
            have G1 := Aside0.mk g1
            go_wp2_with (go_at_call 26; refine (within_calls _ _ _ _).mono ?_; rintro e w' ⟨rfl, rfl⟩)
            go_ret
            exact ⟨by rw [G.out]; rfl, below_alloc BW.out _⟩
          | true =>
            have hr1 := inR_iff.mp g1
            have G1 := Aside0.mk g1
            obtain ⟨ad2, e2, hy0, hy1, hy2⟩ := at_BI HT.out BW.out n.f0 hr1.1 (by rw [HLT.out]; omega)
            cases e2
            have hyb : (ad.add (n.f0.toNat * 3)).block < wr.heap.size := World.block_lt_of_cell? wr _ hy0
            clear hy0 hy1
            have hyn : ¬ (ad.add (n.f0.toNat * 3)).block = wr.heap.size := by omega
            have hp0 : 0 ≤ n.f0 := hr1.1
            have hpl : n.f0 < (l0.length : Int) := by omega
            have hpk : n.f0 < (kk : Int) + 1 := by omega
            cases g2 : (rd_T41 (l0.take (kk + 1)) n.f0).f2 == 0 with
            | false =>
              have G := Aside0.mk (HBAD.out (by have := HIN.out _ rfl HLT.out; rw [← this, g2]; simp))
              have g2' : ((rd_T41 (l0.take (kk + 1)) n.f0).f2 != 0) = true := by simpa using g2
              go_wp2_with (go_at_call 26; refine (within_calls _ _ _ _).mono ?_; rintro e w' ⟨rfl, rfl⟩)
              go_ret
              exact ⟨by rw [G.out]; rfl, below_alloc BW.out _⟩
            | true =>
              have g2' : ((rd_T41 (l0.take (kk + 1)) n.f0).f2 != 0) = false := by simpa using g2
              have G2 := Aside0.mk g2
              cases g3 : inR n.f1 0 3 with
              | false =>
                have G := Aside0.mk (HBAD.out (by have := HIN.out _ rfl HLT.out; rw [← this, g3]; simp))
                go_wp2_with (go_at_call 26; refine (within_calls _ _ _ _).mono ?_; rintro e w' ⟨rfl, rfl⟩)
                go_ret
                exact ⟨by rw [G.out]; rfl, below_alloc BW.out _⟩
              | true =>
                have G3 := Aside0.mk g3
                cases g4 : inR n.f2 0 4 with
                | false =>
                  have G := Aside0.mk (HBAD.out (by have := HIN.out _ rfl HLT.out; rw [← this, g4]; simp))
                  go_wp2_with (go_at_call 26; refine (within_calls _ _ _ _).mono ?_; rintro e w' ⟨rfl, rfl⟩)
                  go_ret
                  exact ⟨by rw [G.out]; rfl, below_alloc BW.out _⟩
                | true =>
                  have G4 := Aside0.mk g4
                  have e43 : ∀ args w, (callFunc 43 args).run Try.prog w = .ok (.enter 43 args) w := fun args w => enters_ Try.func43 (by kernel_rfl) rfl args w
                  have E43 := Aside0.mk e43
                  clear e43
                  cases g5 : (l0.take (kk + 1)).any (fun o => o.f0 == n.f0 && o.f1 == n.f1) with
                  | true =>
                    have G := Aside0.mk (HBAD.out (by have := HIN.out _ rfl HLT.out; rw [← this, g5]; simp))
                    have G5 := Aside0.mk g5
                    clear g5
                    go_wp2_with (go_at_call 26; refine (within_calls _ _ _ _).mono ?_; rintro e w' ⟨rfl, rfl⟩)
                    refine (conN_calls' 43 _ (fun o => o.f0 == n.f0 && o.f1 == n.f1) E43.out _ c0 _ (l0.take (kk + 1)) _ HLT.out (Kd.C_alloc (Kd.C_below HT.out BW.out) _) (fun W x hb => TreeOk1_calls n x wr.heap.size _ W (heap_alloc_new _ _) hb)).mono ?_
                    rintro e w' ⟨rfl, hb'⟩
                    rw [G5.out]
                    have HB' := Aside0.mk (below_step (below_alloc BW.out _) hb')
                    clear hb' hyb hyn
                    go_wp2
                    go_ret
                    exact ⟨by rw [G.out]; rfl, HB'.out⟩
                  | false =>
                    have G5 := Aside0.mk g5
                    have G := Aside0.mk (HIN.out _ rfl HLT.out)
                    clear g5
                    go_wp2_with (go_at_call 26; refine (within_calls _ _ _ _).mono ?_; rintro e w' ⟨rfl, rfl⟩)
                    refine (conN_calls' 43 _ (fun o => o.f0 == n.f0 && o.f1 == n.f1) E43.out _ c0 _ (l0.take (kk + 1)) _ HLT.out (Kd.C_alloc (Kd.C_below HT.out BW.out) _) (fun W x hb => TreeOk1_calls n x wr.heap.size _ W (heap_alloc_new _ _) hb)).mono ?_
                    rintro e w' ⟨rfl, hb'⟩
                    rw [G5.out]
                    have HB' := Aside0.mk (below_step (below_alloc BW.out _) hb')
                    clear hb' hyb hyn
                    go_wp2
                    go_roundg (l0.length - (kk + 1))
                    case measure => omega
                    case rel =>
                      refine ⟨kk + 1, by omega, by omega, by go_num, HB', ⟨fun j hj => ?_⟩⟩
                      by_cases e : j = kk
                      · subst e
                        have h := G.out
                        rw [G1.out, G2.out, G3.out, G4.out, G5.out] at h
                        rw [HN.out, ← h]; rfl
                      · exact A.out j (by omega)
        · have hltz : ¬ (kk : Int) < ((l0.length - 1 : Nat) : Int) := by omega
          clear hx0 hx1 hx2
          go_wp2
          go_ret
          refine ⟨?_, BW.out⟩
          have : treeOk l0 = true := by
            unfold treeOk
            rw [H1.out, H2.out]
            simp only [Bool.true_and, List.all_eq_true, List.mem_range]
            intro j hj
            exact A.out j (by omega)
          rw [this]; rfl
def isNodeB (t : List S41) (k : Int) : Bool := treeOk t && inR k 0 ((t.length : Int) - 1)
theorem treeOk_len {t : List S41} (h : treeOk t = true) : 1 ≤ t.length ∧ t.length ≤ 12 := by
  unfold treeOk at h
  simp only [Bool.and_eq_true, inR_iff] at h
  omega
def impl_TreeOk.f (l0 : List S41) : Option Bool := some (treeOk l0)
theorem impl_TreeOk.calls (A0 : Option Addr) (c0 : Nat) (l0 : List S41) (r : Bool) (w : World) (hr0 : Kd.C k41 w A0 l0.length l0) (hc0 : l0.length ≤ c0) (h : impl_TreeOk.f l0 = some r) :
    Calls Try.prog 33 #[.slice A0 l0.length c0] w fun e w' => e = .returned (.bool r) ∧ Below w.heap.size w w' := by
  obtain rfl := Option.some.inj h
  exact TreeOk_calls A0 c0 l0 w hr0 hc0
def impl_within.f (a0 a1 a2 : Int) : Option Bool := some (inR a0 a1 a2)
theorem impl_within.calls (a0 a1 a2 : Int) (r : Bool) (w : World) (h : impl_within.f a0 a1 a2 = some r) :
    Calls Try.prog 26 #[.int .i64 a0, .int .i64 a1, .int .i64 a2] w fun e w' => e = .returned (.bool r) ∧ Drawn0 w w' := by
  obtain rfl := Option.some.inj h
  exact (within_calls a0 a1 a2 w).mono fun e w' ⟨he, hw⟩ => ⟨he, hw ▸ Drawn0.refl w⟩
end Go.Proofs.Ytijfagfkoiklaaa.P
