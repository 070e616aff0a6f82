import Derived.Test.YtijfagfkoiklaaaFTree
namespace Go.Proofs.Ytijfagfkoiklaaa.P
open Go.RowKit Go.Proofs.YtijfagfkoiklaaaW.PrintWords Go.Proofs.YtijfagfkoiklaaaW.PrintLast Go.Proofs.YtijfagfkoiklaaaW.PrintMore
attribute [local go_sem] max2_int min2_int max_two min_two max_three min_three max_four min_four
set_option linter.unusedVariables false
set_option linter.unusedSimpArgs false
theorem rd_mem {l : List Int} {x : Int} (h0 : 0 ≤ x) (h1 : x < l.length) : rd l x ∈ l := by
  have : x.toNat < l.length := by omega
  unfold rd
  rw [List.getD_eq_getElem?_getD, List.getElem?_eq_getElem this]
  exact List.getElem_mem this
/-- A predicate on numbers: in every later world. -/
def PredI (g : Nat) (lb : Array Value) (p : Int → Bool) (w : World) : Prop :=
  ∀ (W : World) (x : Int), Below w.heap.size w W → Calls Try.prog g (#[.int .i64 x] ++ lb) W fun e w' => e = .returned (.bool (p x)) ∧ Below w.heap.size w w'
theorem at_I {k : IntKind} {w W : World} {A : Option Addr} {n : Nat} {xs : List Int} (h : Kd.C (Kd.int k) w A n xs) (hb : Below w.heap.size w W) (i : Nat) (h1 : i < n) : ∃ ad , A = some ad ∧ W.cell? (ad.add i) = some (.int k (rd xs i)) := by
  obtain ⟨ad, e, h0⟩ := Kd.at_int h i (by omega) (by omega)
  rw [Int.toNat_natCast] at h0
  exact ⟨ad, e, (hb.cell (World.block_lt_of_cell? w _ h0)).trans h0⟩
set_option maxHeartbeats 1000000 in
theorem idxI_calls (g : Nat) (lb : Array Value) (p : Int → Bool) (eg : ∀ args w, (callFunc g args).run Try.prog w = .ok (.enter g args) w) (A0 : Option Addr) (c0 : Nat) (l0 : List Int) (w : World) (hr0 : Kd.C (Kd.int .i64) w A0 l0.length l0) (hp : PredI g lb p w) :
    Calls Try.prog 48 #[.slice A0 l0.length c0, .func (.func g) #[] lb] w fun e w' => (∃ i : Int, e = .returned (.int .i64 i) ∧ decide (0 ≤ i) = l0.any p) ∧ Below w.heap.size w w' := by
  have HR0 := Aside0.mk hr0
  have hm : l0.length ≤ 9223372036854775807 := hr0.2.1
  have HP := Aside0.mk hp
  clear hr0 hp
  go_enter Try.func48, Try.ntmps48
  go_wp2
  go_loopg [5, 8] l0.length (fun gg _ s8 wr => ∃ kk : Nat, kk ≤ l0.length ∧ l0.length - kk ≤ gg ∧ s8 = .int .i64 kk ∧ Aside0 (Below w.heap.size w wr) ∧ Aside0 ((l0.take kk).any p = false))
  case atStart => exact ⟨0, Nat.zero_le _, by omega, rfl, ⟨Below.refl _ w⟩, ⟨by simp⟩⟩
  case round =>
    obtain ⟨kk, hkk, hg, rfl, BW, A⟩ := hrel
    by_cases hlt : kk < l0.length
    · have hltz : (kk : Int) < (l0.length : Int) := by omega
      obtain ⟨ad, e1, hx0⟩ := at_I HR0.out BW.out kk hlt
      cases e1
      have HCL := Aside0.mk (HP.out wr (rd l0 kk) BW.out)
      have hel : rd l0 kk = l0[kk] := by simp [rd, hlt]
      have hsn : (l0.take (kk + 1)).any p = ((l0.take kk).any p || p (rd l0 kk)) := by
        rw [List.take_succ_eq_append_getElem hlt, List.any_append, hel]; simp
      have HS := Aside0.mk hsn
      have HE := Aside0.mk hel
      clear hsn hel
      cases hq : p (rd l0 kk) with
      | true =>
        rw [hq] at HCL
        have HQ := Aside0.mk hq
        clear hq
        go_wp2_with (fail)
        refine HCL.out.mono ?_
        rintro e w' ⟨rfl, hb'⟩
        clear HCL hx0
        go_wp2
        go_ret
        refine ⟨⟨_, rfl, ?_⟩, hb'⟩
        rw [show decide (0 ≤ (kk : Int)) = true by simp]
        symm
        rw [List.any_eq_true]
        exact ⟨l0[kk], List.getElem_mem hlt, by rw [← HE.out]; exact HQ.out⟩
      | false =>
        rw [hq] at HCL
        have HQ := Aside0.mk hq
        clear hq
        go_wp2_with (fail)
        refine HCL.out.mono ?_
        rintro e w' ⟨rfl, hb'⟩
        clear HCL hx0
        go_wp2
        go_roundg (l0.length - (kk + 1))
        case measure => omega
        case rel => exact ⟨kk + 1, by omega, by omega, by go_num, ⟨hb'⟩, ⟨by rw [HS.out, A.out, HQ.out]; rfl⟩⟩
    · have hltz : ¬ (kk : Int) < (l0.length : Int) := by omega
      go_wp2
      go_ret
      refine ⟨⟨_, rfl, ?_⟩, BW.out⟩
      have ha := A.out
      rw [List.take_of_length_le (by omega)] at ha
      rw [ha]; rfl
set_option maxHeartbeats 1000000 in
theorem conI_calls (g : Nat) (lb : Array Value) (p : Int → Bool) (eg : ∀ args w, (callFunc g args).run Try.prog w = .ok (.enter g args) w) (A0 : Option Addr) (c0 n : Nat) (l0 : List Int) (w : World) (hn : l0.length = n) (hr0 : Kd.C (Kd.int .i64) w A0 l0.length l0) (hp : PredI g lb p w) :
    Calls Try.prog 40 #[.slice A0 n c0, .func (.func g) #[] lb] w fun e w' => e = .returned (.bool (l0.any p)) ∧ Below w.heap.size w w' := by
  subst hn
  have H := Aside0.mk (idxI_calls g lb p eg A0 c0 l0 w hr0 hp)
  clear hr0 hp
  go_enter Try.func40, Try.ntmps40
  go_wp2_with (go_at_call 48; refine H.out.mono ?_; rintro e w' ⟨⟨i, rfl, hi⟩, hb'⟩; have HI := Aside0.mk hi; clear hi)
  go_ret
  exact ⟨by rw [← HI.out]; rfl, hb'⟩
end Go.Proofs.Ytijfagfkoiklaaa.P
