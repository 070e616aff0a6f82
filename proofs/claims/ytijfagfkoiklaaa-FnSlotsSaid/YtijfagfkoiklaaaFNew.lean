import Derived.Test.YtijfagfkoiklaaaFInts
namespace Go.Proofs.Ytijfagfkoiklaaa.P
open Go.RowKit Go.Proofs.YtijfagfkoiklaaaW.PrintWords Go.Proofs.YtijfagfkoiklaaaW.PrintLast Go.Proofs.YtijfagfkoiklaaaW.PrintMore
set_option linter.unusedVariables false
set_option linter.unusedSimpArgs false
/-- The hash of the bytes from place i on. -/
def l01h : Nat → List Int → Int → Nat → Int
  | 0, _, h, _ => h
  | k + 1, l, h, i => if i < l.length ∧ i < 4000 then l01h k l (Go.bits .and .i64 (wrap64 ((wrap64 ((wrap64 (h * 131)) + (wrap64 (rd l i)))) + 7)) 1073741823) (i + 1) else h
def spec_l01New.f (k : Nat) (l0 : List Int) : Option (List Int × Int × Int) := some (l0, 0, l01h 4001 l0 (wrap64 (98663 + (l0.length : Int))) 0)
theorem spec_l01New.mono : ∀ a0 k, LeO (spec_l01New.f k a0) (spec_l01New.f (k + 1) a0) := fun _ _ => LeO.refl _
set_option maxHeartbeats 1000000 in
set_option maxRecDepth 100000 in
theorem spec_l01New.calls (k : Nat) (A0 : Option Addr) (c0 : Nat) (l0 : List Int) (r1 : List Int) (r2 r3 : Int) (w0 w : World) (hB : Below w0.heap.size w0 w) (hr0 : Kd.C (Kd.int .u8) w0 A0 l0.length l0) (hc0 : l0.length ≤ c0) (h : spec_l01New.f k l0 = some (r1, r2, r3)) :
    Calls Try.prog 20 #[.slice A0 l0.length c0] w fun e w' => ∃ g_ : Nat, e = .returned (.pointer (some ⟨g_, 0, none⟩)) ∧ IsS59 w0 w' g_ r1 r2 r3 ∧ Below w0.heap.size w0 w' ∧ Below w.heap.size w w' := by
  have hu := Try.underlying59
  have HR0 := Aside0.mk hr0
  have HB := Aside0.mk hB
  have hm : l0.length ≤ 9223372036854775807 := hr0.2.1
  unfold spec_l01New.f at h
  have h' := Option.some.inj h
  simp only [Prod.mk.injEq] at h'
  obtain ⟨rfl, rfl, hh⟩ := h'
  have HH := Aside0.mk hh
  clear hr0 hc0 hB hh h
  go_enter Try.func20, Try.ntmps20
  go_wp2
  go_loopg [3, 4] 4001 (fun gg v3 v4 wr => ∃ (x3 : Int) (i : Nat), v3 = .int .i64 x3 ∧ v4 = .int .i64 i ∧ i ≤ l0.length ∧ i ≤ 4000 ∧ 4001 - i ≤ gg ∧ Aside0 (l01h (4001 - i) l0 x3 i = r3) ∧ Aside0 (Below w.heap.size w wr))
  case atStart => exact ⟨_, 0, rfl, rfl, Nat.zero_le _, Nat.zero_le _, Nat.le_refl _, HH, ⟨Below.refl _ _⟩⟩
  case round =>
    obtain ⟨x3, i, rfl, rfl, hi, hi2, hg, HX, HW⟩ := hrel
    by_cases hlt : i < l0.length
    · have c1 : (i : Int) < (l0.length : Int) := by omega
      by_cases hl4 : i < 4000
      · have c2 : (i : Int) < 4000 := by omega
        obtain ⟨ad, e1, hx⟩ := at_I HR0.out (below_then HB.out HB.out.size HW.out) i hlt
        cases e1
        have hs : l01h (4001 - (i + 1)) l0 (Go.bits .and .i64 (wrap64 ((wrap64 ((wrap64 (x3 * 131)) + (wrap64 (rd l0 i)))) + 7)) 1073741823) (i + 1) = r3 := by
          have h := HX.out
          rw [show 4001 - i = (4001 - (i + 1)) + 1 by omega, l01h, if_pos ⟨hlt, hl4⟩] at h
          exact h
        have HS := Aside0.mk hs
        clear hs
        go_wp2
        go_roundg (4001 - (i + 1))
        case measure => omega
        case rel => exact ⟨_, i + 1, rfl, by go_num, by omega, by omega, by omega, HS, HW⟩
      · have c2 : ¬ (i : Int) < 4000 := by omega
        have hs : x3 = r3 := by
          have h := HX.out
          rw [show 4001 - i = 0 + 1 by omega, l01h, if_neg (by omega)] at h
          exact h
        subst hs
        clear HX HH
        go_wp2
        go_ret
        exact ⟨_, rfl, IsS59.new w0 _ _ _ _ _ _ (below_then HB.out HB.out.size HW.out) HR0.out, below_alloc (below_then HB.out HB.out.size HW.out) _, below_alloc HW.out _⟩
    · have c1 : ¬ (i : Int) < (l0.length : Int) := by omega
      have hs : x3 = r3 := by
        have h := HX.out
        rw [show 4001 - i = (4001 - (i + 1)) + 1 by omega, l01h, if_neg (by omega)] at h
        exact h
      subst hs
      clear HX HH
      go_wp2
      go_ret
      exact ⟨_, rfl, IsS59.new w0 _ _ _ _ _ _ (below_then HB.out HB.out.size HW.out) HR0.out, below_alloc (below_then HB.out HB.out.size HW.out) _, below_alloc HW.out _⟩
end Go.Proofs.Ytijfagfkoiklaaa.P
