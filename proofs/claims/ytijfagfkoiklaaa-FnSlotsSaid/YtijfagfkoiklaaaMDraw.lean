import Derived.Test.YtijfagfkoiklaaaPf39
import Derived.Test.YtijfagfkoiklaaaPf23
import Derived.Test.YtijfagfkoiklaaaPf37
import Derived.Test.YtijfagfkoiklaaaFNew
import Derived.Laws.BitsLemmas
namespace Go.Proofs.Ytijfagfkoiklaaa.P
open Go.RowKit Go.Proofs.YtijfagfkoiklaaaW.PrintWords Go.Proofs.YtijfagfkoiklaaaW.PrintLast Go.Proofs.YtijfagfkoiklaaaW.PrintMore
theorem w64 {a : Int} (h0 : -9223372036854775808 ≤ a) (h1 : a ≤ 9223372036854775807) : wrap64 a = a := by unfold wrap64; omega
theorem and255 (x : Int) : 0 ≤ Go.bits .and .i64 x 255 ∧ Go.bits .and .i64 x 255 ≤ 255 := by
  have h : (BitVec.ofInt 64 x &&& BitVec.ofInt 64 255).toNat ≤ 255 := by
    rw [BitVec.toNat_and]
    exact Nat.le_trans Nat.and_le_right (by decide)
  have e : Go.bits .and .i64 x 255 = IntKind.i64.wrap ((BitVec.ofInt 64 x &&& BitVec.ofInt 64 255).toNat : Int) := by
    unfold bits; rfl
  rw [e, IntKind.wrap_i64]
  omega
theorem Ev.pos {α : Type} {c : Prop} [Decidable c] {f g : Nat → Option α} {r : α} (h : c) (e : Ev f r) : Ev (fun n => if c then f n else g n) r := Ev.congr (fun n => if_pos h) e
theorem Ev.neg {α : Type} {c : Prop} [Decidable c] {f g : Nat → Option α} {r : α} (h : ¬ c) (e : Ev g r) : Ev (fun n => if c then f n else g n) r := Ev.congr (fun n => if_neg h) e
theorem Ev.pure {α β : Type} {v : α} {f : Nat → α → Option β} {r : β} (e : Ev (fun n => f n v) r) : Ev (fun n => (some v).bind (f n)) r := e
/-- A cursor's place. -/
def CurOk (b : List Int) (i : Int) : Prop := 0 ≤ i ∧ b.length ≤ 140737488351232
theorem byte_some {b : List Int} {i : Int} (h : Int) (hc : CurOk b i) : ∃ x i' h', spec_l01Byte.f b i h = some (x, i', h') ∧ 0 ≤ x ∧ x ≤ 255 ∧ CurOk b i' := by
  obtain ⟨h0, hb⟩ := hc
  unfold spec_l01Byte.f
  by_cases h1 : i < (b.length : Int)
  · rw [if_pos h1, if_pos h0]
    refine ⟨_, _, _, rfl, (and255 _).1, (and255 _).2, ?_, hb⟩
    rw [w64 (by omega) (by omega)]; omega
  · rw [if_neg h1]
    exact ⟨_, _, _, rfl, (and255 _).1, (and255 _).2, h0, hb⟩
theorem tmod_range {x n : Int} (h0 : 0 ≤ x) (hn : 0 < n) : 0 ≤ Int.tmod x n ∧ Int.tmod x n < n := by
  rw [Int.tmod_eq_emod_of_nonneg h0]
  exact ⟨Int.emod_nonneg _ (by omega), Int.emod_lt_of_pos _ hn⟩
theorem below_some {b : List Int} {i : Int} (h n : Int) (hc : CurOk b i) : ∃ x i' h', spec_l01Below.f b i h n = some (x, i', h') ∧ CurOk b i' ∧ 0 ≤ x ∧ (0 < n → x < n) ∧ (n ≤ 0 → x = 0) := by
  unfold spec_l01Below.f
  by_cases h1 : n ≤ 0
  · rw [if_pos h1]; exact ⟨_, _, _, rfl, hc, Int.le_refl _, fun h => by omega, fun _ => rfl⟩
  · rw [if_neg h1]
    obtain ⟨x, i1, k1, e1, r1, s1, c1⟩ := byte_some h hc
    by_cases h2 : n ≤ 256
    · rw [if_pos h2, e1, Option.bind_some, if_neg (by omega)]
      exact ⟨_, _, _, rfl, c1, (tmod_range r1 (by omega)).1, fun _ => (tmod_range r1 (by omega)).2, fun h => absurd h h1⟩
    · obtain ⟨y, i2, k2, e2, r2, s2, c2⟩ := byte_some k1 c1
      obtain ⟨z, i3, k3, e3, r3, s3, c3⟩ := byte_some k2 c2
      obtain ⟨v, i4, k4, e4, r4, s4, c4⟩ := byte_some k3 c3
      rw [if_neg h2, e1]; simp only [Option.bind_some]
      rw [e2]; simp only [Option.bind_some]
      rw [e3]; simp only [Option.bind_some]
      rw [e4]; simp only [Option.bind_some]
      rw [if_neg (by omega)]
      rw [w64 (a := x * 16777216) (by omega) (by omega), w64 (a := y * 65536) (by omega) (by omega), w64 (a := x * 16777216 + y * 65536) (by omega) (by omega), w64 (a := z * 256) (by omega) (by omega), w64 (a := x * 16777216 + y * 65536 + z * 256) (by omega) (by omega), w64 (by omega) (by omega)]
      have hr := tmod_range (x := x * 16777216 + y * 65536 + z * 256 + v) (n := n) (by omega) (by omega)
      exact ⟨_, _, _, rfl, c4, hr.1, fun _ => hr.2, fun h => absurd h h1⟩
theorem pick_some {b : List Int} {i : Int} (h : Int) (l : List Int) (hc : CurOk b i) (hl : 0 < l.length) : ∃ x i' h', spec_l01PickInt.f b i h l = some (x, i', h') ∧ CurOk b i' ∧ x ∈ l := by
  unfold spec_l01PickInt.f
  obtain ⟨x, i1, k1, e1, c1, r1, s1, _⟩ := below_some h (l.length : Int) hc
  have hx := s1 (by omega)
  rw [e1]; simp only [Option.bind_some]
  rw [if_pos r1, if_pos hx]
  exact ⟨_, _, _, rfl, c1, rd_mem r1 hx⟩
end Go.Proofs.Ytijfagfkoiklaaa.P
