import Derived.Test.YtbmebmhdkpmclaaDoorFFmt
import Derived.Test.YtbmebmhdkpmclaaDoorPf7
import Derived.Test.YtbmebmhdkpmclaaDoorFFmtS
import Derived.Test.YtbmebmhdkpmclaaDoorMBase
namespace Go.Proofs.YtbmebmhdkpmclaaDoor.P
open Go.RowKit Go.Proofs.YtbmebmhdkpmclaaDoorW.PrintWords Go.Proofs.YtbmebmhdkpmclaaDoorW.PrintLast Go.Proofs.YtbmebmhdkpmclaaDoorW.PrintMore
set_option linter.unusedSimpArgs false
set_option linter.unusedVariables false
theorem figure_some {d : Int} (h0 : 0 ≤ d) (h1 : d < 10) : spec_l01Figure.f d = some (48 + d) := by
  unfold spec_l01Figure.f
  rw [if_pos h1, w64 (by omega) (by omega), Int.emod_eq_of_lt (by omega) (by omega)]
/-- The digits of a number, none for 0. -/
def digs (u : Nat) : List UInt8 := if u = 0 then [] else Lib.decDigits u
theorem digs_step {u : Nat} (h : 0 < u) : digs u = digs (u / 10) ++ [UInt8.ofNat (48 + u % 10)] := by
  unfold digs
  rw [if_neg (by omega), Lib.decDigits]
  by_cases hl : u < 10
  · rw [dif_pos hl, if_pos (by omega), Nat.mod_eq_of_lt hl]; rfl
  · rw [dif_neg hl, if_neg (by omega)]
theorem strOne (d : Nat) (h : d < 10) : strOfNums [48 + (d : Int)] = tx [UInt8.ofNat (48 + d)] := by
  have : d = 0 ∨ d = 1 ∨ d = 2 ∨ d = 3 ∨ d = 4 ∨ d = 5 ∨ d = 6 ∨ d = 7 ∨ d = 8 ∨ d = 9 := by omega
  rcases this with rfl | rfl | rfl | rfl | rfl | rfl | rfl | rfl | rfl | rfl <;> rfl
def sgn (neg : Bool) : List UInt8 := if neg = true then [45] else []
theorem format_go (neg : Bool) : ∀ (m u : Nat) (acc : List UInt8) (x : Int), u < 10 ^ m → acc.length + m ≤ 40 → (x = if neg = true then -(u : Int) else (u : Int)) → u ≤ 9223372036854775808 →
    Ev (fun k => spec_FormatInt.l0 k x neg (tx acc)) (tx (sgn neg ++ digs u ++ acc)) := by
  have base : ∀ (acc : List UInt8) (x : Int), acc.length ≤ 40 → x = 0 → Ev (fun k => spec_FormatInt.l0 k x neg (tx acc)) (tx (sgn neg ++ digs 0 ++ acc)) := by
    intro acc x ha hx
    refine Ev.step (f := fun _ => some (tx (sgn neg ++ digs 0 ++ acc))) (fun k => ?_) (Ev.now _)
    simp only [spec_FormatInt.l0]
    rw [if_pos hx]
    cases neg with
    | false => rfl
    | true =>
      rw [if_pos rfl, if_pos (by rw [tx_size]; omega)]
      rw [show (⟨#[45]⟩ : ByteArray) = tx [45] from rfl, tx_app]; rfl
  intro m
  induction m with
  | zero =>
    intro u acc x hu ha hx hb
    have h0 : u = 0 := by simpa using hu
    subst h0
    exact base acc x (by omega) (by rw [hx]; cases neg <;> simp)
  | succ m ih =>
    intro u acc x hu ha hx hb
    rcases Nat.eq_zero_or_pos u with h0 | hp
    · subst h0
      exact base acc x (by omega) (by rw [hx]; cases neg <;> simp)
    · have hlt : u / 10 < 10 ^ m := by rw [Nat.pow_succ] at hu; omega
      have e1 := digs_step hp
      have hi := ih (u / 10) (UInt8.ofNat (48 + u % 10) :: acc) (Int.tdiv x 10) hlt (by simp; omega) (by
        rw [hx]
        cases neg with
        | false => simp only [Bool.false_eq_true, if_false]; rw [Int.tdiv_eq_ediv_of_nonneg (by omega)]; omega
        | true => simp only [if_true]; rw [Int.neg_tdiv, Int.tdiv_eq_ediv_of_nonneg (by omega)]; omega) (by omega)
      have e2 : sgn neg ++ digs u ++ acc = sgn neg ++ digs (u / 10) ++ (UInt8.ofNat (48 + u % 10) :: acc) := by rw [e1]; simp
      rw [e2]
      refine Ev.step (fun k => ?_) hi
      simp only [spec_FormatInt.l0]
      have hw : wrap64 (Int.tdiv x 10) = Int.tdiv x 10 := by
        refine w64 ?_ ?_ <;> rw [hx] <;> cases neg <;> simp only [Bool.false_eq_true, if_false, if_true, Int.neg_tdiv] <;> rw [Int.tdiv_eq_ediv_of_nonneg (by omega)] <;> omega
      have hf : ∀ d : Int, d = ((u % 10 : Nat) : Int) → ((spec_l01Figure.f d).bind fun t => ((some (([t] : List Int) : List Int)).bind fun y => (if (strOfNums y).size + (tx acc).size ≤ 9223372036854775807 then (spec_FormatInt.l0 k (wrap64 (Int.tdiv x 10)) neg ((strOfNums y) ++ tx acc)) else (none)))) = spec_FormatInt.l0 k (Int.tdiv x 10) neg (tx (UInt8.ofNat (48 + u % 10) :: acc)) := by
        intro d hd
        rw [hd, figure_some (by omega) (by omega)]
        simp only [Option.bind_some]
        rw [strOne (u % 10) (Nat.mod_lt _ (by omega)), tx_app, tx_size, tx_size, if_pos (by simp; omega), hw]
        rfl
      rw [if_neg (show ¬ x = 0 by rw [hx]; cases neg <;> simp <;> omega)]
      cases neg with
      | false =>
        simp only [Bool.false_eq_true, if_false] at hx
        rw [if_neg (by rw [hx, Int.tmod_eq_emod_of_nonneg (by omega)]; omega)]
        exact hf _ (by rw [hx, Int.tmod_eq_emod_of_nonneg (by omega)]; omega)
      | true =>
        simp only [if_true] at hx
        have ht : Int.tmod x 10 = -((u % 10 : Nat) : Int) := by rw [hx, Int.neg_tmod, Int.tmod_eq_emod_of_nonneg (by omega)]; omega
        by_cases hz : u % 10 = 0
        · rw [if_neg (by rw [ht]; omega)]
          exact hf _ (by rw [ht]; omega)
        · rw [if_pos (by rw [ht]; omega)]
          exact hf _ (by rw [ht, w64 (by omega) (by omega)]; omega)
theorem formatInt_ev {n : Int} (h0 : -9223372036854775808 ≤ n) (h1 : n ≤ 9223372036854775807) : Ev (fun k => spec_FormatInt.f k n) (itoaB n) := by
  by_cases hz : n = 0
  · subst hz
    refine Ev.congr (f := fun _ => some (itoaB 0)) (fun k => ?_) (Ev.now _)
    have e : itoaB 0 = ⟨#[48]⟩ := by
      unfold itoaB Lib.itoa
      rw [if_neg (by omega), show (0 : Int).toNat = 0 from rfl, Lib.decDigits_one (by omega)]
      rfl
    show spec_FormatInt.f k 0 = some (itoaB 0)
    rw [e]
    simp only [spec_FormatInt.f]
    rw [if_pos trivial]
  · have hp : n.natAbs < 10 ^ 20 := by have : (10 : Nat) ^ 20 = 100000000000000000000 := by decide
                                       omega
    have hg := format_go (decide (n < 0)) 20 n.natAbs [] n hp (by simp) (by by_cases hn : n < 0 <;> simp [hn] <;> omega) (by omega)
    have e : itoaB n = tx (sgn (decide (n < 0)) ++ digs n.natAbs ++ []) := by
      have hd : digs n.natAbs = Lib.decDigits n.natAbs := by unfold digs; rw [if_neg (by omega)]
      rw [hd, List.append_nil]
      unfold itoaB Lib.itoa tx sgn
      by_cases hn : n < 0
      · rw [if_pos hn, if_pos (decide_eq_true hn)]; rfl
      · rw [if_neg hn, if_neg (by simp [hn]), show n.toNat = n.natAbs by omega]; rfl
    rw [e]
    refine Ev.congr (fun k => ?_) hg
    simp only [spec_FormatInt.f]
    rw [if_neg hz]
    rfl
theorem specOk_eq (k n a b : Int) : spec_ActOk.f k n a b = some (actOk k n a b) := by
  unfold spec_ActOk.f actOk spec_l01In.f
  simp only [Option.bind_some]
  cases inR n 0 11 <;> simp
  by_cases h1 : k = 1
  · simp [h1]; cases inR a 0 65535 <;> simp
  · by_cases h2 : k = 2
    · simp [h2]; cases inR a 0 65535 <;> simp
    · by_cases h3 : k = 3
      · simp [h3]; by_cases ha : a = 0 <;> simp [ha]
      · by_cases h4 : k = 4
        · simp [h4]; by_cases ha : a = 0 <;> simp [ha]
        · simp [h1, h2, h3, h4]
theorem formatAct_ev (k n a b : Int) : Ev (fun m => spec_FormatAct.f m k n a b) (fmtAct k n a b) := by
  cases hok : actOk k n a b with
  | false =>
    have e : fmtAct k n a b = (⟨#[]⟩, false) := by unfold fmtAct; rw [if_neg (by rw [hok]; simp)]
    rw [e]
    refine Ev.congr (fun m => ?_) (Ev.now _)
    simp only [spec_FormatAct.f]
    rw [specOk_eq, hok]; simp only [Option.bind_some]
    rw [if_neg (by simp)]
  | true =>
    have e : fmtAct k n a b = (actText k n a b, true) := by unfold fmtAct; rw [if_pos hok]
    rw [e]
    obtain ⟨hk, hn, ha, hb⟩ := actOk_range hok
    have en := formatInt_ev (n := n) (by omega) (by omega)
    have ea := formatInt_ev (n := a) (by omega) (by omega)
    have eb := formatInt_ev (n := b) (by omega) (by omega)
    have sn := itoaB_size n (by omega) (by omega)
    have sa := itoaB_size a (by omega) (by omega)
    have sb := itoaB_size b (by omega) (by omega)
    have sw := actWord_size k
    have z1 : (⟨#[32]⟩ : ByteArray).size = 1 := rfl
    have hwd : ∀ l : List ByteArray, l = [⟨#[]⟩, ⟨#[119, 114, 105, 116, 101]⟩, ⟨#[114, 101, 97, 100]⟩, ⟨#[99, 117, 116]⟩, ⟨#[111, 112, 101, 110]⟩] → rdOf ByteArray.empty l k = actWord k ∧ k < (l.length : Int) := by
      intro l hl
      subst hl
      have : k = 1 ∨ k = 2 ∨ k = 3 ∨ k = 4 := by omega
      rcases this with rfl | rfl | rfl | rfl <;> exact ⟨rfl, by decide⟩
    obtain ⟨y, hy⟩ : ∃ y : List ByteArray, y = [⟨#[]⟩, ⟨#[119, 114, 105, 116, 101]⟩, ⟨#[114, 101, 97, 100]⟩, ⟨#[99, 117, 116]⟩, ⟨#[111, 112, 101, 110]⟩] := ⟨_, rfl⟩
    obtain ⟨hw, hlen⟩ := hwd y hy
    simp only [spec_FormatAct.f, specOk_eq, hok, Option.bind_some, if_true, ← hy]
    rw [hw]
    refine Ev.pos (by omega) (Ev.pos hlen (Ev.pos (by omega) (Ev.bind en ?_)))
    refine Ev.pos (by simp only [ByteArray.size_append, z1]; omega) ?_
    by_cases h2 : k ≤ 2
    · refine Ev.pos h2 (Ev.pos (by simp only [ByteArray.size_append, z1]; omega) (Ev.bind ea (Ev.pos (by simp only [ByteArray.size_append, z1]; omega) ?_)))
      by_cases h1 : k = 1
      · refine Ev.pos h1 (Ev.pos (by simp only [ByteArray.size_append, z1]; omega) (Ev.bind eb (Ev.pos (by simp only [ByteArray.size_append, z1]; omega) ?_)))
        have : actText k n a b = actWord k ++ ⟨#[32]⟩ ++ itoaB n ++ ⟨#[32]⟩ ++ itoaB a ++ ⟨#[32]⟩ ++ itoaB b := by
          unfold actText sp
          rw [if_pos h1]
          simp only [ByteArray.append_assoc]
        rw [this]; exact Ev.now _
      · refine Ev.neg h1 ?_
        have : actText k n a b = actWord k ++ ⟨#[32]⟩ ++ itoaB n ++ ⟨#[32]⟩ ++ itoaB a := by
          unfold actText sp
          rw [if_neg h1, if_pos (by omega)]
          simp only [ByteArray.append_assoc]
        rw [this]; exact Ev.now _
    · refine Ev.neg h2 (Ev.neg (by omega) ?_)
      have : actText k n a b = actWord k ++ ⟨#[32]⟩ ++ itoaB n := by
        unfold actText sp
        rw [if_neg (by omega), if_neg (by omega)]
      rw [this]; exact Ev.now _
end Go.Proofs.YtbmebmhdkpmclaaDoor.P
