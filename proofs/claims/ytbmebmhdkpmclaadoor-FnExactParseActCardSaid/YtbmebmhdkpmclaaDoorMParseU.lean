import Derived.Test.YtbmebmhdkpmclaaDoorFParseU
import Derived.Test.YtbmebmhdkpmclaaDoorMText
import Derived.Test.YtbmebmhdkpmclaaDoorPf26
namespace Go.Proofs.YtbmebmhdkpmclaaDoor.P
open Go.RowKit Go.Proofs.YtbmebmhdkpmclaaDoorW.PrintWords Go.Proofs.YtbmebmhdkpmclaaDoorW.PrintLast Go.Proofs.YtbmebmhdkpmclaaDoorW.PrintMore
set_option linter.unusedSimpArgs false
set_option linter.unusedVariables false
def decVal (a : Nat) (l : List UInt8) : Nat := l.foldl (fun x c => 10 * x + (c.toNat - 48)) a
def isDig (c : UInt8) : Prop := 48 ≤ c.toNat ∧ c.toNat ≤ 57
theorem decVal_cons (a : Nat) (c : UInt8) (r : List UInt8) : decVal a (c :: r) = decVal (10 * a + (c.toNat - 48)) r := by unfold decVal; rw [List.foldl_cons]
theorem decVal_nil (a : Nat) : decVal a [] = a := by unfold decVal; rw [List.foldl_nil]
theorem decVal_app (x : List UInt8) (a : Nat) (c : UInt8) : decVal a (x ++ [c]) = 10 * decVal a x + (c.toNat - 48) := by unfold decVal; rw [List.foldl_append, List.foldl_cons, List.foldl_nil]
theorem dig_ofNat {d : Nat} (h : d < 10) : (UInt8.ofNat (48 + d)).toNat = 48 + d := by
  have : d = 0 ∨ d = 1 ∨ d = 2 ∨ d = 3 ∨ d = 4 ∨ d = 5 ∨ d = 6 ∨ d = 7 ∨ d = 8 ∨ d = 9 := by omega
  rcases this with rfl | rfl | rfl | rfl | rfl | rfl | rfl | rfl | rfl | rfl <;> rfl
theorem decDigits_val (u : Nat) : decVal 0 (Lib.decDigits u) = u ∧ (∀ c ∈ Lib.decDigits u, isDig c) ∧ Lib.decDigits u ≠ [] := by
  induction u using Nat.strongRecOn with
  | _ u ih =>
    rw [Lib.decDigits]
    by_cases h : u < 10
    · rw [dif_pos h]
      refine ⟨by rw [decVal_cons, decVal_nil, dig_ofNat h]; omega, fun c hc => ?_, by simp⟩
      rw [List.mem_singleton] at hc
      subst hc
      unfold isDig
      rw [dig_ofNat h]; omega
    · rw [dif_neg h]
      obtain ⟨h1, h2, h3⟩ := ih (u / 10) (by omega)
      have hm : u % 10 < 10 := Nat.mod_lt _ (by omega)
      refine ⟨by rw [decVal_app, h1, dig_ofNat hm]; omega, fun c hc => ?_, by simp⟩
      rcases List.mem_append.mp hc with hc | hc
      · exact h2 c hc
      · rw [List.mem_singleton] at hc
        subst hc
        unfold isDig
        rw [dig_ofNat hm]; omega
theorem decVal_ge : ∀ (l : List UInt8) (a : Nat), a ≤ decVal a l := by
  intro l
  induction l with
  | nil => intro a; rw [decVal_nil]; exact Nat.le_refl _
  | cons c r ih => intro a; rw [decVal_cons]; have := ih (10 * a + (c.toNat - 48)); omega
theorem parse10_ok : ∀ (l : List UInt8) (a : Nat), (∀ c ∈ l, isDig c) → decVal a l < 18446744073709551616 → Lib.parseUint10 a l = .ok (decVal a l) := by
  intro l
  induction l with
  | nil => intro a _ _; rw [decVal_nil]; rfl
  | cons c r ih =>
    intro a hd hv
    have hc := hd c List.mem_cons_self
    rw [decVal_cons] at hv
    have hge := decVal_ge r (10 * a + (c.toNat - 48))
    unfold isDig at hc
    have e : a * 10 + (c.toNat - 48) = 10 * a + (c.toNat - 48) := by omega
    simp only [Lib.parseUint10]
    rw [if_pos hc, if_neg (by omega), if_neg (by omega), e]
    rw [decVal_cons]
    exact ih _ (fun x hx => hd x (List.mem_cons_of_mem _ hx)) hv
theorem atoi_itoa {v : Int} (h0 : 0 ≤ v) (h1 : v ≤ 1000000000) : Lib.atoiAll (Lib.itoa v) = .ok v := by
  obtain ⟨u, rfl⟩ := Int.eq_ofNat_of_zero_le h0
  rw [Lib.itoa_nonneg]
  obtain ⟨e1, e2, e3⟩ := decDigits_val u
  have hp : Lib.parseMag (Lib.decDigits u) = .ok u := by
    unfold Lib.parseMag
    rw [if_neg e3, parse10_ok _ _ e2 (by rw [e1]; omega), e1]
  cases hd : Lib.decDigits u with
  | nil => exact absurd hd e3
  | cons c r =>
    rw [hd] at hp e2
    have hc := e2 c List.mem_cons_self
    unfold isDig at hc
    unfold Lib.atoiAll
    have hn : ¬ (c.toNat = 43 ∨ c.toNat = 45) := by omega
    simp only []
    rw [if_neg hn, hp]
    simp only []
    rw [if_neg (by omega), if_neg (by omega), if_neg (by omega)]
theorem itoaB_data (v : Int) : (itoaB v).data.toList = Lib.itoa v := by unfold itoaB; simp
theorem parseU_of {v : Int} (h0 : 0 ≤ v) (h1 : v ≤ 1000000000) : parseU (itoaB v) = (v, true) := by
  unfold parseU
  rw [itoaB_data, atoi_itoa h0 h1]
  simp only []
  rw [if_pos ⟨inR_iff.mpr ⟨h0, h1⟩, trivial⟩]
theorem parseU_not {s : ByteArray} (h : ∀ v : Int, 0 ≤ v → v ≤ 1000000000 → itoaB v ≠ s) : parseU s = (0, false) := by
  unfold parseU
  split
  · rename_i v _
    rw [if_neg]
    rintro ⟨h1, h2⟩
    have := inR_iff.mp h1
    exact h v this.1 this.2 h2
  · rfl
theorem drop_bt {s : ByteArray} {i : Nat} (h : i < s.size) : ∃ c : UInt8, s.data.toList.drop i = c :: s.data.toList.drop (i + 1) ∧ bt s (i : Int) = (c.toNat : Int) := by
  have hl : i < s.data.toList.length := by rw [Array.length_toList]; exact h
  exact ⟨s.data.toList[i], List.drop_eq_getElem_cons hl, bt_of (List.getElem?_eq_getElem hl)⟩
/-- What the reference makes of the figures. -/
def seenU (s : ByteArray) (n : Nat) : Int × Bool := if (n : Int) > 1000000000 then (0, false) else if itoaB n = s then ((n : Int), true) else (0, false)
/-- The reference's reading of a number, from place i on. -/
theorem parse_go (s : ByteArray) (hs : s.size ≤ 10) : ∀ (d i n : Nat), s.size - i ≤ d → i ≤ s.size → n < 10 ^ i →
    ∃ r, Ev (fun k => spec_ParseUint.l0 k s n i) r ∧ ((∀ c ∈ s.data.toList.drop i, isDig c) → r = seenU s (decVal n (s.data.toList.drop i))) ∧ ((¬ ∀ c ∈ s.data.toList.drop i, isDig c) → r = (0, false)) := by
  have last : ∀ n i : Nat, i = s.size → n < 10 ^ i → ∃ r, Ev (fun k => spec_ParseUint.l0 k s n i) r ∧ ((∀ c ∈ s.data.toList.drop i, isDig c) → r = seenU s (decVal n (s.data.toList.drop i))) ∧ ((¬ ∀ c ∈ s.data.toList.drop i, isDig c) → r = (0, false)) := by
    intro n i hi hn
    have hd : s.data.toList.drop i = [] := List.drop_eq_nil_of_le (by rw [Array.length_toList]; show s.size ≤ i; omega)
    rw [hd, decVal_nil]
    have hb : n < 10 ^ 10 := Nat.lt_of_lt_of_le hn (Nat.pow_le_pow_right (by omega) (by omega))
    have hb2 : (10 : Nat) ^ 10 = 10000000000 := by decide
    refine ⟨seenU s n, ?_, fun _ => rfl, fun h => absurd (fun c hc => absurd hc (by simp)) h⟩
    unfold seenU
    by_cases hg : (n : Int) > 1000000000
    · rw [if_pos hg]
      refine Ev.step (f := fun _ => some ((0 : Int), false)) (fun k => ?_) (Ev.now _)
      simp only [spec_ParseUint.l0]
      rw [if_neg (by omega), if_pos hg]
    · rw [if_neg hg]
      have ef := formatInt_ev (n := (n : Int)) (by omega) (by omega)
      refine Ev.step (f := fun k => (spec_FormatInt.f k n).bind fun t203 => (if t203.toList = s.toList then (some ((n : Int), true)) else (some (0, false)))) (fun k => ?_) (Ev.bind ef ?_)
      · simp only [spec_ParseUint.l0]
        rw [if_neg (by omega), if_neg hg]
      · by_cases hq : itoaB n = s
        · rw [if_pos hq, hq]
          exact Ev.pos rfl (Ev.now _)
        · rw [if_neg hq]
          exact Ev.neg (fun e => hq (text_inj e)) (Ev.now _)
  intro d
  induction d with
  | zero => intro i n hd hi hn; exact last n i (by omega) hn
  | succ d ih =>
    intro i n hd hi hn
    by_cases hlt : i < s.size
    · obtain ⟨c, hc, hb⟩ := drop_bt hlt
      by_cases hdig : isDig c
      · have hdig' := hdig
        unfold isDig at hdig
        have hn2 : 10 * n + (c.toNat - 48) < 10 ^ (i + 1) := by rw [Nat.pow_succ]; omega
        have hb10 : 10 * n + (c.toNat - 48) < 10 ^ 10 := Nat.lt_of_lt_of_le hn2 (Nat.pow_le_pow_right (by omega) (by omega))
        have hb2 : (10 : Nat) ^ 10 = 10000000000 := by decide
        obtain ⟨r, e1, e2, e3⟩ := ih (i + 1) (10 * n + (c.toNat - 48)) (by omega) (by omega) hn2
        rw [hc]
        refine ⟨r, Ev.step (fun k => ?_) e1, fun h => by rw [decVal_cons]; exact e2 (fun x hx => h x (List.mem_cons_of_mem _ hx)), fun h => e3 (fun h2 => h (fun x hx => ?_))⟩
        · simp only [spec_ParseUint.l0]
          rw [if_pos (by omega), if_pos (by omega), hb, if_neg (by omega), if_neg (by omega), w64 (a := 10 * (n : Int)) (by omega) (by omega), w64 (a := (c.toNat : Int)) (by omega) (by omega), w64 (a := 10 * (n : Int) + (c.toNat : Int)) (by omega) (by omega), w64 (by omega) (by omega), w64 (a := (i : Int) + 1) (by omega) (by omega)]
          congr 1
          omega
        · rcases List.mem_cons.mp hx with rfl | hx
          · exact hdig'
          · exact h2 x hx
      · have hdig' := hdig
        unfold isDig at hdig
        rw [hc]
        refine ⟨(0, false), Ev.step (f := fun _ => some ((0 : Int), false)) (fun k => ?_) (Ev.now _), fun h => absurd (h c List.mem_cons_self) hdig', fun _ => rfl⟩
        simp only [spec_ParseUint.l0]
        rw [if_pos (by omega), if_pos (by omega), hb]
        by_cases h48 : (c.toNat : Int) < 48
        · rw [if_pos h48]
        · rw [if_neg h48, if_pos (by omega)]
    · exact last n i (by omega) hn
theorem itoaB_len {v : Int} (h0 : 0 ≤ v) (h1 : v ≤ 1000000000) : (itoaB v).size ≤ 10 := by
  obtain ⟨u, rfl⟩ := Int.eq_ofNat_of_zero_le h0
  have h := itoaB_data (u : Int)
  have hl : (itoaB (u : Int)).size = (Lib.decDigits u).length := by
    rw [← Lib.itoa_nonneg, ← h, Array.length_toList]; rfl
  rw [hl, Lib.decDigits_length]
  have : ∀ u : Nat, u < 10000000000 → Lib.nDigits u ≤ 10 := by
    intro u hu
    have : ∀ (k u : Nat), u < 10 ^ (k + 1) → Lib.nDigits u ≤ k + 1 := by
      intro k
      induction k with
      | zero => intro u hu; rw [Lib.nDigits_small (by simpa using hu)]; exact Nat.le_refl _
      | succ k ih =>
        intro u hu
        by_cases hs : u < 10
        · rw [Lib.nDigits_small hs]; omega
        · rw [Lib.nDigits_big hs]
          have := ih (u / 10) (by rw [Nat.pow_succ] at hu; omega)
          omega
    exact this 9 u (by have e : (10 : Nat) ^ (9 + 1) = 10000000000 := by decide
                       omega)
  exact this u (by omega)
theorem parseUint_ev (s : ByteArray) : Ev (fun k => spec_ParseUint.f k s) (parseU s) := by
  by_cases hs : s.size ≤ 10
  · obtain ⟨r, e1, e2, e3⟩ := parse_go s hs s.size 0 0 (by omega) (by omega) (by decide)
    rw [List.drop_zero] at e2 e3
    have hr : r = parseU s := by
      by_cases h : ∃ v : Int, 0 ≤ v ∧ v ≤ 1000000000 ∧ itoaB v = s
      · obtain ⟨v, h0, h1, rfl⟩ := h
        rw [parseU_of h0 h1]
        obtain ⟨u, rfl⟩ := Int.eq_ofNat_of_zero_le h0
        rw [itoaB_data, Lib.itoa_nonneg] at e2 e3
        obtain ⟨d1, d2, _⟩ := decDigits_val u
        rw [e2 d2, d1]
        unfold seenU
        rw [if_neg (by omega), if_pos rfl]
      · rw [parseU_not (fun v h0 h1 e => h ⟨v, h0, h1, e⟩)]
        by_cases hd : ∀ c ∈ s.data.toList, isDig c
        · rw [e2 hd]
          unfold seenU
          by_cases hg : ((decVal 0 s.data.toList : Nat) : Int) > 1000000000
          · rw [if_pos hg]
          · rw [if_neg hg, if_neg (fun e => h ⟨_, by omega, by omega, e⟩)]
        · exact e3 hd
    rw [← hr]
    refine Ev.congr (fun k => ?_) e1
    simp only [spec_ParseUint.f]
    rw [if_neg (by omega)]
    rfl
  · have hr : parseU s = (0, false) := parseU_not (fun v h0 h1 e => hs (by rw [← e]; exact itoaB_len h0 h1))
    rw [hr]
    refine Ev.congr (fun k => ?_) (Ev.now _)
    simp only [spec_ParseUint.f]
    rw [if_pos (by omega)]
end Go.Proofs.YtbmebmhdkpmclaaDoor.P
