import Derived.Test.YtbmebmhdkpmclaaDoorMParseA0
import Derived.Test.YtbmebmhdkpmclaaDoorMParseU
import Derived.Test.YtbmebmhdkpmclaaDoorMSplit
import Derived.Test.YtbmebmhdkpmclaaDoorPf15
namespace Go.Proofs.YtbmebmhdkpmclaaDoor.P
open Go.RowKit Go.Proofs.YtbmebmhdkpmclaaDoorW.PrintWords Go.Proofs.YtbmebmhdkpmclaaDoorW.PrintLast Go.Proofs.YtbmebmhdkpmclaaDoorW.PrintMore
set_option linter.unusedVariables false
set_option linter.unusedSimpArgs false
def flatA (p : (Int × Int × Int × Int) × Bool) : Int × Int × Int × Int × Bool := (p.1.1, p.1.2.1, p.1.2.2.1, p.1.2.2.2, p.2)
/-- The second loop: which act it is. -/
theorem parse_l1 {x y : ByteArray} {r : List ByteArray} {ns : List Int} {n0 n1 n2 : Int} (hx : ∀ c ∈ x.data.toList, c ≠ 32) (h0 : rd ns 0 = n0) (h1 : rd ns 1 = n1) (h2 : rd ns 2 = n2) (hl : 3 ≤ ns.length) :
    ∀ (d : Nat) (i : Int), 1 ≤ i → i ≤ 5 → 5 - i ≤ d →
      (fmtAct (kindOf x) n0 n1 n2 = (joinB (x :: y :: r), true) → i ≤ kindOf x → Ev (fun k => spec_ParseAct.l1 k (joinB (x :: y :: r)) ns i) (kindOf x, n0, n1, n2, true))
      ∧ (¬ fmtAct (kindOf x) n0 n1 n2 = (joinB (x :: y :: r), true) → Ev (fun k => spec_ParseAct.l1 k (joinB (x :: y :: r)) ns i) (0, 0, 0, 0, false)) := by
  have hk4 := kindOf_range x
  intro d
  induction d with
  | zero =>
    intro i a b c
    refine ⟨fun _ h => by omega, fun _ => Ev.step (f := fun _ => some (0, 0, 0, 0, false)) (fun k => ?_) (Ev.now _)⟩
    simp only [spec_ParseAct.l1]
    rw [if_neg (by omega)]
  | succ d ih =>
    intro i a b c
    by_cases hi : i ≤ 4
    · obtain ⟨ih1, ih2⟩ := ih (i + 1) (by omega) (by omega) (by omega)
      obtain ⟨T, ok, hT⟩ : ∃ T ok, fmtAct i n0 n1 n2 = (T, ok) := ⟨_, _, rfl⟩
      have ef := formatAct_ev i n0 n1 n2
      rw [hT] at ef
      have hu : ∀ k, spec_ParseAct.l1 (k + 1) (joinB (x :: y :: r)) ns i = (spec_FormatAct.f k i n0 n1 n2).bind fun bt => if bt.2 = true then (if bt.1.toList = (joinB (x :: y :: r)).toList then some (i, n0, n1, n2, true) else spec_ParseAct.l1 k (joinB (x :: y :: r)) ns (i + 1)) else spec_ParseAct.l1 k (joinB (x :: y :: r)) ns (i + 1) := by
        intro k
        simp only [spec_ParseAct.l1]
        rw [if_pos hi, if_pos (by omega), if_pos (by omega), if_pos (by omega), h0, h1, h2, w64 (by omega) (by omega)]
      have key : ∀ res, (ok = true ∧ T = joinB (x :: y :: r) → res = (i, n0, n1, n2, true)) → (¬ (ok = true ∧ T = joinB (x :: y :: r)) → Ev (fun k => spec_ParseAct.l1 k (joinB (x :: y :: r)) ns (i + 1)) res) → Ev (fun k => spec_ParseAct.l1 k (joinB (x :: y :: r)) ns i) res := by
        intro res hyes hno
        refine Ev.step hu (Ev.bind ef ?_)
        cases ok with
        | false => exact Ev.neg (by simp) (hno (fun h => by cases h.1))
        | true =>
          refine Ev.pos rfl ?_
          by_cases hq : T = joinB (x :: y :: r)
          · refine Ev.pos (by show T.toList = _; rw [hq]) ?_
            rw [hyes ⟨rfl, hq⟩]; exact Ev.now _
          · exact Ev.neg (fun h => hq (text_inj h)) (hno (fun h => hq h.2))
      have hit : ok = true ∧ T = joinB (x :: y :: r) → kindOf x = i := by
        rintro ⟨rfl, rfl⟩
        exact kind_of_text hx hT
      refine ⟨fun h hik => key _ (fun h2 => by rw [hit h2]) (fun h2 => ?_), fun h => key _ (fun h2 => ?_) (fun h2 => ih2 h)⟩
      · refine ih1 h ?_
        by_cases e : i = kindOf x
        · exfalso
          rw [← e, hT] at h
          exact h2 ⟨(Prod.mk.inj h).2, (Prod.mk.inj h).1⟩
        · omega
      · exfalso
        have e := hit h2
        rw [e, hT, h2.1, h2.2] at h
        exact h rfl
    · refine ⟨fun _ h => by omega, fun _ => Ev.step (f := fun _ => some (0, 0, 0, 0, false)) (fun k => ?_) (Ev.now _)⟩
      simp only [spec_ParseAct.l1]
      rw [if_neg hi]
theorem join_step {fs : List ByteArray} {i : Nat} (h0 : 1 ≤ i) (hi : i < fs.length) : joinB (fs.take i) ++ ⟨#[32]⟩ ++ rdOf ByteArray.empty fs (i : Int) = joinB (fs.take (i + 1)) := by
  cases fs with
  | nil => simp at hi
  | cons a r =>
    obtain ⟨j, rfl⟩ : ∃ j, i = j + 1 := ⟨i - 1, by omega⟩
    have hj : j < r.length := by simpa using hi
    have hr : (r.map (·.data.toList))[j]? = some (r[j].data.toList) := by rw [List.getElem?_map, List.getElem?_eq_getElem hj]; rfl
    have e := Lib.joinTail_take_succ [32] (r.map (·.data.toList)) j _ hr
    have hrd : rdOf ByteArray.empty (a :: r) ((j + 1 : Nat) : Int) = r[j] := by
      unfold rdOf
      rw [Int.toNat_natCast, List.getD_eq_getElem?_getD, List.getElem?_cons_succ, List.getElem?_eq_getElem hj]; rfl
    rw [hrd]
    unfold joinB
    rw [List.take_succ_cons, List.take_succ_cons, List.map_cons, List.map_cons, Lib.join_cons, Lib.join_cons, List.map_take, List.map_take, e]
    apply ByteArray.ext
    rw [ByteArray.data_append, ByteArray.data_append]
    simp [tx]
theorem joinB_size {fs : List ByteArray} (h : ∀ x ∈ fs, x.size ≤ 600) (hl : fs.length ≤ 4) : (joinB fs).size ≤ 3000 := by
  unfold joinB
  rw [tx_size]
  exact joinB_len h hl
theorem parse_l0 {fs : List ByteArray} (h : ∀ x ∈ fs, x.size ≤ 600) (hl : fs.length ≤ 4) {res : Int × Int × Int × Int × Bool} (hr : Ev (fun k => spec_ParseAct.l1 k (joinB fs) ((List.range (fs.length - 1)).map (numAt fs) ++ [0, 0]) 1) res) :
    ∀ (d i : Nat), 1 ≤ i → i ≤ fs.length → fs.length - i ≤ d → Ev (fun k => spec_ParseAct.l0 k fs (joinB (fs.take i)) ((List.range (i - 1)).map (numAt fs)) i) res := by
  have last : Ev (fun k => spec_ParseAct.l0 k fs (joinB fs) ((List.range (fs.length - 1)).map (numAt fs)) fs.length) res := by
    refine Ev.step (fun k => ?_) hr
    simp only [spec_ParseAct.l0]
    rw [if_neg (by omega)]
    simp only [Option.bind_some]
    rw [if_pos (by simp; omega)]
  intro d
  induction d with
  | zero =>
    intro i a b c
    obtain rfl : i = fs.length := by omega
    rw [List.take_length]; exact last
  | succ d ih =>
    intro i a b c
    by_cases hi : i < fs.length
    · have hs := joinB_size (fs := fs.take i) (fun x hx => h x (List.mem_of_mem_take hx)) (by rw [List.length_take]; omega)
      have hm : rdOf ByteArray.empty fs (i : Int) ∈ fs := by
        unfold rdOf
        rw [Int.toNat_natCast, List.getD_eq_getElem?_getD, List.getElem?_eq_getElem hi]
        exact List.getElem_mem _
      have hx := h _ hm
      have e := parseUint_ev (rdOf ByteArray.empty fs (i : Int))
      have hn : (parseU (rdOf ByteArray.empty fs (i : Int))).1 = numAt fs (i - 1) := by
        unfold numAt
        rw [if_pos (by omega), show ((i - 1 : Nat) : Int) + 1 = (i : Int) by omega]
      have hrg : (List.range (i - 1)).map (numAt fs) ++ [numAt fs (i - 1)] = (List.range (i + 1 - 1)).map (numAt fs) := by
        rw [show i + 1 - 1 = (i - 1) + 1 by omega, List.range_succ, List.map_append]; rfl
      have hi2 := ih (i + 1) (by omega) hi (by omega)
      rw [← join_step a hi, ← hrg] at hi2
      have z1 : (⟨#[32]⟩ : ByteArray).size = 1 := rfl
      refine Ev.step (f := fun k => (spec_ParseUint.f k (rdOf ByteArray.empty fs (i : Int))).bind fun bt => if ((List.range (i - 1)).map (numAt fs)).length < 17592186044416 then spec_ParseAct.l0 k fs (joinB (fs.take i) ++ ⟨#[32]⟩ ++ rdOf ByteArray.empty fs (i : Int)) ((List.range (i - 1)).map (numAt fs) ++ [bt.1]) ((i + 1 : Nat) : Int) else none) (fun k => ?_) (Ev.bind e (Ev.pos (by simp; omega) (by rw [hn]; exact hi2)))
      simp only [spec_ParseAct.l0]
      rw [if_pos (by omega), if_pos (by omega), if_pos (by omega), if_pos (by rw [ByteArray.size_append, z1]; omega), w64 (by omega) (by omega)]
      rfl
    · obtain rfl : i = fs.length := by omega
      rw [List.take_length]; exact last
theorem nums_rd (fs : List ByteArray) (h2 : 2 ≤ fs.length) (j : Nat) (hj : j ≤ 2) : rd ((List.range (fs.length - 1)).map (numAt fs) ++ [0, 0]) (j : Int) = numAt fs j := by
  unfold rd
  rw [Int.toNat_natCast, List.getD_eq_getElem?_getD]
  by_cases h : j < fs.length - 1
  · rw [List.getElem?_append_left (by simpa using h), List.getElem?_map, List.getElem?_range h]; rfl
  · rw [List.getElem?_append_right (by simp; omega)]
    have e : numAt fs j = 0 := by unfold numAt; rw [if_neg (by omega)]
    rw [e]
    simp only [List.length_map, List.length_range]
    have : j - (fs.length - 1) = 0 ∨ j - (fs.length - 1) = 1 := by omega
    rcases this with e | e <;> rw [e] <;> rfl
theorem parseAct_ev (s : ByteArray) : Ev (fun k => spec_ParseAct.f k s) (flatA (parseA s)) := by
  obtain ⟨fs, ok, hfs⟩ : ∃ fs ok, splitF s = (fs, ok) := ⟨_, _, rfl⟩
  have es := splitFields_ev s
  rw [hfs] at es
  have zero : ∀ b, b = true → Ev (fun k => spec_ParseAct.j0 k fs b) (0, 0, 0, 0, false) := by
    rintro _ rfl
    refine Ev.step (f := fun _ => some (0, 0, 0, 0, false)) (fun k => ?_) (Ev.now _)
    simp only [spec_ParseAct.j0]
    rw [if_pos trivial]
  refine Ev.bind es ?_
  cases ok with
  | false =>
    have e : parseA s = ((0, 0, 0, 0), false) := by unfold parseA; rw [hfs]; rw [if_neg (fun h => by cases h.1)]
    rw [e]
    exact Ev.neg (by simp) (zero true rfl)
  | true =>
    refine Ev.pos rfl ?_
    simp only [spec_l01In.f, Option.bind_some]
    cases hin : inR (fs.length : Int) 2 4 with
    | false =>
      have e : parseA s = ((0, 0, 0, 0), false) := by
        unfold parseA
        rw [hfs]
        rw [if_neg (fun h => by
          have h2 : 2 ≤ fs.length := h.2.1
          have h3 : fs.length ≤ 4 := h.2.2
          exact inR_not hin (by omega))]
      rw [e]
      exact zero _ (by simp)
    | true =>
      have hr := inR_iff.mp hin
      have hsz := split_mem_size hfs
      have hns := split_nosp hfs
      have e : parseA s = if fmtAct (kindOf (rdOf ByteArray.empty fs 0)) (numAt fs 0) (numAt fs 1) (numAt fs 2) = (joinB fs, true) then ((kindOf (rdOf ByteArray.empty fs 0), numAt fs 0, numAt fs 1, numAt fs 2), true) else ((0, 0, 0, 0), false) := by
        unfold parseA
        rw [hfs]
        rw [if_pos ⟨rfl, by show 2 ≤ fs.length; omega, by show fs.length ≤ 4; omega⟩]
      rw [e]
      match fs, hr, hsz, hns, zero with
      | x :: y :: r, hr, hsz, hns, _ =>
        have hl1 := parse_l1 (x := x) (y := y) (r := r) (ns := (List.range ((x :: y :: r).length - 1)).map (numAt (x :: y :: r)) ++ [0, 0]) (hns x List.mem_cons_self) (nums_rd _ (by omega) 0 (by omega)) (nums_rd _ (by omega) 1 (by omega)) (nums_rd _ (by omega) 2 (by omega)) (by simp) 4 1 (by omega) (by omega) (by omega)
        have hx : rdOf ByteArray.empty (x :: y :: r) 0 = x := rfl
        have go : ∀ res, Ev (fun k => spec_ParseAct.l1 k (joinB (x :: y :: r)) ((List.range ((x :: y :: r).length - 1)).map (numAt (x :: y :: r)) ++ [0, 0]) 1) res → Ev (fun k => spec_ParseAct.j0 k (x :: y :: r) (!true)) res := by
          intro res h
          have h0 := parse_l0 hsz (by omega) h ((x :: y :: r).length) 1 (by omega) (by omega) (by omega)
          have ej : joinB ((x :: y :: r).take 1) = x := by
            show joinB [x] = x
            unfold joinB
            rw [List.map_cons, List.map_nil, Lib.join_one]
            apply ByteArray.ext; apply Array.ext'; simp [tx]
          rw [ej] at h0
          refine Ev.step (fun k => ?_) h0
          simp only [spec_ParseAct.j0]
          rw [if_neg (by simp), if_pos (by rw [List.length_cons]; omega)]
          rfl
        rw [hx]
        by_cases hq : fmtAct (kindOf x) (numAt (x :: y :: r) 0) (numAt (x :: y :: r) 1) (numAt (x :: y :: r) 2) = (joinB (x :: y :: r), true)
        · rw [if_pos hq]
          have hk : 1 ≤ kindOf x := by
            unfold fmtAct at hq
            split at hq
            · rename_i hok; exact (actOk_range hok).1.1
            · cases (Prod.mk.inj hq).2
          exact go _ (hl1.1 hq hk)
        · rw [if_neg hq]
          exact go _ (hl1.2 hq)
      | [x], hr, _, _, _ => simp at hr
      | [], hr, _, _, _ => simp at hr
end Go.Proofs.YtbmebmhdkpmclaaDoor.P
