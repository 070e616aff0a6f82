import Derived.Test.YtbmebmhdkpmclaaDoorMText
import Derived.Test.YtbmebmhdkpmclaaDoorFScript
import Derived.Test.YtbmebmhdkpmclaaDoorPf11
import Derived.Test.YtbmebmhdkpmclaaDoorPf12
import Derived.Test.YtbmebmhdkpmclaaDoorPf14
import Derived.Test.YtbmebmhdkpmclaaDoorPf10
namespace Go.Proofs.YtbmebmhdkpmclaaDoor.P
open Go.RowKit Go.Proofs.YtbmebmhdkpmclaaDoorW.PrintWords Go.Proofs.YtbmebmhdkpmclaaDoorW.PrintLast Go.Proofs.YtbmebmhdkpmclaaDoorW.PrintMore
set_option linter.unusedSimpArgs false
set_option linter.unusedVariables false
theorem strOf_bytes (s : ByteArray) : strOfNums (bytesOf s) = s := by
  apply ByteArray.ext
  apply Array.ext'
  show ((bytesOf s).map fun n => UInt8.ofNat n.toNat) = s.data.toList
  unfold bytesOf
  rw [List.map_map]
  conv => rhs; rw [← List.map_id s.data.toList]
  apply List.map_congr_left
  intro b _
  simp
theorem strOf_app (a b : List Int) : strOfNums (a ++ b) = strOfNums a ++ strOfNums b := by
  apply ByteArray.ext
  rw [ByteArray.data_append]
  unfold strOfNums
  simp
theorem script_go (l : List S26) : ∀ (d i : Nat) (xs : List Int), l.length - i ≤ d → i ≤ l.length → l.length ≤ 40 → xs.length ≤ 100 * i →
    Ev (fun k => spec_ScriptText.l0 k l xs i) (scriptGo (l.drop i) (strOfNums xs)) := by
  intro d
  induction d with
  | zero =>
    intro i xs hd hi h40 hx
    rw [List.drop_eq_nil_of_le (by omega), scriptGo]
    refine Ev.step (f := fun _ => some (strOfNums xs, true)) (fun k => ?_) (Ev.now _)
    simp only [spec_ScriptText.l0]
    rw [if_neg (by omega)]
  | succ d ih =>
    intro i xs hd hi h40 hx
    by_cases hlt : i < l.length
    · rw [drop_rdT hlt, scriptGo]
      obtain ⟨x, hxe⟩ : ∃ x, rd_T26 l (i : Int) = x := ⟨_, rfl⟩
      have ef := formatAct_ev x.f0 x.f1 x.f2 x.f3
      have hsz := fmtAct_size x.f0 x.f1 x.f2 x.f3
      rw [hxe]
      unfold fmtA
      obtain ⟨s, ok, hs⟩ : ∃ s ok, fmtAct x.f0 x.f1 x.f2 x.f3 = (s, ok) := ⟨_, _, rfl⟩
      rw [hs] at ef hsz ⊢
      have hsz' : s.size ≤ 80 := hsz
      have z1 : (⟨#[10]⟩ : ByteArray).size = 1 := rfl
      cases ok with
      | false =>
        rw [if_neg (by simp)]
        refine Ev.step (fun k => ?_) (Ev.bind ef (f := fun k bt => if bt.2 = true then (if (l.length : Int) > 40 then (some ((⟨#[]⟩ : ByteArray), false)) else (if bt.1.size + 1 ≤ 9223372036854775807 then (if xs.length + (bt.1 ++ (⟨#[10]⟩ : ByteArray)).size < 140737488355328 then (spec_ScriptText.l0 k l (xs ++ bytesOf (bt.1 ++ (⟨#[10]⟩ : ByteArray))) (wrap64 ((i : Int) + 1))) else (none)) else (none))) else (some ((⟨#[]⟩ : ByteArray), false))) (Ev.neg (by simp) (Ev.now _)))
        simp only [spec_ScriptText.l0]
        rw [if_pos (by omega), if_pos (by omega), hxe]
      | true =>
        rw [if_pos rfl]
        have hi2 := ih (i + 1) (xs ++ bytesOf (s ++ ⟨#[10]⟩)) (by omega) (by omega) h40 (by rw [List.length_append, bytesOf_length, ByteArray.size_append, z1]; omega)
        rw [strOf_app, strOf_bytes] at hi2
        refine Ev.step (fun k => ?_) (Ev.bind ef (f := fun k bt => if bt.2 = true then (if (l.length : Int) > 40 then (some ((⟨#[]⟩ : ByteArray), false)) else (if bt.1.size + 1 ≤ 9223372036854775807 then (if xs.length + (bt.1 ++ (⟨#[10]⟩ : ByteArray)).size < 140737488355328 then (spec_ScriptText.l0 k l (xs ++ bytesOf (bt.1 ++ (⟨#[10]⟩ : ByteArray))) ((i + 1 : Nat) : Int)) else (none)) else (none))) else (some ((⟨#[]⟩ : ByteArray), false))) (Ev.pos rfl (Ev.neg (by omega) (Ev.pos (by show s.size + 1 ≤ _; omega) (Ev.pos (by show xs.length + (s ++ ⟨#[10]⟩).size < _; rw [ByteArray.size_append, z1]; omega) hi2)))))
        simp only [spec_ScriptText.l0]
        rw [if_pos (by omega), if_pos (by omega), hxe, w64 (by omega) (by omega)]
        rfl
    · rw [List.drop_eq_nil_of_le (by omega), scriptGo]
      refine Ev.step (f := fun _ => some (strOfNums xs, true)) (fun k => ?_) (Ev.now _)
      simp only [spec_ScriptText.l0]
      rw [if_neg (by omega)]
theorem script_ev (l : List S26) : Ev (fun k => spec_ScriptText.f k l) (scriptText l) := by
  unfold scriptText
  by_cases h40 : l.length > 40
  · rw [if_pos h40]
    obtain ⟨x, hxe⟩ : ∃ x, rd_T26 l 0 = x := ⟨_, rfl⟩
    have ef := formatAct_ev x.f0 x.f1 x.f2 x.f3
    refine Ev.congr (f := fun k => spec_ScriptText.l0 k l [] 0) (fun k => rfl) (Ev.step (fun k => ?_) (Ev.bind ef (f := fun k bt => some ((⟨#[]⟩ : ByteArray), false)) (Ev.now _)))
    simp only [spec_ScriptText.l0]
    rw [if_pos (by omega), if_pos (by omega), hxe]
    congr 1
    funext bt
    split
    · rw [if_pos (by omega)]
    · rfl
  · rw [if_neg h40]
    exact Ev.congr (fun k => rfl) (script_go l l.length 0 [] (by omega) (by omega) (by omega) (by simp))
def toA (x : S23) : S26 := ⟨x.f0, x.f1, x.f2, x.f3⟩
theorem toActS_go (l : List S23) (hl : l.length ≤ 8796093022208) : ∀ (d i : Nat), l.length - i ≤ d → i ≤ l.length → Ev (fun k => laws_toActS.l0 k l ((l.take i).map toA ++ List.replicate (l.length - i) z26) i) (l.map toA) := by
  intro d
  induction d with
  | zero =>
    intro i hd hi
    have e : (l.take i).map toA ++ List.replicate (l.length - i) z26 = l.map toA := by
      rw [show l.length - i = 0 by omega, List.take_of_length_le (by omega)]; simp
    rw [e]
    refine Ev.step (f := fun _ => some (l.map toA)) (fun k => ?_) (Ev.now _)
    simp only [laws_toActS.l0]
    rw [if_neg (by omega)]
  | succ d ih =>
    intro i hd hi
    by_cases hlt : i < l.length
    · refine Ev.step (fun k => ?_) (ih (i + 1) (by omega) (by omega))
      simp only [laws_toActS.l0, laws_toAct.f, Option.bind_some]
      rw [if_pos (by omega), if_pos (by omega), if_pos (by simp; omega), w64 (by omega) (by omega)]
      congr 1
      rw [Int.toNat_natCast, List.set_append_right _ _ (by simp; omega)]
      have e1 : ((l.take i).map toA).length = i := by simp; omega
      rw [e1, Nat.sub_self]
      rw [show l.length - i = (l.length - (i + 1)) + 1 by omega, List.replicate_succ, List.set_cons_zero, List.take_succ_eq_append_getElem hlt, List.map_append, List.append_assoc]
      congr 1
      simp only [List.map_cons, List.map_nil, List.singleton_append]
      congr 1
      unfold toA rd_T23
      rw [Int.toNat_natCast, List.getD_eq_getElem?_getD, List.getElem?_eq_getElem hlt]
      rfl
    · have e : (l.take i).map toA ++ List.replicate (l.length - i) z26 = l.map toA := by
        rw [show l.length - i = 0 by omega, List.take_of_length_le (by omega)]; simp
      rw [e]
      refine Ev.step (f := fun _ => some (l.map toA)) (fun k => ?_) (Ev.now _)
      simp only [laws_toActS.l0]
      rw [if_neg (by omega)]
theorem toActS_ev (l : List S23) (hl : l.length ≤ 8796093022208) : Ev (fun k => laws_toActS.f k l) (l.map toA) := by
  have h := toActS_go l hl l.length 0 (by omega) (by omega)
  refine Ev.congr (fun k => ?_) h
  simp only [laws_toActS.f]
  rw [if_pos (by omega), Int.toNat_natCast, if_pos hl]
  simp
theorem eqAct_self (x : S26) : laws_eqAct.f x.f0 x.f1 x.f2 x.f3 x.f0 x.f1 x.f2 x.f3 = some true := by
  unfold laws_eqAct.f
  simp
theorem eqActS_go (l : List S26) (hl : l.length ≤ 8796093022208) : ∀ (d i : Nat), l.length - i ≤ d → i ≤ l.length → Ev (fun k => laws_eqActS.l0 k l l i) true := by
  intro d
  induction d with
  | zero =>
    intro i hd hi
    refine Ev.step (f := fun _ => some true) (fun k => ?_) (Ev.now _)
    simp only [laws_eqActS.l0]
    rw [if_neg (by omega)]
  | succ d ih =>
    intro i hd hi
    by_cases hlt : i < l.length
    · refine Ev.step (fun k => ?_) (ih (i + 1) (by omega) (by omega))
      simp only [laws_eqActS.l0]
      rw [if_pos (by omega), if_pos (by omega), if_pos (by omega), eqAct_self]
      simp only [Option.bind_some]
      rw [if_pos trivial, w64 (by omega) (by omega)]
      rfl
    · refine Ev.step (f := fun _ => some true) (fun k => ?_) (Ev.now _)
      simp only [laws_eqActS.l0]
      rw [if_neg (by omega)]
theorem eqActS_ev (l : List S26) (hl : l.length ≤ 8796093022208) : Ev (fun k => laws_eqActS.f k l l) true := by
  refine Ev.congr (fun k => ?_) (eqActS_go l hl l.length 0 (by omega) (by omega))
  simp only [laws_eqActS.f]
  rw [if_pos trivial]
  rfl
end Go.Proofs.YtbmebmhdkpmclaaDoor.P
