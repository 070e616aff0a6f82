-- PRINTED by a program of this session's (fprint.sh)
import Derived.Test.YtbmebmhdkpmclaaDoorPk
import Derived.Test.YtbmebmhdkpmclaaDoorPf20
import Derived.Test.YtbmebmhdkpmclaaDoorFFmtS
namespace Go.Proofs.YtbmebmhdkpmclaaDoor.P
open Go.RowKit Go.Proofs.YtbmebmhdkpmclaaDoorW.PrintWords Go.Proofs.YtbmebmhdkpmclaaDoorW.PrintLast Go.Proofs.YtbmebmhdkpmclaaDoorW.PrintMore
attribute [local go_sem] max2_int min2_int max_two min_two max_three min_three max_four min_four   -- for this text's walks alone
set_option linter.unusedVariables false
set_option linter.unusedSimpArgs false

/-! ### spec_FormatAct: function 7 -/
def spec_FormatAct.f (k : Nat) (a0_0 : Int) (a0_1 : Int) (a0_2 : Int) (a0_3 : Int) : Option (ByteArray × Bool) := (spec_ActOk.f a0_0 a0_1 a0_2 a0_3).bind fun t107 => (if t107 = true then ((some (([(⟨#[]⟩ : ByteArray), (⟨#[119, 114, 105, 116, 101]⟩ : ByteArray), (⟨#[114, 101, 97, 100]⟩ : ByteArray), (⟨#[99, 117, 116]⟩ : ByteArray), (⟨#[111, 112, 101, 110]⟩ : ByteArray)] : List ByteArray) : List ByteArray)).bind fun y108 => (if 0 ≤ a0_0 then (if a0_0 < (y108.length : Int) then (if (rdOf ByteArray.empty y108 a0_0).size + 1 ≤ 9223372036854775807 then ((spec_FormatInt.f k a0_1).bind fun t112 => (if ((rdOf ByteArray.empty y108 a0_0) ++ (⟨#[32]⟩ : ByteArray)).size + t112.size ≤ 9223372036854775807 then (if a0_0 ≤ 2 then (if (((rdOf ByteArray.empty y108 a0_0) ++ (⟨#[32]⟩ : ByteArray)) ++ t112).size + 1 ≤ 9223372036854775807 then ((spec_FormatInt.f k a0_2).bind fun t113 => (if ((((rdOf ByteArray.empty y108 a0_0) ++ (⟨#[32]⟩ : ByteArray)) ++ t112) ++ (⟨#[32]⟩ : ByteArray)).size + t113.size ≤ 9223372036854775807 then (if a0_0 = 1 then (if (((((rdOf ByteArray.empty y108 a0_0) ++ (⟨#[32]⟩ : ByteArray)) ++ t112) ++ (⟨#[32]⟩ : ByteArray)) ++ t113).size + 1 ≤ 9223372036854775807 then ((spec_FormatInt.f k a0_3).bind fun t114 => (if ((((((rdOf ByteArray.empty y108 a0_0) ++ (⟨#[32]⟩ : ByteArray)) ++ t112) ++ (⟨#[32]⟩ : ByteArray)) ++ t113) ++ (⟨#[32]⟩ : ByteArray)).size + t114.size ≤ 9223372036854775807 then (some (((((((rdOf ByteArray.empty y108 a0_0) ++ (⟨#[32]⟩ : ByteArray)) ++ t112) ++ (⟨#[32]⟩ : ByteArray)) ++ t113) ++ (⟨#[32]⟩ : ByteArray)) ++ t114, true)) else (none))) else (none)) else (some (((((rdOf ByteArray.empty y108 a0_0) ++ (⟨#[32]⟩ : ByteArray)) ++ t112) ++ (⟨#[32]⟩ : ByteArray)) ++ t113, true))) else (none))) else (none)) else (if a0_0 = 1 then (if (((rdOf ByteArray.empty y108 a0_0) ++ (⟨#[32]⟩ : ByteArray)) ++ t112).size + 1 ≤ 9223372036854775807 then ((spec_FormatInt.f k a0_3).bind fun t115 => (if ((((rdOf ByteArray.empty y108 a0_0) ++ (⟨#[32]⟩ : ByteArray)) ++ t112) ++ (⟨#[32]⟩ : ByteArray)).size + t115.size ≤ 9223372036854775807 then (some (((((rdOf ByteArray.empty y108 a0_0) ++ (⟨#[32]⟩ : ByteArray)) ++ t112) ++ (⟨#[32]⟩ : ByteArray)) ++ t115, true)) else (none))) else (none)) else (some (((rdOf ByteArray.empty y108 a0_0) ++ (⟨#[32]⟩ : ByteArray)) ++ t112, true)))) else (none))) else (none)) else (none)) else (none))) else (some ((⟨#[]⟩ : ByteArray), false)))
theorem spec_FormatAct.mono : ∀ a0 a1 a2 a3 k, LeO (spec_FormatAct.f k a0 a1 a2 a3) (spec_FormatAct.f (k + 1) a0 a1 a2 a3) := by
  intro a0 a1 a2 a3 k
  unfold spec_FormatAct.f
  repeat' first
      | (with_reducible exact spec_FormatInt.mono _ _)
      | (with_reducible exact LeO.refl _)
      | (with_reducible exact LeO.none _)
      | (with_reducible refine LeO.ite ?_ ?_)
      | (with_reducible refine LeO.bind ?_ (fun _ => ?_))
      | exact spec_FormatInt.mono _ _
      | exact LeO.none _
      | refine LeO.ite ?_ ?_
      | refine LeO.bind ?_ (fun _ => ?_)
def spec_FormatAct.T3 : Bool × List (List Nat × List Nat) := (true, [([], []), ([], []), ([1], [1]), ([0, 2], [0, 2]), ([3], [3]), ([4], [4]), ([], []), ([6], [6]), ([7], [7]), ([5, 8], [5, 8]), ([9, 8, 0, 1, 2, 3, 4, 5, 6, 7, 8, 9], [9])])
def spec_FormatAct.B3 : List Nat := [0, 0, 2, 7, 15, 31, 0, 64, 192, 511, 1023]
theorem spec_FormatAct.tab3 : rtab .any (opsOf Tryd.f7 3) = spec_FormatAct.T3 := by kernel_rfl
theorem spec_FormatAct.bits3 : waitsOk spec_FormatAct.T3.2 spec_FormatAct.B3 = true := by kernel_rfl
set_option maxHeartbeats 8000000 in
set_option maxRecDepth 100000 in
theorem spec_FormatAct.calls (k : Nat) (a0_0 : Int) (a0_1 : Int) (a0_2 : Int) (a0_3 : Int) (r1 : ByteArray) (r2 : Bool) (w : World) (h : spec_FormatAct.f k a0_0 a0_1 a0_2 a0_3 = some (r1, r2)) :
    Calls Tryd.prog 7 #[.agg #[.int .i64 a0_0, .int .i64 a0_1, .int .i64 a0_2, .int .i64 a0_3]] w fun e w' => e = .returned (.tuple #[.string r1, .bool r2]) ∧ Below w.heap.size w w' := by
  have hu26 := Tryd.underlying26
  have HB := Aside0.mk (Below.refl w.heap.size w)
  have H : ((spec_ActOk.f a0_0 a0_1 a0_2 a0_3).bind fun t107 => (if t107 = true then ((some (([(⟨#[]⟩ : ByteArray), (⟨#[119, 114, 105, 116, 101]⟩ : ByteArray), (⟨#[114, 101, 97, 100]⟩ : ByteArray), (⟨#[99, 117, 116]⟩ : ByteArray), (⟨#[111, 112, 101, 110]⟩ : ByteArray)] : List ByteArray) : List ByteArray)).bind fun y108 => (if 0 ≤ a0_0 then (if a0_0 < (y108.length : Int) then (if (rdOf ByteArray.empty y108 a0_0).size + 1 ≤ 9223372036854775807 then ((spec_FormatInt.f k a0_1).bind fun t112 => (if ((rdOf ByteArray.empty y108 a0_0) ++ (⟨#[32]⟩ : ByteArray)).size + t112.size ≤ 9223372036854775807 then (if a0_0 ≤ 2 then (if (((rdOf ByteArray.empty y108 a0_0) ++ (⟨#[32]⟩ : ByteArray)) ++ t112).size + 1 ≤ 9223372036854775807 then ((spec_FormatInt.f k a0_2).bind fun t113 => (if ((((rdOf ByteArray.empty y108 a0_0) ++ (⟨#[32]⟩ : ByteArray)) ++ t112) ++ (⟨#[32]⟩ : ByteArray)).size + t113.size ≤ 9223372036854775807 then (if a0_0 = 1 then (if (((((rdOf ByteArray.empty y108 a0_0) ++ (⟨#[32]⟩ : ByteArray)) ++ t112) ++ (⟨#[32]⟩ : ByteArray)) ++ t113).size + 1 ≤ 9223372036854775807 then ((spec_FormatInt.f k a0_3).bind fun t114 => (if ((((((rdOf ByteArray.empty y108 a0_0) ++ (⟨#[32]⟩ : ByteArray)) ++ t112) ++ (⟨#[32]⟩ : ByteArray)) ++ t113) ++ (⟨#[32]⟩ : ByteArray)).size + t114.size ≤ 9223372036854775807 then (some (((((((rdOf ByteArray.empty y108 a0_0) ++ (⟨#[32]⟩ : ByteArray)) ++ t112) ++ (⟨#[32]⟩ : ByteArray)) ++ t113) ++ (⟨#[32]⟩ : ByteArray)) ++ t114, true)) else (none))) else (none)) else (some (((((rdOf ByteArray.empty y108 a0_0) ++ (⟨#[32]⟩ : ByteArray)) ++ t112) ++ (⟨#[32]⟩ : ByteArray)) ++ t113, true))) else (none))) else (none)) else (if a0_0 = 1 then (if (((rdOf ByteArray.empty y108 a0_0) ++ (⟨#[32]⟩ : ByteArray)) ++ t112).size + 1 ≤ 9223372036854775807 then ((spec_FormatInt.f k a0_3).bind fun t115 => (if ((((rdOf ByteArray.empty y108 a0_0) ++ (⟨#[32]⟩ : ByteArray)) ++ t112) ++ (⟨#[32]⟩ : ByteArray)).size + t115.size ≤ 9223372036854775807 then (some (((((rdOf ByteArray.empty y108 a0_0) ++ (⟨#[32]⟩ : ByteArray)) ++ t112) ++ (⟨#[32]⟩ : ByteArray)) ++ t115, true)) else (none))) else (none)) else (some (((rdOf ByteArray.empty y108 a0_0) ++ (⟨#[32]⟩ : ByteArray)) ++ t112, true)))) else (none))) else (none)) else (none)) else (none))) else (some ((⟨#[]⟩ : ByteArray), false)))) = some (r1, r2) := h
  clear h
  replace H := Option.bind_eq_some_iff.mp H
  obtain ⟨t107, A20, H⟩ := H
  replace H : (if t107 = true then ((some (([(⟨#[]⟩ : ByteArray), (⟨#[119, 114, 105, 116, 101]⟩ : ByteArray), (⟨#[114, 101, 97, 100]⟩ : ByteArray), (⟨#[99, 117, 116]⟩ : ByteArray), (⟨#[111, 112, 101, 110]⟩ : ByteArray)] : List ByteArray) : List ByteArray)).bind fun y108 => (if 0 ≤ a0_0 then (if a0_0 < (y108.length : Int) then (if (rdOf ByteArray.empty y108 a0_0).size + 1 ≤ 9223372036854775807 then ((spec_FormatInt.f k a0_1).bind fun t112 => (if ((rdOf ByteArray.empty y108 a0_0) ++ (⟨#[32]⟩ : ByteArray)).size + t112.size ≤ 9223372036854775807 then (if a0_0 ≤ 2 then (if (((rdOf ByteArray.empty y108 a0_0) ++ (⟨#[32]⟩ : ByteArray)) ++ t112).size + 1 ≤ 9223372036854775807 then ((spec_FormatInt.f k a0_2).bind fun t113 => (if ((((rdOf ByteArray.empty y108 a0_0) ++ (⟨#[32]⟩ : ByteArray)) ++ t112) ++ (⟨#[32]⟩ : ByteArray)).size + t113.size ≤ 9223372036854775807 then (if a0_0 = 1 then (if (((((rdOf ByteArray.empty y108 a0_0) ++ (⟨#[32]⟩ : ByteArray)) ++ t112) ++ (⟨#[32]⟩ : ByteArray)) ++ t113).size + 1 ≤ 9223372036854775807 then ((spec_FormatInt.f k a0_3).bind fun t114 => (if ((((((rdOf ByteArray.empty y108 a0_0) ++ (⟨#[32]⟩ : ByteArray)) ++ t112) ++ (⟨#[32]⟩ : ByteArray)) ++ t113) ++ (⟨#[32]⟩ : ByteArray)).size + t114.size ≤ 9223372036854775807 then (some (((((((rdOf ByteArray.empty y108 a0_0) ++ (⟨#[32]⟩ : ByteArray)) ++ t112) ++ (⟨#[32]⟩ : ByteArray)) ++ t113) ++ (⟨#[32]⟩ : ByteArray)) ++ t114, true)) else (none))) else (none)) else (some (((((rdOf ByteArray.empty y108 a0_0) ++ (⟨#[32]⟩ : ByteArray)) ++ t112) ++ (⟨#[32]⟩ : ByteArray)) ++ t113, true))) else (none))) else (none)) else (if a0_0 = 1 then (if (((rdOf ByteArray.empty y108 a0_0) ++ (⟨#[32]⟩ : ByteArray)) ++ t112).size + 1 ≤ 9223372036854775807 then ((spec_FormatInt.f k a0_3).bind fun t115 => (if ((((rdOf ByteArray.empty y108 a0_0) ++ (⟨#[32]⟩ : ByteArray)) ++ t112) ++ (⟨#[32]⟩ : ByteArray)).size + t115.size ≤ 9223372036854775807 then (some (((((rdOf ByteArray.empty y108 a0_0) ++ (⟨#[32]⟩ : ByteArray)) ++ t112) ++ (⟨#[32]⟩ : ByteArray)) ++ t115, true)) else (none))) else (none)) else (some (((rdOf ByteArray.empty y108 a0_0) ++ (⟨#[32]⟩ : ByteArray)) ++ t112, true)))) else (none))) else (none)) else (none)) else (none))) else (some ((⟨#[]⟩ : ByteArray), false))) = some (r1, r2) := H
  have A2 := Aside0.mk A20
  clear A20
  by_cases c3 : t107 = true
  · subst c3
    have H1 : ((some (([(⟨#[]⟩ : ByteArray), (⟨#[119, 114, 105, 116, 101]⟩ : ByteArray), (⟨#[114, 101, 97, 100]⟩ : ByteArray), (⟨#[99, 117, 116]⟩ : ByteArray), (⟨#[111, 112, 101, 110]⟩ : ByteArray)] : List ByteArray) : List ByteArray)).bind fun y108 => (if 0 ≤ a0_0 then (if a0_0 < (y108.length : Int) then (if (rdOf ByteArray.empty y108 a0_0).size + 1 ≤ 9223372036854775807 then ((spec_FormatInt.f k a0_1).bind fun t112 => (if ((rdOf ByteArray.empty y108 a0_0) ++ (⟨#[32]⟩ : ByteArray)).size + t112.size ≤ 9223372036854775807 then (if a0_0 ≤ 2 then (if (((rdOf ByteArray.empty y108 a0_0) ++ (⟨#[32]⟩ : ByteArray)) ++ t112).size + 1 ≤ 9223372036854775807 then ((spec_FormatInt.f k a0_2).bind fun t113 => (if ((((rdOf ByteArray.empty y108 a0_0) ++ (⟨#[32]⟩ : ByteArray)) ++ t112) ++ (⟨#[32]⟩ : ByteArray)).size + t113.size ≤ 9223372036854775807 then (if a0_0 = 1 then (if (((((rdOf ByteArray.empty y108 a0_0) ++ (⟨#[32]⟩ : ByteArray)) ++ t112) ++ (⟨#[32]⟩ : ByteArray)) ++ t113).size + 1 ≤ 9223372036854775807 then ((spec_FormatInt.f k a0_3).bind fun t114 => (if ((((((rdOf ByteArray.empty y108 a0_0) ++ (⟨#[32]⟩ : ByteArray)) ++ t112) ++ (⟨#[32]⟩ : ByteArray)) ++ t113) ++ (⟨#[32]⟩ : ByteArray)).size + t114.size ≤ 9223372036854775807 then (some (((((((rdOf ByteArray.empty y108 a0_0) ++ (⟨#[32]⟩ : ByteArray)) ++ t112) ++ (⟨#[32]⟩ : ByteArray)) ++ t113) ++ (⟨#[32]⟩ : ByteArray)) ++ t114, true)) else (none))) else (none)) else (some (((((rdOf ByteArray.empty y108 a0_0) ++ (⟨#[32]⟩ : ByteArray)) ++ t112) ++ (⟨#[32]⟩ : ByteArray)) ++ t113, true))) else (none))) else (none)) else (if a0_0 = 1 then (if (((rdOf ByteArray.empty y108 a0_0) ++ (⟨#[32]⟩ : ByteArray)) ++ t112).size + 1 ≤ 9223372036854775807 then ((spec_FormatInt.f k a0_3).bind fun t115 => (if ((((rdOf ByteArray.empty y108 a0_0) ++ (⟨#[32]⟩ : ByteArray)) ++ t112) ++ (⟨#[32]⟩ : ByteArray)).size + t115.size ≤ 9223372036854775807 then (some (((((rdOf ByteArray.empty y108 a0_0) ++ (⟨#[32]⟩ : ByteArray)) ++ t112) ++ (⟨#[32]⟩ : ByteArray)) ++ t115, true)) else (none))) else (none)) else (some (((rdOf ByteArray.empty y108 a0_0) ++ (⟨#[32]⟩ : ByteArray)) ++ t112, true)))) else (none))) else (none)) else (none)) else (none))) = some (r1, r2) := by rw [if_pos rfl] at H; exact H
    clear H
    have H := H1
    clear H1
    obtain ⟨y108, hy108⟩ : ∃ y_ : List ByteArray, y_ = (([(⟨#[]⟩ : ByteArray), (⟨#[119, 114, 105, 116, 101]⟩ : ByteArray), (⟨#[114, 101, 97, 100]⟩ : ByteArray), (⟨#[99, 117, 116]⟩ : ByteArray), (⟨#[111, 112, 101, 110]⟩ : ByteArray)] : List ByteArray)) := ⟨_, rfl⟩
    replace H : (if 0 ≤ a0_0 then (if a0_0 < (y108.length : Int) then (if (rdOf ByteArray.empty y108 a0_0).size + 1 ≤ 9223372036854775807 then ((spec_FormatInt.f k a0_1).bind fun t112 => (if ((rdOf ByteArray.empty y108 a0_0) ++ (⟨#[32]⟩ : ByteArray)).size + t112.size ≤ 9223372036854775807 then (if a0_0 ≤ 2 then (if (((rdOf ByteArray.empty y108 a0_0) ++ (⟨#[32]⟩ : ByteArray)) ++ t112).size + 1 ≤ 9223372036854775807 then ((spec_FormatInt.f k a0_2).bind fun t113 => (if ((((rdOf ByteArray.empty y108 a0_0) ++ (⟨#[32]⟩ : ByteArray)) ++ t112) ++ (⟨#[32]⟩ : ByteArray)).size + t113.size ≤ 9223372036854775807 then (if a0_0 = 1 then (if (((((rdOf ByteArray.empty y108 a0_0) ++ (⟨#[32]⟩ : ByteArray)) ++ t112) ++ (⟨#[32]⟩ : ByteArray)) ++ t113).size + 1 ≤ 9223372036854775807 then ((spec_FormatInt.f k a0_3).bind fun t114 => (if ((((((rdOf ByteArray.empty y108 a0_0) ++ (⟨#[32]⟩ : ByteArray)) ++ t112) ++ (⟨#[32]⟩ : ByteArray)) ++ t113) ++ (⟨#[32]⟩ : ByteArray)).size + t114.size ≤ 9223372036854775807 then (some (((((((rdOf ByteArray.empty y108 a0_0) ++ (⟨#[32]⟩ : ByteArray)) ++ t112) ++ (⟨#[32]⟩ : ByteArray)) ++ t113) ++ (⟨#[32]⟩ : ByteArray)) ++ t114, true)) else (none))) else (none)) else (some (((((rdOf ByteArray.empty y108 a0_0) ++ (⟨#[32]⟩ : ByteArray)) ++ t112) ++ (⟨#[32]⟩ : ByteArray)) ++ t113, true))) else (none))) else (none)) else (if a0_0 = 1 then (if (((rdOf ByteArray.empty y108 a0_0) ++ (⟨#[32]⟩ : ByteArray)) ++ t112).size + 1 ≤ 9223372036854775807 then ((spec_FormatInt.f k a0_3).bind fun t115 => (if ((((rdOf ByteArray.empty y108 a0_0) ++ (⟨#[32]⟩ : ByteArray)) ++ t112) ++ (⟨#[32]⟩ : ByteArray)).size + t115.size ≤ 9223372036854775807 then (some (((((rdOf ByteArray.empty y108 a0_0) ++ (⟨#[32]⟩ : ByteArray)) ++ t112) ++ (⟨#[32]⟩ : ByteArray)) ++ t115, true)) else (none))) else (none)) else (some (((rdOf ByteArray.empty y108 a0_0) ++ (⟨#[32]⟩ : ByteArray)) ++ t112, true)))) else (none))) else (none)) else (none)) else (none)) = some (r1, r2) := by first | (rw [hy108]; with_reducible exact H) | (have H2_ := (Option.bind_some _ _).symm.trans H; rw [hy108]; with_reducible exact H2_) | (have H2_ := (Option.bind_some _ _).symm.trans H; with_reducible exact H2_) | with_reducible exact H | (rw [hy108]; exact H) | exact H
    have Ny108 := Aside0.mk hy108
    clear hy108
    by_cases c4 : 0 ≤ a0_0
    · rw [if_pos c4] at H
      have c4b0 : decide (0 ≤ a0_0) = true := decide_eq_true c4
      clear c4
      by_cases c5 : a0_0 < (y108.length : Int)
      · rw [if_pos c5] at H
        have c5b0 : decide (a0_0 < (y108.length : Int)) = true := decide_eq_true c5
        clear c5
        by_cases c6 : (rdOf ByteArray.empty y108 a0_0).size + 1 ≤ 9223372036854775807
        · rw [if_pos c6] at H
          have c6b0 := eq_true c6
          have c6b1 : decide ((rdOf ByteArray.empty y108 a0_0).size + 1 ≤ 9223372036854775807) = true := decide_eq_true c6
          try have c6b2 : (9223372036854775807 < (rdOf ByteArray.empty y108 a0_0).size + 1) = False := eq_false (Nat.not_lt.2 c6)
          try have c6b3 := c6
          try simp only [ByteArray.size_append] at c6b3
          replace H := Option.bind_eq_some_iff.mp H
          obtain ⟨t112, A70, H⟩ := H
          replace H : (if ((rdOf ByteArray.empty y108 a0_0) ++ (⟨#[32]⟩ : ByteArray)).size + t112.size ≤ 9223372036854775807 then (if a0_0 ≤ 2 then (if (((rdOf ByteArray.empty y108 a0_0) ++ (⟨#[32]⟩ : ByteArray)) ++ t112).size + 1 ≤ 9223372036854775807 then ((spec_FormatInt.f k a0_2).bind fun t113 => (if ((((rdOf ByteArray.empty y108 a0_0) ++ (⟨#[32]⟩ : ByteArray)) ++ t112) ++ (⟨#[32]⟩ : ByteArray)).size + t113.size ≤ 9223372036854775807 then (if a0_0 = 1 then (if (((((rdOf ByteArray.empty y108 a0_0) ++ (⟨#[32]⟩ : ByteArray)) ++ t112) ++ (⟨#[32]⟩ : ByteArray)) ++ t113).size + 1 ≤ 9223372036854775807 then ((spec_FormatInt.f k a0_3).bind fun t114 => (if ((((((rdOf ByteArray.empty y108 a0_0) ++ (⟨#[32]⟩ : ByteArray)) ++ t112) ++ (⟨#[32]⟩ : ByteArray)) ++ t113) ++ (⟨#[32]⟩ : ByteArray)).size + t114.size ≤ 9223372036854775807 then (some (((((((rdOf ByteArray.empty y108 a0_0) ++ (⟨#[32]⟩ : ByteArray)) ++ t112) ++ (⟨#[32]⟩ : ByteArray)) ++ t113) ++ (⟨#[32]⟩ : ByteArray)) ++ t114, true)) else (none))) else (none)) else (some (((((rdOf ByteArray.empty y108 a0_0) ++ (⟨#[32]⟩ : ByteArray)) ++ t112) ++ (⟨#[32]⟩ : ByteArray)) ++ t113, true))) else (none))) else (none)) else (if a0_0 = 1 then (if (((rdOf ByteArray.empty y108 a0_0) ++ (⟨#[32]⟩ : ByteArray)) ++ t112).size + 1 ≤ 9223372036854775807 then ((spec_FormatInt.f k a0_3).bind fun t115 => (if ((((rdOf ByteArray.empty y108 a0_0) ++ (⟨#[32]⟩ : ByteArray)) ++ t112) ++ (⟨#[32]⟩ : ByteArray)).size + t115.size ≤ 9223372036854775807 then (some (((((rdOf ByteArray.empty y108 a0_0) ++ (⟨#[32]⟩ : ByteArray)) ++ t112) ++ (⟨#[32]⟩ : ByteArray)) ++ t115, true)) else (none))) else (none)) else (some (((rdOf ByteArray.empty y108 a0_0) ++ (⟨#[32]⟩ : ByteArray)) ++ t112, true)))) else (none)) = some (r1, r2) := H
          have A7 := Aside0.mk A70
          clear A70
          by_cases c8 : ((rdOf ByteArray.empty y108 a0_0) ++ (⟨#[32]⟩ : ByteArray)).size + t112.size ≤ 9223372036854775807
          · rw [if_pos c8] at H
            have c8b0 := eq_true c8
            have c8b1 : decide (((rdOf ByteArray.empty y108 a0_0) ++ (⟨#[32]⟩ : ByteArray)).size + t112.size ≤ 9223372036854775807) = true := decide_eq_true c8
            try have c8b2 : (9223372036854775807 < ((rdOf ByteArray.empty y108 a0_0) ++ (⟨#[32]⟩ : ByteArray)).size + t112.size) = False := eq_false (Nat.not_lt.2 c8)
            try have c8b3 := c8
            try simp only [ByteArray.size_append, show (⟨#[32]⟩ : ByteArray).size = 1 from rfl] at c8b3
            by_cases c9 : a0_0 ≤ 2
            · rw [if_pos c9] at H
              have c9b0 : decide (a0_0 ≤ 2) = true := decide_eq_true c9
              clear c9
              by_cases c10 : (((rdOf ByteArray.empty y108 a0_0) ++ (⟨#[32]⟩ : ByteArray)) ++ t112).size + 1 ≤ 9223372036854775807
              · rw [if_pos c10] at H
                have c10b0 := eq_true c10
                have c10b1 : decide ((((rdOf ByteArray.empty y108 a0_0) ++ (⟨#[32]⟩ : ByteArray)) ++ t112).size + 1 ≤ 9223372036854775807) = true := decide_eq_true c10
                try have c10b2 : (9223372036854775807 < (((rdOf ByteArray.empty y108 a0_0) ++ (⟨#[32]⟩ : ByteArray)) ++ t112).size + 1) = False := eq_false (Nat.not_lt.2 c10)
                try have c10b3 := c10
                try simp only [ByteArray.size_append, show (⟨#[32]⟩ : ByteArray).size = 1 from rfl] at c10b3
                replace H := Option.bind_eq_some_iff.mp H
                obtain ⟨t113, A110, H⟩ := H
                replace H : (if ((((rdOf ByteArray.empty y108 a0_0) ++ (⟨#[32]⟩ : ByteArray)) ++ t112) ++ (⟨#[32]⟩ : ByteArray)).size + t113.size ≤ 9223372036854775807 then (if a0_0 = 1 then (if (((((rdOf ByteArray.empty y108 a0_0) ++ (⟨#[32]⟩ : ByteArray)) ++ t112) ++ (⟨#[32]⟩ : ByteArray)) ++ t113).size + 1 ≤ 9223372036854775807 then ((spec_FormatInt.f k a0_3).bind fun t114 => (if ((((((rdOf ByteArray.empty y108 a0_0) ++ (⟨#[32]⟩ : ByteArray)) ++ t112) ++ (⟨#[32]⟩ : ByteArray)) ++ t113) ++ (⟨#[32]⟩ : ByteArray)).size + t114.size ≤ 9223372036854775807 then (some (((((((rdOf ByteArray.empty y108 a0_0) ++ (⟨#[32]⟩ : ByteArray)) ++ t112) ++ (⟨#[32]⟩ : ByteArray)) ++ t113) ++ (⟨#[32]⟩ : ByteArray)) ++ t114, true)) else (none))) else (none)) else (some (((((rdOf ByteArray.empty y108 a0_0) ++ (⟨#[32]⟩ : ByteArray)) ++ t112) ++ (⟨#[32]⟩ : ByteArray)) ++ t113, true))) else (none)) = some (r1, r2) := H
                have A11 := Aside0.mk A110
                clear A110
                by_cases c12 : ((((rdOf ByteArray.empty y108 a0_0) ++ (⟨#[32]⟩ : ByteArray)) ++ t112) ++ (⟨#[32]⟩ : ByteArray)).size + t113.size ≤ 9223372036854775807
                · rw [if_pos c12] at H
                  have c12b0 := eq_true c12
                  have c12b1 : decide (((((rdOf ByteArray.empty y108 a0_0) ++ (⟨#[32]⟩ : ByteArray)) ++ t112) ++ (⟨#[32]⟩ : ByteArray)).size + t113.size ≤ 9223372036854775807) = true := decide_eq_true c12
                  try have c12b2 : (9223372036854775807 < ((((rdOf ByteArray.empty y108 a0_0) ++ (⟨#[32]⟩ : ByteArray)) ++ t112) ++ (⟨#[32]⟩ : ByteArray)).size + t113.size) = False := eq_false (Nat.not_lt.2 c12)
                  try have c12b3 := c12
                  try simp only [ByteArray.size_append, show (⟨#[32]⟩ : ByteArray).size = 1 from rfl] at c12b3
                  by_cases c13 : a0_0 = 1
                  · rw [if_pos c13] at H
                    have c13b0 : (a0_0 == 1) = true := beq_iff_eq.mpr c13
                    have c13b1 : (a0_0 != 1) = false := bne_eq_false_iff_eq.mpr c13
                    clear c13
                    by_cases c14 : (((((rdOf ByteArray.empty y108 a0_0) ++ (⟨#[32]⟩ : ByteArray)) ++ t112) ++ (⟨#[32]⟩ : ByteArray)) ++ t113).size + 1 ≤ 9223372036854775807
                    · rw [if_pos c14] at H
                      have c14b0 := eq_true c14
                      have c14b1 : decide ((((((rdOf ByteArray.empty y108 a0_0) ++ (⟨#[32]⟩ : ByteArray)) ++ t112) ++ (⟨#[32]⟩ : ByteArray)) ++ t113).size + 1 ≤ 9223372036854775807) = true := decide_eq_true c14
                      try have c14b2 : (9223372036854775807 < (((((rdOf ByteArray.empty y108 a0_0) ++ (⟨#[32]⟩ : ByteArray)) ++ t112) ++ (⟨#[32]⟩ : ByteArray)) ++ t113).size + 1) = False := eq_false (Nat.not_lt.2 c14)
                      try have c14b3 := c14
                      try simp only [ByteArray.size_append, show (⟨#[32]⟩ : ByteArray).size = 1 from rfl] at c14b3
                      replace H := Option.bind_eq_some_iff.mp H
                      obtain ⟨t114, A150, H⟩ := H
                      replace H : (if ((((((rdOf ByteArray.empty y108 a0_0) ++ (⟨#[32]⟩ : ByteArray)) ++ t112) ++ (⟨#[32]⟩ : ByteArray)) ++ t113) ++ (⟨#[32]⟩ : ByteArray)).size + t114.size ≤ 9223372036854775807 then (some (((((((rdOf ByteArray.empty y108 a0_0) ++ (⟨#[32]⟩ : ByteArray)) ++ t112) ++ (⟨#[32]⟩ : ByteArray)) ++ t113) ++ (⟨#[32]⟩ : ByteArray)) ++ t114, true)) else (none)) = some (r1, r2) := H
                      have A15 := Aside0.mk A150
                      clear A150
                      by_cases c16 : ((((((rdOf ByteArray.empty y108 a0_0) ++ (⟨#[32]⟩ : ByteArray)) ++ t112) ++ (⟨#[32]⟩ : ByteArray)) ++ t113) ++ (⟨#[32]⟩ : ByteArray)).size + t114.size ≤ 9223372036854775807
                      · rw [if_pos c16] at H
                        have c16b0 := eq_true c16
                        have c16b1 : decide (((((((rdOf ByteArray.empty y108 a0_0) ++ (⟨#[32]⟩ : ByteArray)) ++ t112) ++ (⟨#[32]⟩ : ByteArray)) ++ t113) ++ (⟨#[32]⟩ : ByteArray)).size + t114.size ≤ 9223372036854775807) = true := decide_eq_true c16
                        try have c16b2 : (9223372036854775807 < ((((((rdOf ByteArray.empty y108 a0_0) ++ (⟨#[32]⟩ : ByteArray)) ++ t112) ++ (⟨#[32]⟩ : ByteArray)) ++ t113) ++ (⟨#[32]⟩ : ByteArray)).size + t114.size) = False := eq_false (Nat.not_lt.2 c16)
                        try have c16b3 := c16
                        try simp only [ByteArray.size_append, show (⟨#[32]⟩ : ByteArray).size = 1 from rfl] at c16b3
                        simp only [Option.some.injEq, Prod.mk.injEq] at H
                        obtain ⟨rfl, rfl⟩ := H
                        go_enter Tryd.func7, Tryd.ntmps7
                        try go_wp2_with (first | ((with_reducible refine gate_dst (N := 1) rfl ?_); refine box_event ?hg (N := 1) ?hd (cs := #[.int .i64 a0_0, .int .i64 a0_1, .int .i64 a0_2, .int .i64 a0_3]) (t := 26) ?hr ?_; (case hd => rfl); (case hg => rfl); (case hr => first | (go_simp; done) | (go_simp; rfl)); intro gb106 hg w17 hbox hb; have n0_ := Aside0.mk (below_step (by repeat (first | (with_reducible first | exact HB.out | apply below_alloc | apply pw_below_drewN | apply below_drew1) | exact HB.out)) hb); have n1_ := Aside0.mk (hbox); have n2_ := Aside0.mk ((by rw [hg]; exact (below_size (by repeat (first | (with_reducible first | exact HB.out | apply below_alloc | apply pw_below_drewN | apply below_drew1) | exact HB.out))) : w.heap.size ≤ gb106)); have n3_ := Aside0.mk ((by rw [hg]; exact (below_size (by repeat (first | (with_reducible first | exact HB.out | apply below_alloc | apply pw_below_drewN | apply below_drew1) | exact HB.out))) : w.heap.size ≤ gb106)); clear HB; have HB := n0_; have BK106 := n1_; have GW106 := n2_; have GE106 := n3_; clear n0_ n1_ n2_ n3_; clear hb hbox hg; have hcz18_0 : w17.cell? ⟨gb106, 0, none⟩ = some (.int .i64 a0_0) := (blk_cell BK106.out 0).trans rfl; have hcz18_1 : w17.cell? ⟨gb106, 1, none⟩ = some (.int .i64 a0_1) := (blk_cell BK106.out 1).trans rfl; have hcz18_2 : w17.cell? ⟨gb106, 2, none⟩ = some (.int .i64 a0_2) := (blk_cell BK106.out 2).trans rfl; have hcz18_3 : w17.cell? ⟨gb106, 3, none⟩ = some (.int .i64 a0_3) := (blk_cell BK106.out 3).trans rfl; have hfz18_0 := blk_frozen BK106.out 0; have hfz18_1 := blk_frozen BK106.out 1; have hfz18_2 := blk_frozen BK106.out 2; have hfz18_3 := blk_frozen BK106.out 3) | ((with_reducible refine gate_callee (f := 20) rfl ?_); refine goesL_ (some 6) rfl rfl Tryd.func20 (by kernel_rfl) rfl #[.agg #[.int .i64 a0_0, .int .i64 a0_1, .int .i64 a0_2, .int .i64 a0_3]] rfl (by (try simp only [List.map_toArray, List.map_cons, List.map_nil]); first | done | rfl | (simp only [List.length_drop, List.length_take]; rfl)) ?_; (with_reducible refine (spec_ActOk.calls a0_0 a0_1 a0_2 a0_3 true _ A2.out).mono ?_); rintro e w19 ⟨rfl, hb⟩; refine ⟨_, rfl, ?_⟩; have n0_ := Aside0.mk (blk_below (g := gb106) (o := .cells #[.int .i64 a0_0, .int .i64 a0_1, .int .i64 a0_2, .int .i64 a0_3] 26 (0, 0)) (by (with_reducible repeat (first | refine blk_drewN ?_ _ | refine blk_drew ?_ | refine blk_alloc ?_ _)); exact BK106.out) hb); have n1_ := Aside0.mk (below_step (by repeat (first | (with_reducible first | exact HB.out | apply below_alloc | apply pw_below_drewN | apply below_drew1 | refine below_set ?_ GE106.out) | exact HB.out)) hb); clear BK106; clear HB; have BK106 := n0_; have HB := n1_; clear n0_ n1_; (try clear hb); (try clear hb2); (try clear hk); (try clear hi)))
                        have pi111 : (0 ≤ (a0_0 : Int)) = True := eq_true (of_decide_eq_true (by first | (with_reducible assumption) | assumption))
                        have qi111 : (a0_0 < (y108.length : Int)) = True := eq_true (of_decide_eq_true (by first | (with_reducible assumption) | assumption))
                        have n0_ := Aside0.mk (blk_drew BK106.out)
                        have n1_ := Aside0.mk (below_drew1 HB.out)
                        clear BK106
                        clear HB
                        have BK106 := n0_
                        have HB := n1_
                        clear n0_ n1_
                        refine start_ (n := 11) (S := fun w' => True) (ds := []) #[false, false, false, false, false, false, false, false, false, false, false] (by kernel_rfl) rfl rfl trivial (fun hHeld => ?_); refine with_tabW spec_FormatAct.tab3 spec_FormatAct.bits3 (fun HT_ HW_ => ?_)
                        generalize w19.drew = w20 at BK106 HB hHeld ⊢
                        refine pure_ (i := 1) (N := some 9) (v := ?_) (a' := ?_) #[false, true, false, false, false, false, false, false, false, false, false] rfl rfl (any_of HT_.out (by kernel_rfl)) (fun _ _ _ h => h) (Or.inl ⟨by rfl, ?_⟩) ?_ ?_
                        rotate_left
                        · intro w'
                          go_simp
                          with_reducible rfl
                        rotate_left
                        · simp only [Act.put, List.setIfInBounds_toArray, List.set_cons_zero, List.set_cons_succ, i64_w, i32_w]
                          rfl
                        refine pure_ (i := 6) (N := some 14) (v := ?_) (a' := ?_) #[false, true, false, false, false, false, true, false, false, false, false] rfl rfl (any_of HT_.out (by kernel_rfl)) (fun _ _ _ h => h) (Or.inl ⟨by rfl, ?_⟩) ?_ ?_
                        rotate_left
                        · intro w'
                          go_simp
                          with_reducible rfl
                        rotate_left
                        · simp only [Act.put, List.setIfInBounds_toArray, List.set_cons_zero, List.set_cons_succ, i64_w, i32_w]
                          rfl
                        refine inv_at [0, 2, 3, 4, 5, 7, 8, 9, 10] (fun a0_ b a w' => ∃ (v109 : Value) (adz_v109 : Addr) (m3_ : Value), a = putSel a0_ b [(0, 8, v109), (2, 10, .int .i64 a0_0), (3, 11, m3_), (4, 12, .string (rdOf ByteArray.empty y108 a0_0)), (5, 13, .string ((rdOf ByteArray.empty y108 a0_0) ++ (⟨#[32]⟩ : ByteArray))), (7, 15, .int .i64 a0_1), (8, 16, .string t112), (9, 17, .string (((rdOf ByteArray.empty y108 a0_0) ++ (⟨#[32]⟩ : ByteArray)) ++ t112)), (10, 4, .string (((rdOf ByteArray.empty y108 a0_0) ++ (⟨#[32]⟩ : ByteArray)) ++ t112))] ∧ (w'.heap[gb106]? = some (.cells #[.int .i64 a0_0, .int .i64 a0_1, .int .i64 a0_2, .int .i64 a0_3] 26 (0, 0))) ∧ (Below w.heap.size w w') ∧ (b 0 = true → Kd.R Kd.string 9 w' w.heap.size (fun _ => True) v109 y108) ∧ (b 0 = true → ∃ c_, (v109 : Value) = .slice (some adz_v109) y108.length c_) ∧ (b 3 = true → (m3_ : Value) = .pointer (some (adz_v109.add (a0_0).toNat)))) HT_.out HW_.out (by kernel_rfl) (by kernel_rfl) ?_ ?_ ?_
                        · exact ⟨.bool false, ⟨0, 0, none⟩, .bool false, by simp only [putSel, Bool.false_eq_true, if_false], BK106.out, HB.out, fun h_ => absurd h_ (by decide), fun h_ => absurd h_ (by decide), fun h_ => absurd h_ (by decide)⟩
                        · skip
                          clear BK106 HB
                          refine steps_cons ?_ ?_
                          · rintro b a w' ⟨v109, adz_v109, m3_, ha, Q_BK106, Q_HB, Q_HO110, Q_HA_HO110, Q_X3_⟩ hb_ hon hoff
                            refine ⟨_, rfl, fun K hK => ?_⟩
                            replace ha := Aside0.mk ha
                            have BK106 := Aside0.mk Q_BK106
                            have HB := Aside0.mk Q_HB
                            refine Kd.R_lit_step Kd.string _ 9 ?hg (N := 8) ?hd (xs := ([(⟨#[]⟩ : ByteArray), (⟨#[119, 114, 105, 116, 101]⟩ : ByteArray), (⟨#[114, 101, 97, 100]⟩ : ByteArray), (⟨#[99, 117, 116]⟩ : ByteArray), (⟨#[111, 112, 101, 110]⟩ : ByteArray)] : List ByteArray)) (inner := [.string (⟨#[]⟩ : ByteArray), .string (⟨#[119, 114, 105, 116, 101]⟩ : ByteArray), .string (⟨#[114, 101, 97, 100]⟩ : ByteArray), .string (⟨#[99, 117, 116]⟩ : ByteArray), .string (⟨#[111, 112, 101, 110]⟩ : ByteArray)]) (ok := fun _ => True) (okp := fun _ => True) ?hr ?hp (fun _ hk => hk) trivial (Below.refl _ _) (Nat.le_refl _) (by simp) ?_; (case hd => rfl); (case hg => rfl); (case hr => first | (go_simp; done) | (go_simp; rfl)); (case hp => exact (Reps.one (show Kd.M Kd.string _ _ _ (⟨#[]⟩ : ByteArray) [.string (⟨#[]⟩ : ByteArray)] from rfl) (Reps.one (show Kd.M Kd.string _ _ _ (⟨#[119, 114, 105, 116, 101]⟩ : ByteArray) [.string (⟨#[119, 114, 105, 116, 101]⟩ : ByteArray)] from rfl) (Reps.one (show Kd.M Kd.string _ _ _ (⟨#[114, 101, 97, 100]⟩ : ByteArray) [.string (⟨#[114, 101, 97, 100]⟩ : ByteArray)] from rfl) (Reps.one (show Kd.M Kd.string _ _ _ (⟨#[99, 117, 116]⟩ : ByteArray) [.string (⟨#[99, 117, 116]⟩ : ByteArray)] from rfl) (Reps.one (show Kd.M Kd.string _ _ _ (⟨#[111, 112, 101, 110]⟩ : ByteArray) [.string (⟨#[111, 112, 101, 110]⟩ : ByteArray)] from rfl) (Reps.none _ _)))))))
                            intro v109 w21 ho22 hb hg_ hnew_
                            clear hg_ hnew_
                            (first | rw [← Ny108.out] at ho22 | (simp only [Int.reduceToNat] at ho22; rw [← Ny108.out] at ho22))
                            have n0_ := Aside0.mk (Kd.R_lower ho22 (below_size (by repeat (first | (with_reducible first | exact HB.out | apply below_alloc | apply pw_below_drewN | apply below_drew1 | refine below_set ?_ GE106.out) | exact HB.out))))
                            have n1_ := Aside0.mk (blk_below (g := gb106) (o := .cells #[.int .i64 a0_0, .int .i64 a0_1, .int .i64 a0_2, .int .i64 a0_3] 26 (0, 0)) (by (with_reducible repeat (first | refine blk_drewN ?_ _ | refine blk_drew ?_ | refine blk_alloc ?_ _)); exact BK106.out) hb)
                            have n2_ := Aside0.mk (below_step (by repeat (first | (with_reducible first | exact HB.out | apply below_alloc | apply pw_below_drewN | apply below_drew1 | refine below_set ?_ GE106.out) | exact HB.out)) hb)
                            clear BK106
                            clear HB
                            have HO110 := n0_
                            have BK106 := n1_
                            have HB := n2_
                            clear n0_ n1_ n2_
                            clear hb ho22
                            obtain ⟨Ao23, co23, eo23⟩ := Kd.R_slice HO110.out
                            subst eo23
                            obtain ⟨ado23, fo23, _⟩ := Kd.at_string (Kd.R_reads' HO110.out).2.2 0 (by decide) (by rw [Ny108.out]; simp)
                            cases fo23
                            refine hK.out _ _ ⟨.slice (some ado23) y108.length co23, ado23, m3_, (by rw [ha.out]; exact putSel_upk 0 hb_ rfl rfl rfl), (by (with_reducible repeat (first | refine blk_drewN ?_ _ | refine blk_drew ?_ | refine blk_alloc ?_ _)); exact BK106.out), (by repeat (first | (with_reducible first | exact HB.out | apply below_alloc | apply pw_below_drewN | apply below_drew1 | refine below_set ?_ GE106.out) | exact HB.out)), fun _ => (by (with_reducible repeat (first | apply Kd.R_alloc | apply Kd.R_drewN | apply Kd.R_drew)); exact HO110.out), fun _ => ⟨_, rfl⟩, fun h0_ => absurd ((hoff 3 (by kernel_rfl)).symm.trans h0_) (by decide)⟩
                          refine steps_cons ?_ ?_
                          · rintro b a w' ⟨v109, adz_v109, m3_, ha, Q_BK106, Q_HB, Q_HO110, Q_HA_HO110, Q_X3_⟩ hb_ hon hoff
                            refine ⟨_, rfl, fun K hK => ?_⟩
                            have e9 : a.tmps[9]? = some (.pointer (some ⟨gb106, 0, none⟩)) := by rw [ha]; exact (putSel_off rfl).trans rfl
                            replace ha := Aside0.mk ha
                            have BK106 := Aside0.mk Q_BK106
                            have HB := Aside0.mk Q_HB
                            have hc0_ : w'.cell? ⟨gb106, 0, none⟩ = some (.int .i64 a0_0) := (blk_cell BK106.out 0).trans rfl
                            have hc1_ : w'.cell? ⟨gb106, 1, none⟩ = some (.int .i64 a0_1) := (blk_cell BK106.out 1).trans rfl
                            have hc2_ : w'.cell? ⟨gb106, 2, none⟩ = some (.int .i64 a0_2) := (blk_cell BK106.out 2).trans rfl
                            have hc3_ : w'.cell? ⟨gb106, 3, none⟩ = some (.int .i64 a0_3) := (blk_cell BK106.out 3).trans rfl
                            refine value_ (w1 := w') (v := .int .i64 a0_0) (by rfl) rfl ?_ ?_
                            · go_simp
                              (try simp only [i64_w])
                              try rfl
                            refine hK.out _ _ ⟨v109, adz_v109, m3_, (by rw [ha.out]; exact putSel_upk 1 hb_ rfl rfl rfl), Q_BK106, Q_HB, Q_HO110, Q_HA_HO110, fun h0_ => absurd ((hoff 3 (by kernel_rfl)).symm.trans h0_) (by decide)⟩
                          refine steps_cons ?_ ?_
                          · rintro b a w' ⟨v109, adz_v109, m3_, ha, Q_BK106, Q_HB, Q_HO110, Q_HA_HO110, Q_X3_⟩ hb_ hon hoff
                            refine ⟨_, rfl, fun K hK => ?_⟩
                            have e8 : a.tmps[8]? = some (v109) := by rw [ha]; exact putSel_on (e := (0, 8, v109)) 0 rfl rfl (hon 0 (by kernel_rfl)) rfl
                            have e10 : a.tmps[10]? = some (.int .i64 a0_0) := by rw [ha]; exact putSel_on (e := (2, 10, .int .i64 a0_0)) 1 rfl rfl (hon 2 (by kernel_rfl)) rfl
                            replace ha := Aside0.mk ha
                            have BK106 := Aside0.mk Q_BK106
                            have HB := Aside0.mk Q_HB
                            have HO110 := Aside0.mk (Q_HO110 (hon 0 (by kernel_rfl)))
                            have HA_HO110 := Aside0.mk (Q_HA_HO110 (hon 0 (by kernel_rfl)))
                            obtain ⟨c_, hv_⟩ := HA_HO110.out
                            rw [hv_] at e8
                            refine value_ (w1 := w') (v := .pointer (some (adz_v109.add (a0_0).toNat))) (by rfl) rfl ?_ ?_
                            · go_simp
                              (try simp only [i64_w])
                              try rfl
                            refine hK.out _ _ ⟨v109, adz_v109, (.pointer (some (adz_v109.add (a0_0).toNat))), (by rw [ha.out]; exact putSel_upk 2 hb_ rfl rfl rfl), Q_BK106, Q_HB, Q_HO110, Q_HA_HO110, fun _ => rfl⟩
                          refine steps_cons ?_ ?_
                          · rintro b a w' ⟨v109, adz_v109, m3_, ha, Q_BK106, Q_HB, Q_HO110, Q_HA_HO110, Q_X3_⟩ hb_ hon hoff
                            refine ⟨_, rfl, fun K hK => ?_⟩
                            have e11 : a.tmps[11]? = some (m3_) := by rw [ha]; exact putSel_on (e := (3, 11, m3_)) 2 rfl rfl (hon 3 (by kernel_rfl)) rfl
                            rw [Q_X3_ (hon 3 (by kernel_rfl))] at e11
                            replace ha := Aside0.mk ha
                            have BK106 := Aside0.mk Q_BK106
                            have HB := Aside0.mk Q_HB
                            have HO110 := Aside0.mk (Q_HO110 (hon 0 (by kernel_rfl)))
                            have HA_HO110 := Aside0.mk (Q_HA_HO110 (hon 0 (by kernel_rfl)))
                            obtain ⟨c_, hv_⟩ := HA_HO110.out
                            have hF_ := HO110.out
                            rw [hv_] at hF_
                            obtain ⟨ad_, ea_, hx_⟩ := Kd.at_string (Kd.R_reads' hF_).2.2 a0_0 (of_eq_true pi111) (of_eq_true qi111)
                            cases ea_
                            refine value_ (w1 := w') (v := .string (rdOf ByteArray.empty y108 a0_0)) (by rfl) rfl ?_ ?_
                            · go_simp
                              (try simp only [i64_w])
                              try rfl
                            refine hK.out _ _ ⟨v109, adz_v109, m3_, (by rw [ha.out]; exact putSel_upk 3 hb_ rfl rfl rfl), Q_BK106, Q_HB, Q_HO110, Q_HA_HO110, Q_X3_⟩
                          refine steps_cons ?_ ?_
                          · rintro b a w' ⟨v109, adz_v109, m3_, ha, Q_BK106, Q_HB, Q_HO110, Q_HA_HO110, Q_X3_⟩ hb_ hon hoff
                            refine ⟨_, rfl, fun K hK => ?_⟩
                            have e12 : a.tmps[12]? = some (.string (rdOf ByteArray.empty y108 a0_0)) := by rw [ha]; exact putSel_on (e := (4, 12, .string (rdOf ByteArray.empty y108 a0_0))) 3 rfl rfl (hon 4 (by kernel_rfl)) rfl
                            replace ha := Aside0.mk ha
                            have BK106 := Aside0.mk Q_BK106
                            have HB := Aside0.mk Q_HB
                            have HO110 := Aside0.mk (Q_HO110 (hon 0 (by kernel_rfl)))
                            have HA_HO110 := Aside0.mk (Q_HA_HO110 (hon 0 (by kernel_rfl)))
                            refine value_ (w1 := w') (v := .string ((rdOf ByteArray.empty y108 a0_0) ++ (⟨#[32]⟩ : ByteArray))) (by rfl) rfl ?_ ?_
                            · go_simp
                              (try simp only [i64_w])
                              try rfl
                            refine hK.out _ _ ⟨v109, adz_v109, m3_, (by rw [ha.out]; exact putSel_upk 4 hb_ rfl rfl rfl), Q_BK106, Q_HB, Q_HO110, Q_HA_HO110, Q_X3_⟩
                          refine steps_cons ?_ ?_
                          · rintro b a w' ⟨v109, adz_v109, m3_, ha, Q_BK106, Q_HB, Q_HO110, Q_HA_HO110, Q_X3_⟩ hb_ hon hoff
                            refine ⟨_, rfl, fun K hK => ?_⟩
                            have e14 : a.tmps[14]? = some (.pointer (some ⟨gb106, 1, none⟩)) := by rw [ha]; exact (putSel_off rfl).trans rfl
                            replace ha := Aside0.mk ha
                            have BK106 := Aside0.mk Q_BK106
                            have HB := Aside0.mk Q_HB
                            have hc0_ : w'.cell? ⟨gb106, 0, none⟩ = some (.int .i64 a0_0) := (blk_cell BK106.out 0).trans rfl
                            have hc1_ : w'.cell? ⟨gb106, 1, none⟩ = some (.int .i64 a0_1) := (blk_cell BK106.out 1).trans rfl
                            have hc2_ : w'.cell? ⟨gb106, 2, none⟩ = some (.int .i64 a0_2) := (blk_cell BK106.out 2).trans rfl
                            have hc3_ : w'.cell? ⟨gb106, 3, none⟩ = some (.int .i64 a0_3) := (blk_cell BK106.out 3).trans rfl
                            refine value_ (w1 := w') (v := .int .i64 a0_1) (by rfl) rfl ?_ ?_
                            · go_simp
                              (try simp only [i64_w])
                              try rfl
                            refine hK.out _ _ ⟨v109, adz_v109, m3_, (by rw [ha.out]; exact putSel_upk 5 hb_ rfl rfl rfl), Q_BK106, Q_HB, Q_HO110, Q_HA_HO110, Q_X3_⟩
                          refine steps_cons ?_ ?_
                          · rintro b a w' ⟨v109, adz_v109, m3_, ha, Q_BK106, Q_HB, Q_HO110, Q_HA_HO110, Q_X3_⟩ hb_ hon hoff
                            refine ⟨_, rfl, fun K hK => ?_⟩
                            have e15 : a.tmps[15]? = some (.int .i64 a0_1) := by rw [ha]; exact putSel_on (e := (7, 15, .int .i64 a0_1)) 5 rfl rfl (hon 7 (by kernel_rfl)) rfl
                            replace ha := Aside0.mk ha
                            have BK106 := Aside0.mk Q_BK106
                            have HB := Aside0.mk Q_HB
                            refine goes_ Tryd.func21 (by kernel_rfl) rfl #[.int .i64 a0_1] (by rfl) rfl rfl (by first | (simp only [List.map_toArray, List.map_cons, List.map_nil, Act.eval, Array.getD_eq_getD_getElem?, Option.getD_some, e15]; done) | (simp only [List.map_toArray, List.map_cons, List.map_nil, Act.eval, Array.getD_eq_getD_getElem?, Option.getD_some, e15]; rfl)) ?_
                            with_reducible refine (spec_FormatInt.calls k a0_1 t112 _ A7.out).mono ?_
                            rintro e w21 ⟨rfl, hb⟩
                            refine ⟨_, rfl, ?_⟩
                            have n0_ := Aside0.mk (blk_below (g := gb106) (o := .cells #[.int .i64 a0_0, .int .i64 a0_1, .int .i64 a0_2, .int .i64 a0_3] 26 (0, 0)) (by (with_reducible repeat (first | refine blk_drewN ?_ _ | refine blk_drew ?_ | refine blk_alloc ?_ _)); exact BK106.out) hb)
                            have n1_ := Aside0.mk (below_step (by repeat (first | (with_reducible first | exact HB.out | apply below_alloc | apply pw_below_drewN | apply below_drew1 | refine below_set ?_ GE106.out) | exact HB.out)) hb)
                            have z_HO110 := fun (h0_ : b 0 = true) => (show Kd.R Kd.string 9 w21 w.heap.size (fun _ => True) v109 y108 from by first | exact (Kd.R_below (by (with_reducible repeat (first | apply Kd.R_alloc | apply Kd.R_drewN | apply Kd.R_drew)); exact (Q_HO110 h0_)) hb) | exact Kd.R_mono (Kd.R_below (by (with_reducible repeat (first | apply Kd.R_alloc | apply Kd.R_drewN | apply Kd.R_drew)); exact (Q_HO110 h0_)) hb) (fun _ h_ => by first | trivial | exact h_ | exact h_.1))
                            clear BK106
                            clear HB
                            have BK106 := n0_
                            have HB := n1_
                            clear n0_ n1_
                            (try clear hb)
                            (try clear hb2)
                            (try clear hk)
                            (try clear hi)
                            refine hK.out _ _ ⟨v109, adz_v109, m3_, (by rw [ha.out]; exact putSel_upk 6 hb_ rfl rfl rfl), (by (with_reducible repeat (first | refine blk_drewN ?_ _ | refine blk_drew ?_ | refine blk_alloc ?_ _)); exact BK106.out), (by repeat (first | (with_reducible first | exact HB.out | apply below_alloc | apply pw_below_drewN | apply below_drew1 | refine below_set ?_ GE106.out) | exact HB.out)), z_HO110, Q_HA_HO110, Q_X3_⟩
                          refine steps_cons ?_ ?_
                          · rintro b a w' ⟨v109, adz_v109, m3_, ha, Q_BK106, Q_HB, Q_HO110, Q_HA_HO110, Q_X3_⟩ hb_ hon hoff
                            refine ⟨_, rfl, fun K hK => ?_⟩
                            have e13 : a.tmps[13]? = some (.string ((rdOf ByteArray.empty y108 a0_0) ++ (⟨#[32]⟩ : ByteArray))) := by rw [ha]; exact putSel_on (e := (5, 13, .string ((rdOf ByteArray.empty y108 a0_0) ++ (⟨#[32]⟩ : ByteArray)))) 4 rfl rfl (hon 5 (by kernel_rfl)) rfl
                            have e16 : a.tmps[16]? = some (.string t112) := by rw [ha]; exact putSel_on (e := (8, 16, .string t112)) 6 rfl rfl (hon 8 (by kernel_rfl)) rfl
                            replace ha := Aside0.mk ha
                            have BK106 := Aside0.mk Q_BK106
                            have HB := Aside0.mk Q_HB
                            have HO110 := Aside0.mk (Q_HO110 (hon 0 (by kernel_rfl)))
                            have HA_HO110 := Aside0.mk (Q_HA_HO110 (hon 0 (by kernel_rfl)))
                            refine value_ (w1 := w') (v := .string (((rdOf ByteArray.empty y108 a0_0) ++ (⟨#[32]⟩ : ByteArray)) ++ t112)) (by rfl) rfl ?_ ?_
                            · go_simp
                              (try simp only [i64_w])
                              try rfl
                            refine hK.out _ _ ⟨v109, adz_v109, m3_, (by rw [ha.out]; exact putSel_upk 7 hb_ rfl rfl rfl), Q_BK106, Q_HB, Q_HO110, Q_HA_HO110, Q_X3_⟩
                          refine steps_cons ?_ ?_
                          · rintro b a w' ⟨v109, adz_v109, m3_, ha, Q_BK106, Q_HB, Q_HO110, Q_HA_HO110, Q_X3_⟩ hb_ hon hoff
                            refine ⟨_, rfl, fun K hK => ?_⟩
                            have e17 : a.tmps[17]? = some (.string (((rdOf ByteArray.empty y108 a0_0) ++ (⟨#[32]⟩ : ByteArray)) ++ t112)) := by rw [ha]; exact putSel_on (e := (9, 17, .string (((rdOf ByteArray.empty y108 a0_0) ++ (⟨#[32]⟩ : ByteArray)) ++ t112))) 7 rfl rfl (hon 9 (by kernel_rfl)) rfl
                            replace ha := Aside0.mk ha
                            have BK106 := Aside0.mk Q_BK106
                            have HB := Aside0.mk Q_HB
                            have HO110 := Aside0.mk (Q_HO110 (hon 0 (by kernel_rfl)))
                            have HA_HO110 := Aside0.mk (Q_HA_HO110 (hon 0 (by kernel_rfl)))
                            refine value_ (w1 := w') (v := .string (((rdOf ByteArray.empty y108 a0_0) ++ (⟨#[32]⟩ : ByteArray)) ++ t112)) (by rfl) rfl ?_ ?_
                            · go_simp
                              (try simp only [i64_w])
                              try rfl
                            refine hK.out _ _ ⟨v109, adz_v109, m3_, (by rw [ha.out]; exact putSel_upk 8 hb_ rfl rfl rfl), Q_BK106, Q_HB, Q_HO110, Q_HA_HO110, Q_X3_⟩
                          exact steps_nil
                        rintro b a w25 hall ⟨v109, adz_v109, m3_, ha, Q_BK106, Q_HB, Q_HO110, Q_HA_HO110, Q_X3_⟩
                        clear BK106 HB
                        have hb0_ := hall 0 (by kernel_rfl)
                        have hb2_ := hall 2 (by kernel_rfl)
                        have hb3_ := hall 3 (by kernel_rfl)
                        have hb4_ := hall 4 (by kernel_rfl)
                        have hb5_ := hall 5 (by kernel_rfl)
                        have hb7_ := hall 7 (by kernel_rfl)
                        have hb8_ := hall 8 (by kernel_rfl)
                        have hb9_ := hall 9 (by kernel_rfl)
                        have hb10_ := hall 10 (by kernel_rfl)
                        subst ha
                        obtain rfl := Q_X3_ hb3_
                        simp only [putSel, hb0_, hb2_, hb3_, hb4_, hb5_, hb7_, hb8_, hb9_, hb10_, if_true, Act.put, List.setIfInBounds_toArray, List.set_cons_zero, List.set_cons_succ]
                        have BK106 := Aside0.mk Q_BK106
                        clear Q_BK106
                        have HB := Aside0.mk Q_HB
                        clear Q_HB
                        have HO110 := Aside0.mk (Q_HO110 hb0_)
                        clear Q_HO110
                        have HA_HO110 := Aside0.mk (Q_HA_HO110 hb0_)
                        clear Q_HA_HO110
                        clear hall hb0_ hb2_ hb3_ hb4_ hb5_ hb7_ hb8_ hb9_ hb10_
                        obtain ⟨co26, eo26⟩ := HA_HO110.out
                        clear HA_HO110
                        subst eo26
                        have hcz27_0 : w25.cell? ⟨gb106, 0, none⟩ = some (.int .i64 a0_0) := (blk_cell BK106.out 0).trans rfl
                        have hcz27_1 : w25.cell? ⟨gb106, 1, none⟩ = some (.int .i64 a0_1) := (blk_cell BK106.out 1).trans rfl
                        have hcz27_2 : w25.cell? ⟨gb106, 2, none⟩ = some (.int .i64 a0_2) := (blk_cell BK106.out 2).trans rfl
                        have hcz27_3 : w25.cell? ⟨gb106, 3, none⟩ = some (.int .i64 a0_3) := (blk_cell BK106.out 3).trans rfl
                        have hfz27_0 := blk_frozen BK106.out 0
                        have hfz27_1 := blk_frozen BK106.out 1
                        have hfz27_2 := blk_frozen BK106.out 2
                        have hfz27_3 := blk_frozen BK106.out 3
                        try go_wp2_with (first | ((with_reducible refine gate_callee (f := 21) rfl ?_); refine goesL_ (some 25) rfl rfl Tryd.func21 (by kernel_rfl) rfl #[.int .i64 a0_2] rfl (by (try simp only [List.map_toArray, List.map_cons, List.map_nil]); first | done | rfl | (simp only [List.length_drop, List.length_take]; rfl)) ?_; (with_reducible refine (spec_FormatInt.calls k a0_2 t113 _ A11.out).mono ?_); rintro e w28 ⟨rfl, hb⟩; refine ⟨_, rfl, ?_⟩; have n0_ := Aside0.mk (Kd.R_below (by (with_reducible repeat (first | apply Kd.R_alloc | apply Kd.R_drewN | apply Kd.R_drew)); exact HO110.out) hb); have n1_ := Aside0.mk (blk_below (g := gb106) (o := .cells #[.int .i64 a0_0, .int .i64 a0_1, .int .i64 a0_2, .int .i64 a0_3] 26 (0, 0)) (by (with_reducible repeat (first | refine blk_drewN ?_ _ | refine blk_drew ?_ | refine blk_alloc ?_ _)); exact BK106.out) hb); have n2_ := Aside0.mk (below_step (by repeat (first | (with_reducible first | exact HB.out | apply below_alloc | apply pw_below_drewN | apply below_drew1 | refine below_set ?_ GE106.out) | exact HB.out)) hb); clear HO110; clear BK106; clear HB; have HO110 := n0_; have BK106 := n1_; have HB := n2_; clear n0_ n1_ n2_; (try clear hb); (try clear hb2); (try clear hk); (try clear hi); have hcz29_0 : w28.cell? ⟨gb106, 0, none⟩ = some (.int .i64 a0_0) := (blk_cell BK106.out 0).trans rfl; have hcz29_1 : w28.cell? ⟨gb106, 1, none⟩ = some (.int .i64 a0_1) := (blk_cell BK106.out 1).trans rfl; have hcz29_2 : w28.cell? ⟨gb106, 2, none⟩ = some (.int .i64 a0_2) := (blk_cell BK106.out 2).trans rfl; have hcz29_3 : w28.cell? ⟨gb106, 3, none⟩ = some (.int .i64 a0_3) := (blk_cell BK106.out 3).trans rfl; have hfz29_0 := blk_frozen BK106.out 0; have hfz29_1 := blk_frozen BK106.out 1; have hfz29_2 := blk_frozen BK106.out 2; have hfz29_3 := blk_frozen BK106.out 3) | ((with_reducible refine gate_callee (f := 21) rfl ?_); refine goesL_ (some 34) rfl rfl Tryd.func21 (by kernel_rfl) rfl #[.int .i64 a0_3] rfl (by (try simp only [List.map_toArray, List.map_cons, List.map_nil]); first | done | rfl | (simp only [List.length_drop, List.length_take]; rfl)) ?_; (with_reducible refine (spec_FormatInt.calls k a0_3 t114 _ A15.out).mono ?_); rintro e w30 ⟨rfl, hb⟩; refine ⟨_, rfl, ?_⟩; have n0_ := Aside0.mk (Kd.R_below (by (with_reducible repeat (first | apply Kd.R_alloc | apply Kd.R_drewN | apply Kd.R_drew)); exact HO110.out) hb); have n1_ := Aside0.mk (blk_below (g := gb106) (o := .cells #[.int .i64 a0_0, .int .i64 a0_1, .int .i64 a0_2, .int .i64 a0_3] 26 (0, 0)) (by (with_reducible repeat (first | refine blk_drewN ?_ _ | refine blk_drew ?_ | refine blk_alloc ?_ _)); exact BK106.out) hb); have n2_ := Aside0.mk (below_step (by repeat (first | (with_reducible first | exact HB.out | apply below_alloc | apply pw_below_drewN | apply below_drew1 | refine below_set ?_ GE106.out) | exact HB.out)) hb); clear HO110; clear BK106; clear HB; have HO110 := n0_; have BK106 := n1_; have HB := n2_; clear n0_ n1_ n2_; (try clear hb); (try clear hb2); (try clear hk); (try clear hi)))
                        go_ret2
                        exact ⟨by first | rfl | (simp [errW_none, errW_some] <;> rfl) | (simp [*, errW_none, errW_some] <;> rfl), by repeat (first | (with_reducible first | exact HB.out | apply below_alloc | apply pw_below_drewN | apply below_drew1 | refine below_set ?_ GE106.out) | exact HB.out)⟩
                      · rw [if_neg c16] at H
                        exact absurd H (by simp)
                    · rw [if_neg c14] at H
                      exact absurd H (by simp)
                  · rw [if_neg c13] at H
                    have c13b0 : (a0_0 == 1) = false := beq_eq_false_iff_ne.mpr c13
                    have c13b1 : (a0_0 != 1) = true := bne_iff_ne.mpr c13
                    simp only [Option.some.injEq, Prod.mk.injEq] at H
                    obtain ⟨rfl, rfl⟩ := H
                    go_enter Tryd.func7, Tryd.ntmps7
                    try go_wp2_with (first | ((with_reducible refine gate_dst (N := 1) rfl ?_); refine box_event ?hg (N := 1) ?hd (cs := #[.int .i64 a0_0, .int .i64 a0_1, .int .i64 a0_2, .int .i64 a0_3]) (t := 26) ?hr ?_; (case hd => rfl); (case hg => rfl); (case hr => first | (go_simp; done) | (go_simp; rfl)); intro gb106 hg w31 hbox hb; have n0_ := Aside0.mk (below_step (by repeat (first | (with_reducible first | exact HB.out | apply below_alloc | apply pw_below_drewN | apply below_drew1) | exact HB.out)) hb); have n1_ := Aside0.mk (hbox); have n2_ := Aside0.mk ((by rw [hg]; exact (below_size (by repeat (first | (with_reducible first | exact HB.out | apply below_alloc | apply pw_below_drewN | apply below_drew1) | exact HB.out))) : w.heap.size ≤ gb106)); have n3_ := Aside0.mk ((by rw [hg]; exact (below_size (by repeat (first | (with_reducible first | exact HB.out | apply below_alloc | apply pw_below_drewN | apply below_drew1) | exact HB.out))) : w.heap.size ≤ gb106)); clear HB; have HB := n0_; have BK106 := n1_; have GW106 := n2_; have GE106 := n3_; clear n0_ n1_ n2_ n3_; clear hb hbox hg; have hcz32_0 : w31.cell? ⟨gb106, 0, none⟩ = some (.int .i64 a0_0) := (blk_cell BK106.out 0).trans rfl; have hcz32_1 : w31.cell? ⟨gb106, 1, none⟩ = some (.int .i64 a0_1) := (blk_cell BK106.out 1).trans rfl; have hcz32_2 : w31.cell? ⟨gb106, 2, none⟩ = some (.int .i64 a0_2) := (blk_cell BK106.out 2).trans rfl; have hcz32_3 : w31.cell? ⟨gb106, 3, none⟩ = some (.int .i64 a0_3) := (blk_cell BK106.out 3).trans rfl; have hfz32_0 := blk_frozen BK106.out 0; have hfz32_1 := blk_frozen BK106.out 1; have hfz32_2 := blk_frozen BK106.out 2; have hfz32_3 := blk_frozen BK106.out 3) | ((with_reducible refine gate_callee (f := 20) rfl ?_); refine goesL_ (some 6) rfl rfl Tryd.func20 (by kernel_rfl) rfl #[.agg #[.int .i64 a0_0, .int .i64 a0_1, .int .i64 a0_2, .int .i64 a0_3]] rfl (by (try simp only [List.map_toArray, List.map_cons, List.map_nil]); first | done | rfl | (simp only [List.length_drop, List.length_take]; rfl)) ?_; (with_reducible refine (spec_ActOk.calls a0_0 a0_1 a0_2 a0_3 true _ A2.out).mono ?_); rintro e w33 ⟨rfl, hb⟩; refine ⟨_, rfl, ?_⟩; have n0_ := Aside0.mk (blk_below (g := gb106) (o := .cells #[.int .i64 a0_0, .int .i64 a0_1, .int .i64 a0_2, .int .i64 a0_3] 26 (0, 0)) (by (with_reducible repeat (first | refine blk_drewN ?_ _ | refine blk_drew ?_ | refine blk_alloc ?_ _)); exact BK106.out) hb); have n1_ := Aside0.mk (below_step (by repeat (first | (with_reducible first | exact HB.out | apply below_alloc | apply pw_below_drewN | apply below_drew1 | refine below_set ?_ GE106.out) | exact HB.out)) hb); clear BK106; clear HB; have BK106 := n0_; have HB := n1_; clear n0_ n1_; (try clear hb); (try clear hb2); (try clear hk); (try clear hi)))
                    have pi111 : (0 ≤ (a0_0 : Int)) = True := eq_true (of_decide_eq_true (by first | (with_reducible assumption) | assumption))
                    have qi111 : (a0_0 < (y108.length : Int)) = True := eq_true (of_decide_eq_true (by first | (with_reducible assumption) | assumption))
                    have n0_ := Aside0.mk (blk_drew BK106.out)
                    have n1_ := Aside0.mk (below_drew1 HB.out)
                    clear BK106
                    clear HB
                    have BK106 := n0_
                    have HB := n1_
                    clear n0_ n1_
                    refine start_ (n := 11) (S := fun w' => True) (ds := []) #[false, false, false, false, false, false, false, false, false, false, false] (by kernel_rfl) rfl rfl trivial (fun hHeld => ?_); refine with_tabW spec_FormatAct.tab3 spec_FormatAct.bits3 (fun HT_ HW_ => ?_)
                    generalize w33.drew = w34 at BK106 HB hHeld ⊢
                    refine pure_ (i := 1) (N := some 9) (v := ?_) (a' := ?_) #[false, true, false, false, false, false, false, false, false, false, false] rfl rfl (any_of HT_.out (by kernel_rfl)) (fun _ _ _ h => h) (Or.inl ⟨by rfl, ?_⟩) ?_ ?_
                    rotate_left
                    · intro w'
                      go_simp
                      with_reducible rfl
                    rotate_left
                    · simp only [Act.put, List.setIfInBounds_toArray, List.set_cons_zero, List.set_cons_succ, i64_w, i32_w]
                      rfl
                    refine pure_ (i := 6) (N := some 14) (v := ?_) (a' := ?_) #[false, true, false, false, false, false, true, false, false, false, false] rfl rfl (any_of HT_.out (by kernel_rfl)) (fun _ _ _ h => h) (Or.inl ⟨by rfl, ?_⟩) ?_ ?_
                    rotate_left
                    · intro w'
                      go_simp
                      with_reducible rfl
                    rotate_left
                    · simp only [Act.put, List.setIfInBounds_toArray, List.set_cons_zero, List.set_cons_succ, i64_w, i32_w]
                      rfl
                    refine inv_at [0, 2, 3, 4, 5, 7, 8, 9, 10] (fun a0_ b a w' => ∃ (v109 : Value) (adz_v109 : Addr) (m3_ : Value), a = putSel a0_ b [(0, 8, v109), (2, 10, .int .i64 a0_0), (3, 11, m3_), (4, 12, .string (rdOf ByteArray.empty y108 a0_0)), (5, 13, .string ((rdOf ByteArray.empty y108 a0_0) ++ (⟨#[32]⟩ : ByteArray))), (7, 15, .int .i64 a0_1), (8, 16, .string t112), (9, 17, .string (((rdOf ByteArray.empty y108 a0_0) ++ (⟨#[32]⟩ : ByteArray)) ++ t112)), (10, 4, .string (((rdOf ByteArray.empty y108 a0_0) ++ (⟨#[32]⟩ : ByteArray)) ++ t112))] ∧ (w'.heap[gb106]? = some (.cells #[.int .i64 a0_0, .int .i64 a0_1, .int .i64 a0_2, .int .i64 a0_3] 26 (0, 0))) ∧ (Below w.heap.size w w') ∧ (b 0 = true → Kd.R Kd.string 9 w' w.heap.size (fun _ => True) v109 y108) ∧ (b 0 = true → ∃ c_, (v109 : Value) = .slice (some adz_v109) y108.length c_) ∧ (b 3 = true → (m3_ : Value) = .pointer (some (adz_v109.add (a0_0).toNat)))) HT_.out HW_.out (by kernel_rfl) (by kernel_rfl) ?_ ?_ ?_
                    · exact ⟨.bool false, ⟨0, 0, none⟩, .bool false, by simp only [putSel, Bool.false_eq_true, if_false], BK106.out, HB.out, fun h_ => absurd h_ (by decide), fun h_ => absurd h_ (by decide), fun h_ => absurd h_ (by decide)⟩
                    · skip
                      clear BK106 HB
                      refine steps_cons ?_ ?_
                      · rintro b a w' ⟨v109, adz_v109, m3_, ha, Q_BK106, Q_HB, Q_HO110, Q_HA_HO110, Q_X3_⟩ hb_ hon hoff
                        refine ⟨_, rfl, fun K hK => ?_⟩
                        replace ha := Aside0.mk ha
                        have BK106 := Aside0.mk Q_BK106
                        have HB := Aside0.mk Q_HB
                        refine Kd.R_lit_step Kd.string _ 9 ?hg (N := 8) ?hd (xs := ([(⟨#[]⟩ : ByteArray), (⟨#[119, 114, 105, 116, 101]⟩ : ByteArray), (⟨#[114, 101, 97, 100]⟩ : ByteArray), (⟨#[99, 117, 116]⟩ : ByteArray), (⟨#[111, 112, 101, 110]⟩ : ByteArray)] : List ByteArray)) (inner := [.string (⟨#[]⟩ : ByteArray), .string (⟨#[119, 114, 105, 116, 101]⟩ : ByteArray), .string (⟨#[114, 101, 97, 100]⟩ : ByteArray), .string (⟨#[99, 117, 116]⟩ : ByteArray), .string (⟨#[111, 112, 101, 110]⟩ : ByteArray)]) (ok := fun _ => True) (okp := fun _ => True) ?hr ?hp (fun _ hk => hk) trivial (Below.refl _ _) (Nat.le_refl _) (by simp) ?_; (case hd => rfl); (case hg => rfl); (case hr => first | (go_simp; done) | (go_simp; rfl)); (case hp => exact (Reps.one (show Kd.M Kd.string _ _ _ (⟨#[]⟩ : ByteArray) [.string (⟨#[]⟩ : ByteArray)] from rfl) (Reps.one (show Kd.M Kd.string _ _ _ (⟨#[119, 114, 105, 116, 101]⟩ : ByteArray) [.string (⟨#[119, 114, 105, 116, 101]⟩ : ByteArray)] from rfl) (Reps.one (show Kd.M Kd.string _ _ _ (⟨#[114, 101, 97, 100]⟩ : ByteArray) [.string (⟨#[114, 101, 97, 100]⟩ : ByteArray)] from rfl) (Reps.one (show Kd.M Kd.string _ _ _ (⟨#[99, 117, 116]⟩ : ByteArray) [.string (⟨#[99, 117, 116]⟩ : ByteArray)] from rfl) (Reps.one (show Kd.M Kd.string _ _ _ (⟨#[111, 112, 101, 110]⟩ : ByteArray) [.string (⟨#[111, 112, 101, 110]⟩ : ByteArray)] from rfl) (Reps.none _ _)))))))
                        intro v109 w35 ho36 hb hg_ hnew_
                        clear hg_ hnew_
                        (first | rw [← Ny108.out] at ho36 | (simp only [Int.reduceToNat] at ho36; rw [← Ny108.out] at ho36))
                        have n0_ := Aside0.mk (Kd.R_lower ho36 (below_size (by repeat (first | (with_reducible first | exact HB.out | apply below_alloc | apply pw_below_drewN | apply below_drew1 | refine below_set ?_ GE106.out) | exact HB.out))))
                        have n1_ := Aside0.mk (blk_below (g := gb106) (o := .cells #[.int .i64 a0_0, .int .i64 a0_1, .int .i64 a0_2, .int .i64 a0_3] 26 (0, 0)) (by (with_reducible repeat (first | refine blk_drewN ?_ _ | refine blk_drew ?_ | refine blk_alloc ?_ _)); exact BK106.out) hb)
                        have n2_ := Aside0.mk (below_step (by repeat (first | (with_reducible first | exact HB.out | apply below_alloc | apply pw_below_drewN | apply below_drew1 | refine below_set ?_ GE106.out) | exact HB.out)) hb)
                        clear BK106
                        clear HB
                        have HO110 := n0_
                        have BK106 := n1_
                        have HB := n2_
                        clear n0_ n1_ n2_
                        clear hb ho36
                        obtain ⟨Ao37, co37, eo37⟩ := Kd.R_slice HO110.out
                        subst eo37
                        obtain ⟨ado37, fo37, _⟩ := Kd.at_string (Kd.R_reads' HO110.out).2.2 0 (by decide) (by rw [Ny108.out]; simp)
                        cases fo37
                        refine hK.out _ _ ⟨.slice (some ado37) y108.length co37, ado37, m3_, (by rw [ha.out]; exact putSel_upk 0 hb_ rfl rfl rfl), (by (with_reducible repeat (first | refine blk_drewN ?_ _ | refine blk_drew ?_ | refine blk_alloc ?_ _)); exact BK106.out), (by repeat (first | (with_reducible first | exact HB.out | apply below_alloc | apply pw_below_drewN | apply below_drew1 | refine below_set ?_ GE106.out) | exact HB.out)), fun _ => (by (with_reducible repeat (first | apply Kd.R_alloc | apply Kd.R_drewN | apply Kd.R_drew)); exact HO110.out), fun _ => ⟨_, rfl⟩, fun h0_ => absurd ((hoff 3 (by kernel_rfl)).symm.trans h0_) (by decide)⟩
                      refine steps_cons ?_ ?_
                      · rintro b a w' ⟨v109, adz_v109, m3_, ha, Q_BK106, Q_HB, Q_HO110, Q_HA_HO110, Q_X3_⟩ hb_ hon hoff
                        refine ⟨_, rfl, fun K hK => ?_⟩
                        have e9 : a.tmps[9]? = some (.pointer (some ⟨gb106, 0, none⟩)) := by rw [ha]; exact (putSel_off rfl).trans rfl
                        replace ha := Aside0.mk ha
                        have BK106 := Aside0.mk Q_BK106
                        have HB := Aside0.mk Q_HB
                        have hc0_ : w'.cell? ⟨gb106, 0, none⟩ = some (.int .i64 a0_0) := (blk_cell BK106.out 0).trans rfl
                        have hc1_ : w'.cell? ⟨gb106, 1, none⟩ = some (.int .i64 a0_1) := (blk_cell BK106.out 1).trans rfl
                        have hc2_ : w'.cell? ⟨gb106, 2, none⟩ = some (.int .i64 a0_2) := (blk_cell BK106.out 2).trans rfl
                        have hc3_ : w'.cell? ⟨gb106, 3, none⟩ = some (.int .i64 a0_3) := (blk_cell BK106.out 3).trans rfl
                        refine value_ (w1 := w') (v := .int .i64 a0_0) (by rfl) rfl ?_ ?_
                        · go_simp
                          (try simp only [i64_w])
                          try rfl
                        refine hK.out _ _ ⟨v109, adz_v109, m3_, (by rw [ha.out]; exact putSel_upk 1 hb_ rfl rfl rfl), Q_BK106, Q_HB, Q_HO110, Q_HA_HO110, fun h0_ => absurd ((hoff 3 (by kernel_rfl)).symm.trans h0_) (by decide)⟩
                      refine steps_cons ?_ ?_
                      · rintro b a w' ⟨v109, adz_v109, m3_, ha, Q_BK106, Q_HB, Q_HO110, Q_HA_HO110, Q_X3_⟩ hb_ hon hoff
                        refine ⟨_, rfl, fun K hK => ?_⟩
                        have e8 : a.tmps[8]? = some (v109) := by rw [ha]; exact putSel_on (e := (0, 8, v109)) 0 rfl rfl (hon 0 (by kernel_rfl)) rfl
                        have e10 : a.tmps[10]? = some (.int .i64 a0_0) := by rw [ha]; exact putSel_on (e := (2, 10, .int .i64 a0_0)) 1 rfl rfl (hon 2 (by kernel_rfl)) rfl
                        replace ha := Aside0.mk ha
                        have BK106 := Aside0.mk Q_BK106
                        have HB := Aside0.mk Q_HB
                        have HO110 := Aside0.mk (Q_HO110 (hon 0 (by kernel_rfl)))
                        have HA_HO110 := Aside0.mk (Q_HA_HO110 (hon 0 (by kernel_rfl)))
                        obtain ⟨c_, hv_⟩ := HA_HO110.out
                        rw [hv_] at e8
                        refine value_ (w1 := w') (v := .pointer (some (adz_v109.add (a0_0).toNat))) (by rfl) rfl ?_ ?_
                        · go_simp
                          (try simp only [i64_w])
                          try rfl
                        refine hK.out _ _ ⟨v109, adz_v109, (.pointer (some (adz_v109.add (a0_0).toNat))), (by rw [ha.out]; exact putSel_upk 2 hb_ rfl rfl rfl), Q_BK106, Q_HB, Q_HO110, Q_HA_HO110, fun _ => rfl⟩
                      refine steps_cons ?_ ?_
                      · rintro b a w' ⟨v109, adz_v109, m3_, ha, Q_BK106, Q_HB, Q_HO110, Q_HA_HO110, Q_X3_⟩ hb_ hon hoff
                        refine ⟨_, rfl, fun K hK => ?_⟩
                        have e11 : a.tmps[11]? = some (m3_) := by rw [ha]; exact putSel_on (e := (3, 11, m3_)) 2 rfl rfl (hon 3 (by kernel_rfl)) rfl
                        rw [Q_X3_ (hon 3 (by kernel_rfl))] at e11
                        replace ha := Aside0.mk ha
                        have BK106 := Aside0.mk Q_BK106
                        have HB := Aside0.mk Q_HB
                        have HO110 := Aside0.mk (Q_HO110 (hon 0 (by kernel_rfl)))
                        have HA_HO110 := Aside0.mk (Q_HA_HO110 (hon 0 (by kernel_rfl)))
                        obtain ⟨c_, hv_⟩ := HA_HO110.out
                        have hF_ := HO110.out
                        rw [hv_] at hF_
                        obtain ⟨ad_, ea_, hx_⟩ := Kd.at_string (Kd.R_reads' hF_).2.2 a0_0 (of_eq_true pi111) (of_eq_true qi111)
                        cases ea_
                        refine value_ (w1 := w') (v := .string (rdOf ByteArray.empty y108 a0_0)) (by rfl) rfl ?_ ?_
                        · go_simp
                          (try simp only [i64_w])
                          try rfl
                        refine hK.out _ _ ⟨v109, adz_v109, m3_, (by rw [ha.out]; exact putSel_upk 3 hb_ rfl rfl rfl), Q_BK106, Q_HB, Q_HO110, Q_HA_HO110, Q_X3_⟩
                      refine steps_cons ?_ ?_
                      · rintro b a w' ⟨v109, adz_v109, m3_, ha, Q_BK106, Q_HB, Q_HO110, Q_HA_HO110, Q_X3_⟩ hb_ hon hoff
                        refine ⟨_, rfl, fun K hK => ?_⟩
                        have e12 : a.tmps[12]? = some (.string (rdOf ByteArray.empty y108 a0_0)) := by rw [ha]; exact putSel_on (e := (4, 12, .string (rdOf ByteArray.empty y108 a0_0))) 3 rfl rfl (hon 4 (by kernel_rfl)) rfl
                        replace ha := Aside0.mk ha
                        have BK106 := Aside0.mk Q_BK106
                        have HB := Aside0.mk Q_HB
                        have HO110 := Aside0.mk (Q_HO110 (hon 0 (by kernel_rfl)))
                        have HA_HO110 := Aside0.mk (Q_HA_HO110 (hon 0 (by kernel_rfl)))
                        refine value_ (w1 := w') (v := .string ((rdOf ByteArray.empty y108 a0_0) ++ (⟨#[32]⟩ : ByteArray))) (by rfl) rfl ?_ ?_
                        · go_simp
                          (try simp only [i64_w])
                          try rfl
                        refine hK.out _ _ ⟨v109, adz_v109, m3_, (by rw [ha.out]; exact putSel_upk 4 hb_ rfl rfl rfl), Q_BK106, Q_HB, Q_HO110, Q_HA_HO110, Q_X3_⟩
                      refine steps_cons ?_ ?_
                      · rintro b a w' ⟨v109, adz_v109, m3_, ha, Q_BK106, Q_HB, Q_HO110, Q_HA_HO110, Q_X3_⟩ hb_ hon hoff
                        refine ⟨_, rfl, fun K hK => ?_⟩
                        have e14 : a.tmps[14]? = some (.pointer (some ⟨gb106, 1, none⟩)) := by rw [ha]; exact (putSel_off rfl).trans rfl
                        replace ha := Aside0.mk ha
                        have BK106 := Aside0.mk Q_BK106
                        have HB := Aside0.mk Q_HB
                        have hc0_ : w'.cell? ⟨gb106, 0, none⟩ = some (.int .i64 a0_0) := (blk_cell BK106.out 0).trans rfl
                        have hc1_ : w'.cell? ⟨gb106, 1, none⟩ = some (.int .i64 a0_1) := (blk_cell BK106.out 1).trans rfl
                        have hc2_ : w'.cell? ⟨gb106, 2, none⟩ = some (.int .i64 a0_2) := (blk_cell BK106.out 2).trans rfl
                        have hc3_ : w'.cell? ⟨gb106, 3, none⟩ = some (.int .i64 a0_3) := (blk_cell BK106.out 3).trans rfl
                        refine value_ (w1 := w') (v := .int .i64 a0_1) (by rfl) rfl ?_ ?_
                        · go_simp
                          (try simp only [i64_w])
                          try rfl
                        refine hK.out _ _ ⟨v109, adz_v109, m3_, (by rw [ha.out]; exact putSel_upk 5 hb_ rfl rfl rfl), Q_BK106, Q_HB, Q_HO110, Q_HA_HO110, Q_X3_⟩
                      refine steps_cons ?_ ?_
                      · rintro b a w' ⟨v109, adz_v109, m3_, ha, Q_BK106, Q_HB, Q_HO110, Q_HA_HO110, Q_X3_⟩ hb_ hon hoff
                        refine ⟨_, rfl, fun K hK => ?_⟩
                        have e15 : a.tmps[15]? = some (.int .i64 a0_1) := by rw [ha]; exact putSel_on (e := (7, 15, .int .i64 a0_1)) 5 rfl rfl (hon 7 (by kernel_rfl)) rfl
                        replace ha := Aside0.mk ha
                        have BK106 := Aside0.mk Q_BK106
                        have HB := Aside0.mk Q_HB
                        refine goes_ Tryd.func21 (by kernel_rfl) rfl #[.int .i64 a0_1] (by rfl) rfl rfl (by first | (simp only [List.map_toArray, List.map_cons, List.map_nil, Act.eval, Array.getD_eq_getD_getElem?, Option.getD_some, e15]; done) | (simp only [List.map_toArray, List.map_cons, List.map_nil, Act.eval, Array.getD_eq_getD_getElem?, Option.getD_some, e15]; rfl)) ?_
                        with_reducible refine (spec_FormatInt.calls k a0_1 t112 _ A7.out).mono ?_
                        rintro e w35 ⟨rfl, hb⟩
                        refine ⟨_, rfl, ?_⟩
                        have n0_ := Aside0.mk (blk_below (g := gb106) (o := .cells #[.int .i64 a0_0, .int .i64 a0_1, .int .i64 a0_2, .int .i64 a0_3] 26 (0, 0)) (by (with_reducible repeat (first | refine blk_drewN ?_ _ | refine blk_drew ?_ | refine blk_alloc ?_ _)); exact BK106.out) hb)
                        have n1_ := Aside0.mk (below_step (by repeat (first | (with_reducible first | exact HB.out | apply below_alloc | apply pw_below_drewN | apply below_drew1 | refine below_set ?_ GE106.out) | exact HB.out)) hb)
                        have z_HO110 := fun (h0_ : b 0 = true) => (show Kd.R Kd.string 9 w35 w.heap.size (fun _ => True) v109 y108 from by first | exact (Kd.R_below (by (with_reducible repeat (first | apply Kd.R_alloc | apply Kd.R_drewN | apply Kd.R_drew)); exact (Q_HO110 h0_)) hb) | exact Kd.R_mono (Kd.R_below (by (with_reducible repeat (first | apply Kd.R_alloc | apply Kd.R_drewN | apply Kd.R_drew)); exact (Q_HO110 h0_)) hb) (fun _ h_ => by first | trivial | exact h_ | exact h_.1))
                        clear BK106
                        clear HB
                        have BK106 := n0_
                        have HB := n1_
                        clear n0_ n1_
                        (try clear hb)
                        (try clear hb2)
                        (try clear hk)
                        (try clear hi)
                        refine hK.out _ _ ⟨v109, adz_v109, m3_, (by rw [ha.out]; exact putSel_upk 6 hb_ rfl rfl rfl), (by (with_reducible repeat (first | refine blk_drewN ?_ _ | refine blk_drew ?_ | refine blk_alloc ?_ _)); exact BK106.out), (by repeat (first | (with_reducible first | exact HB.out | apply below_alloc | apply pw_below_drewN | apply below_drew1 | refine below_set ?_ GE106.out) | exact HB.out)), z_HO110, Q_HA_HO110, Q_X3_⟩
                      refine steps_cons ?_ ?_
                      · rintro b a w' ⟨v109, adz_v109, m3_, ha, Q_BK106, Q_HB, Q_HO110, Q_HA_HO110, Q_X3_⟩ hb_ hon hoff
                        refine ⟨_, rfl, fun K hK => ?_⟩
                        have e13 : a.tmps[13]? = some (.string ((rdOf ByteArray.empty y108 a0_0) ++ (⟨#[32]⟩ : ByteArray))) := by rw [ha]; exact putSel_on (e := (5, 13, .string ((rdOf ByteArray.empty y108 a0_0) ++ (⟨#[32]⟩ : ByteArray)))) 4 rfl rfl (hon 5 (by kernel_rfl)) rfl
                        have e16 : a.tmps[16]? = some (.string t112) := by rw [ha]; exact putSel_on (e := (8, 16, .string t112)) 6 rfl rfl (hon 8 (by kernel_rfl)) rfl
                        replace ha := Aside0.mk ha
                        have BK106 := Aside0.mk Q_BK106
                        have HB := Aside0.mk Q_HB
                        have HO110 := Aside0.mk (Q_HO110 (hon 0 (by kernel_rfl)))
                        have HA_HO110 := Aside0.mk (Q_HA_HO110 (hon 0 (by kernel_rfl)))
                        refine value_ (w1 := w') (v := .string (((rdOf ByteArray.empty y108 a0_0) ++ (⟨#[32]⟩ : ByteArray)) ++ t112)) (by rfl) rfl ?_ ?_
                        · go_simp
                          (try simp only [i64_w])
                          try rfl
                        refine hK.out _ _ ⟨v109, adz_v109, m3_, (by rw [ha.out]; exact putSel_upk 7 hb_ rfl rfl rfl), Q_BK106, Q_HB, Q_HO110, Q_HA_HO110, Q_X3_⟩
                      refine steps_cons ?_ ?_
                      · rintro b a w' ⟨v109, adz_v109, m3_, ha, Q_BK106, Q_HB, Q_HO110, Q_HA_HO110, Q_X3_⟩ hb_ hon hoff
                        refine ⟨_, rfl, fun K hK => ?_⟩
                        have e17 : a.tmps[17]? = some (.string (((rdOf ByteArray.empty y108 a0_0) ++ (⟨#[32]⟩ : ByteArray)) ++ t112)) := by rw [ha]; exact putSel_on (e := (9, 17, .string (((rdOf ByteArray.empty y108 a0_0) ++ (⟨#[32]⟩ : ByteArray)) ++ t112))) 7 rfl rfl (hon 9 (by kernel_rfl)) rfl
                        replace ha := Aside0.mk ha
                        have BK106 := Aside0.mk Q_BK106
                        have HB := Aside0.mk Q_HB
                        have HO110 := Aside0.mk (Q_HO110 (hon 0 (by kernel_rfl)))
                        have HA_HO110 := Aside0.mk (Q_HA_HO110 (hon 0 (by kernel_rfl)))
                        refine value_ (w1 := w') (v := .string (((rdOf ByteArray.empty y108 a0_0) ++ (⟨#[32]⟩ : ByteArray)) ++ t112)) (by rfl) rfl ?_ ?_
                        · go_simp
                          (try simp only [i64_w])
                          try rfl
                        refine hK.out _ _ ⟨v109, adz_v109, m3_, (by rw [ha.out]; exact putSel_upk 8 hb_ rfl rfl rfl), Q_BK106, Q_HB, Q_HO110, Q_HA_HO110, Q_X3_⟩
                      exact steps_nil
                    rintro b a w39 hall ⟨v109, adz_v109, m3_, ha, Q_BK106, Q_HB, Q_HO110, Q_HA_HO110, Q_X3_⟩
                    clear BK106 HB
                    have hb0_ := hall 0 (by kernel_rfl)
                    have hb2_ := hall 2 (by kernel_rfl)
                    have hb3_ := hall 3 (by kernel_rfl)
                    have hb4_ := hall 4 (by kernel_rfl)
                    have hb5_ := hall 5 (by kernel_rfl)
                    have hb7_ := hall 7 (by kernel_rfl)
                    have hb8_ := hall 8 (by kernel_rfl)
                    have hb9_ := hall 9 (by kernel_rfl)
                    have hb10_ := hall 10 (by kernel_rfl)
                    subst ha
                    obtain rfl := Q_X3_ hb3_
                    simp only [putSel, hb0_, hb2_, hb3_, hb4_, hb5_, hb7_, hb8_, hb9_, hb10_, if_true, Act.put, List.setIfInBounds_toArray, List.set_cons_zero, List.set_cons_succ]
                    have BK106 := Aside0.mk Q_BK106
                    clear Q_BK106
                    have HB := Aside0.mk Q_HB
                    clear Q_HB
                    have HO110 := Aside0.mk (Q_HO110 hb0_)
                    clear Q_HO110
                    have HA_HO110 := Aside0.mk (Q_HA_HO110 hb0_)
                    clear Q_HA_HO110
                    clear hall hb0_ hb2_ hb3_ hb4_ hb5_ hb7_ hb8_ hb9_ hb10_
                    obtain ⟨co40, eo40⟩ := HA_HO110.out
                    clear HA_HO110
                    subst eo40
                    have hcz41_0 : w39.cell? ⟨gb106, 0, none⟩ = some (.int .i64 a0_0) := (blk_cell BK106.out 0).trans rfl
                    have hcz41_1 : w39.cell? ⟨gb106, 1, none⟩ = some (.int .i64 a0_1) := (blk_cell BK106.out 1).trans rfl
                    have hcz41_2 : w39.cell? ⟨gb106, 2, none⟩ = some (.int .i64 a0_2) := (blk_cell BK106.out 2).trans rfl
                    have hcz41_3 : w39.cell? ⟨gb106, 3, none⟩ = some (.int .i64 a0_3) := (blk_cell BK106.out 3).trans rfl
                    have hfz41_0 := blk_frozen BK106.out 0
                    have hfz41_1 := blk_frozen BK106.out 1
                    have hfz41_2 := blk_frozen BK106.out 2
                    have hfz41_3 := blk_frozen BK106.out 3
                    try go_wp2_with (first | ((with_reducible refine gate_callee (f := 21) rfl ?_); refine goesL_ (some 25) rfl rfl Tryd.func21 (by kernel_rfl) rfl #[.int .i64 a0_2] rfl (by (try simp only [List.map_toArray, List.map_cons, List.map_nil]); first | done | rfl | (simp only [List.length_drop, List.length_take]; rfl)) ?_; (with_reducible refine (spec_FormatInt.calls k a0_2 t113 _ A11.out).mono ?_); rintro e w42 ⟨rfl, hb⟩; refine ⟨_, rfl, ?_⟩; have n0_ := Aside0.mk (Kd.R_below (by (with_reducible repeat (first | apply Kd.R_alloc | apply Kd.R_drewN | apply Kd.R_drew)); exact HO110.out) hb); have n1_ := Aside0.mk (blk_below (g := gb106) (o := .cells #[.int .i64 a0_0, .int .i64 a0_1, .int .i64 a0_2, .int .i64 a0_3] 26 (0, 0)) (by (with_reducible repeat (first | refine blk_drewN ?_ _ | refine blk_drew ?_ | refine blk_alloc ?_ _)); exact BK106.out) hb); have n2_ := Aside0.mk (below_step (by repeat (first | (with_reducible first | exact HB.out | apply below_alloc | apply pw_below_drewN | apply below_drew1 | refine below_set ?_ GE106.out) | exact HB.out)) hb); clear HO110; clear BK106; clear HB; have HO110 := n0_; have BK106 := n1_; have HB := n2_; clear n0_ n1_ n2_; (try clear hb); (try clear hb2); (try clear hk); (try clear hi); have hcz43_0 : w42.cell? ⟨gb106, 0, none⟩ = some (.int .i64 a0_0) := (blk_cell BK106.out 0).trans rfl; have hcz43_1 : w42.cell? ⟨gb106, 1, none⟩ = some (.int .i64 a0_1) := (blk_cell BK106.out 1).trans rfl; have hcz43_2 : w42.cell? ⟨gb106, 2, none⟩ = some (.int .i64 a0_2) := (blk_cell BK106.out 2).trans rfl; have hcz43_3 : w42.cell? ⟨gb106, 3, none⟩ = some (.int .i64 a0_3) := (blk_cell BK106.out 3).trans rfl; have hfz43_0 := blk_frozen BK106.out 0; have hfz43_1 := blk_frozen BK106.out 1; have hfz43_2 := blk_frozen BK106.out 2; have hfz43_3 := blk_frozen BK106.out 3))
                    go_ret2
                    exact ⟨by first | rfl | (simp [errW_none, errW_some] <;> rfl) | (simp [*, errW_none, errW_some] <;> rfl), by repeat (first | (with_reducible first | exact HB.out | apply below_alloc | apply pw_below_drewN | apply below_drew1 | refine below_set ?_ GE106.out) | exact HB.out)⟩
                · rw [if_neg c12] at H
                  exact absurd H (by simp)
              · rw [if_neg c10] at H
                exact absurd H (by simp)
            · rw [if_neg c9] at H
              have c9b0 : decide (a0_0 ≤ 2) = false := decide_eq_false c9
              clear c9
              by_cases c44 : a0_0 = 1
              · rw [if_pos c44] at H
                have c44b0 : (a0_0 == 1) = true := beq_iff_eq.mpr c44
                have c44b1 : (a0_0 != 1) = false := bne_eq_false_iff_eq.mpr c44
                clear c44
                by_cases c45 : (((rdOf ByteArray.empty y108 a0_0) ++ (⟨#[32]⟩ : ByteArray)) ++ t112).size + 1 ≤ 9223372036854775807
                · rw [if_pos c45] at H
                  have c45b0 := eq_true c45
                  have c45b1 : decide ((((rdOf ByteArray.empty y108 a0_0) ++ (⟨#[32]⟩ : ByteArray)) ++ t112).size + 1 ≤ 9223372036854775807) = true := decide_eq_true c45
                  try have c45b2 : (9223372036854775807 < (((rdOf ByteArray.empty y108 a0_0) ++ (⟨#[32]⟩ : ByteArray)) ++ t112).size + 1) = False := eq_false (Nat.not_lt.2 c45)
                  try have c45b3 := c45
                  try simp only [ByteArray.size_append, show (⟨#[32]⟩ : ByteArray).size = 1 from rfl] at c45b3
                  replace H := Option.bind_eq_some_iff.mp H
                  obtain ⟨t115, A460, H⟩ := H
                  replace H : (if ((((rdOf ByteArray.empty y108 a0_0) ++ (⟨#[32]⟩ : ByteArray)) ++ t112) ++ (⟨#[32]⟩ : ByteArray)).size + t115.size ≤ 9223372036854775807 then (some (((((rdOf ByteArray.empty y108 a0_0) ++ (⟨#[32]⟩ : ByteArray)) ++ t112) ++ (⟨#[32]⟩ : ByteArray)) ++ t115, true)) else (none)) = some (r1, r2) := H
                  have A46 := Aside0.mk A460
                  clear A460
                  by_cases c47 : ((((rdOf ByteArray.empty y108 a0_0) ++ (⟨#[32]⟩ : ByteArray)) ++ t112) ++ (⟨#[32]⟩ : ByteArray)).size + t115.size ≤ 9223372036854775807
                  · rw [if_pos c47] at H
                    have c47b0 := eq_true c47
                    have c47b1 : decide (((((rdOf ByteArray.empty y108 a0_0) ++ (⟨#[32]⟩ : ByteArray)) ++ t112) ++ (⟨#[32]⟩ : ByteArray)).size + t115.size ≤ 9223372036854775807) = true := decide_eq_true c47
                    try have c47b2 : (9223372036854775807 < ((((rdOf ByteArray.empty y108 a0_0) ++ (⟨#[32]⟩ : ByteArray)) ++ t112) ++ (⟨#[32]⟩ : ByteArray)).size + t115.size) = False := eq_false (Nat.not_lt.2 c47)
                    try have c47b3 := c47
                    try simp only [ByteArray.size_append, show (⟨#[32]⟩ : ByteArray).size = 1 from rfl] at c47b3
                    simp only [Option.some.injEq, Prod.mk.injEq] at H
                    obtain ⟨rfl, rfl⟩ := H
                    go_enter Tryd.func7, Tryd.ntmps7
                    try go_wp2_with (first | ((with_reducible refine gate_dst (N := 1) rfl ?_); refine box_event ?hg (N := 1) ?hd (cs := #[.int .i64 a0_0, .int .i64 a0_1, .int .i64 a0_2, .int .i64 a0_3]) (t := 26) ?hr ?_; (case hd => rfl); (case hg => rfl); (case hr => first | (go_simp; done) | (go_simp; rfl)); intro gb106 hg w48 hbox hb; have n0_ := Aside0.mk (below_step (by repeat (first | (with_reducible first | exact HB.out | apply below_alloc | apply pw_below_drewN | apply below_drew1) | exact HB.out)) hb); have n1_ := Aside0.mk (hbox); have n2_ := Aside0.mk ((by rw [hg]; exact (below_size (by repeat (first | (with_reducible first | exact HB.out | apply below_alloc | apply pw_below_drewN | apply below_drew1) | exact HB.out))) : w.heap.size ≤ gb106)); have n3_ := Aside0.mk ((by rw [hg]; exact (below_size (by repeat (first | (with_reducible first | exact HB.out | apply below_alloc | apply pw_below_drewN | apply below_drew1) | exact HB.out))) : w.heap.size ≤ gb106)); clear HB; have HB := n0_; have BK106 := n1_; have GW106 := n2_; have GE106 := n3_; clear n0_ n1_ n2_ n3_; clear hb hbox hg; have hcz49_0 : w48.cell? ⟨gb106, 0, none⟩ = some (.int .i64 a0_0) := (blk_cell BK106.out 0).trans rfl; have hcz49_1 : w48.cell? ⟨gb106, 1, none⟩ = some (.int .i64 a0_1) := (blk_cell BK106.out 1).trans rfl; have hcz49_2 : w48.cell? ⟨gb106, 2, none⟩ = some (.int .i64 a0_2) := (blk_cell BK106.out 2).trans rfl; have hcz49_3 : w48.cell? ⟨gb106, 3, none⟩ = some (.int .i64 a0_3) := (blk_cell BK106.out 3).trans rfl; have hfz49_0 := blk_frozen BK106.out 0; have hfz49_1 := blk_frozen BK106.out 1; have hfz49_2 := blk_frozen BK106.out 2; have hfz49_3 := blk_frozen BK106.out 3) | ((with_reducible refine gate_callee (f := 20) rfl ?_); refine goesL_ (some 6) rfl rfl Tryd.func20 (by kernel_rfl) rfl #[.agg #[.int .i64 a0_0, .int .i64 a0_1, .int .i64 a0_2, .int .i64 a0_3]] rfl (by (try simp only [List.map_toArray, List.map_cons, List.map_nil]); first | done | rfl | (simp only [List.length_drop, List.length_take]; rfl)) ?_; (with_reducible refine (spec_ActOk.calls a0_0 a0_1 a0_2 a0_3 true _ A2.out).mono ?_); rintro e w50 ⟨rfl, hb⟩; refine ⟨_, rfl, ?_⟩; have n0_ := Aside0.mk (blk_below (g := gb106) (o := .cells #[.int .i64 a0_0, .int .i64 a0_1, .int .i64 a0_2, .int .i64 a0_3] 26 (0, 0)) (by (with_reducible repeat (first | refine blk_drewN ?_ _ | refine blk_drew ?_ | refine blk_alloc ?_ _)); exact BK106.out) hb); have n1_ := Aside0.mk (below_step (by repeat (first | (with_reducible first | exact HB.out | apply below_alloc | apply pw_below_drewN | apply below_drew1 | refine below_set ?_ GE106.out) | exact HB.out)) hb); clear BK106; clear HB; have BK106 := n0_; have HB := n1_; clear n0_ n1_; (try clear hb); (try clear hb2); (try clear hk); (try clear hi)))
                    have pi111 : (0 ≤ (a0_0 : Int)) = True := eq_true (of_decide_eq_true (by first | (with_reducible assumption) | assumption))
                    have qi111 : (a0_0 < (y108.length : Int)) = True := eq_true (of_decide_eq_true (by first | (with_reducible assumption) | assumption))
                    have n0_ := Aside0.mk (blk_drew BK106.out)
                    have n1_ := Aside0.mk (below_drew1 HB.out)
                    clear BK106
                    clear HB
                    have BK106 := n0_
                    have HB := n1_
                    clear n0_ n1_
                    refine start_ (n := 11) (S := fun w' => True) (ds := []) #[false, false, false, false, false, false, false, false, false, false, false] (by kernel_rfl) rfl rfl trivial (fun hHeld => ?_); refine with_tabW spec_FormatAct.tab3 spec_FormatAct.bits3 (fun HT_ HW_ => ?_)
                    generalize w50.drew = w51 at BK106 HB hHeld ⊢
                    refine pure_ (i := 1) (N := some 9) (v := ?_) (a' := ?_) #[false, true, false, false, false, false, false, false, false, false, false] rfl rfl (any_of HT_.out (by kernel_rfl)) (fun _ _ _ h => h) (Or.inl ⟨by rfl, ?_⟩) ?_ ?_
                    rotate_left
                    · intro w'
                      go_simp
                      with_reducible rfl
                    rotate_left
                    · simp only [Act.put, List.setIfInBounds_toArray, List.set_cons_zero, List.set_cons_succ, i64_w, i32_w]
                      rfl
                    refine pure_ (i := 6) (N := some 14) (v := ?_) (a' := ?_) #[false, true, false, false, false, false, true, false, false, false, false] rfl rfl (any_of HT_.out (by kernel_rfl)) (fun _ _ _ h => h) (Or.inl ⟨by rfl, ?_⟩) ?_ ?_
                    rotate_left
                    · intro w'
                      go_simp
                      with_reducible rfl
                    rotate_left
                    · simp only [Act.put, List.setIfInBounds_toArray, List.set_cons_zero, List.set_cons_succ, i64_w, i32_w]
                      rfl
                    refine inv_at [0, 2, 3, 4, 5, 7, 8, 9, 10] (fun a0_ b a w' => ∃ (v109 : Value) (adz_v109 : Addr) (m3_ : Value), a = putSel a0_ b [(0, 8, v109), (2, 10, .int .i64 a0_0), (3, 11, m3_), (4, 12, .string (rdOf ByteArray.empty y108 a0_0)), (5, 13, .string ((rdOf ByteArray.empty y108 a0_0) ++ (⟨#[32]⟩ : ByteArray))), (7, 15, .int .i64 a0_1), (8, 16, .string t112), (9, 17, .string (((rdOf ByteArray.empty y108 a0_0) ++ (⟨#[32]⟩ : ByteArray)) ++ t112)), (10, 4, .string (((rdOf ByteArray.empty y108 a0_0) ++ (⟨#[32]⟩ : ByteArray)) ++ t112))] ∧ (w'.heap[gb106]? = some (.cells #[.int .i64 a0_0, .int .i64 a0_1, .int .i64 a0_2, .int .i64 a0_3] 26 (0, 0))) ∧ (Below w.heap.size w w') ∧ (b 0 = true → Kd.R Kd.string 9 w' w.heap.size (fun _ => True) v109 y108) ∧ (b 0 = true → ∃ c_, (v109 : Value) = .slice (some adz_v109) y108.length c_) ∧ (b 3 = true → (m3_ : Value) = .pointer (some (adz_v109.add (a0_0).toNat)))) HT_.out HW_.out (by kernel_rfl) (by kernel_rfl) ?_ ?_ ?_
                    · exact ⟨.bool false, ⟨0, 0, none⟩, .bool false, by simp only [putSel, Bool.false_eq_true, if_false], BK106.out, HB.out, fun h_ => absurd h_ (by decide), fun h_ => absurd h_ (by decide), fun h_ => absurd h_ (by decide)⟩
                    · skip
                      clear BK106 HB
                      refine steps_cons ?_ ?_
                      · rintro b a w' ⟨v109, adz_v109, m3_, ha, Q_BK106, Q_HB, Q_HO110, Q_HA_HO110, Q_X3_⟩ hb_ hon hoff
                        refine ⟨_, rfl, fun K hK => ?_⟩
                        replace ha := Aside0.mk ha
                        have BK106 := Aside0.mk Q_BK106
                        have HB := Aside0.mk Q_HB
                        refine Kd.R_lit_step Kd.string _ 9 ?hg (N := 8) ?hd (xs := ([(⟨#[]⟩ : ByteArray), (⟨#[119, 114, 105, 116, 101]⟩ : ByteArray), (⟨#[114, 101, 97, 100]⟩ : ByteArray), (⟨#[99, 117, 116]⟩ : ByteArray), (⟨#[111, 112, 101, 110]⟩ : ByteArray)] : List ByteArray)) (inner := [.string (⟨#[]⟩ : ByteArray), .string (⟨#[119, 114, 105, 116, 101]⟩ : ByteArray), .string (⟨#[114, 101, 97, 100]⟩ : ByteArray), .string (⟨#[99, 117, 116]⟩ : ByteArray), .string (⟨#[111, 112, 101, 110]⟩ : ByteArray)]) (ok := fun _ => True) (okp := fun _ => True) ?hr ?hp (fun _ hk => hk) trivial (Below.refl _ _) (Nat.le_refl _) (by simp) ?_; (case hd => rfl); (case hg => rfl); (case hr => first | (go_simp; done) | (go_simp; rfl)); (case hp => exact (Reps.one (show Kd.M Kd.string _ _ _ (⟨#[]⟩ : ByteArray) [.string (⟨#[]⟩ : ByteArray)] from rfl) (Reps.one (show Kd.M Kd.string _ _ _ (⟨#[119, 114, 105, 116, 101]⟩ : ByteArray) [.string (⟨#[119, 114, 105, 116, 101]⟩ : ByteArray)] from rfl) (Reps.one (show Kd.M Kd.string _ _ _ (⟨#[114, 101, 97, 100]⟩ : ByteArray) [.string (⟨#[114, 101, 97, 100]⟩ : ByteArray)] from rfl) (Reps.one (show Kd.M Kd.string _ _ _ (⟨#[99, 117, 116]⟩ : ByteArray) [.string (⟨#[99, 117, 116]⟩ : ByteArray)] from rfl) (Reps.one (show Kd.M Kd.string _ _ _ (⟨#[111, 112, 101, 110]⟩ : ByteArray) [.string (⟨#[111, 112, 101, 110]⟩ : ByteArray)] from rfl) (Reps.none _ _)))))))
                        intro v109 w52 ho53 hb hg_ hnew_
                        clear hg_ hnew_
                        (first | rw [← Ny108.out] at ho53 | (simp only [Int.reduceToNat] at ho53; rw [← Ny108.out] at ho53))
                        have n0_ := Aside0.mk (Kd.R_lower ho53 (below_size (by repeat (first | (with_reducible first | exact HB.out | apply below_alloc | apply pw_below_drewN | apply below_drew1 | refine below_set ?_ GE106.out) | exact HB.out))))
                        have n1_ := Aside0.mk (blk_below (g := gb106) (o := .cells #[.int .i64 a0_0, .int .i64 a0_1, .int .i64 a0_2, .int .i64 a0_3] 26 (0, 0)) (by (with_reducible repeat (first | refine blk_drewN ?_ _ | refine blk_drew ?_ | refine blk_alloc ?_ _)); exact BK106.out) hb)
                        have n2_ := Aside0.mk (below_step (by repeat (first | (with_reducible first | exact HB.out | apply below_alloc | apply pw_below_drewN | apply below_drew1 | refine below_set ?_ GE106.out) | exact HB.out)) hb)
                        clear BK106
                        clear HB
                        have HO110 := n0_
                        have BK106 := n1_
                        have HB := n2_
                        clear n0_ n1_ n2_
                        clear hb ho53
                        obtain ⟨Ao54, co54, eo54⟩ := Kd.R_slice HO110.out
                        subst eo54
                        obtain ⟨ado54, fo54, _⟩ := Kd.at_string (Kd.R_reads' HO110.out).2.2 0 (by decide) (by rw [Ny108.out]; simp)
                        cases fo54
                        refine hK.out _ _ ⟨.slice (some ado54) y108.length co54, ado54, m3_, (by rw [ha.out]; exact putSel_upk 0 hb_ rfl rfl rfl), (by (with_reducible repeat (first | refine blk_drewN ?_ _ | refine blk_drew ?_ | refine blk_alloc ?_ _)); exact BK106.out), (by repeat (first | (with_reducible first | exact HB.out | apply below_alloc | apply pw_below_drewN | apply below_drew1 | refine below_set ?_ GE106.out) | exact HB.out)), fun _ => (by (with_reducible repeat (first | apply Kd.R_alloc | apply Kd.R_drewN | apply Kd.R_drew)); exact HO110.out), fun _ => ⟨_, rfl⟩, fun h0_ => absurd ((hoff 3 (by kernel_rfl)).symm.trans h0_) (by decide)⟩
                      refine steps_cons ?_ ?_
                      · rintro b a w' ⟨v109, adz_v109, m3_, ha, Q_BK106, Q_HB, Q_HO110, Q_HA_HO110, Q_X3_⟩ hb_ hon hoff
                        refine ⟨_, rfl, fun K hK => ?_⟩
                        have e9 : a.tmps[9]? = some (.pointer (some ⟨gb106, 0, none⟩)) := by rw [ha]; exact (putSel_off rfl).trans rfl
                        replace ha := Aside0.mk ha
                        have BK106 := Aside0.mk Q_BK106
                        have HB := Aside0.mk Q_HB
                        have hc0_ : w'.cell? ⟨gb106, 0, none⟩ = some (.int .i64 a0_0) := (blk_cell BK106.out 0).trans rfl
                        have hc1_ : w'.cell? ⟨gb106, 1, none⟩ = some (.int .i64 a0_1) := (blk_cell BK106.out 1).trans rfl
                        have hc2_ : w'.cell? ⟨gb106, 2, none⟩ = some (.int .i64 a0_2) := (blk_cell BK106.out 2).trans rfl
                        have hc3_ : w'.cell? ⟨gb106, 3, none⟩ = some (.int .i64 a0_3) := (blk_cell BK106.out 3).trans rfl
                        refine value_ (w1 := w') (v := .int .i64 a0_0) (by rfl) rfl ?_ ?_
                        · go_simp
                          (try simp only [i64_w])
                          try rfl
                        refine hK.out _ _ ⟨v109, adz_v109, m3_, (by rw [ha.out]; exact putSel_upk 1 hb_ rfl rfl rfl), Q_BK106, Q_HB, Q_HO110, Q_HA_HO110, fun h0_ => absurd ((hoff 3 (by kernel_rfl)).symm.trans h0_) (by decide)⟩
                      refine steps_cons ?_ ?_
                      · rintro b a w' ⟨v109, adz_v109, m3_, ha, Q_BK106, Q_HB, Q_HO110, Q_HA_HO110, Q_X3_⟩ hb_ hon hoff
                        refine ⟨_, rfl, fun K hK => ?_⟩
                        have e8 : a.tmps[8]? = some (v109) := by rw [ha]; exact putSel_on (e := (0, 8, v109)) 0 rfl rfl (hon 0 (by kernel_rfl)) rfl
                        have e10 : a.tmps[10]? = some (.int .i64 a0_0) := by rw [ha]; exact putSel_on (e := (2, 10, .int .i64 a0_0)) 1 rfl rfl (hon 2 (by kernel_rfl)) rfl
                        replace ha := Aside0.mk ha
                        have BK106 := Aside0.mk Q_BK106
                        have HB := Aside0.mk Q_HB
                        have HO110 := Aside0.mk (Q_HO110 (hon 0 (by kernel_rfl)))
                        have HA_HO110 := Aside0.mk (Q_HA_HO110 (hon 0 (by kernel_rfl)))
                        obtain ⟨c_, hv_⟩ := HA_HO110.out
                        rw [hv_] at e8
                        refine value_ (w1 := w') (v := .pointer (some (adz_v109.add (a0_0).toNat))) (by rfl) rfl ?_ ?_
                        · go_simp
                          (try simp only [i64_w])
                          try rfl
                        refine hK.out _ _ ⟨v109, adz_v109, (.pointer (some (adz_v109.add (a0_0).toNat))), (by rw [ha.out]; exact putSel_upk 2 hb_ rfl rfl rfl), Q_BK106, Q_HB, Q_HO110, Q_HA_HO110, fun _ => rfl⟩
                      refine steps_cons ?_ ?_
                      · rintro b a w' ⟨v109, adz_v109, m3_, ha, Q_BK106, Q_HB, Q_HO110, Q_HA_HO110, Q_X3_⟩ hb_ hon hoff
                        refine ⟨_, rfl, fun K hK => ?_⟩
                        have e11 : a.tmps[11]? = some (m3_) := by rw [ha]; exact putSel_on (e := (3, 11, m3_)) 2 rfl rfl (hon 3 (by kernel_rfl)) rfl
                        rw [Q_X3_ (hon 3 (by kernel_rfl))] at e11
                        replace ha := Aside0.mk ha
                        have BK106 := Aside0.mk Q_BK106
                        have HB := Aside0.mk Q_HB
                        have HO110 := Aside0.mk (Q_HO110 (hon 0 (by kernel_rfl)))
                        have HA_HO110 := Aside0.mk (Q_HA_HO110 (hon 0 (by kernel_rfl)))
                        obtain ⟨c_, hv_⟩ := HA_HO110.out
                        have hF_ := HO110.out
                        rw [hv_] at hF_
                        obtain ⟨ad_, ea_, hx_⟩ := Kd.at_string (Kd.R_reads' hF_).2.2 a0_0 (of_eq_true pi111) (of_eq_true qi111)
                        cases ea_
                        refine value_ (w1 := w') (v := .string (rdOf ByteArray.empty y108 a0_0)) (by rfl) rfl ?_ ?_
                        · go_simp
                          (try simp only [i64_w])
                          try rfl
                        refine hK.out _ _ ⟨v109, adz_v109, m3_, (by rw [ha.out]; exact putSel_upk 3 hb_ rfl rfl rfl), Q_BK106, Q_HB, Q_HO110, Q_HA_HO110, Q_X3_⟩
                      refine steps_cons ?_ ?_
                      · rintro b a w' ⟨v109, adz_v109, m3_, ha, Q_BK106, Q_HB, Q_HO110, Q_HA_HO110, Q_X3_⟩ hb_ hon hoff
                        refine ⟨_, rfl, fun K hK => ?_⟩
                        have e12 : a.tmps[12]? = some (.string (rdOf ByteArray.empty y108 a0_0)) := by rw [ha]; exact putSel_on (e := (4, 12, .string (rdOf ByteArray.empty y108 a0_0))) 3 rfl rfl (hon 4 (by kernel_rfl)) rfl
                        replace ha := Aside0.mk ha
                        have BK106 := Aside0.mk Q_BK106
                        have HB := Aside0.mk Q_HB
                        have HO110 := Aside0.mk (Q_HO110 (hon 0 (by kernel_rfl)))
                        have HA_HO110 := Aside0.mk (Q_HA_HO110 (hon 0 (by kernel_rfl)))
                        refine value_ (w1 := w') (v := .string ((rdOf ByteArray.empty y108 a0_0) ++ (⟨#[32]⟩ : ByteArray))) (by rfl) rfl ?_ ?_
                        · go_simp
                          (try simp only [i64_w])
                          try rfl
                        refine hK.out _ _ ⟨v109, adz_v109, m3_, (by rw [ha.out]; exact putSel_upk 4 hb_ rfl rfl rfl), Q_BK106, Q_HB, Q_HO110, Q_HA_HO110, Q_X3_⟩
                      refine steps_cons ?_ ?_
                      · rintro b a w' ⟨v109, adz_v109, m3_, ha, Q_BK106, Q_HB, Q_HO110, Q_HA_HO110, Q_X3_⟩ hb_ hon hoff
                        refine ⟨_, rfl, fun K hK => ?_⟩
                        have e14 : a.tmps[14]? = some (.pointer (some ⟨gb106, 1, none⟩)) := by rw [ha]; exact (putSel_off rfl).trans rfl
                        replace ha := Aside0.mk ha
                        have BK106 := Aside0.mk Q_BK106
                        have HB := Aside0.mk Q_HB
                        have hc0_ : w'.cell? ⟨gb106, 0, none⟩ = some (.int .i64 a0_0) := (blk_cell BK106.out 0).trans rfl
                        have hc1_ : w'.cell? ⟨gb106, 1, none⟩ = some (.int .i64 a0_1) := (blk_cell BK106.out 1).trans rfl
                        have hc2_ : w'.cell? ⟨gb106, 2, none⟩ = some (.int .i64 a0_2) := (blk_cell BK106.out 2).trans rfl
                        have hc3_ : w'.cell? ⟨gb106, 3, none⟩ = some (.int .i64 a0_3) := (blk_cell BK106.out 3).trans rfl
                        refine value_ (w1 := w') (v := .int .i64 a0_1) (by rfl) rfl ?_ ?_
                        · go_simp
                          (try simp only [i64_w])
                          try rfl
                        refine hK.out _ _ ⟨v109, adz_v109, m3_, (by rw [ha.out]; exact putSel_upk 5 hb_ rfl rfl rfl), Q_BK106, Q_HB, Q_HO110, Q_HA_HO110, Q_X3_⟩
                      refine steps_cons ?_ ?_
                      · rintro b a w' ⟨v109, adz_v109, m3_, ha, Q_BK106, Q_HB, Q_HO110, Q_HA_HO110, Q_X3_⟩ hb_ hon hoff
                        refine ⟨_, rfl, fun K hK => ?_⟩
                        have e15 : a.tmps[15]? = some (.int .i64 a0_1) := by rw [ha]; exact putSel_on (e := (7, 15, .int .i64 a0_1)) 5 rfl rfl (hon 7 (by kernel_rfl)) rfl
                        replace ha := Aside0.mk ha
                        have BK106 := Aside0.mk Q_BK106
                        have HB := Aside0.mk Q_HB
                        refine goes_ Tryd.func21 (by kernel_rfl) rfl #[.int .i64 a0_1] (by rfl) rfl rfl (by first | (simp only [List.map_toArray, List.map_cons, List.map_nil, Act.eval, Array.getD_eq_getD_getElem?, Option.getD_some, e15]; done) | (simp only [List.map_toArray, List.map_cons, List.map_nil, Act.eval, Array.getD_eq_getD_getElem?, Option.getD_some, e15]; rfl)) ?_
                        with_reducible refine (spec_FormatInt.calls k a0_1 t112 _ A7.out).mono ?_
                        rintro e w52 ⟨rfl, hb⟩
                        refine ⟨_, rfl, ?_⟩
                        have n0_ := Aside0.mk (blk_below (g := gb106) (o := .cells #[.int .i64 a0_0, .int .i64 a0_1, .int .i64 a0_2, .int .i64 a0_3] 26 (0, 0)) (by (with_reducible repeat (first | refine blk_drewN ?_ _ | refine blk_drew ?_ | refine blk_alloc ?_ _)); exact BK106.out) hb)
                        have n1_ := Aside0.mk (below_step (by repeat (first | (with_reducible first | exact HB.out | apply below_alloc | apply pw_below_drewN | apply below_drew1 | refine below_set ?_ GE106.out) | exact HB.out)) hb)
                        have z_HO110 := fun (h0_ : b 0 = true) => (show Kd.R Kd.string 9 w52 w.heap.size (fun _ => True) v109 y108 from by first | exact (Kd.R_below (by (with_reducible repeat (first | apply Kd.R_alloc | apply Kd.R_drewN | apply Kd.R_drew)); exact (Q_HO110 h0_)) hb) | exact Kd.R_mono (Kd.R_below (by (with_reducible repeat (first | apply Kd.R_alloc | apply Kd.R_drewN | apply Kd.R_drew)); exact (Q_HO110 h0_)) hb) (fun _ h_ => by first | trivial | exact h_ | exact h_.1))
                        clear BK106
                        clear HB
                        have BK106 := n0_
                        have HB := n1_
                        clear n0_ n1_
                        (try clear hb)
                        (try clear hb2)
                        (try clear hk)
                        (try clear hi)
                        refine hK.out _ _ ⟨v109, adz_v109, m3_, (by rw [ha.out]; exact putSel_upk 6 hb_ rfl rfl rfl), (by (with_reducible repeat (first | refine blk_drewN ?_ _ | refine blk_drew ?_ | refine blk_alloc ?_ _)); exact BK106.out), (by repeat (first | (with_reducible first | exact HB.out | apply below_alloc | apply pw_below_drewN | apply below_drew1 | refine below_set ?_ GE106.out) | exact HB.out)), z_HO110, Q_HA_HO110, Q_X3_⟩
                      refine steps_cons ?_ ?_
                      · rintro b a w' ⟨v109, adz_v109, m3_, ha, Q_BK106, Q_HB, Q_HO110, Q_HA_HO110, Q_X3_⟩ hb_ hon hoff
                        refine ⟨_, rfl, fun K hK => ?_⟩
                        have e13 : a.tmps[13]? = some (.string ((rdOf ByteArray.empty y108 a0_0) ++ (⟨#[32]⟩ : ByteArray))) := by rw [ha]; exact putSel_on (e := (5, 13, .string ((rdOf ByteArray.empty y108 a0_0) ++ (⟨#[32]⟩ : ByteArray)))) 4 rfl rfl (hon 5 (by kernel_rfl)) rfl
                        have e16 : a.tmps[16]? = some (.string t112) := by rw [ha]; exact putSel_on (e := (8, 16, .string t112)) 6 rfl rfl (hon 8 (by kernel_rfl)) rfl
                        replace ha := Aside0.mk ha
                        have BK106 := Aside0.mk Q_BK106
                        have HB := Aside0.mk Q_HB
                        have HO110 := Aside0.mk (Q_HO110 (hon 0 (by kernel_rfl)))
                        have HA_HO110 := Aside0.mk (Q_HA_HO110 (hon 0 (by kernel_rfl)))
                        refine value_ (w1 := w') (v := .string (((rdOf ByteArray.empty y108 a0_0) ++ (⟨#[32]⟩ : ByteArray)) ++ t112)) (by rfl) rfl ?_ ?_
                        · go_simp
                          (try simp only [i64_w])
                          try rfl
                        refine hK.out _ _ ⟨v109, adz_v109, m3_, (by rw [ha.out]; exact putSel_upk 7 hb_ rfl rfl rfl), Q_BK106, Q_HB, Q_HO110, Q_HA_HO110, Q_X3_⟩
                      refine steps_cons ?_ ?_
                      · rintro b a w' ⟨v109, adz_v109, m3_, ha, Q_BK106, Q_HB, Q_HO110, Q_HA_HO110, Q_X3_⟩ hb_ hon hoff
                        refine ⟨_, rfl, fun K hK => ?_⟩
                        have e17 : a.tmps[17]? = some (.string (((rdOf ByteArray.empty y108 a0_0) ++ (⟨#[32]⟩ : ByteArray)) ++ t112)) := by rw [ha]; exact putSel_on (e := (9, 17, .string (((rdOf ByteArray.empty y108 a0_0) ++ (⟨#[32]⟩ : ByteArray)) ++ t112))) 7 rfl rfl (hon 9 (by kernel_rfl)) rfl
                        replace ha := Aside0.mk ha
                        have BK106 := Aside0.mk Q_BK106
                        have HB := Aside0.mk Q_HB
                        have HO110 := Aside0.mk (Q_HO110 (hon 0 (by kernel_rfl)))
                        have HA_HO110 := Aside0.mk (Q_HA_HO110 (hon 0 (by kernel_rfl)))
                        refine value_ (w1 := w') (v := .string (((rdOf ByteArray.empty y108 a0_0) ++ (⟨#[32]⟩ : ByteArray)) ++ t112)) (by rfl) rfl ?_ ?_
                        · go_simp
                          (try simp only [i64_w])
                          try rfl
                        refine hK.out _ _ ⟨v109, adz_v109, m3_, (by rw [ha.out]; exact putSel_upk 8 hb_ rfl rfl rfl), Q_BK106, Q_HB, Q_HO110, Q_HA_HO110, Q_X3_⟩
                      exact steps_nil
                    rintro b a w56 hall ⟨v109, adz_v109, m3_, ha, Q_BK106, Q_HB, Q_HO110, Q_HA_HO110, Q_X3_⟩
                    clear BK106 HB
                    have hb0_ := hall 0 (by kernel_rfl)
                    have hb2_ := hall 2 (by kernel_rfl)
                    have hb3_ := hall 3 (by kernel_rfl)
                    have hb4_ := hall 4 (by kernel_rfl)
                    have hb5_ := hall 5 (by kernel_rfl)
                    have hb7_ := hall 7 (by kernel_rfl)
                    have hb8_ := hall 8 (by kernel_rfl)
                    have hb9_ := hall 9 (by kernel_rfl)
                    have hb10_ := hall 10 (by kernel_rfl)
                    subst ha
                    obtain rfl := Q_X3_ hb3_
                    simp only [putSel, hb0_, hb2_, hb3_, hb4_, hb5_, hb7_, hb8_, hb9_, hb10_, if_true, Act.put, List.setIfInBounds_toArray, List.set_cons_zero, List.set_cons_succ]
                    have BK106 := Aside0.mk Q_BK106
                    clear Q_BK106
                    have HB := Aside0.mk Q_HB
                    clear Q_HB
                    have HO110 := Aside0.mk (Q_HO110 hb0_)
                    clear Q_HO110
                    have HA_HO110 := Aside0.mk (Q_HA_HO110 hb0_)
                    clear Q_HA_HO110
                    clear hall hb0_ hb2_ hb3_ hb4_ hb5_ hb7_ hb8_ hb9_ hb10_
                    obtain ⟨co57, eo57⟩ := HA_HO110.out
                    clear HA_HO110
                    subst eo57
                    have hcz58_0 : w56.cell? ⟨gb106, 0, none⟩ = some (.int .i64 a0_0) := (blk_cell BK106.out 0).trans rfl
                    have hcz58_1 : w56.cell? ⟨gb106, 1, none⟩ = some (.int .i64 a0_1) := (blk_cell BK106.out 1).trans rfl
                    have hcz58_2 : w56.cell? ⟨gb106, 2, none⟩ = some (.int .i64 a0_2) := (blk_cell BK106.out 2).trans rfl
                    have hcz58_3 : w56.cell? ⟨gb106, 3, none⟩ = some (.int .i64 a0_3) := (blk_cell BK106.out 3).trans rfl
                    have hfz58_0 := blk_frozen BK106.out 0
                    have hfz58_1 := blk_frozen BK106.out 1
                    have hfz58_2 := blk_frozen BK106.out 2
                    have hfz58_3 := blk_frozen BK106.out 3
                    try go_wp2_with (first | ((with_reducible refine gate_callee (f := 21) rfl ?_); refine goesL_ (some 34) rfl rfl Tryd.func21 (by kernel_rfl) rfl #[.int .i64 a0_3] rfl (by (try simp only [List.map_toArray, List.map_cons, List.map_nil]); first | done | rfl | (simp only [List.length_drop, List.length_take]; rfl)) ?_; (with_reducible refine (spec_FormatInt.calls k a0_3 t115 _ A46.out).mono ?_); rintro e w59 ⟨rfl, hb⟩; refine ⟨_, rfl, ?_⟩; have n0_ := Aside0.mk (Kd.R_below (by (with_reducible repeat (first | apply Kd.R_alloc | apply Kd.R_drewN | apply Kd.R_drew)); exact HO110.out) hb); have n1_ := Aside0.mk (blk_below (g := gb106) (o := .cells #[.int .i64 a0_0, .int .i64 a0_1, .int .i64 a0_2, .int .i64 a0_3] 26 (0, 0)) (by (with_reducible repeat (first | refine blk_drewN ?_ _ | refine blk_drew ?_ | refine blk_alloc ?_ _)); exact BK106.out) hb); have n2_ := Aside0.mk (below_step (by repeat (first | (with_reducible first | exact HB.out | apply below_alloc | apply pw_below_drewN | apply below_drew1 | refine below_set ?_ GE106.out) | exact HB.out)) hb); clear HO110; clear BK106; clear HB; have HO110 := n0_; have BK106 := n1_; have HB := n2_; clear n0_ n1_ n2_; (try clear hb); (try clear hb2); (try clear hk); (try clear hi)))
                    go_ret2
                    exact ⟨by first | rfl | (simp [errW_none, errW_some] <;> rfl) | (simp [*, errW_none, errW_some] <;> rfl), by repeat (first | (with_reducible first | exact HB.out | apply below_alloc | apply pw_below_drewN | apply below_drew1 | refine below_set ?_ GE106.out) | exact HB.out)⟩
                  · rw [if_neg c47] at H
                    exact absurd H (by simp)
                · rw [if_neg c45] at H
                  exact absurd H (by simp)
              · rw [if_neg c44] at H
                have c44b0 : (a0_0 == 1) = false := beq_eq_false_iff_ne.mpr c44
                have c44b1 : (a0_0 != 1) = true := bne_iff_ne.mpr c44
                simp only [Option.some.injEq, Prod.mk.injEq] at H
                obtain ⟨rfl, rfl⟩ := H
                go_enter Tryd.func7, Tryd.ntmps7
                try go_wp2_with (first | ((with_reducible refine gate_dst (N := 1) rfl ?_); refine box_event ?hg (N := 1) ?hd (cs := #[.int .i64 a0_0, .int .i64 a0_1, .int .i64 a0_2, .int .i64 a0_3]) (t := 26) ?hr ?_; (case hd => rfl); (case hg => rfl); (case hr => first | (go_simp; done) | (go_simp; rfl)); intro gb106 hg w60 hbox hb; have n0_ := Aside0.mk (below_step (by repeat (first | (with_reducible first | exact HB.out | apply below_alloc | apply pw_below_drewN | apply below_drew1) | exact HB.out)) hb); have n1_ := Aside0.mk (hbox); have n2_ := Aside0.mk ((by rw [hg]; exact (below_size (by repeat (first | (with_reducible first | exact HB.out | apply below_alloc | apply pw_below_drewN | apply below_drew1) | exact HB.out))) : w.heap.size ≤ gb106)); have n3_ := Aside0.mk ((by rw [hg]; exact (below_size (by repeat (first | (with_reducible first | exact HB.out | apply below_alloc | apply pw_below_drewN | apply below_drew1) | exact HB.out))) : w.heap.size ≤ gb106)); clear HB; have HB := n0_; have BK106 := n1_; have GW106 := n2_; have GE106 := n3_; clear n0_ n1_ n2_ n3_; clear hb hbox hg; have hcz61_0 : w60.cell? ⟨gb106, 0, none⟩ = some (.int .i64 a0_0) := (blk_cell BK106.out 0).trans rfl; have hcz61_1 : w60.cell? ⟨gb106, 1, none⟩ = some (.int .i64 a0_1) := (blk_cell BK106.out 1).trans rfl; have hcz61_2 : w60.cell? ⟨gb106, 2, none⟩ = some (.int .i64 a0_2) := (blk_cell BK106.out 2).trans rfl; have hcz61_3 : w60.cell? ⟨gb106, 3, none⟩ = some (.int .i64 a0_3) := (blk_cell BK106.out 3).trans rfl; have hfz61_0 := blk_frozen BK106.out 0; have hfz61_1 := blk_frozen BK106.out 1; have hfz61_2 := blk_frozen BK106.out 2; have hfz61_3 := blk_frozen BK106.out 3) | ((with_reducible refine gate_callee (f := 20) rfl ?_); refine goesL_ (some 6) rfl rfl Tryd.func20 (by kernel_rfl) rfl #[.agg #[.int .i64 a0_0, .int .i64 a0_1, .int .i64 a0_2, .int .i64 a0_3]] rfl (by (try simp only [List.map_toArray, List.map_cons, List.map_nil]); first | done | rfl | (simp only [List.length_drop, List.length_take]; rfl)) ?_; (with_reducible refine (spec_ActOk.calls a0_0 a0_1 a0_2 a0_3 true _ A2.out).mono ?_); rintro e w62 ⟨rfl, hb⟩; refine ⟨_, rfl, ?_⟩; have n0_ := Aside0.mk (blk_below (g := gb106) (o := .cells #[.int .i64 a0_0, .int .i64 a0_1, .int .i64 a0_2, .int .i64 a0_3] 26 (0, 0)) (by (with_reducible repeat (first | refine blk_drewN ?_ _ | refine blk_drew ?_ | refine blk_alloc ?_ _)); exact BK106.out) hb); have n1_ := Aside0.mk (below_step (by repeat (first | (with_reducible first | exact HB.out | apply below_alloc | apply pw_below_drewN | apply below_drew1 | refine below_set ?_ GE106.out) | exact HB.out)) hb); clear BK106; clear HB; have BK106 := n0_; have HB := n1_; clear n0_ n1_; (try clear hb); (try clear hb2); (try clear hk); (try clear hi)))
                have pi111 : (0 ≤ (a0_0 : Int)) = True := eq_true (of_decide_eq_true (by first | (with_reducible assumption) | assumption))
                have qi111 : (a0_0 < (y108.length : Int)) = True := eq_true (of_decide_eq_true (by first | (with_reducible assumption) | assumption))
                have n0_ := Aside0.mk (blk_drew BK106.out)
                have n1_ := Aside0.mk (below_drew1 HB.out)
                clear BK106
                clear HB
                have BK106 := n0_
                have HB := n1_
                clear n0_ n1_
                refine start_ (n := 11) (S := fun w' => True) (ds := []) #[false, false, false, false, false, false, false, false, false, false, false] (by kernel_rfl) rfl rfl trivial (fun hHeld => ?_); refine with_tabW spec_FormatAct.tab3 spec_FormatAct.bits3 (fun HT_ HW_ => ?_)
                generalize w62.drew = w63 at BK106 HB hHeld ⊢
                refine pure_ (i := 1) (N := some 9) (v := ?_) (a' := ?_) #[false, true, false, false, false, false, false, false, false, false, false] rfl rfl (any_of HT_.out (by kernel_rfl)) (fun _ _ _ h => h) (Or.inl ⟨by rfl, ?_⟩) ?_ ?_
                rotate_left
                · intro w'
                  go_simp
                  with_reducible rfl
                rotate_left
                · simp only [Act.put, List.setIfInBounds_toArray, List.set_cons_zero, List.set_cons_succ, i64_w, i32_w]
                  rfl
                refine pure_ (i := 6) (N := some 14) (v := ?_) (a' := ?_) #[false, true, false, false, false, false, true, false, false, false, false] rfl rfl (any_of HT_.out (by kernel_rfl)) (fun _ _ _ h => h) (Or.inl ⟨by rfl, ?_⟩) ?_ ?_
                rotate_left
                · intro w'
                  go_simp
                  with_reducible rfl
                rotate_left
                · simp only [Act.put, List.setIfInBounds_toArray, List.set_cons_zero, List.set_cons_succ, i64_w, i32_w]
                  rfl
                refine inv_at [0, 2, 3, 4, 5, 7, 8, 9, 10] (fun a0_ b a w' => ∃ (v109 : Value) (adz_v109 : Addr) (m3_ : Value), a = putSel a0_ b [(0, 8, v109), (2, 10, .int .i64 a0_0), (3, 11, m3_), (4, 12, .string (rdOf ByteArray.empty y108 a0_0)), (5, 13, .string ((rdOf ByteArray.empty y108 a0_0) ++ (⟨#[32]⟩ : ByteArray))), (7, 15, .int .i64 a0_1), (8, 16, .string t112), (9, 17, .string (((rdOf ByteArray.empty y108 a0_0) ++ (⟨#[32]⟩ : ByteArray)) ++ t112)), (10, 4, .string (((rdOf ByteArray.empty y108 a0_0) ++ (⟨#[32]⟩ : ByteArray)) ++ t112))] ∧ (w'.heap[gb106]? = some (.cells #[.int .i64 a0_0, .int .i64 a0_1, .int .i64 a0_2, .int .i64 a0_3] 26 (0, 0))) ∧ (Below w.heap.size w w') ∧ (b 0 = true → Kd.R Kd.string 9 w' w.heap.size (fun _ => True) v109 y108) ∧ (b 0 = true → ∃ c_, (v109 : Value) = .slice (some adz_v109) y108.length c_) ∧ (b 3 = true → (m3_ : Value) = .pointer (some (adz_v109.add (a0_0).toNat)))) HT_.out HW_.out (by kernel_rfl) (by kernel_rfl) ?_ ?_ ?_
                · exact ⟨.bool false, ⟨0, 0, none⟩, .bool false, by simp only [putSel, Bool.false_eq_true, if_false], BK106.out, HB.out, fun h_ => absurd h_ (by decide), fun h_ => absurd h_ (by decide), fun h_ => absurd h_ (by decide)⟩
                · skip
                  clear BK106 HB
                  refine steps_cons ?_ ?_
                  · rintro b a w' ⟨v109, adz_v109, m3_, ha, Q_BK106, Q_HB, Q_HO110, Q_HA_HO110, Q_X3_⟩ hb_ hon hoff
                    refine ⟨_, rfl, fun K hK => ?_⟩
                    replace ha := Aside0.mk ha
                    have BK106 := Aside0.mk Q_BK106
                    have HB := Aside0.mk Q_HB
                    refine Kd.R_lit_step Kd.string _ 9 ?hg (N := 8) ?hd (xs := ([(⟨#[]⟩ : ByteArray), (⟨#[119, 114, 105, 116, 101]⟩ : ByteArray), (⟨#[114, 101, 97, 100]⟩ : ByteArray), (⟨#[99, 117, 116]⟩ : ByteArray), (⟨#[111, 112, 101, 110]⟩ : ByteArray)] : List ByteArray)) (inner := [.string (⟨#[]⟩ : ByteArray), .string (⟨#[119, 114, 105, 116, 101]⟩ : ByteArray), .string (⟨#[114, 101, 97, 100]⟩ : ByteArray), .string (⟨#[99, 117, 116]⟩ : ByteArray), .string (⟨#[111, 112, 101, 110]⟩ : ByteArray)]) (ok := fun _ => True) (okp := fun _ => True) ?hr ?hp (fun _ hk => hk) trivial (Below.refl _ _) (Nat.le_refl _) (by simp) ?_; (case hd => rfl); (case hg => rfl); (case hr => first | (go_simp; done) | (go_simp; rfl)); (case hp => exact (Reps.one (show Kd.M Kd.string _ _ _ (⟨#[]⟩ : ByteArray) [.string (⟨#[]⟩ : ByteArray)] from rfl) (Reps.one (show Kd.M Kd.string _ _ _ (⟨#[119, 114, 105, 116, 101]⟩ : ByteArray) [.string (⟨#[119, 114, 105, 116, 101]⟩ : ByteArray)] from rfl) (Reps.one (show Kd.M Kd.string _ _ _ (⟨#[114, 101, 97, 100]⟩ : ByteArray) [.string (⟨#[114, 101, 97, 100]⟩ : ByteArray)] from rfl) (Reps.one (show Kd.M Kd.string _ _ _ (⟨#[99, 117, 116]⟩ : ByteArray) [.string (⟨#[99, 117, 116]⟩ : ByteArray)] from rfl) (Reps.one (show Kd.M Kd.string _ _ _ (⟨#[111, 112, 101, 110]⟩ : ByteArray) [.string (⟨#[111, 112, 101, 110]⟩ : ByteArray)] from rfl) (Reps.none _ _)))))))
                    intro v109 w64 ho65 hb hg_ hnew_
                    clear hg_ hnew_
                    (first | rw [← Ny108.out] at ho65 | (simp only [Int.reduceToNat] at ho65; rw [← Ny108.out] at ho65))
                    have n0_ := Aside0.mk (Kd.R_lower ho65 (below_size (by repeat (first | (with_reducible first | exact HB.out | apply below_alloc | apply pw_below_drewN | apply below_drew1 | refine below_set ?_ GE106.out) | exact HB.out))))
                    have n1_ := Aside0.mk (blk_below (g := gb106) (o := .cells #[.int .i64 a0_0, .int .i64 a0_1, .int .i64 a0_2, .int .i64 a0_3] 26 (0, 0)) (by (with_reducible repeat (first | refine blk_drewN ?_ _ | refine blk_drew ?_ | refine blk_alloc ?_ _)); exact BK106.out) hb)
                    have n2_ := Aside0.mk (below_step (by repeat (first | (with_reducible first | exact HB.out | apply below_alloc | apply pw_below_drewN | apply below_drew1 | refine below_set ?_ GE106.out) | exact HB.out)) hb)
                    clear BK106
                    clear HB
                    have HO110 := n0_
                    have BK106 := n1_
                    have HB := n2_
                    clear n0_ n1_ n2_
                    clear hb ho65
                    obtain ⟨Ao66, co66, eo66⟩ := Kd.R_slice HO110.out
                    subst eo66
                    obtain ⟨ado66, fo66, _⟩ := Kd.at_string (Kd.R_reads' HO110.out).2.2 0 (by decide) (by rw [Ny108.out]; simp)
                    cases fo66
                    refine hK.out _ _ ⟨.slice (some ado66) y108.length co66, ado66, m3_, (by rw [ha.out]; exact putSel_upk 0 hb_ rfl rfl rfl), (by (with_reducible repeat (first | refine blk_drewN ?_ _ | refine blk_drew ?_ | refine blk_alloc ?_ _)); exact BK106.out), (by repeat (first | (with_reducible first | exact HB.out | apply below_alloc | apply pw_below_drewN | apply below_drew1 | refine below_set ?_ GE106.out) | exact HB.out)), fun _ => (by (with_reducible repeat (first | apply Kd.R_alloc | apply Kd.R_drewN | apply Kd.R_drew)); exact HO110.out), fun _ => ⟨_, rfl⟩, fun h0_ => absurd ((hoff 3 (by kernel_rfl)).symm.trans h0_) (by decide)⟩
                  refine steps_cons ?_ ?_
                  · rintro b a w' ⟨v109, adz_v109, m3_, ha, Q_BK106, Q_HB, Q_HO110, Q_HA_HO110, Q_X3_⟩ hb_ hon hoff
                    refine ⟨_, rfl, fun K hK => ?_⟩
                    have e9 : a.tmps[9]? = some (.pointer (some ⟨gb106, 0, none⟩)) := by rw [ha]; exact (putSel_off rfl).trans rfl
                    replace ha := Aside0.mk ha
                    have BK106 := Aside0.mk Q_BK106
                    have HB := Aside0.mk Q_HB
                    have hc0_ : w'.cell? ⟨gb106, 0, none⟩ = some (.int .i64 a0_0) := (blk_cell BK106.out 0).trans rfl
                    have hc1_ : w'.cell? ⟨gb106, 1, none⟩ = some (.int .i64 a0_1) := (blk_cell BK106.out 1).trans rfl
                    have hc2_ : w'.cell? ⟨gb106, 2, none⟩ = some (.int .i64 a0_2) := (blk_cell BK106.out 2).trans rfl
                    have hc3_ : w'.cell? ⟨gb106, 3, none⟩ = some (.int .i64 a0_3) := (blk_cell BK106.out 3).trans rfl
                    refine value_ (w1 := w') (v := .int .i64 a0_0) (by rfl) rfl ?_ ?_
                    · go_simp
                      (try simp only [i64_w])
                      try rfl
                    refine hK.out _ _ ⟨v109, adz_v109, m3_, (by rw [ha.out]; exact putSel_upk 1 hb_ rfl rfl rfl), Q_BK106, Q_HB, Q_HO110, Q_HA_HO110, fun h0_ => absurd ((hoff 3 (by kernel_rfl)).symm.trans h0_) (by decide)⟩
                  refine steps_cons ?_ ?_
                  · rintro b a w' ⟨v109, adz_v109, m3_, ha, Q_BK106, Q_HB, Q_HO110, Q_HA_HO110, Q_X3_⟩ hb_ hon hoff
                    refine ⟨_, rfl, fun K hK => ?_⟩
                    have e8 : a.tmps[8]? = some (v109) := by rw [ha]; exact putSel_on (e := (0, 8, v109)) 0 rfl rfl (hon 0 (by kernel_rfl)) rfl
                    have e10 : a.tmps[10]? = some (.int .i64 a0_0) := by rw [ha]; exact putSel_on (e := (2, 10, .int .i64 a0_0)) 1 rfl rfl (hon 2 (by kernel_rfl)) rfl
                    replace ha := Aside0.mk ha
                    have BK106 := Aside0.mk Q_BK106
                    have HB := Aside0.mk Q_HB
                    have HO110 := Aside0.mk (Q_HO110 (hon 0 (by kernel_rfl)))
                    have HA_HO110 := Aside0.mk (Q_HA_HO110 (hon 0 (by kernel_rfl)))
                    obtain ⟨c_, hv_⟩ := HA_HO110.out
                    rw [hv_] at e8
                    refine value_ (w1 := w') (v := .pointer (some (adz_v109.add (a0_0).toNat))) (by rfl) rfl ?_ ?_
                    · go_simp
                      (try simp only [i64_w])
                      try rfl
                    refine hK.out _ _ ⟨v109, adz_v109, (.pointer (some (adz_v109.add (a0_0).toNat))), (by rw [ha.out]; exact putSel_upk 2 hb_ rfl rfl rfl), Q_BK106, Q_HB, Q_HO110, Q_HA_HO110, fun _ => rfl⟩
                  refine steps_cons ?_ ?_
                  · rintro b a w' ⟨v109, adz_v109, m3_, ha, Q_BK106, Q_HB, Q_HO110, Q_HA_HO110, Q_X3_⟩ hb_ hon hoff
                    refine ⟨_, rfl, fun K hK => ?_⟩
                    have e11 : a.tmps[11]? = some (m3_) := by rw [ha]; exact putSel_on (e := (3, 11, m3_)) 2 rfl rfl (hon 3 (by kernel_rfl)) rfl
                    rw [Q_X3_ (hon 3 (by kernel_rfl))] at e11
                    replace ha := Aside0.mk ha
                    have BK106 := Aside0.mk Q_BK106
                    have HB := Aside0.mk Q_HB
                    have HO110 := Aside0.mk (Q_HO110 (hon 0 (by kernel_rfl)))
                    have HA_HO110 := Aside0.mk (Q_HA_HO110 (hon 0 (by kernel_rfl)))
                    obtain ⟨c_, hv_⟩ := HA_HO110.out
                    have hF_ := HO110.out
                    rw [hv_] at hF_
                    obtain ⟨ad_, ea_, hx_⟩ := Kd.at_string (Kd.R_reads' hF_).2.2 a0_0 (of_eq_true pi111) (of_eq_true qi111)
                    cases ea_
                    refine value_ (w1 := w') (v := .string (rdOf ByteArray.empty y108 a0_0)) (by rfl) rfl ?_ ?_
                    · go_simp
                      (try simp only [i64_w])
                      try rfl
                    refine hK.out _ _ ⟨v109, adz_v109, m3_, (by rw [ha.out]; exact putSel_upk 3 hb_ rfl rfl rfl), Q_BK106, Q_HB, Q_HO110, Q_HA_HO110, Q_X3_⟩
                  refine steps_cons ?_ ?_
                  · rintro b a w' ⟨v109, adz_v109, m3_, ha, Q_BK106, Q_HB, Q_HO110, Q_HA_HO110, Q_X3_⟩ hb_ hon hoff
                    refine ⟨_, rfl, fun K hK => ?_⟩
                    have e12 : a.tmps[12]? = some (.string (rdOf ByteArray.empty y108 a0_0)) := by rw [ha]; exact putSel_on (e := (4, 12, .string (rdOf ByteArray.empty y108 a0_0))) 3 rfl rfl (hon 4 (by kernel_rfl)) rfl
                    replace ha := Aside0.mk ha
                    have BK106 := Aside0.mk Q_BK106
                    have HB := Aside0.mk Q_HB
                    have HO110 := Aside0.mk (Q_HO110 (hon 0 (by kernel_rfl)))
                    have HA_HO110 := Aside0.mk (Q_HA_HO110 (hon 0 (by kernel_rfl)))
                    refine value_ (w1 := w') (v := .string ((rdOf ByteArray.empty y108 a0_0) ++ (⟨#[32]⟩ : ByteArray))) (by rfl) rfl ?_ ?_
                    · go_simp
                      (try simp only [i64_w])
                      try rfl
                    refine hK.out _ _ ⟨v109, adz_v109, m3_, (by rw [ha.out]; exact putSel_upk 4 hb_ rfl rfl rfl), Q_BK106, Q_HB, Q_HO110, Q_HA_HO110, Q_X3_⟩
                  refine steps_cons ?_ ?_
                  · rintro b a w' ⟨v109, adz_v109, m3_, ha, Q_BK106, Q_HB, Q_HO110, Q_HA_HO110, Q_X3_⟩ hb_ hon hoff
                    refine ⟨_, rfl, fun K hK => ?_⟩
                    have e14 : a.tmps[14]? = some (.pointer (some ⟨gb106, 1, none⟩)) := by rw [ha]; exact (putSel_off rfl).trans rfl
                    replace ha := Aside0.mk ha
                    have BK106 := Aside0.mk Q_BK106
                    have HB := Aside0.mk Q_HB
                    have hc0_ : w'.cell? ⟨gb106, 0, none⟩ = some (.int .i64 a0_0) := (blk_cell BK106.out 0).trans rfl
                    have hc1_ : w'.cell? ⟨gb106, 1, none⟩ = some (.int .i64 a0_1) := (blk_cell BK106.out 1).trans rfl
                    have hc2_ : w'.cell? ⟨gb106, 2, none⟩ = some (.int .i64 a0_2) := (blk_cell BK106.out 2).trans rfl
                    have hc3_ : w'.cell? ⟨gb106, 3, none⟩ = some (.int .i64 a0_3) := (blk_cell BK106.out 3).trans rfl
                    refine value_ (w1 := w') (v := .int .i64 a0_1) (by rfl) rfl ?_ ?_
                    · go_simp
                      (try simp only [i64_w])
                      try rfl
                    refine hK.out _ _ ⟨v109, adz_v109, m3_, (by rw [ha.out]; exact putSel_upk 5 hb_ rfl rfl rfl), Q_BK106, Q_HB, Q_HO110, Q_HA_HO110, Q_X3_⟩
                  refine steps_cons ?_ ?_
                  · rintro b a w' ⟨v109, adz_v109, m3_, ha, Q_BK106, Q_HB, Q_HO110, Q_HA_HO110, Q_X3_⟩ hb_ hon hoff
                    refine ⟨_, rfl, fun K hK => ?_⟩
                    have e15 : a.tmps[15]? = some (.int .i64 a0_1) := by rw [ha]; exact putSel_on (e := (7, 15, .int .i64 a0_1)) 5 rfl rfl (hon 7 (by kernel_rfl)) rfl
                    replace ha := Aside0.mk ha
                    have BK106 := Aside0.mk Q_BK106
                    have HB := Aside0.mk Q_HB
                    refine goes_ Tryd.func21 (by kernel_rfl) rfl #[.int .i64 a0_1] (by rfl) rfl rfl (by first | (simp only [List.map_toArray, List.map_cons, List.map_nil, Act.eval, Array.getD_eq_getD_getElem?, Option.getD_some, e15]; done) | (simp only [List.map_toArray, List.map_cons, List.map_nil, Act.eval, Array.getD_eq_getD_getElem?, Option.getD_some, e15]; rfl)) ?_
                    with_reducible refine (spec_FormatInt.calls k a0_1 t112 _ A7.out).mono ?_
                    rintro e w64 ⟨rfl, hb⟩
                    refine ⟨_, rfl, ?_⟩
                    have n0_ := Aside0.mk (blk_below (g := gb106) (o := .cells #[.int .i64 a0_0, .int .i64 a0_1, .int .i64 a0_2, .int .i64 a0_3] 26 (0, 0)) (by (with_reducible repeat (first | refine blk_drewN ?_ _ | refine blk_drew ?_ | refine blk_alloc ?_ _)); exact BK106.out) hb)
                    have n1_ := Aside0.mk (below_step (by repeat (first | (with_reducible first | exact HB.out | apply below_alloc | apply pw_below_drewN | apply below_drew1 | refine below_set ?_ GE106.out) | exact HB.out)) hb)
                    have z_HO110 := fun (h0_ : b 0 = true) => (show Kd.R Kd.string 9 w64 w.heap.size (fun _ => True) v109 y108 from by first | exact (Kd.R_below (by (with_reducible repeat (first | apply Kd.R_alloc | apply Kd.R_drewN | apply Kd.R_drew)); exact (Q_HO110 h0_)) hb) | exact Kd.R_mono (Kd.R_below (by (with_reducible repeat (first | apply Kd.R_alloc | apply Kd.R_drewN | apply Kd.R_drew)); exact (Q_HO110 h0_)) hb) (fun _ h_ => by first | trivial | exact h_ | exact h_.1))
                    clear BK106
                    clear HB
                    have BK106 := n0_
                    have HB := n1_
                    clear n0_ n1_
                    (try clear hb)
                    (try clear hb2)
                    (try clear hk)
                    (try clear hi)
                    refine hK.out _ _ ⟨v109, adz_v109, m3_, (by rw [ha.out]; exact putSel_upk 6 hb_ rfl rfl rfl), (by (with_reducible repeat (first | refine blk_drewN ?_ _ | refine blk_drew ?_ | refine blk_alloc ?_ _)); exact BK106.out), (by repeat (first | (with_reducible first | exact HB.out | apply below_alloc | apply pw_below_drewN | apply below_drew1 | refine below_set ?_ GE106.out) | exact HB.out)), z_HO110, Q_HA_HO110, Q_X3_⟩
                  refine steps_cons ?_ ?_
                  · rintro b a w' ⟨v109, adz_v109, m3_, ha, Q_BK106, Q_HB, Q_HO110, Q_HA_HO110, Q_X3_⟩ hb_ hon hoff
                    refine ⟨_, rfl, fun K hK => ?_⟩
                    have e13 : a.tmps[13]? = some (.string ((rdOf ByteArray.empty y108 a0_0) ++ (⟨#[32]⟩ : ByteArray))) := by rw [ha]; exact putSel_on (e := (5, 13, .string ((rdOf ByteArray.empty y108 a0_0) ++ (⟨#[32]⟩ : ByteArray)))) 4 rfl rfl (hon 5 (by kernel_rfl)) rfl
                    have e16 : a.tmps[16]? = some (.string t112) := by rw [ha]; exact putSel_on (e := (8, 16, .string t112)) 6 rfl rfl (hon 8 (by kernel_rfl)) rfl
                    replace ha := Aside0.mk ha
                    have BK106 := Aside0.mk Q_BK106
                    have HB := Aside0.mk Q_HB
                    have HO110 := Aside0.mk (Q_HO110 (hon 0 (by kernel_rfl)))
                    have HA_HO110 := Aside0.mk (Q_HA_HO110 (hon 0 (by kernel_rfl)))
                    refine value_ (w1 := w') (v := .string (((rdOf ByteArray.empty y108 a0_0) ++ (⟨#[32]⟩ : ByteArray)) ++ t112)) (by rfl) rfl ?_ ?_
                    · go_simp
                      (try simp only [i64_w])
                      try rfl
                    refine hK.out _ _ ⟨v109, adz_v109, m3_, (by rw [ha.out]; exact putSel_upk 7 hb_ rfl rfl rfl), Q_BK106, Q_HB, Q_HO110, Q_HA_HO110, Q_X3_⟩
                  refine steps_cons ?_ ?_
                  · rintro b a w' ⟨v109, adz_v109, m3_, ha, Q_BK106, Q_HB, Q_HO110, Q_HA_HO110, Q_X3_⟩ hb_ hon hoff
                    refine ⟨_, rfl, fun K hK => ?_⟩
                    have e17 : a.tmps[17]? = some (.string (((rdOf ByteArray.empty y108 a0_0) ++ (⟨#[32]⟩ : ByteArray)) ++ t112)) := by rw [ha]; exact putSel_on (e := (9, 17, .string (((rdOf ByteArray.empty y108 a0_0) ++ (⟨#[32]⟩ : ByteArray)) ++ t112))) 7 rfl rfl (hon 9 (by kernel_rfl)) rfl
                    replace ha := Aside0.mk ha
                    have BK106 := Aside0.mk Q_BK106
                    have HB := Aside0.mk Q_HB
                    have HO110 := Aside0.mk (Q_HO110 (hon 0 (by kernel_rfl)))
                    have HA_HO110 := Aside0.mk (Q_HA_HO110 (hon 0 (by kernel_rfl)))
                    refine value_ (w1 := w') (v := .string (((rdOf ByteArray.empty y108 a0_0) ++ (⟨#[32]⟩ : ByteArray)) ++ t112)) (by rfl) rfl ?_ ?_
                    · go_simp
                      (try simp only [i64_w])
                      try rfl
                    refine hK.out _ _ ⟨v109, adz_v109, m3_, (by rw [ha.out]; exact putSel_upk 8 hb_ rfl rfl rfl), Q_BK106, Q_HB, Q_HO110, Q_HA_HO110, Q_X3_⟩
                  exact steps_nil
                rintro b a w68 hall ⟨v109, adz_v109, m3_, ha, Q_BK106, Q_HB, Q_HO110, Q_HA_HO110, Q_X3_⟩
                clear BK106 HB
                have hb0_ := hall 0 (by kernel_rfl)
                have hb2_ := hall 2 (by kernel_rfl)
                have hb3_ := hall 3 (by kernel_rfl)
                have hb4_ := hall 4 (by kernel_rfl)
                have hb5_ := hall 5 (by kernel_rfl)
                have hb7_ := hall 7 (by kernel_rfl)
                have hb8_ := hall 8 (by kernel_rfl)
                have hb9_ := hall 9 (by kernel_rfl)
                have hb10_ := hall 10 (by kernel_rfl)
                subst ha
                obtain rfl := Q_X3_ hb3_
                simp only [putSel, hb0_, hb2_, hb3_, hb4_, hb5_, hb7_, hb8_, hb9_, hb10_, if_true, Act.put, List.setIfInBounds_toArray, List.set_cons_zero, List.set_cons_succ]
                have BK106 := Aside0.mk Q_BK106
                clear Q_BK106
                have HB := Aside0.mk Q_HB
                clear Q_HB
                have HO110 := Aside0.mk (Q_HO110 hb0_)
                clear Q_HO110
                have HA_HO110 := Aside0.mk (Q_HA_HO110 hb0_)
                clear Q_HA_HO110
                clear hall hb0_ hb2_ hb3_ hb4_ hb5_ hb7_ hb8_ hb9_ hb10_
                obtain ⟨co69, eo69⟩ := HA_HO110.out
                clear HA_HO110
                subst eo69
                have hcz70_0 : w68.cell? ⟨gb106, 0, none⟩ = some (.int .i64 a0_0) := (blk_cell BK106.out 0).trans rfl
                have hcz70_1 : w68.cell? ⟨gb106, 1, none⟩ = some (.int .i64 a0_1) := (blk_cell BK106.out 1).trans rfl
                have hcz70_2 : w68.cell? ⟨gb106, 2, none⟩ = some (.int .i64 a0_2) := (blk_cell BK106.out 2).trans rfl
                have hcz70_3 : w68.cell? ⟨gb106, 3, none⟩ = some (.int .i64 a0_3) := (blk_cell BK106.out 3).trans rfl
                have hfz70_0 := blk_frozen BK106.out 0
                have hfz70_1 := blk_frozen BK106.out 1
                have hfz70_2 := blk_frozen BK106.out 2
                have hfz70_3 := blk_frozen BK106.out 3
                try go_wp2
                go_ret2
                exact ⟨by first | rfl | (simp [errW_none, errW_some] <;> rfl) | (simp [*, errW_none, errW_some] <;> rfl), by repeat (first | (with_reducible first | exact HB.out | apply below_alloc | apply pw_below_drewN | apply below_drew1 | refine below_set ?_ GE106.out) | exact HB.out)⟩
          · rw [if_neg c8] at H
            exact absurd H (by simp)
        · rw [if_neg c6] at H
          exact absurd H (by simp)
      · rw [if_neg c5] at H
        exact absurd H (by simp)
    · rw [if_neg c4] at H
      exact absurd H (by simp)
  · replace c3 := Bool.eq_false_iff.mpr c3
    subst c3
    have H1 : (some ((⟨#[]⟩ : ByteArray), false)) = some (r1, r2) := by rw [if_neg (show ¬ (false = true) by decide)] at H; exact H
    clear H
    have H := H1
    clear H1
    simp only [Option.some.injEq, Prod.mk.injEq] at H
    obtain ⟨rfl, rfl⟩ := H
    go_enter Tryd.func7, Tryd.ntmps7
    go_wp2_with (first | ((with_reducible refine gate_dst (N := 1) rfl ?_); refine box_event ?hg (N := 1) ?hd (cs := #[.int .i64 a0_0, .int .i64 a0_1, .int .i64 a0_2, .int .i64 a0_3]) (t := 26) ?hr ?_; (case hd => rfl); (case hg => rfl); (case hr => first | (go_simp; done) | (go_simp; rfl)); intro gb106 hg w71 hbox hb; have n0_ := Aside0.mk (below_step (by repeat (first | (with_reducible first | exact HB.out | apply below_alloc | apply pw_below_drewN | apply below_drew1) | exact HB.out)) hb); have n1_ := Aside0.mk (hbox); have n2_ := Aside0.mk ((by rw [hg]; exact (below_size (by repeat (first | (with_reducible first | exact HB.out | apply below_alloc | apply pw_below_drewN | apply below_drew1) | exact HB.out))) : w.heap.size ≤ gb106)); have n3_ := Aside0.mk ((by rw [hg]; exact (below_size (by repeat (first | (with_reducible first | exact HB.out | apply below_alloc | apply pw_below_drewN | apply below_drew1) | exact HB.out))) : w.heap.size ≤ gb106)); clear HB; have HB := n0_; have BK106 := n1_; have GW106 := n2_; have GE106 := n3_; clear n0_ n1_ n2_ n3_; clear hb hbox hg; have hcz72_0 : w71.cell? ⟨gb106, 0, none⟩ = some (.int .i64 a0_0) := (blk_cell BK106.out 0).trans rfl; have hcz72_1 : w71.cell? ⟨gb106, 1, none⟩ = some (.int .i64 a0_1) := (blk_cell BK106.out 1).trans rfl; have hcz72_2 : w71.cell? ⟨gb106, 2, none⟩ = some (.int .i64 a0_2) := (blk_cell BK106.out 2).trans rfl; have hcz72_3 : w71.cell? ⟨gb106, 3, none⟩ = some (.int .i64 a0_3) := (blk_cell BK106.out 3).trans rfl; have hfz72_0 := blk_frozen BK106.out 0; have hfz72_1 := blk_frozen BK106.out 1; have hfz72_2 := blk_frozen BK106.out 2; have hfz72_3 := blk_frozen BK106.out 3) | ((with_reducible refine gate_callee (f := 20) rfl ?_); refine goesL_ (some 6) rfl rfl Tryd.func20 (by kernel_rfl) rfl #[.agg #[.int .i64 a0_0, .int .i64 a0_1, .int .i64 a0_2, .int .i64 a0_3]] rfl (by (try simp only [List.map_toArray, List.map_cons, List.map_nil]); first | done | rfl | (simp only [List.length_drop, List.length_take]; rfl)) ?_; (with_reducible refine (spec_ActOk.calls a0_0 a0_1 a0_2 a0_3 false _ A2.out).mono ?_); rintro e w73 ⟨rfl, hb⟩; refine ⟨_, rfl, ?_⟩; have n0_ := Aside0.mk (blk_below (g := gb106) (o := .cells #[.int .i64 a0_0, .int .i64 a0_1, .int .i64 a0_2, .int .i64 a0_3] 26 (0, 0)) (by (with_reducible repeat (first | refine blk_drewN ?_ _ | refine blk_drew ?_ | refine blk_alloc ?_ _)); exact BK106.out) hb); have n1_ := Aside0.mk (below_step (by repeat (first | (with_reducible first | exact HB.out | apply below_alloc | apply pw_below_drewN | apply below_drew1 | refine below_set ?_ GE106.out) | exact HB.out)) hb); clear BK106; clear HB; have BK106 := n0_; have HB := n1_; clear n0_ n1_; (try clear hb); (try clear hb2); (try clear hk); (try clear hi)))
    go_ret2
    exact ⟨by first | rfl | (simp [errW_none, errW_some] <;> rfl) | (simp [*, errW_none, errW_some] <;> rfl), by repeat (first | (with_reducible first | exact HB.out | apply below_alloc | apply pw_below_drewN | apply below_drew1 | refine below_set ?_ GE106.out) | exact HB.out)⟩

end Go.Proofs.YtbmebmhdkpmclaaDoor.P
