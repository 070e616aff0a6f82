import Derived.Test.YtbmebmhdkpmclaaDoorMParseA
import Derived.Test.YtbmebmhdkpmclaaDoorPf17
namespace Go.Proofs.YtbmebmhdkpmclaaDoor.P
open Go.RowKit Go.Proofs.YtbmebmhdkpmclaaDoorW.PrintWords Go.Proofs.YtbmebmhdkpmclaaDoorW.PrintLast Go.Proofs.YtbmebmhdkpmclaaDoorW.PrintMore
set_option linter.unusedVariables false
set_option linter.unusedSimpArgs false
theorem eqAct_self (a b c d : Int) : laws_eqAct.f a b c d a b c d = some true := by
  unfold laws_eqAct.f
  simp
set_option maxHeartbeats 2000000 in
theorem FnExactParseAct_walk (s : ByteArray) (w : World) (hsz : s.size ≤ 9223372036854775807) (hs : SpaceIs w) (hw : WordsIs w) (he : ErrsIs w) (hp : PowIs w) :
    Calls Tryd.prog 5 #[.string s] w fun e w' => e = .returned (.bool true) ∧ Below w.heap.size w w' := by
  have HT := Aside0.mk hs
  have HW := Aside0.mk hw
  have HE := Aside0.mk he
  have HP := Aside0.mk hp
  clear hs hw he hp
  by_cases hl : s.size > 1048576
  · have hlz : (s.size : Int) > 1048576 := by omega
    clear hl
    go_enter Tryd.func5, Tryd.ntmps5
    go_wp2
    go_ret
    exact ⟨rfl, Below.refl _ _⟩
  · have hlz : ¬ (s.size : Int) > 1048576 := by omega
    obtain ⟨K, hK⟩ := (parseAct_ev s).rounds
    obtain ⟨a0, a1, a2, a3, ok, hA⟩ : ∃ a0 a1 a2 a3 ok, parseA s = ((a0, a1, a2, a3), ok) := ⟨_, _, _, _, _, rfl⟩
    rw [hA] at hK
    have HK : Aside0 (spec_ParseAct.f K s = some (a0, a1, a2, a3, ok)) := ⟨hK⟩
    have HA := Aside0.mk hA
    clear hK hA hl
    go_enter Tryd.func5, Tryd.ntmps5
    go_wp2_with (fail)
    refine (spec_ParseAct.calls K s a0 a1 a2 a3 ok w HK.out).mono ?_
    rintro e w1 ⟨rfl, b⟩
    have HB1 := Aside0.mk (below_alloc b (.cells #[.int .i64 a0, .int .i64 a1, .int .i64 a2, .int .i64 a3] 26))
    have BK1 := Aside0.mk (heap_alloc_new w1 (.cells #[.int .i64 a0, .int .i64 a1, .int .i64 a2, .int .i64 a3] 26))
    clear b
    have hu := Tryd.underlying26
    go_wp2_with (fail)
    have hf := ParseAct_calls s _ (HT.out.below HB1.out) (HW.out.below HB1.out) (HE.out.below HB1.out) (HP.out.below HB1.out)
    rw [HA.out] at hf
    refine hf.mono ?_
    clear hf
    rintro e w2 ⟨rfl, b⟩
    have HB2 := Aside0.mk (below_alloc (below_step HB1.out b) (.cells #[.int .i64 a0, .int .i64 a1, .int .i64 a2, .int .i64 a3] 26))
    have BK2 := Aside0.mk (blk_alloc (blk_below BK1.out b) (.cells #[.int .i64 a0, .int .i64 a1, .int .i64 a2, .int .i64 a3] 26))
    have BG2 := Aside0.mk (heap_alloc_new w2 (.cells #[.int .i64 a0, .int .i64 a1, .int .i64 a2, .int .i64 a3] 26))
    have hk0 : w2.cell? ⟨w1.heap.size, 0, none⟩ = some (.int .i64 a0) := (blk_cell (blk_below BK1.out b) 0).trans rfl
    have hk1 : w2.cell? ⟨w1.heap.size, 1, none⟩ = some (.int .i64 a1) := (blk_cell (blk_below BK1.out b) 1).trans rfl
    have hk2 : w2.cell? ⟨w1.heap.size, 2, none⟩ = some (.int .i64 a2) := (blk_cell (blk_below BK1.out b) 2).trans rfl
    have hk3 : w2.cell? ⟨w1.heap.size, 3, none⟩ = some (.int .i64 a3) := (blk_cell (blk_below BK1.out b) 3).trans rfl
    have hlt := blk_lt (blk_below BK1.out b)
    clear b
    have hq : (ok != ok) = false := by cases ok <;> rfl
    go_wp2_with (fail)
    refine (laws_eqAct.calls a0 a1 a2 a3 a0 a1 a2 a3 true _ (eqAct_self _ _ _ _)).mono ?_
    rintro e w3 ⟨rfl, b⟩
    have HB3 := Aside0.mk (below_step HB2.out b)
    clear b
    go_wp2
    go_ret
    exact ⟨rfl, HB3.out⟩
end Go.Proofs.YtbmebmhdkpmclaaDoor.P
