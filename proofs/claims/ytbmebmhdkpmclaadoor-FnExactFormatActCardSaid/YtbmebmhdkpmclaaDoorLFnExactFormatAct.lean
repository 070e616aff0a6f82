import Derived.Test.YtbmebmhdkpmclaaDoorMText
import Derived.Test.YtbmebmhdkpmclaaDoorPf8
namespace Go.Proofs.YtbmebmhdkpmclaaDoor.P
open Go.RowKit Go.Proofs.YtbmebmhdkpmclaaDoorW.PrintWords Go.Proofs.YtbmebmhdkpmclaaDoorW.PrintLast Go.Proofs.YtbmebmhdkpmclaaDoorW.PrintMore
set_option linter.unusedVariables false
set_option linter.unusedSimpArgs false
set_option maxHeartbeats 2000000 in
theorem FnExactFormatAct_walk (k n a_ b_ : Int) (w : World) (hp : PowIs w) (hw : WordsIs w) :
    Calls Tryd.prog 3 #[.agg #[.int .i64 k, .int .i64 n, .int .i64 a_, .int .i64 b_]] w fun e w' => e = .returned (.bool true) ∧ Below w.heap.size w w' := by
  have HP := Aside0.mk hp
  have HW := Aside0.mk hw
  clear hp hw
  obtain ⟨K, hK⟩ := (formatAct_ev k n a_ b_).rounds
  obtain ⟨s, ok, hs⟩ : ∃ s ok, fmtAct k n a_ b_ = (s, ok) := ⟨_, _, rfl⟩
  rw [hs] at hK
  have HK := Aside0.mk hK
  have HS := Aside0.mk hs
  clear hK hs
  go_enter Tryd.func3, Tryd.ntmps3
  have HB := Aside0.mk (Below.refl w.heap.size w)
  go_wp2_with (fail)
  have BK0 := Aside0.mk (heap_alloc_new w (.cells #[.int .i64 k, .int .i64 n, .int .i64 a_, .int .i64 b_] 23))
  have HBA := Aside0.mk (below_alloc HB.out (.cells #[.int .i64 k, .int .i64 n, .int .i64 a_, .int .i64 b_] 23))
  refine (laws_toAct.calls k n a_ b_ k n a_ b_ _ rfl).mono ?_
  rintro e w2 ⟨rfl, b2⟩
  have BK2 := Aside0.mk (blk_below BK0.out b2)
  have HB2 := Aside0.mk (below_step HBA.out b2)
  clear b2
  go_wp2_with (fail)
  refine (spec_FormatAct.calls K k n a_ b_ s ok _ HK.out).mono ?_
  rintro e w3 ⟨rfl, b3⟩
  have BK3 := Aside0.mk (blk_below BK2.out b3)
  have HB3 := Aside0.mk (below_step HB2.out b3)
  clear b3
  have hu := Tryd.underlying23
  have hc0 : w3.cell? ⟨w.heap.size, 0, none⟩ = some (.int .i64 k) := (blk_cell BK3.out 0).trans rfl
  have hc1 : w3.cell? ⟨w.heap.size, 1, none⟩ = some (.int .i64 n) := (blk_cell BK3.out 1).trans rfl
  have hc2 : w3.cell? ⟨w.heap.size, 2, none⟩ = some (.int .i64 a_) := (blk_cell BK3.out 2).trans rfl
  have hc3 : w3.cell? ⟨w.heap.size, 3, none⟩ = some (.int .i64 b_) := (blk_cell BK3.out 3).trans rfl
  go_wp2_with (fail)
  refine (laws_toAct.calls k n a_ b_ k n a_ b_ _ rfl).mono ?_
  rintro e w4 ⟨rfl, b4⟩
  have HB4 := Aside0.mk (below_step HB3.out b4)
  clear b4 hc0 hc1 hc2 hc3 hu
  go_wp2_with (fail)
  have hf := FormatAct_calls k n a_ b_ w4 (HP.out.below HB4.out) (HW.out.below HB4.out)
  rw [HS.out] at hf
  refine hf.mono ?_
  clear hf
  rintro e w5 ⟨rfl, b5⟩
  have HB5 := Aside0.mk (below_step HB4.out b5)
  clear b5
  have h2 : (ok != ok) = false := by cases ok <;> rfl
  go_wp2
  go_ret
  exact ⟨rfl, HB5.out⟩
end Go.Proofs.YtbmebmhdkpmclaaDoor.P
