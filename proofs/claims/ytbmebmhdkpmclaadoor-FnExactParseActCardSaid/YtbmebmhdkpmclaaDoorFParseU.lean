import Derived.Test.YtbmebmhdkpmclaaDoorFSplit
namespace Go.Proofs.YtbmebmhdkpmclaaDoor.P
open Go.RowKit Go.Proofs.YtbmebmhdkpmclaaDoorW.PrintWords Go.Proofs.YtbmebmhdkpmclaaDoorW.PrintLast Go.Proofs.YtbmebmhdkpmclaaDoorW.PrintMore
set_option linter.unusedVariables false
set_option linter.unusedSimpArgs false
/-- The two errors of strconv lie as the text lays them. -/
def ErrsIs (w : World) : Prop := (∃ tp p, w.var? Tryd.prog "strconv.ErrSyntax" = some #[.iface tp p]) ∧ ∃ tp p, w.var? Tryd.prog "strconv.ErrRange" = some #[.iface tp p]
theorem ErrsIs.below {w W : World} (h : ErrsIs w) (hb : Below w.heap.size w W) : ErrsIs W := by
  obtain ⟨⟨t1, p1, h1⟩, t2, p2, h2⟩ := h
  exact ⟨⟨t1, p1, Go.Joins.var_stays (show Tryd.prog.globalNamed "strconv.ErrSyntax" = some 3 by kernel_rfl) h1 hb (Nat.le_refl _)⟩, t2, p2, Go.Joins.var_stays (show Tryd.prog.globalNamed "strconv.ErrRange" = some 4 by kernel_rfl) h2 hb (Nat.le_refl _)⟩
def parseU (s : ByteArray) : Int × Bool := match Lib.atoiAll s.data.toList with
  | .ok v => if inR v 0 1000000000 = true ∧ itoaB v = s then (v, true) else (0, false)
  | _ => (0, false)
theorem text_inj {a b : ByteArray} (h : a.toList = b.toList) : a = b := by
  rw [Lib.toList_data, Lib.toList_data] at h
  exact ByteArray.ext (Array.ext' h)
theorem text_ne {a b : ByteArray} (h : ¬ a = b) : (a.toList == b.toList) = false := beq_eq_false_iff_ne.mpr (fun e => h (text_inj e))
/-- Atoi: a number or an error. -/
theorem Atoi_calls (s : ByteArray) (hs : s.size ≤ 281474976710656) (w : World) (he : ErrsIs w) :
    Calls Tryd.prog 39 #[.string s] w fun e w' => ((∃ v, Lib.atoiAll s.data.toList = .ok v ∧ e = .returned (.tuple #[.int .i64 v, .nilIface])) ∨ ((∀ v, Lib.atoiAll s.data.toList ≠ .ok v) ∧ ∃ n t p, e = .returned (.tuple #[.int .i64 n, .iface t p]))) ∧ Below w.heap.size w w' := by
  rcases h : Lib.atoiAll s.data.toList with v | _ | _
  · refine (Tryd.strconv_Atoi_ok s (by omega) v h w).mono ?_
    rintro e w' ⟨rfl, hw⟩
    refine ⟨.inl ⟨v, rfl, rfl⟩, ?_⟩
    rcases hw with rfl | ⟨t, rfl⟩
    · exact Below.refl _ _
    · exact bytes_below (Below.refl _ _) (Nat.le_refl _) _ _
  · obtain ⟨tp, p, hv⟩ := he.1
    refine (Tryd.strconv_Atoi_syntax_var s hs h tp p w hv).mono ?_
    rintro e w' ⟨N, rfl, _, _, hb⟩
    exact ⟨.inr ⟨fun v => by simp, _, _, _, rfl⟩, hb⟩
  · obtain ⟨tp, p, hv⟩ := he.2
    refine (Tryd.strconv_Atoi_range_var s hs h tp p w hv).mono ?_
    rintro e w' ⟨N, rfl, _, _, hb⟩
    exact ⟨.inr ⟨fun v => by simp, _, _, _, rfl⟩, hb⟩
set_option maxHeartbeats 1000000 in
theorem ParseUint_calls (s : ByteArray) (hs : s.size ≤ 281474976710656) (w : World) (he : ErrsIs w) (hp : PowIs w) :
    Calls Tryd.prog 29 #[.string s] w fun e w' => e = .returned (.tuple #[.int .i64 (parseU s).1, .bool (parseU s).2]) ∧ Below w.heap.size w w' := by
  have HA := Aside0.mk (Atoi_calls s hs w he)
  have HP := Aside0.mk hp
  clear hs he hp
  go_enter Tryd.func29, Tryd.ntmps29
  go_wp2_with (fail)
  refine HA.out.mono ?_
  rintro e w1 ⟨⟨v, hv, rfl⟩ | ⟨hv, n, t, p, rfl⟩, hb⟩
  · have HB := Aside0.mk hb
    have HV := Aside0.mk hv
    have hvr := Lib.atoiAll_bounds hv
    clear hb hv
    cases hin : inR v 0 1000000000 with
    | false =>
      have HS : Aside0 (parseU s = (0, false)) := ⟨by unfold parseU; rw [HV.out]; simp only []; rw [if_neg (fun h => by rw [h.1] at hin; cases hin)]⟩
      have HI := Aside0.mk hin
      clear hin hvr
      go_wp2_with (fail)
      refine (within_calls v 0 1000000000 _).mono ?_
      rw [HI.out]
      rintro e w2 ⟨rfl, rfl⟩
      go_wp2
      go_ret2
      exact ⟨by rw [HS.out]; rfl, HB.out⟩
    | true =>
      have HI := Aside0.mk hin
      clear hin
      have HF := Aside0.mk (FormatInt_calls v hvr.1 hvr.2 w1 (HP.out.below HB.out))
      clear hvr
      go_wp2_with (fail)
      refine (within_calls v 0 1000000000 _).mono ?_
      rw [HI.out]
      rintro e w2 ⟨rfl, rfl⟩
      go_wp2_with (fail)
      refine HF.out.mono ?_
      rintro e w3 ⟨rfl, hb3⟩
      have HB3 := Aside0.mk (below_step HB.out hb3)
      clear hb3
      by_cases hq : itoaB v = s
      · have HS : Aside0 (parseU s = (v, true)) := ⟨by unfold parseU; rw [HV.out]; simp only []; rw [if_pos ⟨HI.out, hq⟩]⟩
        rw [hq]
        go_wp2
        go_ret2
        exact ⟨by rw [HS.out]; rfl, HB3.out⟩
      · have HS : Aside0 (parseU s = (0, false)) := ⟨by unfold parseU; rw [HV.out]; simp only []; rw [if_neg (fun h => hq h.2)]⟩
        have hne := text_ne hq
        go_wp2
        go_ret2
        exact ⟨by rw [HS.out]; rfl, HB3.out⟩
  · have HB := Aside0.mk hb
    have HS : Aside0 (parseU s = (0, false)) := ⟨by
      unfold parseU
      split
      · rename_i v h; exact absurd h (hv v)
      · rfl⟩
    clear hb hv
    go_wp2
    go_ret2
    exact ⟨by rw [HS.out]; rfl, HB.out⟩
end Go.Proofs.YtbmebmhdkpmclaaDoor.P
