import Derived.Test.YtbmebmhdkpmclaaDoorFFmt
namespace Go.Proofs.YtbmebmhdkpmclaaDoor.P
open Go.RowKit Go.Proofs.YtbmebmhdkpmclaaDoorW.PrintWords Go.Proofs.YtbmebmhdkpmclaaDoorW.PrintLast Go.Proofs.YtbmebmhdkpmclaaDoorW.PrintMore
set_option linter.unusedVariables false
set_option linter.unusedSimpArgs false
def fmtA (a : S26) : ByteArray × Bool := fmtAct a.f0 a.f1 a.f2 a.f3
def scriptGo : List S26 → ByteArray → ByteArray × Bool
  | [], out => (out, true)
  | a :: r, out => if (fmtA a).2 = true then scriptGo r (out ++ ((fmtA a).1 ++ ⟨#[10]⟩)) else (⟨#[]⟩, false)
def scriptText (l : List S26) : ByteArray × Bool := if l.length > 40 then (⟨#[]⟩, false) else scriptGo l ⟨#[]⟩
theorem fmtAct_size (k n a b : Int) : (fmtAct k n a b).1.size ≤ 80 := by
  unfold fmtAct
  by_cases hok : actOk k n a b = true
  · rw [if_pos hok]
    obtain ⟨hk, hn, ha, hb⟩ := actOk_range hok
    have sn := itoaB_size n (by omega) (by omega)
    have sa := itoaB_size a (by omega) (by omega)
    have sb := itoaB_size b (by omega) (by omega)
    have sw := actWord_size k
    have z1 : sp.size = 1 := rfl
    show (actText k n a b).size ≤ 80
    unfold actText
    split
    · simp only [ByteArray.size_append, z1]; omega
    · split <;> (simp only [ByteArray.size_append, z1]; omega)
  · rw [if_neg hok]; decide
theorem drop_rdT {l : List S26} {i : Nat} (h : i < l.length) : l.drop i = rd_T26 l (i : Int) :: l.drop (i + 1) := by
  rw [List.drop_eq_getElem_cons h]
  congr 1
  unfold rd_T26
  rw [Int.toNat_natCast, List.getD_eq_getElem?_getD, List.getElem?_eq_getElem h]; rfl
set_option maxHeartbeats 2000000 in
theorem ScriptText_calls (A0 : Option Addr) (c0 : Nat) (l0 : List S26) (w : World) (hr0 : Kd.C k26 w A0 l0.length l0) (hp : PowIs w) (hw : WordsIs w) :
    Calls Tryd.prog 13 #[.slice A0 l0.length c0] w fun e w' => e = .returned (.tuple #[.string (scriptText l0).1, .bool (scriptText l0).2]) ∧ Below w.heap.size w w' := by
  have hu := Tryd.underlying26
  have HR0 := Aside0.mk hr0
  have HP := Aside0.mk hp
  have HW := Aside0.mk hw
  have hm : l0.length ≤ 9223372036854775807 := hr0.2.1
  clear hr0 hp hw
  by_cases hl : l0.length > 40
  · have hlz : (l0.length : Int) > 40 := by omega
    have HS : Aside0 (scriptText l0 = (⟨#[]⟩, false)) := ⟨by unfold scriptText; rw [if_pos hl]⟩
    clear hl
    go_enter Tryd.func13, Tryd.ntmps13
    go_wp2
    go_ret2
    exact ⟨by rw [HS.out]; rfl, Below.refl _ _⟩
  · have hlz : ¬ (l0.length : Int) > 40 := by omega
    have HS : Aside0 (scriptText l0 = scriptGo l0 ⟨#[]⟩) := ⟨by unfold scriptText; rw [if_neg hl]⟩
    have hl40 : l0.length ≤ 40 := by omega
    clear hl
    go_enter Tryd.func13, Tryd.ntmps13
    go_wp2
    go_loopg [4, 14] 41 (fun gg v4 v14 wr => ∃ (i : Nat) (out : ByteArray), i ≤ l0.length ∧ l0.length - i < gg ∧ v14 = .int .i64 i ∧ v4 = .string out ∧ Aside0 (out.size ≤ 100 * i) ∧ Aside0 (scriptGo (l0.drop i) out = scriptGo l0 ⟨#[]⟩) ∧ Aside0 (Below w.heap.size w wr))
    case atStart => exact ⟨0, ⟨#[]⟩, Nat.zero_le _, by omega, rfl, rfl, ⟨by decide⟩, ⟨by rw [List.drop_zero]⟩, ⟨Below.refl _ _⟩⟩
    case round =>
      obtain ⟨i, out, hi, hg, rfl, rfl, HZ, HG, HB⟩ := hrel
      by_cases hlt : i < l0.length
      · have hltz : (i : Int) < (l0.length : Int) := by omega
        obtain ⟨ad, e1, hx0, hx1, hx2, hx3⟩ := at_T26 (Kd.C_below HR0.out HB.out) i (by omega) hltz
        cases e1
        rw [Int.toNat_natCast] at hx0 hx1 hx2 hx3
        have HD := Aside0.mk (drop_rdT hlt)
        obtain ⟨x, hx⟩ : ∃ x, rd_T26 l0 (i : Int) = x := ⟨_, rfl⟩
        rw [hx] at hx0 hx1 hx2 hx3 HD
        have hne : ¬ (ad.add (i * 4)).block = wr.heap.size := by have := World.block_lt_of_cell? wr _ hx0; omega
        have hf := FormatAct_calls x.f0 x.f1 x.f2 x.f3 (wr.alloc (.cells #[.int .i64 x.f0, .int .i64 x.f1, .int .i64 x.f2, .int .i64 x.f3] 26)) (HP.out.below (below_alloc HB.out _)) (HW.out.below (below_alloc HB.out _))
        have hsz := fmtAct_size x.f0 x.f1 x.f2 x.f3
        obtain ⟨s, ok, hs⟩ : ∃ s ok, fmtAct x.f0 x.f1 x.f2 x.f3 = (s, ok) := ⟨_, _, rfl⟩
        rw [hs] at hf hsz
        have HF := Aside0.mk hf
        have HE := Aside0.mk hs
        have HSZ := Aside0.mk hsz
        clear hf hs hsz hx hlt
        go_wp2_with (fail)
        refine HF.out.mono ?_
        rintro e w2 ⟨rfl, b2⟩
        have HB2 := Aside0.mk (below_step (below_alloc HB.out _) b2)
        clear b2 hx0 hx1 hx2 hx3 hne HF
        cases ok with
        | false =>
          go_wp2
          go_ret2
          refine ⟨?_, HB2.out⟩
          have := HG.out
          rw [HD.out, scriptGo, if_neg (show ¬ (fmtA x).2 = true by unfold fmtA; rw [HE.out]; simp)] at this
          rw [HS.out, ← this]; rfl
        | true =>
          have z1 : (9223372036854775807 < s.size + 1) = False := eq_false (by have := HSZ.out; omega)
          have z2 : out.size + (s.size + 1) ≤ 9223372036854775807 := by have := HSZ.out; have := HZ.out; omega
          go_wp2
          go_roundg (l0.length - i)
          case measure => omega
          case rel =>
            refine ⟨i + 1, out ++ (s ++ ⟨#[10]⟩), by omega, by omega, by go_num, rfl, ⟨?_⟩, ⟨?_⟩, HB2⟩
            · have := HSZ.out; have := HZ.out
              have z : (⟨#[10]⟩ : ByteArray).size = 1 := rfl
              rw [ByteArray.size_append, ByteArray.size_append, z]
              omega
            · have := HG.out
              rw [HD.out, scriptGo, if_pos (show (fmtA x).2 = true by unfold fmtA; rw [HE.out])] at this
              rw [← this]
              unfold fmtA
              rw [HE.out]
      · have hltz : ¬ (i : Int) < (l0.length : Int) := by omega
        obtain rfl : i = l0.length := by omega
        go_wp2
        go_ret2
        refine ⟨?_, HB.out⟩
        have := HG.out
        rw [List.drop_length, scriptGo] at this
        rw [HS.out, ← this]; rfl
end Go.Proofs.YtbmebmhdkpmclaaDoor.P
