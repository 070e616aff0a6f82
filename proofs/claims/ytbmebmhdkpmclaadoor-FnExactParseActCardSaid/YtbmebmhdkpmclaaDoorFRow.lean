import Derived.Test.YtbmebmhdkpmclaaDoorPk
namespace Go.Proofs.YtbmebmhdkpmclaaDoor.P
open Go.RowKit Go.Proofs.YtbmebmhdkpmclaaDoorW.PrintWords Go.Proofs.YtbmebmhdkpmclaaDoorW.PrintLast Go.Proofs.YtbmebmhdkpmclaaDoorW.PrintMore
set_option linter.unusedVariables false
set_option linter.unusedSimpArgs false
theorem R_open {α : Type} {enc : α → Value} {h1 : ∀ x, (enc x).oneCell' = true} {e base : Nat} {ok : Nat → Prop} {W : World} {v : Value} {xs : List α} (h : (Kd.scalar enc h1).R e W base ok v xs) (hp : 0 < xs.length) :
    ∃ g cap, v = .slice (some ⟨g, 0, none⟩) xs.length cap ∧ base ≤ g ∧ g < W.heap.size := by
  have ho := Kd.own_of_R h
  rcases ho.2 with ⟨rfl, h0⟩ | ⟨g, cap, cur, rfl, hb, hh, _⟩
  · omega
  · exact ⟨g, cap, rfl, hb, blk_lt hh⟩
end Go.Proofs.YtbmebmhdkpmclaaDoor.P
