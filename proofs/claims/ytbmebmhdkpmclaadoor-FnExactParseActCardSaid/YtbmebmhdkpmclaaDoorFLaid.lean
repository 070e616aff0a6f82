import Derived.Test.YtbmebmhdkpmclaaDoorFFmt
import Derived.Test.YtbmebmhdkpmclaaDoorRows
import Derived.Stop.LaidErr
import Derived.MakeChecks
import Derived.OpenShut
import Derived.OpenVars
import Derived.Lib.LaidTab
namespace Go.Proofs.YtbmebmhdkpmclaaDoor.P
open Go.RowKit Go.Proofs.YtbmebmhdkpmclaaDoorW.PrintWords Go.Proofs.YtbmebmhdkpmclaaDoorW.PrintLast Go.Proofs.YtbmebmhdkpmclaaDoorW.PrintMore
open Go.ChangeShapes Go.WideShapes Go.ChangeAt
set_option linter.unusedVariables false
set_option linter.unusedSimpArgs false
set_option maxRecDepth 100000 in
/-- The table of powers, first on the list. -/
theorem pow_of_laid {W : World} {r : List (String × DataW Unit)} (h : laidMet Tryd.prog (("internal/strconv.uint64pow10", Rows.laid_internal_strconv_uint64pow10) :: r) W) : PowIs W :=
  Lib.tabIs_of_head (g := 6) (t := 156) (e := 131) (n := 20) (by kernel_rfl) (by kernel_rfl) Tryd.underlying156 Tryd.underlying131 (by kernel_rfl) (by kernel_rfl) h
set_option maxRecDepth 100000 in
/-- The words of acts, first on the list. -/
theorem words_of_laid {W : World} {r : List (String × DataW Unit)} (h : laidMet Tryd.prog (("loop.example/g00986/impl.actWords", Rows.laid_loop_example_g00986_impl_actWords) :: r) W) : WordsIs W := by
  obtain ⟨ps, ⟨g, t, cs, fuel, p, q, hg, ht, hv, hd, _, _⟩, _, _⟩ := h
  obtain rfl := Option.some.inj ((show Tryd.prog.globalNamed "loop.example/g00986/impl.actWords" = some 0 by kernel_rfl).symm.trans hg)
  obtain rfl := Option.some.inj ((show (Tryd.prog.globals[0]?).map (·.type) = some 56 by kernel_rfl).symm.trans ht)
  have c5 : Tryd.prog.cellsOf 9 = 1 := by kernel_rfl
  have c29 : Tryd.prog.cellsOf 56 = 4 := by kernel_rfl
  obtain ⟨xs, m, _, ex, hlen, hl, hel⟩ := DataW.trod_array Tryd.underlying56 hd
  rw [c29] at hlen
  obtain ⟨l⟩ := cs
  match l, hlen with
  | [a, b, c, d], _ =>
    match xs, hl with
    | [x0, x1, x2, x3], _ =>
      have e3 := (DataW.agg.inj (Prod.mk.inj ex).1)
      simp only [List.map_cons, List.map_nil, List.cons.injEq, and_true] at e3
      have k0 := hel 0 (by omega); have k1 := hel 1 (by omega); have k2 := hel 2 (by omega); have k3 := hel 3 (by omega)
      rw [c5] at k0 k1 k2 k3
      obtain ⟨z0, a0, b0, _⟩ := DataW.trod_string Tryd.underlying9 k0
      obtain ⟨z1, a1, b1, _⟩ := DataW.trod_string Tryd.underlying9 k1
      obtain ⟨z2, a2, b2, _⟩ := DataW.trod_string Tryd.underlying9 k2
      obtain ⟨z3, a3, b3, _⟩ := DataW.trod_string Tryd.underlying9 k3
      have hz : ∀ (z : ByteArray) (l : List UInt8), l = z.data.toList → z = ⟨l.toArray⟩ := fun z l h => by subst h; simp
      subst b0 b1 b2 b3
      simp only [DataW.lit.injEq, Lit.string.injEq] at e3
      obtain ⟨f0, f1, f2, f3⟩ := e3
      have g0 := hz _ _ f0
      have g1 := hz _ _ f1
      have g2 := hz _ _ f2
      have g3 := hz _ _ f3
      simp only [List.drop, List.take, Nat.zero_mul, Nat.one_mul, List.cons.injEq, and_true] at a0 a1 a2 a3
      subst a0 a1 a2 a3
      clear f0 f1 f2 f3 hel k0 k1 k2 k3 hd ex hz
      subst g0 g1 g2 g3
      exact hv
end Go.Proofs.YtbmebmhdkpmclaaDoor.P
