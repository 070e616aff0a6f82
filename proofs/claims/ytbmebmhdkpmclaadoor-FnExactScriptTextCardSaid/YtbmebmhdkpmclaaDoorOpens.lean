import Derived.Test.YtbmebmhdkpmclaaDoorPk
import Derived.Deep.Slices
import Derived.Deep.Fields
import Derived.ChangeSame
import Derived.OpenShut
import Derived.ProofKit
import Derived.ShutString
namespace Go.Proofs.YtbmebmhdkpmclaaDoor.P
open Go.RowKit Go.Proofs.YtbmebmhdkpmclaaDoorW.PrintWords Go.Proofs.YtbmebmhdkpmclaaDoorW.PrintLast Go.Proofs.YtbmebmhdkpmclaaDoorW.PrintMore
open Go.ChangeShapes Go.WideShapes Go.Deep Go.ChangeAt
set_option linter.unusedVariables false
/-! An argument that reads as data lies as a kind says. -/
def Opens {α : Type} (d : Kd α) (e : TypeId) : Prop :=
  ∀ (H : Type) (enc : TypeId × Value → H) (w : World) (base : Nat) (spare : Nat → Bool) (held : Bool) (fuel : Nat) (cs : List Value) (x : DataW H × List MemPlace), DataW.trod enc Tryd.prog w base spare held fuel e cs = some x → ∃ a, d.K w a cs
theorem Opens.int {k : IntKind} {e : TypeId} (h : Tryd.prog.underlying e = some (.int k)) : Opens (Kd.int k) e := by
  intro H enc w base spare held fuel cs x hx
  obtain ⟨n, rfl, _, _⟩ := DataW.trod_int h hx
  exact ⟨n, rfl⟩
theorem Opens.bool {e : TypeId} (h : Tryd.prog.underlying e = some .bool) : Opens Kd.bool e := by
  intro H enc w base spare held fuel cs x hx
  obtain ⟨n, rfl, _⟩ := DataW.trod_bool h hx
  exact ⟨n, rfl⟩
theorem Opens.string {e : TypeId} (h : Tryd.prog.underlying e = some .string) : Opens Kd.string e := by
  intro H enc w base spare held fuel cs x hx
  obtain ⟨n, rfl, _, _⟩ := DataW.trod_string h hx
  exact ⟨n, rfl⟩
/-- Elements one by one make a list. -/
theorem list_of {α : Type} {Q : Nat → α → Prop} : ∀ (n : Nat), (∀ i, i < n → ∃ a, Q i a) → ∃ xs : List α, xs.length = n ∧ ∀ j p, xs[j]? = some p → Q j p := by
  intro n
  induction n with
  | zero => intro _; exact ⟨[], rfl, fun j p h => by simp at h⟩
  | succ n ih =>
    intro h
    obtain ⟨xs, hl, hx⟩ := ih fun i hi => h i (by omega)
    obtain ⟨a, ha⟩ := h n (by omega)
    refine ⟨xs ++ [a], by simp [hl], fun j p hj => ?_⟩
    by_cases hlt : j < n
    · rw [List.getElem?_append_left (by omega)] at hj; exact hx j p hj
    · rw [List.getElem?_append_right (by omega)] at hj
      have h0 : j - xs.length = 0 := by
        rcases Nat.eq_zero_or_pos (j - xs.length) with h0 | h0
        · exact h0
        · rw [List.getElem?_eq_none (by simp; omega)] at hj; cases hj
      rw [h0] at hj
      obtain rfl : a = p := by simpa using hj
      obtain rfl : j = n := by omega
      exact ha
theorem opens_row {α : Type} {d : Kd α} {t e : TypeId} (ht : Tryd.prog.underlying t = some (.slice e)) (hs : Tryd.prog.cellsOf e = d.sz) (ho : Opens d e)
    {H : Type} {enc : TypeId × Value → H} {w : World} {base : Nat} {spare : Nat → Bool} {held : Bool} {fuel : Nat} {cs : List Value} {x : DataW H × List MemPlace} (hx : DataW.trod enc Tryd.prog w base spare held fuel t cs = some x) :
    ∃ (xs : List α) (A : Option Addr) (c : Nat), cs = [.slice A xs.length c] ∧ xs.length ≤ c ∧ d.C w A xs.length xs := by
  rcases Go.Deep.open_slice ht hx with ⟨rfl, _⟩ | ⟨a, len, cap, m, n, D, Pl, rfl, _, hl, hm, hmm, _, hi⟩
  · exact ⟨[], none, 0, rfl, Nat.le_refl _, rfl, by simp, fun h => absurd h (by simp)⟩
  · have hlm : len ≤ m := by rw [hmm]; split <;> omega
    obtain ⟨xs, hxl, hxs⟩ := list_of (Q := fun i p => ∃ c, c.length = d.sz ∧ d.K w p c ∧ ∀ j u, c[j]? = some u → w.cell? (a.add (i * d.sz + j)) = some u) len fun i him => by
      obtain ⟨cs', hc, ht'⟩ := hi i (by omega)
      obtain ⟨p, hp⟩ := ho _ _ _ _ _ _ _ _ _ ht'
      obtain ⟨_, hcl, hat⟩ := World.cells?_some hc
      refine ⟨p, cs', d.K_len hp, hp, fun j u hj => ?_⟩
      have hlt : j < cs'.length := (List.getElem?_eq_some_iff.1 hj).1
      have h1 := hat j (by omega)
      rw [hs, Go.Deep.add_add] at h1
      rw [h1, hj]
    subst hxl
    exact ⟨xs, some a, cap, rfl, hl, rfl, by have : maxLen = 9223372036854775807 := rfl
                                             omega, fun _ => ⟨a, rfl, hxs⟩⟩
theorem Opens.slice {α : Type} {d : Kd α} {t e : TypeId} (ht : Tryd.prog.underlying t = some (.slice e)) (hs : Tryd.prog.cellsOf e = d.sz) (ho : Opens d e) (q : Nat) : Opens (Kd.slice q d) t := by
  intro H enc w base spare held fuel cs x hx
  obtain ⟨xs, A, c, rfl, hl, hC⟩ := opens_row ht hs ho hx
  exact ⟨xs, A, c, rfl, hl, hC⟩
/-- The fields of a struct, one by one: from field j on, at the cells from off on. -/
def OpensF {α : Type} (d : Kd α) (fs : Array Field) (j off : Nat) : Prop :=
  ∀ (H : Type) (enc : TypeId × Value → H) (w : World) (base : Nat) (spare : Nat → Bool) (held : Bool) (fuel : Nat) (cs : List Value), off + d.sz = cs.length →
    (∀ (i : Nat) (f : Field), fs[i]? = some f → ∃ x, DataW.trod enc Tryd.prog w base spare held fuel f.type ((cs.drop f.offset).take (Tryd.prog.cellsOf f.type)) = some x) → ∃ a, d.K w a (cs.drop off)
theorem OpensF.last {α : Type} {d : Kd α} {fs : Array Field} {j off : Nat} {f : Field} (hj : fs[j]? = some f) (hoff : f.offset = off) (hs : Tryd.prog.cellsOf f.type = d.sz) (ho : Opens d f.type) : OpensF d fs j off := by
  intro H enc w base spare held fuel cs hl hf
  obtain ⟨x, hx⟩ := hf j f hj
  rw [hoff, hs, List.take_of_length_le (by rw [List.length_drop]; omega)] at hx
  exact ho _ _ _ _ _ _ _ _ _ hx
theorem OpensF.cons {α β : Type} {d : Kd α} {r : Kd β} {fs : Array Field} {j off : Nat} {f : Field} (hj : fs[j]? = some f) (hoff : f.offset = off) (hs : Tryd.prog.cellsOf f.type = d.sz) (ho : Opens d f.type) (hr : OpensF r fs (j + 1) (off + d.sz)) : OpensF (Kd.pair d r) fs j off := by
  intro H enc w base spare held fuel cs hl hf
  have hl' : off + (d.sz + r.sz) = cs.length := hl
  obtain ⟨x, hx⟩ := hf j f hj
  rw [hoff, hs] at hx
  obtain ⟨a, ha⟩ := ho _ _ _ _ _ _ _ _ _ hx
  obtain ⟨b, hb⟩ := hr _ _ _ _ _ _ _ cs (by omega) hf
  refine ⟨(a, b), (cs.drop off).take d.sz, cs.drop (off + d.sz), ?_, ha, hb⟩
  rw [← List.drop_drop, List.take_append_drop]
theorem Opens.struct {α β : Type} {d : Kd α} {f : β → α} {g : α → β} (hg : ∀ x, f (g x) = x) {t : TypeId} {fs : Array Field} (ht : Tryd.prog.underlying t = some (.struct fs)) (hc : Tryd.prog.cellsOf t = d.sz) (hF : OpensF d fs 0 0) : Opens (Kd.iso d f) t := by
  intro H enc w base spare held fuel cs x hx
  obtain ⟨xs, n, _, _, hl, hxl, hf⟩ := DataW.trod_struct ht hx
  obtain ⟨a, ha⟩ := hF _ enc w base spare held n cs (by rw [hl, hc]; omega) fun i fd hi => by
    have h1 := hf i fd hi
    have hlt : i < fs.size := (Array.getElem?_eq_some_iff.1 hi).1
    rw [h1, List.getElem?_eq_getElem (by omega)]
    exact ⟨_, rfl⟩
  exact ⟨g a, by show d.K w (f (g a)) cs; rw [hg]; simpa using ha⟩
set_option maxRecDepth 100000 in
/-- A slice that came in, by its value. -/
theorem opens_arg {α : Type} {d : Kd α} {t e : TypeId} (ht : Tryd.prog.underlying t = some (.slice e)) (hs : Tryd.prog.cellsOf e = d.sz) (ho : Opens d e)
    {H : Type} {enc : TypeId × Value → H} {w : World} {base b0 : Nat} {spare : Nat → Bool} {held : Bool} {r : Reach} {v : Value} {D : DataW H} {p : List MemPlace} (hv : Value.okWide Tryd.prog w r b0 t v) (h : DataW.Trod enc Tryd.prog w base spare held t v D p) :
    ∃ (xs : List α) (A : Option Addr) (c : Nat), v = .slice A xs.length c ∧ xs.length ≤ c ∧ d.C w A xs.length xs := by
  obtain ⟨a0, len0, cap0, rfl⟩ := okWide_slice ht hv
  obtain ⟨fuel, hf⟩ := h
  have hf' : DataW.trod enc Tryd.prog w base spare held fuel t [.slice a0 len0 cap0] = some (D, p) := hf
  clear hf hv
  obtain ⟨xs, A, c, he, hl, hC⟩ := opens_row ht hs ho hf'
  exact ⟨xs, A, c, (List.cons.inj he).1, hl, hC⟩
end Go.Proofs.YtbmebmhdkpmclaaDoor.P
