import Derived.Test.YtijfagfkoiklaaaMPath
import Derived.Test.YtijfagfkoiklaaaPf11
import Derived.Test.YtijfagfkoiklaaaPf14
import Derived.Test.YtijfagfkoiklaaaPf9
import Derived.Test.YtijfagfkoiklaaaPf13
import Derived.Test.YtijfagfkoiklaaaPf12
import Derived.Test.YtijfagfkoiklaaaPf6
namespace Go.Proofs.Ytijfagfkoiklaaa.P
open Go.RowKit Go.Proofs.YtijfagfkoiklaaaW.PrintWords Go.Proofs.YtijfagfkoiklaaaW.PrintLast Go.Proofs.YtijfagfkoiklaaaW.PrintMore
set_option linter.unusedSimpArgs false
set_option linter.unusedVariables false
attribute [local instance] Classical.propDecidable
/-- No bridge sleeps more deeply than a node below it. -/
def SleepP (t : List S41) (s : List Int) : Prop := areD t s = true ∧ ∀ j : Nat, 1 ≤ j → j < t.length → rd s (rd_T41 t j).f0 ≤ rd s j
theorem sleepOk_go {t : List S41} {s : List Int} (h : areD t s = true) : ∀ (d i : Nat), 1 ≤ i → t.length - i ≤ d →
    Ev (fun k => impl_SleepOk.l0 k t s i) (decide (∀ j : Nat, i ≤ j → j < t.length → rd s (rd_T41 t j).f0 ≤ rd s j)) := by
  obtain ⟨ht, hl, hx⟩ := areD_iff.mp h
  have hln := tree_len ht
  intro d
  induction d with
  | zero =>
    intro i h1 hd
    rw [decide_eq_true (fun j a b => by omega)]
    refine Ev.step (f := fun _ => some true) (fun k => ?_) (Ev.now _)
    simp only [impl_SleepOk.l0]
    rw [if_neg (by omega)]
  | succ d ih =>
    intro i h1 hd
    by_cases hlt : i < t.length
    · obtain ⟨a, b, _⟩ := tree_at ht h1 hlt
      by_cases hc : rd s (rd_T41 t i).f0 ≤ rd s i
      · have := ih (i + 1) (by omega) (by omega)
        have e : (decide (∀ j : Nat, i ≤ j → j < t.length → rd s (rd_T41 t j).f0 ≤ rd s j)) = decide (∀ j : Nat, i + 1 ≤ j → j < t.length → rd s (rd_T41 t j).f0 ≤ rd s j) := by
          rw [decide_eq_decide]
          constructor
          · intro hh j h1 h2; exact hh j (by omega) h2
          · intro hh j h1 h2
            by_cases e : i = j
            · subst e; exact hc
            · exact hh j (by omega) h2
        rw [e]
        refine Ev.step (fun k => ?_) this
        simp only [impl_SleepOk.l0]
        rw [if_pos (by omega), if_pos (by omega), if_pos a, if_pos (by omega), if_pos (by omega), if_neg (by omega), w64 (by omega) (by omega)]
        rfl
      · rw [decide_eq_false (fun hh => hc (hh i (Nat.le_refl _) hlt))]
        refine Ev.step (f := fun _ => some false) (fun k => ?_) (Ev.now _)
        simp only [impl_SleepOk.l0]
        rw [if_pos (by omega), if_pos (by omega), if_pos a, if_pos (by omega), if_pos (by omega), if_pos (by omega)]
    · rw [decide_eq_true (fun j a b => by omega)]
      refine Ev.step (f := fun _ => some true) (fun k => ?_) (Ev.now _)
      simp only [impl_SleepOk.l0]
      rw [if_neg (by omega)]
theorem sleepOk_ev (t : List S41) (s : List Int) : Ev (fun k => impl_SleepOk.f k t s) (decide (SleepP t s)) := by
  by_cases h : areD t s = true
  · have := sleepOk_go h t.length 1 (Nat.le_refl _) (by omega)
    have e : decide (SleepP t s) = decide (∀ j : Nat, 1 ≤ j → j < t.length → rd s (rd_T41 t j).f0 ≤ rd s j) := by
      rw [decide_eq_decide]
      exact ⟨fun h => h.2, fun hh => ⟨h, hh⟩⟩
    rw [e]
    refine Ev.congr (fun k => ?_) this
    simp only [impl_SleepOk.f, impl_areDepths.f, Option.bind_some]
    rw [if_pos h]; rfl
  · rw [decide_eq_false (fun hh => h hh.1)]
    refine Ev.congr (f := fun _ => some false) (fun k => ?_) (Ev.now _)
    simp only [impl_SleepOk.f, impl_areDepths.f, Option.bind_some]
    rw [if_neg h]
theorem clone_some {l : List Int} (h : l.length < 17592186044416) : clone_int.f l = some l := if_pos h
/-- What SetSleep returns. -/
noncomputable def setSleep (t : List S41) (s : List Int) (k d : Int) : List Int × Bool :=
  if SleepP t s ∧ 0 ≤ k ∧ k < (t.length : Int) ∧ SleepP t (s.set k.toNat d) then (s.set k.toNat d, true) else (s, false)
theorem setSleep_ev (t : List S41) (s : List Int) (k d : Int) (hs : s.length < 17592186044416) (ht : t.length ≤ 140737488351232) : Ev (fun n => impl_SetSleep.f n t s k d) (setSleep t s k d) := by
  by_cases h : SleepP t s
  · obtain ⟨htr, hl, hx⟩ := areD_iff.mp h.1
    by_cases hk : 0 ≤ k ∧ k < (t.length : Int)
    · have e1 := sleepOk_ev t s
      rw [decide_eq_true h] at e1
      have e2 := sleepOk_ev t (s.set k.toNat d)
      have e3 : Ev (fun n => impl_SetSleep.j0 n t s k d s false) (setSleep t s k d) := by
        unfold setSleep
        by_cases h2 : SleepP t (s.set k.toNat d)
        · rw [decide_eq_true h2] at e2
          rw [if_pos ⟨h, hk.1, hk.2, h2⟩]
          refine Ev.step (f := fun n => (impl_SleepOk.f n t (s.set k.toNat d)).bind fun b => if b = true then some (s.set k.toNat d, true) else (clone_int.f s).bind fun t238 => some (t238, false)) (fun n => ?_) (Ev.bind e2 (Ev.now _))
          simp only [impl_SetSleep.j0]
          rw [if_neg (by simp), if_pos hk.1, if_pos (by omega)]; rfl
        · rw [decide_eq_false h2] at e2
          rw [if_neg (fun hh => h2 hh.2.2.2)]
          refine Ev.step (f := fun n => (impl_SleepOk.f n t (s.set k.toNat d)).bind fun b => if b = true then some (s.set k.toNat d, true) else (clone_int.f s).bind fun t238 => some (t238, false)) (fun n => ?_) (Ev.bind e2 ?_)
          · simp only [impl_SetSleep.j0]
            rw [if_neg (by simp), if_pos hk.1, if_pos (by omega)]; rfl
          · refine Ev.congr (f := fun _ => some (s, false)) (fun n => ?_) (Ev.now _)
            rw [if_neg (by simp), clone_some hs]; rfl
      refine Ev.congr (f := fun n => (impl_SleepOk.f n t s).bind fun t234 => if t234 = true then impl_SetSleep.j0 n t s k d s false else impl_SetSleep.j0 n t s k d s true) (fun n => ?_) (Ev.bind e1 (Ev.congr (fun n => if_pos rfl) e3))
      simp only [impl_SetSleep.f, clone_some hs, Option.bind_some, impl_within.f]
      rw [w64 (by omega) (by omega), show inR k 0 ((t.length : Int) - 1) = true from inR_iff.mpr ⟨hk.1, by omega⟩]
      rfl
    · have e1 := sleepOk_ev t s
      rw [decide_eq_true h] at e1
      have e3 : Ev (fun n => impl_SetSleep.j0 n t s k d s true) (setSleep t s k d) := by
        unfold setSleep
        rw [if_neg (fun hh => hk ⟨hh.2.1, hh.2.2.1⟩)]
        refine Ev.step (f := fun _ => some (s, false)) (fun n => ?_) (Ev.now _)
        simp only [impl_SetSleep.j0]
        rw [if_pos trivial]
      refine Ev.congr (f := fun n => (impl_SleepOk.f n t s).bind fun t234 => if t234 = true then impl_SetSleep.j0 n t s k d s true else impl_SetSleep.j0 n t s k d s true) (fun n => ?_) (Ev.bind e1 (Ev.congr (fun n => if_pos rfl) e3))
      simp only [impl_SetSleep.f, clone_some hs, Option.bind_some, impl_within.f]
      have : inR k 0 ((t.length : Int) - 1) = false := by
        cases hb : inR k 0 ((t.length : Int) - 1) with
        | false => rfl
        | true => exact absurd (inR_iff.mp hb) (fun hh => hk ⟨hh.1, by omega⟩)
      rw [w64 (by omega) (by omega), this]
      rfl
  · have e1 := sleepOk_ev t s
    rw [decide_eq_false h] at e1
    have e3 : Ev (fun n => impl_SetSleep.j0 n t s k d s true) (setSleep t s k d) := by
      unfold setSleep
      rw [if_neg (fun hh => h hh.1)]
      refine Ev.step (f := fun _ => some (s, false)) (fun n => ?_) (Ev.now _)
      simp only [impl_SetSleep.j0]
      rw [if_pos trivial]
    refine Ev.congr (f := fun n => (impl_SleepOk.f n t s).bind fun t234 => if t234 = true then ((impl_within.f k 0 (wrap64 ((t.length : Int) - 1))).bind fun t235 => (impl_SetSleep.j0 n t s k d s (!t235))) else impl_SetSleep.j0 n t s k d s true) (fun n => ?_) (Ev.bind e1 (Ev.congr (fun n => if_neg (by simp)) e3))
    simp only [impl_SetSleep.f, clone_some hs, Option.bind_some]
/-- The greatest depth from d on downwards that can be set. -/
theorem deepest_go (t : List S41) (s : List Int) (k : Int) (hs : s.length < 17592186044416) (ht : t.length ≤ 140737488351232) : ∀ (d : Nat), d ≤ 4 → ∀ d0 : Nat, d0 < d → (setSleep t s k d0).2 = true →
    ∃ m : Nat, d0 ≤ m ∧ m < d ∧ Ev (fun n => impl_DeepestFor.l0 n t s k ((d : Int) - 1)) (m : Int) ∧ (setSleep t s k m).2 = true ∧ ∀ j : Nat, m < j → j < d → (setSleep t s k j).2 = false := by
  intro d
  induction d with
  | zero => intro _ d0 h; omega
  | succ d ih =>
    intro hd d0 h0 hset
    have e := setSleep_ev t s k (d : Int) hs ht
    cases hb : (setSleep t s k (d : Int)).2 with
    | true =>
      refine ⟨d, by omega, by omega, ?_, hb, fun j h1 h2 => by omega⟩
      refine Ev.step (f := fun n => (impl_SetSleep.f n t s k d).bind fun b => if b.2 = true then some (d : Int) else impl_DeepestFor.l0 n t s k ((d : Int) - 1)) (fun n => ?_) (Ev.bind e ?_)
      · simp only [impl_DeepestFor.l0]
        rw [show ((d + 1 : Nat) : Int) - 1 = (d : Int) by omega, if_pos (by omega), w64 (by omega) (by omega)]
      · exact Ev.congr (fun n => if_pos hb) (Ev.now _)
    | false =>
      by_cases e0 : d0 = d
      · subst e0; rw [hset] at hb; cases hb
      · obtain ⟨m, h1, h2, h3, h4, h5⟩ := ih (by omega) d0 (by omega) hset
        refine ⟨m, h1, by omega, ?_, h4, fun j h1 h2 => ?_⟩
        · refine Ev.step (f := fun n => (impl_SetSleep.f n t s k d).bind fun b => if b.2 = true then some (d : Int) else impl_DeepestFor.l0 n t s k ((d : Int) - 1)) (fun n => ?_) (Ev.bind e ?_)
          · simp only [impl_DeepestFor.l0]
            rw [show ((d + 1 : Nat) : Int) - 1 = (d : Int) by omega, if_pos (by omega), w64 (by omega) (by omega)]
          · exact Ev.congr (fun n => if_neg (by rw [hb]; simp)) h3
        · by_cases e : j = d
          · subst e; exact hb
          · exact h5 j h1 (by omega)
theorem has_go (l : List Int) (x : Int) (hl : l.length ≤ 140737488351232) : ∀ (d i : Nat), l.length - i ≤ d → i ≤ l.length → Ev (fun n => laws_has.l0 n l x i) (decide (x ∈ l.drop i)) := by
  intro d
  induction d with
  | zero =>
    intro i hd hi
    rw [List.drop_eq_nil_of_le (by omega), decide_eq_false (by simp)]
    refine Ev.step (f := fun _ => some false) (fun n => ?_) (Ev.now _)
    simp only [laws_has.l0]
    rw [if_neg (by omega)]
  | succ d ih =>
    intro i hd hi
    by_cases hlt : i < l.length
    · have hdr : l.drop i = l[i] :: l.drop (i + 1) := List.drop_eq_getElem_cons hlt
      by_cases e : rd l i = x
      · rw [decide_eq_true (by rw [← e, rd_get hlt, hdr]; exact List.mem_cons_self)]
        refine Ev.step (f := fun _ => some true) (fun n => ?_) (Ev.now _)
        simp only [laws_has.l0]
        rw [if_pos (by omega), if_pos (by omega), if_pos e]
      · have := ih (i + 1) (by omega) (by omega)
        have e2 : decide (x ∈ l.drop i) = decide (x ∈ l.drop (i + 1)) := by
          rw [decide_eq_decide, hdr]
          constructor
          · intro h
            rcases List.mem_cons.mp h with h | h
            · exact absurd (by rw [rd_get hlt]; exact h.symm) e
            · exact h
          · intro h; exact List.mem_cons_of_mem _ h
        rw [e2]
        refine Ev.step (fun n => ?_) this
        simp only [laws_has.l0]
        rw [if_pos (by omega), if_pos (by omega), if_neg e, w64 (by omega) (by omega)]; rfl
    · rw [List.drop_eq_nil_of_le (by omega), decide_eq_false (by simp)]
      refine Ev.step (f := fun _ => some false) (fun n => ?_) (Ev.now _)
      simp only [laws_has.l0]
      rw [if_neg (by omega)]
theorem has_ev (l : List Int) (x : Int) (hl : l.length ≤ 140737488351232) : Ev (fun n => laws_has.f n l x) (decide (x ∈ l)) := by
  have := has_go l x hl l.length 0 (by omega) (by omega)
  rw [List.drop_zero] at this
  exact Ev.congr (fun n => rfl) this
theorem rd_set' (l : List Int) {i : Int} (h0 : 0 ≤ i) (v : Int) {j : Int} (h1 : 0 ≤ j) : rd (l.set i.toNat v) j = if i = j ∧ j < l.length then v else rd l j := by
  obtain ⟨j, rfl⟩ := Int.eq_ofNat_of_zero_le h1
  obtain ⟨i, rfl⟩ := Int.eq_ofNat_of_zero_le h0
  rw [Int.toNat_natCast, rd_set]
  by_cases e : i = j ∧ j < l.length
  · rw [if_pos e, if_pos (by omega)]
  · rw [if_neg e, if_neg (by omega)]
/-- Zeros at the places of p. -/
theorem wake_go (p : List Int) (hp : p.length ≤ 1000) : ∀ (d i : Nat) (x : List Int), (∀ y ∈ p, 0 ≤ y ∧ y < (x.length : Int)) → i ≤ p.length → p.length - i ≤ d →
    ∃ y, Ev (fun n => impl_WakeNode.l0 n x p (p.length : Int) i) (y, true) ∧ y.length = x.length ∧ ∀ j : Nat, j < x.length → rd y j = if (j : Int) ∈ p.drop i then 0 else rd x j := by
  intro d
  induction d with
  | zero =>
    intro i x hx hi hd
    refine ⟨x, Ev.step (f := fun _ => some (x, true)) (fun n => ?_) (Ev.now _), rfl, fun j hj => ?_⟩
    · simp only [impl_WakeNode.l0]
      rw [if_neg (by omega)]
    · rw [List.drop_eq_nil_of_le (by omega), if_neg (by simp)]
  | succ d ih =>
    intro i x hx hi hd
    by_cases hlt : i < p.length
    · have hdr : p.drop i = p[i] :: p.drop (i + 1) := List.drop_eq_getElem_cons hlt
      have hr := hx _ (List.getElem_mem hlt)
      rw [← rd_get hlt] at hr hdr
      obtain ⟨y, ev, hl, hy⟩ := ih (i + 1) (x.set (rd p i).toNat 0) (by simpa using hx) (by omega) (by omega)
      rw [List.length_set] at hl hy
      refine ⟨y, Ev.step (fun n => ?_) ev, hl, fun j hj => ?_⟩
      · simp only [impl_WakeNode.l0]
        rw [if_pos (by omega), if_pos (by omega), if_pos (by omega), if_pos hr.1, if_pos hr.2, w64 (by omega) (by omega)]; rfl
      · rw [hy j hj, hdr, rd_set' x hr.1 0 (by omega)]
        by_cases e : (j : Int) ∈ p.drop (i + 1)
        · rw [if_pos e, if_pos (List.mem_cons_of_mem _ e)]
        · rw [if_neg e]
          by_cases e2 : rd p i = (j : Int)
          · rw [if_pos ⟨e2, by omega⟩, if_pos (by rw [e2]; exact List.mem_cons_self)]
          · rw [if_neg (fun h => e2 h.1), if_neg (fun h => by
              rcases List.mem_cons.mp h with h | h
              · exact e2 h.symm
              · exact e h)]
    · refine ⟨x, Ev.step (f := fun _ => some (x, true)) (fun n => ?_) (Ev.now _), rfl, fun j hj => ?_⟩
      · simp only [impl_WakeNode.l0]
        rw [if_neg (by omega)]
      · rw [List.drop_eq_nil_of_le (by omega), if_neg (by simp)]
theorem wake_ev {t : List S41} {s : List Int} {k : Int} (h : SleepP t s) (hk : 0 ≤ k ∧ k < (t.length : Int)) :
    ∃ y, Ev (fun n => impl_WakeNode.f n t s k) (y, true) ∧ y.length = s.length ∧ ∀ j : Nat, j < s.length → rd y j = if (j : Int) ∈ pathTo t k then 0 else rd s j := by
  obtain ⟨ht, hl, hx⟩ := areD_iff.mp h.1
  have hln := tree_len ht
  have hb : isNodeB t k = true := by unfold isNodeB; rw [ht, inR_iff.mpr ⟨hk.1, by omega⟩]; rfl
  obtain ⟨hm, _, _⟩ := path_mem hb
  have hpl : (pathTo t k).length ≤ 13 := by unfold pathTo; rw [List.length_reverse]; exact upFrom_len _ _ _
  obtain ⟨y, ev, hyl, hy⟩ := wake_go (pathTo t k) (by omega) 13 0 s (by rw [hl]; exact hm) (by omega) (by omega)
  rw [List.drop_zero] at hy
  refine ⟨y, ?_, hyl, hy⟩
  have e1 := sleepOk_ev t s
  rw [decide_eq_true h] at e1
  have e2 := pathTo_ev t k
  rw [if_pos hb] at e2
  have e3 : Ev (fun n => impl_WakeNode.j0 n t k s false) (y, true) := by
    refine Ev.step (f := fun n => (impl_PathTo.f n t k).bind fun q => impl_WakeNode.l0 n s q (q.length : Int) 0) (fun n => ?_) (Ev.bind e2 ev)
    simp only [impl_WakeNode.j0]
    rw [if_neg (by simp)]
  refine Ev.congr (f := fun n => (impl_SleepOk.f n t s).bind fun t234 => if t234 = true then impl_WakeNode.j0 n t k s false else impl_WakeNode.j0 n t k s true) (fun n => ?_) (Ev.bind e1 (Ev.congr (fun n => if_pos rfl) e3))
  simp only [impl_WakeNode.f, clone_some (show s.length < 17592186044416 by omega), Option.bind_some, impl_within.f]
  rw [w64 (by omega) (by omega), inR_iff.mpr ⟨hk.1, by omega⟩]
  rfl
theorem depths_go (b : List Int) (t : List S41) (ht : t.length ≤ 12) : ∀ (d : Nat) (l : List Int) (i h : Int), (∀ y ∈ l, 0 ≤ y ∧ y ≤ 3) → CurOk b i → l.length ≤ t.length → t.length - l.length ≤ d →
    ∃ l' i' h', Ev (fun k => spec_l35Depths.l0 k t l (l.length : Int) b i h) (l', i', h') ∧ l'.length = t.length ∧ ∀ y ∈ l', 0 ≤ y ∧ y ≤ 3 := by
  intro d
  induction d with
  | zero =>
    intro l i h hl hc h1 hd
    refine ⟨l, i, h, Ev.step (f := fun _ => some (l, i, h)) (fun k => ?_) (Ev.now _), by omega, hl⟩
    simp only [spec_l35Depths.l0]
    rw [if_neg (by omega)]
  | succ d ih =>
    intro l i h hl hc h1 hd
    by_cases hlt : l.length < t.length
    · obtain ⟨y, i1, h1', e1, c1, r1, s1, _⟩ := below_some h 4 hc
      have hy := s1 (by omega)
      obtain ⟨l', i', h', ev, h2, h3⟩ := ih (l ++ [y]) i1 h1' (by
        intro z hz
        rcases List.mem_append.mp hz with hz | hz
        · exact hl z hz
        · rw [List.mem_singleton] at hz; subst hz; omega) c1 (by simp; omega) (by simp; omega)
      refine ⟨l', i', h', Ev.step (fun k => ?_) ev, h2, h3⟩
      simp only [spec_l35Depths.l0]
      rw [if_pos (by omega), e1]; simp only [Option.bind_some]
      rw [if_pos (by omega), w64 (by omega) (by omega), List.length_append]; simp
    · refine ⟨l, i, h, Ev.step (f := fun _ => some (l, i, h)) (fun k => ?_) (Ev.now _), by omega, hl⟩
      simp only [spec_l35Depths.l0]
      rw [if_neg (by omega)]
theorem drawDepths_ev {b : List Int} (hb : b.length ≤ 140737488351232) : ∃ t l, Ev (fun k => spec_DrawDepths.f k b) (t, l) ∧ areD t l = true := by
  obtain ⟨h, hn, hc⟩ := new_some 0 hb
  obtain ⟨t, i1, h1, ev1, ht, c1⟩ := l19Tree_ev h hc
  have hln := tree_len ht
  obtain ⟨l, i2, h2, ev2, hl, hx⟩ := depths_go b t hln.2 12 [] i1 h1 (by simp) c1 (by simp) (by simp; omega)
  refine ⟨t, l, ?_, areD_iff.mpr ⟨ht, hl, hx⟩⟩
  have hn' : ∀ k, spec_l01New.f k b = some (b, 0, h) := fun _ => hn
  have e2 : Ev (fun k => spec_l35Depths.f k b i1 h1 t) (l, i2, h2) := ev2
  refine Ev.congr (fun k => ?_) (Ev.bind ev1 (f := fun k bt => (spec_l35Depths.f k b bt.2.1 bt.2.2 bt.1).bind fun bt174 => some (bt.1, bt174.1)) (Ev.bind e2 (Ev.now _)))
  simp only [spec_DrawDepths.f, hn', Option.bind_some]
end Go.Proofs.Ytijfagfkoiklaaa.P
