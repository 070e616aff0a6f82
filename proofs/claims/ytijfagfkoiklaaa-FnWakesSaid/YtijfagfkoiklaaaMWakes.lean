import Derived.Test.YtijfagfkoiklaaaMSleep
namespace Go.Proofs.Ytijfagfkoiklaaa.P
open Go.RowKit Go.Proofs.YtijfagfkoiklaaaW.PrintWords Go.Proofs.YtijfagfkoiklaaaW.PrintLast Go.Proofs.YtijfagfkoiklaaaW.PrintMore
set_option linter.unusedSimpArgs false
set_option linter.unusedVariables false
attribute [local instance] Classical.propDecidable
theorem mem_rd {l : List Int} (h : ∀ x ∈ l, 0 ≤ x ∧ x ≤ 3) {i : Nat} (hi : i < l.length) : 0 ≤ rd l i ∧ rd l i ≤ 3 := by
  rw [rd_get hi]; exact h _ (List.getElem_mem hi)
theorem of_rd {l : List Int} (h : ∀ i : Nat, i < l.length → 0 ≤ rd l i ∧ rd l i ≤ 3) : ∀ x ∈ l, 0 ≤ x ∧ x ≤ 3 := by
  intro x hx
  obtain ⟨j, hj, rfl⟩ := List.mem_iff_getElem.mp hx
  rw [← rd_get hj]; exact h j hj
theorem settleGo_ok {t : List S41} (ht : treeOk t = true) : ∀ (k : Nat) (s : List Int), k < t.length → s.length = t.length → (∀ i : Nat, i < t.length → 0 ≤ rd s i ∧ rd s i ≤ 3) → (∀ j : Nat, k < j → j < t.length → rd s (rd_T41 t j).f0 ≤ rd s j) →
    (settleGo t k s).length = t.length ∧ (∀ i : Nat, i < t.length → 0 ≤ rd (settleGo t k s) i ∧ rd (settleGo t k s) i ≤ 3) ∧ ∀ j : Nat, 1 ≤ j → j < t.length → rd (settleGo t k s) (rd_T41 t j).f0 ≤ rd (settleGo t k s) j := by
  intro k
  induction k with
  | zero => intro s h1 h2 h3 h4; exact ⟨h2, h3, fun j a b => h4 j a b⟩
  | succ k ih =>
    intro s h1 h2 h3 h4
    rw [settleGo]
    obtain ⟨p0, p1, _⟩ := tree_at ht (k := k + 1) (by omega) h1
    have e : ((k + 1 : Nat) : Int) = (k : Int) + 1 := by omega
    rw [e] at p0 p1
    obtain ⟨p, hp⟩ : ∃ p, (rd_T41 t ((k : Int) + 1)).f0 = p := ⟨_, rfl⟩
    rw [hp] at p0 p1 ⊢
    obtain ⟨q, rfl⟩ := Int.eq_ofNat_of_zero_le p0
    have r1 := h3 q (by omega)
    have r2 := h3 (k + 1) h1
    rw [e] at r2
    have hm : mn (rd s q) (rd s ((k : Int) + 1)) ≤ rd s q ∧ mn (rd s q) (rd s ((k : Int) + 1)) ≤ rd s ((k : Int) + 1) ∧ 0 ≤ mn (rd s q) (rd s ((k : Int) + 1)) ∧ mn (rd s q) (rd s ((k : Int) + 1)) ≤ 3 := by
      unfold mn; split <;> omega
    obtain ⟨v, hv⟩ : ∃ v, mn (rd s q) (rd s ((k : Int) + 1)) = v := ⟨_, rfl⟩
    rw [hv] at hm ⊢
    refine ih _ (by omega) (by rw [List.length_set]; exact h2) (fun i hi => ?_) (fun j hj1 hj2 => ?_)
    · rw [rd_set' s (by omega) v (by omega)]
      split
      · omega
      · exact h3 i hi
    · obtain ⟨a, b, _⟩ := tree_at ht (k := j) (by omega) hj2
      rw [rd_set' s (by omega) v a, rd_set' s (by omega) v (by omega), if_neg (show ¬ ((q : Int) = (j : Int) ∧ (j : Int) < s.length) by omega)]
      by_cases ej : j = k + 1
      · subst ej
        rw [e, hp, if_pos ⟨rfl, by omega⟩]; exact hm.2.1
      · have := h4 j (by omega) hj2
        split
        · rename_i hh; rw [← hh.1] at this; omega
        · exact this
theorem settle_ok {t : List S41} {w : List Int} (h : areD t w = true) : SleepP t (settleW t w) := by
  obtain ⟨ht, hl, hx⟩ := areD_iff.mp h
  have hln := tree_len ht
  unfold settleW
  rw [if_pos h]
  obtain ⟨a, b, c⟩ := settleGo_ok ht (t.length - 1) w (by omega) hl (fun i hi => mem_rd hx (by omega)) (fun j h1 h2 => by omega)
  exact ⟨areD_iff.mpr ⟨ht, a, of_rd (fun i hi => b i (by omega))⟩, c⟩
theorem setSame {s : List Int} {k : Nat} (h : k < s.length) : s.set k (rd s k) = s := by
  apply rd_ext (by simp)
  intro i hi
  rw [rd_set]
  split
  · rename_i e; rw [e.1]
  · rfl
/-- What FnWakes meets on its way. -/
structure WakesWay (l0 : List Int) (t : List S41) (wd p : List Int) (kn : Nat) (s x y z : List Int) (m : Nat) : Prop where
  draw : ∃ k, spec_DrawDepths.f k l0 = some (t, wd)
  places : ∃ k, spec_DrawPlaces.f k l0 = some p
  settled : settleW t wd = s
  pl : p.length = 12
  tl : 1 ≤ t.length ∧ t.length ≤ 12
  node : Int.tmod (rd p 0) (t.length : Int) = kn
  kl : kn < t.length
  woken : ∃ k, impl_WakeNode.f k t s kn = some (x, true)
  path : ∃ k, impl_PathTo.f k t kn = some (pathTo t kn)
  ok : ∃ k, impl_SleepOk.f k t x = some true
  xl : x.length = t.length
  sl : s.length = t.length
  ql : (pathTo t kn).length ≤ 13
  has : ∀ i : Int, ∃ k, laws_has.f k (pathTo t kn) i = some (decide (i ∈ pathTo t kn))
  at_in : ∀ i : Nat, i < t.length → (i : Int) ∈ pathTo t kn → rd x i = 0
  at_out : ∀ i : Nat, i < t.length → ¬ (i : Int) ∈ pathTo t kn → rd x i = rd s i
  deep : ∃ k, impl_DeepestFor.f k t s kn = some (m : Int)
  set1 : ∃ k, impl_SetSleep.f k t s kn (m : Int) = some (y, true)
  set2 : ∃ k, impl_SetSleep.f k t s kn ((m : Int) + 1) = some (z, false)
  ok2 : ∃ k, impl_SleepOk.f k t y = some true
  ge : rd s kn ≤ (m : Int)
  m4 : m < 4
theorem wakes_way {l0 : List Int} (hsz' : l0.length ≤ 140737488351232) : ∃ t wd p kn s x y z m, WakesWay l0 t wd p kn s x y z m := by
  obtain ⟨t, w, evd, hd⟩ := drawDepths_ev hsz'
  obtain ⟨p, evp, hpl, hp⟩ := places_ev hsz'
  have hs := settle_ok hd
  obtain ⟨s, hse⟩ : ∃ s, settleW t w = s := ⟨_, rfl⟩
  rw [hse] at hs
  obtain ⟨ht, hsl, hsx⟩ := areD_iff.mp hs.1
  have hln := tree_len ht
  have hp0 : 0 ≤ rd p 0 := (hp _ (rd_mem (by omega) (by omega))).1
  obtain ⟨k, hk⟩ : ∃ k, Int.tmod (rd p 0) (t.length : Int) = k := ⟨_, rfl⟩
  have hkr : 0 ≤ k ∧ k < (t.length : Int) := by rw [← hk]; exact tmod_range hp0 (by omega)
  have hnode : isNodeB t k = true := by unfold isNodeB; rw [ht, inR_iff.mpr ⟨hkr.1, by omega⟩]; rfl
  obtain ⟨m1, m2, m3⟩ := path_mem hnode
  obtain ⟨x, evx, hxl, hx⟩ := wake_ev hs hkr
  have evpath := pathTo_ev t k
  rw [if_pos hnode] at evpath
  have hpath : (pathTo t k).length ≤ 13 := by unfold pathTo; rw [List.length_reverse]; exact upFrom_len _ _ _
  -- what is woken is valid
  have hxs : SleepP t x := by
    refine ⟨areD_iff.mpr ⟨ht, by omega, of_rd (fun i hi => ?_)⟩, fun j h1 h2 => ?_⟩
    · rw [hx i (by omega)]
      split
      · omega
      · exact mem_rd hsx (by omega)
    · obtain ⟨a, b, _⟩ := tree_at ht h1 h2
      obtain ⟨q, hq⟩ := Int.eq_ofNat_of_zero_le a
      rw [hq] at b
      rw [hq, hx q (by omega), hx j (by omega)]
      have hle := hs.2 j h1 h2
      rw [hq] at hle
      have r1 := mem_rd hsx (i := q) (by omega)
      have r2 := mem_rd hsx (i := j) (by omega)
      by_cases e : (j : Int) ∈ pathTo t k
      · have := m3 _ e (by omega)
        rw [hq] at this
        rw [if_pos e, if_pos this]; omega
      · rw [if_neg e]
        split <;> omega
  have evok := sleepOk_ev t x
  rw [decide_eq_true hxs] at evok
  -- the deepest
  obtain ⟨kn, rfl⟩ := Int.eq_ofNat_of_zero_le hkr.1
  have hk2 : kn < s.length := by omega
  have rk := mem_rd hsx hk2
  obtain ⟨dn, hdn⟩ := Int.eq_ofNat_of_zero_le rk.1
  have hset0 : (setSleep t s kn (dn : Int)).2 = true := by
    unfold setSleep
    rw [if_pos ⟨hs, hkr.1, hkr.2, by rw [Int.toNat_natCast, ← hdn, setSame hk2]; exact hs⟩]
  obtain ⟨m, d1, d2, d3, d4, d5⟩ := deepest_go t s kn (by omega) (by omega) 4 (by omega) dn (by omega) hset0
  have evs1 := setSleep_ev t s kn (m : Int) (by omega) (by omega)
  have evs2 := setSleep_ev t s kn ((m : Int) + 1) (by omega) (by omega)
  have hset1 : (setSleep t s kn (m : Int)).1 = s.set kn (m : Int) ∧ SleepP t (s.set kn (m : Int)) := by
    unfold setSleep at d4 ⊢
    by_cases hc : SleepP t s ∧ 0 ≤ (kn : Int) ∧ (kn : Int) < (t.length : Int) ∧ SleepP t (s.set (kn : Int).toNat (m : Int))
    · rw [if_pos hc]; exact ⟨by rw [Int.toNat_natCast], by have := hc.2.2.2; rwa [Int.toNat_natCast] at this⟩
    · rw [if_neg hc] at d4; cases d4
  have hset2 : (setSleep t s kn ((m : Int) + 1)).2 = false := by
    by_cases e : m + 1 < 4
    · exact d5 (m + 1) (by omega) e
    · unfold setSleep
      rw [if_neg]
      intro hc
      have := (areD_iff.mp hc.2.2.2.1).2.2 ((m : Int) + 1) (by rw [Int.toNat_natCast]; exact List.mem_iff_getElem.mpr ⟨kn, by simpa using hk2, by simp⟩)
      omega
  have evok2 := sleepOk_ev t (s.set kn (m : Int))
  rw [decide_eq_true hset1.2] at evok2
  obtain ⟨z, hz⟩ : ∃ z, setSleep t s kn ((m : Int) + 1) = (z, false) := ⟨(setSleep t s kn ((m : Int) + 1)).1, by rw [← hset2]⟩
  rw [hz] at evs2
  have hy : setSleep t s kn (m : Int) = (s.set kn (m : Int), true) := by rw [← hset1.1, ← d4]
  rw [hy] at evs1
  refine ⟨t, w, p, kn, s, x, s.set kn (m : Int), z, m, evd.rounds, evp.rounds, hse, hpl, hln, hk, by omega, evx.rounds, evpath.rounds, evok.rounds, by omega, hsl, hpath, fun i => (has_ev _ i (by omega)).rounds, fun i hi h => ?_, fun i hi h => ?_, (Ev.congr (g := fun n => impl_DeepestFor.f n t s kn) (fun n => rfl) d3).rounds, evs1.rounds, evs2.rounds, evok2.rounds, by omega, d2⟩
  · rw [hx i (by omega), if_pos h]
  · rw [hx i (by omega), if_neg h]
end Go.Proofs.Ytijfagfkoiklaaa.P
