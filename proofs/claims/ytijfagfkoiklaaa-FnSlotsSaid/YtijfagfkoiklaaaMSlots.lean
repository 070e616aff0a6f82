import Derived.Test.YtijfagfkoiklaaaMTree
import Derived.Test.YtijfagfkoiklaaaMHas
import Derived.Test.YtijfagfkoiklaaaFSlots
import Derived.Test.YtijfagfkoiklaaaPf15
import Derived.Test.YtijfagfkoiklaaaPf17
import Derived.Test.YtijfagfkoiklaaaPf19
namespace Go.Proofs.Ytijfagfkoiklaaa.P
open Go.RowKit Go.Proofs.YtijfagfkoiklaaaW.PrintWords Go.Proofs.YtijfagfkoiklaaaW.PrintLast Go.Proofs.YtijfagfkoiklaaaW.PrintMore
set_option linter.unusedSimpArgs false
set_option linter.unusedVariables false

theorem rdT_app_left {a b : List S41} {i : Int} (h0 : 0 ≤ i) (h : i < a.length) : rd_T41 (a ++ b) i = rd_T41 a i := by
  obtain ⟨i, rfl⟩ := Int.eq_ofNat_of_zero_le h0
  unfold rd_T41; rw [Int.toNat_natCast, List.getD_eq_getElem?_getD, List.getD_eq_getElem?_getD, List.getElem?_append_left (by omega)]
theorem rdT_app_mid (a : List S41) (x : S41) (b : List S41) : rd_T41 (a ++ x :: b) (a.length : Int) = x := by
  unfold rd_T41; rw [Int.toNat_natCast, List.getD_eq_getElem?_getD, List.getElem?_append_right (Nat.le_refl _)]; simp
/-- A tree with one node more. -/
theorem treeOk_app {t : List S41} (h : treeOk t = true) (n : S41) : treeOk (t ++ [n]) = (decide (t.length < 12) && nodeOk t n) := by
  have hl := tree_len h
  have h' := h
  unfold treeOk at h' ⊢
  simp only [Bool.and_eq_true] at h'
  obtain ⟨⟨a, b⟩, c⟩ := h'
  have e1 : (t ++ [n]).length - 1 = (t.length - 1) + 1 := by simp; omega
  have e2 : rd_T41 (t ++ [n]) 0 = rd_T41 t 0 := rdT_app_left (by omega) (by omega)
  have e3 : ((List.range (t.length - 1)).all fun k => nodeOk ((t ++ [n]).take (k + 1)) (rd_T41 (t ++ [n]) ((k : Int) + 1))) = true := by
    rw [← c]
    rw [List.all_eq_true] at c
    rw [Bool.eq_iff_iff, List.all_eq_true, List.all_eq_true]
    refine forall_congr' fun k => forall_congr' fun hk => ?_
    rw [List.mem_range] at hk
    rw [rdT_app_left (by omega) (by omega), List.take_append_of_le_length (by omega)]
  rw [e1, e2, b, List.range_succ, List.all_append, e3]
  have e4 : inR ((t ++ [n]).length : Int) 1 12 = decide (t.length < 12) := by
    unfold inR
    rw [List.length_append, List.length_singleton]
    rw [show decide ((1 : Int) ≤ ((t.length + 1 : Nat) : Int)) = true from decide_eq_true (by omega), Bool.true_and, decide_eq_decide]
    omega
  rw [e4]
  simp only [List.all_cons, List.all_nil, Bool.and_true, Bool.true_and]
  have e5 : (((t.length - 1 : Nat) : Int) + 1) = (t.length : Int) := by omega
  rw [e5, show t.length - 1 + 1 = t.length by omega, rdT_app_mid, List.take_append_of_le_length (Nat.le_refl _), List.take_length]
theorem node_free {t : List S41} {k d : Int} (hk : 0 ≤ k ∧ k < t.length) (hd : 0 ≤ d ∧ d ≤ 3) : nodeOk t ⟨k, d, 1⟩ = ((rd_T41 t k).f2 == 0 && freeAt t k d) := by
  unfold nodeOk freeAt
  rw [inR_iff.mpr (show (0 : Int) ≤ k ∧ k ≤ (t.length : Int) - 1 by omega), inR_iff.mpr hd, inR_iff.mpr (show (0 : Int) ≤ 1 ∧ (1 : Int) ≤ 4 by omega)]
  simp
theorem slots_mem {t : List S41} {k d : Int} (hn : isNodeB t k = true) (hd : 0 ≤ d ∧ d ≤ 3) : decide (d ∈ slotsOf t k) = ((rd_T41 t k).f2 == 0 && freeAt t k d) := by
  unfold slotsOf
  by_cases h : (rd_T41 t k).f2 = 0
  · rw [if_pos ⟨hn, h⟩, h]
    rw [show ((0 : Int) == 0) = true from rfl, Bool.true_and]
    rw [Bool.eq_iff_iff, decide_eq_true_iff]
    unfold slotsTo
    simp only [List.mem_map, List.mem_filter, List.mem_range]
    constructor
    · rintro ⟨i, ⟨_, h2⟩, rfl⟩; exact h2
    · intro h2; exact ⟨d.toNat, ⟨by omega, by rw [Int.toNat_of_nonneg hd.1]; exact h2⟩, Int.toNat_of_nonneg hd.1⟩
  · rw [if_neg (fun hh => h hh.2), beq_eq_false_iff_ne.mpr h]
    rfl
/-- Siblings have other devices. -/
theorem sib {t : List S41} (h : treeOk t = true) {i j : Nat} (h0 : i < j) (h1 : j < t.length) (e : (rd_T41 t i).f0 = (rd_T41 t j).f0) : (rd_T41 t i).f1 ≠ (rd_T41 t j).f1 := by
  unfold treeOk at h
  simp only [Bool.and_eq_true, List.all_eq_true, List.mem_range] at h
  have hn := h.2 (j - 1) (by omega)
  rw [show j - 1 + 1 = j by omega, show ((j - 1 : Nat) : Int) + 1 = (j : Int) by omega] at hn
  unfold nodeOk at hn
  simp only [Bool.and_eq_true, Bool.not_eq_true', List.any_eq_false] at hn
  intro e1
  have := hn.2 (rd_T41 t i) (List.mem_take_iff_getElem.mpr ⟨i, by omega, by unfold rd_T41; rw [Int.toNat_natCast, List.getD_eq_getElem?_getD, List.getElem?_eq_getElem (by omega)]; rfl⟩)
  rw [e, e1] at this
  simp at this
theorem kids_nodup {t : List S41} (h : treeOk t = true) (k : Int) : ((kidsTo t k t.length).map fun i => (rd_T41 t i).f1).Nodup := by
  unfold kidsTo
  rw [List.map_map, List.nodup_iff_pairwise_ne, List.pairwise_map]
  have hr : (List.range t.length).Pairwise (fun a b => a < b) := List.pairwise_lt_range
  refine List.Pairwise.imp_of_mem ?_ (hr.filter _)
  intro a b ha hb hab
  simp only [List.mem_filter, List.mem_range, beq_iff_eq] at ha hb
  exact sib h hab hb.1 (ha.2.trans hb.2.symm)
theorem freeAt_iff {t : List S41} (k d : Int) : freeAt t k d = false ↔ ∃ i : Nat, i < t.length ∧ (rd_T41 t i).f0 = k ∧ (rd_T41 t i).f1 = d := by
  unfold freeAt
  simp only [Bool.not_eq_false', List.any_eq_true, Bool.and_eq_true, beq_iff_eq]
  constructor
  · rintro ⟨x, hx, h1, h2⟩
    obtain ⟨i, hi, rfl⟩ := List.mem_iff_getElem.mp hx
    have e : rd_T41 t i = t[i] := by unfold rd_T41; rw [Int.toNat_natCast, List.getD_eq_getElem?_getD, List.getElem?_eq_getElem hi]; rfl
    exact ⟨i, hi, by rw [e]; exact h1, by rw [e]; exact h2⟩
  · rintro ⟨i, hi, h1, h2⟩
    have e : rd_T41 t i = t[i] := by unfold rd_T41; rw [Int.toNat_natCast, List.getD_eq_getElem?_getD, List.getElem?_eq_getElem hi]; rfl
    exact ⟨t[i], List.getElem_mem hi, by rw [← e]; exact h1, by rw [← e]; exact h2⟩
/-- Free slots and children of a bridge are four. -/
theorem slots_kids {t : List S41} (h : treeOk t = true) {k : Int} (hk : 0 ≤ k) : (slotsTo t k 4).length + (kidsTo t k t.length).length = 4 := by
  have hp : ((kidsTo t k t.length).map fun i => (rd_T41 t i).f1).Perm (((List.range 4).filter fun i : Nat => !freeAt t k (i : Int)).map fun i : Nat => (i : Int)) := by
    rw [List.perm_ext_iff_of_nodup (kids_nodup h k)]
    · intro d
      simp only [List.mem_map, List.mem_filter, List.mem_range, kidsTo_mem, Bool.not_eq_true']
      constructor
      · rintro ⟨i, ⟨i0, i1, i2⟩, rfl⟩
        obtain ⟨i, rfl⟩ := Int.eq_ofNat_of_zero_le i0
        have i1' : 1 ≤ i := by
          rcases Nat.eq_zero_or_pos i with rfl | hp
          · have := (tree_root h).1; rw [show ((0 : Nat) : Int) = 0 from rfl] at i2; omega
          · exact hp
        obtain ⟨_, _, _, a, b, _⟩ := tree_at h i1' (by omega)
        refine ⟨(rd_T41 t i).f1.toNat, ⟨by omega, ?_⟩, Int.toNat_of_nonneg a⟩
        rw [Int.toNat_of_nonneg a]
        exact (freeAt_iff _ _).mpr ⟨i, by omega, i2, rfl⟩
      · rintro ⟨i, ⟨_, i1⟩, rfl⟩
        obtain ⟨j, j0, j1, j2⟩ := (freeAt_iff _ _).mp i1
        exact ⟨j, ⟨by omega, by omega, j1⟩, j2⟩
    · rw [List.nodup_iff_pairwise_ne, List.pairwise_map]
      have hr : (List.range 4).Pairwise (fun a b => a < b) := List.pairwise_lt_range
      exact (hr.filter _).imp (fun hab => by omega)
  have hl := hp.length_eq
  rw [List.length_map, List.length_map] at hl
  rw [hl]
  unfold slotsTo
  rw [List.length_map]
  have := List.length_eq_countP_add_countP (fun i : Nat => freeAt t k (i : Int)) (l := List.range 4)
  rw [List.countP_eq_length_filter, List.countP_eq_length_filter, List.length_range] at this
  have e : (List.range 4).filter (fun i : Nat => !freeAt t k (i : Int)) = (List.range 4).filter (fun a : Nat => decide ¬(freeAt t k (a : Int)) = true) := by
    apply List.filter_congr
    intro x _
    cases freeAt t k x <;> simp
  rw [e]
  omega
theorem no_kids {t : List S41} (h : treeOk t = true) {k : Int} (hk : 0 ≤ k) (hf : (rd_T41 t k).f2 ≠ 0) : kidsTo t k t.length = [] := by
  rw [List.eq_nil_iff_forall_not_mem]
  intro x hx
  obtain ⟨i0, i1, i2⟩ := kidsTo_mem.mp hx
  obtain ⟨i, rfl⟩ := Int.eq_ofNat_of_zero_le i0
  have i1' : 1 ≤ i := by
    rcases Nat.eq_zero_or_pos i with rfl | hp
    · have := (tree_root h).1; rw [show ((0 : Nat) : Int) = 0 from rfl] at i2; omega
    · exact hp
  obtain ⟨_, _, a, _⟩ := tree_at h i1' (by omega)
  rw [i2] at a
  exact hf a
/-- A bridge is what has four places below it, free or not. -/
theorem four {t : List S41} {k : Int} (hn : isNodeB t k = true) : ((rd_T41 t k).f2 == 0) = (((slotsOf t k).length : Int) + ((childrenOf t k).length : Int) == 4) := by
  have hn' := hn
  unfold isNodeB at hn'
  simp only [Bool.and_eq_true, inR_iff] at hn'
  unfold slotsOf childrenOf
  rw [if_pos hn, insSort_len]
  by_cases hf : (rd_T41 t k).f2 = 0
  · have := slots_kids hn'.1 hn'.2.1
    rw [if_pos ⟨hn, hf⟩, hf]
    rw [show (((slotsTo t k 4).length : Int) + ((kidsTo t k t.length).length : Int)) = 4 by omega]
    rfl
  · rw [if_neg (fun h => hf h.2), no_kids hn'.1 hn'.2.1 hf, beq_eq_false_iff_ne.mpr hf]
    rfl
theorem bridges_go (t : List S41) (ht : t.length ≤ 12) : ∀ (d i : Nat) (c : Int), 0 ≤ c → c ≤ i → i ≤ t.length → t.length - i ≤ d → ∃ r, Ev (fun n => impl_CountBridges.l0 n c t (t.length : Int) i) r ∧ c ≤ r := by
  intro d
  induction d with
  | zero =>
    intro i c c0 c1 hi hd
    refine ⟨c, Ev.step (f := fun _ => some c) (fun n => ?_) (Ev.now _), Int.le_refl _⟩
    simp only [impl_CountBridges.l0]
    rw [if_neg (by omega)]
  | succ d ih =>
    intro i c c0 c1 hi hd
    by_cases hlt : i < t.length
    · by_cases hf : (rd_T41 t i).f2 = 0
      · obtain ⟨r, ev, hr⟩ := ih (i + 1) (c + 1) (by omega) (by omega) (by omega) (by omega)
        refine ⟨r, Ev.step (fun n => ?_) ev, by omega⟩
        simp only [impl_CountBridges.l0]
        rw [if_pos (by omega), if_pos (by omega), if_pos (by omega), if_pos hf, w64 (by omega) (by omega), w64 (by omega) (by omega)]
        rfl
      · obtain ⟨r, ev, hr⟩ := ih (i + 1) c (by omega) (by omega) (by omega) (by omega)
        refine ⟨r, Ev.step (fun n => ?_) ev, hr⟩
        simp only [impl_CountBridges.l0]
        rw [if_pos (by omega), if_pos (by omega), if_pos (by omega), if_neg hf, w64 (by omega) (by omega)]
        rfl
    · refine ⟨c, Ev.step (f := fun _ => some c) (fun n => ?_) (Ev.now _), Int.le_refl _⟩
      simp only [impl_CountBridges.l0]
      rw [if_neg (by omega)]
theorem bridges_ev {t : List S41} (h : treeOk t = true) : ∃ r, Ev (fun n => impl_CountBridges.f n t) r ∧ 1 ≤ r := by
  have hl := tree_len h
  obtain ⟨r, ev, hr⟩ := bridges_go t hl.2 12 1 1 (by omega) (by omega) (by omega) (by omega)
  refine ⟨r, Ev.step (fun n => ?_) ev, hr⟩
  simp only [impl_CountBridges.f, impl_CountBridges.l0]
  rw [if_pos (by omega), if_pos (by omega), if_pos (by omega), if_pos (tree_root h).2.2, w64 (by omega) (by omega)]
  rfl
theorem addNode_eq {t : List S41} (h : treeOk t = true) {k d : Int} (hk : 0 ≤ k ∧ k < t.length) (hd : 0 ≤ d ∧ d ≤ 3) : ∃ r, impl_AddNode.f t k d 1 = some (r, decide (t.length < 12) && ((rd_T41 t k).f2 == 0 && freeAt t k d)) := by
  have hl := tree_len h
  have e := treeOk_app h ⟨k, d, 1⟩
  rw [node_free hk hd] at e
  unfold impl_AddNode.f clone_Node.f impl_TreeOk.f
  rw [if_pos (by omega)]
  simp only [Option.bind_some]
  rw [if_pos (by omega), h, if_pos rfl, ← e]
  cases treeOk (t ++ [⟨k, d, 1⟩]) <;> exact ⟨_, rfl⟩
theorem drawTree_ev {b : List Int} (hb : b.length ≤ 140737488351232) : ∃ t, Ev (fun k => spec_DrawTree.f k b) t ∧ treeOk t = true := by
  obtain ⟨h, hn, hc⟩ := new_some 0 hb
  obtain ⟨t, i1, h1, ev1, ht, c1⟩ := l19Tree_ev h hc
  refine ⟨t, ?_, ht⟩
  have hn' : ∀ k, spec_l01New.f k b = some (b, 0, h) := fun _ => hn
  refine Ev.congr (fun k => ?_) (Ev.bind ev1 (f := fun k bt => some bt.1) (Ev.now _))
  simp only [spec_DrawTree.f, hn', Option.bind_some]
/-- What FnSlots meets on its way. -/
structure SlotsWay (l0 : List Int) (t : List S41) (p : List Int) (kn : Nat) (c : Int) : Prop where
  draw : Ev (fun k => spec_DrawTree.f k l0) t
  places : Ev (fun k => spec_DrawPlaces.f k l0) p
  pl : p.length = 12
  tl : 1 ≤ t.length ∧ t.length ≤ 12
  node : Int.tmod (rd p 0) (t.length : Int) = kn
  kl : kn < t.length
  isn : isNodeB t kn = true
  ll : (slotsOf t kn).length ≤ 4
  has : ∀ d : Nat, d ≤ 3 → Ev (fun k => laws_has.f k (slotsOf t kn) d) ((rd_T41 t kn).f2 == 0 && freeAt t kn d)
  add : ∀ d : Nat, d ≤ 3 → ∃ r, impl_AddNode.f t kn d 1 = some (r, decide (t.length < 12) && ((rd_T41 t kn).f2 == 0 && freeAt t kn d))
  four : ((rd_T41 t kn).f2 == 0) = (((slotsOf t kn).length : Int) + ((childrenOf t kn).length : Int) == 4)
  cl : (childrenOf t kn).length ≤ 12
  bridges : Ev (fun k => impl_CountBridges.f k t) c
  c1 : 1 ≤ c
theorem slots_way {l0 : List Int} (hsz' : l0.length ≤ 140737488351232) : ∃ t p kn c, SlotsWay l0 t p kn c := by
  obtain ⟨t, evd, ht⟩ := drawTree_ev hsz'
  obtain ⟨p, evp, hpl, hp⟩ := places_ev hsz'
  have hln := tree_len ht
  have hp0 : 0 ≤ rd p 0 := (hp _ (rd_mem (by omega) (by omega))).1
  obtain ⟨k, hk⟩ : ∃ k, Int.tmod (rd p 0) (t.length : Int) = k := ⟨_, rfl⟩
  have hkr : 0 ≤ k ∧ k < (t.length : Int) := by rw [← hk]; exact tmod_range hp0 (by omega)
  have hnode : isNodeB t k = true := by unfold isNodeB; rw [ht, inR_iff.mpr ⟨hkr.1, by omega⟩]; rfl
  obtain ⟨kn, rfl⟩ := Int.eq_ofNat_of_zero_le hkr.1
  obtain ⟨c, evc, hc⟩ := bridges_ev ht
  have hll : (slotsOf t kn).length ≤ 4 := by unfold slotsOf; split <;> simp [slotsTo_len]
  refine ⟨t, p, kn, c, evd, evp, hpl, hln, hk, by omega, hnode, hll, fun d hd => ?_, fun d hd => addNode_eq ht hkr (by omega), four hnode, ?_, evc, hc⟩
  · have := has_ev (slotsOf t kn) d (by omega)
    rwa [slots_mem hnode (by omega)] at this
  · unfold childrenOf; rw [if_pos hnode, insSort_len]; exact Nat.le_trans (kidsTo_len _ _ _) hln.2
end Go.Proofs.Ytijfagfkoiklaaa.P
