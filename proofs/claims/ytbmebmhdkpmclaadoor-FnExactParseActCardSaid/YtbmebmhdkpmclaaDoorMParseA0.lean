import Derived.Test.YtbmebmhdkpmclaaDoorFParseA
import Derived.Test.YtbmebmhdkpmclaaDoorMText
namespace Go.Proofs.YtbmebmhdkpmclaaDoor.P
open Go.RowKit Go.Proofs.YtbmebmhdkpmclaaDoorW.PrintWords Go.Proofs.YtbmebmhdkpmclaaDoorW.PrintLast Go.Proofs.YtbmebmhdkpmclaaDoorW.PrintMore
set_option linter.unusedVariables false
set_option linter.unusedSimpArgs false
theorem fields_nosp : ∀ (l cur : List UInt8), (∀ c ∈ cur, Lib.isSp c = false) → ∀ x ∈ Lib.fieldsGo cur l, ∀ c ∈ x, Lib.isSp c = false := by
  intro l
  induction l with
  | nil =>
    intro cur hc x hx
    unfold Lib.fieldsGo at hx
    split at hx
    · simp at hx
    · rw [List.mem_singleton] at hx; subst hx; exact hc
  | cons b r ih =>
    intro cur hc x hx
    cases hs : Lib.isSp b with
    | true =>
      by_cases he : cur = []
      · subst he
        rw [Lib.fieldsGo_sp _ _ hs] at hx
        exact ih [] (by simp) x hx
      · rw [Lib.fieldsGo_end _ _ _ hs he] at hx
        rcases List.mem_cons.mp hx with rfl | hx
        · exact hc
        · exact ih [] (by simp) x hx
    | false =>
      rw [Lib.fieldsGo_more _ _ _ hs] at hx
      refine ih (cur ++ [b]) (fun c h => ?_) x hx
      rcases List.mem_append.mp h with h | h
      · exact hc c h
      · rw [List.mem_singleton] at h; subst h; exact hs
theorem split_nosp {s : ByteArray} {fs : List ByteArray} (h : splitF s = (fs, true)) : ∀ x ∈ fs, ∀ c ∈ x.data.toList, c ≠ 32 := by
  unfold splitF at h
  split at h
  · rename_i hc
    obtain rfl : wordsOf s = fs := (Prod.mk.inj h).1
    intro x hx c hcx e
    unfold wordsOf at hx
    obtain ⟨l, hl, rfl⟩ := List.mem_map.mp hx
    have := fields_nosp _ _ (by simp) l hl c (by simpa [tx] using hcx)
    subst e
    cases this
  · cases (Prod.mk.inj h).2
theorem cut_first : ∀ (a b x y : List UInt8), (∀ c ∈ a, c ≠ 32) → (∀ c ∈ b, c ≠ 32) → a ++ 32 :: x = b ++ 32 :: y → a = b
  | [], [], _, _, _, _, _ => rfl
  | [], b :: r, x, y, _, hb, h => by simp at h; exact absurd h.1.symm (hb b (by simp))
  | a :: r, [], x, y, ha, _, h => by simp at h; exact absurd h.1 (ha a (by simp))
  | a :: r, b :: q, x, y, ha, hb, h => by
    simp only [List.cons_append, List.cons.injEq] at h
    rw [h.1, cut_first r q x y (fun c hc => ha c (List.mem_cons_of_mem _ hc)) (fun c hc => hb c (List.mem_cons_of_mem _ hc)) h.2]
theorem sp_list : sp.data.toList = [32] := rfl
theorem app_list (a b : ByteArray) : (a ++ b).data.toList = a.data.toList ++ b.data.toList := by rw [ByteArray.data_append, Array.toList_append]
theorem joinB_first {a b : ByteArray} {r : List ByteArray} : ∃ y, (joinB (a :: b :: r)).data.toList = a.data.toList ++ 32 :: y := by
  unfold joinB
  rw [List.map_cons, Lib.join_cons, List.map_cons]
  exact ⟨b.data.toList ++ Lib.joinTail [32] (r.map (·.data.toList)), by simp [tx, Lib.joinTail]⟩
theorem actText_first (k n a b : Int) : ∃ y, (actText k n a b).data.toList = (actWord k).data.toList ++ 32 :: y := by
  unfold actText
  split
  · exact ⟨_, by simp only [app_list, sp_list, List.append_assoc, List.singleton_append, List.cons_append, List.nil_append]; rfl⟩
  · split
    · exact ⟨_, by simp only [app_list, sp_list, List.append_assoc, List.singleton_append, List.cons_append, List.nil_append]; rfl⟩
    · exact ⟨_, by simp only [app_list, sp_list, List.append_assoc, List.singleton_append, List.cons_append, List.nil_append]; rfl⟩
theorem actWord_nosp (k : Int) : ∀ c ∈ (actWord k).data.toList, c ≠ 32 := by
  unfold actWord
  split
  · decide
  · split
    · decide
    · split <;> decide
theorem kindOf_word {k : Int} (h0 : 1 ≤ k) (h1 : k ≤ 4) : kindOf (actWord k) = k := by
  have : k = 1 ∨ k = 2 ∨ k = 3 ∨ k = 4 := by omega
  rcases this with rfl | rfl | rfl | rfl <;> (unfold kindOf actWord; decide)
/-- A line that is an act's text begins with the act's word. -/
theorem kind_of_text {k n a b : Int} {x y : ByteArray} {r : List ByteArray} (hx : ∀ c ∈ x.data.toList, c ≠ 32) (h : fmtAct k n a b = (joinB (x :: y :: r), true)) : kindOf x = k := by
  unfold fmtAct at h
  split at h
  · rename_i hok
    have hk := (actOk_range hok).1
    have he := (Prod.mk.inj h).1
    obtain ⟨u, hu⟩ := actText_first k n a b
    obtain ⟨v, hv⟩ := joinB_first (a := x) (b := y) (r := r)
    rw [he, hv] at hu
    have := cut_first _ _ _ _ hx (actWord_nosp k) hu
    have hxw : x = actWord k := ByteArray.ext (Array.ext' this)
    rw [hxw]
    exact kindOf_word hk.1 hk.2
  · cases (Prod.mk.inj h).2
end Go.Proofs.YtbmebmhdkpmclaaDoor.P
