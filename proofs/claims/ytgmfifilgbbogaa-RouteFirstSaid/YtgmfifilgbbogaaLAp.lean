


/- RouteLater, plainly. -/
import Derived.Test.YtgmfifilgbbogaaTBp
namespace Go.Proofs.Ytgmfifilgbbogaa
open Go.RowKit
set_option linter.unusedSimpArgs false
set_option linter.unusedVariables false
set_option maxRecDepth 100000

/-- a way is not lost: whatever arrives there arrives here, no later -/
theorem not_before {cs cs' : List Ct} {n n' u v t t' a b : Int} (hl : Least cs n u t v a) (hl' : Least cs' n' u t' v b) (h : ∀ s, Arr cs' n' u t' v s → ∃ r, r ≤ s ∧ Arr cs n u t v r) : ¬ (0 ≤ b ∧ (a < 0 ∨ b < a)) := by
  rintro ⟨hb, hab⟩
  rcases hl' with ⟨h1, _⟩ | ⟨_, h1, _⟩
  · omega
  · obtain ⟨r, hr, ha⟩ := h _ h1
    rcases hl with ⟨_, h2⟩ | ⟨h3, _, h2⟩
    · exact h2 _ ha
    · have := h2 _ ha
      omega
theorem later_t {cs : List Ct} {n u v t t' : Int} (h : t ≤ t') (s : Int) (ha : Arr cs n u t' v s) : ∃ r, r ≤ s ∧ Arr cs n u t v r := by
  obtain ⟨l, hl⟩ := ha
  obtain ⟨m, r, _, hm, hr⟩ := gdP_mono h (⟨l, s, rfl, hl, Int.le_refl _⟩ : gdP cs n v s l.length u t')
  exact ⟨r, hr, m, hm⟩
/-- a greater size never comes sooner -/
theorem later_n {cs : List Ct} {n n' u v t : Int} (hp : okP cs) (hn : n ≤ n') (s : Int) (ha : Arr cs n' u t v s) : ∃ r, r ≤ s ∧ Arr cs n u t v r := by
  obtain ⟨l, hl⟩ := ha
  obtain ⟨r, h, hr⟩ := walk_size hp hn l _ _ _ _ _ (Int.le_refl t) hl
  exact ⟨r, hr, l, h⟩
/-- a contact left out -/
def lessP (cs : List Ct) (k : Nat) : List Ct := cs.take k ++ cs.drop (k + 1)
def upK (k i : Nat) : Nat := if k ≤ i then i + 1 else i
theorem less_len {cs : List Ct} {k : Nat} (hk : k < cs.length) : (lessP cs k).length + 1 = cs.length := by
  unfold lessP
  simp
  omega
theorem less_get {cs : List Ct} {k : Nat} (hk : k < cs.length) (i : Nat) : (lessP cs k).getD i c0 = cs.getD (upK k i) c0 := by
  unfold lessP upK
  simp only [List.getD_eq_getElem?_getD, List.getElem?_append, List.getElem?_take, List.getElem?_drop, List.length_take]
  by_cases h : k ≤ i
  · rw [if_neg (by omega), if_pos h, show k + 1 + (i - min k cs.length) = i + 1 by omega]
  · rw [if_pos (by omega), if_neg h, if_pos (by omega)]
theorem less_walk {cs : List Ct} {n : Int} {k : Nat} (hk : k < cs.length) : ∀ (l : List Nat) (u t : Int) (x : Int × Int), walkP (lessP cs k) n l u t = some x → walkP cs n (l.map (upK k)) u t = some x
  | [], u, t, x, h => h
  | i :: l, u, t, x, h => by
    obtain ⟨h1, h2, s1, h3, h4⟩ := walk_cons h
    rw [less_get hk] at h2 h3 h4
    have := less_len hk
    rw [List.map_cons, walkP, if_pos ⟨by unfold upK; split <;> omega, h2⟩, h3]
    exact less_walk hk l _ _ _ h4
theorem later_k {cs : List Ct} {n u v t : Int} {k : Nat} (hk : k < cs.length) (s : Int) (ha : Arr (lessP cs k) n u t v s) : ∃ r, r ≤ s ∧ Arr cs n u t v r := by
  obtain ⟨l, hl⟩ := ha
  exact ⟨s, Int.le_refl _, _, less_walk hk l _ _ _ hl⟩
theorem less_pv {cs : List Ct} {k : Nat} (h : PV cs) : PV (lessP cs k) := by
  have hs : (lessP cs k).Sublist cs := by
    unfold lessP
    have := (List.Sublist.refl (cs.take k)).append (List.drop_sublist_drop_left cs (show k ≤ k + 1 by omega))
    rwa [List.take_append_drop] at this
  exact ⟨fun c hc => h.1 c (hs.subset hc), h.2.sublist hs⟩
end Go.Proofs.Ytgmfifilgbbogaa
