


/- Stops in a heap, plainly: the order (by tick), rising, sinking, putting in, taking out. No program is named. -/
import Derived.Test.YtgmfifilgbbogaaRX
namespace Go.Proofs.Ytgmfifilgbbogaa
set_option linter.unusedSimpArgs false
set_option linter.unusedVariables false
open Go.RowKit
structure Tm where
  nd : Int
  tk : Int
def z0 : Tm := ⟨0, 0⟩
/-- a stop comes before another one -/
def ltT (a b : Tm) : Prop := a.tk < b.tk
instance (a b : Tm) : Decidable (ltT a b) := by unfold ltT; infer_instance
theorem lt_irr (a : Tm) : ¬ ltT a a := by unfold ltT; omega
theorem lt_tr {a b c : Tm} (h1 : ltT a b) (h2 : ltT b c) : ltT a c := by unfold ltT at *; omega
theorem lt_asy {a b : Tm} (h1 : ltT a b) : ¬ ltT b a := fun h2 => lt_irr a (lt_tr h1 h2)
/-- not after -/
theorem le_tr {a b c : Tm} (h1 : ¬ ltT b a) (h2 : ¬ ltT c b) : ¬ ltT c a := by unfold ltT at *; omega
theorem le_of_lt {a b : Tm} (h : ltT a b) : ¬ ltT b a := lt_asy h
theorem lt_le {a b c : Tm} (h1 : ltT a b) (h2 : ¬ ltT c b) : ltT a c := by unfold ltT at *; omega
theorem le_lt {a b c : Tm} (h1 : ¬ ltT b a) (h2 : ltT b c) : ltT a c := by unfold ltT at *; omega

abbrev g (l : List Tm) (i : Nat) : Tm := l.getD i z0
theorem g_at {l : List Tm} {i : Nat} (h : i < l.length) : g l i = l[i] := by
  unfold g; rw [List.getD_eq_getElem?_getD, List.getElem?_eq_getElem h]; rfl
theorem g_set (l : List Tm) (i j : Nat) (x : Tm) (hi : i < l.length) : g (l.set i x) j = if i = j then x else g l j := by
  unfold g
  rw [List.getD_eq_getElem?_getD, List.getD_eq_getElem?_getD, List.getElem?_set]
  by_cases h : i = j
  · subst h
    rw [if_pos rfl, if_pos hi, if_pos rfl]
    rfl
  · rw [if_neg h, if_neg h]
def swp (l : List Tm) (i j : Nat) : List Tm := (l.set i (g l j)).set j (g l i)
@[simp] theorem swp_len (l : List Tm) (i j : Nat) : (swp l i j).length = l.length := by unfold swp; simp
theorem swp_get (l : List Tm) (i j m : Nat) (hi : i < l.length) (hj : j < l.length) : g (swp l i j) m = if j = m then g l i else if i = m then g l j else g l m := by
  unfold swp
  rw [g_set _ _ _ _ (by simpa using hj)]
  split
  · rfl
  · rw [g_set _ _ _ _ hi]
theorem swp_perm (l : List Tm) (i j : Nat) (hi : i < l.length) (hj : j < l.length) : (swp l i j).Perm l := by
  unfold swp
  rw [g_at hi, g_at hj]
  exact List.set_set_perm hi hj
theorem swp_self (l : List Tm) (i : Nat) : swp l i i = l := by
  unfold swp
  rw [List.set_set]
  by_cases h : i < l.length
  · rw [g_at h]; exact List.set_getElem_self h
  · exact List.set_eq_of_length_le (by omega)
theorem ext_g {l m : List Tm} (hl : l.length = m.length) (h : ∀ i, i < l.length → g l i = g m i) : l = m := by
  refine List.ext_getElem hl fun i h1 h2 => ?_
  have := h i h1
  rwa [g_at h1, g_at h2] at this

/-! rising -/
def upF : Nat → List Tm → Nat → List Tm × Nat
  | 0, l, i => (l, i)
  | f + 1, l, i => if 0 < i ∧ ltT (g l i) (g l ((i - 1) / 2)) then upF f (swp l i ((i - 1) / 2)) ((i - 1) / 2) else (l, i)
theorem upF_more : ∀ (f : Nat) (l : List Tm) (i : Nat), i ≤ f → upF f l i = upF i l i := by
  intro f
  induction f using Nat.strongRecOn with
  | ind f ih =>
    intro l i hif
    cases f with
    | zero =>
      obtain rfl : i = 0 := by omega
      rfl
    | succ f =>
      cases i with
      | zero => unfold upF; simp
      | succ i =>
        unfold upF
        split
        · rename_i h
          have hp : (i + 1 - 1) / 2 ≤ i := by omega
          rw [ih f (by omega) _ _ (by omega), ih i (by omega) _ _ hp]
        · rfl
def up (l : List Tm) (i : Nat) : List Tm × Nat := upF i l i
theorem up_eq (l : List Tm) (i : Nat) : up l i = if 0 < i ∧ ltT (g l i) (g l ((i - 1) / 2)) then up (swp l i ((i - 1) / 2)) ((i - 1) / 2) else (l, i) := by
  unfold up
  cases i with
  | zero => rfl
  | succ i =>
    rw [show upF (i + 1) l (i + 1) = if 0 < i + 1 ∧ ltT (g l (i + 1)) (g l ((i + 1 - 1) / 2)) then upF i (swp l (i + 1) ((i + 1 - 1) / 2)) ((i + 1 - 1) / 2) else (l, i + 1) from rfl]
    split
    · rw [upF_more i _ _ (by omega)]
    · rfl
theorem up_len : ∀ (i : Nat) (l : List Tm), (up l i).1.length = l.length := by
  intro i
  induction i using Nat.strongRecOn with
  | ind i ih =>
    intro l
    rw [up_eq]
    split
    · rename_i h
      rw [ih _ (by omega), swp_len]
    · rfl
theorem up_perm : ∀ (i : Nat) (l : List Tm), i < l.length → (up l i).1.Perm l := by
  intro i
  induction i using Nat.strongRecOn with
  | ind i ih =>
    intro l hi
    rw [up_eq]
    split
    · rename_i h
      exact (ih _ (by omega) _ (by rw [swp_len]; omega)).trans (swp_perm l _ _ hi (by omega))
    · exact List.Perm.refl _

/-- a heap -/
def hp (l : List Tm) : Prop := ∀ k, 0 < k → k < l.length → ¬ ltT (g l k) (g l ((k - 1) / 2))
/-- a heap but for i, which may be before the one above it -/
def upI (l : List Tm) (i : Nat) : Prop := (∀ k, 0 < k → k < l.length → k ≠ i → ¬ ltT (g l k) (g l ((k - 1) / 2))) ∧ (0 < i → ∀ c, 0 < c → c < l.length → (c - 1) / 2 = i → ¬ ltT (g l c) (g l ((i - 1) / 2)))
theorem up_hp : ∀ (i : Nat) (l : List Tm), i < l.length → upI l i → hp (up l i).1 := by
  intro i
  induction i using Nat.strongRecOn with
  | ind i ih =>
    intro l hi ⟨h1, h2⟩
    rw [up_eq]
    split
    · rename_i h
      obtain ⟨h0, hlt⟩ := h
      have hp2 : (i - 1) / 2 < i := by omega
      refine ih _ hp2 _ (by rw [swp_len]; omega) ⟨fun k hk0 hkl hki => ?_, fun hi0 c hc0 hcl hci => ?_⟩
      · rw [swp_len] at hkl
        rw [swp_get l _ _ _ hi (by omega), swp_get l _ _ _ hi (by omega), if_neg (fun e => hki e.symm)]
        by_cases hki2 : i = k
        · rw [if_pos hki2, if_pos (by rw [← hki2])]
          exact lt_asy hlt
        · rw [if_neg hki2]
          by_cases hpp : (i - 1) / 2 = (k - 1) / 2
          · rw [if_pos hpp]
            have := h1 k hk0 hkl (fun e => hki2 e.symm)
            rw [← hpp] at this
            exact fun hx => this (lt_tr hx hlt)
          · rw [if_neg hpp]
            by_cases hpi : i = (k - 1) / 2
            · rw [if_pos hpi]
              exact h2 h0 k hk0 hkl hpi.symm
            · rw [if_neg hpi]
              exact h1 k hk0 hkl (fun e => hki2 e.symm)
      · rw [swp_len] at hcl
        rw [swp_get l _ _ _ hi (by omega), swp_get l _ _ _ hi (by omega)]
        rw [if_neg (show ¬ (i - 1) / 2 = ((i - 1) / 2 - 1) / 2 by omega), if_neg (show ¬ i = ((i - 1) / 2 - 1) / 2 by omega)]
        have hpar := h1 ((i - 1) / 2) hi0 (by omega) (by omega)
        rw [if_neg (show ¬ (i - 1) / 2 = c by omega)]
        split
        · exact hpar
        · have := h1 c hc0 hcl (by omega)
          rw [hci] at this
          exact le_tr hpar this
    · rename_i h
      intro k hk0 hkl
      by_cases hki : k = i
      · subst hki
        exact fun hx => h ⟨hk0, hx⟩
      · exact h1 k hk0 hkl hki

/-! sinking -/
/-- the lesser of the two below i; none if there is none -/
def kid (l : List Tm) (i : Nat) : Nat := if 2 * i + 2 < l.length ∧ ltT (g l (2 * i + 2)) (g l (2 * i + 1)) then 2 * i + 2 else 2 * i + 1
def dnF : Nat → List Tm → Nat → List Tm × Nat
  | 0, l, i => (l, i)
  | f + 1, l, i => if 2 * i + 1 < l.length ∧ ltT (g l (kid l i)) (g l i) then dnF f (swp l i (kid l i)) (kid l i) else (l, i)
theorem kid_bd (l : List Tm) (i : Nat) (h : 2 * i + 1 < l.length) : i < kid l i ∧ kid l i < l.length ∧ (kid l i - 1) / 2 = i ∧ 0 < kid l i := by
  unfold kid
  split <;> omega
theorem dnF_any : ∀ (f1 f2 : Nat) (l : List Tm) (i : Nat), l.length ≤ f1 + i → l.length ≤ f2 + i → dnF f1 l i = dnF f2 l i := by
  intro f1
  induction f1 with
  | zero =>
    intro f2 l i h1 h2
    cases f2 with
    | zero => rfl
    | succ f2 => unfold dnF; rw [if_neg (fun h => by have := h.1; omega)]
  | succ f1 ih =>
    intro f2 l i h1 h2
    cases f2 with
    | zero => unfold dnF; rw [if_neg (fun h => by have := h.1; omega)]
    | succ f2 =>
      unfold dnF
      by_cases hc : 2 * i + 1 < l.length ∧ ltT (g l (kid l i)) (g l i)
      · have hb := kid_bd l i hc.1
        rw [if_pos hc, if_pos hc]
        exact ih f2 _ _ (by rw [swp_len]; omega) (by rw [swp_len]; omega)
      · rw [if_neg hc, if_neg hc]
def dn (l : List Tm) (i : Nat) : List Tm × Nat := dnF l.length l i
theorem dn_eq (l : List Tm) (i : Nat) : dn l i = if 2 * i + 1 < l.length ∧ ltT (g l (kid l i)) (g l i) then dn (swp l i (kid l i)) (kid l i) else (l, i) := by
  unfold dn
  rw [dnF_any l.length (l.length + 1) l i (by omega) (by omega)]
  conv => lhs; unfold dnF
  rw [swp_len]
/-- measure: how far below i the list goes -/
theorem dn_len : ∀ (m : Nat) (l : List Tm) (i : Nat), l.length - i ≤ m → (dn l i).1.length = l.length := by
  intro m
  induction m with
  | zero => intro l i h; rw [dn_eq, if_neg (fun h => by have := h.1; omega)]
  | succ m ih =>
    intro l i h
    rw [dn_eq]
    split
    · rename_i hc
      have hb := kid_bd l i hc.1
      rw [ih _ _ (by rw [swp_len]; omega), swp_len]
    · rfl
theorem dn_perm : ∀ (m : Nat) (l : List Tm) (i : Nat), l.length - i ≤ m → (dn l i).1.Perm l := by
  intro m
  induction m with
  | zero => intro l i h; rw [dn_eq, if_neg (fun h => by have := h.1; omega)]
  | succ m ih =>
    intro l i h
    rw [dn_eq]
    split
    · rename_i hc
      have hb := kid_bd l i hc.1
      exact (ih _ _ (by rw [swp_len]; omega)).trans (swp_perm l _ _ (by omega) (by omega))
    · exact List.Perm.refl _
/-- a heap but for i, which may be after those below it -/
def dnI (l : List Tm) (i : Nat) : Prop := (∀ k, 0 < k → k < l.length → (k - 1) / 2 ≠ i → ¬ ltT (g l k) (g l ((k - 1) / 2))) ∧ (0 < i → ∀ c, 0 < c → c < l.length → (c - 1) / 2 = i → ¬ ltT (g l c) (g l ((i - 1) / 2)))
theorem kid_le (l : List Tm) (i c : Nat) (hc0 : 0 < c) (hc : c < l.length) (hci : (c - 1) / 2 = i) : ¬ ltT (g l c) (g l (kid l i)) := by
  have h2 : c = 2 * i + 1 ∨ c = 2 * i + 2 := by omega
  unfold kid
  split
  · rename_i h
    rcases h2 with rfl | rfl
    · exact lt_asy h.2
    · exact lt_irr _
  · rename_i h
    rcases h2 with rfl | rfl
    · exact lt_irr _
    · exact fun hx => h ⟨hc, hx⟩
theorem dn_hp : ∀ (m : Nat) (l : List Tm) (i : Nat), l.length - i ≤ m → dnI l i → hp (dn l i).1 := by
  intro m
  induction m with
  | zero =>
    intro l i h ⟨h1, _⟩
    rw [dn_eq, if_neg (fun h => by have := h.1; omega)]
    intro k hk0 hkl
    have hkl : k < l.length := hkl
    exact h1 k hk0 hkl (by omega)
  | succ m ih =>
    intro l i hm ⟨h1, h2⟩
    rw [dn_eq]
    split
    · rename_i h
      obtain ⟨hl, hlt⟩ := h
      obtain ⟨b1, b2, b3, b4⟩ := kid_bd l i hl
      obtain ⟨j, hj⟩ : ∃ j, kid l i = j := ⟨_, rfl⟩
      have hkl := kid_le l i
      rw [hj] at hlt b1 b2 b3 b4 hkl ⊢
      refine ih _ j (by rw [swp_len]; omega) ⟨fun k hk0 hkl2 hkj => ?_, fun hj0 c hc0 hcl hcj => ?_⟩
      · rw [swp_len] at hkl2
        rw [swp_get l _ _ _ (by omega) b2, swp_get l _ _ _ (by omega) b2]
        have e2 : ¬ j = (k - 1) / 2 := fun e => hkj e.symm
        rw [if_neg e2]
        by_cases hkj2 : j = k
        · subst hkj2
          rw [if_pos rfl, if_pos b3.symm]
          exact lt_asy hlt
        · rw [if_neg hkj2]
          by_cases hik : i = k
          · subst hik
            rw [if_pos rfl, if_neg (show ¬ i = (i - 1) / 2 by omega)]
            exact h2 hk0 j b4 b2 b3
          · rw [if_neg hik]
            by_cases hip : i = (k - 1) / 2
            · rw [if_pos hip]
              exact hkl k hk0 hkl2 hip.symm
            · rw [if_neg hip]
              exact h1 k hk0 hkl2 (fun e => hip e.symm)
      · rw [swp_len] at hcl
        rw [swp_get l _ _ _ (by omega) b2, swp_get l _ _ _ (by omega) b2]
        rw [if_neg (show ¬ j = c by omega), if_neg (show ¬ i = c by omega), if_neg (show ¬ j = (j - 1) / 2 by omega), if_pos b3.symm]
        have := h1 c hc0 hcl (by omega)
        rw [hcj] at this
        exact this
    · rename_i h
      intro k hk0 hkl
      have hkl : k < l.length := hkl
      by_cases hki : (k - 1) / 2 = i
      · have hle := kid_le l i k hk0 hkl hki
        have hn : ¬ ltT (g l (kid l i)) (g l i) := fun hx => h ⟨by omega, hx⟩
        rw [hki]
        exact le_tr hn hle
      · exact h1 k hk0 hkl hki

/-! the least lies at the top -/
theorem hp_top {l : List Tm} (h : hp l) : ∀ k, k < l.length → ¬ ltT (g l k) (g l 0) := by
  intro k
  induction k using Nat.strongRecOn with
  | ind k ih =>
    intro hk
    by_cases h0 : k = 0
    · subst h0; exact lt_irr _
    · exact le_tr (ih ((k - 1) / 2) (by omega) (by omega)) (h k (by omega) hk)
theorem dn_moved : ∀ (m : Nat) (l : List Tm) (i : Nat), l.length - i ≤ m → i ≤ (dn l i).2 ∧ ((dn l i).2 = i → (dn l i).1 = l) := by
  intro m
  induction m with
  | zero => intro l i h; rw [dn_eq, if_neg (fun h => by have := h.1; omega)]; exact ⟨Nat.le_refl _, fun _ => rfl⟩
  | succ m ih =>
    intro l i h
    rw [dn_eq]
    split
    · rename_i hc
      have hb := kid_bd l i hc.1
      have := (ih (swp l i (kid l i)) (kid l i) (by rw [swp_len]; omega)).1
      exact ⟨by omega, fun e => by omega⟩
    · exact ⟨Nat.le_refl _, fun _ => rfl⟩
theorem up_moved : ∀ (i : Nat) (l : List Tm), (up l i).2 ≤ i ∧ ((up l i).2 = i → (up l i).1 = l) := by
  intro i
  induction i using Nat.strongRecOn with
  | ind i ih =>
    intro l
    rw [up_eq]
    split
    · rename_i h
      have := (ih ((i - 1) / 2) (by omega) (swp l i ((i - 1) / 2))).1
      exact ⟨by omega, fun e => by omega⟩
    · exact ⟨Nat.le_refl _, fun _ => rfl⟩

/-! a heap with one more, with one less -/
def putL (l : List Tm) (t : Tm) : List Tm := (up (l ++ [t]) l.length).1
theorem g_app_l {l m : List Tm} {i : Nat} (h : i < l.length) : g (l ++ m) i = g l i := by
  unfold g; rw [List.getD_eq_getElem?_getD, List.getD_eq_getElem?_getD, List.getElem?_append_left h]
theorem put_len (l : List Tm) (t : Tm) : (putL l t).length = l.length + 1 := by unfold putL; rw [up_len]; simp
theorem put_perm (l : List Tm) (t : Tm) : (putL l t).Perm (t :: l) := (up_perm _ _ (by simp)).trans (List.perm_append_singleton t l)
theorem put_hp {l : List Tm} (h : hp l) (t : Tm) : hp (putL l t) := by
  refine up_hp _ _ (by simp) ⟨fun k hk0 hkl hki => ?_, fun hi0 c hc0 hcl hci => ?_⟩
  · simp at hkl
    rw [g_app_l (by omega), g_app_l (by omega)]
    exact h k hk0 (by omega)
  · simp at hcl
    omega
/-- what stands in place of i when i has been taken out: the last -/
def cutL (l : List Tm) (i : Nat) : List Tm := (l.set i (g l (l.length - 1))).take (l.length - 1)
theorem cut_len (l : List Tm) (i : Nat) : (cutL l i).length = l.length - 1 := by unfold cutL; rw [List.length_take, List.length_set]; omega
theorem g_take {l : List Tm} {n i : Nat} (h : i < n) : g (l.take n) i = g l i := by
  unfold g; rw [List.getD_eq_getElem?_getD, List.getD_eq_getElem?_getD, List.getElem?_take, if_pos h]
theorem cut_get (l : List Tm) (i k : Nat) (hi : i < l.length) (hk : k < l.length - 1) : g (cutL l i) k = if i = k then g l (l.length - 1) else g l k := by
  unfold cutL
  rw [g_take hk, g_set _ _ _ _ hi]
/-- the reference's -/
def outL (l : List Tm) (i : Nat) : List Tm :=
  if i = l.length - 1 then cutL l i else if (up (cutL l i) i).2 ≠ i then (up (cutL l i) i).1 else (dn (cutL l i) i).1
/-- the program's -/
def remL (l : List Tm) (i : Nat) : List Tm :=
  if i = l.length - 1 then cutL l i else if (dn (cutL l i) i).2 ≠ i then (dn (cutL l i) i).1 else (up (cutL l i) i).1
theorem up_still {l : List Tm} {i : Nat} (h : ¬ (0 < i ∧ ltT (g l i) (g l ((i - 1) / 2)))) : up l i = (l, i) := by rw [up_eq, if_neg h]
theorem dn_still {l : List Tm} {i : Nat} (h : ¬ (2 * i + 1 < l.length ∧ ltT (g l (kid l i)) (g l i))) : dn l i = (l, i) := by rw [dn_eq, if_neg h]
theorem rem_out {l : List Tm} (h : hp l) {i : Nat} (hi : i < l.length) : remL l i = outL l i := by
  unfold remL outL
  by_cases hl : i = l.length - 1
  · rw [if_pos hl, if_pos hl]
  · rw [if_neg hl, if_neg hl]
    have hcl := cut_len l i
    by_cases hd : 2 * i + 1 < (cutL l i).length ∧ ltT (g (cutL l i) (kid (cutL l i) i)) (g (cutL l i) i)
    · have hu : ¬ (0 < i ∧ ltT (g (cutL l i) i) (g (cutL l i) ((i - 1) / 2))) := by
        intro ⟨hi0, hx⟩
        obtain ⟨b1, b2, b3, b4⟩ := kid_bd _ _ hd.1
        have h3 := lt_tr hd.2 hx
        have k1 := h _ b4 (by omega)
        rw [b3] at k1
        have k2 := h i hi0 hi
        rw [cut_get l i _ hi (by omega), if_neg (by omega), cut_get l i _ hi (by omega), if_neg (by omega)] at h3
        exact le_tr k2 k1 h3
      rw [up_still hu, if_neg (show ¬ ((cutL l i, i) : List Tm × Nat).2 ≠ i from fun e => e rfl)]
      have hm := dn_moved _ (swp (cutL l i) i (kid (cutL l i) i)) (kid (cutL l i) i) (Nat.le_refl _)
      have hb := kid_bd _ _ hd.1
      rw [if_pos]
      rw [dn_eq, if_pos hd]
      omega
    · rw [dn_still hd, if_neg (show ¬ ((cutL l i, i) : List Tm × Nat).2 ≠ i from fun e => e rfl)]
      split
      · rfl
      · rename_i h2
        exact (up_moved i (cutL l i)).2 (by simpa using h2)
theorem out_len {l : List Tm} (i : Nat) : (outL l i).length = l.length - 1 := by
  unfold outL
  split
  · exact cut_len l i
  · split
    · rw [up_len, cut_len]
    · rw [dn_len _ _ _ (Nat.le_refl _), cut_len]
theorem cut_dnI {l : List Tm} (h : hp l) {i : Nat} (hi : i < l.length) (hu : ¬ (0 < i ∧ ltT (g (cutL l i) i) (g (cutL l i) ((i - 1) / 2)))) (hl : i ≠ l.length - 1) : dnI (cutL l i) i := by
  have hcl := cut_len l i
  refine ⟨fun k hk0 hkl hki => ?_, fun hi0 c hc0 hcl2 hci => ?_⟩
  · have e2 : ¬ i = (k - 1) / 2 := fun e => hki e.symm
    rw [cut_get l i k hi (by omega), cut_get l i _ hi (by omega), if_neg e2]
    by_cases hik : i = k
    · subst hik
      intro hx
      exact hu ⟨hk0, by rw [cut_get l i i hi (by omega), cut_get l i _ hi (by omega), if_pos rfl, if_neg e2]; rwa [if_pos rfl] at hx⟩
    · rw [if_neg hik]
      exact h k hk0 (by omega)
  · rw [cut_get l i c hi (by omega), cut_get l i _ hi (by omega), if_neg (by omega), if_neg (by omega)]
    have k1 := h c hc0 (by omega)
    rw [hci] at k1
    exact le_tr (h i hi0 hi) k1
theorem cut_upI {l : List Tm} (h : hp l) {i : Nat} (hi : i < l.length) (hu : 0 < i ∧ ltT (g (cutL l i) i) (g (cutL l i) ((i - 1) / 2))) (hl : i ≠ l.length - 1) : upI (cutL l i) i := by
  have hcl := cut_len l i
  have hux := hu.2
  rw [cut_get l i i hi (by omega), cut_get l i _ hi (by omega), if_pos rfl, if_neg (by omega)] at hux
  refine ⟨fun k hk0 hkl hki => ?_, fun hi0 c hc0 hcl2 hci => ?_⟩
  · rw [cut_get l i k hi (by omega), cut_get l i _ hi (by omega), if_neg (fun e => hki e.symm)]
    by_cases hik : i = (k - 1) / 2
    · rw [if_pos hik]
      have k1 := h k hk0 (by omega)
      rw [← hik] at k1
      have k2 := h i hu.1 hi
      intro hx
      exact le_tr k2 k1 (lt_tr hx hux)
    · rw [if_neg hik]
      exact h k hk0 (by omega)
  · rw [cut_get l i c hi (by omega), cut_get l i _ hi (by omega), if_neg (by omega), if_neg (by omega)]
    have k1 := h c hc0 (by omega)
    rw [hci] at k1
    exact le_tr (h i hi0 hi) k1
theorem out_hp {l : List Tm} (h : hp l) {i : Nat} (hi : i < l.length) : hp (outL l i) := by
  unfold outL
  have hcl := cut_len l i
  by_cases hl : i = l.length - 1
  · rw [if_pos hl]
    intro k hk0 hkl
    rw [cut_get l i k hi (by omega), cut_get l i _ hi (by omega), if_neg (by omega), if_neg (by omega)]
    exact h k hk0 (by omega)
  · rw [if_neg hl]
    by_cases hu : 0 < i ∧ ltT (g (cutL l i) i) (g (cutL l i) ((i - 1) / 2))
    · have h2 : (up (cutL l i) i).2 ≠ i := by
        rw [up_eq, if_pos hu]
        have := (up_moved ((i - 1) / 2) (swp (cutL l i) i ((i - 1) / 2))).1
        omega
      rw [if_pos h2]
      exact up_hp _ _ (by omega) (cut_upI h hi hu hl)
    · rw [up_still hu, if_neg (fun e => e rfl)]
      exact dn_hp _ _ _ (Nat.le_refl _) (cut_dnI h hi hu hl)
theorem cut_perm {l : List Tm} {i : Nat} (hi : i < l.length) : (g l i :: cutL l i).Perm l := by
  have hl : l.length - 1 < l.length := by omega
  have h1 : (swp l i (l.length - 1)).Perm l := swp_perm l i _ hi hl
  have h2 : swp l i (l.length - 1) = cutL l i ++ [g l i] := by
    refine ext_g (by rw [swp_len, List.length_append, cut_len]; simp; omega) fun k hk => ?_
    rw [swp_len] at hk
    rw [swp_get l _ _ _ hi hl]
    by_cases hkl : l.length - 1 = k
    · rw [if_pos hkl]
      unfold g
      rw [List.getD_eq_getElem?_getD (l := cutL l i ++ _), List.getElem?_append_right (by rw [cut_len]; omega), cut_len, hkl, Nat.sub_self]
      rfl
    · rw [if_neg hkl, g_app_l (by rw [cut_len]; omega), cut_get l i k hi (by omega)]
  rw [h2] at h1
  exact (List.perm_append_singleton _ _).symm.trans h1
theorem out_perm {l : List Tm} {i : Nat} (hi : i < l.length) : (g l i :: outL l i).Perm l := by
  have hc := cut_perm hi
  have key : (outL l i).Perm (cutL l i) := by
    unfold outL
    split
    · exact List.Perm.refl _
    · rename_i h
      split
      · exact up_perm _ _ (by rw [cut_len]; omega)
      · exact dn_perm _ _ _ (Nat.le_refl _)
  exact (key.cons _).trans hc

end Go.Proofs.Ytgmfifilgbbogaa
