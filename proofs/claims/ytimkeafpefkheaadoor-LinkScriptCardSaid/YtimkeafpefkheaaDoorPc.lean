

/- Links, plainly: how many frames a fault changes, and that what undoes it restores the link. -/
import Derived.Test.YtimkeafpefkheaaDoorTb
namespace Go.Proofs.YtimkeafpefkheaaDoor
open Go.RowKit
set_option linter.unusedSimpArgs false
set_option linter.unusedVariables false

/-- all frames have between 1 and B bytes -/
def Sml (B : Nat) (l : List Fr) : Prop := ∀ s, s ∈ l → 1 ≤ s.size ∧ s.size ≤ B
theorem Sml.get {B : Nat} {l : List Fr} (h : Sml B l) {k : Nat} (hk : k < l.length) : 1 ≤ (l.getD k e0).size ∧ (l.getD k e0).size ≤ B := by
  rw [List.getD_eq_getElem?_getD, List.getElem?_eq_getElem hk]
  exact h _ (List.getElem_mem hk)
theorem Sml.szs {B : Nat} {l : List Fr} (h : Sml B l) (hB : B ≤ 1200) : Szs l := fun s hs => by have := h s hs; omega
theorem apE_of {a : List Fr} (hl : a.length ≤ 64) (hs : Sml 1200 a) {t : Tr} (h1 : 1 ≤ t.k) (h2 : t.k ≤ 5) (h3 : 0 ≤ t.i) (h4 : t.i < a.length) (h5 : t.k = 2 → a.length ≠ 64) (h6 : fitT a t = true) : apE a t = 0 := by
  have hc : (chkL a).1 = 0 := by rw [chk_ok hl hs]
  unfold apE
  rw [if_neg (by simpa using hc), if_neg (by omega), if_neg (by omega), if_neg (fun h => h5 h.1 h.2), if_neg (by simp [h6])]
/-- what a fault without an error is -/
theorem apE_zero {l : List Fr} {t : Tr} (h : apE l t = 0) : 1 ≤ t.k ∧ t.k ≤ 5 ∧ 0 ≤ t.i ∧ t.i < l.length ∧ fitT l t = true := by
  unfold apE at h
  by_cases hc : (chkL l).1 ≠ 0
  · rw [if_pos hc] at h; exact absurd h hc
  rw [if_neg hc] at h
  by_cases h1 : t.k < 1 ∨ 5 < t.k
  · rw [if_pos h1] at h; cases h
  rw [if_neg h1] at h
  by_cases h2 : t.i < 0 ∨ (l.length : Int) ≤ t.i
  · rw [if_pos h2] at h; cases h
  rw [if_neg h2] at h
  by_cases h3 : t.k = 2 ∧ l.length = 64
  · rw [if_pos h3] at h; cases h
  rw [if_neg h3] at h
  by_cases h4 : fitT l t = false
  · rw [if_pos h4] at h; cases h
  · exact ⟨by omega, by omega, by omega, by omega, by simpa using h4⟩
theorem sml_set {B : Nat} {l : List Fr} (h : Sml B l) {i : Nat} {s : Fr} (h1 : 1 ≤ s.size ∧ s.size ≤ B) : Sml B (l.set i s) := fun x hx => by
  rcases List.mem_or_eq_of_mem_set hx with hx | rfl
  · exact h x hx
  · exact h1
theorem apL_sml {B : Nat} {l : List Fr} {t : Tr} (h : Sml B l) (he : apE l t = 0) : Sml B (apL l t) := by
  obtain ⟨k1, k2, i1, i2, hf⟩ := apE_zero he
  have hi : t.i.toNat < l.length := by omega
  have hg := h.get hi
  unfold apL
  by_cases c1 : t.k = 1
  · rw [if_pos c1]
    intro s hs
    unfold lessV at hs
    rcases List.mem_append.1 hs with hs | hs
    · exact h s (List.mem_of_mem_take hs)
    · exact h s (List.mem_of_mem_drop hs)
  rw [if_neg c1]
  by_cases c2 : t.k = 2
  · rw [if_pos c2]
    intro s hs
    unfold insV at hs
    rcases List.mem_append.1 hs with hs | hs
    · exact h s (List.mem_of_mem_take hs)
    · rcases List.mem_cons.1 hs with rfl | hs
      · exact hg
      · exact h s (List.mem_of_mem_drop hs)
  rw [if_neg c2]
  unfold fitT at hf
  rw [if_neg (by omega)] at hf
  by_cases c3 : t.k = 3
  · rw [if_pos c3]
    rw [if_pos c3] at hf
    simp only [Bool.and_eq_true, decide_eq_true_eq] at hf
    unfold swapV
    exact sml_set (sml_set h (h.get (by omega))) (h.get (by omega))
  rw [if_neg c3]
  rw [if_neg c3] at hf
  by_cases c4 : t.k = 4
  · rw [if_pos c4]
    exact sml_set h (by rw [spoil_size]; exact hg)
  rw [if_neg c4]
  rw [if_neg c4] at hf
  simp only [Bool.and_eq_true, decide_eq_true_eq] at hf
  refine sml_set h ?_
  rw [ByteArray.size_extract]
  omega
theorem getD_set (l : List Fr) (i j : Nat) (x : Fr) (hi : i < l.length) : (l.set i x).getD j e0 = if i = j then x else l.getD j e0 := by
  rw [List.getD_eq_getElem?_getD, List.getD_eq_getElem?_getD, List.getElem?_set]
  by_cases h : i = j
  · subst h
    rw [if_pos rfl, if_pos hi, if_pos rfl]
    rfl
  · rw [if_neg h, if_neg h]
theorem set_getD (l : List Fr) (i : Nat) (hi : i < l.length) : l.set i (l.getD i e0) = l := by
  rw [List.getD_eq_getElem?_getD, List.getElem?_eq_getElem hi]
  exact List.set_getElem_self hi
/-- how many of the first k frames differ -/
def cnt (a l : List Fr) : Nat → Int
  | 0 => 0
  | k + 1 => cnt a l k + (if a.getD k e0 = l.getD k e0 then 0 else 1)
theorem cnt_bd (a l : List Fr) : ∀ k, 0 ≤ cnt a l k ∧ cnt a l k ≤ k
  | 0 => ⟨Int.le_refl _, Int.le_refl _⟩
  | k + 1 => by
    have := cnt_bd a l k
    unfold cnt
    split <;> omega
theorem cnt_zero {a l : List Fr} : ∀ k, (∀ j, j < k → a.getD j e0 = l.getD j e0) → cnt a l k = 0
  | 0, _ => rfl
  | k + 1, h => by
    unfold cnt
    rw [cnt_zero k fun j hj => h j (by omega), if_pos (h k (by omega))]
    rfl
theorem cnt_one {a l : List Fr} {i : Nat} (hi : a.getD i e0 ≠ l.getD i e0) : ∀ k, i < k → (∀ j, j < k → j ≠ i → a.getD j e0 = l.getD j e0) → cnt a l k = 1
  | 0, h0, _ => by omega
  | k + 1, hk, h => by
    unfold cnt
    by_cases hik : i = k
    · subst hik
      rw [cnt_zero i fun j hj => h j (by omega) (by omega), if_neg hi]
      rfl
    · rw [cnt_one hi k (by omega) fun j hj => h j (by omega), if_pos (h k (by omega) (fun e => hik e.symm))]
      rfl
theorem cnt_two {a l : List Fr} {i j : Nat} (hij : i < j) (hi : a.getD i e0 ≠ l.getD i e0) (hj : a.getD j e0 ≠ l.getD j e0) : ∀ k, j < k → (∀ m, m < k → m ≠ i → m ≠ j → a.getD m e0 = l.getD m e0) → cnt a l k = 2
  | 0, h0, _ => by omega
  | k + 1, hk, h => by
    unfold cnt
    by_cases hjk : j = k
    · subst hjk
      rw [cnt_one hi j hij fun m hm hmi => h m (by omega) hmi (by omega), if_neg hj]
      rfl
    · rw [cnt_two hij hi hj k (by omega) fun m hm => h m (by omega), if_pos (h k (by omega) (by omega) (fun e => hjk e.symm))]
      rfl
theorem cnt_set {l : List Fr} {i : Nat} {x : Fr} (hi : i < l.length) (hx : x ≠ l.getD i e0) : cnt (l.set i x) l l.length = 1 := by
  refine cnt_one (i := i) (by rw [getD_set _ _ _ _ hi, if_pos rfl]; exact hx) _ hi fun j hj hji => ?_
  rw [getD_set _ _ _ _ hi, if_neg (Ne.symm hji)]
theorem swapV_getD (l : List Fr) (i j m : Nat) (hi : i < l.length) (hj : j < l.length) : (swapV l i j).getD m e0 = if j = m then l.getD i e0 else if i = m then l.getD j e0 else l.getD m e0 := by
  unfold swapV
  rw [getD_set _ _ _ _ (by simpa using hj)]
  split
  · rfl
  · rw [getD_set _ _ _ _ hi]
theorem cnt_swap {l : List Fr} {i j : Nat} (hi : i < l.length) (hj : j < l.length) : cnt (swapV l i j) l l.length = 2 ∨ cnt (swapV l i j) l l.length = 0 := by
  by_cases he : l.getD i e0 = l.getD j e0
  · right
    refine cnt_zero _ fun m hm => ?_
    rw [swapV_getD l i j m hi hj]
    split
    · rename_i h; subst h; exact he
    · split
      · rename_i h; subst h; exact he.symm
      · rfl
  · left
    have hij : i ≠ j := fun e => he (by rw [e])
    have h1 : (swapV l i j).getD i e0 ≠ l.getD i e0 := by
      rw [swapV_getD l i j i hi hj, if_neg (Ne.symm hij), if_pos rfl]
      exact Ne.symm he
    have h2 : (swapV l i j).getD j e0 ≠ l.getD j e0 := by
      rw [swapV_getD l i j j hi hj, if_pos rfl]
      exact he
    have h3 : ∀ m, m < l.length → m ≠ i → m ≠ j → (swapV l i j).getD m e0 = l.getD m e0 := fun m hm hmi hmj => by
      rw [swapV_getD l i j m hi hj, if_neg (Ne.symm hmj), if_neg (Ne.symm hmi)]
    rcases Nat.lt_or_ge i j with h | h
    · exact cnt_two h h1 h2 _ hj h3
    · exact cnt_two (show j < i by omega) h2 h1 _ hi fun m hm hmj hmi => h3 m hm hmi hmj
theorem swap_len (l : List Fr) (i j : Nat) : (swapV l i j).length = l.length := by unfold swapV; simp
theorem swap_back {l : List Fr} {i j : Nat} (hi : i < l.length) (hj : j < l.length) : swapV (swapV l i j) i j = l := by
  refine List.ext_getElem (by rw [swap_len, swap_len]) fun m h1 h2 => ?_
  have e1 : (swapV (swapV l i j) i j).getD m e0 = l.getD m e0 := by
    rw [swapV_getD _ i j m (by rw [swap_len]; exact hi) (by rw [swap_len]; exact hj)]
    split
    · rename_i h; subst h
      rw [swapV_getD l i j i hi hj]
      split
      · rename_i h; subst h; rfl
      · rw [if_pos rfl]
    · split
      · rename_i h; subst h
        rw [swapV_getD l i j j hi hj, if_pos rfl]
      · rename_i h1 h2
        rw [swapV_getD l i j m hi hj, if_neg h1, if_neg h2]
  rwa [List.getD_eq_getElem?_getD, List.getD_eq_getElem?_getD, List.getElem?_eq_getElem h1, List.getElem?_eq_getElem h2] at e1
theorem ins_back (l : List Fr) (i : Nat) (s : Fr) (hi : i ≤ l.length) : lessV (insV l i s) i = l := by
  unfold lessV insV
  have hl : (l.take i).length = i := by rw [List.length_take]; omega
  rw [List.take_append_of_le_length (by omega), List.drop_append, hl, List.drop_eq_nil_of_le (by omega)]
  simp [List.take_take]
theorem arr_getD (a : Array UInt8) (j : Nat) (h : j < a.size) : a.getD j 0 = a[j] := by
  unfold Array.getD
  rw [dif_pos h]
  rfl
theorem arr_set_getD (a : Array UInt8) (j : Nat) (y : UInt8) (h : j < a.size) : (a.setIfInBounds j y).getD j 0 = y := by
  rw [arr_getD _ _ (by simpa using h), Array.getElem_setIfInBounds (by simpa using h), if_pos rfl]
theorem spoil_data (s : Fr) (j : Nat) (b : Int) : (spoilS s j b).data = s.data.setIfInBounds j (s.data.getD j 0 ^^^ UInt8.ofNat b.toNat) := rfl
theorem fr_ext {s t : Fr} (h : s.data = t.data) : s = t := by
  cases s; cases t
  simp only [ByteArray.mk.injEq]
  exact h
theorem spoil_back (s : Fr) (j : Nat) (b : Int) (hj : j < s.size) : spoilS (spoilS s j b) j b = s := by
  have hj' : j < s.data.size := hj
  apply fr_ext
  rw [spoil_data, spoil_data, arr_set_getD _ _ _ hj', UInt8.xor_assoc, UInt8.xor_self, UInt8.xor_zero, arr_getD _ _ hj']
  apply Array.ext
  · simp
  · intro i h1 h2
    rw [Array.getElem_setIfInBounds (by simpa using h2)]
    split
    · rename_i h; subst h; rfl
    · rename_i h
      rw [Array.getElem_setIfInBounds h2, if_neg h]
theorem spoil_ne (s : Fr) (j : Nat) (b : Int) (hj : j < s.size) (h1 : 1 ≤ b) (h2 : b ≤ 255) : spoilS s j b ≠ s := by
  have hj' : j < s.data.size := hj
  intro e
  have h : (spoilS s j b).data.getD j 0 = s.data.getD j 0 := by rw [e]
  rw [spoil_data, arr_set_getD _ _ _ hj'] at h
  generalize s.data.getD j 0 = x at h
  have h3 : UInt8.ofNat b.toNat = 0 := by
    have := congrArg (fun z => x ^^^ z) h
    simp only [← UInt8.xor_assoc, UInt8.xor_self, UInt8.zero_xor] at this
    exact this
  have h4 := congrArg UInt8.toNat h3
  rw [UInt8.toNat_ofNat'] at h4
  have : (0 : UInt8).toNat = 0 := rfl
  omega
theorem cut_ne (s : Fr) (j : Nat) (hj : j < s.size) : s.extract 0 j ≠ s := by
  intro e
  have := congrArg ByteArray.size e
  rw [ByteArray.size_extract] at this
  omega
end Go.Proofs.YtimkeafpefkheaaDoor
