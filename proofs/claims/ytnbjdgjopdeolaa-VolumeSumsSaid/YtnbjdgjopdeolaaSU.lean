

/- VolumeSums, plainly: the sums over the contacts of a plan. -/
import Derived.Test.YtnbjdgjopdeolaaLa
import Derived.Test.YtnbjdgjopdeolaaPL
namespace Go.Proofs.Ytnbjdgjopdeolaa
open Go.RowKit
set_option linter.unusedSimpArgs false
set_option linter.unusedVariables false

/-- the contact goes from node 1 to node 2 -/
def mine (c : Ct) : Prop := c.fr = 1 ∧ c.dt = 2
instance (c : Ct) : Decidable (mine c) := by unfold mine; infer_instance
/-- what the contacts of the pair carry between two ticks -/
def wantK (cs : List Ct) (t u : Int) : Nat → Int
  | 0 => 0
  | k + 1 => if mine (cs.getD k c0) then wantK cs t u k + (cs.getD k c0).rt * (del (cs.getD k c0) u - del (cs.getD k c0) t) else wantK cs t u k
/-- what is left of them from a tick on -/
def wholeK (cs : List Ct) (t : Int) : Nat → Int
  | 0 => 0
  | k + 1 => if mine (cs.getD k c0) then wholeK cs t k + (vol (cs.getD k c0) - pos (cs.getD k c0) t) else wholeK cs t k

theorem del_mono {c : Ct} (hok : okC c) {t u : Int} (h : t ≤ u) : del c t ≤ del c u := by
  have hse := hok.2.2.2.2.1
  unfold del
  split <;> split <;> omega
theorem del_bd {c : Ct} (hok : okC c) (hs : smallC c) (t : Int) : 0 ≤ del c t ∧ del c t ≤ 70 := by
  have hse := hok.2.2.2.2.1
  have h0 := hok.2.2.2.1
  have h1 := hs.1
  unfold del
  split <;> omega
theorem del_step (c : Ct) (hok : okC c) (j : Int) : del c (j + 1) = del c j + if c.st ≤ j ∧ j < c.en then 1 else 0 := by
  have hse := hok.2.2.2.2.1
  unfold del
  by_cases h : c.st ≤ j ∧ j < c.en
  · rw [if_pos h]; split <;> split <;> omega
  · rw [if_neg h]; split <;> split <;> omega
theorem part_del {c : Ct} (hok : okC c) {t u : Int} (h : t ≤ u) : part c t u = c.rt * (del c u - del c t) := by
  have hm := pos_mono hok h
  unfold part
  have e : pos c u - pos c t = c.rt * (del c u - del c t) := by rw [pos_del, pos_del, Int.mul_sub]
  split
  · exact e
  · rw [← e]; omega
theorem wantK_bd {cs : List Ct} (hok : ∀ k, k < cs.length → okC (cs.getD k c0) ∧ smallC (cs.getD k c0)) {t u : Int} (h : t ≤ u) : ∀ k, k ≤ cs.length → 0 ≤ wantK cs t u k ∧ wantK cs t u k ≤ 70000 * k
  | 0, _ => ⟨Int.le_refl _, Int.le_refl _⟩
  | k + 1, hk => by
    have ih := wantK_bd hok h k (by omega)
    obtain ⟨h1, h2⟩ := hok k (by omega)
    have h3 := del_mono h1 h
    have h4 := del_bd h1 h2 t
    have h5 := del_bd h1 h2 u
    have h6 := h1.2.2.2.2.2.2.1
    have h7 := mul_bd (a := (cs.getD k c0).rt) (b := del (cs.getD k c0) u - del (cs.getD k c0) t) (A := 1000) (B := 70) (by omega) h2.2 (by omega) (by omega)
    unfold wantK
    split
    · refine ⟨by omega, ?_⟩
      push_cast
      omega
    · refine ⟨ih.1, ?_⟩
      push_cast
      omega
theorem betw_want {cs : List Ct} (hok : ∀ k, k < cs.length → okC (cs.getD k c0) ∧ smallC (cs.getD k c0)) (hl : cs.length ≤ 6) {t u : Int} (h : t ≤ u) : ∀ k, k ≤ cs.length → betw cs 1 2 t u k = wantK cs t u k
  | 0, _ => rfl
  | k + 1, hk => by
    have ih := betw_want hok hl h k (by omega)
    have hb := wantK_bd hok h (k + 1) hk
    unfold wantK at hb
    unfold betw wantK
    rw [ih]
    by_cases hm : mine (cs.getD k c0)
    · rw [if_pos hm] at hb ⊢
      rw [if_pos (show (cs.getD k c0).fr = 1 ∧ (cs.getD k c0).dt = 2 from hm), part_del (hok k (by omega)).1 h]
      have : ((k + 1 : Nat) : Int) ≤ 6 := by omega
      exact IntWalk.i64_in _ (by omega)
    · rw [if_neg hm, if_neg (show ¬ ((cs.getD k c0).fr = 1 ∧ (cs.getD k c0).dt = 2) from hm)]
/-- what has been sent over the first k contacts -/
theorem whole_nn {cs : List Ct} (hok : ∀ k, k < cs.length → okC (cs.getD k c0)) (t : Int) : ∀ k, k ≤ cs.length → 0 ≤ wholeK cs t k
  | 0, _ => Int.le_refl _
  | k + 1, hk => by
    have ih := whole_nn hok t k (by omega)
    have := pos_le _ (hok k (by omega)) t
    unfold wholeK
    split <;> omega
theorem whole_bd {cs : List Ct} (hok : ∀ k, k < cs.length → okC (cs.getD k c0) ∧ smallC (cs.getD k c0)) (t : Int) : ∀ k, k ≤ cs.length → wholeK cs t k ≤ 70000 * k
  | 0, _ => Int.le_refl _
  | k + 1, hk => by
    have ih := whole_bd hok t k (by omega)
    obtain ⟨h1, h2⟩ := hok k (by omega)
    have h3 := pos_nn _ h1 t
    have h6 := h1.2.2.2.2.2.2.1
    have h8 := h1.2.2.2.2.1
    have h9 := h1.2.2.2.1
    have h7 := mul_bd (a := (cs.getD k c0).rt) (b := (cs.getD k c0).en - (cs.getD k c0).st) (A := 1000) (B := 70) (by omega) h2.2 (by omega) (by have := h2.1; omega)
    have h10 : vol (cs.getD k c0) ≤ 70000 := by unfold vol; omega
    unfold wholeK
    split <;> (push_cast; omega)
theorem zeros_get (N k : Nat) : (List.replicate N (0 : Int)).getD k 0 = 0 := by
  rw [List.getD_eq_getElem?_getD, List.getElem?_replicate]
  split <;> rfl
/-- the sending with nothing booked: how much is left to be sent, and what is booked behind it -/
theorem carK_zeros {cs : List Ct} (hok : ∀ k, k < cs.length → okC (cs.getD k c0)) {t n : Int} (hn : 0 ≤ n) : ∀ k, k ≤ cs.length →
    (carK cs (List.replicate cs.length 0) 1 2 t n k).2.2 = (if n ≤ wholeK cs t k then 0 else n - wholeK cs t k) ∧ (carK cs (List.replicate cs.length 0) 1 2 t n k).1.length = cs.length ∧
    (∀ j, k ≤ j → (carK cs (List.replicate cs.length 0) 1 2 t n k).1.getD j 0 = 0) ∧
    (∀ j, j < k → (carK cs (List.replicate cs.length 0) 1 2 t n k).1.getD j 0 = 0 ∨ (pos (cs.getD j c0) t < (carK cs (List.replicate cs.length 0) 1 2 t n k).1.getD j 0 ∧ (carK cs (List.replicate cs.length 0) 1 2 t n k).1.getD j 0 ≤ vol (cs.getD j c0)))
  | 0, _ => by
    refine ⟨?_, by simp [carK], fun j _ => zeros_get _ j, fun j hj => by omega⟩
    show n = _
    unfold wholeK
    split <;> omega
  | k + 1, hk => by
    obtain ⟨i1, i2, i3, i4⟩ := carK_zeros hok hn k (by omega)
    have hw := whole_nn hok t k (by omega)
    have hc := hok k (by omega)
    have hp := pos_le _ hc t
    have hpn := pos_nn _ hc t
    obtain ⟨s, hs⟩ : ∃ s, carK cs (List.replicate cs.length 0) 1 2 t n k = s := ⟨_, rfl⟩
    rw [hs] at i1 i2 i3 i4
    have hstep : carK cs (List.replicate cs.length 0) 1 2 t n (k + 1) = if mine (cs.getD k c0) then stepC cs (List.replicate cs.length 0) t k s else s := by rw [← hs]; rfl
    have hwh : wholeK cs t (k + 1) = if mine (cs.getD k c0) then wholeK cs t k + (vol (cs.getD k c0) - pos (cs.getD k c0) t) else wholeK cs t k := rfl
    rw [hstep, hwh]
    by_cases hm : mine (cs.getD k c0)
    · rw [if_pos hm, if_pos hm]
      have hbeg : beg (cs.getD k c0) ((List.replicate cs.length (0 : Int)).getD k 0) t = pos (cs.getD k c0) t := by rw [zeros_get]; unfold beg; omega
      have hprt : prt (cs.getD k c0) ((List.replicate cs.length (0 : Int)).getD k 0) t s.2.2 = min s.2.2 (vol (cs.getD k c0) - pos (cs.getD k c0) t) := by unfold prt; rw [hbeg]
      unfold stepC
      rw [hprt, hbeg]
      obtain ⟨p, hpp⟩ : ∃ p, min s.2.2 (vol (cs.getD k c0) - pos (cs.getD k c0) t) = p := ⟨_, rfl⟩
      rw [hpp]
      by_cases h0 : 0 < p
      · rw [if_pos h0]
        refine ⟨?_, by simpa using i2, fun j hj => ?_, fun j hj => ?_⟩
        · show s.2.2 - p = _
          rw [i1] at hpp ⊢
          split at hpp <;> split <;> split <;> omega
        · show (s.1.set k _).getD j 0 = 0
          have := i3 j (by omega)
          rw [List.getD_eq_getElem?_getD] at this ⊢
          rwa [List.getElem?_set_ne (by omega)]
        · show (s.1.set k _).getD j 0 = 0 ∨ (_ < (s.1.set k _).getD j 0 ∧ (s.1.set k _).getD j 0 ≤ _)
          by_cases hjk : j = k
          · subst hjk
            have e : (s.1.set j (pos (cs.getD j c0) t + p)).getD j 0 = pos (cs.getD j c0) t + p := by
              rw [List.getD_eq_getElem?_getD, List.getElem?_set_self (by omega)]; rfl
            rw [e]
            exact .inr ⟨by omega, by omega⟩
          · have e : (s.1.set k (pos (cs.getD k c0) t + p)).getD j 0 = s.1.getD j 0 := by
              rw [List.getD_eq_getElem?_getD, List.getElem?_set_ne (by omega), ← List.getD_eq_getElem?_getD]
            rw [e]
            exact i4 j (by omega)
      · rw [if_neg h0]
        refine ⟨?_, i2, fun j hj => i3 j (by omega), fun j hj => ?_⟩
        · rw [i1] at hpp ⊢
          split at hpp <;> split <;> split <;> omega
        · by_cases hjk : j = k
          · subst hjk; exact .inl (i3 j (Nat.le_refl _))
          · exact i4 j (by omega)
    · rw [if_neg hm, if_neg hm]
      refine ⟨i1, i2, fun j hj => i3 j (by omega), fun j hj => ?_⟩
      by_cases hjk : j = k
      · subst hjk; exact .inl (i3 j (Nat.le_refl _))
      · exact i4 j (by omega)
/-- what the bookings behind the sending say was sent -/
def sentK (cs : List Ct) (t : Int) (af : List Int) : Nat → Int
  | 0 => 0
  | k + 1 => if af.getD k 0 = 0 then sentK cs t af k else sentK cs t af k + (af.getD k 0 - pos (cs.getD k c0) t)
theorem sentK_congr {cs : List Ct} {t : Int} {af ag : List Int} : ∀ k, (∀ j, j < k → af.getD j 0 = ag.getD j 0) → sentK cs t af k = sentK cs t ag k
  | 0, _ => rfl
  | k + 1, h => by
    unfold sentK
    rw [sentK_congr k (fun j hj => h j (by omega)), h k (by omega)]
theorem sent_left {cs : List Ct} (hok : ∀ k, k < cs.length → okC (cs.getD k c0)) {t n : Int} (hn : 0 ≤ n) : ∀ k, k ≤ cs.length →
    sentK cs t (carK cs (List.replicate cs.length 0) 1 2 t n k).1 k = n - (carK cs (List.replicate cs.length 0) 1 2 t n k).2.2
  | 0, _ => by show (0 : Int) = n - n; omega
  | k + 1, hk => by
    have ih := sent_left hok (t := t) hn k (by omega)
    obtain ⟨_, i2, i3, _⟩ := carK_zeros hok (t := t) hn k (by omega)
    have hc := hok k (by omega)
    have hp := pos_le _ hc t
    have hpn := pos_nn _ hc t
    obtain ⟨s, hs⟩ : ∃ s, carK cs (List.replicate cs.length 0) 1 2 t n k = s := ⟨_, rfl⟩
    rw [hs] at ih i2 i3
    have hstep : carK cs (List.replicate cs.length 0) 1 2 t n (k + 1) = if mine (cs.getD k c0) then stepC cs (List.replicate cs.length 0) t k s else s := by rw [← hs]; rfl
    rw [hstep]
    by_cases hm : mine (cs.getD k c0)
    · rw [if_pos hm]
      have hbeg : beg (cs.getD k c0) ((List.replicate cs.length (0 : Int)).getD k 0) t = pos (cs.getD k c0) t := by rw [zeros_get]; unfold beg; omega
      unfold stepC
      rw [hbeg]
      obtain ⟨p, hpp⟩ : ∃ p, prt (cs.getD k c0) ((List.replicate cs.length (0 : Int)).getD k 0) t s.2.2 = p := ⟨_, rfl⟩
      rw [hpp]
      by_cases h0 : 0 < p
      · rw [if_pos h0]
        have e : (s.1.set k (pos (cs.getD k c0) t + p)).getD k 0 = pos (cs.getD k c0) t + p := by
          rw [List.getD_eq_getElem?_getD, List.getElem?_set_self (by omega)]; rfl
        show sentK cs t (s.1.set k (pos (cs.getD k c0) t + p)) (k + 1) = n - (s.2.2 - p)
        unfold sentK
        rw [e, if_neg (by omega), sentK_congr (ag := s.1) k (fun j hj => by rw [List.getD_eq_getElem?_getD, List.getElem?_set_ne (by omega), ← List.getD_eq_getElem?_getD]), ih]
        omega
      · rw [if_neg h0]
        unfold sentK
        rw [i3 k (Nat.le_refl _), if_pos rfl, ih]
    · rw [if_neg hm]
      unfold sentK
      rw [i3 k (Nat.le_refl _), if_pos rfl, ih]
/-- the bookings behind a sending are such as their contacts can bear -/
theorem overK_none {cs : List Ct} {bs : List Int} (h : ∀ k, k < cs.length → 0 ≤ bs.getD k 0 ∧ bs.getD k 0 ≤ vol (cs.getD k c0)) : ∀ k, k ≤ cs.length → overK cs bs k = []
  | 0, _ => rfl
  | k + 1, hk => by
    unfold overK
    have := h k (by omega)
    rw [if_neg (by omega)]
    exact overK_none h k (by omega)
end Go.Proofs.Ytnbjdgjopdeolaa
