

/- Volume: what Carry sends, plainly. -/
import Derived.Test.YtnbjdgjopdeolaaQ
namespace Go.Proofs.Ytnbjdgjopdeolaa
open Go.RowKit
set_option linter.unusedSimpArgs false
set_option linter.unusedVariables false

/-- the bookings, the tick at which all is through, what is left to be sent -/
abbrev CS := List Int × Int × Int
def beg (c : Ct) (b t : Int) : Int := max b (pos c t)
def prt (c : Ct) (b t n : Int) : Int := min n (vol c - beg c b t)
def stepC (cs : List Ct) (bs : List Int) (t : Int) (k : Nat) (s : CS) : CS :=
  if 0 < prt (cs.getD k c0) (bs.getD k 0) t s.2.2 then
    (s.1.set k (beg (cs.getD k c0) (bs.getD k 0) t + prt (cs.getD k c0) (bs.getD k 0) t s.2.2), max s.2.1 (thr (cs.getD k c0) (beg (cs.getD k c0) (bs.getD k 0) t + prt (cs.getD k c0) (bs.getD k 0) t s.2.2)), s.2.2 - prt (cs.getD k c0) (bs.getD k 0) t s.2.2)
  else s
def carK (cs : List Ct) (bs : List Int) (fr dt t n : Int) : Nat → CS
  | 0 => (bs, 0, n)
  | k + 1 => if (cs.getD k c0).fr = fr ∧ (cs.getD k c0).dt = dt then stepC cs bs t k (carK cs bs fr dt t n k) else carK cs bs fr dt t n k
def carF {cs : List Ct} {fr dt : Int} (bs : List Int) (t n : Int) (xs : List (Px cs fr dt)) : CS := xs.foldl (fun s x => stepC cs bs t x.1.1 s) (bs, 0, n)
theorem carF_snoc {cs : List Ct} {fr dt : Int} (bs : List Int) (t n : Int) (xs : List (Px cs fr dt)) (x : Px cs fr dt) : carF bs t n (xs ++ [x]) = stepC cs bs t x.1.1 (carF bs t n xs) := by simp [carF]
theorem carF_picks (cs : List Ct) (bs : List Int) (fr dt t n : Int) : ∀ k, k ≤ cs.length → carF bs t n (picks cs fr dt k) = carK cs bs fr dt t n k
  | 0, _ => rfl
  | k + 1, hk => by
    unfold carK
    by_cases h : (cs.getD k c0).fr = fr ∧ (cs.getD k c0).dt = dt
    · obtain ⟨x, hx, hx1, hx2⟩ := picks_yes (cs := cs) (k := k) (by omega) h.1 h.2
      rw [hx, if_pos h, carF_snoc, carF_picks cs bs fr dt t n k (by omega), hx1]
    · rw [picks_no h, if_neg h, carF_picks cs bs fr dt t n k (by omega)]

/-- every booking is one that its contact can bear -/
def Fit (cs : List Ct) (bs : List Int) : Prop := ∀ k, k < cs.length → 0 ≤ bs.getD k 0 ∧ bs.getD k 0 ≤ vol (cs.getD k c0)
theorem fit_of_over {cs : List Ct} {bs : List Int} (h : overK cs bs cs.length = []) : Fit cs bs := by
  have key : ∀ n, overK cs bs n = [] → ∀ k, k < n → 0 ≤ bs.getD k 0 ∧ bs.getD k 0 ≤ vol (cs.getD k c0) := by
    intro n
    induction n with
    | zero => intro _ k hk; omega
    | succ n ih =>
      intro h k hk
      unfold overK at h
      by_cases hb : bs.getD n 0 < 0 ∨ vol (cs.getD n c0) < bs.getD n 0
      · rw [if_pos hb] at h
        simp at h
      · rw [if_neg hb] at h
        by_cases hkn : k = n
        · rw [hkn]; omega
        · exact ih h k (by omega)
  exact key _ h
/-- what holds of the state of a sending -/
def CInv (N : Nat) (n : Int) (s : CS) : Prop := s.1.length = N ∧ 0 ≤ s.2.2 ∧ s.2.2 ≤ n
theorem CInv.start {bs : List Int} {N : Nat} {n : Int} (h : bs.length = N) (hn : 0 ≤ n) : CInv N n (bs, 0, n) := ⟨h, hn, Int.le_refl _⟩
theorem beg_bd {c : Ct} {b t : Int} (h : okC c) (h0 : 0 ≤ b) (h1 : b ≤ vol c) : 0 ≤ beg c b t ∧ beg c b t ≤ vol c := by
  have := pos_le c h t
  unfold beg
  omega
theorem CInv.step {cs : List Ct} {bs : List Int} {t n : Int} {k N : Nat} {s : CS} (h : CInv N n s) : CInv N n (stepC cs bs t k s) := by
  unfold stepC
  split
  · refine ⟨by simpa using h.1, ?_, ?_⟩
    · have := h.2.1
      show 0 ≤ s.2.2 - prt _ _ _ _
      unfold prt
      omega
    · have := h.2.2
      show s.2.2 - prt _ _ _ _ ≤ n
      omega
  · exact h
theorem CInv.fold {cs : List Ct} {fr dt : Int} {bs : List Int} {t n : Int} (h : bs.length = cs.length) (hn : 0 ≤ n) (xs : List (Px cs fr dt)) : CInv cs.length n (carF bs t n xs) := by
  have key : ∀ (xs : List (Px cs fr dt)) (s : CS), CInv cs.length n s → CInv cs.length n (xs.foldl (fun s x => stepC cs bs t x.1.1 s) s) := by
    intro xs
    induction xs with
    | nil => intro s hs; exact hs
    | cons x xs ih => intro s hs; exact ih _ hs.step
  exact key xs _ (CInv.start h hn)
/-- what Carry answers -/
def Crv (cs : List Ct) (bs : List Int) (fr dt t n : Int) : List Int × Int × Int :=
  if bkE cs bs ≠ 0 then ([], 0, bkE cs bs)
  else if (nodeB fr && nodeB dt && tickB t && bytesB n) = false ∨ overK cs bs cs.length ≠ [] then ([], 0, 2)
  else if 0 < (carK cs bs fr dt t n cs.length).2.2 then ([], 0, 16) else ((carK cs bs fr dt t n cs.length).1, (carK cs bs fr dt t n cs.length).2.1, 0)
end Go.Proofs.Ytnbjdgjopdeolaa
