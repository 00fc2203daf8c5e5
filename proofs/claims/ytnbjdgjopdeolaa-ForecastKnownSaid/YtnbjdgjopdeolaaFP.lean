

/- Forecast, plainly: what a node sends in a tick is the sum over the nodes; what is left. -/
import Derived.Test.YtnbjdgjopdeolaaFC
namespace Go.Proofs.Ytnbjdgjopdeolaa
open Go.RowKit
set_option linter.unusedSimpArgs false
set_option linter.unusedVariables false

theorem rateK_zero {cs : List Ct} {fr dt t : Int} : ∀ {k : Nat}, (∀ j, j < k → ¬ hit (cs.getD j c0) fr dt t) → rateK cs fr dt t k = 0
  | 0, _ => rfl
  | k + 1, h => by
    have ih := rateK_zero (cs := cs) (fr := fr) (dt := dt) (t := t) (k := k) fun j hj => h j (by omega)
    unfold rateK
    rw [ih, if_neg (by simp), if_neg (h k (by omega))]
theorem rateK_step {cs : List Ct} (hz : ∀ j, j < cs.length → stepE cs j = 0) {fr dt t : Int} {k : Nat} (hk : k < cs.length) :
    rateK cs fr dt t (k + 1) = rateK cs fr dt t k + (if hit (cs.getD k c0) fr dt t then (cs.getD k c0).rt else 0) := by
  by_cases hh : hit (cs.getD k c0) fr dt t
  · have hno : rateK cs fr dt t k = 0 := by
      refine rateK_zero fun j hj hj2 => ?_
      obtain ⟨_, _, h3⟩ := stepE_ok (hz k hk)
      have h4 := en_le_last (cs := cs) (a := fr) (b := dt) k (fun i hi => hz i (by omega)) j hj hj2.1 hj2.2.1
      rw [hh.1, hh.2.1] at h3
      have h5 := hj2.2.2.2
      have h6 := hh.2.2.1
      omega
    conv => { lhs; unfold rateK }
    rw [hno, if_neg (by simp), if_pos hh]; omega
  · conv => { lhs; unfold rateK }
    rw [if_neg hh]
    split <;> omega
/-- the rates from a node to the first m nodes, over the first k contacts -/
def sumKK (cs : List Ct) (nd t : Int) (k : Nat) : Nat → Int
  | 0 => 0
  | m + 1 => sumKK cs nd t k m + rateK cs nd ((m : Int) + 1) t k
theorem sumKK_full (cs : List Ct) (nd t : Int) : ∀ m, sumKK cs nd t cs.length m = sumK cs nd t m
  | 0 => rfl
  | m + 1 => by
    have ih := sumKK_full cs nd t m
    show sumKK cs nd t cs.length m + _ = sumK cs nd t m + _
    rw [ih]
theorem sumKK_zero (cs : List Ct) (nd t : Int) : ∀ m, sumKK cs nd t 0 m = 0
  | 0 => rfl
  | m + 1 => by show sumKK cs nd t 0 m + 0 = 0; rw [sumKK_zero cs nd t m]; rfl
theorem sumKK_succ {cs : List Ct} (hz : ∀ j, j < cs.length → stepE cs j = 0) {nd t : Int} {k : Nat} (hk : k < cs.length) :
    ∀ m : Nat, sumKK cs nd t (k + 1) m = sumKK cs nd t k m + (if (cs.getD k c0).fr = nd ∧ on (cs.getD k c0) t ∧ (cs.getD k c0).dt ≤ m then (cs.getD k c0).rt else 0)
  | 0 => by
    have h := (stepE_ok (hz k hk)).1.2.1
    rw [if_neg (by omega)]; rfl
  | m + 1 => by
    have ih := sumKK_succ hz (nd := nd) (t := t) hk m
    have hr := rateK_step hz (fr := nd) (dt := (m : Int) + 1) (t := t) hk
    show sumKK cs nd t (k + 1) m + rateK cs nd ((m : Int) + 1) t (k + 1) = sumKK cs nd t k m + rateK cs nd ((m : Int) + 1) t k + _
    rw [ih, hr]
    unfold hit
    push_cast
    by_cases h1 : (cs.getD k c0).fr = nd <;> by_cases h2 : on (cs.getD k c0) t <;> simp only [h1, h2, true_and, false_and, and_true, and_false, if_false]
    · by_cases h3 : (cs.getD k c0).dt ≤ m
      · rw [if_pos h3, if_neg (by omega), if_pos (by omega)]; omega
      · by_cases h4 : (cs.getD k c0).dt = (m : Int) + 1
        · rw [if_neg h3, if_pos h4, if_pos (by omega)]; omega
        · rw [if_neg h3, if_neg h4, if_neg (by omega)]; omega
    all_goals omega
/-- the program's sum is the reference's -/
theorem outK_eq {cs : List Ct} (h : planChk cs = (0, 0)) (nd t : Int) : outK cs nd t cs.length = sumK cs nd t 16 := by
  have hz := (ok_of_planChk h).2
  rw [← sumKK_full]
  have key : ∀ k, k ≤ cs.length → outK cs nd t k = sumKK cs nd t k 16 := by
    intro k
    induction k with
    | zero => intro _; rw [sumKK_zero]; rfl
    | succ k ih =>
      intro hk
      have ih := ih (by omega)
      rw [sumKK_succ hz (by omega) 16, ← ih]
      have hd := (stepE_ok (hz k (by omega))).1.2.1
      conv => { lhs; unfold outK }
      by_cases h1 : (cs.getD k c0).fr = nd ∧ on (cs.getD k c0) t
      · rw [if_pos h1, if_pos ⟨h1.1, h1.2, hd.2⟩]
      · rw [if_neg h1, if_neg (fun h => h1 ⟨h.1, h.2.1⟩)]; simp
  exact key _ (Nat.le_refl _)
/-- what the reference has summed up after m ticks -/
def sentD (cs : List Ct) (nd now : Int) : Nat → Int
  | 0 => 0
  | m + 1 => sentD cs nd now m + sumK cs nd (now + m) 16
theorem sentD_bd {cs : List Ct} (h : ∀ k, k < cs.length → okC (cs.getD k c0)) (nd now : Int) : ∀ m, 0 ≤ sentD cs nd now m ∧ sentD cs nd now m ≤ 16777216 * m
  | 0 => ⟨Int.le_refl _, Int.le_refl _⟩
  | m + 1 => by
    have ih := sentD_bd h nd now m
    have := sumK_bd h nd (now + m) 16
    unfold sentD
    refine ⟨by omega, ?_⟩
    push_cast
    omega
/-- what is still stored after m ticks of sending -/
def leftD (cs : List Ct) (nd st now : Int) : Nat → Int
  | 0 => st
  | m + 1 => leftD cs nd st now m - min (leftD cs nd st now m) (outK cs nd (now + m) cs.length)
theorem leftD_bd {cs : List Ct} (h : ∀ k, k < cs.length → okC (cs.getD k c0)) {nd st now : Int} (hs : 0 ≤ st ∧ st < 18446744073709551616) : ∀ m, 0 ≤ leftD cs nd st now m ∧ leftD cs nd st now m < 18446744073709551616
  | 0 => hs
  | m + 1 => by
    have ih := leftD_bd h (nd := nd) (now := now) hs m
    have := (outK_bd h nd (now + m) cs.length (Nat.le_refl _)).1
    unfold leftD
    omega
theorem leftD_sent {cs : List Ct} (h : planChk cs = (0, 0)) (nd : Int) {st : Int} (now : Int) (hs : 0 ≤ st) : ∀ m, leftD cs nd st now m = max 0 (st - sentD cs nd now m)
  | 0 => by unfold leftD sentD; omega
  | m + 1 => by
    have ih := leftD_sent h nd now hs m
    have hb := (sumK_bd (fun k hk => okC_of h hk) nd (now + m) 16).1
    unfold leftD sentD
    rw [ih, outK_eq h]
    omega
/-- the first tick from m on, of f ticks, at which nothing is left -/
def drG (cs : List Ct) (nd st now : Int) : Nat → Nat → Int × Int
  | m, 0 => (0, 8)
  | m, f + 1 => if leftD cs nd st now m = 0 then (now + m, 0) else drG cs nd st now (m + 1) f
/-- what Drained answers -/
def drV (c : Cf) (q st : Int) (xs : List Int) (cs : List Ct) (now un : Int) : Int × Int :=
  if fck c q st xs cs now un ≠ 0 then (0, fck c q st xs cs now un) else drG cs c.nd st now 0 ((un - now).toNat + 1)
theorem fck_zero {c : Cf} {q st : Int} {xs : List Int} {cs : List Ct} {now un : Int} (h : fck c q st xs cs now un = 0) :
    (1 ≤ c.nd ∧ c.nd ≤ 16 ∧ c.wd ≤ 1099511627776) ∧ chk q st xs = 0 ∧ planChk cs = (0, 0) ∧ 0 ≤ now ∧ un ≤ 1099511627776 ∧ now < un ∧ un - now ≤ 1000 := by
  unfold fck at h
  by_cases h1 : c.nd < 1 ∨ 16 < c.nd ∨ 1099511627776 < c.wd
  · rw [if_pos h1] at h; cases h
  rw [if_neg h1] at h
  by_cases h2 : chk q st xs ≠ 0
  · rw [if_pos h2] at h; exact absurd h h2
  rw [if_neg h2] at h
  by_cases h3 : (planChk cs).1 ≠ 0
  · rw [if_pos h3] at h; exact absurd h h3
  rw [if_neg h3] at h
  by_cases h4 : now < 0 ∨ 1099511627776 < now ∨ un < 0 ∨ 1099511627776 < un
  · rw [if_pos h4] at h; cases h
  rw [if_neg h4] at h
  by_cases h5 : un ≤ now
  · rw [if_pos h5] at h; cases h
  rw [if_neg h5] at h
  by_cases h6 : 1000 < un - now
  · rw [if_pos h6] at h; cases h
  exact ⟨by omega, Decidable.not_not.1 h2, planChk_zero (Decidable.not_not.1 h3), by omega, by omega, by omega, by omega⟩
end Go.Proofs.Ytnbjdgjopdeolaa
