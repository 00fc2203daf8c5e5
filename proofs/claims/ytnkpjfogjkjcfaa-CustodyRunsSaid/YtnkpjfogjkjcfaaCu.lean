


/- Custody, plainly: tags, copies, worlds; which are valid; what a move makes. No program is named. -/
import Derived.Test.YtnkpjfogjkjcfaaRX
namespace Go.Proofs.Ytnkpjfogjkjcfaa
set_option linter.unusedSimpArgs false
set_option linter.unusedVariables false
open Go.RowKit
structure Tg where
  nd : Int
  of : Int
def g0 : Tg := ⟨0, 0⟩
theorem tg_ext {a b : Tg} (h1 : a.nd = b.nd) (h2 : a.of = b.of) : a = b := by
  cases a; cases b
  simp only [Tg.mk.injEq]
  exact ⟨h1, h2⟩
instance : DecidableEq Tg := fun a b => decidable_of_iff (a.nd = b.nd ∧ a.of = b.of) ⟨fun h => tg_ext h.1 h.2, fun h => by cases h; exact ⟨rfl, rfl⟩⟩
/-- a tag comes before another one -/
def ltG (a b : Tg) : Prop := a.nd < b.nd ∨ a.nd = b.nd ∧ a.of < b.of
instance (a b : Tg) : Decidable (ltG a b) := by unfold ltG; infer_instance
theorem ltG_irr (a : Tg) : ¬ ltG a a := by unfold ltG; omega
theorem ltG_tr {a b c : Tg} (h1 : ltG a b) (h2 : ltG b c) : ltG a c := by unfold ltG at *; omega
theorem ltG_tri {a b : Tg} (h1 : ¬ ltG a b) (h2 : ¬ ltG b a) : a = b := by
  unfold ltG at *
  apply tg_ext <;> omega
abbrev gt (l : List Tg) (i : Nat) : Tg := l.getD i g0
theorem gt_at {l : List Tg} {i : Nat} (h : i < l.length) : gt l i = l[i] := by simp [gt, h]
/-- ascending, by neighbours -/
def asc (l : List Tg) : Prop := ∀ i, 0 < i → i < l.length → ltG (gt l (i - 1)) (gt l i)
instance (l : List Tg) : Decidable (asc l) := decidable_of_iff (∀ i, i < l.length → 0 < i → ltG (gt l (i - 1)) (gt l i)) ⟨fun h i h0 hi => h i hi h0, fun h i hi h0 => h i h0 hi⟩
theorem asc_far {l : List Tg} (h : asc l) : ∀ (d i : Nat), i + d + 1 < l.length → ltG (gt l i) (gt l (i + d + 1))
  | 0, i, hi => h (i + 1) (by omega) (by omega)
  | d + 1, i, hi => ltG_tr (asc_far h d i (by omega)) (h (i + (d + 1) + 1) (by omega) hi)
theorem asc_lt {l : List Tg} (h : asc l) {i j : Nat} (hij : i < j) (hj : j < l.length) : ltG (gt l i) (gt l j) := by
  obtain ⟨d, rfl⟩ : ∃ d, j = i + d + 1 := ⟨j - i - 1, by omega⟩
  exact asc_far h d i hj
/-- the place of a tag in ascending tags: the first that does not come before it -/
def plc : List Tg → Tg → Nat
  | [], _ => 0
  | x :: l, t => if ltG x t then plc l t + 1 else 0
def insG (l : List Tg) (t : Tg) : List Tg := l.take (plc l t) ++ t :: l.drop (plc l t)
theorem plc_le : ∀ (l : List Tg) (t : Tg), plc l t ≤ l.length
  | [], _ => Nat.le_refl _
  | x :: l, t => by
    unfold plc
    split
    · have := plc_le l t; simp; omega
    · omega
theorem plc_lt : ∀ (l : List Tg) (t : Tg) (i : Nat), i < plc l t → ltG (gt l i) t
  | [], _, i, h => by simp [plc] at h
  | x :: l, t, i, h => by
    unfold plc at h
    split at h
    · rename_i hx
      cases i with
      | zero => simpa [gt] using hx
      | succ i => have := plc_lt l t i (by omega); simpa [gt] using this
    · omega
theorem plc_at : ∀ (l : List Tg) (t : Tg), plc l t < l.length → ¬ ltG (gt l (plc l t)) t
  | [], _, h => by simp at h
  | x :: l, t, h => by
    unfold plc at h ⊢
    split
    · rename_i hx
      rw [if_pos hx] at h
      have := plc_at l t (by simpa using h)
      simpa [gt] using this
    · rename_i hx
      simpa [gt] using hx
/-- the place is told by what lies on its two sides -/
theorem plc_uniq {l : List Tg} (hl : asc l) {t : Tg} {k : Nat} (hk : k ≤ l.length) (h1 : ∀ i, i < k → ltG (gt l i) t) (h2 : k < l.length → ¬ ltG (gt l k) t) : k = plc l t := by
  rcases Nat.lt_trichotomy k (plc l t) with h | h | h
  · exact absurd (plc_lt l t k h) (h2 (by have := plc_le l t; omega))
  · exact h
  · exact absurd (h1 _ h) (plc_at l t (by omega))
structure Cp where
  st : Int
  tt : Int
  of : Int
  nx : Int
  tk : List Tg
  kp : List Tg
def cp0 : Cp := ⟨0, 0, 0, 0, [], []⟩
structure Ps where
  kd : Int
  fr : Int
  tt : Int
  of : Int
def p0 : Ps := ⟨0, 0, 0, 0⟩
structure Wd where
  ds : Int
  cs : List Cp
  fr : List Ps
structure Mv where
  kd : Int
  nd : Int
  ot : Int
  n : Int
abbrev gc (l : List Cp) (i : Nat) : Cp := l.getD i cp0
abbrev gp (l : List Ps) (i : Nat) : Ps := l.getD i p0
/-- a number is that of a node -/
def isN (X : Wd) (n : Int) : Prop := 1 ≤ n ∧ n ≤ (X.cs.length : Int)
instance (X : Wd) (n : Int) : Decidable (isN X n) := by unfold isN; infer_instance
/-- the copy of a node -/
def atC (X : Wd) (n : Int) : Cp := gc X.cs (n - 1).toNat
/-- a tag may be that of an offer to a node -/
def tagOK (X : Wd) (t : Tg) (tt : Int) : Prop := isN X t.nd ∧ t.nd ≠ tt ∧ 0 ≤ t.of ∧ t.of < (atC X t.nd).nx
instance (X : Wd) (t : Tg) (tt : Int) : Decidable (tagOK X t tt) := by unfold tagOK; infer_instance
def stOK (X : Wd) (n : Int) (c : Cp) : Prop := 0 ≤ c.st ∧ c.st ≤ (if n = X.ds then 4 else 3) ∧ (n = X.ds → c.st = 0 ∨ c.st = 4) ∧ 0 ≤ c.nx ∧ c.nx ≤ 1099511627776
instance (X : Wd) (n : Int) (c : Cp) : Decidable (stOK X n c) := by unfold stOK; infer_instance
def ofOK (X : Wd) (n : Int) (c : Cp) : Prop := (c.st ≠ 2 → c.tt = 0 ∧ c.of = 0) ∧ (c.st = 2 → isN X c.tt ∧ c.tt ≠ n ∧ 1 ≤ c.nx ∧ c.of = c.nx - 1)
instance (X : Wd) (n : Int) (c : Cp) : Decidable (ofOK X n c) := by unfold ofOK; infer_instance
def copOK (X : Wd) (n : Int) (c : Cp) : Prop := stOK X n c ∧ ofOK X n c ∧ asc c.tk ∧ asc c.kp ∧ (∀ t, t ∈ c.tk → tagOK X t n) ∧ (∀ t, t ∈ c.kp → t ∈ c.tk)
instance (X : Wd) (n : Int) (c : Cp) : Decidable (copOK X n c) := by unfold copOK; infer_instance
def frmOK (X : Wd) (f : Ps) : Prop := (f.kd = 3 ∧ isN X f.tt ∧ tagOK X ⟨f.fr, f.of⟩ f.tt) ∨ ((f.kd = 5 ∨ f.kd = 6) ∧ isN X f.fr ∧ tagOK X ⟨f.tt, f.of⟩ f.fr)
instance (X : Wd) (f : Ps) : Decidable (frmOK X f) := by unfold frmOK; infer_instance
/-- a valid world -/
def Okw (X : Wd) : Prop := 2 ≤ X.cs.length ∧ X.cs.length ≤ 16 ∧ isN X X.ds ∧ X.fr.length ≤ 64 ∧ (∀ i, i < X.cs.length → copOK X ((i : Int) + 1) (gc X.cs i)) ∧ (∀ f, f ∈ X.fr → frmOK X f)
instance (X : Wd) : Decidable (Okw X) := by unfold Okw; infer_instance
end Go.Proofs.Ytnkpjfogjkjcfaa
