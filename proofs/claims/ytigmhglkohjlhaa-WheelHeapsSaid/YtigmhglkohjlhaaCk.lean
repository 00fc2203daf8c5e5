


/- Timers in a heap, plainly: which lists are valid heaps; putting in, taking out, making keep them so. No program is named. -/
import Derived.Test.YtigmhglkohjlhaaHp
namespace Go.Proofs.Ytigmhglkohjlhaa
set_option linter.unusedSimpArgs false
set_option linter.unusedVariables false
open Go.RowKit

/-- the fault of a timer by itself -/
def idE (t : Tm) : Int := if t.nd < 1 ∨ 16 < t.nd ∨ 1099511627776 < t.sq ∨ t.of < 0 ∨ 19999 < t.of then 2 else 0
def valE (t : Tm) : Int := if t.tk < 0 ∨ 1099511627776 < t.tk then 2 else if t.kd < 1 ∨ 9 < t.kd then 7 else idE t
/-- two timers have one kind and one ID -/
def sameK (a b : Tm) : Prop := a.kd = b.kd ∧ a.nd = b.nd ∧ a.sq = b.sq ∧ a.of = b.of
instance (a b : Tm) : Decidable (sameK a b) := by unfold sameK; infer_instance
theorem sameK.symm {a b : Tm} (h : sameK a b) : sameK b a := ⟨h.1.symm, h.2.1.symm, h.2.2.1.symm, h.2.2.2.symm⟩
/-- the first place with that kind and ID; -1 if there is none -/
def fndN (t : Tm) : List Tm → Nat → Int
  | [], _ => -1
  | y :: l, k => if sameK y t then (k : Int) else fndN t l (k + 1)
def fnd (l : List Tm) (t : Tm) : Int := fndN t l 0
theorem fndN_none {t : Tm} : ∀ (l : List Tm) (k : Nat), (∀ y, y ∈ l → ¬ sameK y t) → fndN t l k = -1
  | [], _, _ => rfl
  | y :: l, k, h => by
    unfold fndN
    rw [if_neg (h y List.mem_cons_self)]
    exact fndN_none l (k + 1) fun z hz => h z (List.mem_cons_of_mem _ hz)
theorem fndN_at {t : Tm} : ∀ (l : List Tm) (k i : Nat), i < l.length → sameK (g l i) t → (∀ j, j < i → ¬ sameK (g l j) t) → fndN t l k = ((k + i : Nat) : Int)
  | [], _, i, hi, _, _ => by simp at hi
  | y :: l, k, 0, _, h, _ => by
    unfold fndN
    rw [if_pos (by simpa [g] using h)]
    rfl
  | y :: l, k, i + 1, hi, h, hj => by
    unfold fndN
    rw [if_neg (by have := hj 0 (by omega); simpa [g] using this), fndN_at l (k + 1) i (by simpa using hi) (by simpa [g] using h) (fun j hji => by have := hj (j + 1) (by omega); simpa [g] using this)]
    congr 1
    omega
theorem fnd_cases (l : List Tm) (t : Tm) : (fnd l t = -1 ∧ ∀ j, j < l.length → ¬ sameK (g l j) t) ∨ ∃ i : Nat, fnd l t = (i : Int) ∧ i < l.length ∧ sameK (g l i) t ∧ ∀ j, j < i → ¬ sameK (g l j) t := by
  by_cases h : ∃ i, i < l.length ∧ sameK (g l i) t
  · right
    obtain ⟨n, hn⟩ : ∃ n, n < l.length ∧ sameK (g l n) t := h
    have key : ∀ m, (∃ i, i ≤ m ∧ i < l.length ∧ sameK (g l i) t) → ∃ i, i < l.length ∧ sameK (g l i) t ∧ ∀ j, j < i → ¬ sameK (g l j) t := by
      intro m
      induction m with
      | zero =>
        rintro ⟨i, hi, h1, h2⟩
        obtain rfl : i = 0 := by omega
        exact ⟨0, h1, h2, fun j hj => by omega⟩
      | succ m ih =>
        rintro ⟨i, hi, h1, h2⟩
        by_cases hm : ∃ i, i ≤ m ∧ i < l.length ∧ sameK (g l i) t
        · exact ih hm
        · exact ⟨i, h1, h2, fun j hj hx => hm ⟨j, by omega, by omega, hx⟩⟩
    obtain ⟨i, h1, h2, h3⟩ := key n ⟨n, Nat.le_refl _, hn.1, hn.2⟩
    refine ⟨i, ?_, h1, h2, h3⟩
    unfold fnd
    rw [fndN_at l 0 i h1 h2 h3, Nat.zero_add]
  · left
    have h2 : ∀ j, j < l.length → ¬ sameK (g l j) t := fun j hj hx => h ⟨j, hj, hx⟩
    refine ⟨fndN_none _ _ fun y hy => ?_, h2⟩
    obtain ⟨j, hj, rfl⟩ := List.getElem_of_mem hy
    have := h2 j hj
    rwa [g_at hj] at this
theorem fnd_lt {l : List Tm} {i : Nat} (hi : i < l.length) : fnd l (g l i) < (i : Int) ↔ 0 ≤ fnd (l.take i) (g l i) := by
  rcases fnd_cases (l.take i) (g l i) with ⟨h1, h2⟩ | ⟨j, h1, h2, h3, h4⟩
  · rw [h1]
    have hn : ∀ j, j < i → ¬ sameK (g l j) (g l i) := fun j hj => by
      have := h2 j (by rw [List.length_take]; omega)
      rwa [g_take hj] at this
    have : fnd l (g l i) = (i : Int) := by
      unfold fnd
      rw [fndN_at l 0 i hi ⟨rfl, rfl, rfl, rfl⟩ hn, Nat.zero_add]
    omega
  · rw [List.length_take] at h2
    have hji : j < i := by omega
    have : fnd l (g l i) = (j : Int) := by
      unfold fnd
      rw [fndN_at l 0 j (by omega) (by rwa [g_take hji] at h3) (fun m hm => by have := h4 m hm; rwa [g_take (by omega)] at this), Nat.zero_add]
    omega
/-- the fault of timer i in its place -/
def stpE (l : List Tm) (i : Nat) : Int := if valE (g l i) ≠ 0 then valE (g l i) else if 0 ≤ fnd (l.take i) (g l i) then 9 else if 0 < i ∧ ltT (g l i) (g l ((i - 1) / 2)) then 19 else 0
def scanW (l : List Tm) : Nat → Int × Int
  | 0 => (0, 0)
  | k + 1 => if (scanW l k).1 ≠ 0 then scanW l k else if stpE l k ≠ 0 then (stpE l k, k) else (0, 0)
def chkW (l : List Tm) : Int × Int := if 1000 < l.length then (5, 0) else scanW l l.length
theorem scanW_zero {l : List Tm} : ∀ k, (∀ j, j < k → stpE l j = 0) → scanW l k = (0, 0)
  | 0, _ => rfl
  | k + 1, h => by
    unfold scanW
    rw [scanW_zero k fun j hj => h j (by omega), if_neg (by simp), if_neg (by rw [h k (by omega)]; simp)]
theorem scanW_fail {l : List Tm} {k : Nat} (h : ∀ j, j < k → stpE l j = 0) (hk : stpE l k ≠ 0) : ∀ n, k < n → scanW l n = (stpE l k, (k : Int))
  | 0, h0 => by omega
  | n + 1, hn => by
    unfold scanW
    by_cases he : k = n
    · subst he
      rw [scanW_zero k h, if_neg (by simp), if_pos hk]
    · rw [scanW_fail h hk n (by omega), if_pos hk]
theorem scanW_ok {l : List Tm} : ∀ k, (scanW l k).1 = 0 → ∀ j, j < k → stpE l j = 0
  | 0, _, j, hj => by omega
  | k + 1, h, j, hj => by
    unfold scanW at h
    by_cases h1 : (scanW l k).1 ≠ 0
    · rw [if_pos h1] at h; exact absurd h h1
    · rw [if_neg h1] at h
      by_cases h2 : stpE l k ≠ 0
      · rw [if_pos h2] at h; exact absurd h h2
      · by_cases hjk : j = k
        · subst hjk; simpa using h2
        · exact scanW_ok k (by simpa using h1) j (by omega)
/-- all timers are valid, and no two have one kind and one ID -/
def Own (l : List Tm) : Prop := (∀ t, t ∈ l → valE t = 0) ∧ l.Pairwise (fun a b => ¬ sameK a b)
/-- a valid heap -/
def Good (l : List Tm) : Prop := l.length ≤ 1000 ∧ Own l ∧ hp l
theorem pair_get {l : List Tm} (h : l.Pairwise (fun a b => ¬ sameK a b)) {i j : Nat} (hij : i < j) (hj : j < l.length) : ¬ sameK (g l i) (g l j) := by
  rw [g_at (show i < l.length by omega), g_at hj]
  exact List.pairwise_iff_getElem.1 h i j (by omega) hj hij
theorem good_iff {l : List Tm} : (chkW l).1 = 0 ↔ Good l := by
  unfold chkW
  by_cases h1 : 1000 < l.length
  · rw [if_pos h1]
    exact ⟨(fun h => by cases h), (fun h => absurd h.1 (by omega))⟩
  · rw [if_neg h1]
    refine ⟨fun h => ?_, fun h => ?_⟩
    · have hs := scanW_ok _ h
      have hv : ∀ i, i < l.length → valE (g l i) = 0 ∧ ¬ 0 ≤ fnd (l.take i) (g l i) ∧ ¬ (0 < i ∧ ltT (g l i) (g l ((i - 1) / 2))) := fun i hi => by
        have := hs i hi
        unfold stpE at this
        by_cases c1 : valE (g l i) ≠ 0
        · rw [if_pos c1] at this; exact absurd this c1
        rw [if_neg c1] at this
        by_cases c2 : 0 ≤ fnd (l.take i) (g l i)
        · rw [if_pos c2] at this; cases this
        rw [if_neg c2] at this
        by_cases c3 : 0 < i ∧ ltT (g l i) (g l ((i - 1) / 2))
        · rw [if_pos c3] at this; cases this
        exact ⟨by simpa using c1, c2, c3⟩
      refine ⟨by omega, ⟨fun t ht => ?_, List.pairwise_iff_getElem.2 fun i j hi hj hij hx => ?_⟩, fun k hk0 hkl hx => (hv k hkl).2.2 ⟨hk0, hx⟩⟩
      · obtain ⟨i, hi, rfl⟩ := List.getElem_of_mem ht
        rw [← g_at hi]
        exact (hv i hi).1
      · rw [← g_at hi, ← g_at hj] at hx
        rcases fnd_cases (l.take j) (g l j) with ⟨_, h2⟩ | ⟨m, h2, _⟩
        · have := h2 i (by rw [List.length_take]; omega)
          rw [g_take hij] at this
          exact this hx
        · exact (hv j hj).2.1 (by rw [h2]; omega)
    · obtain ⟨_, ⟨hv, hd⟩, hh⟩ := h
      rw [scanW_zero]
      intro i hi
      unfold stpE
      rw [if_neg (by rw [g_at hi, hv _ (List.getElem_mem hi)]; simp)]
      rw [if_neg (fun h => ?_), if_neg (fun h => hh i h.1 hi h.2)]
      rcases fnd_cases (l.take i) (g l i) with ⟨h2, _⟩ | ⟨m, _, h3, h4, _⟩
      · rw [h2] at h; omega
      · rw [List.length_take] at h3
        rw [g_take (by omega)] at h4
        exact pair_get hd (by omega) hi h4
theorem chk_good {l : List Tm} (h : Good l) : chkW l = (0, 0) := by
  have h1 := good_iff.2 h
  unfold chkW at h1 ⊢
  by_cases h2 : 1000 < l.length
  · rw [if_pos h2] at h1; cases h1
  · rw [if_neg h2] at h1 ⊢
    exact scanW_zero _ (scanW_ok _ h1)
theorem Own.perm {l m : List Tm} (h : Own l) (hp : l.Perm m) : Own m :=
  ⟨fun t ht => h.1 t (hp.mem_iff.2 ht), hp.pairwise h.2 (fun hx hy => hx hy.symm)⟩
/-- the error of putting a timer in -/
def putE (l : List Tm) (t : Tm) : Int := if valE t ≠ 0 then valE t else if 0 ≤ fnd l t then 9 else if l.length = 1000 then 5 else 0
theorem put_good {l : List Tm} (h : Good l) {t : Tm} (he : putE l t = 0) : Good (putL l t) := by
  unfold putE at he
  by_cases c1 : valE t ≠ 0
  · rw [if_pos c1] at he; exact absurd he c1
  rw [if_neg c1] at he
  by_cases c2 : 0 ≤ fnd l t
  · rw [if_pos c2] at he; cases he
  rw [if_neg c2] at he
  by_cases c3 : l.length = 1000
  · rw [if_pos c3] at he; cases he
  obtain ⟨h1, h2, h3⟩ := h
  refine ⟨by rw [put_len]; omega, Own.perm ⟨fun x hx => ?_, ?_⟩ (put_perm l t).symm, put_hp h3 t⟩
  · rcases List.mem_cons.1 hx with rfl | hx
    · simpa using c1
    · exact h2.1 x hx
  · refine List.pairwise_cons.2 ⟨fun b hb hx => ?_, h2.2⟩
    obtain ⟨j, hj, rfl⟩ := List.getElem_of_mem hb
    rcases fnd_cases l t with ⟨_, h5⟩ | ⟨m, h5, _⟩
    · exact h5 j hj (by rw [g_at hj]; exact hx.symm)
    · exact c2 (by rw [h5]; omega)
theorem out_good {l : List Tm} (h : Good l) {i : Nat} (hi : i < l.length) : Good (outL l i) := by
  obtain ⟨h1, h2, h3⟩ := h
  have h4 := h2.perm (out_perm hi).symm
  exact ⟨by rw [out_len]; omega, ⟨fun t ht => h4.1 t (List.mem_cons_of_mem _ ht), (List.pairwise_cons.1 h4.2).2⟩, out_hp h3 hi⟩
/-- what Make makes -/
def mkF (l : List Tm) : Nat → List Tm × Int
  | 0 => ([], 0)
  | k + 1 => if (mkF l k).2 ≠ 0 then ([], (mkF l k).2) else if putE (mkF l k).1 (g l k) ≠ 0 then ([], putE (mkF l k).1 (g l k)) else (putL (mkF l k).1 (g l k), 0)
def mkL (l : List Tm) : List Tm × Int := mkF l l.length
theorem mkF_good (l : List Tm) : ∀ k, Good (mkF l k).1
  | 0 => ⟨by simp [mkF], ⟨fun t ht => by simp [mkF] at ht, by simp [mkF]⟩, fun k hk hl => by simp [mkF] at hl⟩
  | k + 1 => by
    unfold mkF
    split
    · exact ⟨by simp, ⟨fun t ht => by simp at ht, by simp⟩, fun k hk hl => by simp at hl⟩
    · split
      · exact ⟨by simp, ⟨fun t ht => by simp at ht, by simp⟩, fun k hk hl => by simp at hl⟩
      · rename_i h
        exact put_good (mkF_good l k) (by simpa using h)
theorem mkF_fail {l : List Tm} {k : Nat} (h : (mkF l k).2 ≠ 0) : ∀ n, k ≤ n → mkF l n = ([], (mkF l k).2)
  | 0, hk => by
    obtain rfl : k = 0 := by omega
    exact absurd rfl h
  | n + 1, hk => by
    by_cases he : k = n + 1
    · subst he
      obtain ⟨x, hx⟩ : ∃ x, mkF l (n + 1) = x := ⟨_, rfl⟩
      have h2 : (mkF l (n + 1)).1 = [] := by
        unfold mkF at h ⊢
        split
        · rfl
        · rename_i c1
          rw [if_neg c1] at h
          split
          · rfl
          · rename_i c2
            rw [if_neg c2] at h
            exact absurd rfl h
      exact Prod.ext h2 rfl
    · have ih := mkF_fail h n (by omega)
      show (if (mkF l n).2 ≠ 0 then _ else _) = _
      rw [ih, if_pos h]
end Go.Proofs.Ytigmhglkohjlhaa
