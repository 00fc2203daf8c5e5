


/- Routes plainly: the best route. No program is named. -/
import Derived.Test.YtgmfifilgbbogaaRT1
namespace Go.Proofs.Ytgmfifilgbbogaa
set_option linter.unusedSimpArgs false
set_option linter.unusedVariables false

/-- k hops lead on in time -/
def gdP (cs : List Ct) (n v E : Int) (k : Nat) (u t : Int) : Prop := ∃ l s, l.length = k ∧ walkP cs n l u t = some (v, s) ∧ s ≤ E
/-- contact i is a first hop of such a way -/
def okI (cs : List Ct) (n v E : Int) (k : Nat) (u t : Int) (i : Nat) : Prop := (cs.getD i c0).fr = u ∧ ∃ s, hopO (cs.getD i c0) t n = some s ∧ gdP cs n v E k (cs.getD i c0).dt s
theorem gdP_zero {cs : List Ct} {n v E u t : Int} : gdP cs n v E 0 u t ↔ u = v ∧ t ≤ E := by
  constructor
  · rintro ⟨l, s, hl, hw, hs⟩
    obtain rfl : l = [] := List.length_eq_zero_iff.1 hl
    simp only [walkP, Option.some.injEq, Prod.mk.injEq] at hw
    exact ⟨hw.1, by omega⟩
  · rintro ⟨rfl, h⟩
    exact ⟨[], t, rfl, rfl, h⟩
theorem gdP_succ {cs : List Ct} {n v E u t : Int} {k : Nat} : gdP cs n v E (k + 1) u t ↔ ∃ i, i < cs.length ∧ okI cs n v E k u t i := by
  constructor
  · rintro ⟨l, s, hl, hw, hs⟩
    cases l with
    | nil => cases hl
    | cons i l =>
      obtain ⟨hi, hu, r, hr, hw⟩ := walk_cons hw
      exact ⟨i, hi, hu, r, hr, l, s, by simpa using hl, hw, hs⟩
  · rintro ⟨i, hi, hu, r, hr, l, s, hl, hw, hs⟩
    exact ⟨i :: l, s, by simp [hl], walk_step hi hu hr hw, hs⟩
theorem gdP_mono {cs : List Ct} {n v E u t t' : Int} {k : Nat} (htt : t ≤ t') (h : gdP cs n v E k u t') : gdP cs n v E k u t := by
  obtain ⟨l, s, hl, hw, hs⟩ := h
  obtain ⟨r, hr, hrs⟩ := walk_mono _ _ _ _ _ _ htt hw
  exact ⟨l, r, hl, hr, by omega⟩
/-- the first ways on -/
def Grd (cs : List Ct) (n v E : Int) : Nat → Int → Int → List Nat → Prop
  | 0, u, t, l => l = []
  | k + 1, u, t, l => ∃ i m s, l = i :: m ∧ i < cs.length ∧ (cs.getD i c0).fr = u ∧ hopO (cs.getD i c0) t n = some s ∧ gdP cs n v E k (cs.getD i c0).dt s ∧ (∀ j, j < i → ¬ okI cs n v E k u t j) ∧ Grd cs n v E k (cs.getD i c0).dt s m
theorem first_of {p : Nat → Prop} : ∀ (N : Nat), (∃ i, i < N ∧ p i) → ∃ i, i < N ∧ p i ∧ ∀ j, j < i → ¬ p j := by
  intro N
  induction N with
  | zero => rintro ⟨i, hi, _⟩; omega
  | succ N ih =>
    rintro ⟨i, hi, hp⟩
    by_cases h : ∃ j, j < N ∧ p j
    · obtain ⟨j, hj, h1, h2⟩ := ih h
      exact ⟨j, by omega, h1, h2⟩
    · refine ⟨i, hi, hp, fun j hj hpj => h ⟨j, by omega, hpj⟩⟩
theorem grd_ex {cs : List Ct} {n v E : Int} : ∀ (k : Nat) (u t : Int), gdP cs n v E k u t → ∃ l, Grd cs n v E k u t l := by
  intro k
  induction k with
  | zero => intro u t _; exact ⟨[], rfl⟩
  | succ k ih =>
    intro u t h
    obtain ⟨i, hi, ⟨hu, s, hs, hg⟩, hf⟩ := first_of cs.length (gdP_succ.1 h)
    obtain ⟨m, hm⟩ := ih _ _ hg
    exact ⟨i :: m, i, m, s, rfl, hi, hu, hs, hg, hf, hm⟩
theorem grd_len {cs : List Ct} {n v E : Int} : ∀ (k : Nat) (u t : Int) (l : List Nat), Grd cs n v E k u t l → l.length = k := by
  intro k
  induction k with
  | zero => intro u t l h; rw [show l = [] from h]; rfl
  | succ k ih =>
    rintro u t l ⟨i, m, s, rfl, _, _, _, _, _, h⟩
    rw [List.length_cons, ih _ _ _ h]
theorem grd_walk {cs : List Ct} {n v E : Int} : ∀ (k : Nat) (u t : Int) (l : List Nat), gdP cs n v E k u t → Grd cs n v E k u t l → ∃ s, walkP cs n l u t = some (v, s) ∧ s ≤ E := by
  intro k
  induction k with
  | zero =>
    intro u t l hg h
    rw [show l = [] from h]
    obtain ⟨rfl, h2⟩ := gdP_zero.1 hg
    exact ⟨t, rfl, h2⟩
  | succ k ih =>
    rintro u t l hg ⟨i, m, s, rfl, hi, hu, hs, hgk, _, h⟩
    obtain ⟨r, hr, hle⟩ := ih _ _ _ hgk h
    exact ⟨r, walk_step hi hu hs hr, hle⟩
theorem grd_uniq {cs : List Ct} {n v E : Int} : ∀ (k : Nat) (u t : Int) (l m : List Nat), Grd cs n v E k u t l → Grd cs n v E k u t m → l = m := by
  intro k
  induction k with
  | zero => intro u t l m h1 h2; rw [show l = [] from h1, show m = [] from h2]
  | succ k ih =>
    rintro u t l m ⟨i, l', s, rfl, hi, hu, hs, hgk, hf, h⟩ ⟨i', m', s', rfl, hi', hu', hs', hgk', hf', h'⟩
    have e : i = i' := by
      rcases Nat.lt_trichotomy i i' with hlt | he | hlt
      · exact absurd ⟨hu, s, hs, hgk⟩ (hf' i hlt)
      · exact he
      · exact absurd ⟨hu', s', hs', hgk'⟩ (hf i' hlt)
    subst e
    rw [hs] at hs'
    simp only [Option.some.injEq] at hs'
    subst hs'
    rw [ih _ _ _ _ h h']

/-- the best route: E its arrival, h its hops, l its contacts -/
structure BestR (cs : List Ct) (n u t v : Int) (E : Int) (h : Nat) (l : List Nat) : Prop where
  least : Least cs n u t v E
  nn : 0 ≤ E
  good : gdP cs n v E h u t
  few : ∀ k, k < h → ¬ gdP cs n v E k u t
  grd : Grd cs n v E h u t l
theorem few_ex {cs : List Ct} {n u t v E : Int} (h : Arr cs n u t v E) : ∃ k, gdP cs n v E k u t ∧ ∀ j, j < k → ¬ gdP cs n v E j u t := by
  obtain ⟨l, hw⟩ := h
  obtain ⟨k, _, h1, h2⟩ := first_of (l.length + 1) (p := fun k => gdP cs n v E k u t) ⟨l.length, by omega, l, E, rfl, hw, Int.le_refl _⟩
  exact ⟨k, h1, h2⟩
theorem best_ex {cs : List Ct} {n u t v E : Int} (hl : Least cs n u t v E) (hE : 0 ≤ E) : ∃ h l, BestR cs n u t v E h l := by
  rcases hl with ⟨h1, _⟩ | ⟨_, h1, h2⟩
  · omega
  · obtain ⟨k, hk, hf⟩ := few_ex h1
    obtain ⟨l, hl⟩ := grd_ex k u t hk
    exact ⟨k, l, .inr ⟨hE, h1, h2⟩, hE, hk, hf, hl⟩
theorem BestR.all {cs : List Ct} {n u t v E : Int} {h : Nat} {l : List Nat} (b : BestR cs n u t v E h l) : ∀ s, Arr cs n u t v s → E ≤ s := by
  rcases b.least with ⟨h1, _⟩ | ⟨_, _, h2⟩
  · have := b.nn; omega
  · exact h2
theorem BestR.walk {cs : List Ct} {n u t v E : Int} {h : Nat} {l : List Nat} (b : BestR cs n u t v E h l) : walkP cs n l u t = some (v, E) := by
  obtain ⟨s, hs, hle⟩ := grd_walk h u t l b.good b.grd
  have := b.all s ⟨l, hs⟩
  rw [hs, show s = E by omega]
theorem BestR.len {cs : List Ct} {n u t v E : Int} {h : Nat} {l : List Nat} (b : BestR cs n u t v E h l) : l.length = h := grd_len _ _ _ _ b.grd
theorem BestR.few15 {cs : List Ct} {n u t v E : Int} {h : Nat} {l : List Nat} (hp : okP cs) (hn : 1 ≤ n) (hu : 1 ≤ u ∧ u ≤ 16) (b : BestR cs n u t v E h l) : h ≤ 15 := by
  obtain ⟨l', r, h1, h2, h3, h4⟩ := walk_short hp hn _ l u t v E (Nat.le_refl _) hu b.walk
  have : ¬ l'.length < h := fun hlt => b.few _ hlt ⟨l', r, rfl, h3, h4⟩
  omega
theorem BestR.simple {cs : List Ct} {n u t v E : Int} {h : Nat} {l : List Nat} (hp : okP cs) (hn : 1 ≤ n) (b : BestR cs n u t v E h l) : (u :: ndl cs l).Nodup := by
  refine Decidable.byContradiction fun hd => ?_
  obtain ⟨l', r, h1, h2, h3⟩ := cut_dup hp hn _ _ _ _ _ b.walk hd
  rw [b.len] at h1
  exact b.few _ h1 ⟨l', r, rfl, h2, h3⟩
/-- fewest hops, as the reference looks for them -/
theorem BestR.hops {cs : List Ct} {n u t v E : Int} {h : Nat} {l : List Nat} (hp : okP cs) (hn : 1 ≤ n) (hu : 1 ≤ u ∧ u ≤ 16) (ht : 0 ≤ t) (b : BestR cs n u t v E h l) (hv : 0 ≤ v) (k : Nat) : gI (rchL cs n u t k) v = E ↔ h ≤ k := by
  have hr := rch_all hp hn hu ht k (cs := cs)
  constructor
  · intro he
    rcases hr.2.1 v hv with h1 | ⟨h1, m, hm, hw⟩
    · have := b.nn; omega
    · refine Decidable.byContradiction fun hk => b.few m.length (by omega) ⟨m, _, rfl, hw, by omega⟩
  · intro hk
    have h1 := hr.2.2 v E l (by rw [b.len]; exact hk) b.walk
    rcases hr.2.1 v hv with h2 | ⟨h2, m, hm, hw⟩
    · omega
    · have := b.all _ ⟨m, hw⟩; omega
/-- the reference's test: from where i leads, with at most k hops, the earliest arrival is E -/
theorem BestR.test {cs : List Ct} {n u t v E : Int} {h : Nat} {l : List Nat} (hp : okP cs) (hn : 1 ≤ n) (b : BestR cs n u t v E h l) (hv : 0 ≤ v) {m : List Nat} {x s : Int} (hm : walkP cs n m u t = some (x, s)) (hx : 1 ≤ x ∧ x ≤ 16) (hs : 0 ≤ s) {k : Nat} (hk : m.length + k = h) : gI (rchL cs n x s k) v = E ↔ gdP cs n v E k x s := by
  have hr := rch_all hp hn hx hs k (cs := cs)
  constructor
  · intro he
    rcases hr.2.1 v hv with h1 | ⟨h1, q, hq, hw⟩
    · have := b.nn; omega
    · by_cases hqk : q.length = k
      · exact ⟨q, _, hqk, hw, by omega⟩
      · exact absurd ⟨m ++ q, _, rfl, walk_app' hm hw, by omega⟩ (b.few (m ++ q).length (by rw [List.length_append]; omega))
  · rintro ⟨q, r, hq, hw, hrE⟩
    have h1 := hr.2.2 v r q (by omega) hw
    rcases hr.2.1 v hv with h2 | ⟨h2, p, hp2, hw2⟩
    · omega
    · have := b.all _ ⟨m ++ p, walk_app' hm hw2⟩
      omega

/-! the program's way back: the latest ticks -/
def lateT (c : Ct) (n E : Int) : Int := if E = -1 ∨ min (E - c.dl) c.en - need c n < c.st then -1 else min (E - c.dl) c.en - need c n
theorem late_iff {c : Ct} {n E t : Int} (h : okC c) (hn : 1 ≤ n) (hE : -1 ≤ E) (ht : 0 ≤ t) : t ≤ lateT c n E ↔ ∃ s, hopO c t n = some s ∧ s ≤ E := by
  have hnd := need_pos h hn
  obtain ⟨_, _, _, h0, _, _, _, _, h2, h3⟩ := h
  unfold lateT hopO
  constructor
  · intro hl
    split at hl
    · omega
    · rename_i hx
      exact ⟨max t c.st + need c n + c.dl, by rw [if_pos (by omega)], by omega⟩
  · rintro ⟨s, hs, hle⟩
    split at hs
    · simp only [Option.some.injEq] at hs
      rw [if_neg (by omega)]
      omega
    · cases hs
def bkR (n : Int) (last now : List Int) (c : Ct) : List Int := now.set c.fr.toNat (max (gI now c.fr) (lateT c n (gI last c.dt)))
def bkL (cs : List Ct) (n v E : Int) : Nat → List Int
  | 0 => ini v E
  | k + 1 => cs.foldl (bkR n (bkL cs n v E k)) (List.replicate 17 (-1))
/-- the latest ticks from which k hops lead on in time -/
def Bk0 (cs : List Ct) (n v E : Int) (k : Nat) (l : List Int) : Prop := l.length = 17 ∧ (∀ x, 0 ≤ x → -1 ≤ gI l x) ∧ ∀ x t, 0 ≤ x → 0 ≤ t → (t ≤ gI l x ↔ gdP cs n v E k x t)
structure Bin (cs : List Ct) (n v E : Int) (k : Nat) (now : List Int) (j : Nat) : Prop where
  len : now.length = 17
  ge : ∀ x, 0 ≤ x → -1 ≤ gI now x
  iff : ∀ x t, 0 ≤ x → 0 ≤ t → (t ≤ gI now x ↔ ∃ i, i < j ∧ okI cs n v E k x t i)
theorem late_ge {c : Ct} {n E : Int} (h : okC c) : -1 ≤ lateT c n E := by
  obtain ⟨_, _, _, h0, _⟩ := h
  unfold lateT
  split <;> omega
theorem rep_at (x : Int) : gI (List.replicate 17 (-1 : Int)) x = -1 := by
  unfold gI
  rw [List.getD_eq_getElem?_getD, List.getElem?_replicate]
  split <;> rfl
theorem bk_ini {cs : List Ct} {n v E : Int} (hv : 1 ≤ v ∧ v ≤ 16) (hE : 0 ≤ E) : Bk0 cs n v E 0 (ini v E) := by
  refine ⟨by unfold ini; simp, fun x hx => ?_, fun x t hx ht => ?_⟩
  · rw [ini_at hv hx]
    split <;> omega
  · rw [ini_at hv hx, gdP_zero]
    split
    · rename_i e
      exact ⟨fun h => ⟨e.symm, h⟩, fun h => h.2⟩
    · rename_i e
      exact ⟨fun h => by omega, fun h => absurd h.1.symm e⟩
theorem bin_step {cs : List Ct} {n v E : Int} {k : Nat} {last now : List Int} {j : Nat} (hp : okP cs) (hn : 1 ≤ n) (hb : Bk0 cs n v E k last) (hi : Bin cs n v E k now j) (hj : j < cs.length) : Bin cs n v E k (bkR n last now (cs.getD j c0)) (j + 1) := by
  have hok := hp.at hj
  have hf := hok.1
  have hd := hok.2.1
  have hlen : (cs.getD j c0).fr.toNat < now.length := by rw [hi.len]; omega
  unfold bkR
  refine ⟨by rw [List.length_set]; exact hi.len, fun x hx => ?_, fun x t hx ht => ?_⟩
  · rw [gI_set (by omega) hlen hx]
    split
    · have := hi.ge (cs.getD j c0).fr (by omega); omega
    · exact hi.ge x hx
  · have hnew : t ≤ lateT (cs.getD j c0) n (gI last (cs.getD j c0).dt) ↔ ∃ s, hopO (cs.getD j c0) t n = some s ∧ gdP cs n v E k (cs.getD j c0).dt s := by
      rw [late_iff hok hn (hb.2.1 _ (by omega)) ht]
      constructor
      · rintro ⟨s, hs, hle⟩
        have := (hop_gt hok hn hs).2
        exact ⟨s, hs, (hb.2.2 _ s (by omega) (by omega)).1 hle⟩
      · rintro ⟨s, hs, hg⟩
        have := (hop_gt hok hn hs).2
        exact ⟨s, hs, (hb.2.2 _ s (by omega) (by omega)).2 hg⟩
    rw [gI_set (by omega) hlen hx]
    split
    · rename_i e
      constructor
      · intro h
        by_cases h1 : t ≤ gI now (cs.getD j c0).fr
        · rw [e] at h1
          obtain ⟨i, hij, hi2⟩ := (hi.iff x t hx ht).1 h1
          exact ⟨i, by omega, hi2⟩
        · exact ⟨j, by omega, e, hnew.1 (by omega)⟩
      · rintro ⟨i, hij, hi2⟩
        rcases Nat.lt_succ_iff_lt_or_eq.1 hij with hij | rfl
        · have := (hi.iff x t hx ht).2 ⟨i, hij, hi2⟩
          rw [← e] at this
          omega
        · have := hnew.2 hi2.2
          omega
    · rename_i e
      rw [hi.iff x t hx ht]
      constructor
      · rintro ⟨i, hij, hi2⟩
        exact ⟨i, by omega, hi2⟩
      · rintro ⟨i, hij, hi2⟩
        rcases Nat.lt_succ_iff_lt_or_eq.1 hij with hij | rfl
        · exact ⟨i, hij, hi2⟩
        · exact absurd hi2.1 e
theorem bin_zero {cs : List Ct} {n v E : Int} {k : Nat} : Bin cs n v E k (List.replicate 17 (-1)) 0 := by
  refine ⟨by simp, fun x hx => by rw [rep_at]; exact Int.le_refl _, fun x t hx ht => ?_⟩
  rw [rep_at]
  exact ⟨fun h => by omega, fun ⟨i, hi, _⟩ => absurd hi (Nat.not_lt_zero _)⟩
theorem bin_end {cs : List Ct} {n v E : Int} {k : Nat} {now : List Int} (hi : Bin cs n v E k now cs.length) : Bk0 cs n v E (k + 1) now :=
  ⟨hi.len, hi.ge, fun x t hx ht => by rw [hi.iff x t hx ht, gdP_succ]⟩
theorem bin_fold {cs : List Ct} {n v E : Int} {k : Nat} {last : List Int} (hp : okP cs) (hn : 1 ≤ n) (hb : Bk0 cs n v E k last) : ∀ j, j ≤ cs.length → Bin cs n v E k ((cs.take j).foldl (bkR n last) (List.replicate 17 (-1))) j := by
  intro j
  induction j with
  | zero => intro _; exact bin_zero
  | succ j ih =>
    intro hj
    have h1 := bin_step hp hn hb (ih (by omega)) (by omega)
    rw [List.take_succ_eq_append_getElem (by omega), List.foldl_append]
    have e : cs.getD j c0 = cs[j] := by rw [List.getD_eq_getElem?_getD, List.getElem?_eq_getElem (by omega)]; rfl
    rw [e] at h1
    exact h1
theorem bk_all {cs : List Ct} {n v E : Int} (hp : okP cs) (hn : 1 ≤ n) (hv : 1 ≤ v ∧ v ≤ 16) (hE : 0 ≤ E) : ∀ k, Bk0 cs n v E k (bkL cs n v E k) := by
  intro k
  induction k with
  | zero => exact bk_ini hv hE
  | succ k ih =>
    have := bin_fold hp hn ih cs.length (Nat.le_refl _)
    rw [List.take_length] at this
    exact bin_end this

/-! the order of routes -/
def lexI : List Int → List Int → Int
  | a :: l, b :: m => if a < b then -1 else if b < a then 1 else lexI l m
  | _, _ => 0
def cmpR (a : Int) (l : List Int) (b : Int) (m : List Int) : Int := if a < b then -1 else if b < a then 1 else if l.length < m.length then -1 else if m.length < l.length then 1 else lexI l m
abbrev ints (l : List Nat) : List Int := l.map fun (i : Nat) => (i : Int)
theorem lex_anti : ∀ (l m : List Int), lexI l m = - lexI m l := by
  intro l
  induction l with
  | nil => intro m; cases m <;> rfl
  | cons a l ih =>
    intro m
    cases m with
    | nil => rfl
    | cons b m =>
      simp only [lexI]
      by_cases h1 : a < b
      · rw [if_pos h1, if_neg (by omega), if_pos h1]
      · rw [if_neg h1]
        by_cases h2 : b < a
        · rw [if_pos h2, if_pos h2]; rfl
        · rw [if_neg h2, if_neg h2, if_neg h1, ih]
theorem lex_zero : ∀ (l m : List Int), l.length = m.length → lexI l m = 0 → l = m := by
  intro l
  induction l with
  | nil => intro m h _; exact (List.length_eq_zero_iff.1 h.symm).symm
  | cons a l ih =>
    intro m hl h
    cases m with
    | nil => cases hl
    | cons b m =>
      simp only [lexI] at h
      split at h
      · cases h
      · split at h
        · cases h
        · rw [ih m (by simpa using hl) h, show a = b by omega]
theorem cmpR_anti (a : Int) (l : List Int) (b : Int) (m : List Int) : cmpR a l b m = - cmpR b m a l := by
  unfold cmpR
  by_cases h1 : a < b
  · rw [if_pos h1, if_neg (by omega), if_pos h1]
  · rw [if_neg h1]
    by_cases h2 : b < a
    · rw [if_pos h2, if_pos h2]; rfl
    · rw [if_neg h2, if_neg h2, if_neg h1]
      by_cases h3 : l.length < m.length
      · rw [if_pos h3, if_neg (by omega), if_pos h3]
      · rw [if_neg h3]
        by_cases h4 : m.length < l.length
        · rw [if_pos h4, if_pos h4]; rfl
        · rw [if_neg h4, if_neg h4, if_neg h3]
          exact lex_anti l m
theorem cmpR_eq {a b : Int} {l m : List Int} (h1 : cmpR a l b m ≤ 0) (h2 : cmpR b m a l ≤ 0) : a = b ∧ l = m := by
  have h3 : cmpR a l b m = 0 := by have := cmpR_anti a l b m; omega
  unfold cmpR at h3
  split at h3
  · cases h3
  · split at h3
    · cases h3
    · split at h3
      · cases h3
      · split at h3
        · cases h3
        · exact ⟨by omega, lex_zero l m (by omega) h3⟩
theorem grd_lex {cs : List Ct} {n v E : Int} : ∀ (k : Nat) (u t : Int) (l m : List Nat) (s : Int), Grd cs n v E k u t l → m.length = k → walkP cs n m u t = some (v, s) → s ≤ E → lexI (ints l) (ints m) ≤ 0 := by
  intro k
  induction k with
  | zero => intro u t l m s h _ _ _; rw [show l = [] from h]; exact Int.le_refl _
  | succ k ih =>
    rintro u t l m s ⟨i, l', r, rfl, hi, hu, hr, hg, hf, h⟩ hm hw hs
    cases m with
    | nil => cases hm
    | cons j m =>
      obtain ⟨hj, hju, q, hq, hwm⟩ := walk_cons hw
      show (if (i : Int) < (j : Int) then -1 else if (j : Int) < (i : Int) then 1 else lexI (ints l') (ints m)) ≤ 0
      split
      · omega
      · split
        · exact absurd ⟨hju, q, hq, m, s, by simpa using hm, hwm, hs⟩ (hf j (by omega))
        · obtain rfl : i = j := by omega
          rw [hr] at hq
          simp only [Option.some.injEq] at hq
          subst hq
          exact ih _ _ _ _ s h (by simpa using hm) hwm hs
/-- no route is before the best one -/
theorem BestR.min {cs : List Ct} {n u t v E : Int} {h : Nat} {l : List Nat} (b : BestR cs n u t v E h l) {m : List Nat} {s : Int} (hw : walkP cs n m u t = some (v, s)) : cmpR E (ints l) s (ints m) ≤ 0 := by
  have h1 := b.all s ⟨m, hw⟩
  unfold cmpR
  split
  · omega
  · rw [if_neg (by omega)]
    have hlm : ¬ m.length < h := fun hlt => b.few _ hlt ⟨m, s, rfl, hw, by omega⟩
    simp only [ints, List.length_map, b.len]
    split
    · omega
    · try rw [if_neg hlm]
      exact grd_lex h u t l m s b.grd (by omega) hw (by omega)
end Go.Proofs.Ytgmfifilgbbogaa
