


/- Routes plainly: hops, walks, earliest arrivals. No program is named. -/
import Derived.Test.YtgmfifilgbbogaaG
namespace Go.Proofs.Ytgmfifilgbbogaa
set_option linter.unusedSimpArgs false
set_option linter.unusedVariables false

def need (c : Ct) (n : Int) : Int := (n + c.rt - 1) / c.rt
/-- the arrival of a hop -/
def hopO (c : Ct) (t n : Int) : Option Int := if max t c.st + need c n ≤ c.en then some (max t c.st + need c n + c.dl) else none
theorem need_pos {c : Ct} {n : Int} (h : okC c) (hn : 1 ≤ n) : 1 ≤ need c n := by
  unfold need
  obtain ⟨_, _, _, _, _, _, h1, _⟩ := h
  exact (Int.le_ediv_iff_mul_le (by omega)).2 (by omega)
theorem hop_gt {c : Ct} {t n s : Int} (h : okC c) (hn : 1 ≤ n) (hs : hopO c t n = some s) : t < s ∧ 0 < s := by
  have := need_pos h hn
  unfold hopO at hs
  split at hs
  · simp only [Option.some.injEq] at hs
    obtain ⟨_, _, _, _, _, _, _, _, h2, _⟩ := h
    omega
  · cases hs
theorem hop_mono {c : Ct} {t t' n s : Int} (htt : t ≤ t') (hs : hopO c t' n = some s) : ∃ r, hopO c t n = some r ∧ r ≤ s := by
  unfold hopO at hs ⊢
  split at hs
  · simp only [Option.some.injEq] at hs
    exact ⟨max t c.st + need c n + c.dl, by rw [if_pos (by omega)], by omega⟩
  · cases hs
theorem hop_bd {c : Ct} {t n s : Int} (h : okC c) (hs : hopO c t n = some s) : s ≤ 1099512676352 := by
  unfold hopO at hs
  split at hs
  · simp only [Option.some.injEq] at hs
    obtain ⟨_, _, _, _, _, _, _, _, h2, h3⟩ := h
    omega
  · cases hs
theorem hop_early {c : Ct} {t n s : Int} (h : okC c) (hn : 1 ≤ n) (hs : hopO c t n = some s) : t ≤ 1099511627776 := by
  have := need_pos h hn
  unfold hopO at hs
  split at hs
  · obtain ⟨_, _, _, _, _, h6, _⟩ := h
    omega
  · cases hs
/-- a smaller bundle is not later -/
theorem need_mono {c : Ct} {n m : Int} (h : okC c) (hnm : n ≤ m) : need c n ≤ need c m := by
  unfold need
  obtain ⟨_, _, _, _, _, _, h1, _⟩ := h
  exact Int.ediv_le_ediv (by omega) (by omega)
theorem hop_size {c : Ct} {t t' n m s : Int} (h : okC c) (hnm : n ≤ m) (htt : t ≤ t') (hs : hopO c t' m = some s) : ∃ r, hopO c t n = some r ∧ r ≤ s := by
  have := need_mono (n := n) (m := m) h hnm
  unfold hopO at hs ⊢
  split at hs
  · simp only [Option.some.injEq] at hs
    exact ⟨max t c.st + need c n + c.dl, by rw [if_pos (by omega)], by omega⟩
  · cases hs

/-- where a walk over contacts leads, and when -/
def walkP (cs : List Ct) (n : Int) : List Nat → Int → Int → Option (Int × Int)
  | [], u, t => some (u, t)
  | i :: l, u, t => if i < cs.length ∧ (cs.getD i c0).fr = u then (hopO (cs.getD i c0) t n).bind fun s => walkP cs n l (cs.getD i c0).dt s else none
theorem walk_cons {cs : List Ct} {n : Int} {i : Nat} {l : List Nat} {u t : Int} {x : Int × Int} (h : walkP cs n (i :: l) u t = some x) : i < cs.length ∧ (cs.getD i c0).fr = u ∧ ∃ s, hopO (cs.getD i c0) t n = some s ∧ walkP cs n l (cs.getD i c0).dt s = some x := by
  rw [walkP] at h
  split at h
  · rename_i hi
    cases hs : hopO (cs.getD i c0) t n with
    | none => rw [hs] at h; cases h
    | some s => rw [hs] at h; exact ⟨hi.1, hi.2, s, rfl, h⟩
  · cases h
theorem walk_step {cs : List Ct} {n : Int} {i : Nat} {l : List Nat} {u t s : Int} {x : Option (Int × Int)} (hi : i < cs.length) (hu : (cs.getD i c0).fr = u) (hs : hopO (cs.getD i c0) t n = some s) (h : walkP cs n l (cs.getD i c0).dt s = x) : walkP cs n (i :: l) u t = x := by
  rw [walkP, if_pos ⟨hi, hu⟩, hs]
  exact h
theorem walk_app {cs : List Ct} {n : Int} : ∀ (l m : List Nat) (u t : Int), walkP cs n (l ++ m) u t = (walkP cs n l u t).bind fun x => walkP cs n m x.1 x.2 := by
  intro l
  induction l with
  | nil => intro m u t; rfl
  | cons i l ih =>
    intro m u t
    rw [List.cons_append, walkP, walkP]
    split
    · cases hs : hopO (cs.getD i c0) t n with
      | none => rfl
      | some s => exact ih m _ s
    · rfl
theorem walk_app' {cs : List Ct} {n : Int} {l m : List Nat} {u t x r : Int} {y : Option (Int × Int)} (h1 : walkP cs n l u t = some (x, r)) (h2 : walkP cs n m x r = y) : walkP cs n (l ++ m) u t = y := by
  rw [walk_app, h1]
  exact h2
theorem walk_mono {cs : List Ct} {n : Int} : ∀ (l : List Nat) (u t t' v s : Int), t ≤ t' → walkP cs n l u t' = some (v, s) → ∃ r, walkP cs n l u t = some (v, r) ∧ r ≤ s := by
  intro l
  induction l with
  | nil =>
    intro u t t' v s htt h
    simp only [walkP, Option.some.injEq, Prod.mk.injEq] at h
    obtain ⟨rfl, rfl⟩ := h
    exact ⟨t, rfl, htt⟩
  | cons i l ih =>
    intro u t t' v s htt h
    obtain ⟨hi, hu, r, hr, hw⟩ := walk_cons h
    obtain ⟨r', hr', hle⟩ := hop_mono htt hr
    obtain ⟨q, hq, hqs⟩ := ih _ r' r v s hle hw
    exact ⟨q, walk_step hi hu hr' hq, hqs⟩
def okP (cs : List Ct) : Prop := ∀ c, c ∈ cs → okC c
theorem okP.at {cs : List Ct} (h : okP cs) {i : Nat} (hi : i < cs.length) : okC (cs.getD i c0) := by
  rw [List.getD_eq_getElem?_getD, List.getElem?_eq_getElem hi]
  exact h _ (List.getElem_mem hi)
theorem walk_le {cs : List Ct} {n : Int} (hp : okP cs) (hn : 1 ≤ n) : ∀ (l : List Nat) (u t v s : Int), walkP cs n l u t = some (v, s) → t ≤ s := by
  intro l
  induction l with
  | nil =>
    intro u t v s h
    simp only [walkP, Option.some.injEq, Prod.mk.injEq] at h
    omega
  | cons i l ih =>
    intro u t v s h
    obtain ⟨hi, hu, r, hr, hw⟩ := walk_cons h
    have := ih _ _ _ _ hw
    have := hop_gt (hp.at hi) hn hr
    omega
theorem walk_node {cs : List Ct} {n : Int} (hp : okP cs) : ∀ (l : List Nat) (u t v s : Int), 1 ≤ u ∧ u ≤ 16 → walkP cs n l u t = some (v, s) → 1 ≤ v ∧ v ≤ 16 := by
  intro l
  induction l with
  | nil =>
    intro u t v s hu h
    simp only [walkP, Option.some.injEq, Prod.mk.injEq] at h
    omega
  | cons i l ih =>
    intro u t v s hu h
    obtain ⟨hi, _, r, hr, hw⟩ := walk_cons h
    exact ih _ _ _ _ (hp.at hi).2.1 hw
theorem walk_size {cs : List Ct} {n m : Int} (hp : okP cs) (hnm : n ≤ m) : ∀ (l : List Nat) (u t t' v s : Int), t ≤ t' → walkP cs m l u t' = some (v, s) → ∃ r, walkP cs n l u t = some (v, r) ∧ r ≤ s := by
  intro l
  induction l with
  | nil =>
    intro u t t' v s htt h
    simp only [walkP, Option.some.injEq, Prod.mk.injEq] at h
    obtain ⟨rfl, rfl⟩ := h
    exact ⟨t, rfl, htt⟩
  | cons i l ih =>
    intro u t t' v s htt h
    obtain ⟨hi, hu, r, hr, hw⟩ := walk_cons h
    obtain ⟨r', hr', hle⟩ := hop_size (hp.at hi) hnm htt hr
    obtain ⟨q, hq, hqs⟩ := ih _ r' r v s hle hw
    exact ⟨q, walk_step hi hu hr' hq, hqs⟩

/-! a walk that comes to a node twice is cut -/
def ndl (cs : List Ct) (l : List Nat) : List Int := l.map fun i => (cs.getD i c0).dt
theorem mem_split {cs : List Ct} {n : Int} : ∀ (l : List Nat) (u t v s x : Int), walkP cs n l u t = some (v, s) → x ∈ ndl cs l → ∃ l1 l2 r, l = l1 ++ l2 ∧ 0 < l1.length ∧ walkP cs n l1 u t = some (x, r) ∧ walkP cs n l2 x r = some (v, s) := by
  intro l
  induction l with
  | nil => intro u t v s x _ hx; cases hx
  | cons i l ih =>
    intro u t v s x h hx
    obtain ⟨hi, hu, r, hr, hw⟩ := walk_cons h
    by_cases hx1 : x = (cs.getD i c0).dt
    · subst hx1
      exact ⟨[i], l, r, rfl, by simp, walk_step hi hu hr rfl, hw⟩
    · have hx2 : x ∈ ndl cs l := by
        rcases List.mem_cons.1 hx with hx | hx
        · exact absurd hx hx1
        · exact hx
      obtain ⟨l1, l2, q, rfl, h1, h2, h3⟩ := ih _ _ _ _ _ hw hx2
      exact ⟨i :: l1, l2, q, rfl, by simp, walk_step hi hu hr h2, h3⟩
theorem cut_dup {cs : List Ct} {n : Int} (hp : okP cs) (hn : 1 ≤ n) : ∀ (l : List Nat) (u t v s : Int), walkP cs n l u t = some (v, s) → ¬ (u :: ndl cs l).Nodup → ∃ l' r, l'.length < l.length ∧ walkP cs n l' u t = some (v, r) ∧ r ≤ s := by
  intro l
  induction l with
  | nil => intro u t v s _ h; exact absurd (by simp [ndl]) h
  | cons i l ih =>
    intro u t v s h hd
    by_cases hm : u ∈ ndl cs (i :: l)
    · obtain ⟨l1, l2, r, he, h1, h2, h3⟩ := mem_split _ _ _ _ _ _ h hm
      have htr := walk_le hp hn _ _ _ _ _ h2
      obtain ⟨q, hq, hqs⟩ := walk_mono _ _ _ _ _ _ htr h3
      exact ⟨l2, q, by rw [he, List.length_append]; omega, hq, hqs⟩
    · obtain ⟨hi, hu, r, hr, hw⟩ := walk_cons h
      have hd2 : ¬ ((cs.getD i c0).dt :: ndl cs l).Nodup := fun hh => hd (List.nodup_cons.2 ⟨hm, hh⟩)
      obtain ⟨l', q, hl, hq, hqs⟩ := ih _ _ _ _ hw hd2
      exact ⟨i :: l', q, by simp; omega, walk_step hi hu hr hq, hqs⟩
theorem nodup_len {l : List Int} : ∀ (k : Nat), l.Nodup → (∀ x, x ∈ l → 1 ≤ x ∧ x ≤ (k : Int)) → l.length ≤ k := by
  intro k
  induction k generalizing l with
  | zero =>
    intro _ h
    cases l with
    | nil => simp
    | cons a l => have := h a (List.mem_cons_self ..); omega
  | succ k ih =>
    intro hn h
    have h2 := ih (l := l.filter (fun x => x ≠ ((k + 1 : Nat) : Int))) (hn.filter _) (fun x hx => by
      rw [List.mem_filter] at hx
      have h3 := h x hx.1
      have h4 : x ≠ ((k + 1 : Nat) : Int) := by simpa using hx.2
      omega)
    have h5 : (l.filter (fun x => decide (x ≠ ((k + 1 : Nat) : Int)))).length + l.count ((k + 1 : Nat) : Int) = l.length := by
      have := List.length_eq_countP_add_countP (l := l) (fun x => decide (x ≠ ((k + 1 : Nat) : Int)))
      rw [← List.countP_eq_length_filter, this]
      congr 1
      unfold List.count
      refine List.countP_congr fun x _ => ?_
      simp
    have h6 := List.nodup_iff_count.1 hn ((k + 1 : Nat) : Int)
    omega
/-- every walk can be made one of at most 15 hops -/
theorem walk_short {cs : List Ct} {n : Int} (hp : okP cs) (hn : 1 ≤ n) : ∀ (k : Nat) (l : List Nat) (u t v s : Int), l.length ≤ k → 1 ≤ u ∧ u ≤ 16 → walkP cs n l u t = some (v, s) → ∃ l' r, l'.length ≤ 15 ∧ l'.length ≤ l.length ∧ walkP cs n l' u t = some (v, r) ∧ r ≤ s := by
  intro k
  induction k with
  | zero => intro l u t v s hl hu h; exact ⟨l, s, by omega, Nat.le_refl _, h, Int.le_refl _⟩
  | succ k ih =>
    intro l u t v s hl hu h
    by_cases h15 : l.length ≤ 15
    · exact ⟨l, s, h15, Nat.le_refl _, h, Int.le_refl _⟩
    · have hd : ¬ (u :: ndl cs l).Nodup := fun hh => by
        have := nodup_len 16 hh (fun x hx => by
          rcases List.mem_cons.1 hx with rfl | hx
          · exact hu
          · obtain ⟨l1, l2, r, he, h1, h2, h3⟩ := mem_split _ _ _ _ _ _ h hx
            exact walk_node hp _ _ _ _ _ hu h2)
        simp [ndl] at this
        omega
      obtain ⟨l', r, hlt, hw, hrs⟩ := cut_dup hp hn _ _ _ _ _ h hd
      obtain ⟨l2, r2, h1, h2, h3, h4⟩ := ih l' u t v r (by omega) hu hw
      exact ⟨l2, r2, h1, by omega, h3, by omega⟩

/-! earliest arrivals -/
/-- there is a walk -/
def Arr (cs : List Ct) (n u t v s : Int) : Prop := ∃ l, walkP cs n l u t = some (v, s)
/-- the earliest arrival; -1 if there is none -/
def Least (cs : List Ct) (n u t v a : Int) : Prop := (a = -1 ∧ ∀ s, ¬ Arr cs n u t v s) ∨ (0 ≤ a ∧ Arr cs n u t v a ∧ ∀ s, Arr cs n u t v s → a ≤ s)
theorem Least.uniq {cs : List Ct} {n u t v a b : Int} (h1 : Least cs n u t v a) (h2 : Least cs n u t v b) : a = b := by
  rcases h1 with ⟨rfl, h1⟩ | ⟨ha, h1, h3⟩ <;> rcases h2 with ⟨rfl, h2⟩ | ⟨hb, h2, h4⟩
  · rfl
  · exact absurd h2 (h1 _)
  · exact absurd h1 (h2 _)
  · have := h3 _ h2; have := h4 _ h1; omega
abbrev gI (l : List Int) (x : Int) : Int := l.getD x.toNat (-1)
theorem gI_set {l : List Int} {x y a : Int} (hx : 0 ≤ x) (hxl : x.toNat < l.length) (hy : 0 ≤ y) : gI (l.set x.toNat a) y = if x = y then a else gI l y := by
  unfold gI
  rw [List.getD_eq_getElem?_getD, List.getD_eq_getElem?_getD, List.getElem?_set]
  by_cases h : x = y
  · subst h
    rw [if_pos rfl, if_pos hxl, if_pos rfl]
    rfl
  · rw [if_neg (by omega), if_neg h]
/-- what is known is true -/
def Lab (cs : List Ct) (n u t : Int) (out : List Int) : Prop := out.length = 17 ∧ (0 ≤ gI out u ∧ gI out u ≤ t) ∧ ∀ v, 0 ≤ v → gI out v = -1 ∨ (0 ≤ gI out v ∧ Arr cs n u t v (gI out v))
/-- over contact i nothing comes earlier -/
def Clo (cs : List Ct) (n : Int) (out : List Int) (i : Nat) : Prop := 0 ≤ gI out (cs.getD i c0).fr → ∀ s, hopO (cs.getD i c0) (gI out (cs.getD i c0).fr) n = some s → 0 ≤ gI out (cs.getD i c0).dt ∧ gI out (cs.getD i c0).dt ≤ s
theorem clo_walk {cs : List Ct} {n : Int} {out : List Int} (hc : ∀ i, i < cs.length → Clo cs n out i) : ∀ (l : List Nat) (u t v s : Int), 0 ≤ gI out u → gI out u ≤ t → walkP cs n l u t = some (v, s) → 0 ≤ gI out v ∧ gI out v ≤ s := by
  intro l
  induction l with
  | nil =>
    intro u t v s h0 h1 h
    simp only [walkP, Option.some.injEq, Prod.mk.injEq] at h
    obtain ⟨rfl, rfl⟩ := h
    exact ⟨h0, h1⟩
  | cons i l ih =>
    intro u t v s h0 h1 h
    obtain ⟨hi, hu, r, hr, hw⟩ := walk_cons h
    obtain ⟨q, hq, hqr⟩ := hop_mono h1 hr
    have := hc i hi (by rw [hu]; exact h0) q (by rw [hu]; exact hq)
    exact ih _ _ _ _ this.1 (by omega) hw
theorem lab_least {cs : List Ct} {n u t : Int} {out : List Int} (hl : Lab cs n u t out) (hc : ∀ i, i < cs.length → Clo cs n out i) (v : Int) (hv : 0 ≤ v) : Least cs n u t v (gI out v) := by
  have hall : ∀ s, Arr cs n u t v s → 0 ≤ gI out v ∧ gI out v ≤ s := fun s ⟨l, hw⟩ => clo_walk hc l u t v s hl.2.1.1 hl.2.1.2 hw
  rcases hl.2.2 v hv with h | ⟨h1, h2⟩
  · exact .inl ⟨h, fun s hs => by have := hall s hs; omega⟩
  · exact .inr ⟨h1, h2, fun s hs => (hall s hs).2⟩

/-! the reference's rounds -/
def rlx (n : Int) (now : List Int) (nxt : List Int) (c : Ct) : List Int := if gI now c.fr < 0 then nxt else match hopO c (gI now c.fr) n with
  | none => nxt
  | some s => if gI nxt c.dt < 0 ∨ s < gI nxt c.dt then nxt.set c.dt.toNat s else nxt
def rnd (cs : List Ct) (n : Int) (now : List Int) : List Int := cs.foldl (rlx n now) now
def ini (u t : Int) : List Int := (List.replicate 17 (-1 : Int)).set u.toNat t
def rchL (cs : List Ct) (n u t : Int) : Nat → List Int
  | 0 => ini u t
  | h + 1 => rnd cs n (rchL cs n u t h)
/-- with at most h hops -/
def Rch (cs : List Ct) (n u t : Int) (h : Nat) (now : List Int) : Prop := now.length = 17 ∧ (∀ v, 0 ≤ v → gI now v = -1 ∨ (0 ≤ gI now v ∧ ∃ l, l.length ≤ h ∧ walkP cs n l u t = some (v, gI now v))) ∧ ∀ v s l, l.length ≤ h → walkP cs n l u t = some (v, s) → 0 ≤ gI now v ∧ gI now v ≤ s
theorem ini_at {u t v : Int} (hu : 1 ≤ u ∧ u ≤ 16) (hv : 0 ≤ v) : gI (ini u t) v = if u = v then t else -1 := by
  unfold ini
  rw [gI_set (by omega) (by rw [List.length_replicate]; omega) hv]
  split
  · rfl
  · unfold gI
    rw [List.getD_eq_getElem?_getD, List.getElem?_replicate]
    split <;> rfl
theorem rch_ini {cs : List Ct} {n u t : Int} (hu : 1 ≤ u ∧ u ≤ 16) (ht : 0 ≤ t) : Rch cs n u t 0 (ini u t) := by
  refine ⟨by unfold ini; simp, fun v hv => ?_, fun v s l hl h => ?_⟩
  · rw [ini_at hu hv]
    split
    · rename_i e
      subst e
      exact .inr ⟨ht, [], by simp, rfl⟩
    · exact .inl rfl
  · obtain rfl : l = [] := List.length_eq_zero_iff.1 (by omega)
    simp only [walkP, Option.some.injEq, Prod.mk.injEq] at h
    obtain ⟨rfl, rfl⟩ := h
    rw [ini_at hu (by omega), if_pos rfl]
    exact ⟨ht, Int.le_refl _⟩
/-- within a round, after the first k contacts -/
structure Rin (cs : List Ct) (n u t : Int) (h : Nat) (now nxt : List Int) (k : Nat) : Prop where
  len : nxt.length = 17
  tru : ∀ v, 0 ≤ v → gI nxt v = -1 ∨ (0 ≤ gI nxt v ∧ ∃ l, l.length ≤ h + 1 ∧ walkP cs n l u t = some (v, gI nxt v))
  old : ∀ v, 0 ≤ v → 0 ≤ gI now v → 0 ≤ gI nxt v ∧ gI nxt v ≤ gI now v
  all : ∀ i, i < k → 0 ≤ gI now (cs.getD i c0).fr → ∀ s, hopO (cs.getD i c0) (gI now (cs.getD i c0).fr) n = some s → 0 ≤ gI nxt (cs.getD i c0).dt ∧ gI nxt (cs.getD i c0).dt ≤ s
theorem rin_step {cs : List Ct} {n u t : Int} {h : Nat} {now nxt : List Int} {k : Nat} (hp : okP cs) (hn : 1 ≤ n) (hr : Rch cs n u t h now) (hi : Rin cs n u t h now nxt k) (hk : k < cs.length) : Rin cs n u t h now (rlx n now nxt (cs.getD k c0)) (k + 1) := by
  have hok := hp.at hk
  have hd := hok.2.1
  have hf := hok.1
  unfold rlx
  split
  · rename_i h0
    exact ⟨hi.len, hi.tru, hi.old, fun i hik h1 s hs => by
      rcases Nat.lt_succ_iff_lt_or_eq.1 hik with hik | rfl
      · exact hi.all i hik h1 s hs
      · omega⟩
  · rename_i h0
    cases hh : hopO (cs.getD k c0) (gI now (cs.getD k c0).fr) n with
    | none => exact ⟨hi.len, hi.tru, hi.old, fun i hik h1 s hs => by
        rcases Nat.lt_succ_iff_lt_or_eq.1 hik with hik | rfl
        · exact hi.all i hik h1 s hs
        · rw [hh] at hs; cases hs⟩
    | some s =>
      have hs0 := (hop_gt hok hn hh).2
      show Rin cs n u t h now (if gI nxt (cs.getD k c0).dt < 0 ∨ s < gI nxt (cs.getD k c0).dt then nxt.set (cs.getD k c0).dt.toNat s else nxt) (k + 1)
      split
      · rename_i hlt
        have hlen : (cs.getD k c0).dt.toNat < nxt.length := by rw [hi.len]; omega
        refine ⟨by rw [List.length_set]; exact hi.len, fun v hv => ?_, fun v hv h1 => ?_, fun i hik h1 q hq => ?_⟩
        · rw [gI_set (by omega) hlen hv]
          split
          · rename_i e
            subst e
            refine .inr ⟨by omega, ?_⟩
            rcases hr.2.1 (cs.getD k c0).fr (by omega) with hm | ⟨_, l, hl, hw⟩
            · omega
            · exact ⟨l ++ [k], by simp; omega, walk_app' hw (walk_step hk rfl hh rfl)⟩
          · exact hi.tru v hv
        · rw [gI_set (by omega) hlen hv]
          have := hi.old v hv h1
          split
          · rename_i e
            subst e
            omega
          · exact this
        · have hdi : 0 ≤ (cs.getD i c0).dt := by
            have := (hp.at (show i < cs.length by omega)).2.1; omega
          rw [gI_set (by omega) hlen hdi]
          rcases Nat.lt_succ_iff_lt_or_eq.1 hik with hik | rfl
          · have := hi.all i hik h1 q hq
            split
            · rename_i e
              rw [← e] at this
              omega
            · exact this
          · rw [if_pos rfl]
            rw [hh] at hq
            simp only [Option.some.injEq] at hq
            omega
      · rename_i hlt
        exact ⟨hi.len, hi.tru, hi.old, fun i hik h1 q hq => by
          rcases Nat.lt_succ_iff_lt_or_eq.1 hik with hik | rfl
          · exact hi.all i hik h1 q hq
          · rw [hh] at hq
            simp only [Option.some.injEq] at hq
            omega⟩
theorem rin_fold {cs : List Ct} {n u t : Int} {h : Nat} {now : List Int} (hp : okP cs) (hn : 1 ≤ n) (hr : Rch cs n u t h now) : ∀ k, k ≤ cs.length → Rin cs n u t h now ((cs.take k).foldl (rlx n now) now) k := by
  intro k
  induction k with
  | zero =>
    intro _
    exact ⟨hr.1, fun v hv => by
      rcases hr.2.1 v hv with h1 | ⟨h1, l, h2, h3⟩
      · exact .inl h1
      · exact .inr ⟨h1, l, by omega, h3⟩, fun v _ h1 => ⟨h1, Int.le_refl _⟩, fun i hi => absurd hi (Nat.not_lt_zero _)⟩
  | succ k ih =>
    intro hk
    have h1 := rin_step hp hn hr (ih (by omega)) (by omega)
    rw [List.take_succ_eq_append_getElem (by omega), List.foldl_append]
    have e : cs.getD k c0 = cs[k] := by rw [List.getD_eq_getElem?_getD, List.getElem?_eq_getElem (by omega)]; rfl
    rw [e] at h1
    exact h1
theorem rch_step {cs : List Ct} {n u t : Int} {h : Nat} {now nxt : List Int} (hp : okP cs) (hn : 1 ≤ n) (hu : 1 ≤ u ∧ u ≤ 16) (ht : 0 ≤ t) (hr : Rch cs n u t h now) (hi : Rin cs n u t h now nxt cs.length) : Rch cs n u t (h + 1) nxt := by
  refine ⟨hi.len, hi.tru, fun v s l hl hw => ?_⟩
  by_cases hlh : l.length ≤ h
  · have h1 := hr.2.2 v s l hlh hw
    have hv := walk_node hp _ _ _ _ _ hu hw
    have := hi.old v (by omega) h1.1
    omega
  · have hne : l ≠ [] := fun e => by subst e; simp at hlh
    obtain ⟨m, i, rfl⟩ : ∃ m i, l = m ++ [i] := ⟨l.dropLast, l.getLast hne, (List.dropLast_concat_getLast hne).symm⟩
    rw [walk_app] at hw
    cases hm : walkP cs n m u t with
    | none => rw [hm] at hw; cases hw
    | some x =>
      obtain ⟨x, r⟩ := x
      rw [hm] at hw
      obtain ⟨hil, hxu, q, hq, hend⟩ := walk_cons hw
      simp only [walkP, Option.some.injEq, Prod.mk.injEq] at hend
      obtain ⟨rfl, rfl⟩ := hend
      have h1 := hr.2.2 x r m (by simp at hl; omega) hm
      obtain ⟨q', hq', hqq⟩ := hop_mono h1.2 hq
      have := hi.all i hil (by rw [hxu]; exact h1.1) q' (by rw [hxu]; exact hq')
      omega
theorem rch_all {cs : List Ct} {n u t : Int} (hp : okP cs) (hn : 1 ≤ n) (hu : 1 ≤ u ∧ u ≤ 16) (ht : 0 ≤ t) : ∀ h, Rch cs n u t h (rchL cs n u t h) := by
  intro h
  induction h with
  | zero => exact rch_ini hu ht
  | succ h ih =>
    have := rin_fold hp hn ih cs.length (Nat.le_refl _)
    rw [List.take_length] at this
    exact rch_step hp hn hu ht ih this
theorem rch_least {cs : List Ct} {n u t : Int} (hp : okP cs) (hn : 1 ≤ n) (hu : 1 ≤ u ∧ u ≤ 16) (ht : 0 ≤ t) (h : Nat) (h15 : 15 ≤ h) (v : Int) (hv : 0 ≤ v) : Least cs n u t v (gI (rchL cs n u t h) v) := by
  have hr := rch_all hp hn hu ht h (cs := cs)
  have hall : ∀ s, Arr cs n u t v s → 0 ≤ gI (rchL cs n u t h) v ∧ gI (rchL cs n u t h) v ≤ s := fun s ⟨l, hw⟩ => by
    obtain ⟨l', r, h1, _, h2, h3⟩ := walk_short hp hn _ l u t v s (Nat.le_refl _) hu hw
    have := hr.2.2 v r l' (by omega) h2
    omega
  rcases hr.2.1 v hv with h1 | ⟨h1, l, _, h2⟩
  · exact .inl ⟨h1, fun s hs => by have := hall s hs; omega⟩
  · exact .inr ⟨h1, ⟨l, h2⟩, fun s hs => (hall s hs).2⟩
end Go.Proofs.Ytgmfifilgbbogaa
