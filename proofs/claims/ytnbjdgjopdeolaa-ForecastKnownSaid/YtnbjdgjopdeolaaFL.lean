

/- Forecast, plainly: the levels. -/
import Derived.Test.YtnbjdgjopdeolaaFP
namespace Go.Proofs.Ytnbjdgjopdeolaa
open Go.RowKit
set_option linter.unusedSimpArgs false
set_option linter.unusedVariables false

/-- a contact to the node that is under way -/
def into (c : Ct) (nd t : Int) : Prop := c.dt = nd ∧ on c t
instance (c : Ct) (nd t : Int) : Decidable (into c nd t) := by unfold into; infer_instance
/-- number of the sender, as an index -/
def ix (c : Ct) : Nat := (c.fr - 1).toNat
/-- the reservations after step 1 over the first k contacts -/
def nxK (cs : List Ct) (nd wd t : Int) (rs : List Int) : Nat → List Int
  | 0 => rs
  | k + 1 => if into (cs.getD k c0) nd t then (nxK cs nd wd t rs k).set (ix (cs.getD k c0)) (max ((nxK cs nd wd t rs k).getD (ix (cs.getD k c0)) 0) wd) else nxK cs nd wd t rs k
/-- what is stored and reserved after step 3 over the first k contacts -/
def mvK (cs : List Ct) (nd t : Int) (st : Int) (rs : List Int) : Nat → Int × List Int
  | 0 => (st, rs)
  | k + 1 => if into (cs.getD k c0) nd t then
      ((mvK cs nd t st rs k).1 + min (cs.getD k c0).rt ((mvK cs nd t st rs k).2.getD (ix (cs.getD k c0)) 0), (mvK cs nd t st rs k).2.set (ix (cs.getD k c0)) ((mvK cs nd t st rs k).2.getD (ix (cs.getD k c0)) 0 - min (cs.getD k c0).rt ((mvK cs nd t st rs k).2.getD (ix (cs.getD k c0)) 0)))
    else mvK cs nd t st rs k
/-- the reference's step 1 over the first m nodes -/
def nxR (cs : List Ct) (nd wd t : Int) (rs : List Int) : Nat → List Int
  | 0 => rs
  | m + 1 => if 0 < rateK cs ((m : Int) + 1) nd t cs.length then (nxR cs nd wd t rs m).set m (max ((nxR cs nd wd t rs m).getD m 0) wd) else nxR cs nd wd t rs m
/-- the reference's step 3 over the first m nodes -/
def mvR (cs : List Ct) (nd t : Int) (st : Int) (rs : List Int) : Nat → Int × List Int
  | 0 => (st, rs)
  | m + 1 => ((mvR cs nd t st rs m).1 + min (rateK cs ((m : Int) + 1) nd t cs.length) ((mvR cs nd t st rs m).2.getD m 0),
      (mvR cs nd t st rs m).2.set m ((mvR cs nd t st rs m).2.getD m 0 - min (rateK cs ((m : Int) + 1) nd t cs.length) ((mvR cs nd t st rs m).2.getD m 0)))

theorem nxK_len (cs : List Ct) (nd wd t : Int) (rs : List Int) : ∀ k, (nxK cs nd wd t rs k).length = rs.length
  | 0 => rfl
  | k + 1 => by have := nxK_len cs nd wd t rs k; unfold nxK; split <;> simp [this]
theorem mvK_len (cs : List Ct) (nd t st : Int) (rs : List Int) : ∀ k, (mvK cs nd t st rs k).2.length = rs.length
  | 0 => rfl
  | k + 1 => by have := mvK_len cs nd t st rs k; unfold mvK; split <;> simp [this]
theorem nxR_len (cs : List Ct) (nd wd t : Int) (rs : List Int) : ∀ k, (nxR cs nd wd t rs k).length = rs.length
  | 0 => rfl
  | k + 1 => by have := nxR_len cs nd wd t rs k; unfold nxR; split <;> simp [this]
theorem mvR_len (cs : List Ct) (nd t st : Int) (rs : List Int) : ∀ k, (mvR cs nd t st rs k).2.length = rs.length
  | 0 => rfl
  | k + 1 => by have := mvR_len cs nd t st rs k; unfold mvR; simp [this]

theorem getD_set {xs : List Int} {i j : Nat} {x : Int} (hj : j < xs.length) : (xs.set j x).getD i 0 = if i = j then x else xs.getD i 0 := by
  rw [List.getD_eq_getElem?_getD, List.getElem?_set]
  by_cases h : i = j
  · subst h; simp [hj]
  · rw [if_neg (fun e => h e.symm), if_neg h, List.getD_eq_getElem?_getD]
theorem sum_set : ∀ {xs : List Int} {j : Nat} {x : Int}, j < xs.length → (xs.set j x).sum = xs.sum - xs.getD j 0 + x
  | [], j, x, h => by simp at h
  | y :: xs, 0, x, _ => by simp; omega
  | y :: xs, j + 1, x, h => by
    have ih := sum_set (xs := xs) (j := j) (x := x) (by simpa using h)
    simp only [List.set_cons_succ, List.sum_cons, ih, List.getD_cons_succ]; omega

section
variable {cs : List Ct} (hz : ∀ j, j < cs.length → stepE cs j = 0)
include hz
theorem ok_ix {k : Nat} (hk : k < cs.length) : ix (cs.getD k c0) < 16 ∧ ((ix (cs.getD k c0) : Nat) : Int) + 1 = (cs.getD k c0).fr := by
  have := (stepE_ok (hz k hk)).1.1
  unfold ix
  omega
theorem rate_pos {k : Nat} (hk : k < cs.length) : 1 ≤ (cs.getD k c0).rt := (stepE_ok (hz k hk)).1.2.2.2.2.2.2.1
theorem nxK_get {nd wd t : Int} {rs : List Int} (hl : rs.length = 16) (i : Nat) (hi : i < 16) : ∀ k, k ≤ cs.length →
    (nxK cs nd wd t rs k).getD i 0 = if 0 < rateK cs ((i : Int) + 1) nd t k then max (rs.getD i 0) wd else rs.getD i 0
  | 0, _ => by rw [if_neg (by simp [rateK])]; rfl
  | k + 1, hk => by
    have ih := nxK_get hl i hi (nd := nd) (wd := wd) (t := t) k (by omega)
    obtain ⟨h1, h2⟩ := ok_ix hz (k := k) (by omega)
    have h3 := rate_pos hz (k := k) (by omega)
    have hr := rateK_step hz (fr := (i : Int) + 1) (dt := nd) (t := t) (k := k) (by omega)
    have hbd := rateK_bd (fun k hk => (stepE_ok (hz k hk)).1) ((i : Int) + 1) nd t k (by omega)
    have hlen := nxK_len cs nd wd t rs k
    rw [hr]
    unfold nxK
    by_cases hin : into (cs.getD k c0) nd t
    · rw [if_pos hin, getD_set (by omega)]
      by_cases hii : i = ix (cs.getD k c0)
      · rw [if_pos hii, ← hii, ih, if_pos (show hit (cs.getD k c0) ((i : Int) + 1) nd t from ⟨by omega, hin.1, hin.2⟩)]
        rw [if_pos (show 0 < rateK cs ((i : Int) + 1) nd t k + (cs.getD k c0).rt by omega)]
        split <;> omega
      · rw [if_neg hii, ih, if_neg (show ¬ hit (cs.getD k c0) ((i : Int) + 1) nd t from fun h => hii (by have := h.1; omega)), Int.add_zero]
    · rw [if_neg hin, ih, if_neg (show ¬ hit (cs.getD k c0) ((i : Int) + 1) nd t from fun h => hin ⟨h.2.1, h.2.2⟩), Int.add_zero]
omit hz in
theorem nxR_get {nd wd t : Int} {rs : List Int} (hl : rs.length = 16) (i : Nat) (hi : i < 16) : ∀ m, m ≤ 16 →
    (nxR cs nd wd t rs m).getD i 0 = if i < m ∧ 0 < rateK cs ((i : Int) + 1) nd t cs.length then max (rs.getD i 0) wd else rs.getD i 0
  | 0, _ => by rw [if_neg (by omega)]; rfl
  | m + 1, hm => by
    have ih := nxR_get hl i hi (nd := nd) (wd := wd) (t := t) m (by omega)
    have hlen := nxR_len cs nd wd t rs m
    unfold nxR
    by_cases hr : 0 < rateK cs ((m : Int) + 1) nd t cs.length
    · rw [if_pos hr, getD_set (by omega)]
      by_cases hii : i = m
      · subst hii
        rw [if_pos rfl, ih, if_neg (by omega), if_pos ⟨by omega, hr⟩]
      · rw [if_neg hii, ih]
        congr 1
        simp only [eq_iff_iff]; constructor <;> (intro h; exact ⟨by omega, h.2⟩)
    · rw [if_neg hr, ih]
      congr 1
      simp only [eq_iff_iff]
      constructor
      · intro h; exact ⟨by omega, h.2⟩
      · intro h
        refine ⟨?_, h.2⟩
        rcases Nat.lt_or_ge i m with h1 | h1
        · exact h1
        · obtain rfl : i = m := by omega
          exact absurd h.2 hr
theorem mvK_get {nd t st : Int} {rs : List Int} (hl : rs.length = 16) (i : Nat) (hi : i < 16) (h0 : 0 ≤ rs.getD i 0) : ∀ k, k ≤ cs.length →
    (mvK cs nd t st rs k).2.getD i 0 = rs.getD i 0 - min (rateK cs ((i : Int) + 1) nd t k) (rs.getD i 0)
  | 0, _ => by show rs.getD i 0 = _ - min 0 _; omega
  | k + 1, hk => by
    have ih := mvK_get hl i hi h0 (nd := nd) (t := t) (st := st) k (by omega)
    obtain ⟨h1, h2⟩ := ok_ix hz (k := k) (by omega)
    have hr := rateK_step hz (fr := (i : Int) + 1) (dt := nd) (t := t) (k := k) (by omega)
    have hlen := mvK_len cs nd t st rs k
    rw [hr]
    unfold mvK
    by_cases hin : into (cs.getD k c0) nd t
    · rw [if_pos hin]
      simp only
      rw [getD_set (by omega)]
      by_cases hii : i = ix (cs.getD k c0)
      · have hh : hit (cs.getD k c0) ((i : Int) + 1) nd t := ⟨by omega, hin.1, hin.2⟩
        have hno : rateK cs ((i : Int) + 1) nd t k = 0 := by
          refine rateK_zero fun j hj hj2 => ?_
          obtain ⟨_, _, h3⟩ := stepE_ok (hz k (by omega))
          have h4 := en_le_last (cs := cs) (a := (i : Int) + 1) (b := nd) k (fun i hi => hz i (by omega)) j hj hj2.1 hj2.2.1
          rw [hh.1, hh.2.1] at h3
          have h5 := hj2.2.2.2
          have h6 := hh.2.2.1
          omega
        rw [if_pos hii, ← hii, ih, if_pos hh, hno]
        omega
      · rw [if_neg hii, ih, if_neg (show ¬ hit (cs.getD k c0) ((i : Int) + 1) nd t from fun h => hii (by have := h.1; omega)), Int.add_zero]
    · rw [if_neg hin, ih, if_neg (show ¬ hit (cs.getD k c0) ((i : Int) + 1) nd t from fun h => hin ⟨h.2.1, h.2.2⟩), Int.add_zero]
omit hz in
theorem mvR_get {nd t st : Int} {rs : List Int} (hl : rs.length = 16) (i : Nat) (hi : i < 16) : ∀ m, m ≤ 16 →
    (mvR cs nd t st rs m).2.getD i 0 = if i < m then rs.getD i 0 - min (rateK cs ((i : Int) + 1) nd t cs.length) (rs.getD i 0) else rs.getD i 0
  | 0, _ => by rw [if_neg (by omega)]; rfl
  | m + 1, hm => by
    have ih := mvR_get hl i hi (nd := nd) (t := t) (st := st) m (by omega)
    have hlen := mvR_len cs nd t st rs m
    unfold mvR
    simp only
    rw [getD_set (by omega)]
    by_cases hii : i = m
    · subst hii
      rw [if_pos rfl, ih, if_neg (by omega), if_pos (by omega)]
    · rw [if_neg hii, ih]
      congr 1
      simp only [eq_iff_iff]; omega
theorem mvK_sum {nd t st : Int} {rs : List Int} (hl : rs.length = 16) : ∀ k, k ≤ cs.length → (mvK cs nd t st rs k).1 + (mvK cs nd t st rs k).2.sum = st + rs.sum
  | 0, _ => rfl
  | k + 1, hk => by
    have ih := mvK_sum hl (nd := nd) (t := t) (st := st) k (by omega)
    obtain ⟨h1, h2⟩ := ok_ix hz (k := k) (by omega)
    have hlen := mvK_len cs nd t st rs k
    unfold mvK
    split
    · simp only
      rw [sum_set (by omega)]; omega
    · exact ih
omit hz in
theorem mvR_sum {nd t st : Int} {rs : List Int} (hl : rs.length = 16) : ∀ m, m ≤ 16 → (mvR cs nd t st rs m).1 + (mvR cs nd t st rs m).2.sum = st + rs.sum
  | 0, _ => rfl
  | m + 1, hm => by
    have ih := mvR_sum hl (nd := nd) (t := t) (st := st) m (by omega)
    have hlen := mvR_len cs nd t st rs m
    unfold mvR
    simp only
    rw [sum_set (by omega)]; omega
omit hz in
theorem ext16 {xs ys : List Int} (hx : xs.length = 16) (hy : ys.length = 16) (h : ∀ i, i < 16 → xs.getD i 0 = ys.getD i 0) : xs = ys := by
  refine List.ext_getElem (by omega) fun i h1 h2 => ?_
  have := h i (by omega)
  rwa [List.getD_eq_getElem?_getD, List.getD_eq_getElem?_getD, List.getElem?_eq_getElem h1, List.getElem?_eq_getElem h2] at this
theorem nx_eq {nd wd t : Int} {rs : List Int} (hl : rs.length = 16) : nxK cs nd wd t rs cs.length = nxR cs nd wd t rs 16 := by
  refine ext16 (by rw [nxK_len, hl]) (by rw [nxR_len, hl]) fun i hi => ?_
  rw [nxK_get hz hl i hi _ (Nat.le_refl _), nxR_get hl i hi 16 (Nat.le_refl _)]
  congr 1
  simp only [eq_iff_iff]; constructor
  · intro h; exact ⟨hi, h⟩
  · intro h; exact h.2
theorem mv_eq {nd t st : Int} {rs : List Int} (hl : rs.length = 16) (hn : ∀ i, i < 16 → 0 ≤ rs.getD i 0) : mvK cs nd t st rs cs.length = mvR cs nd t st rs 16 := by
  have h2 : (mvK cs nd t st rs cs.length).2 = (mvR cs nd t st rs 16).2 := by
    refine ext16 (by rw [mvK_len, hl]) (by rw [mvR_len, hl]) fun i hi => ?_
    rw [mvK_get hz hl i hi (hn i hi) _ (Nat.le_refl _), mvR_get hl i hi 16 (Nat.le_refl _), if_pos hi]
  have h1 : (mvK cs nd t st rs cs.length).1 = (mvR cs nd t st rs 16).1 := by
    have a := mvK_sum hz hl (nd := nd) (t := t) (st := st) _ (Nat.le_refl _)
    have b := mvR_sum (cs := cs) hl (nd := nd) (t := t) (st := st) 16 (Nat.le_refl _)
    rw [h2] at a; omega
  exact Prod.ext h1 h2
end

/-! bounds -/
def Rb (rs : List Int) : Prop := rs.length = 16 ∧ ∀ i, i < 16 → 0 ≤ rs.getD i 0 ∧ rs.getD i 0 ≤ 1099511627776
theorem Rb.sum {rs : List Int} (h : Rb rs) : 0 ≤ rs.sum ∧ rs.sum ≤ 17592186044416 := by
  obtain ⟨hl, h⟩ := h
  match rs, hl with
  | [a0, a1, a2, a3, a4, a5, a6, a7, a8, a9, a10, a11, a12, a13, a14, a15], _ =>
    have h0 := h 0 (by omega); have h1 := h 1 (by omega); have h2 := h 2 (by omega); have h3 := h 3 (by omega)
    have h4 := h 4 (by omega); have h5 := h 5 (by omega); have h6 := h 6 (by omega); have h7 := h 7 (by omega)
    have h8 := h 8 (by omega); have h9 := h 9 (by omega); have h10 := h 10 (by omega); have h11 := h 11 (by omega)
    have h12 := h 12 (by omega); have h13 := h 13 (by omega); have h14 := h 14 (by omega); have h15 := h 15 (by omega)
    simp at h0 h1 h2 h3 h4 h5 h6 h7 h8 h9 h10 h11 h12 h13 h14 h15
    simp
    omega
theorem Rb.set {rs : List Int} (h : Rb rs) {j : Nat} {x : Int} (hj : j < 16) (h0 : 0 ≤ x) (h1 : x ≤ 1099511627776) : Rb (rs.set j x) := by
  refine ⟨by simp [h.1], fun i hi => ?_⟩
  rw [getD_set (by rw [h.1]; exact hj)]
  split
  · exact ⟨h0, h1⟩
  · exact h.2 i hi
theorem nxK_rb {cs : List Ct} (hz : ∀ j, j < cs.length → stepE cs j = 0) {nd wd t : Int} {rs : List Int} (hw : wd ≤ 1099511627776) (h : Rb rs) : ∀ k, k ≤ cs.length → Rb (nxK cs nd wd t rs k)
  | 0, _ => h
  | k + 1, hk => by
    have ih := nxK_rb hz (nd := nd) (t := t) hw h k (by omega)
    obtain ⟨h1, h2⟩ := ok_ix hz (k := k) (by omega)
    have := ih.2 _ h1
    unfold nxK
    split
    · exact ih.set h1 (by omega) (by omega)
    · exact ih
theorem mvK_rb {cs : List Ct} (hz : ∀ j, j < cs.length → stepE cs j = 0) {nd t st : Int} {rs : List Int} (h : Rb rs) : ∀ k, k ≤ cs.length → Rb (mvK cs nd t st rs k).2
  | 0, _ => h
  | k + 1, hk => by
    have ih := mvK_rb hz (nd := nd) (t := t) (st := st) h k (by omega)
    obtain ⟨h1, h2⟩ := ok_ix hz (k := k) (by omega)
    have h3 := rate_pos hz (k := k) (by omega)
    have := ih.2 _ h1
    unfold mvK
    split
    · exact ih.set h1 (by omega) (by omega)
    · exact ih
theorem mvK_lo {cs : List Ct} (hz : ∀ j, j < cs.length → stepE cs j = 0) {nd t st : Int} {rs : List Int} (h : Rb rs) (h0 : 0 ≤ st) : ∀ k, k ≤ cs.length → st ≤ (mvK cs nd t st rs k).1
  | 0, _ => Int.le_refl _
  | k + 1, hk => by
    have ih := mvK_lo hz (nd := nd) (t := t) (st := st) h h0 k (by omega)
    have hb := mvK_rb hz (nd := nd) (t := t) (st := st) h k (by omega)
    obtain ⟨h1, h2⟩ := ok_ix hz (k := k) (by omega)
    have h3 := rate_pos hz (k := k) (by omega)
    have := hb.2 _ h1
    unfold mvK
    split
    · show st ≤ (mvK cs nd t st rs k).1 + min _ _; omega
    · exact ih

/-- a level -/
structure Lv where
  tk : Int
  st : Int
  rv : Int
def lv0 : Lv := ⟨0, 0, 0⟩
def Lv.cells (x : Lv) : List Value := [.int .i64 x.tk, .int .u64 x.st, .int .u64 x.rv]
/-- stored and reserved at the beginning of tick m -/
def stF (c : Cf) (cs : List Ct) (st : Int) (xs : List Int) (now : Int) : Nat → Int × List Int
  | 0 => (st, xs)
  | m + 1 =>
    let r1 := nxK cs c.nd c.wd (now + m) (stF c cs st xs now m).2 cs.length
    let p := mvK cs c.nd (now + m) (stF c cs st xs now m).1 r1 cs.length
    (p.1 - min p.1 (outK cs c.nd (now + m) cs.length), p.2)
def lvl (c : Cf) (cs : List Ct) (st : Int) (xs : List Int) (now : Int) (m : Nat) : Lv :=
  ⟨now + m, (stF c cs st xs now m).1, (nxK cs c.nd c.wd (now + m) (stF c cs st xs now m).2 cs.length).sum⟩
/-- the levels of the first m ticks -/
def lvs (c : Cf) (cs : List Ct) (st : Int) (xs : List Int) (now : Int) : Nat → List Lv
  | 0 => []
  | m + 1 => lvs c cs st xs now m ++ [lvl c cs st xs now m]
theorem lvs_len (c : Cf) (cs : List Ct) (st : Int) (xs : List Int) (now : Int) : ∀ m, (lvs c cs st xs now m).length = m
  | 0 => rfl
  | m + 1 => by simp [lvs, lvs_len c cs st xs now m]
/-- one more level, if it differs -/
def addL (l : List Lv) (x : Lv) : List Lv := if 0 < l.length ∧ (l.getD (l.length - 1) lv0).st = x.st ∧ (l.getD (l.length - 1) lv0).rv = x.rv then l else l ++ [x]
def outL (xs : List Lv) : List Lv := xs.foldl addL []
theorem outL_snoc (xs : List Lv) (x : Lv) : outL (xs ++ [x]) = addL (outL xs) x := by simp [outL]
theorem addL_len (l : List Lv) (x : Lv) : (addL l x).length ≤ l.length + 1 := by unfold addL; split <;> simp
theorem outL_len : ∀ xs : List Lv, (outL xs).length ≤ xs.length := by
  intro xs
  have key : ∀ (xs l : List Lv), (xs.foldl addL l).length ≤ l.length + xs.length := by
    intro xs
    induction xs with
    | nil => intro l; simp
    | cons x xs ih => intro l; have := ih (addL l x); have := addL_len l x; simp only [List.foldl_cons, List.length_cons]; omega
  have h := key xs []
  rw [List.length_nil, Nat.zero_add] at h
  exact h
/-- what Levels answers where nothing is at fault -/
def lvO (c : Cf) (cs : List Ct) (st : Int) (xs : List Int) (now : Int) (M : Nat) : List Lv := outL (lvs c cs st xs now M)
theorem lvO_len (c : Cf) (cs : List Ct) (st : Int) (xs : List Int) (now : Int) (M : Nat) : (lvO c cs st xs now M).length ≤ M := by
  have := outL_len (lvs c cs st xs now M)
  rw [lvs_len] at this; exact this
/-- bounds of a state after m ticks -/
def Sb (m : Nat) (p : Int × List Int) : Prop := Rb p.2 ∧ 0 ≤ p.1 ∧ p.1 ≤ 1099511627776 + 17592186044416 * m
theorem stF_b {c : Cf} {cs : List Ct} {q st : Int} {xs : List Int} {now : Int} (hz : ∀ j, j < cs.length → stepE cs j = 0) (hw : c.wd ≤ 1099511627776) (h0 : 0 ≤ st ∧ st ≤ 1099511627776) (hr : Rb xs) : ∀ m, Sb m (stF c cs st xs now m)
  | 0 => ⟨hr, h0.1, by show st ≤ _; omega⟩
  | m + 1 => by
    obtain ⟨h1, h2, h3⟩ := stF_b (q := q) hz hw h0 hr (now := now) m
    have n1 := nxK_rb hz (nd := c.nd) (t := now + m) hw h1 _ (Nat.le_refl _)
    have m1 := mvK_rb hz (nd := c.nd) (t := now + m) (st := (stF c cs st xs now m).1) n1 _ (Nat.le_refl _)
    have m2 := mvK_sum hz (nd := c.nd) (t := now + m) (st := (stF c cs st xs now m).1) n1.1 _ (Nat.le_refl _)
    have m3 := mvK_lo hz (nd := c.nd) (t := now + m) n1 h2 _ (Nat.le_refl _)
    have s1 := n1.sum
    have s2 := m1.sum
    have hb := outK_bd (fun k hk => (stepE_ok (hz k hk)).1) c.nd (now + m) cs.length (Nat.le_refl _)
    refine ⟨m1, ?_, ?_⟩
    · show 0 ≤ (mvK cs c.nd (now + m) (stF c cs st xs now m).1 (nxK cs c.nd c.wd (now + m) (stF c cs st xs now m).2 cs.length) cs.length).1 - min _ _; omega
    · show (mvK cs c.nd (now + m) (stF c cs st xs now m).1 (nxK cs c.nd c.wd (now + m) (stF c cs st xs now m).2 cs.length) cs.length).1 - min _ _ ≤ _; push_cast; omega
end Go.Proofs.Ytnbjdgjopdeolaa
