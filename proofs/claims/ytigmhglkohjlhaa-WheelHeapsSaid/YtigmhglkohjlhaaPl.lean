


/- Timers, plainly: heaps made of numbers, what is due of them, all in order, put in and taken out. No program is named. -/
import Derived.Test.YtigmhglkohjlhaaMd
namespace Go.Proofs.Ytigmhglkohjlhaa
open Go.RowKit
set_option linter.unusedSimpArgs false
set_option linter.unusedVariables false
set_option maxRecDepth 100000

theorem g_mem {l : List Tm} {i : Nat} (h : i < l.length) : g l i ∈ l := by rw [g_at h]; exact List.getElem_mem h
theorem mk_ok {l : List Tm} (hl : Own l) (hn : l.length ≤ 1000) : ∀ k, k ≤ l.length → (mkF l k).2 = 0 ∧ (mkF l k).1.Perm (l.take k)
  | 0, _ => ⟨rfl, by simp [mkF]⟩
  | k + 1, hk => by
    obtain ⟨h1, h2⟩ := mk_ok hl hn k (by omega)
    have hlen : (mkF l k).1.length = k := by rw [h2.length_eq, List.length_take]; omega
    have hp : putE (mkF l k).1 (g l k) = 0 := by
      unfold putE
      rw [if_neg (by rw [hl.1 _ (g_mem (by omega))]; simp), if_neg ?_, if_neg (by omega)]
      rcases fnd_cases (mkF l k).1 (g l k) with ⟨h5, _⟩ | ⟨i, h5, h6, h7, _⟩
      · omega
      · exfalso
        have hm : g (mkF l k).1 i ∈ l.take k := h2.mem_iff.1 (g_mem h6)
        obtain ⟨j, hj, he⟩ := List.getElem_of_mem hm
        rw [List.length_take] at hj
        rw [List.getElem_take, ← g_at (show j < l.length by omega)] at he
        rw [← he] at h7
        exact pair_get hl.2 (by omega) (by omega) h7
    unfold mkF
    rw [if_neg (by rw [h1]; simp), if_neg (by rw [hp]; simp)]
    refine ⟨rfl, ?_⟩
    rw [take_snoc (by omega)]
    exact ((put_perm _ _).trans (h2.cons _)).trans (List.perm_append_singleton _ _).symm
theorem mk_all {l : List Tm} (hl : Own l) (hn : l.length ≤ 1000) : ∃ h, mkL l = (h, 0) ∧ Good h ∧ h.Perm l := by
  obtain ⟨h1, h2⟩ := mk_ok hl hn l.length (Nat.le_refl _)
  refine ⟨(mkF l l.length).1, Prod.ext rfl h1, mkF_good l _, ?_⟩
  rwa [List.take_length] at h2
theorem mkTm_val (n : Int) (i : Nat) (hn : 0 ≤ n) (hi : i < 30) : valE (mkTm n i) = 0 := by
  have a1 := Int.emod_nonneg n (show (20 : Int) ≠ 0 by omega)
  have a2 := Int.emod_lt_of_pos n (show (0 : Int) < 20 by omega)
  have b1 := Int.emod_nonneg (n / 20) (show (9 : Int) ≠ 0 by omega)
  have b2 := Int.emod_lt_of_pos (n / 20) (show (0 : Int) < 9 by omega)
  have c1 := Int.emod_nonneg (n / 180) (show (3 : Int) ≠ 0 by omega)
  have c2 := Int.emod_lt_of_pos (n / 180) (show (0 : Int) < 3 by omega)
  unfold valE idE mkTm
  simp only
  rw [if_neg (by omega), if_neg (by omega), if_neg (by omega)]
theorem mkTm_nd (n : Int) (i : Nat) : (mkTm n i).nd ≤ 3 := by
  have c2 := Int.emod_lt_of_pos (n / 180) (show (0 : Int) < 3 by omega)
  unfold mkTm
  simp only
  omega
theorem madeN_mem (xs : List Int) : ∀ k, k ≤ 30 → ∀ t, t ∈ madeN xs k → valE t = 0 ∧ t.sq < (k : Int) ∧ t.nd ≤ 3
  | 0, _, t, ht => by simp [madeN] at ht
  | k + 1, hk, t, ht => by
    unfold madeN at ht
    rcases List.mem_append.1 ht with h | h
    · obtain ⟨h1, h2, h3⟩ := madeN_mem xs k (by omega) t h
      exact ⟨h1, by omega, h3⟩
    · obtain rfl : t = _ := by simpa using h
      refine ⟨mkTm_val _ k (Int.emod_nonneg _ (by omega)) (by omega), ?_, mkTm_nd _ _⟩
      show ((k : Nat) : Int) < _
      omega
theorem madeN_pair (xs : List Int) : ∀ k, k ≤ 30 → (madeN xs k).Pairwise (fun a b => ¬ sameK a b)
  | 0, _ => List.Pairwise.nil
  | k + 1, hk => by
    unfold madeN
    refine List.pairwise_append.2 ⟨madeN_pair xs k (by omega), by simp, fun a ha b hb => ?_⟩
    obtain rfl : b = _ := by simpa using hb
    have h1 := (madeN_mem xs k (by omega) a ha).2.1
    rintro ⟨_, _, h2, _⟩
    have : a.sq = ((k : Nat) : Int) := h2
    omega
theorem made_own (xs : List Int) : Own (madeW xs) := ⟨fun t ht => (madeN_mem xs _ (by omega) t ht).1, madeN_pair xs _ (by omega)⟩
theorem made_len (xs : List Int) : (madeW xs).length ≤ 30 := by unfold madeW; rw [madeN_len]; omega
theorem made_nd (xs : List Int) (t : Tm) (ht : t ∈ madeW xs) : t.nd ≤ 3 := (madeN_mem xs _ (by omega) t ht).2.2
theorem made_mk (xs : List Int) : ∃ h, mkL (madeW xs) = (h, 0) ∧ Good h ∧ h.Perm (madeW xs) := mk_all (made_own xs) (by have := made_len xs; omega)
theorem pops_good (t : Int) : ∀ (n : Nat) (l : List Tm), l.length = n → Good l → Good (pops t l).2 := by
  intro n
  induction n with
  | zero => intro l hl h; rw [pops_eq, if_neg (by omega)]; exact h
  | succ n ih =>
    intro l hl h
    rw [pops_eq]
    split
    · exact ih _ (by rw [out_len]; omega) (out_good h (by omega))
    · exact h
theorem val_tk {t : Tm} (h : valE t = 0) : 0 ≤ t.tk ∧ t.tk ≤ 1099511627776 := by
  unfold valE at h
  by_cases c : t.tk < 0 ∨ 1099511627776 < t.tk
  · rw [if_pos c] at h; cases h
  · omega
theorem due_good {l : List Tm} (h : Good l) (now : Int) (h0 : 0 ≤ now) (h1 : now ≤ 1099511627776) : dueW l now = ((pops now l).1, (pops now l).2, 0) := by
  unfold dueW
  rw [chk_good h, if_neg (by simp), if_neg (by omega)]
theorem sort_good {l : List Tm} (h : Good l) : ∃ s, sortW l = (s, 0) ∧ s.Perm l ∧ s.Pairwise (fun a b => ¬ ltT b a) := by
  have hd := due_good h 1099511627776 (by omega) (Int.le_refl _)
  obtain ⟨k1, k2, k3, k4, k5⟩ := pops_hp 1099511627776 _ l rfl h.2.2
  refine ⟨(pops 1099511627776 l).1, by unfold sortW; rw [hd], ?_, k5⟩
  have he : (pops 1099511627776 l).2 = [] := by
    rw [List.eq_nil_iff_forall_not_mem]
    intro x hx
    have h5 := k4 x hx
    have h6 := val_tk (h.2.1.1 x (k2.mem_iff.1 (List.mem_append_right _ hx)))
    omega
  rwa [he, List.append_nil] at k2
theorem sort_same {l m : List Tm} (hl : Good l) (hm : Good m) (h : l.Perm m) : ∃ s, sortW l = (s, 0) ∧ sortW m = (s, 0) ∧ s.Perm l := by
  obtain ⟨s, h1, h2, h3⟩ := sort_good hl
  obtain ⟨r, k1, k2, k3⟩ := sort_good hm
  obtain rfl := sorted_uniq h3 k3 ((h2.trans h).trans k2.symm)
  exact ⟨s, h1, k1, h2⟩
/-- a timer that is there is found and taken out -/
theorem can_good {l : List Tm} (h : Good l) {x : Tm} (hx : x ∈ l) : ∃ r, canW l x = (r, 0) ∧ Good r ∧ (x :: r).Perm l := by
  obtain ⟨j, hj, rfl⟩ := List.getElem_of_mem hx
  rw [← g_at hj]
  have hf : fnd l (g l j) = (j : Int) := by
    rcases fnd_cases l (g l j) with ⟨_, h2⟩ | ⟨i, h1, h2, h3, h4⟩
    · exact absurd ⟨rfl, rfl, rfl, rfl⟩ (h2 j hj)
    · rw [h1]
      have : i = j := by
        rcases Nat.lt_trichotomy i j with h5 | h5 | h5
        · exact absurd h3 (pair_get h.2.1.2 h5 hj)
        · exact h5
        · exact absurd h3.symm (pair_get h.2.1.2 h5 h2)
      rw [this]
  refine ⟨outL l j, ?_, out_good h hj, out_perm hj⟩
  unfold canW
  rw [chk_good h, if_neg (by simp), hf, if_neg (by omega), Int.toNat_natCast]
theorem add_ok {l : List Tm} (h : Good l) {t : Tm} (he : putE l t = 0) : addW l t = (putL l t, 0) ∧ Good (putL l t) := by
  refine ⟨?_, put_good h he⟩
  unfold addW
  rw [chk_good h, if_neg (by simp), if_neg (by rw [he]; simp)]
end Go.Proofs.Ytigmhglkohjlhaa
