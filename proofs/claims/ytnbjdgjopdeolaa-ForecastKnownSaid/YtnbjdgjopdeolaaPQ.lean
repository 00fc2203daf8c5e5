

/- Forecast, plainly: what the laws made of numbers ask. -/
import Derived.Test.YtnbjdgjopdeolaaMD
namespace Go.Proofs.Ytnbjdgjopdeolaa
open Go.RowKit
set_option linter.unusedSimpArgs false
set_option linter.unusedVariables false

/-! what made makes is good -/
theorem m70 (x : Int) : 0 ≤ x % 70 ∧ x % 70 ≤ 69 := ⟨Int.emod_nonneg _ (by omega), by have := Int.emod_lt_of_pos x (show (0 : Int) < 70 by omega); omega⟩
theorem mXs4 (ns : List Int) : mXs ns 4 = [ns.getD 3 0 % 70, ns.getD 4 0 % 70, ns.getD 5 0 % 70, ns.getD 6 0 % 70, 0, 0, 0, 0, 0, 0, 0, 0, 0, 0, 0, 0] := by
  simp [mXs, rz]
theorem mXs_nn (ns : List Int) : Nn (mXs ns 4) := by
  rw [mXs4]
  intro x hx
  have h3 := m70 (ns.getD 3 0)
  have h4 := m70 (ns.getD 4 0)
  have h5 := m70 (ns.getD 5 0)
  have h6 := m70 (ns.getD 6 0)
  generalize ns.getD 3 0 % 70 = a at *
  generalize ns.getD 4 0 % 70 = b at *
  generalize ns.getD 5 0 % 70 = c at *
  generalize ns.getD 6 0 % 70 = d at *
  simp at hx
  omega
theorem mXs_sum (ns : List Int) : 0 ≤ (mXs ns 4).sum ∧ (mXs ns 4).sum ≤ 276 := by
  rw [mXs4]
  have h3 := m70 (ns.getD 3 0)
  have h4 := m70 (ns.getD 4 0)
  have h5 := m70 (ns.getD 5 0)
  have h6 := m70 (ns.getD 6 0)
  generalize ns.getD 3 0 % 70 = a at *
  generalize ns.getD 4 0 % 70 = b at *
  generalize ns.getD 5 0 % 70 = c at *
  generalize ns.getD 6 0 % 70 = d at *
  simp
  omega
theorem mSt_bd (ns : List Int) : 0 ≤ mSt ns ∧ mSt ns ≤ 199 := by
  unfold mSt
  exact ⟨Int.emod_nonneg _ (by omega), by have := Int.emod_lt_of_pos (ns.getD 2 0) (show (0 : Int) < 200 by omega); omega⟩
theorem mInp {ns : List Int} {st : Int} (h : 0 ≤ st ∧ st ≤ 199) : Inp 500 st (mXs ns 4) := ⟨by omega, by omega, mXs_nn ns⟩
theorem mCf_bd (ns : List Int) : (1 ≤ (mCf ns).nd ∧ (mCf ns).nd ≤ 3) ∧ 0 ≤ (mCf ns).wd ∧ (mCf ns).wd ≤ 59 := by
  unfold mCf
  have h0 := Int.emod_nonneg (ns.getD 0 0) (show (3 : Int) ≠ 0 by omega)
  have h1 := Int.emod_lt_of_pos (ns.getD 0 0) (show (0 : Int) < 3 by omega)
  have h2 := Int.emod_nonneg (ns.getD 1 0) (show (60 : Int) ≠ 0 by omega)
  have h3 := Int.emod_lt_of_pos (ns.getD 1 0) (show (0 : Int) < 60 by omega)
  dsimp only
  omega
theorem mchk {ns : List Int} {st : Int} (h : 0 ≤ st ∧ st ≤ 199) : chk 500 st (mXs ns 4) = 0 := by
  have hs := mXs_sum ns
  exact Good.chk ⟨by omega, h.1, mXs_len ns 4, mXs_nn ns, by omega⟩
theorem mfck {ns : List Int} {st : Int} {cs : List Ct} {now un : Int} (h : 0 ≤ st ∧ st ≤ 199) (hp : planChk cs = (0, 0)) (h0 : 0 ≤ now) (h1 : now < un) (h2 : un ≤ 1000) : fck (mCf ns) 500 st (mXs ns 4) cs now un = 0 := by
  have hc := mCf_bd ns
  unfold fck
  rw [if_neg (by omega), mchk h, if_neg (by simp), hp, if_neg (by simp), if_neg (by omega), if_neg (by omega), if_neg (by omega)]
theorem planK_ok (ns : List Int) : planChk (plK ns 12 ns.length) = (0, 0) ∧ (plK ns 12 ns.length).length ≤ 12 := by
  obtain ⟨h1, _, h3⟩ := plK_ok ns 12 ns.length
  exact ⟨h1.chk (by omega), h3⟩

/-! the first tick at which nothing is left -/
theorem drG_cases (cs : List Ct) (nd st now : Int) : ∀ (f m : Nat), (∃ j, m ≤ j ∧ j < m + f ∧ leftD cs nd st now j = 0 ∧ (∀ i, m ≤ i → i < j → leftD cs nd st now i ≠ 0) ∧ drG cs nd st now m f = (now + j, 0)) ∨
    ((∀ i, m ≤ i → i < m + f → leftD cs nd st now i ≠ 0) ∧ drG cs nd st now m f = (0, 8))
  | 0, m => .inr ⟨fun i h1 h2 => by omega, rfl⟩
  | f + 1, m => by
    by_cases h : leftD cs nd st now m = 0
    · exact .inl ⟨m, Nat.le_refl _, by omega, h, fun i h1 h2 => by omega, if_pos h⟩
    · have hd : drG cs nd st now m (f + 1) = drG cs nd st now (m + 1) f := if_neg h
      rcases drG_cases cs nd st now f (m + 1) with ⟨j, h1, h2, h3, h4, h5⟩ | ⟨h1, h2⟩
      · refine .inl ⟨j, by omega, by omega, h3, fun i hi1 hi2 => ?_, by rw [hd, h5]⟩
        by_cases him : i = m
        · rw [him]; exact h
        · exact h4 i (by omega) hi2
      · refine .inr ⟨fun i hi1 hi2 => ?_, by rw [hd, h2]⟩
        by_cases him : i = m
        · rw [him]; exact h
        · exact h1 i (by omega) (by omega)
/-- two times, the second not shorter: what the two answers have to do with each other -/
def sooner (n e m f a : Int) : Prop := (e = 8 ∧ (f = 8 ∨ (f = 0 ∧ a < m))) ∨ (e = 0 ∧ f = 0 ∧ n = m ∧ 0 ≤ n ∧ n ≤ a)
theorem drG_sooner (cs : List Ct) (nd st : Int) {a b : Nat} (h : a ≤ b) : sooner (drG cs nd st 0 0 (a + 1)).1 (drG cs nd st 0 0 (a + 1)).2 (drG cs nd st 0 0 (b + 1)).1 (drG cs nd st 0 0 (b + 1)).2 a := by
  rcases drG_cases cs nd st 0 (a + 1) 0 with ⟨j, h1, h2, h3, h4, h5⟩ | ⟨h1, h2⟩
  · rcases drG_cases cs nd st 0 (b + 1) 0 with ⟨j', k1, k2, k3, k4, k5⟩ | ⟨k1, k2⟩
    · have hjj : j = j' := by
        rcases Nat.lt_trichotomy j j' with hj | hj | hj
        · exact absurd h3 (k4 j (by omega) hj)
        · exact hj
        · exact absurd k3 (h4 j' (by omega) hj)
      subst hjj
      rw [h5, k5]
      exact .inr ⟨rfl, rfl, rfl, by dsimp only; omega, by dsimp only; omega⟩
    · exact absurd h3 (k1 j (by omega) (by omega))
  · rw [h2]
    rcases drG_cases cs nd st 0 (b + 1) 0 with ⟨j', k1, k2, k3, k4, k5⟩ | ⟨k1, k2⟩
    · rw [k5]
      refine .inl ⟨rfl, .inr ⟨rfl, ?_⟩⟩
      rcases Nat.lt_or_ge a j' with hj | hj
      · dsimp only; omega
      · exact absurd k3 (h1 j' (by omega) (by omega))
    · rw [k2]; exact .inl ⟨rfl, .inl rfl⟩

/-! without contacts -/
theorem stF_nil (c : Cf) (st : Int) (xs : List Int) (now : Int) (h0 : 0 ≤ st) : ∀ m, stF c [] st xs now m = (st, xs)
  | 0 => rfl
  | m + 1 => by
    show (let r1 := nxK [] c.nd c.wd (now + m) (stF c [] st xs now m).2 0; let p := mvK [] c.nd (now + m) (stF c [] st xs now m).1 r1 0; (p.1 - min p.1 (outK [] c.nd (now + m) 0), p.2)) = _
    rw [stF_nil c st xs now h0 m]
    show (st - min st 0, xs) = (st, xs)
    rw [show st - min st 0 = st by omega]
theorem lvl_nil (c : Cf) (st : Int) (xs : List Int) (now : Int) (h0 : 0 ≤ st) (m : Nat) : lvl c [] st xs now m = ⟨now + m, st, xs.sum⟩ := by
  unfold lvl
  rw [stF_nil c st xs now h0 m]
  rfl
theorem lvO_nil (c : Cf) (st : Int) (xs : List Int) (now : Int) (h0 : 0 ≤ st) : ∀ m, lvO c [] st xs now (m + 1) = [⟨now, st, xs.sum⟩]
  | 0 => by
    show addL [] (lvl c [] st xs now 0) = _
    rw [lvl_nil c st xs now h0]
    unfold addL
    rw [if_neg (by simp)]
    simp
  | m + 1 => by
    have ih := lvO_nil c st xs now h0 m
    unfold lvO at ih ⊢
    rw [show lvs c [] st xs now (m + 1 + 1) = lvs c [] st xs now (m + 1) ++ [lvl c [] st xs now (m + 1)] from rfl, outL_snoc, ih, lvl_nil c st xs now h0]
    unfold addL
    rw [if_pos (by simp)]

/-! how levels follow each other -/
theorem sum16_le {xs ys : List Int} {d : Int} (hx : xs.length = 16) (hy : ys.length = 16) (h : ∀ i, i < 16 → ys.getD i 0 ≤ xs.getD i 0 + d) : ys.sum ≤ xs.sum + 16 * d := by
  match xs, hx, ys, hy with
  | [a0, a1, a2, a3, a4, a5, a6, a7, a8, a9, a10, a11, a12, a13, a14, a15], _, [b0, b1, b2, b3, b4, b5, b6, b7, b8, b9, b10, b11, b12, b13, b14, b15], _ =>
    have h0 := h 0 (by omega); have h1 := h 1 (by omega); have h2 := h 2 (by omega); have h3 := h 3 (by omega)
    have h4 := h 4 (by omega); have h5 := h 5 (by omega); have h6 := h 6 (by omega); have h7 := h 7 (by omega)
    have h8 := h 8 (by omega); have h9 := h 9 (by omega); have h10 := h 10 (by omega); have h11 := h 11 (by omega)
    have h12 := h 12 (by omega); have h13 := h 13 (by omega); have h14 := h 14 (by omega); have h15 := h 15 (by omega)
    simp at h0 h1 h2 h3 h4 h5 h6 h7 h8 h9 h10 h11 h12 h13 h14 h15
    simp
    omega
/-- the sum of the rates of the first k contacts -/
def rateS (cs : List Ct) : Nat → Int
  | 0 => 0
  | k + 1 => rateS cs k + (cs.getD k c0).rt
theorem outK_rateS {cs : List Ct} (h : ∀ k, k < cs.length → okC (cs.getD k c0)) (nd t : Int) : ∀ k, k ≤ cs.length → outK cs nd t k ≤ rateS cs k
  | 0, _ => Int.le_refl _
  | k + 1, hk => by
    have ih := outK_rateS h nd t k (by omega)
    have h1 := (h k (by omega)).2.2.2.2.2.2.1
    unfold outK rateS
    split <;> omega
/-- all together in a level -/
def Lv.all (x : Lv) : Int := x.st + x.rv
theorem lvl_next {c : Cf} {cs : List Ct} {st : Int} {xs : List Int} {now : Int} (hz : ∀ j, j < cs.length → stepE cs j = 0) (hw : c.wd ≤ 1099511627776) (hw0 : 0 ≤ c.wd) (h0 : 0 ≤ st ∧ st ≤ 1099511627776) (hr : Rb xs) (m : Nat) :
    (lvl c cs st xs now (m + 1)).all ≤ (lvl c cs st xs now m).all + c.wd * 16 ∧ (lvl c cs st xs now m).all ≤ (lvl c cs st xs now (m + 1)).all + rateS cs cs.length := by
  have hok : ∀ k, k < cs.length → okC (cs.getD k c0) := fun k hk => (stepE_ok (hz k hk)).1
  obtain ⟨h1, h2, h3⟩ := stF_b (q := 0) hz hw h0 hr (now := now) m
  have hn := nxK_rb hz (nd := c.nd) (t := now + m) hw h1 _ (Nat.le_refl _)
  have hms := mvK_sum hz (nd := c.nd) (t := now + m) (st := (stF c cs st xs now m).1) hn.1 _ (Nat.le_refl _)
  have hmb := mvK_rb hz (nd := c.nd) (t := now + m) (st := (stF c cs st xs now m).1) hn _ (Nat.le_refl _)
  have hml := mvK_lo hz (nd := c.nd) (t := now + m) hn h2 _ (Nat.le_refl _)
  have hob := outK_bd hok c.nd (now + m) cs.length (Nat.le_refl _)
  have hor := outK_rateS hok c.nd (now + m) cs.length (Nat.le_refl _)
  have hst : stF c cs st xs now (m + 1) = ((mvK cs c.nd (now + m) (stF c cs st xs now m).1 (nxK cs c.nd c.wd (now + m) (stF c cs st xs now m).2 cs.length) cs.length).1 - min (mvK cs c.nd (now + m) (stF c cs st xs now m).1 (nxK cs c.nd c.wd (now + m) (stF c cs st xs now m).2 cs.length) cs.length).1 (outK cs c.nd (now + m) cs.length), (mvK cs c.nd (now + m) (stF c cs st xs now m).1 (nxK cs c.nd c.wd (now + m) (stF c cs st xs now m).2 cs.length) cs.length).2) := rfl
  have hup : ∀ i, i < 16 → (nxK cs c.nd c.wd (now + (m + 1 : Nat)) (stF c cs st xs now (m + 1)).2 cs.length).getD i 0 ≤ (stF c cs st xs now (m + 1)).2.getD i 0 + c.wd ∧ (stF c cs st xs now (m + 1)).2.getD i 0 ≤ (nxK cs c.nd c.wd (now + (m + 1 : Nat)) (stF c cs st xs now (m + 1)).2 cs.length).getD i 0 := by
    intro i hi
    have hb := stF_b (q := 0) hz hw h0 hr (now := now) (m + 1)
    have := hb.1.2 i hi
    rw [nxK_get hz hb.1.1 i hi _ (Nat.le_refl _)]
    split <;> omega
  have hb1 := (stF_b (q := 0) hz hw h0 hr (now := now) (m + 1)).1.1
  have s1 := sum16_le hb1 (by rw [nxK_len, hb1]) (fun i hi => (hup i hi).1)
  have s2 := sum16_le (xs := nxK cs c.nd c.wd (now + (m + 1 : Nat)) (stF c cs st xs now (m + 1)).2 cs.length) (ys := (stF c cs st xs now (m + 1)).2) (d := 0) (by rw [nxK_len, hb1]) hb1 (fun i hi => by have := (hup i hi).2; omega)
  unfold Lv.all lvl
  dsimp only
  rw [hst] at s1 s2 ⊢
  dsimp only at s1 s2 ⊢
  omega
/-- the last of the levels so far stands as the last tick does -/
theorem outL_last (c : Cf) (cs : List Ct) (st : Int) (xs : List Int) (now : Int) : ∀ m, 0 < (outL (lvs c cs st xs now (m + 1))).length ∧
    ((outL (lvs c cs st xs now (m + 1))).getD ((outL (lvs c cs st xs now (m + 1))).length - 1) lv0).st = (lvl c cs st xs now m).st ∧
    ((outL (lvs c cs st xs now (m + 1))).getD ((outL (lvs c cs st xs now (m + 1))).length - 1) lv0).rv = (lvl c cs st xs now m).rv ∧
    ((outL (lvs c cs st xs now (m + 1))).getD ((outL (lvs c cs st xs now (m + 1))).length - 1) lv0).tk ≤ now + m := by
  intro m
  have key : ∀ (l : List Lv) (x : Lv) (b : Int), (0 < l.length → (l.getD (l.length - 1) lv0).tk ≤ b) → x.tk = b + 1 ∨ x.tk ≤ b + 1 → 0 < (addL l x).length ∧ ((addL l x).getD ((addL l x).length - 1) lv0).st = x.st ∧ ((addL l x).getD ((addL l x).length - 1) lv0).rv = x.rv ∧ ((addL l x).getD ((addL l x).length - 1) lv0).tk ≤ b + 1 := by
    intro l x b hb hx
    unfold addL
    split
    · rename_i h
      exact ⟨h.1, h.2.1, h.2.2, by have := hb h.1; omega⟩
    · simp
      omega
  induction m with
  | zero =>
    have := key [] (lvl c cs st xs now 0) (now - 1) (fun h => by simp at h) (.inr (by unfold lvl; dsimp only; omega))
    obtain ⟨k1, k2, k3, k4⟩ := this
    exact ⟨k1, k2, k3, by have e : now - 1 + 1 = now := by omega
                          rw [e] at k4; exact Int.le_trans k4 (by simp)⟩
  | succ m ih =>
    have := key (outL (lvs c cs st xs now (m + 1))) (lvl c cs st xs now (m + 1)) (now + m) (fun _ => ih.2.2.2) (.inl (by unfold lvl; dsimp only; push_cast; omega))
    rw [← outL_snoc] at this
    obtain ⟨k1, k2, k3, k4⟩ := this
    exact ⟨k1, k2, k3, by push_cast; rw [show now + ((m : Int) + 1) = now + m + 1 by omega]; exact k4⟩
/-- what ForecastSteps asks of two levels that follow each other -/
def follows (c : Cf) (R un : Int) (x y : Lv) : Prop := x.tk < y.tk ∧ y.tk < un ∧ ¬ (y.st = x.st ∧ y.rv = x.rv) ∧ y.all ≤ x.all + c.wd * 16 ∧ x.all ≤ y.all + R
theorem outL_steps {c : Cf} {cs : List Ct} {st : Int} {xs : List Int} {now un : Int} (hz : ∀ j, j < cs.length → stepE cs j = 0) (hw : c.wd ≤ 1099511627776) (hw0 : 0 ≤ c.wd) (h0 : 0 ≤ st ∧ st ≤ 1099511627776) (hr : Rb xs) :
    ∀ m : Nat, now + m ≤ un → ((0 < m → ((outL (lvs c cs st xs now m)).getD 0 lv0).tk = now) ∧ ∀ i, 1 ≤ i → i < (outL (lvs c cs st xs now m)).length → follows c (rateS cs cs.length) un ((outL (lvs c cs st xs now m)).getD (i - 1) lv0) ((outL (lvs c cs st xs now m)).getD i lv0))
  | 0, _ => ⟨fun h => by omega, fun i h1 h2 => by simp [lvs, outL] at h2⟩
  | m + 1, hm => by
    obtain ⟨ihh, ih⟩ := outL_steps (now := now) (un := un) hz hw hw0 h0 hr m (by omega)
    rw [show outL (lvs c cs st xs now (m + 1)) = addL (outL (lvs c cs st xs now m)) (lvl c cs st xs now m) from outL_snoc _ _]
    cases m with
    | zero =>
      refine ⟨fun _ => ?_, fun i h1 h2 => ?_⟩
      · show ((addL [] (lvl c cs st xs now 0)).getD 0 lv0).tk = now
        unfold addL lvl
        simp
      · have := addL_len (outL (lvs c cs st xs now 0)) (lvl c cs st xs now 0)
        have h0 : (outL (lvs c cs st xs now 0)).length = 0 := rfl
        omega
    | succ m =>
      obtain ⟨k1, k2, k3, k4⟩ := outL_last c cs st xs now m
      have hnx := lvl_next (now := now) hz hw hw0 h0 hr m
      have htk : (lvl c cs st xs now (m + 1)).tk = now + (m + 1 : Nat) := rfl
      generalize outL (lvs c cs st xs now (m + 1)) = l at *
      generalize lvl c cs st xs now (m + 1) = y at *
      unfold addL
      by_cases hs : 0 < l.length ∧ (l.getD (l.length - 1) lv0).st = y.st ∧ (l.getD (l.length - 1) lv0).rv = y.rv
      · rw [if_pos hs]; exact ⟨fun _ => ihh (by omega), ih⟩
      · rw [if_neg hs]
        refine ⟨fun _ => ?_, fun i h1 h2 => ?_⟩
        · rw [List.getD_eq_getElem?_getD, List.getElem?_append_left k1, ← List.getD_eq_getElem?_getD]
          exact ihh (by omega)
        · rw [List.length_append, List.length_singleton] at h2
          have hleft : ∀ j, j < l.length → (l ++ [y]).getD j lv0 = l.getD j lv0 := fun j hj => by
            rw [List.getD_eq_getElem?_getD, List.getElem?_append_left hj, ← List.getD_eq_getElem?_getD]
          by_cases hi : i < l.length
          · rw [hleft i hi, hleft (i - 1) (by omega)]
            exact ih i h1 hi
          · obtain rfl : i = l.length := by omega
            rw [hleft (l.length - 1) (by omega), show (l ++ [y]).getD l.length lv0 = y by simp]
            refine ⟨by rw [htk]; push_cast; omega, by rw [htk]; push_cast at hm ⊢; omega, fun h => hs ⟨k1, h.1.symm, h.2.symm⟩, ?_, ?_⟩
            · unfold Lv.all at hnx ⊢
              rw [k2, k3]; exact hnx.1
            · unfold Lv.all at hnx ⊢
              rw [k2, k3]; exact hnx.2
end Go.Proofs.Ytnbjdgjopdeolaa
