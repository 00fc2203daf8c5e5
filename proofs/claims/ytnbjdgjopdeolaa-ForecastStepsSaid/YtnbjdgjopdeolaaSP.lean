

/- Forecast, plainly: bounds of the levels of what made makes. -/
import Derived.Test.YtnbjdgjopdeolaaPQ
namespace Go.Proofs.Ytnbjdgjopdeolaa
open Go.RowKit
set_option linter.unusedSimpArgs false
set_option linter.unusedVariables false

theorem addL_mem {l : List Lv} {x y : Lv} (h : y ∈ addL l x) : y ∈ l ∨ y = x := by
  unfold addL at h
  split at h
  · exact .inl h
  · simpa using h
theorem outL_mem (c : Cf) (cs : List Ct) (st : Int) (xs : List Int) (now : Int) : ∀ (m : Nat) (y : Lv), y ∈ outL (lvs c cs st xs now m) → ∃ k, k < m ∧ y = lvl c cs st xs now k
  | 0, y, h => by simp [lvs, outL] at h
  | m + 1, y, h => by
    rw [show outL (lvs c cs st xs now (m + 1)) = addL (outL (lvs c cs st xs now m)) (lvl c cs st xs now m) from outL_snoc _ _] at h
    rcases addL_mem h with h | h
    · obtain ⟨k, hk, he⟩ := outL_mem c cs st xs now m y h
      exact ⟨k, by omega, he⟩
    · exact ⟨m, by omega, h⟩
theorem lvl_bd {c : Cf} {cs : List Ct} {st : Int} {xs : List Int} {now : Int} (hz : ∀ j, j < cs.length → stepE cs j = 0) (hw : c.wd ≤ 1099511627776) (h0 : 0 ≤ st ∧ st ≤ 1099511627776) (hr : Rb xs) (m : Nat) :
    (lvl c cs st xs now m).tk = now + m ∧ (0 ≤ (lvl c cs st xs now m).st ∧ (lvl c cs st xs now m).st ≤ 1099511627776 + 17592186044416 * m) ∧ 0 ≤ (lvl c cs st xs now m).rv ∧ (lvl c cs st xs now m).rv ≤ 17592186044416 := by
  obtain ⟨h1, h2, h3⟩ := stF_b (q := 0) hz hw h0 hr (now := now) m
  have n1 := (nxK_rb hz (nd := c.nd) (t := now + m) hw h1 _ (Nat.le_refl _)).sum
  exact ⟨rfl, ⟨h2, h3⟩, n1⟩
/-- bounds of a level, for a time of at most 1,000 ticks -/
def Lb (x : Lv) : Prop := (0 ≤ x.st ∧ x.st ≤ 20000000000000000) ∧ 0 ≤ x.rv ∧ x.rv ≤ 20000000000000000
theorem lvO_bd {c : Cf} {cs : List Ct} {st : Int} {xs : List Int} {now : Int} (hz : ∀ j, j < cs.length → stepE cs j = 0) (hw : c.wd ≤ 1099511627776) (h0 : 0 ≤ st ∧ st ≤ 1099511627776) (hr : Rb xs) {M : Nat} (hM : M ≤ 1000) {i : Nat} (hi : i < (lvO c cs st xs now M).length) :
    Lb ((lvO c cs st xs now M).getD i lv0) := by
  have hm : (lvO c cs st xs now M).getD i lv0 ∈ outL (lvs c cs st xs now M) := by
    rw [List.getD_eq_getElem?_getD, List.getElem?_eq_getElem hi]
    exact List.getElem_mem hi
  obtain ⟨k, hk, he⟩ := outL_mem c cs st xs now M _ hm
  rw [he]
  obtain ⟨_, ⟨h1, h2⟩, h3, h4⟩ := lvl_bd (now := now) hz hw h0 hr k
  exact ⟨⟨h1, by omega⟩, h3, by omega⟩
theorem rateS_bd {cs : List Ct} (h : ∀ k, k < cs.length → okC (cs.getD k c0)) : ∀ k, k ≤ cs.length → 0 ≤ rateS cs k ∧ rateS cs k ≤ 1048576 * k
  | 0, _ => ⟨Int.le_refl _, by simp [rateS]⟩
  | k + 1, hk => by
    have ih := rateS_bd h k (by omega)
    have h1 := (h k (by omega)).2.2.2.2.2.2
    unfold rateS
    omega
theorem step_of_planChk {cs : List Ct} (h : planChk cs = (0, 0)) : ∀ j, j < cs.length → stepE cs j = 0 := (ok_of_planChk h).2
theorem rb_of {xs : List Int} (hl : xs.length = 16) (hx : Nn xs) (hsum : xs.sum ≤ 276) : Rb xs := by
  refine ⟨hl, fun i hi => ?_⟩
  have hn := hx.get i (by rw [hl]; exact hi)
  have hs := sum_take_succ xs i (by rw [hl]; exact hi)
  have hle := sum_take_le hx (i + 1)
  have hnn := sum_nn (hx.take i)
  omega
/-- the levels that made's numbers give, as ForecastSteps asks -/
structure StL (c : Cf) (R un : Int) (l : List Lv) : Prop where
  pos : 0 < l.length
  len : l.length ≤ 1000
  fst : (l.getD 0 lv0).tk = 0
  fol : ∀ i, 1 ≤ i → i < l.length → follows c R un (l.getD (i - 1) lv0) (l.getD i lv0)
  bd : ∀ i, i < l.length → Lb (l.getD i lv0)
theorem lvO_stl {c : Cf} {cs : List Ct} {st : Int} {xs : List Int} {un : Int} (hp : planChk cs = (0, 0)) (hw0 : 0 ≤ c.wd) (hw : c.wd ≤ 1099511627776) (h0 : 0 ≤ st ∧ st ≤ 1099511627776) (hr : Rb xs) (h1 : 1 ≤ un) (h2 : un ≤ 1000) :
    StL c (rateS cs cs.length) un (lvO c cs st xs 0 (un - 0).toNat) := by
  have hz := step_of_planChk hp
  obtain ⟨M, hM⟩ : ∃ M : Nat, (un - 0).toNat = M + 1 := ⟨(un - 0).toNat - 1, by omega⟩
  rw [hM]
  obtain ⟨a, b⟩ := outL_steps (now := 0) (un := un) hz hw hw0 h0 hr (M + 1) (by omega)
  have hl := lvO_len c cs st xs 0 (M + 1)
  exact ⟨(outL_last c cs st xs 0 M).1, by omega, a (by omega), b, fun i hi => lvO_bd hz hw h0 hr (by omega) hi⟩
end Go.Proofs.Ytnbjdgjopdeolaa
