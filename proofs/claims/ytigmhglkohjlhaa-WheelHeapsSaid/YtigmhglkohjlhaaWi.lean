


/- Timers: whether all timers of a list are in another one. -/
import Derived.Test.YtigmhglkohjlhaaAw
namespace Go.Proofs.Ytigmhglkohjlhaa
open Go.RowKit
set_option linter.unusedSimpArgs false
set_option linter.unusedVariables false
set_option maxRecDepth 100000

def fndB (t : Tm) (l : List Tm) : Nat → Bool
  | 0 => false
  | j + 1 => fndB t l j || decide (t = g l j)
theorem fndB_iff (t : Tm) (l : List Tm) : ∀ j, fndB t l j = true ↔ ∃ i, i < j ∧ t = g l i
  | 0 => ⟨(fun h => by simp [fndB] at h), (fun ⟨i, hi, _⟩ => by omega)⟩
  | j + 1 => by
    unfold fndB
    rw [Bool.or_eq_true, fndB_iff t l j, decide_eq_true_eq]
    constructor
    · rintro (⟨i, hi, h⟩ | h)
      · exact ⟨i, by omega, h⟩
      · exact ⟨j, by omega, h⟩
    · rintro ⟨i, hi, h⟩
      by_cases hij : i = j
      · subst hij; exact .inr h
      · exact .inl ⟨i, by omega, h⟩
theorem fndB_all (t : Tm) (l : List Tm) : fndB t l l.length = decide (t ∈ l) := by
  rw [Bool.eq_iff_iff, fndB_iff, decide_eq_true_eq]
  constructor
  · rintro ⟨i, hi, rfl⟩
    rw [g_at hi]; exact List.getElem_mem hi
  · intro h
    obtain ⟨i, hi, rfl⟩ := List.getElem_of_mem h
    exact ⟨i, hi, (g_at hi).symm⟩
/-- all timers of a list are in another one -/
def inL (a b : List Tm) : Bool := decide (∀ i, i < a.length → g a i ∈ b)
theorem inL_iff (a b : List Tm) : inL a b = true ↔ ∀ x, x ∈ a → x ∈ b := by
  unfold inL
  rw [decide_eq_true_eq]
  constructor
  · intro h x hx
    obtain ⟨i, hi, rfl⟩ := List.getElem_of_mem hx
    rw [← g_at hi]; exact h i hi
  · intro h i hi
    rw [g_at hi]; exact h _ (List.getElem_mem hi)
set_option maxHeartbeats 8000000 in
theorem wthn_any (v u : Value) (l m : List Tm) (w : World) (h : RdM w v l) (hu : RdM w u m) : Calls Try.prog 18 #[v, u] w fun e w' => e = .returned (.bool (inL l m)) ∧ Below w.heap.size w w' := by
  have hmx := h.2.1
  have hmy := hu.2.1
  unfold maxLen at hmx hmy
  obtain ⟨a0, n0, rfl⟩ := h.form
  obtain ⟨a1, n1, rfl⟩ := hu.form
  obtain ⟨N, hN⟩ : ∃ N, l.length = N := ⟨_, rfl⟩
  obtain ⟨M, hM⟩ : ∃ M, m.length = M := ⟨_, rfl⟩
  obtain ⟨R, hR⟩ : ∃ R, inL l m = R := ⟨_, rfl⟩
  have HRR := Lib.hid hR
  rw [hR]
  rw [hN] at h hmx ⊢
  rw [hM] at hu hmy ⊢
  have HR := Lib.hid h
  have HU := Lib.hid hu
  have HN := Lib.hid hN
  have HM := Lib.hid hM
  clear h hu hN hM hR
  go_enter Try.func18, Try.ntmps18
  go_wp2_with fail
  go_loopw [5] (fun ix wr => ∃ k : Nat, k ≤ N ∧ ix = .int .i64 (k : Int) ∧ (∀ i, i < k → g l i ∈ m) ∧ Below w.heap.size w wr) (fun ix _ => N - (intOf ix).toNat)
  case atStart => exact ⟨0, by omega, rfl, (fun i hi => by omega), Below.refl _ _⟩
  case round =>
    obtain ⟨k, hk, rfl, hall, hB⟩ := hrel
    have HALL := Lib.hid hall
    clear hall
    by_cases hlt : k < N
    · have d1 : decide ((k : Int) < (N : Int)) = true := yb (by omega)
      obtain ⟨b1, o1, rfl, hc1, g0, g1, g2, g3, g4⟩ := RdM.at (HR.out.keep hB) HN.out k hlt
      obtain ⟨t, HT⟩ : ∃ y, Hid (g l k = y) := ⟨_, rfl⟩
      rw [HT.out] at g0 g1 g2 g3 g4
      have n1' : (0 : Int) ≤ (k : Int) := by omega
      have n2' : (k : Int) < (N : Int) := by omega
      have hwk : IntKind.i64.wrap (k : Int) = (k : Int) := IntWalk.i64_in _ (by omega)
      have hwk1 : IntKind.i64.wrap ((k : Int) + 1) = (k : Int) + 1 := IntWalk.i64_in _ (by omega)
      have HB := Lib.hid hB
      have HG : Hid (MA wr b1 (o1 + k * 5) t) := ⟨g0, g1, g2, g3, g4⟩
      clear g0 g1 g2 g3 g4 hB
      go_wp2_with fail
      go_loopw [6, 7] (fun fo jx ws => ∃ (j : Nat) (F : Bool), j ≤ M ∧ F = fndB t m j ∧ fo = .bool F ∧ jx = .int .i64 (j : Int) ∧ Below wr.heap.size wr ws) (fun _ jx _ => M - (intOf jx).toNat)
      case atStart => exact ⟨0, _, by omega, rfl, rfl, rfl, Below.refl _ _⟩
      case round =>
        obtain ⟨j, F, hj, hF, rfl, rfl, hBs⟩ := hrel
        by_cases hjl : j < M
        · have d3 : decide ((j : Int) < (M : Int)) = true := yb (by omega)
          obtain ⟨b2, o2, rfl, hc2, q0, q1, q2, q3, q4⟩ := RdM.at (HU.out.keep (Below.next HB.out hBs)) HM.out j hjl
          obtain ⟨y, HY⟩ : ∃ y, Hid (g m j = y) := ⟨_, rfl⟩
          rw [HY.out] at q0 q1 q2 q3 q4
          have p0 := cell_later hBs HG.out.1
          have p1 := cell_later hBs HG.out.2.1
          have p2 := cell_later hBs HG.out.2.2.1
          have p3 := cell_later hBs HG.out.2.2.2.1
          have p4 := cell_later hBs HG.out.2.2.2.2
          have j1 : (0 : Int) ≤ (j : Int) := by omega
          have j2 : (j : Int) < (M : Int) := by omega
          have hwj : IntKind.i64.wrap (j : Int) = (j : Int) := IntWalk.i64_in _ (by omega)
          have hwj1 : IntKind.i64.wrap ((j : Int) + 1) = (j : Int) + 1 := IntWalk.i64_in _ (by omega)
          have HST : Hid (fndB t m (j + 1) = (F || decide (t = y))) := by
            unfold Hid
            rw [hF, ← HY.out]
            rfl
          clear hF hc2 hc1
          cases F
          · by_cases he : t = y
            · subst he
              have e0 : (t.tk == t.tk) = true := by simp
              have e1 : (t.kd == t.kd) = true := by simp
              have e2 : (t.nd == t.nd) = true := by simp
              have e3 : (t.sq == t.sq) = true := by simp
              have e4 : (t.of == t.of) = true := by simp
              go_wp2_with fail
              go_quiet (fail)
              go_wp2_with fail
              go_roundw
              case rel => exact ⟨j + 1, true, by omega, by rw [HST.out]; first | (simp; done) | exact (nb HNE.out).symm | (rw [nb HNE.out]; rfl), rfl, by go_num, below_drewN hBs _⟩
              case measure => simp [intOf]; omega
            · have hne : ¬ (t.tk = y.tk ∧ t.kd = y.kd ∧ t.nd = y.nd ∧ t.sq = y.sq ∧ t.of = y.of) := fun h => he (tm_ext h.1 h.2.1 h.2.2.1 h.2.2.2.1 h.2.2.2.2)
              have HNE := Lib.hid he
              clear he
              by_cases x0 : t.tk = y.tk
              · by_cases x1 : t.kd = y.kd
                · by_cases x2 : t.nd = y.nd
                  · by_cases x3 : t.sq = y.sq
                    · have e0 : (t.tk == y.tk) = true := by simpa using x0
                      have e1 : (t.kd == y.kd) = true := by simpa using x1
                      have e2 : (t.nd == y.nd) = true := by simpa using x2
                      have e3 : (t.sq == y.sq) = true := by simpa using x3
                      have e4 : (t.of == y.of) = false := by simpa using fun h => hne ⟨x0, x1, x2, x3, h⟩
                      clear hne x0 x1 x2 x3
                      go_wp2_with fail
                      go_quiet (fail)
                      go_wp2_with fail
                      go_roundw
                      case rel => exact ⟨j + 1, false, by omega, by rw [HST.out]; first | (simp; done) | exact (nb HNE.out).symm | (rw [nb HNE.out]; rfl), rfl, by go_num, below_drewN hBs _⟩
                      case measure => simp [intOf]; omega
                    · have e0 : (t.tk == y.tk) = true := by simpa using x0
                      have e1 : (t.kd == y.kd) = true := by simpa using x1
                      have e2 : (t.nd == y.nd) = true := by simpa using x2
                      have e3 : (t.sq == y.sq) = false := by simpa using x3
                      clear hne x0 x1 x2 x3
                      go_wp2_with fail
                      go_quiet (fail)
                      go_wp2_with fail
                      go_roundw
                      case rel => exact ⟨j + 1, false, by omega, by rw [HST.out]; first | (simp; done) | exact (nb HNE.out).symm | (rw [nb HNE.out]; rfl), rfl, by go_num, below_drewN hBs _⟩
                      case measure => simp [intOf]; omega
                  · have e0 : (t.tk == y.tk) = true := by simpa using x0
                    have e1 : (t.kd == y.kd) = true := by simpa using x1
                    have e2 : (t.nd == y.nd) = false := by simpa using x2
                    clear hne x0 x1 x2
                    go_wp2_with fail
                    go_quiet (fail)
                    go_wp2_with fail
                    go_roundw
                    case rel => exact ⟨j + 1, false, by omega, by rw [HST.out]; first | (simp; done) | exact (nb HNE.out).symm | (rw [nb HNE.out]; rfl), rfl, by go_num, below_drewN hBs _⟩
                    case measure => simp [intOf]; omega
                · have e0 : (t.tk == y.tk) = true := by simpa using x0
                  have e1 : (t.kd == y.kd) = false := by simpa using x1
                  clear hne x0 x1
                  go_wp2_with fail
                  go_quiet (fail)
                  go_wp2_with fail
                  go_roundw
                  case rel => exact ⟨j + 1, false, by omega, by rw [HST.out]; first | (simp; done) | exact (nb HNE.out).symm | (rw [nb HNE.out]; rfl), rfl, by go_num, below_drewN hBs _⟩
                  case measure => simp [intOf]; omega
              · have e0 : (t.tk == y.tk) = false := by simpa using x0
                clear hne x0
                go_wp2_with fail
                go_quiet (fail)
                go_wp2_with fail
                go_roundw
                case rel => exact ⟨j + 1, false, by omega, by rw [HST.out]; first | (simp; done) | exact (nb HNE.out).symm | (rw [nb HNE.out]; rfl), rfl, by go_num, below_drewN hBs _⟩
                case measure => simp [intOf]; omega
          · go_wp2_with fail
            go_quiet (fail)
            go_wp2_with fail
            go_roundw
            case rel => exact ⟨j + 1, true, by omega, by rw [HST.out]; rfl, rfl, by go_num, below_drewN hBs _⟩
            case measure => simp [intOf]; omega
        · obtain rfl : j = M := by omega
          have d3 : decide ((j : Int) < (j : Int)) = false := nb (by omega)
          rw [← HM.out, fndB_all] at hF
          by_cases hin : t ∈ m
          · obtain rfl : F = true := by rw [hF]; exact yb hin
            have HIN := Lib.hid hin
            clear hF hin
            go_wp2_with fail
            go_roundw
            case rel => exact ⟨k + 1, by omega, by go_num, (fun i hi => by
              by_cases hik : i = k
              · subst hik; rw [HT.out]; exact HIN.out
              · exact HALL.out i (by omega)), Below.next HB.out hBs⟩
            case measure => simp [intOf]; omega
          · obtain rfl : F = false := by rw [hF]; exact nb hin
            have hr : R = false := by
              rw [← HRR.out]
              unfold inL
              exact nb (fun h => hin (by have := h k (by rw [HN.out]; exact hlt); rwa [HT.out] at this))
            have HRF := Lib.hid hr
            clear hF hin hr
            go_wp2_with fail
            go_ret
            exact ⟨by rw [HRF.out]; rfl, Below.next HB.out hBs⟩
    · obtain rfl : k = N := by omega
      have d1 : decide ((k : Int) < (k : Int)) = false := nb (by omega)
      have hr : R = true := by
        rw [← HRR.out]
        unfold inL
        exact yb (fun i hi => HALL.out i (by rw [HN.out] at hi; exact hi))
      have HRF := Lib.hid hr
      clear hr
      go_wp2_with fail
      go_ret
      exact ⟨by rw [HRF.out]; rfl, hB⟩
end Go.Proofs.Ytigmhglkohjlhaa
