


/- What the later laws ask about. -/
import Derived.Test.YtgmfifilgbbogaaRUa
import Derived.Test.YtgmfifilgbbogaaPP
import Derived.Test.YtgmfifilgbbogaaSAp
namespace Go.Proofs.Ytgmfifilgbbogaa
open Go.RowKit
set_option linter.unusedSimpArgs false
set_option linter.unusedVariables false
set_option maxRecDepth 100000

set_option maxHeartbeats 1000000 in
theorem asked_any (nv : Value) (nums : List Int) (n : Int) (hb : ∀ x ∈ nums, Ib x) (hn : Ib n) (w : World) (h : RdI .i64 w nv nums) :
    Calls Try.prog 31 #[nv, .int .i64 n] w fun e w' => ∃ pv, e = .returned (.tuple #[pv, .int .i64 (askV nums n).fr, .int .i64 (askV nums n).nd, .int .i64 (askV nums n).tk, .int .i64 (askV nums n).sz]) ∧ RdC w' pv (askV nums n).plan ∧ Below w.heap.size w w' := by
  unfold askV
  obtain ⟨a, c, rfl⟩ := h.form
  have HPL := Lib.hid (plan_any (.slice a nums.length c) nums 12 (by decide) hb w h)
  obtain ⟨N, hN⟩ : ∃ N, nums.length = N := ⟨_, rfl⟩
  rw [hN] at HPL ⊢
  obtain ⟨m, hm⟩ : ∃ m, n % 1048576 = m := ⟨_, rfl⟩
  have hm0 : 0 ≤ m := by rw [← hm]; exact Int.emod_nonneg _ (by decide)
  have hm1 : m < 1048576 := by rw [← hm]; exact Int.emod_lt_of_pos _ (by decide)
  have HMd := Lib.hid (mod_any n 1048576 (by decide) (by decide) hn w)
  rw [hm] at HMd ⊢
  obtain ⟨p1, e1⟩ : ∃ p, m % 5 = p := ⟨_, rfl⟩
  obtain ⟨p2, e2⟩ : ∃ p, m / 5 = p := ⟨_, rfl⟩
  obtain ⟨p3, e3⟩ : ∃ p, p2 % 5 = p := ⟨_, rfl⟩
  obtain ⟨p4, e4⟩ : ∃ p, m / 25 = p := ⟨_, rfl⟩
  obtain ⟨p5, e5⟩ : ∃ p, p4 % 50 = p := ⟨_, rfl⟩
  obtain ⟨p6, e6⟩ : ∃ p, m / 1250 = p := ⟨_, rfl⟩
  obtain ⟨p7, e7⟩ : ∃ p, p6 % 400 = p := ⟨_, rfl⟩
  have q1 : m.tmod 5 = p1 := by rw [Int.tmod_eq_emod_of_nonneg hm0, e1]
  have q2 : IntKind.i64.wrap (1 + p1) = 1 + p1 := IntWalk.i64_in _ (by omega)
  have q3 : IntKind.i64.wrap (m.tdiv 5) = p2 := by rw [Int.tdiv_eq_ediv_of_nonneg hm0, e2]; exact IntWalk.i64_in _ (by omega)
  have q4 : p2.tmod 5 = p3 := by rw [Int.tmod_eq_emod_of_nonneg (by omega), e3]
  have q5 : IntKind.i64.wrap (1 + p3) = 1 + p3 := IntWalk.i64_in _ (by omega)
  have q6 : IntKind.i64.wrap (m.tdiv 25) = p4 := by rw [Int.tdiv_eq_ediv_of_nonneg hm0, e4]; exact IntWalk.i64_in _ (by omega)
  have q7 : p4.tmod 50 = p5 := by rw [Int.tmod_eq_emod_of_nonneg (by omega), e5]
  have q8 : IntKind.i64.wrap (m.tdiv 1250) = p6 := by rw [Int.tdiv_eq_ediv_of_nonneg hm0, e6]; exact IntWalk.i64_in _ (by omega)
  have q9 : p6.tmod 400 = p7 := by rw [Int.tmod_eq_emod_of_nonneg (by omega), e7]
  have q10 : IntKind.i64.wrap (1 + p7) = 1 + p7 := IntWalk.i64_in _ (by omega)
  rw [e1, e2, e3, e4, e5, e6, e7]
  clear h hN hm e1 e2 e3 e4 e5 e6 e7 hm0 hm1
  go_enter Try.func31, Try.ntmps31
  go_wp2_with fail
  refine HMd.out.mono ?_
  rintro e w1 ⟨rfl, h9⟩
  obtain rfl := h9
  have HPL2 : Hid (Calls Try.prog 49 #[.slice a N c, .int .i64 12] w (PR w (plK nums 12 N))) := HPL
  clear HPL HMd
  go_wp2_with fail
  refine HPL2.out.mono ?_
  rintro e w2 ⟨pv, rfl, hrd, hb2⟩
  go_wp2_with fail
  refine bodyPost_ret (v := .tuple #[pv, .int .i64 (1 + p1), .int .i64 (1 + p3), .int .i64 p5, .int .i64 (1 + p7)]) (by simp [results, Try.results31, go_sem]) rfl ⟨pv, rfl, hrd, hb2⟩
end Go.Proofs.Ytgmfifilgbbogaa
