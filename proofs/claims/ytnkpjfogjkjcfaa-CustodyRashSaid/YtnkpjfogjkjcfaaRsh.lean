


/- CustodyRash: the law's walk. -/
import Derived.Test.YtnkpjfogjkjcfaaCs
namespace Go.Proofs.Ytnkpjfogjkjcfaa
open Go.RowKit
set_option linter.unusedSimpArgs false
set_option linter.unusedVariables false
set_option maxRecDepth 100000

theorem lrash_any (w : World) (n : Int) (hn : Ib n) : Calls Try.prog 11 #[.int .i64 n] w fun e w' => e = .returned (.bool true) ∧ Below w.heap.size w w' := by
  obtain ⟨z, HZ, z0, z1⟩ : ∃ y, Hid (n % 7 = y) ∧ 0 ≤ y ∧ y < 7 := ⟨_, rfl, Int.emod_nonneg _ (by omega), Int.emod_lt_of_pos _ (by omega)⟩
  obtain ⟨N, hN, hN1, hN2⟩ : ∃ N : Nat, 2 + z = (N : Int) ∧ 2 ≤ N ∧ N ≤ 8 := ⟨(2 + z).toNat, by omega, by omega, by omega⟩
  have hwn : IntKind.i64.wrap (2 + z) = (N : Int) := by rw [hN]; exact IntWalk.i64_in _ (by omega)
  clear hN
  go_enter Try.func11, Try.ntmps11
  go_wp2_with fail
  refine (mod_any n 7 (by omega) (by omega) hn _).mono ?_
  rw [HZ.out]
  rintro e w9 ⟨rfl, rfl⟩
  go_wp2_with fail
  refine (circles_any w N hN1 hN2).mono ?_
  rintro e w1 ⟨rfl, hb1⟩
  go_wp2_with fail
  refine (awake_any w1).mono ?_
  rintro e w2 ⟨rfl, hb2⟩
  have hb := Below.next hb1 hb2
  clear hb1 hb2
  go_wp2_with fail
  go_ret
  exact ⟨rfl, hb⟩
end Go.Proofs.Ytnkpjfogjkjcfaa
