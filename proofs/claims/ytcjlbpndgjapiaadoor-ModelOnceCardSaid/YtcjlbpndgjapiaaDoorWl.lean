




/- The law's worlds made of numbers. -/
import Derived.Test.YtcjlbpndgjapiaaDoorAc
namespace Go.Proofs.YtcjlbpndgjapiaaDoor
open Go.RowKit
set_option linter.unusedSimpArgs false
set_option linter.unusedVariables false
set_option maxRecDepth 100000

theorem EBd : ElemOk Tryd.prog 22 41 (.agg #[.int .i64 0, .int .u64 0, .int .i64 0, .int .i64 0, .int .i64 0, .int .i64 0, .int .i64 0, .int .i64 0, .string ⟨#[]⟩]) 9 80 := ⟨Tryd.underlying22, by kernel_rfl, rfl, by decide⟩
theorem mkB_w {n : Int} (hn : 0 ≤ n) {i : Nat} (hi : i ≤ 3) : BdW (mkB n i) := by
  have h := mkB_sm hn hi
  obtain ⟨h1, h2, h3, h4, h5, h6, h7, h8, h9⟩ := h
  refine ⟨⟨?_, ?_, ?_⟩, ?_, ?_, ?_, ?_, ?_, ?_⟩
  · unfold Ib; omega
  · unfold Ub; omega
  · unfold Ib; omega
  · unfold Ib; omega
  · unfold Ib; omega
  · unfold Ib; omega
  · unfold Ib; omega
  · unfold Ib; omega
  · unfold maxLen; omega
theorem mkW_w {n : Int} (hn : 0 ≤ n) : ∀ b, b ∈ mkW n → BdW b := fun b hb => by
  unfold mkW mkK at hb
  obtain ⟨i, hi, rfl⟩ := List.mem_map.1 hb
  rw [List.mem_range] at hi
  exact mkB_w hn (by omega)
set_option maxHeartbeats 4000000 in
theorem mkworld_any (n : Int) (hn : Ib n) (w : World) : Calls Tryd.prog 33 #[.int .i64 n] w fun e w' => ∃ a c, e = .returned (.slice a (mkW (n % 1048576)).length c) ∧ RdB w' (.slice a (mkW (n % 1048576)).length c) (mkW (n % 1048576)) ∧ Below w.heap.size w w' := by
  obtain ⟨m, HM, m0, m1⟩ : ∃ y, Hid (n % 1048576 = y) ∧ 0 ≤ y ∧ y < 1048576 := ⟨_, rfl, Int.emod_nonneg _ (by omega), Int.emod_lt_of_pos _ (by omega)⟩
  obtain ⟨c, HC⟩ : ∃ c : Nat, Hid (m % 4 = (c : Int)) := ⟨(m % 4).toNat, Lib.hid (by omega)⟩
  have hc : c ≤ 3 := by have := HC.out; omega
  have HX : Hid (mkW m = mkK m (c + 1)) := Lib.hid (by unfold mkW; rw [show (m % 4).toNat = c by have := HC.out; omega])
  have q0 : m.tdiv 4 = m / 4 := Int.tdiv_eq_ediv_of_nonneg m0
  have q1 : m.tmod 4 = (c : Int) := (Int.tmod_eq_emod_of_nonneg m0).trans HC.out
  have v0 : IntKind.i64.wrap (m / 4) = m / 4 := IntWalk.i64_in _ (by omega)
  have v1 : IntKind.i64.wrap (c : Int) = (c : Int) := IntWalk.i64_in _ (by omega)
  rw [HM.out, HX.out]
  have hlk : (mkK m (c + 1)).length = c + 1 := by simp [mkK]
  rw [hlk]
  have HCC := Lib.hid hc
  have HM0 := Lib.hid m0
  have HM1 := Lib.hid m1
  clear hlk hc
  go_enter Tryd.func33, Tryd.ntmps33
  go_wp2_with fail
  refine (mod_any n 1048576 (by omega) (by omega) hn _).mono ?_
  rw [HM.out]
  rintro e w9 ⟨rfl, rfl⟩
  go_wp2_with fail
  go_loopw [3, 4] (fun sv iv wr => ∃ (j : Nat) (a : Option Addr) (cp : Nat), j ≤ c + 1 ∧ iv = .int .i64 j ∧ sv = .slice a j cp ∧ wr.ownsRow w.heap.size 41 9 (.slice a j cp) j (rcs bdR (mkK m j)) ∧ Below w.heap.size w wr) (fun _ iv _ => c + 1 - (intOf iv).toNat)
  case atStart => exact ⟨0, none, 0, Nat.zero_le _, rfl, rfl, ⟨rfl, .inl ⟨rfl, rfl⟩⟩, Below.refl _ _⟩
  case round =>
    obtain ⟨j, a, cp, hj, rfl, rfl, hOW, hB⟩ := hrel
    have HOW := Lib.hid hOW
    have HB := Lib.hid hB
    clear hOW hB
    by_cases hlt : j ≤ c
    · have d2 : decide ((j : Int) ≤ (c : Int)) = true := yb (by omega)
      have d2' : decide (j ≤ c) = true := yb hlt
      have HJ := Lib.hid hlt
      have hj3 : j ≤ 3 := by have := HCC.out; omega
      obtain ⟨K, HK⟩ : ∃ K : Int, Hid (m / 4 + 37 * (j : Int) = K) := ⟨_, Lib.hid rfl⟩
      have K0 : 0 ≤ K := by have := HK.out; have := HM0.out; omega
      have K1 : K < 1000000 := by have := HK.out; have := HM1.out; omega
      have r0 : IntKind.i64.wrap (37 * (j : Int)) = 37 * (j : Int) := IntWalk.i64_in _ (by omega)
      have r1 : IntKind.i64.wrap (m / 4 + 37 * (j : Int)) = K := by rw [HK.out]; exact IntWalk.i64_in _ (by omega)
      have s0 : K.tmod 3 = K % 3 := Int.tmod_eq_emod_of_nonneg K0
      have s1 : K.tdiv 3 = K / 3 := Int.tdiv_eq_ediv_of_nonneg K0
      have s2 : (K / 3).tmod 3 = K / 3 % 3 := Int.tmod_eq_emod_of_nonneg (by omega)
      have s3 : K.tdiv 9 = K / 9 := Int.tdiv_eq_ediv_of_nonneg K0
      have s4 : (K / 9).tmod 5 = K / 9 % 5 := Int.tmod_eq_emod_of_nonneg (by omega)
      have s5 : K.tdiv 45 = K / 45 := Int.tdiv_eq_ediv_of_nonneg K0
      have s6 : (K / 45).tmod 20 = K / 45 % 20 := Int.tmod_eq_emod_of_nonneg (by omega)
      have t0 : IntKind.i64.wrap (1 + K % 3) = 1 + K % 3 := IntWalk.i64_in _ (by omega)
      have t1 : IntKind.i64.wrap (K / 3) = K / 3 := IntWalk.i64_in _ (by omega)
      have t2 : IntKind.i64.wrap (1 + K / 3 % 3) = 1 + K / 3 % 3 := IntWalk.i64_in _ (by omega)
      have t3 : IntKind.i64.wrap (K / 9) = K / 9 := IntWalk.i64_in _ (by omega)
      have t4 : IntKind.i64.wrap (K / 45) = K / 45 := IntWalk.i64_in _ (by omega)
      have t5 : IntKind.i64.wrap (1 + K / 45 % 20) = 1 + K / 45 % 20 := IntWalk.i64_in _ (by omega)
      have t6 : IntKind.u64.wrap (j : Int) = (j : Int) := IntWalk.u64_in _ (by omega)
      have t7 : IntKind.i64.wrap ((j : Int) + 1) = (j : Int) + 1 := IntWalk.i64_in _ (by omega)
      have t8 : IntKind.i64.wrap (K % 3) = K % 3 := IntWalk.i64_in _ (by omega)
      have t9 : IntKind.i64.wrap (K / 3 % 3) = K / 3 % 3 := IntWalk.i64_in _ (by omega)
      have t10 : IntKind.i64.wrap (K / 9 % 5) = K / 9 % 5 := IntWalk.i64_in _ (by omega)
      have t11 : IntKind.i64.wrap (K / 45 % 20) = K / 45 % 20 := IntWalk.i64_in _ (by omega)
      have HE : Hid (mkK m (j + 1) = mkK m j ++ [⟨⟨1 + K % 3, j, 0⟩, 1 + K / 3 % 3, 0, K / 9 % 5, 1 + K / 45 % 20, 1, dA⟩]) := Lib.hid (by rw [mkK_succ]; unfold mkB; rw [HK.out])
      have HJ3 := Lib.hid hj3
      have HRD : Hid (∀ A T, A = (rcs bdR [(⟨⟨1 + K % 3, j, 0⟩, 1 + K / 3 % 3, 0, K / 9 % 5, 1 + K / 45 % 20, 1, dA⟩ : Bd)]).toArray → RdS (wr.alloc (.cells A T)) 9 (.slice (some ⟨wr.heap.size, 0, none⟩) 1 1) 1 (rcs bdR [(⟨⟨1 + K % 3, j, 0⟩, 1 + K / 3 % 3, 0, K / 9 % 5, 1 + K / 45 % 20, 1, dA⟩ : Bd)])) := Lib.hid fun A T hA => rdl_new bdR wr T _ A hA 1 rfl (by decide)
      clear hlt hj hj3
      go_wp2_with (first | (at_builtin; refine wpList_app rfl (.tmp 19) (.tmp 38) 22 rfl w.heap.size 41 _ 9 80 EBd _ _ _ rfl (HOW.out.alloc _) _ 1 (rcs bdR [(⟨⟨1 + K % 3, j, 0⟩, 1 + K / 3 % 3, 0, K / 9 % 5, 1 + K / 45 % 20, 1, dA⟩ : Bd)]) rfl (HRD.out _ _ rfl) (rcs_one _ _) ?c1 ?c2 ?c3 ?_) | fail)
      case c1 => have := HJ3.out; unfold maxLen; omega
      case c2 => have := HJ3.out; omega
      case c3 => have := HB.out.size; simp; omega
      intro a3 c3 w3 hown3 hg3 hb3
      have HOW3 : Hid (w3.ownsRow w.heap.size 41 9 (.slice a3 (j + 1) c3) (j + 1) (rcs bdR (mkK m (j + 1)))) := Lib.hid (by rw [HE.out, rcs_append]; with_reducible exact hown3)
      have HB5 : Hid (Below w.heap.size w w3) := Lib.hid ((Below.al HB.out _).trans hb3)
      clear hown3 hg3 hb3 HOW HB HRD
      go_wp2_with fail
      go_roundw
      case rel => exact ⟨j + 1, a3, c3, by have := HJ.out; omega, by go_num, rfl, HOW3.out, HB5.out⟩
      case measure => simp [intOf]; have := HJ.out; omega
    · obtain rfl : j = c + 1 := by omega
      have d2 : decide (((c + 1 : Nat) : Int) ≤ (c : Int)) = false := nb (by omega)
      have d2' : decide (c + 1 ≤ c) = false := nb (by omega)
      have d2'' : decide ((c : Int) + 1 ≤ (c : Int)) = false := nb (by omega)
      clear hlt
      go_wp2_with fail
      go_ret
      refine ⟨a, cp, rfl, ?_, HB.out⟩
      have hlen : (mkK m (c + 1)).length = c + 1 := by simp [mkK]
      have h8 : wr.ownsRow w.heap.size 41 9 (.slice a (c + 1) cp) (mkK m (c + 1)).length (rcs bdR (mkK m (c + 1))) := by rw [hlen]; exact HOW.out
      exact RdL.of_owns h8
end Go.Proofs.YtcjlbpndgjapiaaDoor
