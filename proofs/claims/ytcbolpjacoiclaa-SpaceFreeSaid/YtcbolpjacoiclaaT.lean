






/- SpaceFree: the walk of the law, and the claim. -/
import Derived.Test.YtcbolpjacoiclaaQ
import Derived.Test.YtcbolpjacoiclaaO
import Derived.Test.YtcbolpjacoiclaaRows
namespace Go.Proofs.Ytcbolpjacoiclaa
open Go.RowKit
set_option linter.unusedSimpArgs false
set_option linter.unusedVariables false

set_option maxRecDepth 100000 in
set_option maxHeartbeats 4000000 in
theorem lawFree (q st : Int) (rs : Value) (xs : List Int) (i : Inp q st xs) (quota : Int) (w : World) (h : RdI .u64 w rs xs) :
    Calls Try.prog 3 #[Sv q st rs, .int .u64 quota] w fun e w' => e = .returned (.bool true) ∧ Below w.heap.size w w' := by
  obtain ⟨a0, c0, rfl⟩ := h.form
  obtain ⟨N, hN⟩ : ∃ N, xs.length = N := ⟨_, rfl⟩
  have HR : Hid (RdI .u64 w (.slice a0 N c0) xs) := by unfold Hid; rw [← hN]; exact h
  rw [hN]
  have HN := Lib.hid hN
  clear h hN
  by_cases hbig : 20 < N
  · have d1 : decide (20 < (N : Int)) = true := yb (by omega)
    go_enter Try.func3, Try.ntmps3
    go_wp2_with fail
    refine (awake_any _).mono ?_
    rintro e w1 ⟨rfl, hb⟩
    go_wp2_with fail
    go_ret
    exact ⟨rfl, (by repeat (first | assumption | exact Below.refl _ _ | apply Below.al | apply below_drewN | apply Below.drew | refine Below.next ?_ (by assumption) | refine Below.st ?_ (by first | exact Nat.le_refl _ | (simp; done) | (simp; omega)) _))⟩
  have d1 : decide (20 < (N : Int)) = false := nb (by omega)
  obtain ⟨q', ys, er, hmk, hrmk⟩ := makes_any quota
  obtain ⟨Y, hY⟩ : ∃ Y, ys.length = Y := ⟨_, rfl⟩
  have HY := Lib.hid hY
  obtain ⟨ck, HCK⟩ : ∃ x, Hid (chk q st xs = x) := ⟨_, rfl⟩
  obtain ⟨fv, HFV⟩ : ∃ x, Hid (frV q st xs = x) := ⟨_, rfl⟩
  obtain ⟨hv, HHV⟩ : ∃ x, Hid (hdV q st xs = x) := ⟨_, rfl⟩
  obtain ⟨m1, HM1⟩ : ∃ x, Hid ((moV q st xs).1 = x) := ⟨_, rfl⟩
  obtain ⟨m2, HM2⟩ : ∃ x, Hid ((moV q st xs).2 = x) := ⟨_, rfl⟩
  clear hY
  have de : (er != er) = false := by simp
  have dc : (ck != ck) = false := by simp
  have df : (fv != fv) = false := by simp
  have dc2 : (ck == ck) = true := by simp
  have dh2 : (hv == hv) = true := by simp
  have dm1 : (m1 == m1) = true := by simp
  have dm2 : (m2 == m2) = true := by simp
  go_enter Try.func3, Try.ntmps3
  go_wp2_with fail
  refine (ownSpace_any q st (.slice a0 N c0) xs (by rw [HN.out]; omega) _ (HR.out.keep (by repeat (first | with_reducible assumption | with_reducible exact Below.refl _ _ | with_reducible apply Below.al | with_reducible apply Below.drew | with_reducible refine Below.next ?_ (by assumption) | with_reducible refine Below.st ?_ (by first | exact Nat.le_refl _ | (simp; done) | (simp; omega)) _)))).mono ?_
  rintro e w1 ⟨v1, rfl, hr1, hF1, b1⟩
  obtain ⟨a5, c5, hv1⟩ := hr1.form
  rw [HN.out] at hv1
  subst hv1
  have R1 := Lib.hid hr1
  have hA : BS w1 w.heap.size q st (.slice a0 N c0) := BS.keep b1 (by simp [BS, go_sem])
  have hB : Below w.heap.size w w1 := (by repeat (first | with_reducible assumption | with_reducible exact Below.refl _ _ | with_reducible apply Below.al | with_reducible apply Below.drew | with_reducible refine Below.next ?_ (by assumption) | with_reducible refine Below.st ?_ (by first | exact Nat.le_refl _ | (simp; done) | (simp; omega)) _))
  clear hr1 b1 hF1
  obtain ⟨S5, hS5⟩ : ∃ S : Nat, S = w1.heap.size := ⟨_, rfl⟩
  obtain ⟨W1, hW1⟩ : ∃ W : World, W = w1.alloc (.cells #[.int .u64 q, .int .u64 st, .slice a5 N c5] 25) := ⟨_, rfl⟩
  have hA5 : BS W1 S5 q st (.slice a5 N c5) := by rw [hW1, hS5]; simp [BS, go_sem]
  have R5 : Hid (RdI .u64 W1 (.slice a5 N c5) xs) := by rw [hW1]; exact R1.out.keep (by repeat (first | with_reducible assumption | with_reducible exact Below.refl _ _ | with_reducible apply Below.al | with_reducible apply Below.drew | with_reducible refine Below.next ?_ (by assumption) | with_reducible refine Below.st ?_ (by first | exact Nat.le_refl _ | (simp; done) | (simp; omega)) _))
  have hA : BS W1 w.heap.size q st (.slice a0 N c0) := by rw [hW1]; exact BS.al _ hA
  have hB : Below w.heap.size w W1 := by rw [hW1]; exact (by repeat (first | with_reducible assumption | with_reducible exact Below.refl _ _ | with_reducible apply Below.al | with_reducible apply Below.drew | with_reducible refine Below.next ?_ (by assumption) | with_reducible refine Below.st ?_ (by first | exact Nat.le_refl _ | (simp; done) | (simp; omega)) _))
  clear R1
  go_upto_region 4 with fail
  rw [← hW1, ← hS5]
  clear hW1 hS5
  go_wp2_with fail
  refine (hmk _).mono ?_
  rintro e w2 ⟨v2, rfl, hr2, hF2, b2⟩
  obtain ⟨a6, c6, hv2⟩ := hr2.form
  rw [HY.out] at hv2
  subst hv2
  have R2 := Lib.hid hr2
  have hA5 : BS w2 S5 q st (.slice a5 N c5) := BS.keep b2 hA5
  have hA : BS w2 w.heap.size q st (.slice a0 N c0) := BS.keep b2 hA
  have R5 : Hid (RdI .u64 w2 (.slice a5 N c5) xs) := R5.out.keep b2
  have hB : Below w.heap.size w w2 := (by repeat (first | with_reducible assumption | with_reducible exact Below.refl _ _ | with_reducible apply Below.al | with_reducible apply Below.drew | with_reducible refine Below.next ?_ (by assumption) | with_reducible refine Below.st ?_ (by first | exact Nat.le_refl _ | (simp; done) | (simp; omega)) _))
  clear hr2 b2 hF2
  obtain ⟨S6, hS6⟩ : ∃ S : Nat, S = w2.heap.size := ⟨_, rfl⟩
  obtain ⟨W2, hW2⟩ : ∃ W : World, W = w2.alloc (.cells #[.int .u64 q', .int .u64 0, .slice a6 Y c6] 25) := ⟨_, rfl⟩
  have hA6 : BS W2 S6 q' 0 (.slice a6 Y c6) := by rw [hW2, hS6]; simp [BS, go_sem]
  have R6 : Hid (RdI .u64 W2 (.slice a6 Y c6) ys) := by rw [hW2]; exact R2.out.keep (by repeat (first | with_reducible assumption | with_reducible exact Below.refl _ _ | with_reducible apply Below.al | with_reducible apply Below.drew | with_reducible refine Below.next ?_ (by assumption) | with_reducible refine Below.st ?_ (by first | exact Nat.le_refl _ | (simp; done) | (simp; omega)) _))
  have R5 : Hid (RdI .u64 W2 (.slice a5 N c5) xs) := by rw [hW2]; exact R5.out.keep (by repeat (first | with_reducible assumption | with_reducible exact Below.refl _ _ | with_reducible apply Below.al | with_reducible apply Below.drew | with_reducible refine Below.next ?_ (by assumption) | with_reducible refine Below.st ?_ (by first | exact Nat.le_refl _ | (simp; done) | (simp; omega)) _))
  have hA5 : BS W2 S5 q st (.slice a5 N c5) := by rw [hW2]; exact BS.al _ hA5
  have hA : BS W2 w.heap.size q st (.slice a0 N c0) := by rw [hW2]; exact BS.al _ hA
  have hB : Below w.heap.size w W2 := by rw [hW2]; exact (by repeat (first | with_reducible assumption | with_reducible exact Below.refl _ _ | with_reducible apply Below.al | with_reducible apply Below.drew | with_reducible refine Below.next ?_ (by assumption) | with_reducible refine Below.st ?_ (by first | exact Nat.le_refl _ | (simp; done) | (simp; omega)) _))
  clear R2
  go_upto_region 5 with fail
  rw [← hW2, ← hS6]
  clear hW2 hS6
  go_wp2_with fail
  refine (hrmk _).mono ?_
  rintro e w3 ⟨v3, rfl, hr3, hF3, b3⟩
  obtain ⟨a8, c8, hv3⟩ := hr3.form
  rw [HY.out] at hv3
  subst hv3
  have R3 := Lib.hid hr3
  have hA6 : BS w3 S6 q' 0 (.slice a6 Y c6) := BS.keep b3 hA6
  have hA5 : BS w3 S5 q st (.slice a5 N c5) := BS.keep b3 hA5
  have hA : BS w3 w.heap.size q st (.slice a0 N c0) := BS.keep b3 hA
  have R5 : Hid (RdI .u64 w3 (.slice a5 N c5) xs) := R5.out.keep b3
  have R6 : Hid (RdI .u64 w3 (.slice a6 Y c6) ys) := R6.out.keep b3
  have hB : Below w.heap.size w w3 := (by repeat (first | with_reducible assumption | with_reducible exact Below.refl _ _ | with_reducible apply Below.al | with_reducible apply Below.drew | with_reducible refine Below.next ?_ (by assumption) | with_reducible refine Below.st ?_ (by first | exact Nat.le_refl _ | (simp; done) | (simp; omega)) _))
  clear hr3 b3 hF3
  obtain ⟨S8, hS8⟩ : ∃ S : Nat, S = w3.heap.size := ⟨_, rfl⟩
  obtain ⟨W, hW⟩ : ∃ W : World, W = w3.alloc (.cells #[.int .u64 q', .int .u64 0, .slice a8 Y c8] 25) := ⟨_, rfl⟩
  have hA8 : BS W S8 q' 0 (.slice a8 Y c8) := by rw [hW, hS8]; simp [BS, go_sem]
  have R8 : Hid (RdI .u64 W (.slice a8 Y c8) ys) := by rw [hW]; exact R3.out.keep (by repeat (first | with_reducible assumption | with_reducible exact Below.refl _ _ | with_reducible apply Below.al | with_reducible apply Below.drew | with_reducible refine Below.next ?_ (by assumption) | with_reducible refine Below.st ?_ (by first | exact Nat.le_refl _ | (simp; done) | (simp; omega)) _))
  have R6 : Hid (RdI .u64 W (.slice a6 Y c6) ys) := by rw [hW]; exact R6.out.keep (by repeat (first | with_reducible assumption | with_reducible exact Below.refl _ _ | with_reducible apply Below.al | with_reducible apply Below.drew | with_reducible refine Below.next ?_ (by assumption) | with_reducible refine Below.st ?_ (by first | exact Nat.le_refl _ | (simp; done) | (simp; omega)) _))
  have R5 : Hid (RdI .u64 W (.slice a5 N c5) xs) := by rw [hW]; exact R5.out.keep (by repeat (first | with_reducible assumption | with_reducible exact Below.refl _ _ | with_reducible apply Below.al | with_reducible apply Below.drew | with_reducible refine Below.next ?_ (by assumption) | with_reducible refine Below.st ?_ (by first | exact Nat.le_refl _ | (simp; done) | (simp; omega)) _))
  have hA6 : BS W S6 q' 0 (.slice a6 Y c6) := by rw [hW]; exact BS.al _ hA6
  have hA5 : BS W S5 q st (.slice a5 N c5) := by rw [hW]; exact BS.al _ hA5
  have hA : BS W w.heap.size q st (.slice a0 N c0) := by rw [hW]; exact BS.al _ hA
  have hB : Below w.heap.size w W := by rw [hW]; exact (by repeat (first | with_reducible assumption | with_reducible exact Below.refl _ _ | with_reducible apply Below.al | with_reducible apply Below.drew | with_reducible refine Below.next ?_ (by assumption) | with_reducible refine Below.st ?_ (by first | exact Nat.le_refl _ | (simp; done) | (simp; omega)) _))
  clear R3
  go_upto_region 6 with fail
  rw [← hW, ← hS8]
  clear hW hS8 hmk hrmk
  have R0 : Hid (RdI .u64 W (.slice a0 N c0) xs) := HR.out.keep hB
  have hB5 : Below W.heap.size W W := Below.refl _ _
  have K5 := Lib.hid hA5
  have K0 := Lib.hid hA
  go_cut [50] (fun t wx => t = .bool false ∧ Below W.heap.size W wx)
  case first =>
    go_region_with (first
      | (go_at_call 13; refine (same_yes q' 0 (.slice a6 Y c6) (.slice a8 Y c8) ys _ (R6.out.keep (by first | exact hB5 | exact hB5.drew)) (R8.out.keep (by first | exact hB5 | exact hB5.drew))).mono ?_; rintro e w1 ⟨rfl, hb⟩; have hA5 : BS w1 S5 q st (.slice a5 N c5) := BS.keep hb hA5; have hA : BS w1 w.heap.size q st (.slice a0 N c0) := BS.keep hb hA; have hB5 : Below W.heap.size W w1 := by first | exact Below.next hB5 hb | exact Below.next hB5.drew hb)
      | (go_at_call 14; refine (check_any q st (.slice a5 N c5) xs i _ (R5.out.keep (by first | exact hB5 | exact hB5.drew))).mono ?_; rw [HCK.out]; rintro e w1 ⟨rfl, hb⟩; have hA5 : BS w1 S5 q st (.slice a5 N c5) := BS.keep hb hA5; have hA : BS w1 w.heap.size q st (.slice a0 N c0) := BS.keep hb hA; have hB5 : Below W.heap.size W w1 := by first | exact Below.next hB5 hb | exact Below.next hB5.drew hb)
      | (go_at_call 15; refine (rcheck_any q st (.slice a0 N c0) xs i _ (R0.out.keep (by first | exact hB5 | exact hB5.drew))).mono ?_; rw [HCK.out]; rintro e w1 ⟨rfl, hb⟩; have hA5 : BS w1 S5 q st (.slice a5 N c5) := BS.keep hb hA5; have hA : BS w1 w.heap.size q st (.slice a0 N c0) := BS.keep hb hA; have hB5 : Below W.heap.size W w1 := by first | exact Below.next hB5 hb | exact Below.next hB5.drew hb))
    all_goals (go_wp2_with fail; go_meet; exact ⟨rfl, by first | exact hB5 | exact hB5.drew⟩)
  case rest =>
    obtain ⟨rfl, hBW⟩ := hcut
    rename World => wx

    have hA5 : BS wx S5 q st (.slice a5 N c5) := BS.keep hBW K5.out
    have hA : BS wx w.heap.size q st (.slice a0 N c0) := BS.keep hBW K0.out
    have R5 : Hid (RdI .u64 wx (.slice a5 N c5) xs) := R5.out.keep hBW
    have R0 : Hid (RdI .u64 wx (.slice a0 N c0) xs) := R0.out.keep hBW
    have hB : Below w.heap.size w wx := (by repeat (first | with_reducible assumption | with_reducible exact Below.refl _ _ | with_reducible apply Below.al | with_reducible apply Below.drew | with_reducible refine Below.next ?_ (by assumption) | with_reducible refine Below.st ?_ (by first | exact Nat.le_refl _ | (simp; done) | (simp; omega)) _))
    clear hBW
    go_wp2_with fail
    refine (freeS_any q st (.slice a5 N c5) xs i _ R5.out).mono ?_
    rw [HFV.out, HCK.out]
    rintro e wy ⟨rfl, hb⟩
    have hA5 : BS wy S5 q st (.slice a5 N c5) := BS.keep hb hA5
    have hA : BS wy w.heap.size q st (.slice a0 N c0) := BS.keep hb hA
    have R5 : Hid (RdI .u64 wy (.slice a5 N c5) xs) := R5.out.keep hb
    have R0 : Hid (RdI .u64 wy (.slice a0 N c0) xs) := R0.out.keep hb
    have hB : Below w.heap.size w wy := (by repeat (first | with_reducible assumption | with_reducible exact Below.refl _ _ | with_reducible apply Below.al | with_reducible apply Below.drew | with_reducible refine Below.next ?_ (by assumption) | with_reducible refine Below.st ?_ (by first | exact Nat.le_refl _ | (simp; done) | (simp; omega)) _))
    clear hb
    go_wp2_with fail
    refine (rfree_any q st (.slice a0 N c0) xs i _ R0.out).mono ?_
    rw [HFV.out, HCK.out]
    rintro e wy ⟨rfl, hb⟩
    have hA5 : BS wy S5 q st (.slice a5 N c5) := BS.keep hb hA5
    have hA : BS wy w.heap.size q st (.slice a0 N c0) := BS.keep hb hA
    have R5 : Hid (RdI .u64 wy (.slice a5 N c5) xs) := R5.out.keep hb
    have R0 : Hid (RdI .u64 wy (.slice a0 N c0) xs) := R0.out.keep hb
    have hB : Below w.heap.size w wy := (by repeat (first | with_reducible assumption | with_reducible exact Below.refl _ _ | with_reducible apply Below.al | with_reducible apply Below.drew | with_reducible refine Below.next ?_ (by assumption) | with_reducible refine Below.st ?_ (by first | exact Nat.le_refl _ | (simp; done) | (simp; omega)) _))
    clear hb
    go_wp2_with fail
    refine (heldS_any q st (.slice a5 N c5) xs i _ R5.out).mono ?_
    rw [HHV.out, HCK.out]
    rintro e wy ⟨rfl, hb⟩
    have hA5 : BS wy S5 q st (.slice a5 N c5) := BS.keep hb hA5
    have hA : BS wy w.heap.size q st (.slice a0 N c0) := BS.keep hb hA
    have R5 : Hid (RdI .u64 wy (.slice a5 N c5) xs) := R5.out.keep hb
    have R0 : Hid (RdI .u64 wy (.slice a0 N c0) xs) := R0.out.keep hb
    have hB : Below w.heap.size w wy := (by repeat (first | with_reducible assumption | with_reducible exact Below.refl _ _ | with_reducible apply Below.al | with_reducible apply Below.drew | with_reducible refine Below.next ?_ (by assumption) | with_reducible refine Below.st ?_ (by first | exact Nat.le_refl _ | (simp; done) | (simp; omega)) _))
    clear hb
    go_wp2_with fail
    refine (rheld_any q st (.slice a0 N c0) xs i _ R0.out).mono ?_
    rw [HHV.out, HCK.out]
    rintro e wy ⟨rfl, hb⟩
    have hA5 : BS wy S5 q st (.slice a5 N c5) := BS.keep hb hA5
    have hA : BS wy w.heap.size q st (.slice a0 N c0) := BS.keep hb hA
    have R5 : Hid (RdI .u64 wy (.slice a5 N c5) xs) := R5.out.keep hb
    have R0 : Hid (RdI .u64 wy (.slice a0 N c0) xs) := R0.out.keep hb
    have hB : Below w.heap.size w wy := (by repeat (first | with_reducible assumption | with_reducible exact Below.refl _ _ | with_reducible apply Below.al | with_reducible apply Below.drew | with_reducible refine Below.next ?_ (by assumption) | with_reducible refine Below.st ?_ (by first | exact Nat.le_refl _ | (simp; done) | (simp; omega)) _))
    clear hb
    go_wp2_with fail
    refine (most_any q st (.slice a5 N c5) xs i _ R5.out).mono ?_
    rw [HM1.out, HM2.out, HCK.out]
    rintro e wy ⟨rfl, hb⟩
    have hA5 : BS wy S5 q st (.slice a5 N c5) := BS.keep hb hA5
    have hA : BS wy w.heap.size q st (.slice a0 N c0) := BS.keep hb hA
    have R5 : Hid (RdI .u64 wy (.slice a5 N c5) xs) := R5.out.keep hb
    have R0 : Hid (RdI .u64 wy (.slice a0 N c0) xs) := R0.out.keep hb
    have hB : Below w.heap.size w wy := (by repeat (first | with_reducible assumption | with_reducible exact Below.refl _ _ | with_reducible apply Below.al | with_reducible apply Below.drew | with_reducible refine Below.next ?_ (by assumption) | with_reducible refine Below.st ?_ (by first | exact Nat.le_refl _ | (simp; done) | (simp; omega)) _))
    clear hb
    go_wp2_with fail
    refine (rmost_any q st (.slice a0 N c0) xs i _ R0.out).mono ?_
    rw [HM1.out, HM2.out, HCK.out]
    rintro e wy ⟨rfl, hb⟩
    have hA5 : BS wy S5 q st (.slice a5 N c5) := BS.keep hb hA5
    have hA : BS wy w.heap.size q st (.slice a0 N c0) := BS.keep hb hA
    have R5 : Hid (RdI .u64 wy (.slice a5 N c5) xs) := R5.out.keep hb
    have R0 : Hid (RdI .u64 wy (.slice a0 N c0) xs) := R0.out.keep hb
    have hB : Below w.heap.size w wy := (by repeat (first | with_reducible assumption | with_reducible exact Below.refl _ _ | with_reducible apply Below.al | with_reducible apply Below.drew | with_reducible refine Below.next ?_ (by assumption) | with_reducible refine Below.st ?_ (by first | exact Nat.le_refl _ | (simp; done) | (simp; omega)) _))
    clear hb
    go_wp2_with fail
    refine (same_yes q st (.slice a5 N c5) (.slice a0 N c0) xs _ R5.out R0.out).mono ?_
    rintro e w4 ⟨rfl, hb⟩
    have hB : Below w.heap.size w w4 := (by repeat (first | with_reducible assumption | with_reducible exact Below.refl _ _ | with_reducible apply Below.al | with_reducible apply Below.drew | with_reducible refine Below.next ?_ (by assumption) | with_reducible refine Below.st ?_ (by first | exact Nat.le_refl _ | (simp; done) | (simp; omega)) _))
    clear hA5 hA hb
    go_wp2_with fail
    refine (awake_any _).mono ?_
    rintro e w5 ⟨rfl, hb⟩
    go_wp2_with fail
    go_ret
    exact ⟨rfl, (by repeat (first | with_reducible assumption | with_reducible exact Below.refl _ _ | with_reducible apply Below.al | with_reducible apply Below.drew | with_reducible refine Below.next ?_ (by assumption) | with_reducible refine Below.st ?_ (by first | exact Nat.le_refl _ | (simp; done) | (simp; omega)) _))⟩

open Go.ChangeShapes Go.WideShapes Go.ChangeAt Go.Joins Go.Deep
theorem Try.cells22 : Try.prog.cellsOf 22 = 1 := by kernel_rfl
theorem Try.cells25 : Try.prog.cellsOf 25 = 3 := by kernel_rfl
theorem Try.own : ownKnob Try.prog.godebug = none := by kernel_rfl
theorem Try.laidOut : laidOutB Try.prog = true := by kernel_rfl

set_option maxRecDepth 100000 in
theorem spaceFree_lifted (os : Os) (started : os.Started) (H : Type) (enc : TypeId × Value → H) :
    ReturnsInHanded {} Try.checked os 3 .any (Rows.spaceFreeSpec.pre6 enc Try.prog Try.f3 Rows.spaceFreeRow.domain false) (Rows.spaceFreeSpec.post enc Try.prog Try.f3 false true false false) := by
  refine returnsInHanded_of_change (C := Try.checked) Try.own started (by kernel_rfl) Try.func3
    (ChangeSpec.witness6 (enc := enc) (C := Try.checked) false ⟨#[], #[.agg #[.int .u64 0, .int .u64 0, .slice none 0 0], .int .u64 0], []⟩ 8 (by kernel_rfl) (by kernel_rfl) (by kernel_rfl) (by kernel_rfl)) ?_
  intro W base args ds gs before hval0 hW hcnd _
  have hval : ∀ (j : Nat) t v, Try.f3.params[j]? = some t → args[j]? = some v → Value.okWide Try.prog W .any base t v := hval0
  have hW' := hW
  obtain ⟨p, q, hA0, hV, rfl, hfz, hnd⟩ := hW
  have hA : DataW.TrodAll enc Try.prog W 0 (fun _ => true) true Try.f3.params.toList args.toList ds p := hA0
  rw [Try.params3] at hA hval
  obtain ⟨v0, v1, d0, d1, p0, p1, rfl, rfl, rfl, h0, h1⟩ := trodAll_two hA
  obtain ⟨rfl, rfl⟩ := trodVars_none hV
  obtain ⟨c0, c1, c2, y0, y1, y2, m, rfl, rfl, rfl, hy0, hy1, hy2⟩ := open_agg3 Try.underlying25 (by kernel_rfl) Try.cells25 (hval 0 25 v0 rfl rfl) h0
  obtain ⟨q, hq, _, wq⟩ := DataW.trod_int Try.underlying22 hy0
  obtain ⟨st, hst, _, wst⟩ := DataW.trod_int Try.underlying22 hy1
  simp only [List.cons.injEq, and_true] at hq hst
  subst hq hst
  obtain ⟨l, hr, hl⟩ := rdi_of Try.underlying23 Try.underlying22 Try.cells22 hy2
  obtain ⟨t, rfl, _, _, wt⟩ := open_int Try.underlying22 (hval 1 22 v1 rfl rfl) h1
  clear hA0 hval0
  refine (lawFree q st _ l ⟨bd_u64 wq, bd_u64 wst, fun x hx => bd_u64 (hl x hx)⟩ t _ hr).mono fun e W' ⟨he, hb⟩ => ?_
  subst he
  exact ⟨_, rfl, post_law Try.laidOut (by kernel_rfl) rfl rfl Try.underlying4 hW' rfl hb⟩

theorem spaceFree_holds : Rows.SpaceFreeSaid :=
  OpenClaim.holds_of_wide 3 Try.f3 rfl rfl rfl rfl rfl rfl rfl ⟨rfl, rfl, rfl, rfl, rfl⟩ rfl rfl rfl rfl rfl (by kernel_rfl) Try.func3 (by kernel_rfl)
    (of_decide_eq_true (by kernel_rfl)) (by unfold Func.isWrapper; rw [if_neg (of_decide_eq_false (by kernel_rfl))]; exact ⟨rfl, rfl⟩)
    (fun os started H enc _ => spaceFree_lifted os started H enc)
#print axioms spaceFree_holds
end Go.Proofs.Ytcbolpjacoiclaa
