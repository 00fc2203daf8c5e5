





/- SpaceSteps: known, and the walk of the law. -/
import Derived.Test.YtcbolpjacoiclaaZ
namespace Go.Proofs.Ytcbolpjacoiclaa
open Go.RowKit
set_option linter.unusedSimpArgs false
set_option linter.unusedVariables false

set_option maxHeartbeats 1000000 in
theorem known_any (q st : Int) (rs : Value) (xs : List Int) (i : Inp q st xs) (node n : Int) (hn0 : 0 ≤ n) (kind : Int) (hkd : 0 ≤ kind ∧ kind ≤ 4) (q' st' : Int) (ys : List Int) (er : Int) (h : St q st xs node n kind q' st' ys er) (w : World) (hr : RdI .u64 w rs xs) :
    Calls Try.prog 23 #[.int .i64 kind, Sv q st rs, .int .i64 node, .int .u64 n] w (SpRes w q' st' ys er) := by
  obtain rfl | rfl | rfl | rfl | rfl : kind = 0 ∨ kind = 1 ∨ kind = 2 ∨ kind = 3 ∨ kind = 4 := by omega
  · have HH := Lib.hid h
    have HR := Lib.hid hr
    clear h hr
    go_enter Try.func23, Try.ntmps23
    go_wp2_with (go_at_call 38; refine (rreserve_any q st rs xs i node n hn0 q' st' ys er HH.out _ (HR.out.keep (by repeat (first | assumption | exact Below.refl _ _ | apply Below.al | apply below_drewN | apply Below.drew | refine Below.next ?_ (by assumption) | refine Below.st ?_ (by first | exact Nat.le_refl _ | (simp; done) | (simp; omega)) _)))).mono ?_; rintro e w1 ⟨v, rfl, hrd, hF, hb⟩; have hC : RC w1 (w.heap.size + 1) := RC.keep hb (by simp [RC, go_sem]); obtain ⟨a, c, hv⟩ := hrd.form; subst hv; have HRD := Lib.hid hrd; clear hrd)
    have hs3 : w.heap.size + 1 < ((w.alloc (.cells #[.int .u64 q, .int .u64 st, rs] 25)).alloc (.cells #[.int .u64 0, .int .u64 0, .slice none 0 0] 25)).heap.size := by simp
    refine bodyPost_ret (v := .tuple #[Sv q' st' (.slice a ys.length c), .int .i64 er]) ?_ rfl ?_
    · simp [results, Try.results23, go_sem, hC]
    · exact ⟨_, rfl, RdI.set _ (RdI.set _ (RdI.set _ HRD.out hF hs3) hF hs3) hF hs3, hF.mono (by simp; omega), (by repeat (first | assumption | exact Below.refl _ _ | apply Below.al | apply below_drewN | apply Below.drew | refine Below.next ?_ (by assumption) | refine Below.st ?_ (by first | exact Nat.le_refl _ | (simp; done) | (simp; omega)) _))⟩
  · have HH := Lib.hid h
    have HR := Lib.hid hr
    clear h hr
    go_enter Try.func23, Try.ntmps23
    go_wp2_with (go_at_call 39; refine (rrelease_any q st rs xs i node n hn0 q' st' ys er HH.out _ (HR.out.keep (by repeat (first | assumption | exact Below.refl _ _ | apply Below.al | apply below_drewN | apply Below.drew | refine Below.next ?_ (by assumption) | refine Below.st ?_ (by first | exact Nat.le_refl _ | (simp; done) | (simp; omega)) _)))).mono ?_; rintro e w1 ⟨v, rfl, hrd, hF, hb⟩; have hC : RC w1 (w.heap.size + 1) := RC.keep hb (by simp [RC, go_sem]); obtain ⟨a, c, hv⟩ := hrd.form; subst hv; have HRD := Lib.hid hrd; clear hrd)
    have hs3 : w.heap.size + 1 < ((w.alloc (.cells #[.int .u64 q, .int .u64 st, rs] 25)).alloc (.cells #[.int .u64 0, .int .u64 0, .slice none 0 0] 25)).heap.size := by simp
    refine bodyPost_ret (v := .tuple #[Sv q' st' (.slice a ys.length c), .int .i64 er]) ?_ rfl ?_
    · simp [results, Try.results23, go_sem, hC]
    · exact ⟨_, rfl, RdI.set _ (RdI.set _ (RdI.set _ HRD.out hF hs3) hF hs3) hF hs3, hF.mono (by simp; omega), (by repeat (first | assumption | exact Below.refl _ _ | apply Below.al | apply below_drewN | apply Below.drew | refine Below.next ?_ (by assumption) | refine Below.st ?_ (by first | exact Nat.le_refl _ | (simp; done) | (simp; omega)) _))⟩
  · have HH := Lib.hid h
    have HR := Lib.hid hr
    clear h hr
    go_enter Try.func23, Try.ntmps23
    go_wp2_with (go_at_call 40; refine (rmove_any q st rs xs i node n hn0 q' st' ys er HH.out _ (HR.out.keep (by repeat (first | assumption | exact Below.refl _ _ | apply Below.al | apply below_drewN | apply Below.drew | refine Below.next ?_ (by assumption) | refine Below.st ?_ (by first | exact Nat.le_refl _ | (simp; done) | (simp; omega)) _)))).mono ?_; rintro e w1 ⟨v, rfl, hrd, hF, hb⟩; have hC : RC w1 (w.heap.size + 1) := RC.keep hb (by simp [RC, go_sem]); obtain ⟨a, c, hv⟩ := hrd.form; subst hv; have HRD := Lib.hid hrd; clear hrd)
    have hs3 : w.heap.size + 1 < ((w.alloc (.cells #[.int .u64 q, .int .u64 st, rs] 25)).alloc (.cells #[.int .u64 0, .int .u64 0, .slice none 0 0] 25)).heap.size := by simp
    refine bodyPost_ret (v := .tuple #[Sv q' st' (.slice a ys.length c), .int .i64 er]) ?_ rfl ?_
    · simp [results, Try.results23, go_sem, hC]
    · exact ⟨_, rfl, RdI.set _ (RdI.set _ (RdI.set _ HRD.out hF hs3) hF hs3) hF hs3, hF.mono (by simp; omega), (by repeat (first | assumption | exact Below.refl _ _ | apply Below.al | apply below_drewN | apply Below.drew | refine Below.next ?_ (by assumption) | refine Below.st ?_ (by first | exact Nat.le_refl _ | (simp; done) | (simp; omega)) _))⟩
  · have HH := Lib.hid h
    have HR := Lib.hid hr
    clear h hr
    go_enter Try.func23, Try.ntmps23
    go_wp2_with (go_at_call 41; refine (radd_any q st rs xs i node n hn0 q' st' ys er HH.out _ (HR.out.keep (by repeat (first | assumption | exact Below.refl _ _ | apply Below.al | apply below_drewN | apply Below.drew | refine Below.next ?_ (by assumption) | refine Below.st ?_ (by first | exact Nat.le_refl _ | (simp; done) | (simp; omega)) _)))).mono ?_; rintro e w1 ⟨v, rfl, hrd, hF, hb⟩; have hC : RC w1 (w.heap.size + 1) := RC.keep hb (by simp [RC, go_sem]); obtain ⟨a, c, hv⟩ := hrd.form; subst hv; have HRD := Lib.hid hrd; clear hrd)
    have hs3 : w.heap.size + 1 < ((w.alloc (.cells #[.int .u64 q, .int .u64 st, rs] 25)).alloc (.cells #[.int .u64 0, .int .u64 0, .slice none 0 0] 25)).heap.size := by simp
    refine bodyPost_ret (v := .tuple #[Sv q' st' (.slice a ys.length c), .int .i64 er]) ?_ rfl ?_
    · simp [results, Try.results23, go_sem, hC]
    · exact ⟨_, rfl, RdI.set _ (RdI.set _ (RdI.set _ HRD.out hF hs3) hF hs3) hF hs3, hF.mono (by simp; omega), (by repeat (first | assumption | exact Below.refl _ _ | apply Below.al | apply below_drewN | apply Below.drew | refine Below.next ?_ (by assumption) | refine Below.st ?_ (by first | exact Nat.le_refl _ | (simp; done) | (simp; omega)) _))⟩
  · have HH := Lib.hid h
    have HR := Lib.hid hr
    clear h hr
    go_enter Try.func23, Try.ntmps23
    go_wp2_with (go_at_call 42; refine (rdrop_any q st rs xs i node n hn0 q' st' ys er HH.out _ (HR.out.keep (by repeat (first | assumption | exact Below.refl _ _ | apply Below.al | apply below_drewN | apply Below.drew | refine Below.next ?_ (by assumption) | refine Below.st ?_ (by first | exact Nat.le_refl _ | (simp; done) | (simp; omega)) _)))).mono ?_; rintro e w1 ⟨v, rfl, hrd, hF, hb⟩; have hC : RC w1 (w.heap.size + 1) := RC.keep hb (by simp [RC, go_sem]); obtain ⟨a, c, hv⟩ := hrd.form; subst hv; have HRD := Lib.hid hrd; clear hrd)
    have hs3 : w.heap.size + 1 < ((w.alloc (.cells #[.int .u64 q, .int .u64 st, rs] 25)).alloc (.cells #[.int .u64 0, .int .u64 0, .slice none 0 0] 25)).heap.size := by simp
    refine bodyPost_ret (v := .tuple #[Sv q' st' (.slice a ys.length c), .int .i64 er]) ?_ rfl ?_
    · simp [results, Try.results23, go_sem, hC]
    · exact ⟨_, rfl, RdI.set _ (RdI.set _ (RdI.set _ HRD.out hF hs3) hF hs3) hF hs3, hF.mono (by simp; omega), (by repeat (first | assumption | exact Below.refl _ _ | apply Below.al | apply below_drewN | apply Below.drew | refine Below.next ?_ (by assumption) | refine Below.st ?_ (by first | exact Nat.le_refl _ | (simp; done) | (simp; omega)) _))⟩

theorem St.error {q st : Int} {xs : List Int} {node n kind q' st' : Int} {ys : List Int} {er : Int} (h : St q st xs node n kind q' st' ys er) : (er != er) = false := by simp

set_option maxRecDepth 100000 in
set_option maxHeartbeats 4000000 in
theorem lawSteps (q st : Int) (rs : Value) (xs : List Int) (i : Inp q st xs) (node n : Int) (hn0 : 0 ≤ n) (w : World) (h : RdI .u64 w rs xs) :
    Calls Try.prog 4 #[Sv q st rs, .int .i64 node, .int .u64 n] w fun e w' => e = .returned (.bool true) ∧ Below w.heap.size w w' := by
  obtain ⟨a0, c0, rfl⟩ := h.form
  obtain ⟨N, hN⟩ : ∃ N, xs.length = N := ⟨_, rfl⟩
  have HR : Hid (RdI .u64 w (.slice a0 N c0) xs) := by unfold Hid; rw [← hN]; exact h
  rw [hN]
  have HN := Lib.hid hN
  clear h hN
  by_cases hbig : 20 < N
  · have d1 : decide (20 < (N : Int)) = true := yb (by omega)
    go_enter Try.func4, Try.ntmps4
    go_wp2_with fail
    refine (awake_any _).mono ?_
    rintro e w1 ⟨rfl, hb⟩
    go_wp2_with fail
    go_ret
    exact ⟨rfl, (by repeat (first | assumption | exact Below.refl _ _ | apply Below.al | apply below_drewN | apply Below.drew | refine Below.next ?_ (by assumption) | refine Below.st ?_ (by first | exact Nat.le_refl _ | (simp; done) | (simp; omega)) _))⟩
  have d1 : decide (20 < (N : Int)) = false := nb (by omega)
  go_enter Try.func4, Try.ntmps4
  go_wp2_with fail
  go_loopw [7] (fun v wr => ∃ (k : Nat), k ≤ 5 ∧ v = .int .i64 k ∧ BS wr w.heap.size q st (.slice a0 N c0) ∧ Below w.heap.size w wr) (fun v _ => 5 - (intOf v).toNat)
  case atStart => exact ⟨0, by omega, rfl, by simp [BS, go_sem], (by repeat (first | assumption | exact Below.refl _ _ | apply Below.al | apply below_drewN | apply Below.drew | refine Below.next ?_ (by assumption) | refine Below.st ?_ (by first | exact Nat.le_refl _ | (simp; done) | (simp; omega)) _))⟩
  case round =>
    obtain ⟨k, hk, rfl, hA, hB⟩ := hrel
    by_cases hlt : k < 5
    · have d2 : decide ((k : Int) < 5) = true := yb (by omega)
      obtain ⟨q', st', ys, er, hst⟩ := St.ex q st xs node n (k : Int) (by omega)
      have HST := Lib.hid hst
      have dne := hst.error
      clear hst
      obtain ⟨Y, hY⟩ : ∃ Y, ys.length = Y := ⟨_, rfl⟩
      have HY := Lib.hid hY
      clear hY
      go_wp2_with fail
      refine (ownSpace_any q st (.slice a0 N c0) xs (by rw [HN.out]; omega) _ (HR.out.keep hB)).mono ?_
      rintro e w1 ⟨v1, rfl, hr1, hF1, b1⟩
      obtain ⟨a1, c1, hv1⟩ := hr1.form
      rw [HN.out] at hv1
      subst hv1
      have R1 := Lib.hid hr1
      have hA : BS w1 w.heap.size q st (.slice a0 N c0) := BS.keep b1 hA
      have hB : Below w.heap.size w w1 := (by repeat (first | with_reducible assumption | with_reducible exact Below.refl _ _ | with_reducible apply Below.al | with_reducible apply Below.drew | with_reducible refine Below.next ?_ (by assumption) | with_reducible refine Below.st ?_ (by first | exact Nat.le_refl _ | (simp; done) | (simp; omega)) _))
      clear hr1 b1 hF1
      obtain ⟨S1, hS1⟩ : ∃ S : Nat, S = w1.heap.size := ⟨_, rfl⟩
      obtain ⟨W1, hW1⟩ : ∃ W : World, W = w1.alloc (.cells #[.int .u64 q, .int .u64 st, .slice a1 N c1] 25) := ⟨_, rfl⟩
      have hA1 : BS W1 S1 q st (.slice a1 N c1) := by rw [hW1, hS1]; simp [BS, go_sem]
      have R1 : Hid (RdI .u64 W1 (.slice a1 N c1) xs) := by rw [hW1]; exact R1.out.keep (by repeat (first | with_reducible assumption | with_reducible exact Below.refl _ _ | with_reducible apply Below.al | with_reducible apply Below.drew | with_reducible refine Below.next ?_ (by assumption) | with_reducible refine Below.st ?_ (by first | exact Nat.le_refl _ | (simp; done) | (simp; omega)) _))
      have hA : BS W1 w.heap.size q st (.slice a0 N c0) := by rw [hW1]; exact BS.al _ hA
      have hB : Below w.heap.size w W1 := by rw [hW1]; exact (by repeat (first | with_reducible assumption | with_reducible exact Below.refl _ _ | with_reducible apply Below.al | with_reducible apply Below.drew | with_reducible refine Below.next ?_ (by assumption) | with_reducible refine Below.st ?_ (by first | exact Nat.le_refl _ | (simp; done) | (simp; omega)) _))
      go_upto_region 7 with fail
      rw [← hW1, ← hS1]
      clear hW1 hS1
      go_wp2_with fail
      refine (step_any q st (.slice a1 N c1) xs i node n hn0 (k : Int) (by omega) q' st' ys er HST.out _ R1.out).mono ?_
      rintro e w2 ⟨v2, rfl, hr2, hF2, b2⟩
      obtain ⟨a2, c2, hv2⟩ := hr2.form
      rw [HY.out] at hv2
      subst hv2
      have R2 := Lib.hid hr2
      have hA1 : BS w2 S1 q st (.slice a1 N c1) := BS.keep b2 hA1
      have hA : BS w2 w.heap.size q st (.slice a0 N c0) := BS.keep b2 hA
      have R1 : Hid (RdI .u64 w2 (.slice a1 N c1) xs) := R1.out.keep b2
      have hB : Below w.heap.size w w2 := (by repeat (first | with_reducible assumption | with_reducible exact Below.refl _ _ | with_reducible apply Below.al | with_reducible apply Below.drew | with_reducible refine Below.next ?_ (by assumption) | with_reducible refine Below.st ?_ (by first | exact Nat.le_refl _ | (simp; done) | (simp; omega)) _))
      clear hr2 b2 hF2
      obtain ⟨S2, hS2⟩ : ∃ S : Nat, S = w2.heap.size := ⟨_, rfl⟩
      obtain ⟨W2, hW2⟩ : ∃ W : World, W = w2.alloc (.cells #[.int .u64 q', .int .u64 st', .slice a2 Y c2] 25) := ⟨_, rfl⟩
      have hA2 : BS W2 S2 q' st' (.slice a2 Y c2) := by rw [hW2, hS2]; simp [BS, go_sem]
      have R2 : Hid (RdI .u64 W2 (.slice a2 Y c2) ys) := by rw [hW2]; exact R2.out.keep (by repeat (first | with_reducible assumption | with_reducible exact Below.refl _ _ | with_reducible apply Below.al | with_reducible apply Below.drew | with_reducible refine Below.next ?_ (by assumption) | with_reducible refine Below.st ?_ (by first | exact Nat.le_refl _ | (simp; done) | (simp; omega)) _))
      have R1 : Hid (RdI .u64 W2 (.slice a1 N c1) xs) := by rw [hW2]; exact R1.out.keep (by repeat (first | with_reducible assumption | with_reducible exact Below.refl _ _ | with_reducible apply Below.al | with_reducible apply Below.drew | with_reducible refine Below.next ?_ (by assumption) | with_reducible refine Below.st ?_ (by first | exact Nat.le_refl _ | (simp; done) | (simp; omega)) _))
      have hA1 : BS W2 S1 q st (.slice a1 N c1) := by rw [hW2]; exact BS.al _ hA1
      have hA : BS W2 w.heap.size q st (.slice a0 N c0) := by rw [hW2]; exact BS.al _ hA
      have hB : Below w.heap.size w W2 := by rw [hW2]; exact (by repeat (first | with_reducible assumption | with_reducible exact Below.refl _ _ | with_reducible apply Below.al | with_reducible apply Below.drew | with_reducible refine Below.next ?_ (by assumption) | with_reducible refine Below.st ?_ (by first | exact Nat.le_refl _ | (simp; done) | (simp; omega)) _))
      go_upto_region 8 with fail
      rw [← hW2, ← hS2]
      clear hW2 hS2
      go_wp2_with fail
      refine (known_any q st (.slice a0 N c0) xs i node n hn0 (k : Int) (by omega) q' st' ys er HST.out _ (HR.out.keep hB)).mono ?_
      rintro e w3 ⟨v3, rfl, hr3, hF3, b3⟩
      obtain ⟨a3, c3, hv3⟩ := hr3.form
      rw [HY.out] at hv3
      subst hv3
      have R3 := Lib.hid hr3
      have hA2 : BS w3 S2 q' st' (.slice a2 Y c2) := BS.keep b3 hA2
      have hA1 : BS w3 S1 q st (.slice a1 N c1) := BS.keep b3 hA1
      have hA : BS w3 w.heap.size q st (.slice a0 N c0) := BS.keep b3 hA
      have R1 : Hid (RdI .u64 w3 (.slice a1 N c1) xs) := R1.out.keep b3
      have R2 : Hid (RdI .u64 w3 (.slice a2 Y c2) ys) := R2.out.keep b3
      have hB : Below w.heap.size w w3 := (by repeat (first | with_reducible assumption | with_reducible exact Below.refl _ _ | with_reducible apply Below.al | with_reducible apply Below.drew | with_reducible refine Below.next ?_ (by assumption) | with_reducible refine Below.st ?_ (by first | exact Nat.le_refl _ | (simp; done) | (simp; omega)) _))
      clear hr3 b3 hF3
      obtain ⟨S3, hS3⟩ : ∃ S : Nat, S = w3.heap.size := ⟨_, rfl⟩
      obtain ⟨W3, hW3⟩ : ∃ W : World, W = w3.alloc (.cells #[.int .u64 q', .int .u64 st', .slice a3 Y c3] 25) := ⟨_, rfl⟩
      have hA3 : BS W3 S3 q' st' (.slice a3 Y c3) := by rw [hW3, hS3]; simp [BS, go_sem]
      have R3 : Hid (RdI .u64 W3 (.slice a3 Y c3) ys) := by rw [hW3]; exact R3.out.keep (by repeat (first | with_reducible assumption | with_reducible exact Below.refl _ _ | with_reducible apply Below.al | with_reducible apply Below.drew | with_reducible refine Below.next ?_ (by assumption) | with_reducible refine Below.st ?_ (by first | exact Nat.le_refl _ | (simp; done) | (simp; omega)) _))
      have R2 : Hid (RdI .u64 W3 (.slice a2 Y c2) ys) := by rw [hW3]; exact R2.out.keep (by repeat (first | with_reducible assumption | with_reducible exact Below.refl _ _ | with_reducible apply Below.al | with_reducible apply Below.drew | with_reducible refine Below.next ?_ (by assumption) | with_reducible refine Below.st ?_ (by first | exact Nat.le_refl _ | (simp; done) | (simp; omega)) _))
      have R1 : Hid (RdI .u64 W3 (.slice a1 N c1) xs) := by rw [hW3]; exact R1.out.keep (by repeat (first | with_reducible assumption | with_reducible exact Below.refl _ _ | with_reducible apply Below.al | with_reducible apply Below.drew | with_reducible refine Below.next ?_ (by assumption) | with_reducible refine Below.st ?_ (by first | exact Nat.le_refl _ | (simp; done) | (simp; omega)) _))
      have hA2 : BS W3 S2 q' st' (.slice a2 Y c2) := by rw [hW3]; exact BS.al _ hA2
      have hA1 : BS W3 S1 q st (.slice a1 N c1) := by rw [hW3]; exact BS.al _ hA1
      have hA : BS W3 w.heap.size q st (.slice a0 N c0) := by rw [hW3]; exact BS.al _ hA
      have hB : Below w.heap.size w W3 := by rw [hW3]; exact (by repeat (first | with_reducible assumption | with_reducible exact Below.refl _ _ | with_reducible apply Below.al | with_reducible apply Below.drew | with_reducible refine Below.next ?_ (by assumption) | with_reducible refine Below.st ?_ (by first | exact Nat.le_refl _ | (simp; done) | (simp; omega)) _))
      go_upto_region 9 with fail
      rw [← hW3, ← hS3]
      clear hW3 hS3
      go_wp2_with fail
      refine (same_yes q' st' (.slice a2 Y c2) (.slice a3 Y c3) ys _ R2.out R3.out).mono ?_
      rintro e w4 ⟨rfl, b4⟩
      have hA1 : BS w4 S1 q st (.slice a1 N c1) := BS.keep b4 hA1
      have hA : BS w4 w.heap.size q st (.slice a0 N c0) := BS.keep b4 hA
      have R1 : Hid (RdI .u64 w4 (.slice a1 N c1) xs) := R1.out.keep b4
      have hB : Below w.heap.size w w4 := (by repeat (first | with_reducible assumption | with_reducible exact Below.refl _ _ | with_reducible apply Below.al | with_reducible apply Below.drew | with_reducible refine Below.next ?_ (by assumption) | with_reducible refine Below.st ?_ (by first | exact Nat.le_refl _ | (simp; done) | (simp; omega)) _))
      clear hA2 hA3 R2 R3 b4
      go_wp2_with fail
      refine (same_yes q st (.slice a1 N c1) (.slice a0 N c0) xs _ R1.out (HR.out.keep hB)).mono ?_
      rintro e w5 ⟨rfl, b5⟩
      have hA : BS w5 w.heap.size q st (.slice a0 N c0) := BS.keep b5 hA
      have hB : Below w.heap.size w w5 := (by repeat (first | with_reducible assumption | with_reducible exact Below.refl _ _ | with_reducible apply Below.al | with_reducible apply Below.drew | with_reducible refine Below.next ?_ (by assumption) | with_reducible refine Below.st ?_ (by first | exact Nat.le_refl _ | (simp; done) | (simp; omega)) _))
      clear b5 hA1 R1
      go_wp2
      go_roundw
      case rel => exact ⟨k + 1, by omega, by go_num, hA, hB⟩
      case measure => simp [intOf]; omega
    · have d2 : decide ((k : Int) < 5) = false := nb (by omega)
      go_wp2_with fail
      refine (awake_any _).mono ?_
      rintro e w1 ⟨rfl, hb⟩
      go_wp2_with fail
      go_ret
      exact ⟨rfl, (by repeat (first | assumption | exact Below.refl _ _ | apply Below.al | apply below_drewN | apply Below.drew | refine Below.next ?_ (by assumption) | refine Below.st ?_ (by first | exact Nat.le_refl _ | (simp; done) | (simp; omega)) _))⟩
end Go.Proofs.Ytcbolpjacoiclaa
