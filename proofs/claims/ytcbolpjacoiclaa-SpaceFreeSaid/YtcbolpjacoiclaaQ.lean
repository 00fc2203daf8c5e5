





/- SpaceFree: the walk of the law. -/
import Derived.Test.YtcbolpjacoiclaaN
namespace Go.Proofs.Ytcbolpjacoiclaa
open Go.RowKit
set_option linter.unusedSimpArgs false
set_option linter.unusedVariables false

theorem rmost_bad (q st : Int) (rs : Value) (xs : List Int) (i : Inp q st xs) (er : Int) (he : chk q st xs = er) (hne : er ≠ 0) (w : World) (h : RdI .u64 w rs xs) :
    Calls Try.prog 21 #[Sv q st rs] w fun e w' => e = .returned (.tuple #[.int .i64 0, .int .u64 0, .int .i64 er]) ∧ Below w.heap.size w w' := by
  have HE := Lib.hid he; have HR := Lib.hid h
  clear he h
  have hne3 : (er != 0) = true := by simpa using hne
  go_enter Try.func21, Try.ntmps21
  go_wp2_with fail
  refine (rcheck_aux q st rs xs i er HE.out _ (HR.out.keep (by repeat (first | assumption | exact Below.refl _ _ | apply Below.al | apply below_drewN | apply Below.drew | refine Below.next ?_ (by assumption) | refine Below.st ?_ (by first | exact Nat.le_refl _ | (simp; done) | (simp; omega)) _)))).mono ?_
  rintro e w1 ⟨rfl, hb⟩
  go_wp2_with fail
  go_ret3
  exact ⟨rfl, (by repeat (first | assumption | exact Below.refl _ _ | apply Below.al | apply below_drewN | apply Below.drew | refine Below.next ?_ (by assumption) | refine Below.st ?_ (by first | exact Nat.le_refl _ | (simp; done) | (simp; omega)) _))⟩
set_option maxHeartbeats 1000000 in
theorem rmost_ok (q st : Int) (rs : Value) (xs : List Int) (g : Good q st xs) (w : World) (h : RdI .u64 w rs xs) :
    Calls Try.prog 21 #[Sv q st rs] w fun e w' => e = .returned (.tuple #[.int .i64 (mostTo xs 16).1, .int .u64 (mostTo xs 16).2, .int .i64 0]) ∧ Below w.heap.size w w' := by
  obtain ⟨b, off, cap, rfl, hr⟩ := rd_cells h g.gn
  have HE := Lib.hid g.chk; have HR := Lib.hid h; have HG := Lib.hid g
  have HC := Lib.hid hr
  clear g h hr
  go_enter Try.func21, Try.ntmps21
  go_wp2_with fail
  refine (rcheck_aux q st _ xs HG.out.inp 0 HE.out _ (HR.out.keep (by repeat (first | assumption | exact Below.refl _ _ | apply Below.al | apply below_drewN | apply Below.drew | refine Below.next ?_ (by assumption) | refine Below.st ?_ (by first | exact Nat.le_refl _ | (simp; done) | (simp; omega)) _)))).mono ?_
  rintro e w1 ⟨rfl, hb⟩
  have hB : Below w.heap.size w w1 := (by repeat (first | assumption | exact Below.refl _ _ | apply Below.al | apply below_drewN | apply Below.drew | refine Below.next ?_ (by assumption) | refine Below.st ?_ (by first | exact Nat.le_refl _ | (simp; done) | (simp; omega)) _))
  have hA : BS w1 w.heap.size q st (.slice (some ⟨b, off, none⟩) 16 cap) := BS.keep hb (by simp [BS, go_sem])
  clear hb
  go_wp2_with fail
  go_loopw [6, 7, 8] (fun n v i wr => ∃ k : Nat, k ≤ 16 ∧ n = .int .i64 (mostTo xs k).1 ∧ v = .int .u64 (mostTo xs k).2 ∧ i = .int .i64 k ∧ Below w.heap.size w wr ∧ BS wr w.heap.size q st (.slice (some ⟨b, off, none⟩) 16 cap)) (fun _ _ i _ => 16 - (intOf i).toNat)
  case atStart => exact ⟨0, by omega, rfl, rfl, rfl, hB, hA⟩
  case round =>
    clear hB hA
    obtain ⟨k, hk, rfl, rfl, rfl, hB, hA⟩ := hrel
    have hnn := mostTo_nn HG.out.inp.ixs k (by have := HG.out.gn; omega)
    obtain ⟨mn, HMN⟩ : ∃ x, Hid ((mostTo xs k).1 = x) := ⟨_, rfl⟩
    obtain ⟨mv, HMV⟩ : ∃ x, Hid ((mostTo xs k).2 = x) := ⟨_, rfl⟩
    rw [HMN.out, HMV.out] at hnn ⊢
    obtain ⟨hv1, hv2, hn1, hn2⟩ := hnn
    by_cases hlt : k < 16
    · obtain ⟨x, HXV⟩ : ∃ x, Hid (xs.getD k 0 = x) := ⟨_, rfl⟩
      have hc := cell_later hB (HC.out k hlt)
      rw [HXV.out] at hc
      have hx := HG.out.inp.ixs.get k (by have := HG.out.gn; omega)
      rw [HXV.out] at hx
      have i1 : (0 : Int) ≤ (k : Int) := by omega
      have i2 : (k : Int) < 16 := by omega
      have HS : Hid (mostTo xs (k + 1) = if mv < x then ((k : Int) + 1, x) else mostTo xs k) := by
        show mostTo xs (k + 1) = _
        rw [mostTo, HMV.out, HXV.out]
      by_cases hgt : mv < x
      · have d1 := yb hgt
        have HS1 : Hid (mostTo xs (k + 1) = ((k : Int) + 1, x)) := by have := HS.out; rw [if_pos hgt] at this; exact this
        go_wp2
        go_quiet (fail)
        go_wp2
        go_roundw
        case rel => exact ⟨k + 1, by omega, by rw [HS1.out], by rw [HS1.out], by go_num, (by repeat (first | assumption | exact Below.refl _ _ | apply Below.al | apply below_drewN | apply Below.drew | refine Below.next ?_ (by assumption) | refine Below.st ?_ (by first | exact Nat.le_refl _ | (simp; done) | (simp; omega)) _)), hA⟩
        case measure => simp [intOf]; omega
      · have d1 := nb hgt
        have HS1 : Hid (mostTo xs (k + 1) = mostTo xs k) := by have := HS.out; rw [if_neg hgt] at this; exact this
        go_wp2
        go_roundw
        case rel => exact ⟨k + 1, by omega, by rw [HS1.out, HMN.out], by rw [HS1.out, HMV.out], by go_num, hB, hA⟩
        case measure => simp [intOf]; omega
    · have hk16 : k = 16 := by omega
      subst hk16
      rw [← HMN.out, ← HMV.out]
      go_wp2
      go_ret3
      exact ⟨rfl, (by repeat (first | assumption | exact Below.refl _ _ | apply Below.al | apply below_drewN | apply Below.drew | refine Below.next ?_ (by assumption) | refine Below.st ?_ (by first | exact Nat.le_refl _ | (simp; done) | (simp; omega)) _))⟩

/-- what the answers are, valid or not -/
def frV (q st : Int) (xs : List Int) : Int := if chk q st xs = 0 then q - st - xs.sum else 0
def hdV (q st : Int) (xs : List Int) : Int := if chk q st xs = 0 then xs.sum else 0
def moV (q st : Int) (xs : List Int) : Int × Int := if chk q st xs = 0 then mostTo xs 16 else (0, 0)
theorem freeS_any (q st : Int) (rs : Value) (xs : List Int) (i : Inp q st xs) (w : World) (h : RdI .u64 w rs xs) :
    Calls Try.prog 16 #[Sv q st rs] w fun e w' => e = .returned (.tuple #[.int .u64 (frV q st xs), .int .i64 (chk q st xs)]) ∧ Below w.heap.size w w' := by
  by_cases h0 : chk q st xs = 0
  · rw [frV, if_pos h0, h0]; exact freeS_ok q st rs xs (.of i h0) w h
  · rw [frV, if_neg h0]; exact freeS_bad q st rs xs i _ rfl h0 w h
theorem rfree_any (q st : Int) (rs : Value) (xs : List Int) (i : Inp q st xs) (w : World) (h : RdI .u64 w rs xs) :
    Calls Try.prog 17 #[Sv q st rs] w fun e w' => e = .returned (.tuple #[.int .u64 (frV q st xs), .int .i64 (chk q st xs)]) ∧ Below w.heap.size w w' := by
  by_cases h0 : chk q st xs = 0
  · rw [frV, if_pos h0, h0]; exact rfree_ok q st rs xs (.of i h0) w h
  · rw [frV, if_neg h0]; exact rfree_bad q st rs xs i _ rfl h0 w h
theorem heldS_any (q st : Int) (rs : Value) (xs : List Int) (i : Inp q st xs) (w : World) (h : RdI .u64 w rs xs) :
    Calls Try.prog 18 #[Sv q st rs] w fun e w' => e = .returned (.tuple #[.int .u64 (hdV q st xs), .int .i64 (chk q st xs)]) ∧ Below w.heap.size w w' := by
  by_cases h0 : chk q st xs = 0
  · rw [hdV, if_pos h0, h0]; exact heldS_ok q st rs xs (.of i h0) w h
  · rw [hdV, if_neg h0]; exact heldS_bad q st rs xs i _ rfl h0 w h
theorem rheld_any (q st : Int) (rs : Value) (xs : List Int) (i : Inp q st xs) (w : World) (h : RdI .u64 w rs xs) :
    Calls Try.prog 19 #[Sv q st rs] w fun e w' => e = .returned (.tuple #[.int .u64 (hdV q st xs), .int .i64 (chk q st xs)]) ∧ Below w.heap.size w w' := by
  by_cases h0 : chk q st xs = 0
  · rw [hdV, if_pos h0, h0]; exact rheld_ok q st rs xs (.of i h0) w h
  · rw [hdV, if_neg h0]; exact rheld_bad q st rs xs i _ rfl h0 w h
theorem most_any (q st : Int) (rs : Value) (xs : List Int) (i : Inp q st xs) (w : World) (h : RdI .u64 w rs xs) :
    Calls Try.prog 20 #[Sv q st rs] w fun e w' => e = .returned (.tuple #[.int .i64 (moV q st xs).1, .int .u64 (moV q st xs).2, .int .i64 (chk q st xs)]) ∧ Below w.heap.size w w' := by
  by_cases h0 : chk q st xs = 0
  · rw [moV, if_pos h0, h0]; exact most_ok q st rs xs (.of i h0) w h
  · rw [moV, if_neg h0]; exact most_bad q st rs xs i _ rfl h0 w h
theorem rmost_any (q st : Int) (rs : Value) (xs : List Int) (i : Inp q st xs) (w : World) (h : RdI .u64 w rs xs) :
    Calls Try.prog 21 #[Sv q st rs] w fun e w' => e = .returned (.tuple #[.int .i64 (moV q st xs).1, .int .u64 (moV q st xs).2, .int .i64 (chk q st xs)]) ∧ Below w.heap.size w w' := by
  by_cases h0 : chk q st xs = 0
  · rw [moV, if_pos h0, h0]; exact rmost_ok q st rs xs (.of i h0) w h
  · rw [moV, if_neg h0]; exact rmost_bad q st rs xs i _ rfl h0 w h
theorem check_any (q st : Int) (rs : Value) (xs : List Int) (i : Inp q st xs) (w : World) (h : RdI .u64 w rs xs) :
    Calls Try.prog 14 #[Sv q st rs] w fun e w' => e = .returned (.int .i64 (chk q st xs)) ∧ Below w.heap.size w w' := by
  by_cases h0 : chk q st xs = 0
  · have HR := Lib.hid h; have HG := Lib.hid (Good.of i h0)
    rw [h0]
    clear h h0
    go_enter Try.func14, Try.ntmps14
    go_wp2_with fail
    refine (of_yes q st rs xs HG.out _ (HR.out.keep (by repeat (first | assumption | exact Below.refl _ _ | apply Below.al | apply below_drewN | apply Below.drew | refine Below.next ?_ (by assumption) | refine Below.st ?_ (by first | exact Nat.le_refl _ | (simp; done) | (simp; omega)) _)))).mono ?_
    rintro e w1 ⟨p, rfl, hp, hA, hb⟩
    clear hA
    go_wp2_with fail
    go_ret
    exact ⟨rfl, (by repeat (first | assumption | exact Below.refl _ _ | apply Below.al | apply below_drewN | apply Below.drew | refine Below.next ?_ (by assumption) | refine Below.st ?_ (by first | exact Nat.le_refl _ | (simp; done) | (simp; omega)) _))⟩
  · have HR := Lib.hid h
    obtain ⟨er, HE⟩ : ∃ er, Hid (chk q st xs = er) := ⟨_, rfl⟩
    rw [HE.out] at h0 ⊢
    clear h
    go_enter Try.func14, Try.ntmps14
    go_wp2_with fail
    refine (of_no q st rs xs i er HE.out h0 _ (HR.out.keep (by repeat (first | assumption | exact Below.refl _ _ | apply Below.al | apply below_drewN | apply Below.drew | refine Below.next ?_ (by assumption) | refine Below.st ?_ (by first | exact Nat.le_refl _ | (simp; done) | (simp; omega)) _)))).mono ?_
    rintro e w1 ⟨rfl, hb⟩
    go_wp2_with fail
    go_ret
    exact ⟨rfl, (by repeat (first | assumption | exact Below.refl _ _ | apply Below.al | apply below_drewN | apply Below.drew | refine Below.next ?_ (by assumption) | refine Below.st ?_ (by first | exact Nat.le_refl _ | (simp; done) | (simp; omega)) _))⟩
theorem makes_any (q : Int) : ∃ (q' : Int) (ys : List Int) (er : Int), (∀ w, Calls Try.prog 11 #[.int .u64 q] w (SpRes w q' 0 ys er)) ∧ (∀ w, Calls Try.prog 12 #[.int .u64 q] w (SpRes w q' 0 ys er)) := by
  by_cases h : q ≤ 1099511627776
  · exact ⟨q, z16, 0, fun w => make_ok q h w, fun w => rmake_ok q h w⟩
  · exact ⟨0, [], 2, fun w => make_big q (by omega) w, fun w => rmake_big q (by omega) w⟩
end Go.Proofs.Ytcbolpjacoiclaa
