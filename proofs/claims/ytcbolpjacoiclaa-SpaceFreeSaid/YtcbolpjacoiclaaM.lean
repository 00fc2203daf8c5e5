
/- Space: Most. -/
import Derived.Test.YtcbolpjacoiclaaK
import Derived.Laws.IdiomArrays
namespace Go.Proofs.Ytcbolpjacoiclaa
open Go.RowKit

def mostTo (xs : List Int) : Nat → Int × Int
  | 0 => (0, 0)
  | k + 1 => if (mostTo xs k).2 < xs.getD k 0 then ((k : Int) + 1, xs.getD k 0) else mostTo xs k
theorem mostTo_nn {xs : List Int} (h : Nn xs) : ∀ k, k ≤ xs.length → 0 ≤ (mostTo xs k).2 ∧ (mostTo xs k).2 < 18446744073709551616 ∧ 0 ≤ (mostTo xs k).1 ∧ (mostTo xs k).1 ≤ k
  | 0, _ => by simp [mostTo]
  | k + 1, hk => by
    have ih := mostTo_nn h k (by omega)
    have hx := h.get k (by omega)
    unfold mostTo
    split
    · exact ⟨hx.1, hx.2, by simp; omega, by simp⟩
    · exact ⟨ih.1, ih.2.1, ih.2.2.1, by have := ih.2.2.2; push_cast; omega⟩

theorem run_index16 (xs : List Int) (hl : xs.length = 16) (k : Nat) (hk : k < 16) (w : World) : (Instr.index 49 (.agg (ic .u64 xs).toArray) (.int .i64 (k : Int))).run Try.prog w = .ok (.int .u64 (xs.getD k 0)) w := by
  match xs, hl with
  | [x0, x1, x2, x3, x4, x5, x6, x7, x8, x9, x10, x11, x12, x13, x14, x15], _ =>
    exact match k, hk with
    | 0, _ => by show _ = _; kernel_rfl
    | 1, _ => by show _ = _; kernel_rfl
    | 2, _ => by show _ = _; kernel_rfl
    | 3, _ => by show _ = _; kernel_rfl
    | 4, _ => by show _ = _; kernel_rfl
    | 5, _ => by show _ = _; kernel_rfl
    | 6, _ => by show _ = _; kernel_rfl
    | 7, _ => by show _ = _; kernel_rfl
    | 8, _ => by show _ = _; kernel_rfl
    | 9, _ => by show _ = _; kernel_rfl
    | 10, _ => by show _ = _; kernel_rfl
    | 11, _ => by show _ = _; kernel_rfl
    | 12, _ => by show _ = _; kernel_rfl
    | 13, _ => by show _ = _; kernel_rfl
    | 14, _ => by show _ = _; kernel_rfl
    | 15, _ => by show _ = _; kernel_rfl
    | k + 16, h => absurd h (by omega)

theorem most_bad (q st : Int) (rs : Value) (xs : List Int) (i : Inp q st xs) (er : Int) (he : chk q st xs = er) (hne : er ≠ 0) (w : World) (h : RdI .u64 w rs xs) :
    Calls Try.prog 20 #[Sv q st rs] w fun e w' => e = .returned (.tuple #[.int .i64 0, .int .u64 0, .int .i64 er]) ∧ Below w.heap.size w w' := by
  have HE := Lib.hid he; have HR := Lib.hid h
  clear he h
  have hne3 : (er != 0) = true := by simpa using hne
  go_enter Try.func20, Try.ntmps20
  go_wp2_with (go_at_call 35; refine (of_no q st rs xs i er HE.out hne _ (HR.out.keep (by repeat (first | assumption | exact Below.refl _ _ | apply Below.al | apply below_drewN | apply Below.drew | refine Below.next ?_ (by assumption) | refine Below.st ?_ (by first | exact Nat.le_refl _ | (simp; done) | (simp; omega)) _)))).mono ?_; rintro e w1 ⟨rfl, hb⟩)
  go_ret3
  exact ⟨rfl, (by repeat (first | assumption | exact Below.refl _ _ | apply Below.al | apply below_drewN | apply Below.drew | refine Below.next ?_ (by assumption) | refine Below.st ?_ (by first | exact Nat.le_refl _ | (simp; done) | (simp; omega)) _))⟩

set_option maxHeartbeats 1000000 in
theorem most_ok (q st : Int) (rs : Value) (xs : List Int) (g : Good q st xs) (w : World) (h : RdI .u64 w rs xs) :
    Calls Try.prog 20 #[Sv q st rs] w fun e w' => e = .returned (.tuple #[.int .i64 (mostTo xs 16).1, .int .u64 (mostTo xs 16).2, .int .i64 0]) ∧ Below w.heap.size w w' := by
  have HG := Lib.hid g; have HR := Lib.hid h
  clear g h
  go_enter Try.func20, Try.ntmps20
  go_wp2_with fail
  refine (of_yes q st rs xs HG.out _ (HR.out.keep (by repeat (first | assumption | exact Below.refl _ _ | apply Below.al | apply below_drewN | apply Below.drew | refine Below.next ?_ (by assumption) | refine Below.st ?_ (by first | exact Nat.le_refl _ | (simp; done) | (simp; omega)) _)))).mono ?_
  rintro e w1 ⟨p, rfl, hp, hA, hb⟩
  have hR : World.rangeAt w1 p 3 (ic .u64 xs) := fun j u hj => by
    have hjl : j < 16 := by have := (List.getElem?_eq_some_iff.1 hj).1; simp [hA.1] at this; exact this
    rw [ic_get .u64 xs j (by rw [hA.1]; exact hjl)] at hj
    cases hj
    exact hA.ci j hjl
  have HRA := Lib.hid hR
  have HI : Hid ((Try.prog.info? 49).map (·.size) = some (ic .u64 xs).length) := by unfold Hid; rw [ic_length, HG.out.gn]; kernel_rfl
  have hB : Below w.heap.size w w1 := (by repeat (first | assumption | exact Below.refl _ _ | apply Below.al | apply below_drewN | apply Below.drew | refine Below.next ?_ (by assumption) | refine Below.st ?_ (by first | exact Nat.le_refl _ | (simp; done) | (simp; omega)) _))
  clear hA hR hb
  go_wp2_with (with_reducible refine wpList_load_mid rfl 49 _ rfl p 3 rfl (ic .u64 xs) (.array 16 22) HRA.out Try.underlying49 rfl HI.out ?_)
  go_loop [7, 8, 23] (fun n v i => ∃ k : Nat, k ≤ 16 ∧ n = .int .i64 (mostTo xs k).1 ∧ v = .int .u64 (mostTo xs k).2 ∧ i = .int .i64 k) (fun _ _ i => 16 - (intOf i).toNat)
  case atStart => exact ⟨0, by omega, rfl, rfl, rfl⟩
  case round =>
    obtain ⟨k, hk, rfl, rfl, rfl⟩ := hrel
    have hnn := mostTo_nn HG.out.inp.ixs k (by have := HG.out.gn; omega)
    obtain ⟨mn, HMN⟩ : ∃ x, Hid ((mostTo xs k).1 = x) := ⟨_, rfl⟩
    obtain ⟨mv, HMV⟩ : ∃ x, Hid ((mostTo xs k).2 = x) := ⟨_, rfl⟩
    rw [HMN.out, HMV.out] at hnn ⊢
    obtain ⟨hv1, hv2, hn1, hn2⟩ := hnn
    by_cases hlt : k < 16
    · have hX := fun w : World => run_index16 xs HG.out.gn k hlt w
      obtain ⟨x, HXV⟩ : ∃ x, Hid (xs.getD k 0 = x) := ⟨_, rfl⟩
      have d0 : decide ((k : Int) < 16) = true := yb (by omega)
      have hx := HG.out.inp.ixs.get k (by have := HG.out.gn; omega)
      rw [HXV.out] at hx
      simp only [HXV.out] at hX
      have HS : Hid (mostTo xs (k + 1) = if mv < x then ((k : Int) + 1, x) else mostTo xs k) := by
        show mostTo xs (k + 1) = _
        rw [mostTo, HMV.out, HXV.out]
      by_cases hgt : mv < x
      · have d1 := yb hgt
        have HS1 : Hid (mostTo xs (k + 1) = ((k : Int) + 1, x)) := by have := HS.out; rw [if_pos hgt] at this; exact this
        go_wp2
        go_round
        case rel => exact ⟨k + 1, by omega, by rw [HS1.out], by rw [HS1.out], by go_num⟩
        case measure => simp [intOf]; omega
      · have d1 := nb hgt
        have HS1 : Hid (mostTo xs (k + 1) = mostTo xs k) := by have := HS.out; rw [if_neg hgt] at this; exact this
        go_wp2
        go_round
        case rel => exact ⟨k + 1, by omega, by rw [HS1.out, HMN.out], by rw [HS1.out, HMV.out], by go_num⟩
        case measure => simp [intOf]; omega
    · have hk16 : k = 16 := by omega
      subst hk16
      rw [← HMN.out, ← HMV.out]
      go_wp2
      go_ret3
      exact ⟨rfl, (by repeat (first | assumption | exact Below.refl _ _ | apply Below.al | apply below_drewN | apply Below.drew | refine Below.next ?_ (by assumption) | refine Below.st ?_ (by first | exact Nat.le_refl _ | (simp; done) | (simp; omega)) _))⟩
end Go.Proofs.Ytcbolpjacoiclaa
