

/- Links: one, Check in both texts, light. -/
import Derived.Test.YtimkeafpefkheaaDoorPl
import Derived.Test.YtimkeafpefkheaaDoorX
import Derived.Test.YtimkeafpefkheaaDoorProg
namespace Go.Proofs.YtimkeafpefkheaaDoor
open Go.RowKit
set_option linter.unusedSimpArgs false
set_option linter.unusedVariables false
set_option maxRecDepth 100000

theorem one_is (s : Fr) (hs : s.size ≤ 9223372036854775807) (er : Int) (he : oneE s = er) (w : World) :
    Calls Tryd.prog 33 #[.string s] w fun e w' => e = .returned (.int .i64 er) ∧ w = w' := by
  unfold oneE at he
  by_cases h0 : s.size = 0
  · rw [if_pos h0] at he
    obtain rfl := he
    have e1 := emp_yes h0
    clear h0
    go_enter Tryd.func33, Tryd.ntmps33
    go_wp2
    go_ret
    exact ⟨rfl, rfl⟩
  · rw [if_neg h0] at he
    have e1 := emp_no h0
    by_cases h1 : 1200 < s.size
    · rw [if_pos h1] at he
      obtain rfl := he
      have d1 : decide (1200 < (s.size : Int)) = true := yb (by omega)
      clear h0 h1
      go_enter Tryd.func33, Tryd.ntmps33
      go_wp2
      go_ret
      exact ⟨rfl, rfl⟩
    · rw [if_neg h1] at he
      obtain rfl := he
      have d1 : decide (1200 < (s.size : Int)) = false := nb (by omega)
      clear h0 h1
      go_enter Tryd.func33, Tryd.ntmps33
      go_wp2
      go_ret
      exact ⟨rfl, rfl⟩
/-- the frames fit an int -/
def Szs (l : List Fr) : Prop := ∀ s, s ∈ l → s.size ≤ 9223372036854775807
theorem Szs.get {l : List Fr} (h : Szs l) {k : Nat} (hk : k < l.length) : (l.getD k e0).size ≤ 9223372036854775807 := by
  rw [List.getD_eq_getElem?_getD, List.getElem?_eq_getElem hk]
  exact h _ (List.getElem_mem hk)
set_option maxHeartbeats 1000000 in
theorem check_is (v : Value) (l : List Fr) (hz : Szs l) (e n : Int) (hen : chkL l = (e, n)) (w : World) (h : RdT w v l) :
    Calls Tryd.prog 13 #[v] w fun x w' => x = .returned (.tuple #[.int .i64 e, .int .i64 n]) ∧ w = w' := by
  obtain ⟨a0, n0, rfl⟩ := h.form
  obtain ⟨N, hN⟩ : ∃ N, l.length = N := ⟨_, rfl⟩
  have hmx := h.2.1
  unfold maxLen at hmx
  rw [hN] at h hmx ⊢
  unfold chkL at hen
  rw [hN] at hen
  by_cases h64 : 64 < N
  · rw [if_pos h64] at hen
    simp only [Prod.mk.injEq] at hen
    obtain ⟨rfl, rfl⟩ := hen
    have d1 : decide ((64 : Int) < (N : Int)) = true := yb (by omega)
    clear h64 hN h
    go_enter Tryd.func13, Tryd.ntmps13
    go_wp2
    go_ret2
    exact ⟨rfl, rfl⟩
  · rw [if_neg h64] at hen
    have d1 : decide ((64 : Int) < (N : Int)) = false := nb (by omega)
    have HEN := Lib.hid hen
    have HR := Lib.hid h
    have HN := Lib.hid hN
    have HZ := Lib.hid hz
    clear hen h hN hz
    go_enter Tryd.func13, Tryd.ntmps13
    go_wp2
    go_loop [12] (fun i => ∃ k : Nat, k ≤ N ∧ i = .int .i64 k ∧ ∀ j, j < k → oneE (l.getD j e0) = 0) (fun i => N - (intOf i).toNat)
    case atStart => exact ⟨0, Nat.zero_le _, rfl, fun j hj => by omega⟩
    case round =>
      obtain ⟨k, hk, rfl, hz0⟩ := hrel
      have HZ0 := Lib.hid hz0
      clear hz0
      by_cases hlt : k < N
      · have d2 : decide ((k : Int) < (N : Int)) = true := yb (by omega)
        obtain ⟨b, off, rfl, hcap, hc⟩ := RdT.at HR.out HN.out k hlt
        have hsz := HZ.out.get (k := k) (by rw [HN.out]; exact hlt)
        obtain ⟨s, hs⟩ : ∃ s, Hid (l.getD k e0 = s) := ⟨_, rfl⟩
        rw [hs.out] at hc hsz
        obtain ⟨er, her⟩ : ∃ er, oneE s = er := ⟨_, rfl⟩
        have HER := Lib.hid her
        have i1 : (0 : Int) ≤ (k : Int) := by omega
        have hwk : IntKind.i64.wrap (k : Int) = (k : Int) := IntWalk.i64_in _ (by omega)
        by_cases hz1 : er = 0
        · subst hz1
          clear her
          go_wp2_with fail
          refine (one_is s hsz 0 HER.out _).mono ?_
          rintro e w1 ⟨rfl, rfl⟩
          go_wp2_with fail
          go_round
          case rel => exact ⟨k + 1, by omega, by go_num, fun j hj => by
            by_cases hjk : j = k
            · subst hjk; rw [hs.out]; exact HER.out
            · exact HZ0.out j (by omega)⟩
          case measure => simp [intOf]; omega
        · have hf := scanL_fail HZ0.out (by rw [hs.out, HER.out]; exact hz1) N (by omega)
          rw [HEN.out, hs.out, HER.out] at hf
          simp only [Prod.mk.injEq] at hf
          obtain ⟨rfl, rfl⟩ := hf
          have d3 : (e != 0) = true := by simpa using hz1
          clear her hz1
          go_wp2_with fail
          refine (one_is s hsz e HER.out _).mono ?_
          rintro e w1 ⟨rfl, rfl⟩
          go_wp2_with fail
          go_ret2
          exact ⟨rfl, rfl⟩
      · obtain rfl : k = N := by omega
        have d2 : decide ((k : Int) < (k : Int)) = false := nb (by omega)
        have hs := scanL_zero k HZ0.out
        rw [HEN.out] at hs
        simp only [Prod.mk.injEq] at hs
        obtain ⟨rfl, rfl⟩ := hs
        go_wp2_with fail
        go_ret2
        exact ⟨rfl, rfl⟩
set_option maxHeartbeats 1000000 in
theorem rcheck_is (v : Value) (l : List Fr) (hz : Szs l) (e n : Int) (hen : chkL l = (e, n)) (w : World) (h : RdT w v l) :
    Calls Tryd.prog 14 #[v] w fun x w' => x = .returned (.tuple #[.int .i64 e, .int .i64 n]) ∧ w = w' := by
  obtain ⟨a0, n0, rfl⟩ := h.form
  obtain ⟨N, hN⟩ : ∃ N, l.length = N := ⟨_, rfl⟩
  have hmx := h.2.1
  unfold maxLen at hmx
  rw [hN] at h hmx ⊢
  unfold chkL at hen
  rw [hN] at hen
  by_cases h64 : 64 < N
  · rw [if_pos h64] at hen
    simp only [Prod.mk.injEq] at hen
    obtain ⟨rfl, rfl⟩ := hen
    have d1 : decide ((64 : Int) < (N : Int)) = true := yb (by omega)
    clear h64 hN h
    go_enter Tryd.func14, Tryd.ntmps14
    go_wp2
    go_ret2
    exact ⟨rfl, rfl⟩
  · rw [if_neg h64] at hen
    have d1 : decide ((64 : Int) < (N : Int)) = false := nb (by omega)
    have HEN := Lib.hid hen
    have HR := Lib.hid h
    have HN := Lib.hid hN
    have HZ := Lib.hid hz
    clear hen h hN hz
    go_enter Tryd.func14, Tryd.ntmps14
    go_wp2
    go_loop [4] (fun i => ∃ k : Nat, k ≤ N ∧ i = .int .i64 k ∧ ∀ j, j < k → oneE (l.getD j e0) = 0) (fun i => N - (intOf i).toNat)
    case atStart => exact ⟨0, Nat.zero_le _, rfl, fun j hj => by omega⟩
    case round =>
      obtain ⟨k, hk, rfl, hz0⟩ := hrel
      have HZ0 := Lib.hid hz0
      clear hz0
      by_cases hlt : k < N
      · have d2 : decide ((k : Int) < (N : Int)) = true := yb (by omega)
        obtain ⟨b, off, rfl, hcap, hc⟩ := RdT.at HR.out HN.out k hlt
        obtain ⟨s, hs⟩ : ∃ s, Hid (l.getD k e0 = s) := ⟨_, rfl⟩
        rw [hs.out] at hc
        have i1 : (0 : Int) ≤ (k : Int) := by omega
        have i2 : (k : Int) < (N : Int) := by omega
        have hwk : IntKind.i64.wrap (k : Int) = (k : Int) := IntWalk.i64_in _ (by omega)
        by_cases hz1 : oneE s = 0
        · have HER := Lib.hid hz1
          unfold oneE at hz1
          by_cases h0 : s.size = 0
          · rw [if_pos h0] at hz1; cases hz1
          rw [if_neg h0] at hz1
          by_cases h1 : 1200 < s.size
          · rw [if_pos h1] at hz1; cases hz1
          have e1 := emp_no h0
          have d3 : decide (1200 < (s.size : Int)) = false := nb (by omega)
          clear h0 h1 hz1
          go_wp2_with fail
          go_round
          case rel => exact ⟨k + 1, by omega, by go_num, fun j hj => by
            by_cases hjk : j = k
            · subst hjk; rw [hs.out]; exact HER.out
            · exact HZ0.out j (by omega)⟩
          case measure => simp [intOf]; omega
        · have hf := scanL_fail HZ0.out (by rw [hs.out]; exact hz1) N (by omega)
          rw [HEN.out, hs.out] at hf
          simp only [Prod.mk.injEq] at hf
          obtain ⟨he, rfl⟩ := hf
          unfold oneE at he hz1
          by_cases h0 : s.size = 0
          · rw [if_pos h0] at he
            obtain rfl := he
            have e1 := emp_yes h0
            clear h0 hz1
            go_wp2_with fail
            go_ret2
            exact ⟨rfl, rfl⟩
          · have e1 := emp_no h0
            rw [if_neg h0] at he hz1
            by_cases h1 : 1200 < s.size
            · rw [if_pos h1] at he
              obtain rfl := he
              have d3 : decide (1200 < (s.size : Int)) = true := yb (by omega)
              clear h0 h1 hz1
              go_wp2_with fail
              go_ret2
              exact ⟨rfl, rfl⟩
            · rw [if_neg h1] at hz1
              exact absurd rfl hz1
      · obtain rfl : k = N := by omega
        have d2 : decide ((k : Int) < (k : Int)) = false := nb (by omega)
        have hs := scanL_zero k HZ0.out
        rw [HEN.out] at hs
        simp only [Prod.mk.injEq] at hs
        obtain ⟨rfl, rfl⟩ := hs
        go_wp2_with fail
        go_ret2
        exact ⟨rfl, rfl⟩
/-- a list is light -/
def lightB (l : List Fr) : Bool := l.all (fun s => decide (s.size ≤ 1300)) && decide (l.length ≤ 70)
theorem lightB_yes {l : List Fr} (h : lightB l = true) : l.length ≤ 70 ∧ ∀ s, s ∈ l → s.size ≤ 1300 := by
  unfold lightB at h
  simp only [Bool.and_eq_true, List.all_eq_true, decide_eq_true_eq] at h
  exact ⟨h.2, h.1⟩
/-- light answers some bool; where it is true, the list is short and its frames are -/
def LiB (l : List Fr) (w : World) (x : Ending) (w' : World) : Prop := ∃ b, x = .returned (.bool b) ∧ (b = true → l.length ≤ 70 ∧ ∀ s, s ∈ l → s.size ≤ 1300) ∧ w = w'
theorem mem_getD {l : List Fr} {s : Fr} (h : s ∈ l) : ∃ k, k < l.length ∧ l.getD k e0 = s := by
  obtain ⟨k, hk, he⟩ := List.mem_iff_getElem.1 h
  exact ⟨k, hk, by rw [List.getD_eq_getElem?_getD, List.getElem?_eq_getElem hk]; exact he⟩
set_option maxHeartbeats 1000000 in
theorem light_any (v : Value) (l : List Fr) (hz : Szs l) (w : World) (h : RdT w v l) :
    Calls Tryd.prog 10 #[v] w (LiB l w) := by
  obtain ⟨a0, n0, rfl⟩ := h.form
  obtain ⟨N, hN⟩ : ∃ N, l.length = N := ⟨_, rfl⟩
  have hmx := h.2.1
  unfold maxLen at hmx
  rw [hN] at h hmx ⊢
  have HR := Lib.hid h
  have HN := Lib.hid hN
  have HZ := Lib.hid hz
  clear h hN hz
  go_enter Tryd.func10, Tryd.ntmps10
  go_wp2
  go_loop [3] (fun i => ∃ k : Nat, k ≤ N ∧ k ≤ 71 ∧ i = .int .i64 k ∧ ∀ j, j < k → (l.getD j e0).size ≤ 1300) (fun i => N - (intOf i).toNat)
  case atStart => exact ⟨0, Nat.zero_le _, by omega, rfl, fun j hj => by omega⟩
  case round =>
    obtain ⟨k, hk, hk71, rfl, hz0⟩ := hrel
    have HZ0 := Lib.hid hz0
    clear hz0
    by_cases hlt : k < N
    · have d2 : decide ((k : Int) < (N : Int)) = true := yb (by omega)
      by_cases h71 : k < 71
      · have d71 : decide ((k : Int) < 71) = true := yb (by omega)
        obtain ⟨b, off, rfl, hcap, hc⟩ := RdT.at HR.out HN.out k hlt
        obtain ⟨s, hs⟩ : ∃ s, Hid (l.getD k e0 = s) := ⟨_, rfl⟩
        rw [hs.out] at hc
        have i1 : (0 : Int) ≤ (k : Int) := by omega
        have i2 : (k : Int) < (N : Int) := by omega
        have hwk : IntKind.i64.wrap (k : Int) = (k : Int) := IntWalk.i64_in _ (by omega)
        by_cases h1 : 1300 < s.size
        · have d3 : decide (1300 < (s.size : Int)) = true := yb (by omega)
          clear h1
          go_wp2_with fail
          go_ret
          exact ⟨false, rfl, fun h => (by cases h), rfl⟩
        · have d3 : decide (1300 < (s.size : Int)) = false := nb (by omega)
          have HS : Hid (s.size ≤ 1300) := by unfold Hid; omega
          clear h1
          go_wp2_with fail
          go_round
          case rel => exact ⟨k + 1, by omega, by omega, by go_num, fun j hj => by
            by_cases hjk : j = k
            · subst hjk; rw [hs.out]; exact HS.out
            · exact HZ0.out j (by omega)⟩
          case measure => simp [intOf]; omega
      · have d71 : decide ((k : Int) < 71) = false := nb (by omega)
        have d70 : decide ((N : Int) ≤ 70) = false := nb (by omega)
        go_wp2_with fail
        go_ret
        exact ⟨_, rfl, fun h => (by cases h), rfl⟩
    · obtain rfl : k = N := by omega
      have d2 : decide ((k : Int) < (k : Int)) = false := nb (by omega)
      have HC : Hid (decide ((k : Int) ≤ 70) = true → l.length ≤ 70 ∧ ∀ s, s ∈ l → s.size ≤ 1300) := fun h => by
        have h := of_decide_eq_true h
        refine ⟨by rw [HN.out]; omega, fun s hs => ?_⟩
        obtain ⟨j, hj, rfl⟩ := mem_getD hs
        exact HZ0.out j (by rw [← HN.out]; exact hj)
      go_wp2_with fail
      go_ret
      exact ⟨_, rfl, HC.out, rfl⟩
end Go.Proofs.YtimkeafpefkheaaDoor
