


/- Timers: a number within bounds, timers made of numbers, whether all timers of a list are in another one. -/
import Derived.Test.YtigmhglkohjlhaaV
namespace Go.Proofs.Ytigmhglkohjlhaa
open Go.RowKit
set_option linter.unusedSimpArgs false
set_option linter.unusedVariables false
set_option maxRecDepth 100000

theorem mod_any (a n : Int) (hn : 1 ≤ n) (h1 : n ≤ 9223372036854775807) (ha : -9223372036854775808 ≤ a ∧ a ≤ 9223372036854775807) (w : World) :
    Calls Try.prog 19 #[.int .i64 a, .int .i64 n] w fun e w' => e = .returned (.int .i64 (a % n)) ∧ w = w' := by
  have hd : decide (n < 1) = false := nb (by omega)
  by_cases h0 : 0 ≤ a
  · have hm := Int.emod_nonneg a (show n ≠ 0 by omega)
    have hm2 := Int.emod_lt_of_pos a (show 0 < n by omega)
    have hd2 : decide (a % n < 0) = false := nb (by omega)
    go_enter Try.func19, Try.ntmps19
    go_wp2
    go_ret
    exact ⟨rfl, rfl⟩
  · have ht : a.tmod n = - ((-a) % n) := by
      rw [show a = -(-a) by omega, Int.neg_tmod, Int.tmod_eq_emod_of_nonneg (by omega)]; simp
    have hm := Int.emod_nonneg (-a) (show n ≠ 0 by omega)
    have hm2 := Int.emod_lt_of_pos (-a) (show 0 < n by omega)
    have he : a % n = if (-a) % n = 0 then 0 else n - (-a) % n := by
      by_cases hz : (-a) % n = 0
      · rw [if_pos hz]
        obtain ⟨c, hc⟩ := Int.dvd_of_emod_eq_zero hz
        exact Int.emod_eq_zero_of_dvd ⟨-c, by rw [Int.mul_neg, ← hc]; omega⟩
      · rw [if_neg hz]
        have e1 := Int.emod_add_mul_ediv (-a) n
        have : a = (n - (-a) % n) + n * (-((-a) / n) - 1) := by rw [Int.mul_sub, Int.mul_neg]; omega
        have e2 := Int.add_mul_emod_self_left (n - (-a) % n) n (-((-a) / n) - 1)
        rw [← this] at e2
        rw [e2]
        exact Int.emod_eq_of_lt (by omega) (by omega)
    obtain ⟨r, hr⟩ : ∃ r, (-a) % n = r := ⟨_, rfl⟩
    rw [hr] at ht hm hm2 he
    have HE := Lib.hid he
    obtain ⟨t, htt⟩ : ∃ t, a.tmod n = t := ⟨_, rfl⟩
    rw [htt] at ht
    have htn := Lib.hid ht
    have hb1 : t ≤ 0 := by omega
    have hb2 : -n < t := by omega
    have ha' : a < 0 := by omega
    clear he ht hr h0
    go_enter Try.func19, Try.ntmps19
    go_wp2
    · go_ret
      refine ⟨?_, rfl⟩
      rw [HE.out, if_neg (by have := htn.out; omega)]
      show Ending.returned (.int .i64 (t + n)) = _
      rw [htn.out, show n - r = -r + n by omega]
    · go_ret
      refine ⟨?_, rfl⟩
      rw [HE.out, if_pos (by have := htn.out; omega)]
      show Ending.returned (.int .i64 t) = _
      rw [show t = 0 by omega]

abbrev Ib (x : Int) : Prop := -9223372036854775808 ≤ x ∧ x ≤ 9223372036854775807
/-- the timer made of a number -/
def mkTm (n : Int) (i : Nat) : Tm := ⟨n % 20, 1 + n / 20 % 9, 1 + n / 180 % 3, (i : Int), 0⟩
/-- the first k timers made of numbers -/
def madeN (xs : List Int) : Nat → List Tm
  | 0 => []
  | k + 1 => madeN xs k ++ [mkTm (xs.getD k 0 % 1048576) k]
def madeW (xs : List Int) : List Tm := madeN xs (min xs.length 30)
theorem RdI.at {k : IntKind} {w : World} {a : Option Addr} {n c : Nat} {xs : List Int} (h : RdI k w (.slice a n c) xs) (hn : xs.length = n) (i : Nat) (hi : i < n) : ∃ b off, a = some ⟨b, off, none⟩ ∧ n ≤ c ∧ w.cell? ⟨b, off + i, none⟩ = some (.int k (xs.getD i 0)) := by
  obtain ⟨_, ⟨a', cap, hv, he⟩ | ⟨b, off, cap, hv, hc, hr⟩⟩ := h.cases
  · subst he; simp at hn; omega
  · simp only [Value.slice.injEq] at hv
    obtain ⟨rfl, h1, rfl⟩ := hv
    exact ⟨b, off, rfl, by omega, hr i (by omega)⟩
theorem madeN_len (xs : List Int) : ∀ k, (madeN xs k).length = k
  | 0 => rfl
  | k + 1 => by unfold madeN; rw [List.length_append, madeN_len xs k]; rfl
set_option maxHeartbeats 4000000 in
theorem made_any (v : Value) (xs : List Int) (hb : ∀ x ∈ xs, Ib x) (w : World) (h : RdI .i64 w v xs) : Calls Try.prog 16 #[v] w fun e w' => ∃ a c, e = .returned (.slice a (madeW xs).length c) ∧ w'.ownsRow w.heap.size 41 5 (.slice a (madeW xs).length c) (madeW xs).length (rcs tmR (madeW xs)) ∧ Below w.heap.size w w' := by
  obtain ⟨a0, n0, rfl⟩ := h.form
  obtain ⟨N, hN⟩ : ∃ N, xs.length = N := ⟨_, rfl⟩
  have HR := Lib.hid (show RdI .i64 w (.slice a0 N n0) xs by rw [hN] at h; exact h)
  have hmx : N ≤ 9223372036854775807 := by have := h.2.1; unfold maxLen at this; omega
  have HN := Lib.hid hN
  have HBD := Lib.hid hb
  obtain ⟨M, hM⟩ : ∃ M, min N 30 = M := ⟨_, rfl⟩
  have HML : Hid (madeW xs = madeN xs M) := by unfold Hid madeW; rw [hN, hM]
  rw [HML.out, madeN_len, hN]
  clear h hb hN
  go_enter Try.func16, Try.ntmps16
  go_wp2_with fail
  go_loopw [3, 4] (fun ou ix wr => ∃ (k c : Nat) (a : Option Addr), k ≤ M ∧ ou = .slice a k c ∧ ix = .int .i64 (k : Int) ∧ wr.ownsRow w.heap.size 41 5 (.slice a k c) k (rcs tmR (madeN xs k)) ∧ Below w.heap.size w wr) (fun _ ix _ => (M : Int).toNat - (intOf ix).toNat)
  case atStart => exact ⟨0, 0, none, by omega, rfl, rfl, ⟨rfl, .inl ⟨rfl, rfl⟩⟩, Below.refl _ _⟩
  case round =>
    obtain ⟨k, c, a, hk, rfl, rfl, ho, hB⟩ := hrel
    have HO := Lib.hid ho
    clear ho
    by_cases hlt : k < M
    · have d1 : decide ((k : Int) < (N : Int)) = true := yb (by omega)
      have d2 : decide ((k : Int) < (30 : Int)) = true := yb (by omega)
      have i1 : (0 : Int) ≤ (k : Int) := by omega
      have i2 : (k : Int) < (N : Int) := by omega
      have hwk : IntKind.i64.wrap (k : Int) = (k : Int) := IntWalk.i64_in _ (by omega)
      obtain ⟨b0, o0, rfl, hc0, hcx⟩ := RdI.at (HR.out.keep hB) HN.out k (by omega)
      obtain ⟨z, hz⟩ : ∃ z, xs.getD k 0 = z := ⟨_, rfl⟩
      rw [hz] at hcx
      have hzb : Ib z := by
        rw [← hz, List.getD_eq_getElem?_getD, List.getElem?_eq_getElem (by rw [HN.out]; omega)]
        exact HBD.out _ (List.getElem_mem _)
      obtain ⟨y, HY, y0, y1⟩ : ∃ y, Hid (z % 1048576 = y) ∧ 0 ≤ y ∧ y < 1048576 := ⟨_, rfl, Int.emod_nonneg _ (by omega), Int.emod_lt_of_pos _ (by omega)⟩
      have HST : Hid (madeN xs (k + 1) = madeN xs k ++ [mkTm y k]) := by
        unfold Hid
        rw [← HY.out, ← hz]
        rfl
      clear hz
      go_wp2_with fail
      refine (mod_any z 1048576 (by omega) (by omega) hzb _).mono ?_
      rw [HY.out]
      rintro e w9 ⟨rfl, rfl⟩
      have r1 : y.tmod 20 = y % 20 := Int.tmod_eq_emod_of_nonneg y0
      have r2 : y.tdiv 20 = y / 20 := Int.tdiv_eq_ediv_of_nonneg y0
      have r3 : y.tdiv 180 = y / 180 := Int.tdiv_eq_ediv_of_nonneg y0
      have r4 : (y / 20).tmod 9 = y / 20 % 9 := Int.tmod_eq_emod_of_nonneg (by omega)
      have r5 : (y / 180).tmod 3 = y / 180 % 3 := Int.tmod_eq_emod_of_nonneg (by omega)
      have e1 := Int.emod_nonneg (y / 20) (show (9 : Int) ≠ 0 by omega)
      have e2 := Int.emod_lt_of_pos (y / 20) (show (0 : Int) < 9 by omega)
      have e3 := Int.emod_nonneg (y / 180) (show (3 : Int) ≠ 0 by omega)
      have e4 := Int.emod_lt_of_pos (y / 180) (show (0 : Int) < 3 by omega)
      have v1 : IntKind.i64.wrap (y / 20) = y / 20 := IntWalk.i64_in _ (by omega)
      have v2 : IntKind.i64.wrap (y / 180) = y / 180 := IntWalk.i64_in _ (by omega)
      have v3 : IntKind.i64.wrap (1 + y / 20 % 9) = 1 + y / 20 % 9 := IntWalk.i64_in _ (by omega)
      have v4 : IntKind.i64.wrap (1 + y / 180 % 3) = 1 + y / 180 % 3 := IntWalk.i64_in _ (by omega)
      have v5 : IntKind.u64.wrap (k : Int) = (k : Int) := IntWalk.u64_in _ (by omega)
      clear e1 e2 e3 e4
      have HOX := Lib.hid (HO.out.alloc (.cells #[.int .i64 (y % 20), .int .i64 (1 + y / 20 % 9), .int .i64 (1 + y / 180 % 3), .int .u64 (k : Int), .int .i64 0] 41))
      have HBX : Hid (RdS (wr.alloc (.cells #[.int .i64 (y % 20), .int .i64 (1 + y / 20 % 9), .int .i64 (1 + y / 180 % 3), .int .u64 (k : Int), .int .i64 0] 41)) 5 (.slice (some ⟨wr.heap.size, 0, none⟩) 1 1) 1 (Tm.cs (mkTm y k))) := RdS.box1 wr 41 (mkTm y k)
      have hBr2 := Below.al hB (.cells #[.int .i64 (y % 20), .int .i64 (1 + y / 20 % 9), .int .i64 (1 + y / 180 % 3), .int .u64 (k : Int), .int .i64 0] 41)
      have hbz := hB.size
      go_upto_region 4 with (at_builtin; refine wpList_app rfl (.tmp 21) (.tmp 36) 22 rfl w.heap.size 41 _ 5 40 ETm _ k (rcs tmR (madeN xs k)) rfl HOX.out _ 1 (Tm.cs (mkTm y k)) rfl HBX.out (Tm.cs_one _) ?_ ?_ ?_ ?_)
      · unfold maxLen; omega
      · omega
      · simp; omega
      intro a5 c5 w5 hown5 hg5 hb5
      have hB5 : Below w.heap.size w w5 := hBr2.trans hb5
      have HO5 := Lib.hid (show w5.ownsRow w.heap.size 41 5 (.slice a5 (k + 1) c5) (k + 1) (rcs tmR (madeN xs (k + 1))) by rw [HST.out, show rcs tmR (madeN xs k ++ [mkTm y k]) = rcs tmR (madeN xs k) ++ Tm.cs (mkTm y k) by rw [rcs_append]; simp [rcs, tmR]]; exact hown5)
      clear hown5 hg5 hb5 hBr2 HOX HBX hcx r1 r2 r3 r4 r5 v1 v2 v3 v4 v5
      go_wp2_with fail
      go_roundw
      case rel => exact ⟨k + 1, c5, a5, by omega, rfl, by go_num, HO5.out, hB5⟩
      case measure => simp [intOf]; omega
    · obtain rfl : k = M := by omega
      by_cases h1 : k < N
      · have d1 : decide ((k : Int) < (N : Int)) = true := yb (by omega)
        have d1' : decide (k < N) = true := yb h1
        have d2 : decide ((k : Int) < (30 : Int)) = false := nb (by omega)
        clear hM
        go_wp2_with fail
        go_ret
        exact ⟨a, c, rfl, HO.out, hB⟩
      · have d1 : decide ((k : Int) < (N : Int)) = false := nb (by omega)
        have d1' : decide (k < N) = false := nb h1
        clear hM
        go_wp2_with fail
        go_ret
        exact ⟨a, c, rfl, HO.out, hB⟩
end Go.Proofs.Ytigmhglkohjlhaa
