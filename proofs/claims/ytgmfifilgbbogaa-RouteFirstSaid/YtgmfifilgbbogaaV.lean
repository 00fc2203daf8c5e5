


/- Volume: the kit's copies and comparisons of plans and of lists of numbers. -/
import Derived.Test.YtgmfifilgbbogaaRA
import Derived.Test.YtgmfifilgbbogaaRG
import Derived.Test.YtgmfifilgbbogaaRQ
namespace Go.Proofs.Ytgmfifilgbbogaa
open Go.RowKit
set_option linter.unusedSimpArgs false
set_option linter.unusedVariables false
set_option maxRecDepth 100000

theorem ECt : ElemOk Try.prog 22 52 (.agg #[.int .i64 0, .int .i64 0, .int .i64 0, .int .i64 0, .int .i64 0, .int .i64 0]) 6 48 := ⟨Try.underlying22, by kernel_rfl, rfl, by decide⟩
theorem ccs_one (cs : List Ct) : ∀ u ∈ ccs cs, u.oneCell' = true := by
  intro u hu
  unfold ccs at hu
  obtain ⟨l, hl, hul⟩ := List.mem_flatten.1 hu
  obtain ⟨c, _, rfl⟩ := List.mem_map.1 hl
  simp [Ct.cells] at hul
  rcases hul with rfl | rfl | rfl | rfl | rfl | rfl <;> rfl
/-- a call has returned a plan of its own -/
def PR (w : World) (cs : List Ct) (e : Ending) (w' : World) : Prop := ∃ v, e = .returned v ∧ RdC w' v cs ∧ Below w.heap.size w w'
theorem ownPlan_any (v : Value) (cs : List Ct) (hl : cs.length ≤ 1000000) (w : World) (h : RdC w v cs) :
    Calls Try.prog 11 #[v] w (PR w cs) := by
  have hrd0 : RdS (w.alloc (.cells #[] 52)) 6 v cs.length (ccs cs) := h.keep (by repeat (first | assumption | exact Below.refl _ _ | apply Below.al | apply below_drewN | apply Below.drew | refine Below.next ?_ (by assumption)))
  have hown0 : (w.alloc (.cells #[] 52)).ownsRow w.heap.size 52 6 (.slice (some ⟨w.heap.size, 0, none⟩) 0 0) 0 [] := owns_block _ _ 52 6 0 [] _ (Nat.le_refl _) (heap_last w _) rfl (by decide)
  obtain ⟨N, hN⟩ : ∃ N, cs.length = N := ⟨_, rfl⟩
  rw [hN] at hl hrd0
  have HN := Lib.hid hN
  have HRD := Lib.hid hrd0
  clear hN h hrd0
  go_enter Try.func11, Try.ntmps11
  go_wp2_with (at_builtin; refine wpList_app rfl (.tmp 3) (.tmp 4) 22 rfl w.heap.size 52 _ 6 48 ECt _ 0 [] rfl hown0 _ N (ccs cs) rfl HRD.out (ccs_one _) ?c1 ?c2 ?c3 ?c4)
  case c1 => unfold maxLen; omega
  case c2 => omega
  case c3 => simp
  case c4 =>
    intro a3 c3 w3 hown3 hg3 hb3
    have hown3 : w3.ownsRow w.heap.size 52 6 (.slice a3 N c3) N (ccs cs) := by first | with_reducible exact hown3 | simpa using hown3
    have hR : RdC w3 (.slice a3 N c3) cs := by
      have := RdS.of_owns hown3 (by decide)
      unfold RdC; rw [HN.out]; exact this
    have hB : Below w.heap.size w w3 := Below.trans (Below.al (Below.refl _ _) _) hb3
    clear hown3 hown0 hg3
    have HR := Lib.hid hR
    clear hR
    go_wp2
    go_ret
    exact ⟨_, rfl, HR.out, hB⟩
set_option maxHeartbeats 1000000 in
theorem sameInts_eq (v u : Value) (xs : List Int) (hl : xs.length ≤ 1000000) (w : World) (h : RdI .i64 w v xs) (hu : RdI .i64 w u xs) :
    Calls Try.prog 19 #[v, u] w fun e w' => e = .returned (.bool true) ∧ Below w.heap.size w w' := by
  obtain ⟨a0, n0, rfl⟩ := h.form
  obtain ⟨a1, n1, rfl⟩ := hu.form
  obtain ⟨N, hN⟩ : ∃ N, xs.length = N := ⟨_, rfl⟩
  rw [hN] at h hu hl ⊢
  have HR := Lib.hid h
  have HU := Lib.hid hu
  have HN := Lib.hid hN
  clear h hu hN
  have d0 : ((N : Int) != (N : Int)) = false := by simp
  go_enter Try.func19, Try.ntmps19
  go_wp2
  go_loopw [5] (fun i wr => ∃ k : Nat, k ≤ N ∧ i = .int .i64 k ∧ Below w.heap.size w wr) (fun i _ => N - (intOf i).toNat)
  case atStart => exact ⟨0, Nat.zero_le _, rfl, Below.refl _ _⟩
  case round =>
    obtain ⟨k, hk, rfl, hB⟩ := hrel
    by_cases hlt : k < N
    · have d2 : decide ((k : Int) < (N : Int)) = true := yb (by omega)
      obtain ⟨b1, o1, rfl, hc1, h1⟩ := HR.out.at HN.out k hlt
      obtain ⟨b2, o2, rfl, hc2, h2⟩ := HU.out.at HN.out k hlt
      have h1 := cell_later hB h1
      have h2 := cell_later hB h2
      obtain ⟨x, HX⟩ : ∃ x, Hid (xs.getD k 0 = x) := ⟨_, rfl⟩
      rw [HX.out] at h1 h2
      have hne : (x != x) = false := by simp
      have i1 : (0 : Int) ≤ (k : Int) := by omega
      have i2 : (k : Int) < (N : Int) := by omega
      have hwk : IntKind.i64.wrap (k : Int) = (k : Int) := IntWalk.i64_in _ (by omega)
      go_wp2_with fail
      refine wp_region_calm (fun w' => Below wr.heap.size wr w') 99 (by kernel_rfl) ((Below.refl _ wr).drew) ?_
      refine cm_run 0 17 (v := ?_) rfl rfl (by kernel_rfl) (by kernel_rfl) (by kernel_rfl) (by kernel_rfl) (by kernel_rfl) (fun _ _ _ h => h) (by rfl) ?_ ?_
      rotate_left
      · (intro wS hS; skip; go_simp; (try with_reducible rfl))
      simp only [List.setIfInBounds_toArray, List.set_cons_zero, List.set_cons_succ]
      refine cm_run 1 18 (v := ?_) rfl rfl (by kernel_rfl) (by kernel_rfl) (by kernel_rfl) (by kernel_rfl) (by kernel_rfl) (fun _ _ _ h => h) (by rfl) ?_ ?_
      rotate_left
      · (intro wS hS; skip; go_simp; (try with_reducible rfl))
      simp only [List.setIfInBounds_toArray, List.set_cons_zero, List.set_cons_succ]
      refine cm_run 2 19 (v := ?_) rfl rfl (by kernel_rfl) (by kernel_rfl) (by kernel_rfl) (by kernel_rfl) (by kernel_rfl) (fun _ _ _ h => h) (by rfl) ?_ ?_
      rotate_left
      · (intro wS hS; skip; go_simp; (try with_reducible rfl))
      simp only [List.setIfInBounds_toArray, List.set_cons_zero, List.set_cons_succ]
      refine cm_run 3 20 (v := ?_) rfl rfl (by kernel_rfl) (by kernel_rfl) (by kernel_rfl) (by kernel_rfl) (by kernel_rfl) (fun _ _ _ h => h) (by rfl) ?_ ?_
      rotate_left
      · (intro wS hS; have g := cell_later hS h1; go_simp; (try with_reducible rfl))
      simp only [List.setIfInBounds_toArray, List.set_cons_zero, List.set_cons_succ]
      refine cm_run 4 21 (v := ?_) rfl rfl (by kernel_rfl) (by kernel_rfl) (by kernel_rfl) (by kernel_rfl) (by kernel_rfl) (fun _ _ _ h => h) (by rfl) ?_ ?_
      rotate_left
      · (intro wS hS; skip; go_simp; (try with_reducible rfl))
      simp only [List.setIfInBounds_toArray, List.set_cons_zero, List.set_cons_succ]
      refine cm_run 5 22 (v := ?_) rfl rfl (by kernel_rfl) (by kernel_rfl) (by kernel_rfl) (by kernel_rfl) (by kernel_rfl) (fun _ _ _ h => h) (by rfl) ?_ ?_
      rotate_left
      · (intro wS hS; skip; go_simp; (try with_reducible rfl))
      simp only [List.setIfInBounds_toArray, List.set_cons_zero, List.set_cons_succ]
      refine cm_run 6 23 (v := ?_) rfl rfl (by kernel_rfl) (by kernel_rfl) (by kernel_rfl) (by kernel_rfl) (by kernel_rfl) (fun _ _ _ h => h) (by rfl) ?_ ?_
      rotate_left
      · (intro wS hS; skip; go_simp; (try with_reducible rfl))
      simp only [List.setIfInBounds_toArray, List.set_cons_zero, List.set_cons_succ]
      refine cm_run 7 24 (v := ?_) rfl rfl (by kernel_rfl) (by kernel_rfl) (by kernel_rfl) (by kernel_rfl) (by kernel_rfl) (fun _ _ _ h => h) (by rfl) ?_ ?_
      rotate_left
      · (intro wS hS; have g := cell_later hS h2; go_simp; (try with_reducible rfl))
      simp only [List.setIfInBounds_toArray, List.set_cons_zero, List.set_cons_succ]
      refine cm_run 8 25 (v := ?_) rfl rfl (by kernel_rfl) (by kernel_rfl) (by kernel_rfl) (by kernel_rfl) (by kernel_rfl) (fun _ _ _ h => h) (by rfl) ?_ ?_
      rotate_left
      · (intro wS hS; skip; go_simp; (try with_reducible rfl))
      simp only [List.setIfInBounds_toArray, List.set_cons_zero, List.set_cons_succ]
      refine cm_done (by kernel_rfl) ?_
      intro wS hS
      refine NoPanic.normal ?_
      have hB := Below.next hB hS
      go_wp2_with fail
      go_roundw
      case rel => exact ⟨k + 1, by omega, by go_num, hB⟩
      case measure => simp [intOf]; omega
    · have d2 : decide ((k : Int) < (N : Int)) = false := nb (by omega)
      go_wp2_with fail
      go_ret
      exact ⟨rfl, hB⟩
set_option maxHeartbeats 1000000 in
theorem samePlan_eq (v u : Value) (cs : List Ct) (hl : cs.length ≤ 1000000) (w : World) (h : RdC w v cs) (hu : RdC w u cs) :
    Calls Try.prog 20 #[v, u] w fun e w' => e = .returned (.bool true) ∧ Below w.heap.size w w' := by
  obtain ⟨a0, n0, rfl⟩ := h.form
  obtain ⟨a1, n1, rfl⟩ := hu.form
  obtain ⟨N, hN⟩ : ∃ N, cs.length = N := ⟨_, rfl⟩
  rw [hN] at h hu hl ⊢
  have HR := Lib.hid h
  have HU := Lib.hid hu
  have HN := Lib.hid hN
  clear h hu hN
  have d0 : ((N : Int) != (N : Int)) = false := by simp
  go_enter Try.func20, Try.ntmps20
  go_wp2
  go_loopw [5] (fun i wr => ∃ k : Nat, k ≤ N ∧ i = .int .i64 k ∧ Below w.heap.size w wr) (fun i _ => N - (intOf i).toNat)
  case atStart => exact ⟨0, Nat.zero_le _, rfl, Below.refl _ _⟩
  case round =>
    obtain ⟨k, hk, rfl, hB⟩ := hrel
    by_cases hlt : k < N
    · have d2 : decide ((k : Int) < (N : Int)) = true := yb (by omega)
      obtain ⟨b1, o1, rfl, hc1, h1⟩ := HR.out.at HN.out k hlt
      obtain ⟨b2, o2, rfl, hc2, h2⟩ := HU.out.at HN.out k hlt
      have h1 := CA.keep hB h1
      have h2 := CA.keep hB h2
      obtain ⟨x, HX⟩ : ∃ x, Hid (cs.getD k c0 = x) := ⟨_, rfl⟩
      rw [HX.out] at h1 h2
      have i1 : (0 : Int) ≤ (k : Int) := by omega
      have i2 : (k : Int) < (N : Int) := by omega
      have hwk : IntKind.i64.wrap (k : Int) = (k : Int) := IntWalk.i64_in _ (by omega)
      go_wp2_with fail
      refine wp_region_calm (fun w' => Below wr.heap.size wr w') 99 (by kernel_rfl) ((Below.refl _ wr).drew) ?_
      refine cm_run 0 17 (v := ?_) rfl rfl (by kernel_rfl) (by kernel_rfl) (by kernel_rfl) (by kernel_rfl) (by kernel_rfl) (fun _ _ _ h => h) (by rfl) ?_ ?_
      rotate_left
      · (intro wS hS; skip; go_simp; (try with_reducible rfl))
      simp only [List.setIfInBounds_toArray, List.set_cons_zero, List.set_cons_succ]
      refine cm_run 1 18 (v := ?_) rfl rfl (by kernel_rfl) (by kernel_rfl) (by kernel_rfl) (by kernel_rfl) (by kernel_rfl) (fun _ _ _ h => h) (by rfl) ?_ ?_
      rotate_left
      · (intro wS hS; skip; go_simp; (try with_reducible rfl))
      simp only [List.setIfInBounds_toArray, List.set_cons_zero, List.set_cons_succ]
      refine cm_run 2 19 (v := ?_) rfl rfl (by kernel_rfl) (by kernel_rfl) (by kernel_rfl) (by kernel_rfl) (by kernel_rfl) (fun _ _ _ h => h) (by rfl) ?_ ?_
      rotate_left
      · (intro wS hS; skip; go_simp; (try with_reducible rfl))
      simp only [List.setIfInBounds_toArray, List.set_cons_zero, List.set_cons_succ]
      refine cm_run 3 20 (v := ?_) rfl rfl (by kernel_rfl) (by kernel_rfl) (by kernel_rfl) (by kernel_rfl) (by kernel_rfl) (fun _ _ _ h => h) (by rfl) ?_ ?_
      rotate_left
      · (intro wS hS; have g := CA.keep hS h1; go_simp; (try with_reducible rfl))
      simp only [List.setIfInBounds_toArray, List.set_cons_zero, List.set_cons_succ]
      refine cm_run 4 21 (v := ?_) rfl rfl (by kernel_rfl) (by kernel_rfl) (by kernel_rfl) (by kernel_rfl) (by kernel_rfl) (fun _ _ _ h => h) (by rfl) ?_ ?_
      rotate_left
      · (intro wS hS; skip; go_simp; (try with_reducible rfl))
      simp only [List.setIfInBounds_toArray, List.set_cons_zero, List.set_cons_succ]
      refine cm_run 5 22 (v := ?_) rfl rfl (by kernel_rfl) (by kernel_rfl) (by kernel_rfl) (by kernel_rfl) (by kernel_rfl) (fun _ _ _ h => h) (by rfl) ?_ ?_
      rotate_left
      · (intro wS hS; skip; go_simp; (try with_reducible rfl))
      simp only [List.setIfInBounds_toArray, List.set_cons_zero, List.set_cons_succ]
      refine cm_run 6 23 (v := ?_) rfl rfl (by kernel_rfl) (by kernel_rfl) (by kernel_rfl) (by kernel_rfl) (by kernel_rfl) (fun _ _ _ h => h) (by rfl) ?_ ?_
      rotate_left
      · (intro wS hS; skip; go_simp; (try with_reducible rfl))
      simp only [List.setIfInBounds_toArray, List.set_cons_zero, List.set_cons_succ]
      refine cm_run 7 24 (v := ?_) rfl rfl (by kernel_rfl) (by kernel_rfl) (by kernel_rfl) (by kernel_rfl) (by kernel_rfl) (fun _ _ _ h => h) (by rfl) ?_ ?_
      rotate_left
      · (intro wS hS; have g := CA.keep hS h2; go_simp; (try with_reducible rfl))
      simp only [List.setIfInBounds_toArray, List.set_cons_zero, List.set_cons_succ]
      refine cm_run 8 25 (v := ?_) rfl rfl (by kernel_rfl) (by kernel_rfl) (by kernel_rfl) (by kernel_rfl) (by kernel_rfl) (fun _ _ _ h => h) (by rfl) ?_ ?_
      rotate_left
      · (intro wS hS; skip; go_simp; (try with_reducible rfl))
      simp only [List.setIfInBounds_toArray, List.set_cons_zero, List.set_cons_succ]
      refine cm_done (by kernel_rfl) ?_
      intro wS hS
      refine NoPanic.normal ?_
      have hB := Below.next hB hS
      go_wp2_with fail
      go_roundw
      case rel => exact ⟨k + 1, by omega, by go_num, hB⟩
      case measure => simp [intOf]; omega
    · have d2 : decide ((k : Int) < (N : Int)) = false := nb (by omega)
      go_wp2_with fail
      go_ret
      exact ⟨rfl, hB⟩
theorem mod_any (a n : Int) (hn : 1 ≤ n) (h1 : n ≤ 9223372036854775807) (ha : -9223372036854775808 ≤ a ∧ a ≤ 9223372036854775807) (w : World) :
    Calls Try.prog 32 #[.int .i64 a, .int .i64 n] w fun e w' => e = .returned (.int .i64 (a % n)) ∧ w = w' := by
  have hd : decide (n < 1) = false := nb (by omega)
  by_cases h0 : 0 ≤ a
  · have hm := Int.emod_nonneg a (show n ≠ 0 by omega)
    have hm2 := Int.emod_lt_of_pos a (show 0 < n by omega)
    have hd2 : decide (a % n < 0) = false := nb (by omega)
    go_enter Try.func32, Try.ntmps32
    go_wp2
    go_ret
    exact ⟨rfl, rfl⟩
  · have ht : a.tmod n = - ((-a) % n) := by
      rw [show a = -(-a) by omega, Int.neg_tmod, Int.tmod_eq_emod_of_nonneg (by omega)]; simp
    have hm := Int.emod_nonneg (-a) (show n ≠ 0 by omega)
    have hm2 := Int.emod_lt_of_pos (-a) (show 0 < n by omega)
    have he : a % n = if (-a) % n = 0 then 0 else n - (-a) % n := by
      by_cases hz : (-a) % n = 0
      · rw [if_pos hz]
        obtain ⟨c, hc⟩ := Int.dvd_of_emod_eq_zero hz
        exact Int.emod_eq_zero_of_dvd ⟨-c, by rw [Int.mul_neg, ← hc]; omega⟩
      · rw [if_neg hz]
        have e1 := Int.emod_add_mul_ediv (-a) n
        have : a = (n - (-a) % n) + n * (-((-a) / n) - 1) := by rw [Int.mul_sub, Int.mul_neg]; omega
        have e2 := Int.add_mul_emod_self_left (n - (-a) % n) n (-((-a) / n) - 1)
        rw [← this] at e2
        rw [e2]
        exact Int.emod_eq_of_lt (by omega) (by omega)
    obtain ⟨r, hr⟩ : ∃ r, (-a) % n = r := ⟨_, rfl⟩
    rw [hr] at ht hm hm2 he
    have HE := Lib.hid he
    obtain ⟨t, htt⟩ : ∃ t, a.tmod n = t := ⟨_, rfl⟩
    rw [htt] at ht
    have htn := Lib.hid ht
    have hb1 : t ≤ 0 := by omega
    have hb2 : -n < t := by omega
    have ha' : a < 0 := by omega
    clear he ht hr h0
    go_enter Try.func32, Try.ntmps32
    go_wp2
    · go_ret
      refine ⟨?_, rfl⟩
      rw [HE.out, if_neg (by have := htn.out; omega)]
      show Ending.returned (.int .i64 (t + n)) = _
      rw [htn.out, show n - r = -r + n by omega]
    · go_ret
      refine ⟨?_, rfl⟩
      rw [HE.out, if_pos (by have := htn.out; omega)]
      show Ending.returned (.int .i64 t) = _
      rw [show t = 0 by omega]

abbrev Ib (x : Int) : Prop := -9223372036854775808 ≤ x ∧ x ≤ 9223372036854775807
end Go.Proofs.Ytgmfifilgbbogaa
