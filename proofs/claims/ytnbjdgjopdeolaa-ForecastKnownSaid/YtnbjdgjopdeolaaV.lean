

/- Volume: the kit's copies and comparisons of plans and of lists of numbers. -/
import Derived.Test.YtnbjdgjopdeolaaU
namespace Go.Proofs.Ytnbjdgjopdeolaa
open Go.RowKit Go.Shelf
set_option linter.unusedSimpArgs false
set_option linter.unusedVariables false
set_option maxRecDepth 100000

theorem ECt : ElemOk Try.prog 39 23 (.agg #[.int .i64 0, .int .i64 0, .int .i64 0, .int .i64 0, .int .i64 0, .int .i64 0]) 6 48 := ⟨Try.underlying39, by kernel_rfl, rfl, by decide⟩
theorem ccs_one (cs : List Ct) : ∀ u ∈ ccs cs, u.oneCell' = true := by
  intro u hu
  unfold ccs at hu
  obtain ⟨l, hl, hul⟩ := List.mem_flatten.1 hu
  obtain ⟨c, _, rfl⟩ := List.mem_map.1 hl
  simp [Ct.cells] at hul
  rcases hul with rfl | rfl | rfl | rfl | rfl | rfl <;> rfl
/-- a call has returned a plan of its own -/
def PR (w : World) (cs : List Ct) (e : Ending) (w' : World) : Prop := ∃ v, e = .returned v ∧ RdC w' v cs ∧ Below w.heap.size w w'
theorem ownPlan_any (v : Value) (cs : List Ct) (hl : cs.length ≤ 1000000) (w : World) (h : RdC w v cs) :
    Calls Try.prog 30 #[v] w (PR w cs) := by
  have hrd0 : RdS (w.alloc (.cells #[] 23)) 6 v cs.length (ccs cs) := h.keep (by repeat (first | assumption | exact Below.refl _ _ | apply Below.al | apply below_drewN | apply Below.drew | refine Below.next ?_ (by assumption)))
  have hown0 : (w.alloc (.cells #[] 23)).ownsRow w.heap.size 23 6 (.slice (some ⟨w.heap.size, 0, none⟩) 0 0) 0 [] := owns_block _ _ 23 6 0 [] _ (Nat.le_refl _) (heap_last w _) rfl (by decide)
  obtain ⟨N, hN⟩ : ∃ N, cs.length = N := ⟨_, rfl⟩
  rw [hN] at hl hrd0
  have HN := Lib.hid hN
  have HRD := Lib.hid hrd0
  clear hN h hrd0
  go_enter Try.func30, Try.ntmps30
  go_wp2_with (at_builtin; refine wpList_app rfl (.tmp 3) (.tmp 4) 39 rfl w.heap.size 23 _ 6 48 ECt _ 0 [] rfl hown0 _ N (ccs cs) rfl HRD.out (ccs_one _) ?c1 ?c2 ?c3 ?c4)
  case c1 => unfold maxLen; omega
  case c2 => omega
  case c3 => simp
  case c4 =>
    intro a3 c3 w3 hown3 hg3 hb3
    have hown3 : w3.ownsRow w.heap.size 23 6 (.slice a3 N c3) N (ccs cs) := by first | with_reducible exact hown3 | simpa using hown3
    have hR : RdC w3 (.slice a3 N c3) cs := by
      have := RdS.of_owns hown3 (by decide)
      unfold RdC; rw [HN.out]; exact this
    have hB : Below w.heap.size w w3 := Below.trans (Below.al (Below.refl _ _) _) hb3
    clear hown3 hown0 hg3
    have HR := Lib.hid hR
    clear hR
    go_wp2
    go_ret
    exact ⟨_, rfl, HR.out, hB⟩
theorem ownInts_any (v : Value) (xs : List Int) (hl : xs.length ≤ 1000000) (w : World) (h : RdI .i64 w v xs) :
    Calls Try.prog 38 #[v] w (IR w xs) := by
  have hrd0 : RdS (w.alloc (.cells #[] 3)) 1 v xs.length (ic .i64 xs) := h.keep (by repeat (first | assumption | exact Below.refl _ _ | apply Below.al | apply below_drewN | apply Below.drew | refine Below.next ?_ (by assumption)))
  have hown0 : (w.alloc (.cells #[] 3)).ownsRow w.heap.size 3 1 (.slice (some ⟨w.heap.size, 0, none⟩) 0 0) 0 [] := owns_block _ _ 3 1 0 [] _ (Nat.le_refl _) (heap_last w _) rfl (by decide)
  obtain ⟨N, hN⟩ : ∃ N, xs.length = N := ⟨_, rfl⟩
  rw [hN] at hl hrd0
  have HN := Lib.hid hN
  have HRD := Lib.hid hrd0
  clear hN h hrd0
  go_enter Try.func38, Try.ntmps38
  go_wp2_with (at_builtin; refine wpList_app rfl (.tmp 3) (.tmp 4) 52 rfl w.heap.size 3 (.int .i64 0) 1 8 E52 _ 0 [] rfl hown0 _ N (ic .i64 xs) rfl HRD.out (ic_one _ _) ?c1 ?c2 ?c3 ?c4)
  case c1 => unfold maxLen; omega
  case c2 => omega
  case c3 => simp
  case c4 =>
    intro a3 c3 w3 hown3 hg3 hb3
    have hown3 : w3.ownsRow w.heap.size 3 1 (.slice a3 N c3) N (ic .i64 xs) := by first | with_reducible exact hown3 | simpa using hown3
    have hR : RdI .i64 w3 (.slice a3 N c3) xs := by
      have := RdS.of_owns hown3 (by decide)
      unfold RdI; rw [HN.out]; exact this
    have hF := Fresh.of_owns hown3
    have hB : Below w.heap.size w w3 := Below.trans (Below.al (Below.refl _ _) _) hb3
    clear hown3 hown0 hg3
    have HR := Lib.hid hR
    clear hR
    go_wp2
    go_ret
    exact ⟨_, rfl, HR.out, hF, hB⟩
set_option maxHeartbeats 1000000 in
theorem sameInts_eq (v u : Value) (xs : List Int) (hl : xs.length ≤ 1000000) (w : World) (h : RdI .i64 w v xs) (hu : RdI .i64 w u xs) :
    Calls Try.prog 43 #[v, u] w fun e w' => e = .returned (.bool true) ∧ Below w.heap.size w w' := by
  obtain ⟨a0, n0, rfl⟩ := h.form
  obtain ⟨a1, n1, rfl⟩ := hu.form
  obtain ⟨N, hN⟩ : ∃ N, xs.length = N := ⟨_, rfl⟩
  rw [hN] at h hu hl ⊢
  have HR := Lib.hid h
  have HU := Lib.hid hu
  have HN := Lib.hid hN
  clear h hu hN
  have d0 : ((N : Int) != (N : Int)) = false := by simp
  go_enter Try.func43, Try.ntmps43
  go_wp2
  go_loopw [5] (fun i wr => ∃ k : Nat, k ≤ N ∧ i = .int .i64 k ∧ Below w.heap.size w wr) (fun i _ => N - (intOf i).toNat)
  case atStart => exact ⟨0, Nat.zero_le _, rfl, Below.refl _ _⟩
  case round =>
    obtain ⟨k, hk, rfl, hB⟩ := hrel
    by_cases hlt : k < N
    · have d2 : decide ((k : Int) < (N : Int)) = true := yb (by omega)
      obtain ⟨b1, o1, rfl, hc1, h1⟩ := HR.out.at HN.out k hlt
      obtain ⟨b2, o2, rfl, hc2, h2⟩ := HU.out.at HN.out k hlt
      have h1 := cell_later hB h1
      have h2 := cell_later hB h2
      obtain ⟨x, HX⟩ : ∃ x, Hid (xs.getD k 0 = x) := ⟨_, rfl⟩
      rw [HX.out] at h1 h2
      have hne : (x != x) = false := by simp
      have i1 : (0 : Int) ≤ (k : Int) := by omega
      have i2 : (k : Int) < (N : Int) := by omega
      have hwk : IntKind.i64.wrap (k : Int) = (k : Int) := IntWalk.i64_in _ (by omega)
      go_wp2_with fail
      refine wp_region_calm (fun w' => Below wr.heap.size wr w') 99 (by kernel_rfl) ((Below.refl _ wr).drew) ?_
      refine cm_run 0 17 (v := ?_) rfl rfl (by kernel_rfl) (by kernel_rfl) (by kernel_rfl) (by kernel_rfl) (by kernel_rfl) (fun _ _ _ h => h) (by rfl) ?_ ?_
      rotate_left
      · (intro wS hS; skip; go_simp; (try with_reducible rfl))
      simp only [List.setIfInBounds_toArray, List.set_cons_zero, List.set_cons_succ]
      refine cm_run 1 18 (v := ?_) rfl rfl (by kernel_rfl) (by kernel_rfl) (by kernel_rfl) (by kernel_rfl) (by kernel_rfl) (fun _ _ _ h => h) (by rfl) ?_ ?_
      rotate_left
      · (intro wS hS; skip; go_simp; (try with_reducible rfl))
      simp only [List.setIfInBounds_toArray, List.set_cons_zero, List.set_cons_succ]
      refine cm_run 2 19 (v := ?_) rfl rfl (by kernel_rfl) (by kernel_rfl) (by kernel_rfl) (by kernel_rfl) (by kernel_rfl) (fun _ _ _ h => h) (by rfl) ?_ ?_
      rotate_left
      · (intro wS hS; skip; go_simp; (try with_reducible rfl))
      simp only [List.setIfInBounds_toArray, List.set_cons_zero, List.set_cons_succ]
      refine cm_run 3 20 (v := ?_) rfl rfl (by kernel_rfl) (by kernel_rfl) (by kernel_rfl) (by kernel_rfl) (by kernel_rfl) (fun _ _ _ h => h) (by rfl) ?_ ?_
      rotate_left
      · (intro wS hS; have g := cell_later hS h1; go_simp; (try with_reducible rfl))
      simp only [List.setIfInBounds_toArray, List.set_cons_zero, List.set_cons_succ]
      refine cm_run 4 21 (v := ?_) rfl rfl (by kernel_rfl) (by kernel_rfl) (by kernel_rfl) (by kernel_rfl) (by kernel_rfl) (fun _ _ _ h => h) (by rfl) ?_ ?_
      rotate_left
      · (intro wS hS; skip; go_simp; (try with_reducible rfl))
      simp only [List.setIfInBounds_toArray, List.set_cons_zero, List.set_cons_succ]
      refine cm_run 5 22 (v := ?_) rfl rfl (by kernel_rfl) (by kernel_rfl) (by kernel_rfl) (by kernel_rfl) (by kernel_rfl) (fun _ _ _ h => h) (by rfl) ?_ ?_
      rotate_left
      · (intro wS hS; skip; go_simp; (try with_reducible rfl))
      simp only [List.setIfInBounds_toArray, List.set_cons_zero, List.set_cons_succ]
      refine cm_run 6 23 (v := ?_) rfl rfl (by kernel_rfl) (by kernel_rfl) (by kernel_rfl) (by kernel_rfl) (by kernel_rfl) (fun _ _ _ h => h) (by rfl) ?_ ?_
      rotate_left
      · (intro wS hS; skip; go_simp; (try with_reducible rfl))
      simp only [List.setIfInBounds_toArray, List.set_cons_zero, List.set_cons_succ]
      refine cm_run 7 24 (v := ?_) rfl rfl (by kernel_rfl) (by kernel_rfl) (by kernel_rfl) (by kernel_rfl) (by kernel_rfl) (fun _ _ _ h => h) (by rfl) ?_ ?_
      rotate_left
      · (intro wS hS; have g := cell_later hS h2; go_simp; (try with_reducible rfl))
      simp only [List.setIfInBounds_toArray, List.set_cons_zero, List.set_cons_succ]
      refine cm_run 8 25 (v := ?_) rfl rfl (by kernel_rfl) (by kernel_rfl) (by kernel_rfl) (by kernel_rfl) (by kernel_rfl) (fun _ _ _ h => h) (by rfl) ?_ ?_
      rotate_left
      · (intro wS hS; skip; go_simp; (try with_reducible rfl))
      simp only [List.setIfInBounds_toArray, List.set_cons_zero, List.set_cons_succ]
      refine cm_done (by kernel_rfl) ?_
      intro wS hS
      refine NoPanic.normal ?_
      have hB := Below.next hB hS
      go_wp2_with fail
      go_roundw
      case rel => exact ⟨k + 1, by omega, by go_num, hB⟩
      case measure => simp [intOf]; omega
    · have d2 : decide ((k : Int) < (N : Int)) = false := nb (by omega)
      go_wp2_with fail
      go_ret
      exact ⟨rfl, hB⟩
set_option maxHeartbeats 1000000 in
theorem samePlan_eq (v u : Value) (cs : List Ct) (hl : cs.length ≤ 1000000) (w : World) (h : RdC w v cs) (hu : RdC w u cs) :
    Calls Try.prog 35 #[v, u] w fun e w' => e = .returned (.bool true) ∧ Below w.heap.size w w' := by
  obtain ⟨a0, n0, rfl⟩ := h.form
  obtain ⟨a1, n1, rfl⟩ := hu.form
  obtain ⟨N, hN⟩ : ∃ N, cs.length = N := ⟨_, rfl⟩
  rw [hN] at h hu hl ⊢
  have HR := Lib.hid h
  have HU := Lib.hid hu
  have HN := Lib.hid hN
  clear h hu hN
  have d0 : ((N : Int) != (N : Int)) = false := by simp
  go_enter Try.func35, Try.ntmps35
  go_wp2
  go_loopw [5] (fun i wr => ∃ k : Nat, k ≤ N ∧ i = .int .i64 k ∧ Below w.heap.size w wr) (fun i _ => N - (intOf i).toNat)
  case atStart => exact ⟨0, Nat.zero_le _, rfl, Below.refl _ _⟩
  case round =>
    obtain ⟨k, hk, rfl, hB⟩ := hrel
    by_cases hlt : k < N
    · have d2 : decide ((k : Int) < (N : Int)) = true := yb (by omega)
      obtain ⟨b1, o1, rfl, hc1, h1⟩ := HR.out.at HN.out k hlt
      obtain ⟨b2, o2, rfl, hc2, h2⟩ := HU.out.at HN.out k hlt
      have h1 := CA.keep hB h1
      have h2 := CA.keep hB h2
      obtain ⟨x, HX⟩ : ∃ x, Hid (cs.getD k c0 = x) := ⟨_, rfl⟩
      rw [HX.out] at h1 h2
      have i1 : (0 : Int) ≤ (k : Int) := by omega
      have i2 : (k : Int) < (N : Int) := by omega
      have hwk : IntKind.i64.wrap (k : Int) = (k : Int) := IntWalk.i64_in _ (by omega)
      go_wp2_with fail
      refine wp_region_calm (fun w' => Below wr.heap.size wr w') 99 (by kernel_rfl) ((Below.refl _ wr).drew) ?_
      refine cm_run 0 17 (v := ?_) rfl rfl (by kernel_rfl) (by kernel_rfl) (by kernel_rfl) (by kernel_rfl) (by kernel_rfl) (fun _ _ _ h => h) (by rfl) ?_ ?_
      rotate_left
      · (intro wS hS; skip; go_simp; (try with_reducible rfl))
      simp only [List.setIfInBounds_toArray, List.set_cons_zero, List.set_cons_succ]
      refine cm_run 1 18 (v := ?_) rfl rfl (by kernel_rfl) (by kernel_rfl) (by kernel_rfl) (by kernel_rfl) (by kernel_rfl) (fun _ _ _ h => h) (by rfl) ?_ ?_
      rotate_left
      · (intro wS hS; skip; go_simp; (try with_reducible rfl))
      simp only [List.setIfInBounds_toArray, List.set_cons_zero, List.set_cons_succ]
      refine cm_run 2 19 (v := ?_) rfl rfl (by kernel_rfl) (by kernel_rfl) (by kernel_rfl) (by kernel_rfl) (by kernel_rfl) (fun _ _ _ h => h) (by rfl) ?_ ?_
      rotate_left
      · (intro wS hS; skip; go_simp; (try with_reducible rfl))
      simp only [List.setIfInBounds_toArray, List.set_cons_zero, List.set_cons_succ]
      refine cm_run 3 20 (v := ?_) rfl rfl (by kernel_rfl) (by kernel_rfl) (by kernel_rfl) (by kernel_rfl) (by kernel_rfl) (fun _ _ _ h => h) (by rfl) ?_ ?_
      rotate_left
      · (intro wS hS; have g := CA.keep hS h1; go_simp; (try with_reducible rfl))
      simp only [List.setIfInBounds_toArray, List.set_cons_zero, List.set_cons_succ]
      refine cm_run 4 21 (v := ?_) rfl rfl (by kernel_rfl) (by kernel_rfl) (by kernel_rfl) (by kernel_rfl) (by kernel_rfl) (fun _ _ _ h => h) (by rfl) ?_ ?_
      rotate_left
      · (intro wS hS; skip; go_simp; (try with_reducible rfl))
      simp only [List.setIfInBounds_toArray, List.set_cons_zero, List.set_cons_succ]
      refine cm_run 5 22 (v := ?_) rfl rfl (by kernel_rfl) (by kernel_rfl) (by kernel_rfl) (by kernel_rfl) (by kernel_rfl) (fun _ _ _ h => h) (by rfl) ?_ ?_
      rotate_left
      · (intro wS hS; skip; go_simp; (try with_reducible rfl))
      simp only [List.setIfInBounds_toArray, List.set_cons_zero, List.set_cons_succ]
      refine cm_run 6 23 (v := ?_) rfl rfl (by kernel_rfl) (by kernel_rfl) (by kernel_rfl) (by kernel_rfl) (by kernel_rfl) (fun _ _ _ h => h) (by rfl) ?_ ?_
      rotate_left
      · (intro wS hS; skip; go_simp; (try with_reducible rfl))
      simp only [List.setIfInBounds_toArray, List.set_cons_zero, List.set_cons_succ]
      refine cm_run 7 24 (v := ?_) rfl rfl (by kernel_rfl) (by kernel_rfl) (by kernel_rfl) (by kernel_rfl) (by kernel_rfl) (fun _ _ _ h => h) (by rfl) ?_ ?_
      rotate_left
      · (intro wS hS; have g := CA.keep hS h2; go_simp; (try with_reducible rfl))
      simp only [List.setIfInBounds_toArray, List.set_cons_zero, List.set_cons_succ]
      refine cm_run 8 25 (v := ?_) rfl rfl (by kernel_rfl) (by kernel_rfl) (by kernel_rfl) (by kernel_rfl) (by kernel_rfl) (fun _ _ _ h => h) (by rfl) ?_ ?_
      rotate_left
      · (intro wS hS; skip; go_simp; (try with_reducible rfl))
      simp only [List.setIfInBounds_toArray, List.set_cons_zero, List.set_cons_succ]
      refine cm_done (by kernel_rfl) ?_
      intro wS hS
      refine NoPanic.normal ?_
      have hB := Below.next hB hS
      go_wp2_with fail
      go_roundw
      case rel => exact ⟨k + 1, by omega, by go_num, hB⟩
      case measure => simp [intOf]; omega
    · have d2 : decide ((k : Int) < (N : Int)) = false := nb (by omega)
      go_wp2_with fail
      go_ret
      exact ⟨rfl, hB⟩
end Go.Proofs.Ytnbjdgjopdeolaa
