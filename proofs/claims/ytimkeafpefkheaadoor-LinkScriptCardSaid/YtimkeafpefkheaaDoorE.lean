

/- Links: Deliver in both texts. -/
import Derived.Test.YtimkeafpefkheaaDoorD
import Derived.Test.YtimkeafpefkheaaDoorRQ
namespace Go.Proofs.YtimkeafpefkheaaDoor
open Go.RowKit
set_option linter.unusedSimpArgs false
set_option linter.unusedVariables false
set_option maxRecDepth 100000

def Ib (x : Int) : Prop := -9223372036854775808 ≤ x ∧ x ≤ 9223372036854775807
/-- what Deliver has returned -/
def DeR (w : World) (r : List Fr × Fr × Int) (x : Ending) (w' : World) : Prop := ∃ v, x = .returned (.tuple #[v, .string r.2.1, .int .i64 r.2.2]) ∧ RdT w' v r.1 ∧ Below w.heap.size w w'
/-- a slice's first k elements, and those from k on: what the two slice expressions yield -/
theorem cut_take {w : World} {a : Option Addr} {N c : Nat} {l : List Fr} (h : RdT w (.slice a N c) l) (hN : l.length = N) (k : Nat) (hk : k ≤ N) : ∃ v, (∀ w', (Instr.slice 22 (.slice a N c) none (some (.int .i64 (k : Int))) none).run Tryd.prog w' = .ok v w') ∧ RdT w v (l.take k) := by
  have hs : ∀ w : World, (sizeOf (Tryd.prog.elem 22)).run Tryd.prog w = .ok 1 w := fun w => by kernel_rfl
  have hun : Tryd.prog.underlying 22 = some (.slice (Tryd.prog.elem 22)) := by kernel_rfl
  have hc : N ≤ c := by
    obtain ⟨_, _, ⟨h0, _⟩ | ⟨b, off, cap, hv, hc, _⟩⟩ := h
    · omega
    · simp only [Value.slice.injEq] at hv; omega
  refine ⟨sliced a 0 k c 1, fun w' => by rw [run_slice_h _ _ _ _ _ hun _ _ (by omega) (by omega), hs]; simp, ?_⟩
  obtain ⟨hl, hm, hr⟩ := h
  have hlen : (l.take k).length = k := by rw [List.length_take]; omega
  refine ⟨by simp, by omega, ?_⟩
  rw [hlen]
  rcases hr with ⟨h0, a1, cap, hv, hn⟩ | ⟨b, off, cap, hv, hc, hr⟩
  · simp only [Value.slice.injEq] at hv
    obtain ⟨rfl, h2, rfl⟩ := hv
    refine .inl ⟨by omega, _, _, by unfold sliced; rw [show k - 0 = 0 by omega], fun he => ?_⟩
    cases a with
    | none => simp [hn rfl]
    | some a1 => split at he <;> simp at he
  · simp only [Value.slice.injEq] at hv
    obtain ⟨rfl, h2, rfl⟩ := hv
    refine .inr ⟨b, off, c, ?_, by omega, fun j u hj => ?_⟩
    · unfold sliced
      simp [Addr.add]
    · unfold tcs at hj
      rw [List.map_take, List.getElem?_take] at hj
      split at hj
      · exact hr j u hj
      · cases hj
theorem cut_drop {w : World} {a : Option Addr} {N c : Nat} {l : List Fr} (h : RdT w (.slice a N c) l) (hN : l.length = N) (k : Nat) (hk : k ≤ N) : ∃ v, (∀ w', (Instr.slice 22 (.slice a N c) (some (.int .i64 (k : Int))) none none).run Tryd.prog w' = .ok v w') ∧ RdT w v (l.drop k) := by
  have hs : ∀ w : World, (sizeOf (Tryd.prog.elem 22)).run Tryd.prog w = .ok 1 w := fun w => by kernel_rfl
  have hun : Tryd.prog.underlying 22 = some (.slice (Tryd.prog.elem 22)) := by kernel_rfl
  refine ⟨sliced a k N c 1, fun w' => by rw [run_slice_l _ _ _ _ _ hun _ _ (by omega) (by omega), hs]; simp, ?_⟩
  obtain ⟨hl, hm, hr⟩ := h
  have hlen : (l.drop k).length = N - k := by rw [List.length_drop]; omega
  refine ⟨by simp, by omega, ?_⟩
  rw [hlen]
  rcases hr with ⟨h0, a1, cap, hv, hn⟩ | ⟨b, off, cap, hv, hc, hr⟩
  · simp only [Value.slice.injEq] at hv
    obtain ⟨rfl, h2, rfl⟩ := hv
    refine .inl ⟨by omega, _, _, by unfold sliced; rw [show N - k = 0 by omega], fun he => ?_⟩
    cases a with
    | none => simp [hn rfl]
    | some a1 => simp at he; split at he <;> simp at he
  · simp only [Value.slice.injEq] at hv
    obtain ⟨rfl, h2, rfl⟩ := hv
    by_cases hz : c = k
    · refine .inl ⟨by omega, _, _, by unfold sliced; rw [show N - k = 0 by omega], fun he => ?_⟩
      rw [if_pos hz] at he
      cases he
    · refine .inr ⟨b, off + k, c - k, ?_, by omega, fun j u hj => ?_⟩
      · unfold sliced
        rw [if_neg hz]
        simp [Addr.add]
      · unfold tcs at hj
        rw [List.map_drop, List.getElem?_drop] at hj
        have := hr _ u hj
        rwa [show off + (k + j) = off + k + j by omega] at this
/-- without: a list without one of its frames, in new memory -/
def WoR (w : World) (l : List Fr) (x : Ending) (w' : World) : Prop := ∃ a c, x = .returned (.slice a l.length c) ∧ RdT w' (.slice a l.length c) l ∧ Fresh w.heap.size (.slice a l.length c) ∧ Below w.heap.size w w'
set_option maxHeartbeats 1000000 in
theorem without_any (v : Value) (l : List Fr) (hl : l.length ≤ 1000000) (k : Nat) (hk : k < l.length) (w : World) (h : RdT w v l) :
    Calls Tryd.prog 37 #[v, .int .i64 (k : Int)] w (WoR w (lessV l k)) := by
  obtain ⟨a0, n0, rfl⟩ := h.form
  obtain ⟨N, hN⟩ : ∃ N, l.length = N := ⟨_, rfl⟩
  rw [hN] at h hk hl ⊢
  obtain ⟨v1, hs1, hr1⟩ := cut_take h hN k (by omega)
  obtain ⟨v2, hs2, hr2⟩ := cut_drop h hN (k + 1) (by omega)
  rw [show ((k + 1 : Nat) : Int) = (k : Int) + 1 by push_cast; rfl] at hs2
  have HR1 := Lib.hid hr1
  have HR2 := Lib.hid hr2
  have HN := Lib.hid hN
  have hwk1 : IntKind.i64.wrap ((k : Int) + 1) = (k : Int) + 1 := IntWalk.i64_in _ (by omega)
  have HT : Hid ((l.take k).length = k) := by unfold Hid; rw [List.length_take]; omega
  have HD : Hid ((l.drop (k + 1)).length = N - (k + 1)) := by unfold Hid; rw [List.length_drop]; omega
  have HL : Hid ((lessV l k).length = N - 1) := by unfold Hid; rw [lessV_len l (by omega)]; omega
  clear hr1 hr2 h hN
  go_enter Tryd.func37, Tryd.ntmps37
  go_upto_region 1 with fail
  refine wp_region_noPanic ?_
  refine wp_region_held_drew (S := (fun w' => Below w.heap.size w w')) (by kernel_rfl) ((Below.refl _ w).drew) (fun hHeld => ?_)
  refine reg_tk (v := ?_) 0 5 rfl rfl (by kernel_rfl) (by kernel_rfl) (by kernel_rfl) (fun _ _ _ h => h) (by rfl) ?_ (by assumption) ?_
  rotate_left
  · (intro w hSw; (try dsimp only at hSw); go_simp; (try with_reducible rfl))
  simp only [List.setIfInBounds_toArray, List.set_cons_zero, List.set_cons_succ]
  refine reg_tk (v := ?_) 1 6 rfl rfl (by kernel_rfl) (by kernel_rfl) (by kernel_rfl) (fun _ _ _ h => h) (by rfl) ?_ (by assumption) ?_
  rotate_left
  · (intro w hSw; (try dsimp only at hSw); go_simp; (try with_reducible rfl))
  simp only [List.setIfInBounds_toArray, List.set_cons_zero, List.set_cons_succ]
  refine reg_tk (v := v1) 2 7 rfl rfl (by kernel_rfl) (by kernel_rfl) (by kernel_rfl) (fun _ _ _ h => h) (by rfl) (fun w3 hS => by have g := hs1; go_simp) (by assumption) ?_
  simp only [List.setIfInBounds_toArray, List.set_cons_zero, List.set_cons_succ]
  refine reg_tk (v := ?_) 4 9 rfl rfl (by kernel_rfl) (by kernel_rfl) (by kernel_rfl) (fun _ _ _ h => h) (by rfl) ?_ (by assumption) ?_
  rotate_left
  · (intro w hSw; (try dsimp only at hSw); go_simp; (try with_reducible rfl))
  simp only [List.setIfInBounds_toArray, List.set_cons_zero, List.set_cons_succ]
  refine reg_tk (v := ?_) 5 10 rfl rfl (by kernel_rfl) (by kernel_rfl) (by kernel_rfl) (fun _ _ _ h => h) (by rfl) ?_ (by assumption) ?_
  rotate_left
  · (intro w hSw; (try dsimp only at hSw); go_simp; (try with_reducible rfl))
  simp only [List.setIfInBounds_toArray, List.set_cons_zero, List.set_cons_succ]
  refine reg_tk (v := ?_) 6 11 rfl rfl (by kernel_rfl) (by kernel_rfl) (by kernel_rfl) (fun _ _ _ h => h) (by rfl) ?_ (by assumption) ?_
  rotate_left
  · (intro w hSw; (try dsimp only at hSw); go_simp; (try with_reducible rfl))
  simp only [List.setIfInBounds_toArray, List.set_cons_zero, List.set_cons_succ]
  refine reg_tk (v := v2) 7 12 rfl rfl (by kernel_rfl) (by kernel_rfl) (by kernel_rfl) (fun _ _ _ h => h) (by rfl) (fun w3 hS => by have g := hs2; go_simp) (by assumption) ?_
  simp only [List.setIfInBounds_toArray, List.set_cons_zero, List.set_cons_succ]
  refine wpAnyH_ready (rs := [3]) (by kernel_rfl) (by simp) ?_
  refine AllReadyH.cons rfl (fun K hK => ?_) AllReadyH.nil
  go_simp
  refine (rown_any v1 (l.take k) (by rw [HT.out]; omega) _ (HR1.out.keep (Below.refl _ w).drew)).mono ?_
  rintro x w1 ⟨a, c, rfl, hown, hb⟩
  rw [HT.out] at hown ⊢
  have hB := Below.next (Below.refl _ w).drew hb
  have HOWN := Lib.hid hown
  have HR3 := Lib.hid (HR2.out.keep hB)
  clear hown
  refine hK.out _ _ hB (fun hHeld2 => ?_)
  clear hK K hHeld
  have hHeld := hHeld2
  clear hHeld2
  try simp only [Act.put, List.setIfInBounds_toArray, List.set_cons_zero, List.set_cons_succ]
  refine wpAnyH_ready (rs := [8]) (by kernel_rfl) (by simp) ?_
  refine AllReadyH.cons rfl (fun K hK => ?_) AllReadyH.nil
  refine wp_app (.tmp 8) (.tmp 12) 22 rfl w.heap.size 9 (.string ⟨#[]⟩) 1 16 ET _ k (tcs (l.take k)) rfl HOWN.out _ (N - (k + 1)) (tcs (l.drop (k + 1))) rfl (by have := HR3.out; unfold RdT at this; rwa [HD.out] at this) (tcs_one _) (by unfold maxLen; omega) (by omega) (by have := hB.size; omega) ?_
  intro a' c' w3 hown3 hg3 hb3
  have hB3 : Below w.heap.size w w3 := hB.trans hb3
  have hrd : RdT w3 (.slice a' (k + (N - (k + 1))) c') (lessV l k) := by
    have := RdS.of_owns hown3 (by decide)
    unfold RdT lessV
    rw [tcs_append, List.length_append, HT.out, HD.out]
    exact this
  have hfr : Fresh w.heap.size (.slice a' (k + (N - (k + 1))) c') := Fresh.of_owns hown3
  rw [show k + (N - (k + 1)) = N - 1 by omega] at hrd hfr ⊢
  have HRD := Lib.hid hrd
  have HFR := Lib.hid hfr
  clear hown3 hg3 hrd hfr
  show K (Act.put _ (some 13) _) _
  refine hK.out _ _ hB3 (fun hHeld2 => ?_)
  clear hK K hHeld
  have hHeld := hHeld2
  clear hHeld2
  try simp only [Act.put, List.setIfInBounds_toArray, List.set_cons_zero, List.set_cons_succ]
  refine reg_tk (v := ?_) 9 4 rfl rfl (by kernel_rfl) (by kernel_rfl) (by kernel_rfl) (fun _ _ _ h => h) (by rfl) ?_ (by assumption) ?_
  rotate_left
  · (intro w hSw; (try dsimp only at hSw); go_simp; (try with_reducible rfl))
  simp only [List.setIfInBounds_toArray, List.set_cons_zero, List.set_cons_succ]
  refine wpAnyH_done (by kernel_rfl) ?_ _
  refine NoPanic.normal ?_
  clear hHeld
  go_wp2_with fail
  go_ret
  exact ⟨a', c', by rw [HL.out]; rfl, by rw [HL.out]; exact HRD.out, by rw [HL.out]; exact HFR.out, hB3⟩
set_option maxHeartbeats 1000000 in
theorem deliver_any (v : Value) (l : List Fr) (hz : Szs l) (i : Int) (hi : Ib i) (w : World) (h : RdT w v l) :
    Calls Tryd.prog 18 #[v, .int .i64 i] w (DeR w (delV l i)) := by
  obtain ⟨e, n, hen⟩ : ∃ e n, chkL l = (e, n) := ⟨_, _, rfl⟩
  have HEN := Lib.hid hen
  have HR := Lib.hid h
  have HZ := Lib.hid hz
  clear h hz
  unfold delV
  rw [hen]
  clear hen
  dsimp only
  by_cases h1 : e = 0
  · obtain rfl := h1
    rw [if_neg (by simp)]
    have hl := (chkL_zero (l := l) (by rw [HEN.out])).1
    obtain ⟨a0, n0, rfl⟩ := HR.out.form
    obtain ⟨N, hN⟩ : ∃ N, l.length = N := ⟨_, rfl⟩
    have HN := Lib.hid hN
    have HR2 : Hid (RdT w (.slice a0 N n0) l) := by unfold Hid; rw [← hN]; exact HR.out
    rw [hN] at hl ⊢
    clear HR hN
    by_cases h2 : i < 0 ∨ (N : Int) ≤ i
    · rw [if_pos h2]
      by_cases h3 : i < 0
      · have d2 : decide (i < 0) = true := yb h3
        clear h2 h3
        go_enter Tryd.func18, Tryd.ntmps18
        go_wp2_with fail
        refine (check_is _ l HZ.out 0 n HEN.out _ HR2.out).mono ?_
        rintro x w1 ⟨rfl, rfl⟩
        go_wp2_with fail
        go_ret3
        exact ⟨_, rfl, RdT.nil _, Below.refl _ _⟩
      · have d2 : decide (i < 0) = false := nb h3
        have d3 : decide ((N : Int) ≤ i) = true := yb (by omega)
        clear h2 h3
        go_enter Tryd.func18, Tryd.ntmps18
        go_wp2_with fail
        refine (check_is _ l HZ.out 0 n HEN.out _ HR2.out).mono ?_
        rintro x w1 ⟨rfl, rfl⟩
        go_wp2_with fail
        go_ret3
        exact ⟨_, rfl, RdT.nil _, Below.refl _ _⟩
    · rw [if_neg h2]
      obtain ⟨k, rfl⟩ : ∃ k : Nat, i = k := ⟨i.toNat, by omega⟩
      rw [Int.toNat_natCast]
      have hk : k < N := by omega
      obtain ⟨b, off, rfl, hcap, hc⟩ := RdT.at HR2.out HN.out k hk
      obtain ⟨s, hs⟩ : ∃ s, l.getD k e0 = s := ⟨_, rfl⟩
      rw [hs] at hc ⊢
      have d2 : decide ((k : Int) < 0) = false := nb (by omega)
      have d3 : decide ((N : Int) ≤ (k : Int)) = false := nb (by omega)
      have d3' : decide (N ≤ k) = false := nb (by omega)
      have i1 : (0 : Int) ≤ (k : Int) := by omega
      have i2 : (k : Int) < (N : Int) := by omega
      have hwk : IntKind.i64.wrap (k : Int) = (k : Int) := IntWalk.i64_in _ (by omega)
      have hwk1 : IntKind.i64.wrap ((k : Int) + 1) = (k : Int) + 1 := IntWalk.i64_in _ (by omega)
      clear h2 hs
      go_enter Tryd.func18, Tryd.ntmps18
      go_wp2_with fail
      refine (check_is _ l HZ.out 0 n HEN.out _ HR2.out).mono ?_
      rintro x w1 ⟨rfl, rfl⟩
      go_upto_region 6 with fail
      refine wp_region_noPanic ?_
      refine wp_region_held_drew (S := (fun w' => Below w.heap.size w w')) (by kernel_rfl) ((Below.refl _ w).drew) (fun hHeld => ?_)
      refine reg_tk (v := ?_) 0 25 rfl rfl (by kernel_rfl) (by kernel_rfl) (by kernel_rfl) (fun _ _ _ h => h) (by rfl) ?_ (by assumption) ?_
      rotate_left
      · (intro w hSw; (try dsimp only at hSw); go_simp; (try with_reducible rfl))
      simp only [List.setIfInBounds_toArray, List.set_cons_zero, List.set_cons_succ]
      refine reg_tk (v := ?_) 2 27 rfl rfl (by kernel_rfl) (by kernel_rfl) (by kernel_rfl) (fun _ _ _ h => h) (by rfl) ?_ (by assumption) ?_
      rotate_left
      · (intro w hSw; (try dsimp only at hSw); go_simp; (try with_reducible rfl))
      simp only [List.setIfInBounds_toArray, List.set_cons_zero, List.set_cons_succ]
      refine reg_tk (v := ?_) 3 28 rfl rfl (by kernel_rfl) (by kernel_rfl) (by kernel_rfl) (fun _ _ _ h => h) (by rfl) ?_ (by assumption) ?_
      rotate_left
      · (intro w hSw; (try dsimp only at hSw); go_simp; (try with_reducible rfl))
      simp only [List.setIfInBounds_toArray, List.set_cons_zero, List.set_cons_succ]
      refine reg_tk (v := ?_) 4 29 rfl rfl (by kernel_rfl) (by kernel_rfl) (by kernel_rfl) (fun _ _ _ h => h) (by rfl) ?_ (by assumption) ?_
      rotate_left
      · (intro w hSw; (try dsimp only at hSw); go_simp; (try with_reducible rfl))
      simp only [List.setIfInBounds_toArray, List.set_cons_zero, List.set_cons_succ]
      refine reg_tk (v := ?_) 6 31 rfl rfl (by kernel_rfl) (by kernel_rfl) (by kernel_rfl) (fun _ _ _ h => h) (by rfl) ?_ (by assumption) ?_
      rotate_left
      · (intro w hSw; (try dsimp only at hSw); go_simp; (try with_reducible rfl))
      simp only [List.setIfInBounds_toArray, List.set_cons_zero, List.set_cons_succ]
      refine reg_tk (v := ?_) 7 32 rfl rfl (by kernel_rfl) (by kernel_rfl) (by kernel_rfl) (fun _ _ _ h => h) (by rfl) ?_ (by assumption) ?_
      rotate_left
      · (intro w hSw; (try dsimp only at hSw); go_simp; (try with_reducible rfl))
      simp only [List.setIfInBounds_toArray, List.set_cons_zero, List.set_cons_succ]
      refine reg_tk (v := ?_) 8 33 rfl rfl (by kernel_rfl) (by kernel_rfl) (by kernel_rfl) (fun _ _ _ h => h) (by rfl) ?_ (by assumption) ?_
      rotate_left
      · (intro w hSw; (try dsimp only at hSw); go_simp; (try with_reducible rfl))
      simp only [List.setIfInBounds_toArray, List.set_cons_zero, List.set_cons_succ]
      refine reg_tk (v := .string s) 9 34 rfl rfl (by kernel_rfl) (by kernel_rfl) (by kernel_rfl) (fun _ _ _ h => h) (by rfl) (fun w3 hS => by have g := cell_later hS hc; go_simp) (by assumption) ?_
      simp only [List.setIfInBounds_toArray, List.set_cons_zero, List.set_cons_succ]
      refine wpAnyH_ready (rs := [1]) (by kernel_rfl) (by simp) ?_
      refine AllReadyH.cons rfl (fun K hK => ?_) AllReadyH.nil
      go_simp
      refine (clone_any _ l (by rw [HN.out]; omega) _ (HR2.out.keep (Below.refl _ w).drew)).mono ?_
      rintro x w1 ⟨a, c, rfl, hown, hb⟩
      rw [HN.out]
      have hB := Below.next (Below.refl _ w).drew hb
      have HOWN := Lib.hid hown
      clear hown
      refine hK.out _ _ hB (fun hHeld2 => ?_)
      clear hK K hHeld
      have hHeld := hHeld2
      clear hHeld2
      try simp only [Act.put, List.setIfInBounds_toArray, List.set_cons_zero, List.set_cons_succ]
      refine wpAnyH_ready (rs := [5]) (by kernel_rfl) (by simp) ?_
      refine AllReadyH.cons rfl (fun K hK => ?_) AllReadyH.nil
      go_simp
      have hd := del_own a c w.drew.heap.size l k (by rw [HN.out]; exact hk) w1 HOWN.out
      rw [HN.out] at hd
      refine hd.mono ?_
      rintro x w2 ⟨c', rfl, hrd, hb2⟩
      have hB2 : Below w.heap.size w w2 := hB.trans hb2
      have HRD := Lib.hid hrd
      clear hrd hb2
      refine hK.out _ _ hB2 (fun hHeld2 => ?_)
      clear hK K hHeld
      have hHeld := hHeld2
      clear hHeld2
      try simp only [Act.put, List.setIfInBounds_toArray, List.set_cons_zero, List.set_cons_succ]
      refine reg_tk (v := ?_) 10 4 rfl rfl (by kernel_rfl) (by kernel_rfl) (by kernel_rfl) (fun _ _ _ h => h) (by rfl) ?_ (by assumption) ?_
      rotate_left
      · (intro w hSw; (try dsimp only at hSw); go_simp; (try with_reducible rfl))
      simp only [List.setIfInBounds_toArray, List.set_cons_zero, List.set_cons_succ]
      refine reg_tk (v := ?_) 11 5 rfl rfl (by kernel_rfl) (by kernel_rfl) (by kernel_rfl) (fun _ _ _ h => h) (by rfl) ?_ (by assumption) ?_
      rotate_left
      · (intro w hSw; (try dsimp only at hSw); go_simp; (try with_reducible rfl))
      simp only [List.setIfInBounds_toArray, List.set_cons_zero, List.set_cons_succ]
      refine reg_tk (v := ?_) 12 6 rfl rfl (by kernel_rfl) (by kernel_rfl) (by kernel_rfl) (fun _ _ _ h => h) (by rfl) ?_ (by assumption) ?_
      rotate_left
      · (intro w hSw; (try dsimp only at hSw); go_simp; (try with_reducible rfl))
      simp only [List.setIfInBounds_toArray, List.set_cons_zero, List.set_cons_succ]
      refine wpAnyH_done (by kernel_rfl) ?_ _
      refine NoPanic.normal ?_
      clear hHeld
      go_wp2_with fail
      go_ret3
      exact ⟨_, rfl, HRD.out, hB2⟩
  · rw [if_pos h1]
    have d1 : (e != 0) = true := by simpa using h1
    clear h1
    go_enter Tryd.func18, Tryd.ntmps18
    go_wp2_with fail
    refine (check_is _ l HZ.out e n HEN.out _ HR.out).mono ?_
    rintro x w1 ⟨rfl, rfl⟩
    go_wp2_with fail
    go_ret3
    exact ⟨_, rfl, RdT.nil _, Below.refl _ _⟩
set_option maxHeartbeats 1000000 in
theorem rdeliver_any (v : Value) (l : List Fr) (hz : Szs l) (i : Int) (hi : Ib i) (w : World) (h : RdT w v l) :
    Calls Tryd.prog 19 #[v, .int .i64 i] w (DeR w (delV l i)) := by
  obtain ⟨e, n, hen⟩ : ∃ e n, chkL l = (e, n) := ⟨_, _, rfl⟩
  have HEN := Lib.hid hen
  have HR := Lib.hid h
  have HZ := Lib.hid hz
  clear h hz
  unfold delV
  rw [hen]
  clear hen
  dsimp only
  by_cases h1 : e = 0
  · obtain rfl := h1
    rw [if_neg (by simp)]
    have hl := (chkL_zero (l := l) (by rw [HEN.out])).1
    obtain ⟨a0, n0, rfl⟩ := HR.out.form
    obtain ⟨N, hN⟩ : ∃ N, l.length = N := ⟨_, rfl⟩
    have HN := Lib.hid hN
    have HR2 : Hid (RdT w (.slice a0 N n0) l) := by unfold Hid; rw [← hN]; exact HR.out
    rw [hN] at hl ⊢
    clear HR hN
    by_cases h2 : i < 0 ∨ (N : Int) ≤ i
    · rw [if_pos h2]
      by_cases h3 : i < 0
      · have d2 : decide (i < 0) = true := yb h3
        clear h2 h3
        go_enter Tryd.func19, Tryd.ntmps19
        go_wp2_with fail
        refine (rcheck_is _ l HZ.out 0 n HEN.out _ HR2.out).mono ?_
        rintro x w1 ⟨rfl, rfl⟩
        go_wp2_with fail
        go_ret3
        exact ⟨_, rfl, RdT.nil _, Below.refl _ _⟩
      · have d2 : decide (i < 0) = false := nb h3
        have d3 : decide ((N : Int) ≤ i) = true := yb (by omega)
        clear h2 h3
        go_enter Tryd.func19, Tryd.ntmps19
        go_wp2_with fail
        refine (rcheck_is _ l HZ.out 0 n HEN.out _ HR2.out).mono ?_
        rintro x w1 ⟨rfl, rfl⟩
        go_wp2_with fail
        go_ret3
        exact ⟨_, rfl, RdT.nil _, Below.refl _ _⟩
    · rw [if_neg h2]
      obtain ⟨k, rfl⟩ : ∃ k : Nat, i = k := ⟨i.toNat, by omega⟩
      rw [Int.toNat_natCast]
      have hk : k < N := by omega
      obtain ⟨b, off, rfl, hcap, hc⟩ := RdT.at HR2.out HN.out k hk
      obtain ⟨s, hs⟩ : ∃ s, l.getD k e0 = s := ⟨_, rfl⟩
      rw [hs] at hc ⊢
      have d2 : decide ((k : Int) < 0) = false := nb (by omega)
      have d3 : decide ((N : Int) ≤ (k : Int)) = false := nb (by omega)
      have d3' : decide (N ≤ k) = false := nb (by omega)
      have i1 : (0 : Int) ≤ (k : Int) := by omega
      have i2 : (k : Int) < (N : Int) := by omega
      have hwk : IntKind.i64.wrap (k : Int) = (k : Int) := IntWalk.i64_in _ (by omega)
      have hwk1 : IntKind.i64.wrap ((k : Int) + 1) = (k : Int) + 1 := IntWalk.i64_in _ (by omega)
      clear h2 hs
      go_enter Tryd.func19, Tryd.ntmps19
      go_wp2_with fail
      refine (rcheck_is _ l HZ.out 0 n HEN.out _ HR2.out).mono ?_
      rintro x w1 ⟨rfl, rfl⟩
      go_upto_region 6 with fail
      refine wp_region_noPanic ?_
      refine wp_region_held_drew (S := (fun w' => Below w.heap.size w w')) (by kernel_rfl) ((Below.refl _ w).drew) (fun hHeld => ?_)
      refine reg_tk (v := ?_) 0 25 rfl rfl (by kernel_rfl) (by kernel_rfl) (by kernel_rfl) (fun _ _ _ h => h) (by rfl) ?_ (by assumption) ?_
      rotate_left
      · (intro w hSw; (try dsimp only at hSw); go_simp; (try with_reducible rfl))
      simp only [List.setIfInBounds_toArray, List.set_cons_zero, List.set_cons_succ]
      refine reg_tk (v := ?_) 1 26 rfl rfl (by kernel_rfl) (by kernel_rfl) (by kernel_rfl) (fun _ _ _ h => h) (by rfl) ?_ (by assumption) ?_
      rotate_left
      · (intro w hSw; (try dsimp only at hSw); go_simp; (try with_reducible rfl))
      simp only [List.setIfInBounds_toArray, List.set_cons_zero, List.set_cons_succ]
      refine reg_tk (v := ?_) 3 28 rfl rfl (by kernel_rfl) (by kernel_rfl) (by kernel_rfl) (fun _ _ _ h => h) (by rfl) ?_ (by assumption) ?_
      rotate_left
      · (intro w hSw; (try dsimp only at hSw); go_simp; (try with_reducible rfl))
      simp only [List.setIfInBounds_toArray, List.set_cons_zero, List.set_cons_succ]
      refine reg_tk (v := ?_) 4 29 rfl rfl (by kernel_rfl) (by kernel_rfl) (by kernel_rfl) (fun _ _ _ h => h) (by rfl) ?_ (by assumption) ?_
      rotate_left
      · (intro w hSw; (try dsimp only at hSw); go_simp; (try with_reducible rfl))
      simp only [List.setIfInBounds_toArray, List.set_cons_zero, List.set_cons_succ]
      refine reg_tk (v := ?_) 5 30 rfl rfl (by kernel_rfl) (by kernel_rfl) (by kernel_rfl) (fun _ _ _ h => h) (by rfl) ?_ (by assumption) ?_
      rotate_left
      · (intro w hSw; (try dsimp only at hSw); go_simp; (try with_reducible rfl))
      simp only [List.setIfInBounds_toArray, List.set_cons_zero, List.set_cons_succ]
      refine reg_tk (v := .string s) 6 31 rfl rfl (by kernel_rfl) (by kernel_rfl) (by kernel_rfl) (fun _ _ _ h => h) (by rfl) (fun w3 hS => by have g := cell_later hS hc; go_simp) (by assumption) ?_
      simp only [List.setIfInBounds_toArray, List.set_cons_zero, List.set_cons_succ]
      refine wpAnyH_ready (rs := [2]) (by kernel_rfl) (by simp) ?_
      refine AllReadyH.cons rfl (fun K hK => ?_) AllReadyH.nil
      go_simp
      refine (without_any _ l (by rw [HN.out]; omega) k (by rw [HN.out]; exact hk) _ (HR2.out.keep (Below.refl _ w).drew)).mono ?_
      rintro x w1 ⟨a, c, rfl, hrd, _, hb⟩
      have hB := Below.next (Below.refl _ w).drew hb
      have HRD := Lib.hid hrd
      clear hrd
      refine hK.out _ _ hB (fun hHeld2 => ?_)
      clear hK K hHeld
      have hHeld := hHeld2
      clear hHeld2
      try simp only [Act.put, List.setIfInBounds_toArray, List.set_cons_zero, List.set_cons_succ]
      refine reg_tk (v := ?_) 7 4 rfl rfl (by kernel_rfl) (by kernel_rfl) (by kernel_rfl) (fun _ _ _ h => h) (by rfl) ?_ (by assumption) ?_
      rotate_left
      · (intro w hSw; (try dsimp only at hSw); go_simp; (try with_reducible rfl))
      simp only [List.setIfInBounds_toArray, List.set_cons_zero, List.set_cons_succ]
      refine reg_tk (v := ?_) 8 5 rfl rfl (by kernel_rfl) (by kernel_rfl) (by kernel_rfl) (fun _ _ _ h => h) (by rfl) ?_ (by assumption) ?_
      rotate_left
      · (intro w hSw; (try dsimp only at hSw); go_simp; (try with_reducible rfl))
      simp only [List.setIfInBounds_toArray, List.set_cons_zero, List.set_cons_succ]
      refine reg_tk (v := ?_) 9 6 rfl rfl (by kernel_rfl) (by kernel_rfl) (by kernel_rfl) (fun _ _ _ h => h) (by rfl) ?_ (by assumption) ?_
      rotate_left
      · (intro w hSw; (try dsimp only at hSw); go_simp; (try with_reducible rfl))
      simp only [List.setIfInBounds_toArray, List.set_cons_zero, List.set_cons_succ]
      refine wpAnyH_done (by kernel_rfl) ?_ _
      refine NoPanic.normal ?_
      clear hHeld
      go_wp2_with fail
      go_ret3
      exact ⟨_, rfl, HRD.out, hB⟩
  · rw [if_pos h1]
    have d1 : (e != 0) = true := by simpa using h1
    clear h1
    go_enter Tryd.func19, Tryd.ntmps19
    go_wp2_with fail
    refine (rcheck_is _ l HZ.out e n HEN.out _ HR.out).mono ?_
    rintro x w1 ⟨rfl, rfl⟩
    go_wp2_with fail
    go_ret3
    exact ⟨_, rfl, RdT.nil _, Below.refl _ _⟩
end Go.Proofs.YtimkeafpefkheaaDoor
