


/- Custody: slices cut; the reference's insert. -/
import Derived.Test.YtnkpjfogjkjcfaaP
import Derived.Test.YtnkpjfogjkjcfaaRli
import Derived.Test.YtnkpjfogjkjcfaaE
import Derived.Test.YtnkpjfogjkjcfaaRT
namespace Go.Proofs.Ytnkpjfogjkjcfaa
open Go.RowKit
set_option linter.unusedSimpArgs false
set_option linter.unusedVariables false
set_option maxRecDepth 100000

theorem cutS_take {α : Type} {R : RowT α} {w : World} {a : Option Addr} {N c : Nat} {l : List α} (h : RdL R w (.slice a N c) l) (hN : l.length = N) (k : Nat) (hk : k ≤ N) (T : TypeId) (hun : Try.prog.underlying T = some (.slice (Try.prog.elem T))) (hs : ∀ w : World, (sizeOf (Try.prog.elem T)).run Try.prog w = .ok R.size w) :
    ∃ v, (∀ w', (Instr.slice T (.slice a N c) none (some (.int .i64 (k : Int))) none).run Try.prog w' = .ok v w') ∧ RdS w R.size v k (rcs R (l.take k)) := by
  have hc : N ≤ c := by
    obtain ⟨_, _, ⟨h0, _⟩ | ⟨b, off, cap, hv, hc, _⟩⟩ := h
    · omega
    · simp only [Value.slice.injEq] at hv; omega
  refine ⟨sliced a 0 k c R.size, fun w' => by rw [run_slice_h _ _ _ _ _ hun _ _ (by omega) (by omega), hs]; simp, ?_⟩
  have e := rdl_take h hN k hk
  unfold RdL at e
  rw [show (l.take k).length = k by rw [List.length_take]; omega] at e
  exact e
theorem cutS_drop {α : Type} {R : RowT α} {w : World} {a : Option Addr} {N c : Nat} {l : List α} (h : RdL R w (.slice a N c) l) (hN : l.length = N) (k : Nat) (hk : k ≤ N) (T : TypeId) (hun : Try.prog.underlying T = some (.slice (Try.prog.elem T))) (hs : ∀ w : World, (sizeOf (Try.prog.elem T)).run Try.prog w = .ok R.size w) :
    ∃ v, (∀ w', (Instr.slice T (.slice a N c) (some (.int .i64 (k : Int))) none none).run Try.prog w' = .ok v w') ∧ RdS w R.size v (N - k) (rcs R (l.drop k)) := by
  have hc : N ≤ c := by
    obtain ⟨_, _, ⟨h0, _⟩ | ⟨b, off, cap, hv, hc, _⟩⟩ := h
    · omega
    · simp only [Value.slice.injEq] at hv; omega
  refine ⟨sliced a k N c R.size, fun w' => by rw [run_slice_l _ _ _ _ _ hun _ _ (by omega) (by omega), hs]; simp, ?_⟩
  have e := rdl_drop h hN k hk
  unfold RdL at e
  rw [show (l.drop k).length = N - k by rw [List.length_drop]; omega] at e
  exact e
/-- a tag has been put into its place, in new memory -/
def InR (w : World) (l : List Tg) (t : Tg) (e : Ending) (w' : World) : Prop := ∃ (a : Option Addr) (c : Nat), e = .returned (.slice a (insG l t).length c) ∧ OwG w' w.heap.size (.slice a (insG l t).length c) (insG l t) ∧ Below w.heap.size w w'
set_option maxHeartbeats 4000000 in
theorem rinsert_any (v : Value) (l : List Tg) (t : Tg) (hasc : asc l) (hm : t ∉ l) (hl : l.length ≤ 100000) (w : World) (h : RdG w v l) : Calls Try.prog 82 #[v, t.v] w (InR w l t) := by
  obtain ⟨a, c, rfl⟩ := h.form
  obtain ⟨N, hN⟩ : ∃ N, l.length = N := ⟨_, rfl⟩
  rw [hN] at h hl ⊢
  have HN := Lib.hid hN
  obtain ⟨W, hW⟩ : ∃ W : World, W = w.alloc (.cells #[.int .i64 t.nd, .int .i64 t.of] 80) := ⟨_, rfl⟩
  have hBW : Below w.heap.size w W := by rw [hW]; exact (by repeat (first | assumption | exact Below.refl _ _ | apply Below.al | apply below_drewN | apply Below.drew | refine Below.next ?_ (by assumption)))
  have bI : BoxN W w.heap.size 80 #[.int .i64 t.nd, .int .i64 t.of] := by rw [hW]; exact BoxN.new _ _ _
  have t0 : W.cell? ⟨w.heap.size, 0, none⟩ = some (.int .i64 t.nd) := bI.cell 0
  have t1 : W.cell? ⟨w.heap.size, 1, none⟩ = some (.int .i64 t.of) := bI.cell 1
  have HR := Lib.hid (h.keep hBW)
  have HA := Lib.hid hasc
  have HM := Lib.hid hm
  clear hN h bI hasc hm
  go_enter Try.func82, Try.ntmps82
  go_upto_region 1 with fail
  rw [← hW]
  clear hW
  go_wp2_with fail
  go_loopw [5] (fun i wr => ∃ k : Nat, k ≤ N ∧ i = .int .i64 k ∧ Below W.heap.size W wr ∧ ∀ j, k ≤ j → j < N → ltG t (gt l j)) (fun i _ => (intOf i).toNat)
  case atStart => exact ⟨N, Nat.le_refl _, rfl, Below.refl _ _, fun j h1 h2 => by omega⟩
  case round =>
    obtain ⟨k, hk, rfl, hB, hall⟩ := hrel
    have HALL := Lib.hid hall
    clear hall
    have hnd : ∀ k, k ≤ N → (∀ j, k ≤ j → j < N → ltG t (gt l j)) → (∀ j, j < k → ltG (gt l j) t) → k = plc l t := fun k hk h1 h2 => plc_uniq HA.out (by rw [HN.out]; exact hk) h2 (fun h3 h4 => by
      rw [HN.out] at h3
      exact absurd (ltG_tr h4 (h1 k (Nat.le_refl _) h3)) (ltG_irr _))
    have HND := Lib.hid hnd
    clear hnd
    by_cases h0 : k = 0
    · have H0 := Lib.hid h0
      have d1 : decide ((0 : Int) < (k : Int)) = false := nb (by omega)
      have d1' : ¬ 0 < k := by omega
      clear h0
      go_upto_region 2 with fail
      refine wp_region_noPanic ?_
      refine wp_region_held_drew (S := (fun w' => Below wr.heap.size wr w')) (by kernel_rfl) ((Below.refl _ wr).drew) (fun hHeld => ?_)
      refine reg_tk (v := ?_) 0 8 rfl rfl (by kernel_rfl) (by kernel_rfl) (by kernel_rfl) (fun _ _ _ h => h) (by rfl) ?_ (by assumption) ?_
      rotate_left
      · (intro w hSw; (try dsimp only at hSw); go_simp; (try with_reducible rfl))
      simp only [List.setIfInBounds_toArray, List.set_cons_zero, List.set_cons_succ]
      refine reg_tk (v := .bool false) 1 9 rfl rfl (by kernel_rfl) (by kernel_rfl) (by kernel_rfl) (fun _ _ _ h => h) (by rfl) (fun w3 hS => by skip; go_simp) (by assumption) ?_
      simp only [List.setIfInBounds_toArray, List.set_cons_zero, List.set_cons_succ]
      refine reg_tk (v := ?_) 2 10 rfl rfl (by kernel_rfl) (by kernel_rfl) (by kernel_rfl) (fun _ _ _ h => h) (by rfl) ?_ (by assumption) ?_
      rotate_left
      · (intro w hSw; (try dsimp only at hSw); go_simp; (try with_reducible rfl))
      simp only [List.setIfInBounds_toArray, List.set_cons_zero, List.set_cons_succ]
      refine reg_nt 3 11 rfl rfl (by kernel_rfl) (by kernel_rfl) (by kernel_rfl) (fun _ _ _ h => h) (by rfl) (by assumption) ?_
      simp only [List.setIfInBounds_toArray, List.set_cons_zero, List.set_cons_succ]
      refine reg_nt 4 12 rfl rfl (by kernel_rfl) (by kernel_rfl) (by kernel_rfl) (fun _ _ _ h => h) (by rfl) (by assumption) ?_
      simp only [List.setIfInBounds_toArray, List.set_cons_zero, List.set_cons_succ]
      refine reg_nt 5 13 rfl rfl (by kernel_rfl) (by kernel_rfl) (by kernel_rfl) (fun _ _ _ h => h) (by rfl) (by assumption) ?_
      simp only [List.setIfInBounds_toArray, List.set_cons_zero, List.set_cons_succ]
      refine reg_nt 6 14 rfl rfl (by kernel_rfl) (by kernel_rfl) (by kernel_rfl) (fun _ _ _ h => h) (by rfl) (by assumption) ?_
      simp only [List.setIfInBounds_toArray, List.set_cons_zero, List.set_cons_succ]
      refine reg_nt 7 15 rfl rfl (by kernel_rfl) (by kernel_rfl) (by kernel_rfl) (fun _ _ _ h => h) (by rfl) (by assumption) ?_
      simp only [List.setIfInBounds_toArray, List.set_cons_zero, List.set_cons_succ]
      refine reg_nt 8 16 rfl rfl (by kernel_rfl) (by kernel_rfl) (by kernel_rfl) (fun _ _ _ h => h) (by rfl) (by assumption) ?_
      simp only [List.setIfInBounds_toArray, List.set_cons_zero, List.set_cons_succ]
      refine reg_nt 9 17 rfl rfl (by kernel_rfl) (by kernel_rfl) (by kernel_rfl) (fun _ _ _ h => h) (by rfl) (by assumption) ?_
      simp only [List.setIfInBounds_toArray, List.set_cons_zero, List.set_cons_succ]
      refine reg_tk (v := ?_) 10 18 rfl rfl (by kernel_rfl) (by kernel_rfl) (by kernel_rfl) (fun _ _ _ h => h) (by rfl) ?_ (by assumption) ?_
      rotate_left
      · (intro w hSw; (try dsimp only at hSw); go_simp; (try with_reducible rfl))
      simp only [List.setIfInBounds_toArray, List.set_cons_zero, List.set_cons_succ]
      refine wpAnyH_done (by kernel_rfl) ?_ _
      refine NoPanic.normal ?_
      clear hHeld
      have hkp := HND.out k hk HALL.out (fun j hj => by have := H0.out; omega)
      replace hB := hB.drew
      obtain ⟨wq, hwq⟩ : ∃ V : World, V = wr.drew := ⟨_, rfl⟩
      rw [← hwq] at hB ⊢
      clear hwq
      obtain ⟨wr, rfl⟩ : ∃ V : World, V = wq := ⟨_, rfl⟩
      clear d1 d1'
      have HINS : Hid (insG l t = l.take k ++ ([t] ++ l.drop k)) := Lib.hid (by unfold insG; rw [hkp]; rfl)
      have hlen : (insG l t).length = k + 1 + (N - k) := by rw [ins_len, HN.out]; omega
      obtain ⟨v1, hv1, hr1⟩ := cutS_take (HR.out.keep hB) HN.out k hk 43 (by kernel_rfl) (fun w => by kernel_rfl)
      obtain ⟨v2, hv2, hr2⟩ := cutS_drop (HR.out.keep hB) HN.out k hk 43 (by kernel_rfl) (fun w => by kernel_rfl)
      have t0 := cell_later hB t0
      have t1 := cell_later hB t1
      have hBW := Below.next hBW hB
      clear hkp hB HR
      obtain ⟨W, rfl⟩ : ∃ V : World, V = wr := ⟨_, rfl⟩
      have HR1 : Hid (∀ w', Below W.heap.size W w' → RdS w' 2 v1 k (rcs tgR (l.take k))) := Lib.hid (fun w' hb => RdS.keep hb hr1)
      have HR2 : Hid (∀ w', Below W.heap.size W w' → RdS w' 2 v2 (N - k) (rcs tgR (l.drop k))) := Lib.hid (fun w' hb => RdS.keep hb hr2)
      clear hr1 hr2
      have hw0 : Below W.heap.size W W.drew := (Below.refl _ W).drew
      have hBa : Below W.heap.size W W := Below.refl _ W
      go_upto_region 4 with fail
      refine wp_region_noPanic ?_
      refine wp_region_held_drew (S := (fun w' => Below W.heap.size W w')) (by kernel_rfl) hw0 (fun hHeld => ?_)
      refine reg_tk (v := ?_) 1 22 rfl rfl (by kernel_rfl) (by kernel_rfl) (by kernel_rfl) (fun _ _ _ h => h) (by rfl) ?_ (by assumption) ?_
      rotate_left
      · (intro w hSw; (try dsimp only at hSw); go_simp; (try with_reducible rfl))
      simp only [List.setIfInBounds_toArray, List.set_cons_zero, List.set_cons_succ]
      refine reg_tk (v := ?_) 2 23 rfl rfl (by kernel_rfl) (by kernel_rfl) (by kernel_rfl) (fun _ _ _ h => h) (by rfl) ?_ (by assumption) ?_
      rotate_left
      · (intro w hSw; (try dsimp only at hSw); go_simp; (try with_reducible rfl))
      simp only [List.setIfInBounds_toArray, List.set_cons_zero, List.set_cons_succ]
      refine reg_tk (v := v1) 3 24 rfl rfl (by kernel_rfl) (by kernel_rfl) (by kernel_rfl) (fun _ _ _ h => h) (by rfl) (fun w3 hS => by have hv := hv1; go_simp) (by assumption) ?_
      simp only [List.setIfInBounds_toArray, List.set_cons_zero, List.set_cons_succ]
      refine reg_tk (v := .agg #[.int .i64 t.nd, .int .i64 t.of]) 5 26 rfl rfl (by kernel_rfl) (by kernel_rfl) (by kernel_rfl) (fun _ _ _ h => h) (by rfl) (fun w3 hS => by (have j0 := cell_later hS t0; have j1 := cell_later hS t1); go_simp) (by assumption) ?_
      simp only [List.setIfInBounds_toArray, List.set_cons_zero, List.set_cons_succ]
      refine reg_tk (v := ?_) 8 29 rfl rfl (by kernel_rfl) (by kernel_rfl) (by kernel_rfl) (fun _ _ _ h => h) (by rfl) ?_ (by assumption) ?_
      rotate_left
      · (intro w hSw; (try dsimp only at hSw); go_simp; (try with_reducible rfl))
      simp only [List.setIfInBounds_toArray, List.set_cons_zero, List.set_cons_succ]
      refine reg_tk (v := ?_) 9 30 rfl rfl (by kernel_rfl) (by kernel_rfl) (by kernel_rfl) (fun _ _ _ h => h) (by rfl) ?_ (by assumption) ?_
      rotate_left
      · (intro w hSw; (try dsimp only at hSw); go_simp; (try with_reducible rfl))
      simp only [List.setIfInBounds_toArray, List.set_cons_zero, List.set_cons_succ]
      refine reg_tk (v := v2) 10 31 rfl rfl (by kernel_rfl) (by kernel_rfl) (by kernel_rfl) (fun _ _ _ h => h) (by rfl) (fun w3 hS => by have hv := hv2; go_simp) (by assumption) ?_
      simp only [List.setIfInBounds_toArray, List.set_cons_zero, List.set_cons_succ]
      refine wpAnyH_ready (rs := [0, 6]) (by kernel_rfl) (by simp) ?_
      refine AllReadyH.cons rfl (fun K hK => ?_) (AllReadyH.cons rfl (fun K hK => ?_) AllReadyH.nil)
      · go_simp
        obtain ⟨v1w, hw1⟩ : ∃ V : World, V = (World.alloc W (.cells #[] 80)).drew := ⟨_, rfl⟩
        have hb1 : Below (World.heap W).size W v1w := by rw [hw1]; exact (Below.al (Below.refl _ _) _).drew
        have oA : World.ownsRow v1w W.heap.size 80 2 (.slice (some ⟨W.heap.size, 0, none⟩) 0 0) 0 [] := by rw [hw1]; exact owns_block _ _ 80 2 0 [] _ (by have := hBa.size; omega) (heap_last _ _) rfl (by decide)
        rw [← hw1]
        clear hw1
        have hBb := Below.next hBa hb1
        clear hBa
        have hBa := hBb
        clear hBb
        refine hK.out _ _ hBa (fun hHeld2 => ?_)
        clear hK K hHeld
        have hHeld := hHeld2
        clear hHeld2
        try simp only [Act.put, List.setIfInBounds_toArray, List.set_cons_zero, List.set_cons_succ]
        refine wpAnyH_ready (rs := [4, 6]) (by kernel_rfl) (by simp) ?_
        refine AllReadyH.cons rfl (fun K hK => ?_) (AllReadyH.cons rfl (fun K hK => ?_) AllReadyH.nil)
        · refine wp_app_new (.tmp 21) (.tmp 24) 43 rfl W.heap.size 80 _ 2 16 ETg _ rfl oA v1 k (rcs tgR (l.take k)) rfl (HR1.out _ hBa) (rcs_one _ _) (by unfold maxLen; omega) (by omega) hBa.size ?_
          intro aA cA v2w oA2 hb2
          go_simp
          clear oA
          have oA := oA2
          clear oA2
          have hBb := Below.next hBa hb2
          clear hBa
          have hBa := hBb
          clear hBb
          refine hK.out _ _ hBa (fun hHeld2 => ?_)
          clear hK K hHeld
          have hHeld := hHeld2
          clear hHeld2
          try simp only [Act.put, List.setIfInBounds_toArray, List.set_cons_zero, List.set_cons_succ]
          refine wpAnyH_ready (rs := [6]) (by kernel_rfl) (by simp) ?_
          refine AllReadyH.cons rfl (fun K hK => ?_) AllReadyH.nil
          go_simp
          obtain ⟨v3w, hw3⟩ : ∃ V : World, V = World.alloc v2w (.cells #[.int .i64 t.nd, .int .i64 t.of] 80) := ⟨_, rfl⟩
          have hb3 : Below (World.heap v2w).size v2w v3w := by rw [hw3]; exact Below.al (Below.refl _ _) _
          have hL : RdS v3w 2 (.slice (some ⟨v2w.heap.size, 0, none⟩) 1 1) 1 (rcs tgR [t]) := by rw [hw3]; exact (rds_lit tgR v2w 80 [t] 1 rfl (by decide) (fun j u hj => alloc_cell _ _ _ j u hj))
          rw [← hw3]
          clear hw3
          replace oA := Own.keep oA hb3
          have hBb := Below.next hBa hb3
          clear hBa
          have hBa := hBb
          clear hBb
          refine hK.out _ _ hBa (fun hHeld2 => ?_)
          clear hK K hHeld
          have hHeld := hHeld2
          clear hHeld2
          try simp only [Act.put, List.setIfInBounds_toArray, List.set_cons_zero, List.set_cons_succ]
          refine wpAnyH_ready (rs := [7]) (by kernel_rfl) (by simp) ?_
          refine AllReadyH.cons rfl (fun K hK => ?_) AllReadyH.nil
          refine wp_app (.tmp 25) (.tmp 27) 43 rfl W.heap.size 80 _ 2 16 ETg _ k (rcs tgR (l.take k)) rfl oA _ 1 (rcs tgR [t]) rfl hL (rcs_one _ _) (by unfold maxLen; omega) (by omega) hBa.size ?_
          intro aB cB v4w oB hg4 hb4
          go_simp
          have hBb := hBa.trans hb4
          clear oA hL hg4
          clear hBa
          have hBa := hBb
          clear hBb
          refine hK.out _ _ hBa (fun hHeld2 => ?_)
          clear hK K hHeld
          have hHeld := hHeld2
          clear hHeld2
          try simp only [Act.put, List.setIfInBounds_toArray, List.set_cons_zero, List.set_cons_succ]
          refine wpAnyH_ready (rs := [11]) (by kernel_rfl) (by simp) ?_
          refine AllReadyH.cons rfl (fun K hK => ?_) AllReadyH.nil
          refine wp_app (.tmp 28) (.tmp 31) 43 rfl W.heap.size 80 _ 2 16 ETg _ (k + 1) (rcs tgR (l.take k) ++ rcs tgR [t]) rfl oB v2 (N - k) (rcs tgR (l.drop k)) rfl (HR2.out _ hBa) (rcs_one _ _) (by unfold maxLen; omega) (by omega) hBa.size ?_
          intro aC cC v5w oC hg5 hb5
          go_simp
          have hBb := hBa.trans hb5
          clear hBa
          have hBa := hBb
          clear hBb
          refine hK.out _ _ hBa (fun hHeld2 => ?_)
          clear hK K hHeld
          have hHeld := hHeld2
          clear hHeld2
          try simp only [Act.put, List.setIfInBounds_toArray, List.set_cons_zero, List.set_cons_succ]
          refine reg_tk (v := ?_) 12 4 rfl rfl (by kernel_rfl) (by kernel_rfl) (by kernel_rfl) (fun _ _ _ h => h) (by rfl) ?_ (by assumption) ?_
          rotate_left
          · (intro w hSw; (try dsimp only at hSw); go_simp; (try with_reducible rfl))
          simp only [List.setIfInBounds_toArray, List.set_cons_zero, List.set_cons_succ]
          refine wpAnyH_done (by kernel_rfl) ?_ _
          refine NoPanic.normal ?_
          clear hHeld
          have hfin := hBW.trans (hBa.mono hBW.size)
          have HOC := Lib.hid oC
          clear oC oB
          go_wp2_with fail
          go_ret
          refine ⟨aC, cC, by rw [hlen]; rfl, ?_, hfin⟩
          have e := own_mono HOC.out (B' := w.heap.size) hBW.size
          have e3 : rcs tgR (insG l t) = rcs tgR (l.take k) ++ rcs tgR [t] ++ rcs tgR (l.drop k) := by rw [HINS.out, rcs_append, rcs_append, List.append_assoc]
          unfold OwG
          rw [e3, hlen]
          exact e
        · go_simp
          obtain ⟨v6w, hw6⟩ : ∃ V : World, V = World.alloc v1w (.cells #[.int .i64 t.nd, .int .i64 t.of] 80) := ⟨_, rfl⟩
          have hb6 : Below (World.heap v1w).size v1w v6w := by rw [hw6]; exact Below.al (Below.refl _ _) _
          have hL : RdS v6w 2 (.slice (some ⟨v1w.heap.size, 0, none⟩) 1 1) 1 (rcs tgR [t]) := by rw [hw6]; exact (rds_lit tgR v1w 80 [t] 1 rfl (by decide) (fun j u hj => alloc_cell _ _ _ j u hj))
          rw [← hw6]
          clear hw6
          replace oA := Own.keep oA hb6
          have hBb := Below.next hBa hb6
          clear hBa
          have hBa := hBb
          clear hBb
          refine hK.out _ _ hBa (fun hHeld2 => ?_)
          clear hK K hHeld
          have hHeld := hHeld2
          clear hHeld2
          try simp only [Act.put, List.setIfInBounds_toArray, List.set_cons_zero, List.set_cons_succ]
          refine wpAnyH_ready (rs := [4]) (by kernel_rfl) (by simp) ?_
          refine AllReadyH.cons rfl (fun K hK => ?_) AllReadyH.nil
          refine wp_app_new (.tmp 21) (.tmp 24) 43 rfl W.heap.size 80 _ 2 16 ETg _ rfl oA v1 k (rcs tgR (l.take k)) rfl (HR1.out _ hBa) (rcs_one _ _) (by unfold maxLen; omega) (by omega) hBa.size ?_
          intro aA cA v7w oA2 hb7
          go_simp
          clear oA
          have oA := oA2
          clear oA2
          replace hL := hL.keep hb7
          have hBb := Below.next hBa hb7
          clear hBa
          have hBa := hBb
          clear hBb
          refine hK.out _ _ hBa (fun hHeld2 => ?_)
          clear hK K hHeld
          have hHeld := hHeld2
          clear hHeld2
          try simp only [Act.put, List.setIfInBounds_toArray, List.set_cons_zero, List.set_cons_succ]
          refine wpAnyH_ready (rs := [7]) (by kernel_rfl) (by simp) ?_
          refine AllReadyH.cons rfl (fun K hK => ?_) AllReadyH.nil
          refine wp_app (.tmp 25) (.tmp 27) 43 rfl W.heap.size 80 _ 2 16 ETg _ k (rcs tgR (l.take k)) rfl oA _ 1 (rcs tgR [t]) rfl hL (rcs_one _ _) (by unfold maxLen; omega) (by omega) hBa.size ?_
          intro aB cB v8w oB hg8 hb8
          go_simp
          have hBb := hBa.trans hb8
          clear oA hL hg8
          clear hBa
          have hBa := hBb
          clear hBb
          refine hK.out _ _ hBa (fun hHeld2 => ?_)
          clear hK K hHeld
          have hHeld := hHeld2
          clear hHeld2
          try simp only [Act.put, List.setIfInBounds_toArray, List.set_cons_zero, List.set_cons_succ]
          refine wpAnyH_ready (rs := [11]) (by kernel_rfl) (by simp) ?_
          refine AllReadyH.cons rfl (fun K hK => ?_) AllReadyH.nil
          refine wp_app (.tmp 28) (.tmp 31) 43 rfl W.heap.size 80 _ 2 16 ETg _ (k + 1) (rcs tgR (l.take k) ++ rcs tgR [t]) rfl oB v2 (N - k) (rcs tgR (l.drop k)) rfl (HR2.out _ hBa) (rcs_one _ _) (by unfold maxLen; omega) (by omega) hBa.size ?_
          intro aC cC v9w oC hg9 hb9
          go_simp
          have hBb := hBa.trans hb9
          clear hBa
          have hBa := hBb
          clear hBb
          refine hK.out _ _ hBa (fun hHeld2 => ?_)
          clear hK K hHeld
          have hHeld := hHeld2
          clear hHeld2
          try simp only [Act.put, List.setIfInBounds_toArray, List.set_cons_zero, List.set_cons_succ]
          refine reg_tk (v := ?_) 12 4 rfl rfl (by kernel_rfl) (by kernel_rfl) (by kernel_rfl) (fun _ _ _ h => h) (by rfl) ?_ (by assumption) ?_
          rotate_left
          · (intro w hSw; (try dsimp only at hSw); go_simp; (try with_reducible rfl))
          simp only [List.setIfInBounds_toArray, List.set_cons_zero, List.set_cons_succ]
          refine wpAnyH_done (by kernel_rfl) ?_ _
          refine NoPanic.normal ?_
          clear hHeld
          have hfin := hBW.trans (hBa.mono hBW.size)
          have HOC := Lib.hid oC
          clear oC oB
          go_wp2_with fail
          go_ret
          refine ⟨aC, cC, by rw [hlen]; rfl, ?_, hfin⟩
          have e := own_mono HOC.out (B' := w.heap.size) hBW.size
          have e3 : rcs tgR (insG l t) = rcs tgR (l.take k) ++ rcs tgR [t] ++ rcs tgR (l.drop k) := by rw [HINS.out, rcs_append, rcs_append, List.append_assoc]
          unfold OwG
          rw [e3, hlen]
          exact e
      · go_simp
        obtain ⟨v10w, hw10⟩ : ∃ V : World, V = (World.alloc W (.cells #[.int .i64 t.nd, .int .i64 t.of] 80)).drew := ⟨_, rfl⟩
        have hb10 : Below (World.heap W).size W v10w := by rw [hw10]; exact (Below.al (Below.refl _ _) _).drew
        have hL : RdS v10w 2 (.slice (some ⟨W.heap.size, 0, none⟩) 1 1) 1 (rcs tgR [t]) := by rw [hw10]; exact (rds_lit tgR W 80 [t] 1 rfl (by decide) (fun j u hj => alloc_cell _ _ _ j u hj)).keep ((Below.refl _ _).drew)
        rw [← hw10]
        clear hw10
        have hBb := Below.next hBa hb10
        clear hBa
        have hBa := hBb
        clear hBb
        refine hK.out _ _ hBa (fun hHeld2 => ?_)
        clear hK K hHeld
        have hHeld := hHeld2
        clear hHeld2
        try simp only [Act.put, List.setIfInBounds_toArray, List.set_cons_zero, List.set_cons_succ]
        refine wpAnyH_ready (rs := [0]) (by kernel_rfl) (by simp) ?_
        refine AllReadyH.cons rfl (fun K hK => ?_) AllReadyH.nil
        go_simp
        obtain ⟨v11w, hw11⟩ : ∃ V : World, V = World.alloc v10w (.cells #[] 80) := ⟨_, rfl⟩
        have hb11 : Below (World.heap v10w).size v10w v11w := by rw [hw11]; exact Below.al (Below.refl _ _) _
        have oA : World.ownsRow v11w W.heap.size 80 2 (.slice (some ⟨v10w.heap.size, 0, none⟩) 0 0) 0 [] := by rw [hw11]; exact owns_block _ _ 80 2 0 [] _ (by have := hBa.size; omega) (heap_last _ _) rfl (by decide)
        rw [← hw11]
        clear hw11
        replace hL := hL.keep hb11
        have hBb := Below.next hBa hb11
        clear hBa
        have hBa := hBb
        clear hBb
        refine hK.out _ _ hBa (fun hHeld2 => ?_)
        clear hK K hHeld
        have hHeld := hHeld2
        clear hHeld2
        try simp only [Act.put, List.setIfInBounds_toArray, List.set_cons_zero, List.set_cons_succ]
        refine wpAnyH_ready (rs := [4]) (by kernel_rfl) (by simp) ?_
        refine AllReadyH.cons rfl (fun K hK => ?_) AllReadyH.nil
        refine wp_app_new (.tmp 21) (.tmp 24) 43 rfl W.heap.size 80 _ 2 16 ETg _ rfl oA v1 k (rcs tgR (l.take k)) rfl (HR1.out _ hBa) (rcs_one _ _) (by unfold maxLen; omega) (by omega) hBa.size ?_
        intro aA cA v12w oA2 hb12
        go_simp
        clear oA
        have oA := oA2
        clear oA2
        replace hL := hL.keep hb12
        have hBb := Below.next hBa hb12
        clear hBa
        have hBa := hBb
        clear hBb
        refine hK.out _ _ hBa (fun hHeld2 => ?_)
        clear hK K hHeld
        have hHeld := hHeld2
        clear hHeld2
        try simp only [Act.put, List.setIfInBounds_toArray, List.set_cons_zero, List.set_cons_succ]
        refine wpAnyH_ready (rs := [7]) (by kernel_rfl) (by simp) ?_
        refine AllReadyH.cons rfl (fun K hK => ?_) AllReadyH.nil
        refine wp_app (.tmp 25) (.tmp 27) 43 rfl W.heap.size 80 _ 2 16 ETg _ k (rcs tgR (l.take k)) rfl oA _ 1 (rcs tgR [t]) rfl hL (rcs_one _ _) (by unfold maxLen; omega) (by omega) hBa.size ?_
        intro aB cB v13w oB hg13 hb13
        go_simp
        have hBb := hBa.trans hb13
        clear oA hL hg13
        clear hBa
        have hBa := hBb
        clear hBb
        refine hK.out _ _ hBa (fun hHeld2 => ?_)
        clear hK K hHeld
        have hHeld := hHeld2
        clear hHeld2
        try simp only [Act.put, List.setIfInBounds_toArray, List.set_cons_zero, List.set_cons_succ]
        refine wpAnyH_ready (rs := [11]) (by kernel_rfl) (by simp) ?_
        refine AllReadyH.cons rfl (fun K hK => ?_) AllReadyH.nil
        refine wp_app (.tmp 28) (.tmp 31) 43 rfl W.heap.size 80 _ 2 16 ETg _ (k + 1) (rcs tgR (l.take k) ++ rcs tgR [t]) rfl oB v2 (N - k) (rcs tgR (l.drop k)) rfl (HR2.out _ hBa) (rcs_one _ _) (by unfold maxLen; omega) (by omega) hBa.size ?_
        intro aC cC v14w oC hg14 hb14
        go_simp
        have hBb := hBa.trans hb14
        clear hBa
        have hBa := hBb
        clear hBb
        refine hK.out _ _ hBa (fun hHeld2 => ?_)
        clear hK K hHeld
        have hHeld := hHeld2
        clear hHeld2
        try simp only [Act.put, List.setIfInBounds_toArray, List.set_cons_zero, List.set_cons_succ]
        refine reg_tk (v := ?_) 12 4 rfl rfl (by kernel_rfl) (by kernel_rfl) (by kernel_rfl) (fun _ _ _ h => h) (by rfl) ?_ (by assumption) ?_
        rotate_left
        · (intro w hSw; (try dsimp only at hSw); go_simp; (try with_reducible rfl))
        simp only [List.setIfInBounds_toArray, List.set_cons_zero, List.set_cons_succ]
        refine wpAnyH_done (by kernel_rfl) ?_ _
        refine NoPanic.normal ?_
        clear hHeld
        have hfin := hBW.trans (hBa.mono hBW.size)
        have HOC := Lib.hid oC
        clear oC oB
        go_wp2_with fail
        go_ret
        refine ⟨aC, cC, by rw [hlen]; rfl, ?_, hfin⟩
        have e := own_mono HOC.out (B' := w.heap.size) hBW.size
        have e3 : rcs tgR (insG l t) = rcs tgR (l.take k) ++ rcs tgR [t] ++ rcs tgR (l.drop k) := by rw [HINS.out, rcs_append, rcs_append, List.append_assoc]
        unfold OwG
        rw [e3, hlen]
        exact e
    · obtain ⟨k', rfl⟩ : ∃ k', k = k' + 1 := ⟨k - 1, by omega⟩
      have d1 : decide ((0 : Int) < ((k' + 1 : Nat) : Int)) = true := yb (by omega)
      have hwk : IntKind.i64.wrap ((k' : Int) + 1 - 1) = (k' : Int) := by rw [show (k' : Int) + 1 - 1 = (k' : Int) by omega]; exact IntWalk.i64_in _ (by omega)
      have hwk2 : IntKind.i64.wrap (k' : Int) = (k' : Int) := IntWalk.i64_in _ (by omega)
      have i1 : (0 : Int) ≤ (k' : Int) := by omega
      have i2 : (k' : Int) < (N : Int) := by omega
      obtain ⟨b1, o1, he, hc1, g0, g1⟩ := RdG.at (HR.out.keep hB) HN.out k' (by omega)
      obtain ⟨y, hy⟩ : ∃ y, gt l k' = y := ⟨_, rfl⟩
      rw [hy] at g0 g1
      have HY := Lib.hid hy
      subst he
      have T0 := cell_later hB t0
      have T1 := cell_later hB t1
      clear hy h0
      go_upto_region 2 with fail
      refine wp_region_noPanic ?_
      refine wp_region_held_drew (S := (fun w' => Below wr.heap.size wr w')) (by kernel_rfl) ((Below.refl _ wr).drew) (fun hHeld => ?_)
      refine reg_tk (v := ?_) 0 8 rfl rfl (by kernel_rfl) (by kernel_rfl) (by kernel_rfl) (fun _ _ _ h => h) (by rfl) ?_ (by assumption) ?_
      rotate_left
      · (intro w hSw; (try dsimp only at hSw); go_simp; (try with_reducible rfl))
      simp only [List.setIfInBounds_toArray, List.set_cons_zero, List.set_cons_succ]
      refine reg_tk (v := .bool true) 1 9 rfl rfl (by kernel_rfl) (by kernel_rfl) (by kernel_rfl) (fun _ _ _ h => h) (by rfl) (fun w3 hS => by skip; go_simp) (by assumption) ?_
      simp only [List.setIfInBounds_toArray, List.set_cons_zero, List.set_cons_succ]
      refine reg_tk (v := ?_) 2 10 rfl rfl (by kernel_rfl) (by kernel_rfl) (by kernel_rfl) (fun _ _ _ h => h) (by rfl) ?_ (by assumption) ?_
      rotate_left
      · (intro w hSw; (try dsimp only at hSw); go_simp; (try with_reducible rfl))
      simp only [List.setIfInBounds_toArray, List.set_cons_zero, List.set_cons_succ]
      refine reg_tk (v := .agg #[.int .i64 t.nd, .int .i64 t.of]) 3 11 rfl rfl (by kernel_rfl) (by kernel_rfl) (by kernel_rfl) (fun _ _ _ h => h) (by rfl) (fun w3 hS => by (have j0 := cell_later hS T0; have j1 := cell_later hS T1); go_simp) (by assumption) ?_
      simp only [List.setIfInBounds_toArray, List.set_cons_zero, List.set_cons_succ]
      refine reg_tk (v := ?_) 4 12 rfl rfl (by kernel_rfl) (by kernel_rfl) (by kernel_rfl) (fun _ _ _ h => h) (by rfl) ?_ (by assumption) ?_
      rotate_left
      · (intro w hSw; (try dsimp only at hSw); go_simp; (try with_reducible rfl))
      simp only [List.setIfInBounds_toArray, List.set_cons_zero, List.set_cons_succ]
      refine reg_tk (v := ?_) 5 13 rfl rfl (by kernel_rfl) (by kernel_rfl) (by kernel_rfl) (fun _ _ _ h => h) (by rfl) ?_ (by assumption) ?_
      rotate_left
      · (intro w hSw; (try dsimp only at hSw); go_simp; (try with_reducible rfl))
      simp only [List.setIfInBounds_toArray, List.set_cons_zero, List.set_cons_succ]
      refine reg_tk (v := .int .i64 (k' : Int)) 6 14 rfl rfl (by kernel_rfl) (by kernel_rfl) (by kernel_rfl) (fun _ _ _ h => h) (by rfl) (fun w3 hS => by skip; go_simp) (by assumption) ?_
      simp only [List.setIfInBounds_toArray, List.set_cons_zero, List.set_cons_succ]
      refine reg_tk (v := .pointer (some ⟨b1, o1 + k' * 2, none⟩)) 7 15 rfl rfl (by kernel_rfl) (by kernel_rfl) (by kernel_rfl) (fun _ _ _ h => h) (by rfl) (fun w3 hS => by skip; go_simp) (by assumption) ?_
      simp only [List.setIfInBounds_toArray, List.set_cons_zero, List.set_cons_succ]
      refine reg_tk (v := .agg #[.int .i64 y.nd, .int .i64 y.of]) 8 16 rfl rfl (by kernel_rfl) (by kernel_rfl) (by kernel_rfl) (fun _ _ _ h => h) (by rfl) (fun w3 hS => by (have j0 := cell_later hS g0; have j1 := cell_later hS g1); go_simp) (by assumption) ?_
      simp only [List.setIfInBounds_toArray, List.set_cons_zero, List.set_cons_succ]
      refine wpAnyH_ready (rs := [9]) (by kernel_rfl) (by simp) ?_
      refine AllReadyH.cons rfl (fun K hK => ?_) AllReadyH.nil
      go_simp
      refine (rless_any t y _).mono ?_
      obtain ⟨r, hr⟩ : ∃ r, decide (ltG t y) = r := ⟨_, rfl⟩
      rw [hr]
      have HRR := Lib.hid hr
      clear hr
      rintro e w1 ⟨rfl, hb1⟩
      have hB1 : Below wr.heap.size wr w1 := Below.next (Below.refl _ wr).drew hb1
      refine hK.out _ _ hB1 (fun hHeld2 => ?_)
      clear hK K hHeld
      have hHeld := hHeld2
      clear hHeld2
      try simp only [Act.put, List.setIfInBounds_toArray, List.set_cons_zero, List.set_cons_succ]
      refine reg_tk (v := ?_) 10 18 rfl rfl (by kernel_rfl) (by kernel_rfl) (by kernel_rfl) (fun _ _ _ h => h) (by rfl) ?_ (by assumption) ?_
      rotate_left
      · (intro w hSw; (try dsimp only at hSw); go_simp; (try with_reducible rfl))
      simp only [List.setIfInBounds_toArray, List.set_cons_zero, List.set_cons_succ]
      refine wpAnyH_done (by kernel_rfl) ?_ _
      refine NoPanic.normal ?_
      clear hHeld
      have hB2 := Below.next hB hB1
      cases r
      · have HK := Lib.hid (HND.out (k' + 1) hk HALL.out (fun j hj => by
          have h1 : ¬ ltG t y := fun e => by have := HRR.out; rw [yb e] at this; cases this
          have h2 : t ≠ y := fun e => HM.out (by rw [e, ← HY.out, gt_at (by rw [HN.out]; omega)]; exact List.getElem_mem _)
          have h3 : ltG y t := by
            by_cases h4 : ltG y t
            · exact h4
            · exact absurd (ltG_tri h1 h4) h2
          by_cases hjk : j = k'
          · rw [hjk, HY.out]; exact h3
          · have := asc_lt HA.out (i := j) (j := k') (by omega) (by rw [HN.out]; omega)
            rw [HY.out] at this
            exact ltG_tr this h3))
        have hkp := HK.out
        clear hB
        have hB := hB2
        obtain ⟨k, hk0⟩ : ∃ k : Nat, k' + 1 = k := ⟨_, rfl⟩
        clear g0 g1 T0 T1 hwk hwk2 i1 i2 d1 hc1 HND hB2
        have hki : (k' : Int) + 1 = (k : Int) := by omega
        rw [hk0] at hkp hk
        rw [hki]
        clear hk0 hki
        obtain ⟨wr, rfl⟩ : ∃ V : World, V = w1 := ⟨_, rfl⟩
        have HINS : Hid (insG l t = l.take k ++ ([t] ++ l.drop k)) := Lib.hid (by unfold insG; rw [hkp]; rfl)
        have hlen : (insG l t).length = k + 1 + (N - k) := by rw [ins_len, HN.out]; omega
        obtain ⟨v1, hv1, hr1⟩ := cutS_take (HR.out.keep hB) HN.out k hk 43 (by kernel_rfl) (fun w => by kernel_rfl)
        obtain ⟨v2, hv2, hr2⟩ := cutS_drop (HR.out.keep hB) HN.out k hk 43 (by kernel_rfl) (fun w => by kernel_rfl)
        have t0 := cell_later hB t0
        have t1 := cell_later hB t1
        have hBW := Below.next hBW hB
        clear hkp hB HR
        obtain ⟨W, rfl⟩ : ∃ V : World, V = wr := ⟨_, rfl⟩
        have HR1 : Hid (∀ w', Below W.heap.size W w' → RdS w' 2 v1 k (rcs tgR (l.take k))) := Lib.hid (fun w' hb => RdS.keep hb hr1)
        have HR2 : Hid (∀ w', Below W.heap.size W w' → RdS w' 2 v2 (N - k) (rcs tgR (l.drop k))) := Lib.hid (fun w' hb => RdS.keep hb hr2)
        clear hr1 hr2
        have hw0 : Below W.heap.size W W.drew := (Below.refl _ W).drew
        have hBa : Below W.heap.size W W := Below.refl _ W
        go_upto_region 4 with fail
        refine wp_region_noPanic ?_
        refine wp_region_held_drew (S := (fun w' => Below W.heap.size W w')) (by kernel_rfl) hw0 (fun hHeld => ?_)
        refine reg_tk (v := ?_) 1 22 rfl rfl (by kernel_rfl) (by kernel_rfl) (by kernel_rfl) (fun _ _ _ h => h) (by rfl) ?_ (by assumption) ?_
        rotate_left
        · (intro w hSw; (try dsimp only at hSw); go_simp; (try with_reducible rfl))
        simp only [List.setIfInBounds_toArray, List.set_cons_zero, List.set_cons_succ]
        refine reg_tk (v := ?_) 2 23 rfl rfl (by kernel_rfl) (by kernel_rfl) (by kernel_rfl) (fun _ _ _ h => h) (by rfl) ?_ (by assumption) ?_
        rotate_left
        · (intro w hSw; (try dsimp only at hSw); go_simp; (try with_reducible rfl))
        simp only [List.setIfInBounds_toArray, List.set_cons_zero, List.set_cons_succ]
        refine reg_tk (v := v1) 3 24 rfl rfl (by kernel_rfl) (by kernel_rfl) (by kernel_rfl) (fun _ _ _ h => h) (by rfl) (fun w3 hS => by have hv := hv1; go_simp) (by assumption) ?_
        simp only [List.setIfInBounds_toArray, List.set_cons_zero, List.set_cons_succ]
        refine reg_tk (v := .agg #[.int .i64 t.nd, .int .i64 t.of]) 5 26 rfl rfl (by kernel_rfl) (by kernel_rfl) (by kernel_rfl) (fun _ _ _ h => h) (by rfl) (fun w3 hS => by (have j0 := cell_later hS t0; have j1 := cell_later hS t1); go_simp) (by assumption) ?_
        simp only [List.setIfInBounds_toArray, List.set_cons_zero, List.set_cons_succ]
        refine reg_tk (v := ?_) 8 29 rfl rfl (by kernel_rfl) (by kernel_rfl) (by kernel_rfl) (fun _ _ _ h => h) (by rfl) ?_ (by assumption) ?_
        rotate_left
        · (intro w hSw; (try dsimp only at hSw); go_simp; (try with_reducible rfl))
        simp only [List.setIfInBounds_toArray, List.set_cons_zero, List.set_cons_succ]
        refine reg_tk (v := ?_) 9 30 rfl rfl (by kernel_rfl) (by kernel_rfl) (by kernel_rfl) (fun _ _ _ h => h) (by rfl) ?_ (by assumption) ?_
        rotate_left
        · (intro w hSw; (try dsimp only at hSw); go_simp; (try with_reducible rfl))
        simp only [List.setIfInBounds_toArray, List.set_cons_zero, List.set_cons_succ]
        refine reg_tk (v := v2) 10 31 rfl rfl (by kernel_rfl) (by kernel_rfl) (by kernel_rfl) (fun _ _ _ h => h) (by rfl) (fun w3 hS => by have hv := hv2; go_simp) (by assumption) ?_
        simp only [List.setIfInBounds_toArray, List.set_cons_zero, List.set_cons_succ]
        refine wpAnyH_ready (rs := [0, 6]) (by kernel_rfl) (by simp) ?_
        refine AllReadyH.cons rfl (fun K hK => ?_) (AllReadyH.cons rfl (fun K hK => ?_) AllReadyH.nil)
        · go_simp
          obtain ⟨v1w, hw1⟩ : ∃ V : World, V = (World.alloc W (.cells #[] 80)).drew := ⟨_, rfl⟩
          have hb1 : Below (World.heap W).size W v1w := by rw [hw1]; exact (Below.al (Below.refl _ _) _).drew
          have oA : World.ownsRow v1w W.heap.size 80 2 (.slice (some ⟨W.heap.size, 0, none⟩) 0 0) 0 [] := by rw [hw1]; exact owns_block _ _ 80 2 0 [] _ (by have := hBa.size; omega) (heap_last _ _) rfl (by decide)
          rw [← hw1]
          clear hw1
          have hBb := Below.next hBa hb1
          clear hBa
          have hBa := hBb
          clear hBb
          refine hK.out _ _ hBa (fun hHeld2 => ?_)
          clear hK K hHeld
          have hHeld := hHeld2
          clear hHeld2
          try simp only [Act.put, List.setIfInBounds_toArray, List.set_cons_zero, List.set_cons_succ]
          refine wpAnyH_ready (rs := [4, 6]) (by kernel_rfl) (by simp) ?_
          refine AllReadyH.cons rfl (fun K hK => ?_) (AllReadyH.cons rfl (fun K hK => ?_) AllReadyH.nil)
          · refine wp_app_new (.tmp 21) (.tmp 24) 43 rfl W.heap.size 80 _ 2 16 ETg _ rfl oA v1 k (rcs tgR (l.take k)) rfl (HR1.out _ hBa) (rcs_one _ _) (by unfold maxLen; omega) (by omega) hBa.size ?_
            intro aA cA v2w oA2 hb2
            go_simp
            clear oA
            have oA := oA2
            clear oA2
            have hBb := Below.next hBa hb2
            clear hBa
            have hBa := hBb
            clear hBb
            refine hK.out _ _ hBa (fun hHeld2 => ?_)
            clear hK K hHeld
            have hHeld := hHeld2
            clear hHeld2
            try simp only [Act.put, List.setIfInBounds_toArray, List.set_cons_zero, List.set_cons_succ]
            refine wpAnyH_ready (rs := [6]) (by kernel_rfl) (by simp) ?_
            refine AllReadyH.cons rfl (fun K hK => ?_) AllReadyH.nil
            go_simp
            obtain ⟨v3w, hw3⟩ : ∃ V : World, V = World.alloc v2w (.cells #[.int .i64 t.nd, .int .i64 t.of] 80) := ⟨_, rfl⟩
            have hb3 : Below (World.heap v2w).size v2w v3w := by rw [hw3]; exact Below.al (Below.refl _ _) _
            have hL : RdS v3w 2 (.slice (some ⟨v2w.heap.size, 0, none⟩) 1 1) 1 (rcs tgR [t]) := by rw [hw3]; exact (rds_lit tgR v2w 80 [t] 1 rfl (by decide) (fun j u hj => alloc_cell _ _ _ j u hj))
            rw [← hw3]
            clear hw3
            replace oA := Own.keep oA hb3
            have hBb := Below.next hBa hb3
            clear hBa
            have hBa := hBb
            clear hBb
            refine hK.out _ _ hBa (fun hHeld2 => ?_)
            clear hK K hHeld
            have hHeld := hHeld2
            clear hHeld2
            try simp only [Act.put, List.setIfInBounds_toArray, List.set_cons_zero, List.set_cons_succ]
            refine wpAnyH_ready (rs := [7]) (by kernel_rfl) (by simp) ?_
            refine AllReadyH.cons rfl (fun K hK => ?_) AllReadyH.nil
            refine wp_app (.tmp 25) (.tmp 27) 43 rfl W.heap.size 80 _ 2 16 ETg _ k (rcs tgR (l.take k)) rfl oA _ 1 (rcs tgR [t]) rfl hL (rcs_one _ _) (by unfold maxLen; omega) (by omega) hBa.size ?_
            intro aB cB v4w oB hg4 hb4
            go_simp
            have hBb := hBa.trans hb4
            clear oA hL hg4
            clear hBa
            have hBa := hBb
            clear hBb
            refine hK.out _ _ hBa (fun hHeld2 => ?_)
            clear hK K hHeld
            have hHeld := hHeld2
            clear hHeld2
            try simp only [Act.put, List.setIfInBounds_toArray, List.set_cons_zero, List.set_cons_succ]
            refine wpAnyH_ready (rs := [11]) (by kernel_rfl) (by simp) ?_
            refine AllReadyH.cons rfl (fun K hK => ?_) AllReadyH.nil
            refine wp_app (.tmp 28) (.tmp 31) 43 rfl W.heap.size 80 _ 2 16 ETg _ (k + 1) (rcs tgR (l.take k) ++ rcs tgR [t]) rfl oB v2 (N - k) (rcs tgR (l.drop k)) rfl (HR2.out _ hBa) (rcs_one _ _) (by unfold maxLen; omega) (by omega) hBa.size ?_
            intro aC cC v5w oC hg5 hb5
            go_simp
            have hBb := hBa.trans hb5
            clear hBa
            have hBa := hBb
            clear hBb
            refine hK.out _ _ hBa (fun hHeld2 => ?_)
            clear hK K hHeld
            have hHeld := hHeld2
            clear hHeld2
            try simp only [Act.put, List.setIfInBounds_toArray, List.set_cons_zero, List.set_cons_succ]
            refine reg_tk (v := ?_) 12 4 rfl rfl (by kernel_rfl) (by kernel_rfl) (by kernel_rfl) (fun _ _ _ h => h) (by rfl) ?_ (by assumption) ?_
            rotate_left
            · (intro w hSw; (try dsimp only at hSw); go_simp; (try with_reducible rfl))
            simp only [List.setIfInBounds_toArray, List.set_cons_zero, List.set_cons_succ]
            refine wpAnyH_done (by kernel_rfl) ?_ _
            refine NoPanic.normal ?_
            clear hHeld
            have hfin := hBW.trans (hBa.mono hBW.size)
            have HOC := Lib.hid oC
            clear oC oB
            go_wp2_with fail
            go_ret
            refine ⟨aC, cC, by rw [hlen]; rfl, ?_, hfin⟩
            have e := own_mono HOC.out (B' := w.heap.size) hBW.size
            have e3 : rcs tgR (insG l t) = rcs tgR (l.take k) ++ rcs tgR [t] ++ rcs tgR (l.drop k) := by rw [HINS.out, rcs_append, rcs_append, List.append_assoc]
            unfold OwG
            rw [e3, hlen]
            exact e
          · go_simp
            obtain ⟨v6w, hw6⟩ : ∃ V : World, V = World.alloc v1w (.cells #[.int .i64 t.nd, .int .i64 t.of] 80) := ⟨_, rfl⟩
            have hb6 : Below (World.heap v1w).size v1w v6w := by rw [hw6]; exact Below.al (Below.refl _ _) _
            have hL : RdS v6w 2 (.slice (some ⟨v1w.heap.size, 0, none⟩) 1 1) 1 (rcs tgR [t]) := by rw [hw6]; exact (rds_lit tgR v1w 80 [t] 1 rfl (by decide) (fun j u hj => alloc_cell _ _ _ j u hj))
            rw [← hw6]
            clear hw6
            replace oA := Own.keep oA hb6
            have hBb := Below.next hBa hb6
            clear hBa
            have hBa := hBb
            clear hBb
            refine hK.out _ _ hBa (fun hHeld2 => ?_)
            clear hK K hHeld
            have hHeld := hHeld2
            clear hHeld2
            try simp only [Act.put, List.setIfInBounds_toArray, List.set_cons_zero, List.set_cons_succ]
            refine wpAnyH_ready (rs := [4]) (by kernel_rfl) (by simp) ?_
            refine AllReadyH.cons rfl (fun K hK => ?_) AllReadyH.nil
            refine wp_app_new (.tmp 21) (.tmp 24) 43 rfl W.heap.size 80 _ 2 16 ETg _ rfl oA v1 k (rcs tgR (l.take k)) rfl (HR1.out _ hBa) (rcs_one _ _) (by unfold maxLen; omega) (by omega) hBa.size ?_
            intro aA cA v7w oA2 hb7
            go_simp
            clear oA
            have oA := oA2
            clear oA2
            replace hL := hL.keep hb7
            have hBb := Below.next hBa hb7
            clear hBa
            have hBa := hBb
            clear hBb
            refine hK.out _ _ hBa (fun hHeld2 => ?_)
            clear hK K hHeld
            have hHeld := hHeld2
            clear hHeld2
            try simp only [Act.put, List.setIfInBounds_toArray, List.set_cons_zero, List.set_cons_succ]
            refine wpAnyH_ready (rs := [7]) (by kernel_rfl) (by simp) ?_
            refine AllReadyH.cons rfl (fun K hK => ?_) AllReadyH.nil
            refine wp_app (.tmp 25) (.tmp 27) 43 rfl W.heap.size 80 _ 2 16 ETg _ k (rcs tgR (l.take k)) rfl oA _ 1 (rcs tgR [t]) rfl hL (rcs_one _ _) (by unfold maxLen; omega) (by omega) hBa.size ?_
            intro aB cB v8w oB hg8 hb8
            go_simp
            have hBb := hBa.trans hb8
            clear oA hL hg8
            clear hBa
            have hBa := hBb
            clear hBb
            refine hK.out _ _ hBa (fun hHeld2 => ?_)
            clear hK K hHeld
            have hHeld := hHeld2
            clear hHeld2
            try simp only [Act.put, List.setIfInBounds_toArray, List.set_cons_zero, List.set_cons_succ]
            refine wpAnyH_ready (rs := [11]) (by kernel_rfl) (by simp) ?_
            refine AllReadyH.cons rfl (fun K hK => ?_) AllReadyH.nil
            refine wp_app (.tmp 28) (.tmp 31) 43 rfl W.heap.size 80 _ 2 16 ETg _ (k + 1) (rcs tgR (l.take k) ++ rcs tgR [t]) rfl oB v2 (N - k) (rcs tgR (l.drop k)) rfl (HR2.out _ hBa) (rcs_one _ _) (by unfold maxLen; omega) (by omega) hBa.size ?_
            intro aC cC v9w oC hg9 hb9
            go_simp
            have hBb := hBa.trans hb9
            clear hBa
            have hBa := hBb
            clear hBb
            refine hK.out _ _ hBa (fun hHeld2 => ?_)
            clear hK K hHeld
            have hHeld := hHeld2
            clear hHeld2
            try simp only [Act.put, List.setIfInBounds_toArray, List.set_cons_zero, List.set_cons_succ]
            refine reg_tk (v := ?_) 12 4 rfl rfl (by kernel_rfl) (by kernel_rfl) (by kernel_rfl) (fun _ _ _ h => h) (by rfl) ?_ (by assumption) ?_
            rotate_left
            · (intro w hSw; (try dsimp only at hSw); go_simp; (try with_reducible rfl))
            simp only [List.setIfInBounds_toArray, List.set_cons_zero, List.set_cons_succ]
            refine wpAnyH_done (by kernel_rfl) ?_ _
            refine NoPanic.normal ?_
            clear hHeld
            have hfin := hBW.trans (hBa.mono hBW.size)
            have HOC := Lib.hid oC
            clear oC oB
            go_wp2_with fail
            go_ret
            refine ⟨aC, cC, by rw [hlen]; rfl, ?_, hfin⟩
            have e := own_mono HOC.out (B' := w.heap.size) hBW.size
            have e3 : rcs tgR (insG l t) = rcs tgR (l.take k) ++ rcs tgR [t] ++ rcs tgR (l.drop k) := by rw [HINS.out, rcs_append, rcs_append, List.append_assoc]
            unfold OwG
            rw [e3, hlen]
            exact e
        · go_simp
          obtain ⟨v10w, hw10⟩ : ∃ V : World, V = (World.alloc W (.cells #[.int .i64 t.nd, .int .i64 t.of] 80)).drew := ⟨_, rfl⟩
          have hb10 : Below (World.heap W).size W v10w := by rw [hw10]; exact (Below.al (Below.refl _ _) _).drew
          have hL : RdS v10w 2 (.slice (some ⟨W.heap.size, 0, none⟩) 1 1) 1 (rcs tgR [t]) := by rw [hw10]; exact (rds_lit tgR W 80 [t] 1 rfl (by decide) (fun j u hj => alloc_cell _ _ _ j u hj)).keep ((Below.refl _ _).drew)
          rw [← hw10]
          clear hw10
          have hBb := Below.next hBa hb10
          clear hBa
          have hBa := hBb
          clear hBb
          refine hK.out _ _ hBa (fun hHeld2 => ?_)
          clear hK K hHeld
          have hHeld := hHeld2
          clear hHeld2
          try simp only [Act.put, List.setIfInBounds_toArray, List.set_cons_zero, List.set_cons_succ]
          refine wpAnyH_ready (rs := [0]) (by kernel_rfl) (by simp) ?_
          refine AllReadyH.cons rfl (fun K hK => ?_) AllReadyH.nil
          go_simp
          obtain ⟨v11w, hw11⟩ : ∃ V : World, V = World.alloc v10w (.cells #[] 80) := ⟨_, rfl⟩
          have hb11 : Below (World.heap v10w).size v10w v11w := by rw [hw11]; exact Below.al (Below.refl _ _) _
          have oA : World.ownsRow v11w W.heap.size 80 2 (.slice (some ⟨v10w.heap.size, 0, none⟩) 0 0) 0 [] := by rw [hw11]; exact owns_block _ _ 80 2 0 [] _ (by have := hBa.size; omega) (heap_last _ _) rfl (by decide)
          rw [← hw11]
          clear hw11
          replace hL := hL.keep hb11
          have hBb := Below.next hBa hb11
          clear hBa
          have hBa := hBb
          clear hBb
          refine hK.out _ _ hBa (fun hHeld2 => ?_)
          clear hK K hHeld
          have hHeld := hHeld2
          clear hHeld2
          try simp only [Act.put, List.setIfInBounds_toArray, List.set_cons_zero, List.set_cons_succ]
          refine wpAnyH_ready (rs := [4]) (by kernel_rfl) (by simp) ?_
          refine AllReadyH.cons rfl (fun K hK => ?_) AllReadyH.nil
          refine wp_app_new (.tmp 21) (.tmp 24) 43 rfl W.heap.size 80 _ 2 16 ETg _ rfl oA v1 k (rcs tgR (l.take k)) rfl (HR1.out _ hBa) (rcs_one _ _) (by unfold maxLen; omega) (by omega) hBa.size ?_
          intro aA cA v12w oA2 hb12
          go_simp
          clear oA
          have oA := oA2
          clear oA2
          replace hL := hL.keep hb12
          have hBb := Below.next hBa hb12
          clear hBa
          have hBa := hBb
          clear hBb
          refine hK.out _ _ hBa (fun hHeld2 => ?_)
          clear hK K hHeld
          have hHeld := hHeld2
          clear hHeld2
          try simp only [Act.put, List.setIfInBounds_toArray, List.set_cons_zero, List.set_cons_succ]
          refine wpAnyH_ready (rs := [7]) (by kernel_rfl) (by simp) ?_
          refine AllReadyH.cons rfl (fun K hK => ?_) AllReadyH.nil
          refine wp_app (.tmp 25) (.tmp 27) 43 rfl W.heap.size 80 _ 2 16 ETg _ k (rcs tgR (l.take k)) rfl oA _ 1 (rcs tgR [t]) rfl hL (rcs_one _ _) (by unfold maxLen; omega) (by omega) hBa.size ?_
          intro aB cB v13w oB hg13 hb13
          go_simp
          have hBb := hBa.trans hb13
          clear oA hL hg13
          clear hBa
          have hBa := hBb
          clear hBb
          refine hK.out _ _ hBa (fun hHeld2 => ?_)
          clear hK K hHeld
          have hHeld := hHeld2
          clear hHeld2
          try simp only [Act.put, List.setIfInBounds_toArray, List.set_cons_zero, List.set_cons_succ]
          refine wpAnyH_ready (rs := [11]) (by kernel_rfl) (by simp) ?_
          refine AllReadyH.cons rfl (fun K hK => ?_) AllReadyH.nil
          refine wp_app (.tmp 28) (.tmp 31) 43 rfl W.heap.size 80 _ 2 16 ETg _ (k + 1) (rcs tgR (l.take k) ++ rcs tgR [t]) rfl oB v2 (N - k) (rcs tgR (l.drop k)) rfl (HR2.out _ hBa) (rcs_one _ _) (by unfold maxLen; omega) (by omega) hBa.size ?_
          intro aC cC v14w oC hg14 hb14
          go_simp
          have hBb := hBa.trans hb14
          clear hBa
          have hBa := hBb
          clear hBb
          refine hK.out _ _ hBa (fun hHeld2 => ?_)
          clear hK K hHeld
          have hHeld := hHeld2
          clear hHeld2
          try simp only [Act.put, List.setIfInBounds_toArray, List.set_cons_zero, List.set_cons_succ]
          refine reg_tk (v := ?_) 12 4 rfl rfl (by kernel_rfl) (by kernel_rfl) (by kernel_rfl) (fun _ _ _ h => h) (by rfl) ?_ (by assumption) ?_
          rotate_left
          · (intro w hSw; (try dsimp only at hSw); go_simp; (try with_reducible rfl))
          simp only [List.setIfInBounds_toArray, List.set_cons_zero, List.set_cons_succ]
          refine wpAnyH_done (by kernel_rfl) ?_ _
          refine NoPanic.normal ?_
          clear hHeld
          have hfin := hBW.trans (hBa.mono hBW.size)
          have HOC := Lib.hid oC
          clear oC oB
          go_wp2_with fail
          go_ret
          refine ⟨aC, cC, by rw [hlen]; rfl, ?_, hfin⟩
          have e := own_mono HOC.out (B' := w.heap.size) hBW.size
          have e3 : rcs tgR (insG l t) = rcs tgR (l.take k) ++ rcs tgR [t] ++ rcs tgR (l.drop k) := by rw [HINS.out, rcs_append, rcs_append, List.append_assoc]
          unfold OwG
          rw [e3, hlen]
          exact e
      · have HK : Hid (∀ j, k' ≤ j → j < N → ltG t (gt l j)) := Lib.hid (fun j h1 h2 => by
          by_cases hjk : j = k'
          · rw [hjk, HY.out]
            exact of_decide_eq_true HRR.out
          · exact HALL.out j (by omega) h2)
        go_wp2_with fail
        go_roundw
        case rel => exact ⟨k', by omega, by go_num, hB2, HK.out⟩
        case measure => simp [intOf] <;> omega
end Go.Proofs.Ytnkpjfogjkjcfaa
