

/- ForecastStill: the walk of the law. -/
import Derived.Test.YtnbjdgjopdeolaaLS
namespace Go.Proofs.Ytnbjdgjopdeolaa
open Go.RowKit Go.Shelf
set_option linter.unusedSimpArgs false
set_option linter.unusedVariables false
set_option maxRecDepth 100000

set_option maxHeartbeats 4000000 in
theorem lawStill (v : Value) (ns : List Int) (x : Int) (hb : ∀ x ∈ ns, Ib x) (hx : Ib x) (w : World) (h : RdI .i64 w v ns) :
    Calls Try.prog 5 #[v, .int .i64 x] w fun e w' => e = .returned (.bool true) ∧ Below w.heap.size w w' := by
  have HB := Lib.hid hb
  have HR := Lib.hid h
  clear hb h
  obtain ⟨xm, HX, p0, q0⟩ : ∃ z, Hid (x % 100 = z) ∧ 0 ≤ z ∧ z < 100 := ⟨_, rfl, Int.emod_nonneg _ (by omega), Int.emod_lt_of_pos _ (by omega)⟩
  go_enter Try.func5, Try.ntmps5
  go_wp2_with fail
  refine (made26_any _ ns HB.out _ HR.out).mono ?_
  rintro e w1 ⟨ra, rc, pv, rfl, hXS, hP, hB⟩
  obtain ⟨pa, pc, rfl⟩ := hP.form
  have hcb := mCf_bd ns
  have hsb := mSt_bd ns
  have hpk := planK_ok ns
  have hpw : ∀ c, c ∈ plK ns 12 ns.length → Wf c := fun c hc => okC_wf26 ((plK_ok ns 12 ns.length).1.1 c hc) ((plK_ok ns 12 ns.length).2.1 c hc)
  have HFK : ∀ (cs : List Ct) (now un : Int), planChk cs = (0, 0) → 0 ≤ now → now < un → un ≤ 1000 → Hid (fck (mCf ns) 500 (mSt ns) (mXs ns 4) cs now un = 0) := fun cs now un h1 h2 h3 h4 => mfck hsb h1 h2 h3 h4
  have hin : Inp 500 (mSt ns) (mXs ns 4) := mInp hsb
  have hxsum : 0 ≤ (mXs ns 4).sum ∧ (mXs ns 4).sum ≤ 276 := mXs_sum ns
  have hxl : (mXs ns 4).length = 16 := mXs_len ns 4
  have hxn : Nn (mXs ns 4) := mXs_nn ns
  obtain ⟨c, hc⟩ : ∃ c, mCf ns = c := ⟨_, rfl⟩
  obtain ⟨st, hst⟩ : ∃ st, mSt ns = st := ⟨_, rfl⟩
  obtain ⟨xs, hxs⟩ : ∃ xs, mXs ns 4 = xs := ⟨_, rfl⟩
  obtain ⟨cs, hcs⟩ : ∃ cs, plK ns 12 ns.length = cs := ⟨_, rfl⟩
  rw [hcs] at hP hpk hpw ⊢
  rw [hc] at hcb HFK ⊢
  rw [hst] at hsb HFK hin ⊢
  rw [hxs] at hXS HFK hin hxsum hxl hxn
  clear hc hst hxs hcs
  obtain ⟨PN, hPN⟩ : ∃ n, cs.length = n := ⟨_, rfl⟩
  rw [hPN] at hP ⊢
  have HPN := Lib.hid hPN
  have HXS := Lib.hid hXS
  have HP := Lib.hid hP
  have HPK := Lib.hid hpk
  have HPW := Lib.hid hpw
  have HFK := Lib.hid HFK
  have HXL := Lib.hid hxl
  have HXNN := Lib.hid hxn
  clear hXS hP hpk hpw hPN hxl hxn
  go_upto_region 2 with fail
  obtain ⟨W1, hW1⟩ : ∃ W : World, W = (w1.alloc (.cells #[.int .i64 c.nd, .int .u64 c.qo, .int .u64 c.la, .int .u64 c.wd, .int .u64 c.lo, .int .i64 c.re, .int .i64 c.rm, .int .i64 c.by', .int .i64 c.w0, .int .i64 c.w1, .int .i64 c.w2, .int .i64 c.rn, .int .i64 c.rd, .int .i64 c.bu, .int .i64 c.bl, .int .i64 c.ra] 35)).alloc (.cells #[.int .u64 500, .int .u64 st, .slice (some ra) 16 rc] 38) := ⟨_, rfl⟩
  have b0 : BoxN W1 w1.heap.size 35 #[.int .i64 c.nd, .int .u64 c.qo, .int .u64 c.la, .int .u64 c.wd, .int .u64 c.lo, .int .i64 c.re, .int .i64 c.rm, .int .i64 c.by', .int .i64 c.w0, .int .i64 c.w1, .int .i64 c.w2, .int .i64 c.rn, .int .i64 c.rd, .int .i64 c.bu, .int .i64 c.bl, .int .i64 c.ra] := by rw [hW1]; exact heap_al _ (heap_last w1 _)
  have b1 : BoxN W1 (w1.heap.size + 1) 38 #[.int .u64 500, .int .u64 st, .slice (some ra) 16 rc] := by
    have := BoxN.new (w1.alloc (.cells #[.int .i64 c.nd, .int .u64 c.qo, .int .u64 c.la, .int .u64 c.wd, .int .u64 c.lo, .int .i64 c.re, .int .i64 c.rm, .int .i64 c.by', .int .i64 c.w0, .int .i64 c.w1, .int .i64 c.w2, .int .i64 c.rn, .int .i64 c.rd, .int .i64 c.bu, .int .i64 c.bl, .int .i64 c.ra] 35)) 38 #[.int .u64 500, .int .u64 st, .slice (some ra) 16 rc]
    rw [World.size_alloc] at this
    rw [hW1]; exact this
  have hBw : Below w1.heap.size w1 W1 := by rw [hW1]; exact (by repeat (first | assumption | exact Below.refl _ _ | apply Below.al | apply below_drewN | apply Below.drew | refine Below.next ?_ (by assumption)))
  have HXS := Lib.hid (HXS.out.keep hBw)
  have HP := Lib.hid (HP.out.keep hBw)
  have hB := Below.next hB hBw
  rw [← hW1]
  clear hW1 hBw
  obtain ⟨Cx, hCx⟩ : ∃ C, C = w1.heap.size := ⟨_, rfl⟩
  rw [← hCx] at b0 b1 ⊢
  clear hCx
  obtain ⟨wn, rfl⟩ : ∃ wn, wn = W1 := ⟨_, rfl⟩
  have hwu : IntKind.i64.wrap (8 + xm) = 8 + xm := IntWalk.i64_in _ (by omega)
  have hU2 : 8 ≤ 8 + xm ∧ 8 + xm ≤ 107 := by omega
  have HU : Hid ((8 + xm - 7).toNat = xm.toNat + 1) := by unfold Hid; omega
  have hf := (HFK.out [] 7 (8 + xm) rfl (by omega) (by omega) (by omega)).out
  have HL : Hid (lvV c 500 st xs [] 7 (8 + xm) = [⟨7, st, xs.sum⟩]) := by
    unfold Hid lvV
    rw [if_neg (by rw [hf]; simp), HU.out]
    exact lvO_nil c st xs 7 hsb.1 _
  have HF := Lib.hid hf
  have hIbU : Ib (8 + xm) := by unfold Ib; omega
  clear hf
  refine wp_region_noPanic ?_
  refine wp_region_held_drew (S := (fun w' => BoxN w' Cx 35 #[.int .i64 c.nd, .int .u64 c.qo, .int .u64 c.la, .int .u64 c.wd, .int .u64 c.lo, .int .i64 c.re, .int .i64 c.rm, .int .i64 c.by', .int .i64 c.w0, .int .i64 c.w1, .int .i64 c.w2, .int .i64 c.rn, .int .i64 c.rd, .int .i64 c.bu, .int .i64 c.bl, .int .i64 c.ra] ∧ BoxN w' (Cx + 1) 38 #[.int .u64 500, .int .u64 st, .slice (some ra) 16 rc])) (by kernel_rfl) ⟨b0, b1⟩ (fun hHeld => ?_)
  refine reg_tk (v := c.v) 0 19 rfl rfl (by kernel_rfl) (by kernel_rfl) (by kernel_rfl) (fun _ _ _ h => h) (by rfl) (fun w3 hS => ld_box 35 _ rfl Cx rfl hS.1 Try.underlying35 rfl (by kernel_rfl)) (by assumption) ?_
  simp only [List.setIfInBounds_toArray, List.set_cons_zero, List.set_cons_succ]
  refine reg_tk (v := .agg #[.int .u64 500, .int .u64 st, .slice (some ra) 16 rc]) 1 20 rfl rfl (by kernel_rfl) (by kernel_rfl) (by kernel_rfl) (fun _ _ _ h => h) (by rfl) (fun w3 hS => ld_box 38 _ rfl (Cx + 1) rfl hS.2 Try.underlying38 rfl (by kernel_rfl)) (by assumption) ?_
  simp only [List.setIfInBounds_toArray, List.set_cons_zero, List.set_cons_succ]
  refine reg_tk (v := ?_) 2 21 rfl rfl (by kernel_rfl) (by kernel_rfl) (by kernel_rfl) (fun _ _ _ h => h) (by rfl) ?_ (by assumption) ?_
  rotate_left
  · (intro w hSw; (try dsimp only at hSw); go_simp; (try with_reducible rfl))
  simp only [List.setIfInBounds_toArray, List.set_cons_zero, List.set_cons_succ]
  refine reg_call 3 22 37 (v := .int .i64 xm) (args := #[.int .i64 x, .int .i64 100]) rfl rfl (by kernel_rfl) (by kernel_rfl) (by kernel_rfl) (fun _ _ _ h => h) (by rfl) (fun w3 hS => by go_simp) (fun w3 hS => by
    refine (mod_any x 100 (by omega) (by omega) hx _).mono ?_
    rw [HX.out]
    exact fun e w' h => h) (by assumption) ?_
  simp only [List.setIfInBounds_toArray, List.set_cons_zero, List.set_cons_succ]
  refine reg_tk (v := ?_) 4 23 rfl rfl (by kernel_rfl) (by kernel_rfl) (by kernel_rfl) (fun _ _ _ h => h) (by rfl) ?_ (by assumption) ?_
  rotate_left
  · (intro w hSw; (try dsimp only at hSw); go_simp; (try with_reducible rfl))
  simp only [List.setIfInBounds_toArray, List.set_cons_zero, List.set_cons_succ]
  have b0 : BoxN wn.drew _ _ _ := b0
  have b1 : BoxN wn.drew _ _ _ := b1
  have HXS : Hid (RdI .u64 wn.drew _ _) := HXS
  have hB : Below w.heap.size w wn.drew := hB.drew
  refine wpAnyH_ready (rs := [5]) (by kernel_rfl) (by simp) ?_
  refine AllReadyH.cons rfl (fun K hK => ?_) AllReadyH.nil
  go_simp
  refine (levels_any c 500 st _ xs [] (.slice none 0 0) 7 (8 + xm) hin (fun c h => by cases h) (by unfold Ib; omega) hIbU _ HXS.out (RdC.nil _)).mono ?_
  rw [HL.out, HF.out]
  rintro e w2 ⟨lv, rfl, hL, _, hb⟩
  have b0 := b0.below hb
  have b1 := b1.below hb
  have HXS := Lib.hid (HXS.out.keep hb)
  have hB := Below.next hB hb
  obtain ⟨la, lc, rfl⟩ := hL.form
  have HLV := Lib.hid hL
  clear hb hL
  refine hK.out _ _ ⟨b0, b1⟩ (fun hHeld2 => ?_)
  clear hK K hHeld
  have hHeld := hHeld2
  clear hHeld2
  try simp only [Act.put, List.setIfInBounds_toArray, List.set_cons_zero, List.set_cons_succ]
  refine reg_tk (v := ?_) 6 18 rfl rfl (by kernel_rfl) (by kernel_rfl) (by kernel_rfl) (fun _ _ _ h => h) (by rfl) ?_ (by assumption) ?_
  rotate_left
  · (intro w hSw; (try dsimp only at hSw); go_simp; (try with_reducible rfl))
  simp only [List.setIfInBounds_toArray, List.set_cons_zero, List.set_cons_succ]
  refine reg_tk (v := ?_) 7 25 rfl rfl (by kernel_rfl) (by kernel_rfl) (by kernel_rfl) (fun _ _ _ h => h) (by rfl) ?_ (by assumption) ?_
  rotate_left
  · (intro w hSw; (try dsimp only at hSw); go_simp; (try with_reducible rfl))
  simp only [List.setIfInBounds_toArray, List.set_cons_zero, List.set_cons_succ]
  refine reg_tk (v := ?_) 8 26 rfl rfl (by kernel_rfl) (by kernel_rfl) (by kernel_rfl) (fun _ _ _ h => h) (by rfl) ?_ (by assumption) ?_
  rotate_left
  · (intro w hSw; (try dsimp only at hSw); go_simp; (try with_reducible rfl))
  simp only [List.setIfInBounds_toArray, List.set_cons_zero, List.set_cons_succ]
  refine reg_tk (v := ?_) 9 8 rfl rfl (by kernel_rfl) (by kernel_rfl) (by kernel_rfl) (fun _ _ _ h => h) (by rfl) ?_ (by assumption) ?_
  rotate_left
  · (intro w hSw; (try dsimp only at hSw); go_simp; (try with_reducible rfl))
  simp only [List.setIfInBounds_toArray, List.set_cons_zero, List.set_cons_succ]
  refine reg_tk (v := ?_) 10 9 rfl rfl (by kernel_rfl) (by kernel_rfl) (by kernel_rfl) (fun _ _ _ h => h) (by rfl) ?_ (by assumption) ?_
  rotate_left
  · (intro w hSw; (try dsimp only at hSw); go_simp; (try with_reducible rfl))
  simp only [List.setIfInBounds_toArray, List.set_cons_zero, List.set_cons_succ]
  refine wpAnyH_done (by kernel_rfl) ?_ _
  refine NoPanic.normal ?_
  have s1 : w2.cell? ⟨Cx + 1, 1, none⟩ = some (.int .u64 st) := b1.cell 1
  have s2 : w2.cell? ⟨Cx + 1, 2, none⟩ = some (.slice (some ra) 16 rc) := b1.cell 2
  clear b0 b1 hHeld
  go_wp2_with fail
  go_loop [10, 11] (fun s i => ∃ k : Nat, k ≤ 16 ∧ i = .int .i64 k ∧ s = .int .u64 (xs.take k).sum) (fun _ i => 16 - (intOf i).toNat)
  case atStart => exact ⟨0, Nat.zero_le _, rfl, by simp⟩
  case round =>
    obtain ⟨k, hk, rfl, rfl⟩ := hrel
    by_cases hlt : k < 16
    · obtain ⟨b, off, hab, hcap, hcx⟩ := RdI.at HXS.out HXL.out k hlt
      simp only [Option.some.injEq] at hab
      subst hab
      have hs1 := sum_take_le HXNN.out (k + 1)
      have hs0 := sum_nn (HXNN.out.take k)
      have hst := sum_take_succ xs k (by rw [HXL.out]; exact hlt)
      have hg := HXNN.out.get k (by rw [HXL.out]; exact hlt)
      obtain ⟨s, hs⟩ : ∃ s, (xs.take k).sum = s := ⟨_, rfl⟩
      obtain ⟨z, hz⟩ : ∃ z, xs.getD k 0 = z := ⟨_, rfl⟩
      rw [hs] at hs0 hst ⊢
      rw [hz] at hst hg hcx
      rw [hst] at hs1
      have HST := Lib.hid hst
      clear hs hz hst
      have hws : IntKind.u64.wrap (s + z) = s + z := IntWalk.u64_in _ (by omega)
      have i1 : (0 : Int) ≤ (k : Int) := by omega
      have i2 : (k : Int) < 16 := by omega
      have hwk : IntKind.i64.wrap (k : Int) = (k : Int) := IntWalk.i64_in _ (by omega)
      go_wp2_with fail
      go_round
      case rel => exact ⟨k + 1, by omega, by go_num, by rw [HST.out]⟩
      case measure => simp [intOf]; omega
    · obtain rfl : k = 16 := by omega
      have HT : Hid ((xs.take 16).sum = xs.sum) := by unfold Hid; rw [show 16 = xs.length from HXL.out.symm, List.take_length]
      obtain ⟨s, hs⟩ : ∃ s, (xs.take 16).sum = s := ⟨_, rfl⟩
      rw [hs] at HT ⊢
      clear hs
      have h1 : ([⟨7, st, xs.sum⟩] : List Lv).length = 1 := rfl
      rw [h1] at HLV ⊢
      clear h1
      obtain ⟨W3, hW3⟩ : ∃ W : World, W = w2.alloc (.cells #[.int .i64 7, .int .u64 st, .int .u64 s] 57) := ⟨_, rfl⟩
      have h3 : RdL W3 (.slice (some ⟨w2.heap.size, 0, none⟩) 1 1) [⟨7, st, s⟩] := by rw [hW3]; exact rdS_box 3 1 (lcs [⟨7, st, s⟩]) (BoxN.new w2 _ _) rfl (by decide)
      rw [HT.out] at h3
      have hb3 : Below w2.heap.size w2 W3 := by rw [hW3]; exact Below.al (Below.refl _ _) _
      have HV3 := Lib.hid (HLV.out.keep hb3)
      have HW3 := Lib.hid h3
      have hB3 := Below.next hB hb3
      clear h3 hb3 hB
      go_wp2_with fail
      rw [← hW3]
      clear hW3 s1 s2
      refine (sameL_eq _ _ [⟨7, st, xs.sum⟩] (by simp) _ HV3.out HW3.out).mono ?_
      rintro e w4 ⟨rfl, hb⟩
      have hB4 := Below.next hB3 hb
      clear hb hB3
      go_wp2_with fail
      refine (awake26_any _).mono ?_
      rintro e w5 ⟨rfl, hb⟩
      have hB5 := Below.next hB4 hb
      clear hb hB4
      go_wp2_with fail
      go_ret
      exact ⟨rfl, hB5⟩
end Go.Proofs.Ytnbjdgjopdeolaa
