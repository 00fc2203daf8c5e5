

/- ForecastSooner: the walk of the law. -/
import Derived.Test.YtnbjdgjopdeolaaPQ
import Derived.Test.YtnbjdgjopdeolaaDR
namespace Go.Proofs.Ytnbjdgjopdeolaa
open Go.RowKit Go.Shelf
set_option linter.unusedSimpArgs false
set_option linter.unusedVariables false
set_option maxRecDepth 100000


theorem okC_wf26 {c : Ct} (h : okC c) (hs : smallC c) : Wf c := by
  obtain ⟨h1, h2, h3, h4, h5, h6, h7, h8, h9, h10⟩ := h
  obtain ⟨s1, s2⟩ := hs
  unfold Wf
  refine ⟨?_, ?_, ?_, ?_, ?_, ?_⟩ <;> exact WalkArith.wf_i64 (by omega)
set_option maxHeartbeats 4000000 in
theorem lawSooner (v : Value) (ns : List Int) (x y : Int) (hb : ∀ x ∈ ns, Ib x) (hx : Ib x) (hy : Ib y) (w : World) (h : RdI .i64 w v ns) :
    Calls Try.prog 14 #[v, .int .i64 x, .int .i64 y] w fun e w' => e = .returned (.bool true) ∧ Below w.heap.size w w' := by
  have HB := Lib.hid hb
  have HR := Lib.hid h
  clear hb h
  obtain ⟨xm, HX, p0, q0⟩ : ∃ z, Hid (x % 60 = z) ∧ 0 ≤ z ∧ z < 60 := ⟨_, rfl, Int.emod_nonneg _ (by omega), Int.emod_lt_of_pos _ (by omega)⟩
  obtain ⟨ym, HY, p1, q1⟩ : ∃ z, Hid (y % 60 = z) ∧ 0 ≤ z ∧ z < 60 := ⟨_, rfl, Int.emod_nonneg _ (by omega), Int.emod_lt_of_pos _ (by omega)⟩
  go_enter Try.func14, Try.ntmps14
  go_wp2_with fail
  refine (made26_any _ ns HB.out _ HR.out).mono ?_
  rintro e w1 ⟨ra, rc, pv, rfl, hXS, hP, hB⟩
  obtain ⟨pa, pc, rfl⟩ := hP.form
  have hcb := mCf_bd ns
  have hsb := mSt_bd ns
  have hpk := planK_ok ns
  have hpw : ∀ c, c ∈ plK ns 12 ns.length → Wf c := fun c hc => okC_wf26 ((plK_ok ns 12 ns.length).1.1 c hc) ((plK_ok ns 12 ns.length).2.1 c hc)
  have HFK : ∀ (cs : List Ct) (now un : Int), planChk cs = (0, 0) → 0 ≤ now → now < un → un ≤ 1000 → Hid (fck (mCf ns) 500 (mSt ns) (mXs ns 4) cs now un = 0) := fun cs now un h1 h2 h3 h4 => mfck hsb h1 h2 h3 h4
  have hin : Inp 500 (mSt ns) (mXs ns 4) := mInp hsb
  have hxsum : 0 ≤ (mXs ns 4).sum ∧ (mXs ns 4).sum ≤ 276 := mXs_sum ns
  have hxl : (mXs ns 4).length = 16 := mXs_len ns 4
  have hxn : Nn (mXs ns 4) := mXs_nn ns
  obtain ⟨c, hc⟩ : ∃ c, mCf ns = c := ⟨_, rfl⟩
  obtain ⟨st, hst⟩ : ∃ st, mSt ns = st := ⟨_, rfl⟩
  obtain ⟨xs, hxs⟩ : ∃ xs, mXs ns 4 = xs := ⟨_, rfl⟩
  obtain ⟨cs, hcs⟩ : ∃ cs, plK ns 12 ns.length = cs := ⟨_, rfl⟩
  rw [hcs] at hP hpk hpw ⊢
  rw [hc] at hcb HFK ⊢
  rw [hst] at hsb HFK hin ⊢
  rw [hxs] at hXS HFK hin hxsum hxl hxn
  clear hc hst hxs hcs
  obtain ⟨PN, hPN⟩ : ∃ n, cs.length = n := ⟨_, rfl⟩
  rw [hPN] at hP ⊢
  have HPN := Lib.hid hPN
  have HXS := Lib.hid hXS
  have HP := Lib.hid hP
  have HPK := Lib.hid hpk
  have HPW := Lib.hid hpw
  have HFK := Lib.hid HFK
  have HXL := Lib.hid hxl
  have HXNN := Lib.hid hxn
  clear hXS hP hpk hpw hPN hxl hxn
  go_wp2_with fail
  obtain ⟨W1, hW1⟩ : ∃ W : World, W = (w1.alloc (.cells #[.int .i64 c.nd, .int .u64 c.qo, .int .u64 c.la, .int .u64 c.wd, .int .u64 c.lo, .int .i64 c.re, .int .i64 c.rm, .int .i64 c.by', .int .i64 c.w0, .int .i64 c.w1, .int .i64 c.w2, .int .i64 c.rn, .int .i64 c.rd, .int .i64 c.bu, .int .i64 c.bl, .int .i64 c.ra] 35)).alloc (.cells #[.int .u64 500, .int .u64 st, .slice (some ra) 16 rc] 38) := ⟨_, rfl⟩
  have b0 : BoxN W1 w1.heap.size 35 #[.int .i64 c.nd, .int .u64 c.qo, .int .u64 c.la, .int .u64 c.wd, .int .u64 c.lo, .int .i64 c.re, .int .i64 c.rm, .int .i64 c.by', .int .i64 c.w0, .int .i64 c.w1, .int .i64 c.w2, .int .i64 c.rn, .int .i64 c.rd, .int .i64 c.bu, .int .i64 c.bl, .int .i64 c.ra] := by rw [hW1]; exact heap_al _ (heap_last w1 _)
  have b1 : BoxN W1 (w1.heap.size + 1) 38 #[.int .u64 500, .int .u64 st, .slice (some ra) 16 rc] := by
    have := BoxN.new (w1.alloc (.cells #[.int .i64 c.nd, .int .u64 c.qo, .int .u64 c.la, .int .u64 c.wd, .int .u64 c.lo, .int .i64 c.re, .int .i64 c.rm, .int .i64 c.by', .int .i64 c.w0, .int .i64 c.w1, .int .i64 c.w2, .int .i64 c.rn, .int .i64 c.rd, .int .i64 c.bu, .int .i64 c.bl, .int .i64 c.ra] 35)) 38 #[.int .u64 500, .int .u64 st, .slice (some ra) 16 rc]
    rw [World.size_alloc] at this
    rw [hW1]; exact this
  have hBw : Below w1.heap.size w1 W1 := by rw [hW1]; exact (by repeat (first | assumption | exact Below.refl _ _ | apply Below.al | apply below_drewN | apply Below.drew | refine Below.next ?_ (by assumption)))
  have HXS := Lib.hid (HXS.out.keep hBw)
  have HP := Lib.hid (HP.out.keep hBw)
  have hB := Below.next hB hBw
  rw [← hW1]
  clear hW1 hBw
  obtain ⟨Cx, hCx⟩ : ∃ C, C = w1.heap.size := ⟨_, rfl⟩
  rw [← hCx] at b0 b1 ⊢
  clear hCx
  obtain ⟨wn, rfl⟩ : ∃ wn, wn = W1 := ⟨_, rfl⟩
  refine (mod_any x 60 (by omega) (by omega) hx _).mono ?_
  rw [HX.out]
  rintro e w2 ⟨rfl, rfl⟩
  go_wp2_with fail
  refine (mod_any y 60 (by omega) (by omega) hy _).mono ?_
  rw [HY.out]
  rintro e w2 ⟨rfl, rfl⟩
  have hwa : IntKind.i64.wrap (1 + xm) = 1 + xm := IntWalk.i64_in _ (by omega)
  have hwb : IntKind.i64.wrap (1 + ym) = 1 + ym := IntWalk.i64_in _ (by omega)
  go_upto_region 3 with fail
  obtain ⟨A, hA⟩ : ∃ A, A = 1 + xm := ⟨_, rfl⟩
  obtain ⟨B, hB'⟩ : ∃ B, B = 1 + ym := ⟨_, rfl⟩
  rw [← hA, ← hB']
  have pA : 1 ≤ A ∧ A ≤ 60 := by omega
  have pB : 1 ≤ B ∧ B ≤ 60 := by omega
  clear hA hB' hwa hwb p0 q0 p1 q1
  rcases Int.lt_trichotomy A B with hab | hab | hab
  · as_aux_lemma =>
      obtain ⟨n1, k1, HD1⟩ : ∃ n k, Hid (drV c 500 st xs cs 0 A = (n, k)) := ⟨_, _, rfl⟩
      obtain ⟨n2, k2, HD2⟩ : ∃ n k, Hid (drV c 500 st xs cs 0 B = (n, k)) := ⟨_, _, rfl⟩
      have hsn : sooner n1 k1 n2 k2 A := by
        have h1 : drV c 500 st xs cs 0 A = drG cs c.nd st 0 0 ((A - 0).toNat + 1) := if_neg (by rw [(HFK.out cs 0 A HPK.out.1 (by omega) (by omega) (by omega)).out]; simp)
        have h2 : drV c 500 st xs cs 0 B = drG cs c.nd st 0 0 ((B - 0).toNat + 1) := if_neg (by rw [(HFK.out cs 0 B HPK.out.1 (by omega) (by omega) (by omega)).out]; simp)
        have h3 := drG_sooner cs c.nd st (a := (A - 0).toNat) (b := (B - 0).toNat) (by omega)
        rw [← h1] at h3
        try rw [← h2] at h3
        rw [HD1.out, HD2.out] at h3
        rwa [show (((A - 0).toNat : Nat) : Int) = A by omega] at h3
      have HSN := Lib.hid hsn
      clear hsn
      have a0 : wn.cell? ⟨Cx, 0, none⟩ = some (.int .i64 c.nd) := b0.cell 0
      have a1 : wn.cell? ⟨Cx, 1, none⟩ = some (.int .u64 c.qo) := b0.cell 1
      have a2 : wn.cell? ⟨Cx, 2, none⟩ = some (.int .u64 c.la) := b0.cell 2
      have a3 : wn.cell? ⟨Cx, 3, none⟩ = some (.int .u64 c.wd) := b0.cell 3
      have a4 : wn.cell? ⟨Cx, 4, none⟩ = some (.int .u64 c.lo) := b0.cell 4
      have a5 : wn.cell? ⟨Cx, 5, none⟩ = some (.int .i64 c.re) := b0.cell 5
      have a6 : wn.cell? ⟨Cx, 6, none⟩ = some (.int .i64 c.rm) := b0.cell 6
      have a7 : wn.cell? ⟨Cx, 7, none⟩ = some (.int .i64 c.by') := b0.cell 7
      have a8 : wn.cell? ⟨Cx, 8, none⟩ = some (.int .i64 c.w0) := b0.cell 8
      have a9 : wn.cell? ⟨Cx, 9, none⟩ = some (.int .i64 c.w1) := b0.cell 9
      have a10 : wn.cell? ⟨Cx, 10, none⟩ = some (.int .i64 c.w2) := b0.cell 10
      have a11 : wn.cell? ⟨Cx, 11, none⟩ = some (.int .i64 c.rn) := b0.cell 11
      have a12 : wn.cell? ⟨Cx, 12, none⟩ = some (.int .i64 c.rd) := b0.cell 12
      have a13 : wn.cell? ⟨Cx, 13, none⟩ = some (.int .i64 c.bu) := b0.cell 13
      have a14 : wn.cell? ⟨Cx, 14, none⟩ = some (.int .i64 c.bl) := b0.cell 14
      have a15 : wn.cell? ⟨Cx, 15, none⟩ = some (.int .i64 c.ra) := b0.cell 15
      have e0 : wn.cell? ⟨Cx + 1, 0, none⟩ = some (.int .u64 500) := b1.cell 0
      have e1 : wn.cell? ⟨Cx + 1, 1, none⟩ = some (.int .u64 st) := b1.cell 1
      have e2 : wn.cell? ⟨Cx + 1, 2, none⟩ = some (.slice (some ra) 16 rc) := b1.cell 2
      have HB0 := Lib.hid b0
      have HB1 := Lib.hid b1
      clear b0 b1
      go_wp2_with fail
      clear a0 a1 a2 a3 a4 a5 a6 a7 a8 a9 a10 a11 a12 a13 a14 a15 e0 e1 e2
      have b0 := HB0.out
      have b1 := HB1.out
      clear HB0 HB1
      refine (drained_any c 500 st _ xs cs _ 0 A hin HPW.out (by unfold Ib; omega) (by unfold Ib; omega) _ HXS.out HP.out).mono ?_
      rw [HD1.out]
      rintro e w2 ⟨rfl, hb⟩
      have b0 := b0.below hb
      have b1 := b1.below hb
      have HXS := Lib.hid (HXS.out.keep hb)
      have HP := Lib.hid (HP.out.keep hb)
      have hB := Below.next hB hb
      obtain ⟨wn, rfl⟩ : ∃ wn, wn = w2 := ⟨_, rfl⟩
      clear hb
      have a0 : wn.cell? ⟨Cx, 0, none⟩ = some (.int .i64 c.nd) := b0.cell 0
      have a1 : wn.cell? ⟨Cx, 1, none⟩ = some (.int .u64 c.qo) := b0.cell 1
      have a2 : wn.cell? ⟨Cx, 2, none⟩ = some (.int .u64 c.la) := b0.cell 2
      have a3 : wn.cell? ⟨Cx, 3, none⟩ = some (.int .u64 c.wd) := b0.cell 3
      have a4 : wn.cell? ⟨Cx, 4, none⟩ = some (.int .u64 c.lo) := b0.cell 4
      have a5 : wn.cell? ⟨Cx, 5, none⟩ = some (.int .i64 c.re) := b0.cell 5
      have a6 : wn.cell? ⟨Cx, 6, none⟩ = some (.int .i64 c.rm) := b0.cell 6
      have a7 : wn.cell? ⟨Cx, 7, none⟩ = some (.int .i64 c.by') := b0.cell 7
      have a8 : wn.cell? ⟨Cx, 8, none⟩ = some (.int .i64 c.w0) := b0.cell 8
      have a9 : wn.cell? ⟨Cx, 9, none⟩ = some (.int .i64 c.w1) := b0.cell 9
      have a10 : wn.cell? ⟨Cx, 10, none⟩ = some (.int .i64 c.w2) := b0.cell 10
      have a11 : wn.cell? ⟨Cx, 11, none⟩ = some (.int .i64 c.rn) := b0.cell 11
      have a12 : wn.cell? ⟨Cx, 12, none⟩ = some (.int .i64 c.rd) := b0.cell 12
      have a13 : wn.cell? ⟨Cx, 13, none⟩ = some (.int .i64 c.bu) := b0.cell 13
      have a14 : wn.cell? ⟨Cx, 14, none⟩ = some (.int .i64 c.bl) := b0.cell 14
      have a15 : wn.cell? ⟨Cx, 15, none⟩ = some (.int .i64 c.ra) := b0.cell 15
      have e0 : wn.cell? ⟨Cx + 1, 0, none⟩ = some (.int .u64 500) := b1.cell 0
      have e1 : wn.cell? ⟨Cx + 1, 1, none⟩ = some (.int .u64 st) := b1.cell 1
      have e2 : wn.cell? ⟨Cx + 1, 2, none⟩ = some (.slice (some ra) 16 rc) := b1.cell 2
      have HB0 := Lib.hid b0
      have HB1 := Lib.hid b1
      clear b0 b1
      go_wp2_with fail
      clear a0 a1 a2 a3 a4 a5 a6 a7 a8 a9 a10 a11 a12 a13 a14 a15 e0 e1 e2
      have b0 := HB0.out
      have b1 := HB1.out
      clear HB0 HB1
      refine (drained_any c 500 st _ xs cs _ 0 B hin HPW.out (by unfold Ib; omega) (by unfold Ib; omega) _ HXS.out HP.out).mono ?_
      rw [HD2.out]
      rintro e w2 ⟨rfl, hb⟩
      have b0 := b0.below hb
      have b1 := b1.below hb
      have HXS := Lib.hid (HXS.out.keep hb)
      have HP := Lib.hid (HP.out.keep hb)
      have hB := Below.next hB hb
      obtain ⟨wn, rfl⟩ : ∃ wn, wn = w2 := ⟨_, rfl⟩
      clear hb
      rcases HSN.out with ⟨rfl, rfl | ⟨rfl, hlt⟩⟩ | ⟨rfl, rfl, rfl, h0, h1⟩
      · clear b0 b1
        go_wp2_with fail
        refine (awake26_any _).mono ?_
        rintro e w2 ⟨rfl, hb⟩
        have hB := Below.next hB hb
        clear hb
        go_wp2_with fail
        go_ret
        exact ⟨rfl, hB⟩
      · have dl : decide (A < n2) = true := yb hlt
        clear b0 b1
        go_wp2_with fail
        refine (awake26_any _).mono ?_
        rintro e w2 ⟨rfl, hb⟩
        have hB := Below.next hB hb
        clear hb
        go_wp2_with fail
        go_ret
        exact ⟨rfl, hB⟩
      · have dl : decide (0 ≤ n1) = true := yb h0
        have dl2 : decide (n1 ≤ A) = true := yb h1
        clear b0 b1
        go_wp2_with fail
        refine (awake26_any _).mono ?_
        rintro e w2 ⟨rfl, hb⟩
        have hB := Below.next hB hb
        clear hb
        go_wp2_with fail
        go_ret
        exact ⟨rfl, hB⟩
  · subst hab
    as_aux_lemma =>
      obtain ⟨n1, k1, HD1⟩ : ∃ n k, Hid (drV c 500 st xs cs 0 A = (n, k)) := ⟨_, _, rfl⟩
      have hsn : sooner n1 k1 n1 k1 A := by
        have h1 : drV c 500 st xs cs 0 A = drG cs c.nd st 0 0 ((A - 0).toNat + 1) := if_neg (by rw [(HFK.out cs 0 A HPK.out.1 (by omega) (by omega) (by omega)).out]; simp)
        have h2 : drV c 500 st xs cs 0 A = drG cs c.nd st 0 0 ((A - 0).toNat + 1) := if_neg (by rw [(HFK.out cs 0 A HPK.out.1 (by omega) (by omega) (by omega)).out]; simp)
        have h3 := drG_sooner cs c.nd st (a := (A - 0).toNat) (b := (A - 0).toNat) (by omega)
        rw [← h1] at h3
        rw [HD1.out] at h3
        rwa [show (((A - 0).toNat : Nat) : Int) = A by omega] at h3
      have HSN := Lib.hid hsn
      clear hsn
      have a0 : wn.cell? ⟨Cx, 0, none⟩ = some (.int .i64 c.nd) := b0.cell 0
      have a1 : wn.cell? ⟨Cx, 1, none⟩ = some (.int .u64 c.qo) := b0.cell 1
      have a2 : wn.cell? ⟨Cx, 2, none⟩ = some (.int .u64 c.la) := b0.cell 2
      have a3 : wn.cell? ⟨Cx, 3, none⟩ = some (.int .u64 c.wd) := b0.cell 3
      have a4 : wn.cell? ⟨Cx, 4, none⟩ = some (.int .u64 c.lo) := b0.cell 4
      have a5 : wn.cell? ⟨Cx, 5, none⟩ = some (.int .i64 c.re) := b0.cell 5
      have a6 : wn.cell? ⟨Cx, 6, none⟩ = some (.int .i64 c.rm) := b0.cell 6
      have a7 : wn.cell? ⟨Cx, 7, none⟩ = some (.int .i64 c.by') := b0.cell 7
      have a8 : wn.cell? ⟨Cx, 8, none⟩ = some (.int .i64 c.w0) := b0.cell 8
      have a9 : wn.cell? ⟨Cx, 9, none⟩ = some (.int .i64 c.w1) := b0.cell 9
      have a10 : wn.cell? ⟨Cx, 10, none⟩ = some (.int .i64 c.w2) := b0.cell 10
      have a11 : wn.cell? ⟨Cx, 11, none⟩ = some (.int .i64 c.rn) := b0.cell 11
      have a12 : wn.cell? ⟨Cx, 12, none⟩ = some (.int .i64 c.rd) := b0.cell 12
      have a13 : wn.cell? ⟨Cx, 13, none⟩ = some (.int .i64 c.bu) := b0.cell 13
      have a14 : wn.cell? ⟨Cx, 14, none⟩ = some (.int .i64 c.bl) := b0.cell 14
      have a15 : wn.cell? ⟨Cx, 15, none⟩ = some (.int .i64 c.ra) := b0.cell 15
      have e0 : wn.cell? ⟨Cx + 1, 0, none⟩ = some (.int .u64 500) := b1.cell 0
      have e1 : wn.cell? ⟨Cx + 1, 1, none⟩ = some (.int .u64 st) := b1.cell 1
      have e2 : wn.cell? ⟨Cx + 1, 2, none⟩ = some (.slice (some ra) 16 rc) := b1.cell 2
      have HB0 := Lib.hid b0
      have HB1 := Lib.hid b1
      clear b0 b1
      go_wp2_with fail
      clear a0 a1 a2 a3 a4 a5 a6 a7 a8 a9 a10 a11 a12 a13 a14 a15 e0 e1 e2
      have b0 := HB0.out
      have b1 := HB1.out
      clear HB0 HB1
      refine (drained_any c 500 st _ xs cs _ 0 A hin HPW.out (by unfold Ib; omega) (by unfold Ib; omega) _ HXS.out HP.out).mono ?_
      rw [HD1.out]
      rintro e w2 ⟨rfl, hb⟩
      have b0 := b0.below hb
      have b1 := b1.below hb
      have HXS := Lib.hid (HXS.out.keep hb)
      have HP := Lib.hid (HP.out.keep hb)
      have hB := Below.next hB hb
      obtain ⟨wn, rfl⟩ : ∃ wn, wn = w2 := ⟨_, rfl⟩
      clear hb
      have a0 : wn.cell? ⟨Cx, 0, none⟩ = some (.int .i64 c.nd) := b0.cell 0
      have a1 : wn.cell? ⟨Cx, 1, none⟩ = some (.int .u64 c.qo) := b0.cell 1
      have a2 : wn.cell? ⟨Cx, 2, none⟩ = some (.int .u64 c.la) := b0.cell 2
      have a3 : wn.cell? ⟨Cx, 3, none⟩ = some (.int .u64 c.wd) := b0.cell 3
      have a4 : wn.cell? ⟨Cx, 4, none⟩ = some (.int .u64 c.lo) := b0.cell 4
      have a5 : wn.cell? ⟨Cx, 5, none⟩ = some (.int .i64 c.re) := b0.cell 5
      have a6 : wn.cell? ⟨Cx, 6, none⟩ = some (.int .i64 c.rm) := b0.cell 6
      have a7 : wn.cell? ⟨Cx, 7, none⟩ = some (.int .i64 c.by') := b0.cell 7
      have a8 : wn.cell? ⟨Cx, 8, none⟩ = some (.int .i64 c.w0) := b0.cell 8
      have a9 : wn.cell? ⟨Cx, 9, none⟩ = some (.int .i64 c.w1) := b0.cell 9
      have a10 : wn.cell? ⟨Cx, 10, none⟩ = some (.int .i64 c.w2) := b0.cell 10
      have a11 : wn.cell? ⟨Cx, 11, none⟩ = some (.int .i64 c.rn) := b0.cell 11
      have a12 : wn.cell? ⟨Cx, 12, none⟩ = some (.int .i64 c.rd) := b0.cell 12
      have a13 : wn.cell? ⟨Cx, 13, none⟩ = some (.int .i64 c.bu) := b0.cell 13
      have a14 : wn.cell? ⟨Cx, 14, none⟩ = some (.int .i64 c.bl) := b0.cell 14
      have a15 : wn.cell? ⟨Cx, 15, none⟩ = some (.int .i64 c.ra) := b0.cell 15
      have e0 : wn.cell? ⟨Cx + 1, 0, none⟩ = some (.int .u64 500) := b1.cell 0
      have e1 : wn.cell? ⟨Cx + 1, 1, none⟩ = some (.int .u64 st) := b1.cell 1
      have e2 : wn.cell? ⟨Cx + 1, 2, none⟩ = some (.slice (some ra) 16 rc) := b1.cell 2
      have HB0 := Lib.hid b0
      have HB1 := Lib.hid b1
      clear b0 b1
      go_wp2_with fail
      clear a0 a1 a2 a3 a4 a5 a6 a7 a8 a9 a10 a11 a12 a13 a14 a15 e0 e1 e2
      have b0 := HB0.out
      have b1 := HB1.out
      clear HB0 HB1
      refine (drained_any c 500 st _ xs cs _ 0 A hin HPW.out (by unfold Ib; omega) (by unfold Ib; omega) _ HXS.out HP.out).mono ?_
      rw [HD1.out]
      rintro e w2 ⟨rfl, hb⟩
      have b0 := b0.below hb
      have b1 := b1.below hb
      have HXS := Lib.hid (HXS.out.keep hb)
      have HP := Lib.hid (HP.out.keep hb)
      have hB := Below.next hB hb
      obtain ⟨wn, rfl⟩ : ∃ wn, wn = w2 := ⟨_, rfl⟩
      clear hb
      rcases HSN.out with ⟨rfl, h8 | ⟨h8, hlt⟩⟩ | ⟨rfl, h8, h9, h0, h1⟩
      · clear h8
        clear b0 b1
        go_wp2_with fail
        refine (awake26_any _).mono ?_
        rintro e w2 ⟨rfl, hb⟩
        have hB := Below.next hB hb
        clear hb
        go_wp2_with fail
        go_ret
        exact ⟨rfl, hB⟩
      · cases h8
      · clear h8 h9
        have dl : decide (0 ≤ n1) = true := yb h0
        have dl2 : decide (n1 ≤ A) = true := yb h1
        clear b0 b1
        go_wp2_with fail
        refine (awake26_any _).mono ?_
        rintro e w2 ⟨rfl, hb⟩
        have hB := Below.next hB hb
        clear hb
        go_wp2_with fail
        go_ret
        exact ⟨rfl, hB⟩
  · as_aux_lemma =>
      obtain ⟨n1, k1, HD1⟩ : ∃ n k, Hid (drV c 500 st xs cs 0 B = (n, k)) := ⟨_, _, rfl⟩
      obtain ⟨n2, k2, HD2⟩ : ∃ n k, Hid (drV c 500 st xs cs 0 A = (n, k)) := ⟨_, _, rfl⟩
      have hsn : sooner n1 k1 n2 k2 B := by
        have h1 : drV c 500 st xs cs 0 B = drG cs c.nd st 0 0 ((B - 0).toNat + 1) := if_neg (by rw [(HFK.out cs 0 B HPK.out.1 (by omega) (by omega) (by omega)).out]; simp)
        have h2 : drV c 500 st xs cs 0 A = drG cs c.nd st 0 0 ((A - 0).toNat + 1) := if_neg (by rw [(HFK.out cs 0 A HPK.out.1 (by omega) (by omega) (by omega)).out]; simp)
        have h3 := drG_sooner cs c.nd st (a := (B - 0).toNat) (b := (A - 0).toNat) (by omega)
        rw [← h1] at h3
        try rw [← h2] at h3
        rw [HD1.out, HD2.out] at h3
        rwa [show (((B - 0).toNat : Nat) : Int) = B by omega] at h3
      have HSN := Lib.hid hsn
      clear hsn
      have a0 : wn.cell? ⟨Cx, 0, none⟩ = some (.int .i64 c.nd) := b0.cell 0
      have a1 : wn.cell? ⟨Cx, 1, none⟩ = some (.int .u64 c.qo) := b0.cell 1
      have a2 : wn.cell? ⟨Cx, 2, none⟩ = some (.int .u64 c.la) := b0.cell 2
      have a3 : wn.cell? ⟨Cx, 3, none⟩ = some (.int .u64 c.wd) := b0.cell 3
      have a4 : wn.cell? ⟨Cx, 4, none⟩ = some (.int .u64 c.lo) := b0.cell 4
      have a5 : wn.cell? ⟨Cx, 5, none⟩ = some (.int .i64 c.re) := b0.cell 5
      have a6 : wn.cell? ⟨Cx, 6, none⟩ = some (.int .i64 c.rm) := b0.cell 6
      have a7 : wn.cell? ⟨Cx, 7, none⟩ = some (.int .i64 c.by') := b0.cell 7
      have a8 : wn.cell? ⟨Cx, 8, none⟩ = some (.int .i64 c.w0) := b0.cell 8
      have a9 : wn.cell? ⟨Cx, 9, none⟩ = some (.int .i64 c.w1) := b0.cell 9
      have a10 : wn.cell? ⟨Cx, 10, none⟩ = some (.int .i64 c.w2) := b0.cell 10
      have a11 : wn.cell? ⟨Cx, 11, none⟩ = some (.int .i64 c.rn) := b0.cell 11
      have a12 : wn.cell? ⟨Cx, 12, none⟩ = some (.int .i64 c.rd) := b0.cell 12
      have a13 : wn.cell? ⟨Cx, 13, none⟩ = some (.int .i64 c.bu) := b0.cell 13
      have a14 : wn.cell? ⟨Cx, 14, none⟩ = some (.int .i64 c.bl) := b0.cell 14
      have a15 : wn.cell? ⟨Cx, 15, none⟩ = some (.int .i64 c.ra) := b0.cell 15
      have e0 : wn.cell? ⟨Cx + 1, 0, none⟩ = some (.int .u64 500) := b1.cell 0
      have e1 : wn.cell? ⟨Cx + 1, 1, none⟩ = some (.int .u64 st) := b1.cell 1
      have e2 : wn.cell? ⟨Cx + 1, 2, none⟩ = some (.slice (some ra) 16 rc) := b1.cell 2
      have HB0 := Lib.hid b0
      have HB1 := Lib.hid b1
      clear b0 b1
      go_wp2_with fail
      clear a0 a1 a2 a3 a4 a5 a6 a7 a8 a9 a10 a11 a12 a13 a14 a15 e0 e1 e2
      have b0 := HB0.out
      have b1 := HB1.out
      clear HB0 HB1
      refine (drained_any c 500 st _ xs cs _ 0 B hin HPW.out (by unfold Ib; omega) (by unfold Ib; omega) _ HXS.out HP.out).mono ?_
      rw [HD1.out]
      rintro e w2 ⟨rfl, hb⟩
      have b0 := b0.below hb
      have b1 := b1.below hb
      have HXS := Lib.hid (HXS.out.keep hb)
      have HP := Lib.hid (HP.out.keep hb)
      have hB := Below.next hB hb
      obtain ⟨wn, rfl⟩ : ∃ wn, wn = w2 := ⟨_, rfl⟩
      clear hb
      have a0 : wn.cell? ⟨Cx, 0, none⟩ = some (.int .i64 c.nd) := b0.cell 0
      have a1 : wn.cell? ⟨Cx, 1, none⟩ = some (.int .u64 c.qo) := b0.cell 1
      have a2 : wn.cell? ⟨Cx, 2, none⟩ = some (.int .u64 c.la) := b0.cell 2
      have a3 : wn.cell? ⟨Cx, 3, none⟩ = some (.int .u64 c.wd) := b0.cell 3
      have a4 : wn.cell? ⟨Cx, 4, none⟩ = some (.int .u64 c.lo) := b0.cell 4
      have a5 : wn.cell? ⟨Cx, 5, none⟩ = some (.int .i64 c.re) := b0.cell 5
      have a6 : wn.cell? ⟨Cx, 6, none⟩ = some (.int .i64 c.rm) := b0.cell 6
      have a7 : wn.cell? ⟨Cx, 7, none⟩ = some (.int .i64 c.by') := b0.cell 7
      have a8 : wn.cell? ⟨Cx, 8, none⟩ = some (.int .i64 c.w0) := b0.cell 8
      have a9 : wn.cell? ⟨Cx, 9, none⟩ = some (.int .i64 c.w1) := b0.cell 9
      have a10 : wn.cell? ⟨Cx, 10, none⟩ = some (.int .i64 c.w2) := b0.cell 10
      have a11 : wn.cell? ⟨Cx, 11, none⟩ = some (.int .i64 c.rn) := b0.cell 11
      have a12 : wn.cell? ⟨Cx, 12, none⟩ = some (.int .i64 c.rd) := b0.cell 12
      have a13 : wn.cell? ⟨Cx, 13, none⟩ = some (.int .i64 c.bu) := b0.cell 13
      have a14 : wn.cell? ⟨Cx, 14, none⟩ = some (.int .i64 c.bl) := b0.cell 14
      have a15 : wn.cell? ⟨Cx, 15, none⟩ = some (.int .i64 c.ra) := b0.cell 15
      have e0 : wn.cell? ⟨Cx + 1, 0, none⟩ = some (.int .u64 500) := b1.cell 0
      have e1 : wn.cell? ⟨Cx + 1, 1, none⟩ = some (.int .u64 st) := b1.cell 1
      have e2 : wn.cell? ⟨Cx + 1, 2, none⟩ = some (.slice (some ra) 16 rc) := b1.cell 2
      have HB0 := Lib.hid b0
      have HB1 := Lib.hid b1
      clear b0 b1
      go_wp2_with fail
      clear a0 a1 a2 a3 a4 a5 a6 a7 a8 a9 a10 a11 a12 a13 a14 a15 e0 e1 e2
      have b0 := HB0.out
      have b1 := HB1.out
      clear HB0 HB1
      refine (drained_any c 500 st _ xs cs _ 0 A hin HPW.out (by unfold Ib; omega) (by unfold Ib; omega) _ HXS.out HP.out).mono ?_
      rw [HD2.out]
      rintro e w2 ⟨rfl, hb⟩
      have b0 := b0.below hb
      have b1 := b1.below hb
      have HXS := Lib.hid (HXS.out.keep hb)
      have HP := Lib.hid (HP.out.keep hb)
      have hB := Below.next hB hb
      obtain ⟨wn, rfl⟩ : ∃ wn, wn = w2 := ⟨_, rfl⟩
      clear hb
      rcases HSN.out with ⟨rfl, rfl | ⟨rfl, hlt⟩⟩ | ⟨rfl, rfl, rfl, h0, h1⟩
      · clear b0 b1
        go_wp2_with fail
        refine (awake26_any _).mono ?_
        rintro e w2 ⟨rfl, hb⟩
        have hB := Below.next hB hb
        clear hb
        go_wp2_with fail
        go_ret
        exact ⟨rfl, hB⟩
      · have dl : decide (B < n2) = true := yb hlt
        clear b0 b1
        go_wp2_with fail
        refine (awake26_any _).mono ?_
        rintro e w2 ⟨rfl, hb⟩
        have hB := Below.next hB hb
        clear hb
        go_wp2_with fail
        go_ret
        exact ⟨rfl, hB⟩
      · have dl : decide (0 ≤ n1) = true := yb h0
        have dl2 : decide (n1 ≤ B) = true := yb h1
        clear b0 b1
        go_wp2_with fail
        refine (awake26_any _).mono ?_
        rintro e w2 ⟨rfl, hb⟩
        have hB := Below.next hB hb
        clear hb
        go_wp2_with fail
        go_ret
        exact ⟨rfl, hB⟩
end Go.Proofs.Ytnbjdgjopdeolaa
