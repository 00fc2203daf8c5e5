

/- ForecastSteps: the walk of the law. -/
import Derived.Test.YtnbjdgjopdeolaaLS
import Derived.Test.YtnbjdgjopdeolaaSP
namespace Go.Proofs.Ytnbjdgjopdeolaa
open Go.RowKit Go.Shelf
set_option linter.unusedSimpArgs false
set_option linter.unusedVariables false
set_option maxRecDepth 100000

set_option maxHeartbeats 4000000 in
theorem lawSteps (v : Value) (ns : List Int) (x : Int) (hb : ∀ x ∈ ns, Ib x) (hx : Ib x) (w : World) (h : RdI .i64 w v ns) :
    Calls Try.prog 6 #[v, .int .i64 x] w fun e w' => e = .returned (.bool true) ∧ Below w.heap.size w w' := by
  have HB := Lib.hid hb
  have HR := Lib.hid h
  clear hb h
  obtain ⟨xm, HX, p0, q0⟩ : ∃ z, Hid (x % 60 = z) ∧ 0 ≤ z ∧ z < 60 := ⟨_, rfl, Int.emod_nonneg _ (by omega), Int.emod_lt_of_pos _ (by omega)⟩
  go_enter Try.func6, Try.ntmps6
  go_wp2_with fail
  refine (made26_any _ ns HB.out _ HR.out).mono ?_
  rintro e w1 ⟨ra, rc, pv, rfl, hXS, hP, hB⟩
  obtain ⟨pa, pc, rfl⟩ := hP.form
  have hcb := mCf_bd ns
  have hsb := mSt_bd ns
  have hpk := planK_ok ns
  have hpw : ∀ c, c ∈ plK ns 12 ns.length → Wf c := fun c hc => okC_wf26 ((plK_ok ns 12 ns.length).1.1 c hc) ((plK_ok ns 12 ns.length).2.1 c hc)
  have HFK : ∀ (cs : List Ct) (now un : Int), planChk cs = (0, 0) → 0 ≤ now → now < un → un ≤ 1000 → Hid (fck (mCf ns) 500 (mSt ns) (mXs ns 4) cs now un = 0) := fun cs now un h1 h2 h3 h4 => mfck hsb h1 h2 h3 h4
  have hin : Inp 500 (mSt ns) (mXs ns 4) := mInp hsb
  have hxsum : 0 ≤ (mXs ns 4).sum ∧ (mXs ns 4).sum ≤ 276 := mXs_sum ns
  have hxl : (mXs ns 4).length = 16 := mXs_len ns 4
  have hxn : Nn (mXs ns 4) := mXs_nn ns
  obtain ⟨c, hc⟩ : ∃ c, mCf ns = c := ⟨_, rfl⟩
  obtain ⟨st, hst⟩ : ∃ st, mSt ns = st := ⟨_, rfl⟩
  obtain ⟨xs, hxs⟩ : ∃ xs, mXs ns 4 = xs := ⟨_, rfl⟩
  obtain ⟨cs, hcs⟩ : ∃ cs, plK ns 12 ns.length = cs := ⟨_, rfl⟩
  rw [hcs] at hP hpk hpw ⊢
  rw [hc] at hcb HFK ⊢
  rw [hst] at hsb HFK hin ⊢
  rw [hxs] at hXS HFK hin hxsum hxl hxn
  clear hc hst hxs hcs
  obtain ⟨PN, hPN⟩ : ∃ n, cs.length = n := ⟨_, rfl⟩
  rw [hPN] at hP ⊢
  have HPN := Lib.hid hPN
  have HXS := Lib.hid hXS
  have HP := Lib.hid hP
  have HPK := Lib.hid hpk
  have HPW := Lib.hid hpw
  have HFK := Lib.hid HFK
  have HXL := Lib.hid hxl
  have HXNN := Lib.hid hxn
  clear hXS hP hpk hpw hPN hxl hxn
  go_wp2_with fail
  obtain ⟨W1, hW1⟩ : ∃ W : World, W = (w1.alloc (.cells #[.int .i64 c.nd, .int .u64 c.qo, .int .u64 c.la, .int .u64 c.wd, .int .u64 c.lo, .int .i64 c.re, .int .i64 c.rm, .int .i64 c.by', .int .i64 c.w0, .int .i64 c.w1, .int .i64 c.w2, .int .i64 c.rn, .int .i64 c.rd, .int .i64 c.bu, .int .i64 c.bl, .int .i64 c.ra] 35)).alloc (.cells #[.int .u64 500, .int .u64 st, .slice (some ra) 16 rc] 38) := ⟨_, rfl⟩
  have b0 : BoxN W1 w1.heap.size 35 #[.int .i64 c.nd, .int .u64 c.qo, .int .u64 c.la, .int .u64 c.wd, .int .u64 c.lo, .int .i64 c.re, .int .i64 c.rm, .int .i64 c.by', .int .i64 c.w0, .int .i64 c.w1, .int .i64 c.w2, .int .i64 c.rn, .int .i64 c.rd, .int .i64 c.bu, .int .i64 c.bl, .int .i64 c.ra] := by rw [hW1]; exact heap_al _ (heap_last w1 _)
  have b1 : BoxN W1 (w1.heap.size + 1) 38 #[.int .u64 500, .int .u64 st, .slice (some ra) 16 rc] := by
    have := BoxN.new (w1.alloc (.cells #[.int .i64 c.nd, .int .u64 c.qo, .int .u64 c.la, .int .u64 c.wd, .int .u64 c.lo, .int .i64 c.re, .int .i64 c.rm, .int .i64 c.by', .int .i64 c.w0, .int .i64 c.w1, .int .i64 c.w2, .int .i64 c.rn, .int .i64 c.rd, .int .i64 c.bu, .int .i64 c.bl, .int .i64 c.ra] 35)) 38 #[.int .u64 500, .int .u64 st, .slice (some ra) 16 rc]
    rw [World.size_alloc] at this
    rw [hW1]; exact this
  have hBw : Below w1.heap.size w1 W1 := by rw [hW1]; exact (by repeat (first | assumption | exact Below.refl _ _ | apply Below.al | apply below_drewN | apply Below.drew | refine Below.next ?_ (by assumption)))
  have HXS := Lib.hid (HXS.out.keep hBw)
  have HP := Lib.hid (HP.out.keep hBw)
  have hB := Below.next hB hBw
  rw [← hW1]
  clear hW1 hBw
  obtain ⟨Cx, hCx⟩ : ∃ C, C = w1.heap.size := ⟨_, rfl⟩
  rw [← hCx] at b0 b1 ⊢
  clear hCx
  obtain ⟨wn, rfl⟩ : ∃ wn, wn = W1 := ⟨_, rfl⟩
  refine (mod_any x 60 (by omega) (by omega) hx _).mono ?_
  rw [HX.out]
  rintro e w2 ⟨rfl, rfl⟩
  have hwa : IntKind.i64.wrap (1 + xm) = 1 + xm := IntWalk.i64_in _ (by omega)
  go_upto_region 3 with fail
  obtain ⟨A, hA⟩ : ∃ A, A = 1 + xm := ⟨_, rfl⟩
  rw [← hA]
  have pA : 1 ≤ A ∧ A ≤ 60 := by omega
  clear hA hwa p0 q0
  have hf := (HFK.out cs 0 A HPK.out.1 (by omega) (by omega) (by omega)).out
  have hS := lvO_stl (c := c) (cs := cs) (st := st) (xs := xs) (un := A) HPK.out.1 (by omega) (by omega) (by omega) (rb_of HXL.out HXNN.out (by omega)) (by omega) (by omega)
  obtain ⟨L, hL⟩ : ∃ L, lvO c cs st xs 0 (A - 0).toNat = L := ⟨_, rfl⟩
  have HL : Hid (lvV c 500 st xs cs 0 A = L) := by
    unfold Hid lvV
    rw [if_neg (by rw [hf]; simp), hL]
  rw [hL] at hS
  have HF := Lib.hid hf
  have HSL := Lib.hid hS
  have HOK : Hid (∀ k, k < cs.length → okC (cs.getD k c0)) := fun k hk => okC_of HPK.out.1 hk
  have hpn : PN ≤ 12 := by rw [← HPN.out]; exact HPK.out.2
  have hIbA : Ib A := by unfold Ib; omega
  clear hf hL hS
  have a0 : wn.cell? ⟨Cx, 0, none⟩ = some (.int .i64 c.nd) := b0.cell 0
  have a1 : wn.cell? ⟨Cx, 1, none⟩ = some (.int .u64 c.qo) := b0.cell 1
  have a2 : wn.cell? ⟨Cx, 2, none⟩ = some (.int .u64 c.la) := b0.cell 2
  have a3 : wn.cell? ⟨Cx, 3, none⟩ = some (.int .u64 c.wd) := b0.cell 3
  have a4 : wn.cell? ⟨Cx, 4, none⟩ = some (.int .u64 c.lo) := b0.cell 4
  have a5 : wn.cell? ⟨Cx, 5, none⟩ = some (.int .i64 c.re) := b0.cell 5
  have a6 : wn.cell? ⟨Cx, 6, none⟩ = some (.int .i64 c.rm) := b0.cell 6
  have a7 : wn.cell? ⟨Cx, 7, none⟩ = some (.int .i64 c.by') := b0.cell 7
  have a8 : wn.cell? ⟨Cx, 8, none⟩ = some (.int .i64 c.w0) := b0.cell 8
  have a9 : wn.cell? ⟨Cx, 9, none⟩ = some (.int .i64 c.w1) := b0.cell 9
  have a10 : wn.cell? ⟨Cx, 10, none⟩ = some (.int .i64 c.w2) := b0.cell 10
  have a11 : wn.cell? ⟨Cx, 11, none⟩ = some (.int .i64 c.rn) := b0.cell 11
  have a12 : wn.cell? ⟨Cx, 12, none⟩ = some (.int .i64 c.rd) := b0.cell 12
  have a13 : wn.cell? ⟨Cx, 13, none⟩ = some (.int .i64 c.bu) := b0.cell 13
  have a14 : wn.cell? ⟨Cx, 14, none⟩ = some (.int .i64 c.bl) := b0.cell 14
  have a15 : wn.cell? ⟨Cx, 15, none⟩ = some (.int .i64 c.ra) := b0.cell 15
  have e0 : wn.cell? ⟨Cx + 1, 0, none⟩ = some (.int .u64 500) := b1.cell 0
  have e1 : wn.cell? ⟨Cx + 1, 1, none⟩ = some (.int .u64 st) := b1.cell 1
  have e2 : wn.cell? ⟨Cx + 1, 2, none⟩ = some (.slice (some ra) 16 rc) := b1.cell 2
  have HB0 := Lib.hid b0
  have HB1 := Lib.hid b1
  clear b0 b1
  go_wp2_with fail
  clear a0 a1 a2 a3 a4 a5 a6 a7 a8 a9 a10 a11 a12 a13 a14 a15 e0 e1 e2
  have b0 := HB0.out
  have b1 := HB1.out
  clear HB0 HB1
  refine (levels_any c 500 st _ xs cs _ 0 A hin HPW.out (by unfold Ib; omega) hIbA _ HXS.out HP.out).mono ?_
  rw [HL.out, HF.out]
  rintro e w2 ⟨lv, rfl, hL, _, hb⟩
  obtain ⟨la, lc, rfl⟩ := hL.form
  obtain ⟨LN, hLN⟩ : ∃ n, L.length = n := ⟨_, rfl⟩
  rw [hLN] at hL ⊢
  have HLN := Lib.hid hLN
  have HLV := Lib.hid hL
  clear hL hLN
  have b0 := b0.below hb
  have b1 := b1.below hb
  have HXS := Lib.hid (HXS.out.keep hb)
  have HP := Lib.hid (HP.out.keep hb)
  have hB := Below.next hB hb
  obtain ⟨wn, rfl⟩ : ∃ wn, wn = w2 := ⟨_, rfl⟩
  clear hb
  have hln0 : 0 < LN := by rw [← HLN.out]; exact HSL.out.pos
  have hln1 : LN ≤ 1000 := by rw [← HLN.out]; exact HSL.out.len
  obtain ⟨lb, lo, rfl, hlc, hl0⟩ := RdL.at HLV.out HLN.out 0 hln0
  have hl00 := hl0.1
  rw [HSL.out.fst, Nat.zero_mul, Nat.add_zero] at hl00
  have n0 : ((LN : Int) == 0) = false := by simp; omega
  have n0' : (LN == 0) = false := by simp; omega
  have i0 : (0 : Int) < (LN : Int) := by omega
  have HB0 := Lib.hid b0
  have HB1 := Lib.hid b1
  clear b0 b1 hl0
  go_wp2_with fail
  have HRB := HOK.out
  go_loop [11, 12] (fun r i => ∃ k : Nat, k ≤ PN ∧ i = .int .i64 k ∧ r = .int .u64 (rateS cs k)) (fun _ i => PN - (intOf i).toNat)
  case atStart => exact ⟨0, Nat.zero_le _, rfl, rfl⟩
  case round =>
    obtain ⟨k, hk, rfl, rfl⟩ := hrel
    have hrb := rateS_bd HOK.out k (by rw [HPN.out]; exact hk)
    clear HRB
    by_cases hlt : k < PN
    · obtain ⟨b, off, rfl, hpc, hca⟩ := RdC.at HP.out HPN.out k hlt
      have hoc := (HOK.out k (by rw [HPN.out]; exact hlt)).2.2.2.2.2.2
      have HRS : Hid (rateS cs (k + 1) = rateS cs k + (cs.getD k c0).rt) := rfl
      obtain ⟨r, hr⟩ : ∃ r, rateS cs k = r := ⟨_, rfl⟩
      obtain ⟨z, hz⟩ : ∃ z, (cs.getD k c0).rt = z := ⟨_, rfl⟩
      have hc4 := hca.2.2.2.2.1
      rw [hz] at hc4 hoc HRS
      rw [hr] at hrb HRS ⊢
      have hz1 : 1 ≤ z ∧ z ≤ 1048576 := ⟨hoc.1, hoc.2.1⟩
      clear hr hz hca hoc
      have d1 : decide ((k : Int) < (PN : Int)) = true := yb (by omega)
      have hw1 : IntKind.u64.wrap z = z := IntWalk.u64_in _ (by omega)
      have hw2 : IntKind.u64.wrap (r + z) = r + z := IntWalk.u64_in _ (by omega)
      have hwk : IntKind.i64.wrap (k : Int) = (k : Int) := IntWalk.i64_in _ (by omega)
      have i1 : (0 : Int) ≤ (k : Int) := by omega
      have i2 : (k : Int) < (PN : Int) := by omega
      go_wp2_with fail
      go_round
      case rel => exact ⟨k + 1, by omega, by go_num, by rw [HRS.out]⟩
      case measure => simp [intOf]; omega
    · obtain rfl : k = PN := by omega
      have d1 : decide ((k : Int) < (k : Int)) = false := nb (by omega)
      obtain ⟨R, HRR⟩ : ∃ R, Hid (rateS cs k = R) := ⟨_, rfl⟩
      rw [HRR.out] at hrb ⊢
      have HSL2 : Hid (∀ i, 1 ≤ i → i < LN → follows c R A (L.getD (i - 1) lv0) (L.getD i lv0)) := fun i h1 h2 => by
        have := HSL.out.fol i h1 (by rw [HLN.out]; exact h2)
        rwa [HPN.out, HRR.out] at this
      have HBD : Hid (∀ i, i < LN → Lb (L.getD i lv0)) := fun i h => HSL.out.bd i (by rw [HLN.out]; exact h)
      clear n0 n0' i0 hl00
      go_wp2_with fail
      go_loopw [13] (fun i wr => ∃ j : Nat, j + 1 ≤ LN ∧ i = .int .i64 ((j : Int) + 1) ∧ Below wn.heap.size wn wr) (fun i _ => LN - (intOf i).toNat)
      case atStart => exact ⟨0, by omega, rfl, Below.refl _ _⟩
      case round =>
        obtain ⟨j, hj, rfl, hBr⟩ := hrel
        by_cases hlt : j + 1 < LN
        · obtain ⟨lb1, lo1, hq1, _, la1⟩ := RdL.at HLV.out HLN.out j (by omega)
          obtain ⟨lb2, lo2, hq2, _, la2⟩ := RdL.at HLV.out HLN.out (j + 1) hlt
          simp only [Option.some.injEq, Addr.mk.injEq, and_true] at hq1 hq2
          obtain ⟨rfl, rfl⟩ := hq1
          obtain ⟨rfl, rfl⟩ := hq2
          obtain ⟨x0, x1, x2⟩ := la1.keep hBr
          obtain ⟨y0, y1, y2⟩ := la2.keep hBr
          have a3 : wr.cell? ⟨Cx, 3, none⟩ = some (.int .u64 c.wd) := cell_later hBr (HB0.out.cell 3)
          have hfo := HSL2.out (j + 1) (by omega) hlt
          rw [show j + 1 - 1 = j by omega] at hfo
          have hb1 := HBD.out j (by omega)
          have hb2 := HBD.out (j + 1) hlt
          obtain ⟨xa, hxa⟩ : ∃ x, L.getD j lv0 = x := ⟨_, rfl⟩
          obtain ⟨ya, hya⟩ : ∃ x, L.getD (j + 1) lv0 = x := ⟨_, rfl⟩
          rw [hxa] at x0 x1 x2 hfo hb1
          rw [hya] at y0 y1 y2 hfo hb2
          clear hxa hya
          obtain ⟨f1, f2, f3, f4, f5⟩ := hfo
          unfold Lv.all at f4 f5
          obtain ⟨⟨p1, p2⟩, p3, p4⟩ := hb1
          obtain ⟨⟨q1, q2⟩, q3, q4⟩ := hb2
          have d1 : decide ((j : Int) + 1 < (LN : Int)) = true := yb (by omega)
          have t1 : decide (ya.tk ≤ xa.tk) = false := nb (by omega)
          have t2 : decide (A ≤ ya.tk) = false := nb (by omega)
          have t4 : decide (xa.st + xa.rv + c.wd * 16 < ya.st + ya.rv) = false := nb (by omega)
          have t5 : decide (ya.st + ya.rv + R < xa.st + xa.rv) = false := nb (by omega)
          have u1 : IntKind.u64.wrap (xa.st + xa.rv) = xa.st + xa.rv := IntWalk.u64_in _ (by omega)
          have u2 : IntKind.u64.wrap (ya.st + ya.rv) = ya.st + ya.rv := IntWalk.u64_in _ (by omega)
          have u3 : IntKind.u64.wrap (c.wd * 16) = c.wd * 16 := IntWalk.u64_in _ (by omega)
          have u4 : IntKind.u64.wrap (xa.st + xa.rv + c.wd * 16) = xa.st + xa.rv + c.wd * 16 := IntWalk.u64_in _ (by omega)
          have u5 : IntKind.u64.wrap (ya.st + ya.rv + R) = ya.st + ya.rv + R := IntWalk.u64_in _ (by omega)
          have hw1 : IntKind.i64.wrap ((j : Int) + 1 - 1) = (j : Int) := by rw [show (j : Int) + 1 - 1 = (j : Int) by omega]; exact IntWalk.i64_in _ (by omega)
          have hw2 : IntKind.i64.wrap ((j : Int) + 1) = (j : Int) + 1 := IntWalk.i64_in _ (by omega)
          have hw3 : IntKind.i64.wrap (j : Int) = (j : Int) := IntWalk.i64_in _ (by omega)
          have hw4 : IntKind.i64.wrap ((j : Int) + 1 + 1) = (j : Int) + 1 + 1 := IntWalk.i64_in _ (by omega)
          have j1 : (0 : Int) ≤ (j : Int) + 1 := by omega
          have j2 : (j : Int) + 1 < (LN : Int) := by omega
          have j3 : (0 : Int) ≤ (j : Int) := by omega
          have j4 : (j : Int) < (LN : Int) := by omega
          have j5 : ((j : Int) + 1).toNat = j + 1 := by omega
          by_cases hst : ya.st = xa.st
          · have t3 : (ya.st == xa.st) = true := by simp [hst]
            have t6 : (ya.rv == xa.rv) = false := by
              simp only [beq_eq_false_iff_ne]; exact fun h => f3 ⟨hst, h⟩
            clear hst f3
            go_wp2_with fail
            go_quiet (fail)
            go_wp2_with fail
            go_quiet (fail)
            go_wp2_with fail
            go_roundw
            case rel => exact ⟨j + 1, by omega, by go_num, (by first | exact below_drewN hBr _ | exact below_drewN (below_drewN hBr _) _)⟩
            case measure => simp [intOf]; omega
          · have t3 : (ya.st == xa.st) = false := by simpa using hst
            clear hst f3
            go_wp2_with fail
            go_quiet (fail)
            go_wp2_with fail
            go_quiet (fail)
            go_wp2_with fail
            go_roundw
            case rel => exact ⟨j + 1, by omega, by go_num, (by first | exact below_drewN hBr _ | exact below_drewN (below_drewN hBr _) _)⟩
            case measure => simp [intOf]; omega
        · obtain rfl : LN = j + 1 := by omega
          have d1 : decide ((j : Int) + 1 < ((j + 1 : Nat) : Int)) = false := nb (by omega)
          have hBf := Below.next hB hBr
          go_wp2_with fail
          refine (awake26_any _).mono ?_
          rintro e w2 ⟨rfl, hb⟩
          have hB2 := Below.next hBf hb
          clear hb hBf
          go_wp2_with fail
          go_ret
          exact ⟨rfl, hB2⟩
end Go.Proofs.Ytnbjdgjopdeolaa
