

/- ForecastGrows: the walk of the law. -/
import Derived.Test.YtnbjdgjopdeolaaSPO
import Derived.Test.YtnbjdgjopdeolaaPQ
namespace Go.Proofs.Ytnbjdgjopdeolaa
open Go.RowKit Go.Shelf
set_option linter.unusedSimpArgs false
set_option linter.unusedVariables false
set_option maxRecDepth 100000

/-- what ForecastGrows asks -/
theorem okC_wf26 {c : Ct} (h : okC c) (hs : smallC c) : Wf c := by
  obtain ⟨h1, h2, h3, h4, h5, h6, h7, h8, h9, h10⟩ := h
  obtain ⟨s1, s2⟩ := hs
  unfold Wf
  refine ⟨?_, ?_, ?_, ?_, ?_, ?_⟩ <;> exact WalkArith.wf_i64 (by omega)
/-- what ForecastGrows asks -/
theorem grows {c : Cf} {q st : Int} {xs : List Int} {cs : List Ct} {lo hi : Int} (h1 : fck c q st xs cs 0 lo = 0) (h2 : fck c q st xs cs 0 hi = 0) (hl : 1 ≤ lo) (hh : lo ≤ hi) :
    (pkV c q st xs cs 0 lo).all ≤ (pkV c q st xs cs 0 hi).all ∧ rmV c q st xs cs 0 hi ≤ rmV c q st xs cs 0 lo := by
  have e1 : pkV c q st xs cs 0 lo = pk (lvO c cs st xs 0 (lo - 0).toNat) := by
    unfold pkV lvV
    rw [if_neg (by rw [h1]; simp), if_neg (by rw [h1]; simp)]
  have e2 : pkV c q st xs cs 0 hi = pk (lvO c cs st xs 0 (hi - 0).toNat) := by
    unfold pkV lvV
    rw [if_neg (by rw [h2]; simp), if_neg (by rw [h2]; simp)]
  have hm := pk_longer c cs st xs 0 (M := (lo - 0).toNat) (M' := (hi - 0).toNat) (by omega) (by omega)
  rw [← e1, ← e2] at hm
  refine ⟨hm, ?_⟩
  unfold rmV
  rw [if_neg (by rw [h2]; simp), if_neg (by rw [h1]; simp)]
  unfold Lv.all at hm
  omega
theorem grows2 {c : Cf} {q st st' : Int} {xs : List Int} {cs : List Ct} {hi : Int} (h1 : fck c q st' xs cs 0 hi = 0) (h2 : fck c q st xs cs 0 hi = 0) (hl : 1 ≤ hi) (hs : st' ≤ st) :
    (pkV c q st' xs cs 0 hi).all ≤ (pkV c q st xs cs 0 hi).all := by
  have e1 : pkV c q st' xs cs 0 hi = pk (lvO c cs st' xs 0 (hi - 0).toNat) := by
    unfold pkV lvV
    rw [if_neg (by rw [h1]; simp), if_neg (by rw [h1]; simp)]
  have e2 : pkV c q st xs cs 0 hi = pk (lvO c cs st xs 0 (hi - 0).toNat) := by
    unfold pkV lvV
    rw [if_neg (by rw [h2]; simp), if_neg (by rw [h2]; simp)]
  rw [e1, e2]
  exact pk_less c cs xs 0 (by omega) hs
theorem fck_less {c : Cf} {q st st' : Int} {xs : List Int} {cs : List Ct} {now un : Int} (i : Inp q st xs) (h : fck c q st xs cs now un = 0) (h0 : 0 ≤ st') (hs : st' ≤ st) : fck c q st' xs cs now un = 0 := by
  obtain ⟨hc1, hc2, hpl, hn1, hn2, hn3, hn4⟩ := fck_zero h
  have g := Good.of i hc2
  have h2 := g.gle
  have h3 := g.gq
  have h4 := g.gst
  have hc : chk q st' xs = 0 := Good.chk ⟨g.gq, h0, g.gn, g.gxs, by omega⟩
  unfold fck
  rw [if_neg (by omega), hc, if_neg (by simp), hpl, if_neg (by simp), if_neg (by omega), if_neg (by omega), if_neg (by omega)]
set_option maxHeartbeats 4000000 in
theorem lawGrows (v : Value) (ns : List Int) (x y : Int) (hb : ∀ x ∈ ns, Ib x) (hx : Ib x) (hy : Ib y) (w : World) (h : RdI .i64 w v ns) :
    Calls Try.prog 15 #[v, .int .i64 x, .int .i64 y] w fun e w' => e = .returned (.bool true) ∧ Below w.heap.size w w' := by
  have HB := Lib.hid hb
  have HR := Lib.hid h
  clear hb h
  obtain ⟨xm, HX, p0, q0⟩ : ∃ z, Hid (x % 60 = z) ∧ 0 ≤ z ∧ z < 60 := ⟨_, rfl, Int.emod_nonneg _ (by omega), Int.emod_lt_of_pos _ (by omega)⟩
  obtain ⟨ym, HY, p1, q1⟩ : ∃ z, Hid (y % 60 = z) ∧ 0 ≤ z ∧ z < 60 := ⟨_, rfl, Int.emod_nonneg _ (by omega), Int.emod_lt_of_pos _ (by omega)⟩
  go_enter Try.func15, Try.ntmps15
  go_wp2_with fail
  refine (made26_any _ ns HB.out _ HR.out).mono ?_
  rintro e w1 ⟨ra, rc, pv, rfl, hXS, hP, hB⟩
  obtain ⟨pa, pc, rfl⟩ := hP.form
  have hcb := mCf_bd ns
  have hsb := mSt_bd ns
  have hpk := planK_ok ns
  have hpw : ∀ c, c ∈ plK ns 12 ns.length → Wf c := fun c hc => okC_wf26 ((plK_ok ns 12 ns.length).1.1 c hc) ((plK_ok ns 12 ns.length).2.1 c hc)
  have HFK : ∀ (cs : List Ct) (now un : Int), planChk cs = (0, 0) → 0 ≤ now → now < un → un ≤ 1000 → Hid (fck (mCf ns) 500 (mSt ns) (mXs ns 4) cs now un = 0) := fun cs now un h1 h2 h3 h4 => mfck hsb h1 h2 h3 h4
  have hin : Inp 500 (mSt ns) (mXs ns 4) := mInp hsb
  have hxsum : 0 ≤ (mXs ns 4).sum ∧ (mXs ns 4).sum ≤ 276 := mXs_sum ns
  have hxl : (mXs ns 4).length = 16 := mXs_len ns 4
  have hxn : Nn (mXs ns 4) := mXs_nn ns
  obtain ⟨c, hc⟩ : ∃ c, mCf ns = c := ⟨_, rfl⟩
  obtain ⟨st, hst⟩ : ∃ st, mSt ns = st := ⟨_, rfl⟩
  obtain ⟨xs, hxs⟩ : ∃ xs, mXs ns 4 = xs := ⟨_, rfl⟩
  obtain ⟨cs, hcs⟩ : ∃ cs, plK ns 12 ns.length = cs := ⟨_, rfl⟩
  rw [hcs] at hP hpk hpw ⊢
  rw [hc] at hcb HFK ⊢
  rw [hst] at hsb HFK hin ⊢
  rw [hxs] at hXS HFK hin hxsum hxl hxn
  clear hc hst hxs hcs
  obtain ⟨PN, hPN⟩ : ∃ n, cs.length = n := ⟨_, rfl⟩
  rw [hPN] at hP ⊢
  have HPN := Lib.hid hPN
  have HXS := Lib.hid hXS
  have HP := Lib.hid hP
  have HPK := Lib.hid hpk
  have HPW := Lib.hid hpw
  have HFK := Lib.hid HFK
  have HXL := Lib.hid hxl
  have HXNN := Lib.hid hxn
  clear hXS hP hpk hpw hPN hxl hxn
  go_wp2_with fail
  obtain ⟨W1, hW1⟩ : ∃ W : World, W = (w1.alloc (.cells #[.int .i64 c.nd, .int .u64 c.qo, .int .u64 c.la, .int .u64 c.wd, .int .u64 c.lo, .int .i64 c.re, .int .i64 c.rm, .int .i64 c.by', .int .i64 c.w0, .int .i64 c.w1, .int .i64 c.w2, .int .i64 c.rn, .int .i64 c.rd, .int .i64 c.bu, .int .i64 c.bl, .int .i64 c.ra] 35)).alloc (.cells #[.int .u64 500, .int .u64 st, .slice (some ra) 16 rc] 38) := ⟨_, rfl⟩
  have b0 : BoxN W1 w1.heap.size 35 #[.int .i64 c.nd, .int .u64 c.qo, .int .u64 c.la, .int .u64 c.wd, .int .u64 c.lo, .int .i64 c.re, .int .i64 c.rm, .int .i64 c.by', .int .i64 c.w0, .int .i64 c.w1, .int .i64 c.w2, .int .i64 c.rn, .int .i64 c.rd, .int .i64 c.bu, .int .i64 c.bl, .int .i64 c.ra] := by rw [hW1]; exact heap_al _ (heap_last w1 _)
  have b1 : BoxN W1 (w1.heap.size + 1) 38 #[.int .u64 500, .int .u64 st, .slice (some ra) 16 rc] := by
    have := BoxN.new (w1.alloc (.cells #[.int .i64 c.nd, .int .u64 c.qo, .int .u64 c.la, .int .u64 c.wd, .int .u64 c.lo, .int .i64 c.re, .int .i64 c.rm, .int .i64 c.by', .int .i64 c.w0, .int .i64 c.w1, .int .i64 c.w2, .int .i64 c.rn, .int .i64 c.rd, .int .i64 c.bu, .int .i64 c.bl, .int .i64 c.ra] 35)) 38 #[.int .u64 500, .int .u64 st, .slice (some ra) 16 rc]
    rw [World.size_alloc] at this
    rw [hW1]; exact this
  have hBw : Below w1.heap.size w1 W1 := by rw [hW1]; exact (by repeat (first | assumption | exact Below.refl _ _ | apply Below.al | apply below_drewN | apply Below.drew | refine Below.next ?_ (by assumption)))
  have HXS := Lib.hid (HXS.out.keep hBw)
  have HP := Lib.hid (HP.out.keep hBw)
  have hB := Below.next hB hBw
  rw [← hW1]
  clear hW1 hBw
  obtain ⟨Cx, hCx⟩ : ∃ C, C = w1.heap.size := ⟨_, rfl⟩
  rw [← hCx] at b0 b1 ⊢
  clear hCx
  obtain ⟨wn, rfl⟩ : ∃ wn, wn = W1 := ⟨_, rfl⟩
  refine (mod_any x 60 (by omega) (by omega) hx _).mono ?_
  rw [HX.out]
  rintro e w2 ⟨rfl, rfl⟩
  go_wp2_with fail
  refine (mod_any y 60 (by omega) (by omega) hy _).mono ?_
  rw [HY.out]
  rintro e w2 ⟨rfl, rfl⟩
  have hwa : IntKind.i64.wrap (1 + xm) = 1 + xm := IntWalk.i64_in _ (by omega)
  have hwb : IntKind.i64.wrap (1 + ym) = 1 + ym := IntWalk.i64_in _ (by omega)
  go_upto_region 3 with fail
  obtain ⟨A, hA⟩ : ∃ A, A = 1 + xm := ⟨_, rfl⟩
  obtain ⟨B, hB'⟩ : ∃ B, B = 1 + ym := ⟨_, rfl⟩
  rw [← hA, ← hB']
  have pA : 1 ≤ A ∧ A ≤ 60 := by omega
  have pB : 1 ≤ B ∧ B ≤ 60 := by omega
  clear hA hB' hwa hwb p0 q0 p1 q1
  go_upto_region 4 with fail
  obtain ⟨lo, hlo⟩ : ∃ l, l = (if B < A then B else A) := ⟨_, rfl⟩
  obtain ⟨hi, hhi⟩ : ∃ l, l = (if A < B then B else A) := ⟨_, rfl⟩
  rw [← hlo, ← hhi]
  have pl : 1 ≤ lo ∧ lo ≤ hi ∧ hi ≤ 60 := by
    rw [hlo, hhi]
    split <;> split <;> omega
  clear hlo hhi pA pB
  have hf1 := (HFK.out cs 0 lo HPK.out.1 (by omega) (by omega) (by omega)).out
  have hf2 := (HFK.out cs 0 hi HPK.out.1 (by omega) (by omega) (by omega)).out
  have hst2 : 0 ≤ st / 2 ∧ st / 2 ≤ st := by omega
  have hf3 := fck_less hin hf2 hst2.1 hst2.2
  obtain ⟨hg1, hg2⟩ := grows hf1 hf2 (by omega) (by omega)
  have hg3 := grows2 hf3 hf2 (by omega) hst2.2
  have hl1 := pkV_bd (c := c) (cs := cs) (now := 0) (un := lo) hin
  have hl2 := pkV_bd (c := c) (cs := cs) (now := 0) (un := hi) hin
  have hin2 : Inp 500 (st / 2) xs := ⟨hin.1, by have := hin.2; omega, hin.3⟩
  have hl3 := pkV_bd (c := c) (cs := cs) (now := 0) (un := hi) hin2
  obtain ⟨p, HP1⟩ : ∃ p, Hid (pkV c 500 st xs cs 0 lo = p) := ⟨_, rfl⟩
  obtain ⟨r, HP2⟩ : ∃ p, Hid (pkV c 500 st xs cs 0 hi = p) := ⟨_, rfl⟩
  obtain ⟨s, HP3⟩ : ∃ p, Hid (pkV c 500 (st / 2) xs cs 0 hi = p) := ⟨_, rfl⟩
  obtain ⟨n, HR1⟩ : ∃ p, Hid (rmV c 500 st xs cs 0 lo = p) := ⟨_, rfl⟩
  obtain ⟨m, HR2⟩ : ∃ p, Hid (rmV c 500 st xs cs 0 hi = p) := ⟨_, rfl⟩
  rw [HP1.out, HP2.out] at hg1
  rw [HR1.out, HR2.out] at hg2
  rw [HP3.out, HP2.out] at hg3
  rw [HP1.out] at hl1
  rw [HP2.out] at hl2
  rw [HP3.out] at hl3
  have HF1 := Lib.hid hf1
  have HF2 := Lib.hid hf2
  have HF3 := Lib.hid hf3
  have hIl : Ib lo := by unfold Ib; omega
  have hIh : Ib hi := by unfold Ib; omega
  have hI0 : Ib 0 := by unfold Ib; omega
  have HG : Hid ((p.st + p.rv ≤ r.st + r.rv ∧ m ≤ n ∧ s.st + s.rv ≤ r.st + r.rv) ∧ Lb p ∧ Lb r ∧ Lb s) := ⟨⟨hg1, hg2, hg3⟩, hl1, hl2, hl3⟩
  clear hf1 hf2 hf3 hg1 hg2 hg3 hl1 hl2 hl3 pl
  as_aux_lemma =>
    have a0 : wn.cell? ⟨Cx, 0, none⟩ = some (.int .i64 c.nd) := b0.cell 0
    have a1 : wn.cell? ⟨Cx, 1, none⟩ = some (.int .u64 c.qo) := b0.cell 1
    have a2 : wn.cell? ⟨Cx, 2, none⟩ = some (.int .u64 c.la) := b0.cell 2
    have a3 : wn.cell? ⟨Cx, 3, none⟩ = some (.int .u64 c.wd) := b0.cell 3
    have a4 : wn.cell? ⟨Cx, 4, none⟩ = some (.int .u64 c.lo) := b0.cell 4
    have a5 : wn.cell? ⟨Cx, 5, none⟩ = some (.int .i64 c.re) := b0.cell 5
    have a6 : wn.cell? ⟨Cx, 6, none⟩ = some (.int .i64 c.rm) := b0.cell 6
    have a7 : wn.cell? ⟨Cx, 7, none⟩ = some (.int .i64 c.by') := b0.cell 7
    have a8 : wn.cell? ⟨Cx, 8, none⟩ = some (.int .i64 c.w0) := b0.cell 8
    have a9 : wn.cell? ⟨Cx, 9, none⟩ = some (.int .i64 c.w1) := b0.cell 9
    have a10 : wn.cell? ⟨Cx, 10, none⟩ = some (.int .i64 c.w2) := b0.cell 10
    have a11 : wn.cell? ⟨Cx, 11, none⟩ = some (.int .i64 c.rn) := b0.cell 11
    have a12 : wn.cell? ⟨Cx, 12, none⟩ = some (.int .i64 c.rd) := b0.cell 12
    have a13 : wn.cell? ⟨Cx, 13, none⟩ = some (.int .i64 c.bu) := b0.cell 13
    have a14 : wn.cell? ⟨Cx, 14, none⟩ = some (.int .i64 c.bl) := b0.cell 14
    have a15 : wn.cell? ⟨Cx, 15, none⟩ = some (.int .i64 c.ra) := b0.cell 15
    have e0 : wn.cell? ⟨Cx + 1, 0, none⟩ = some (.int .u64 500) := b1.cell 0
    have e1 : wn.cell? ⟨Cx + 1, 1, none⟩ = some (.int .u64 st) := b1.cell 1
    have e2 : wn.cell? ⟨Cx + 1, 2, none⟩ = some (.slice (some ra) 16 rc) := b1.cell 2
    have HB0 := Lib.hid b0
    have HB1 := Lib.hid b1
    clear b0 b1
    go_wp2_with fail
    clear a0 a1 a2 a3 a4 a5 a6 a7 a8 a9 a10 a11 a12 a13 a14 a15 e0 e1 e2
    have b0 := HB0.out
    have b1 := HB1.out
    clear HB0 HB1
    refine (peak_any c 500 st _ xs cs _ 0 lo hin HPW.out hI0 hIl _ HXS.out HP.out).mono ?_
    rw [HP1.out, HF1.out]
    rintro e w2 ⟨rfl, hb⟩
    obtain ⟨W2, hW2⟩ : ∃ W : World, W = w2.alloc (.cells #[.int .i64 p.tk, .int .u64 p.st, .int .u64 p.rv] 57) := ⟨_, rfl⟩
    have hbx : BoxN W2 w2.heap.size 57 #[.int .i64 p.tk, .int .u64 p.st, .int .u64 p.rv] := by rw [hW2]; exact BoxN.new w2 _ _
    have hb : Below wn.heap.size wn W2 := by rw [hW2]; exact Below.al hb _
    obtain ⟨X1, hX⟩ : ∃ X, X = w2.heap.size := ⟨_, rfl⟩
    rw [← hX] at hbx
    go_upto_region 5 with fail
    rw [← hW2, ← hX]
    clear hX hW2
    skip
    have HX1 := Lib.hid hbx
    clear hbx
    have b0 := b0.below hb
    have b1 := b1.below hb
    have HXS := Lib.hid (HXS.out.keep hb)
    have HP := Lib.hid (HP.out.keep hb)
    have hB := Below.next hB hb
    obtain ⟨wn, rfl⟩ : ∃ wn, wn = W2 := ⟨_, rfl⟩
    clear hb
    have a0 : wn.cell? ⟨Cx, 0, none⟩ = some (.int .i64 c.nd) := b0.cell 0
    have a1 : wn.cell? ⟨Cx, 1, none⟩ = some (.int .u64 c.qo) := b0.cell 1
    have a2 : wn.cell? ⟨Cx, 2, none⟩ = some (.int .u64 c.la) := b0.cell 2
    have a3 : wn.cell? ⟨Cx, 3, none⟩ = some (.int .u64 c.wd) := b0.cell 3
    have a4 : wn.cell? ⟨Cx, 4, none⟩ = some (.int .u64 c.lo) := b0.cell 4
    have a5 : wn.cell? ⟨Cx, 5, none⟩ = some (.int .i64 c.re) := b0.cell 5
    have a6 : wn.cell? ⟨Cx, 6, none⟩ = some (.int .i64 c.rm) := b0.cell 6
    have a7 : wn.cell? ⟨Cx, 7, none⟩ = some (.int .i64 c.by') := b0.cell 7
    have a8 : wn.cell? ⟨Cx, 8, none⟩ = some (.int .i64 c.w0) := b0.cell 8
    have a9 : wn.cell? ⟨Cx, 9, none⟩ = some (.int .i64 c.w1) := b0.cell 9
    have a10 : wn.cell? ⟨Cx, 10, none⟩ = some (.int .i64 c.w2) := b0.cell 10
    have a11 : wn.cell? ⟨Cx, 11, none⟩ = some (.int .i64 c.rn) := b0.cell 11
    have a12 : wn.cell? ⟨Cx, 12, none⟩ = some (.int .i64 c.rd) := b0.cell 12
    have a13 : wn.cell? ⟨Cx, 13, none⟩ = some (.int .i64 c.bu) := b0.cell 13
    have a14 : wn.cell? ⟨Cx, 14, none⟩ = some (.int .i64 c.bl) := b0.cell 14
    have a15 : wn.cell? ⟨Cx, 15, none⟩ = some (.int .i64 c.ra) := b0.cell 15
    have e0 : wn.cell? ⟨Cx + 1, 0, none⟩ = some (.int .u64 500) := b1.cell 0
    have e1 : wn.cell? ⟨Cx + 1, 1, none⟩ = some (.int .u64 st) := b1.cell 1
    have e2 : wn.cell? ⟨Cx + 1, 2, none⟩ = some (.slice (some ra) 16 rc) := b1.cell 2
    have HB0 := Lib.hid b0
    have HB1 := Lib.hid b1
    clear b0 b1
    go_wp2_with fail
    clear a0 a1 a2 a3 a4 a5 a6 a7 a8 a9 a10 a11 a12 a13 a14 a15 e0 e1 e2
    have b0 := HB0.out
    have b1 := HB1.out
    clear HB0 HB1
    refine (peak_any c 500 st _ xs cs _ 0 hi hin HPW.out hI0 hIh _ HXS.out HP.out).mono ?_
    rw [HP2.out, HF2.out]
    rintro e w2 ⟨rfl, hb⟩
    obtain ⟨W2, hW2⟩ : ∃ W : World, W = w2.alloc (.cells #[.int .i64 r.tk, .int .u64 r.st, .int .u64 r.rv] 57) := ⟨_, rfl⟩
    have hbx : BoxN W2 w2.heap.size 57 #[.int .i64 r.tk, .int .u64 r.st, .int .u64 r.rv] := by rw [hW2]; exact BoxN.new w2 _ _
    have hb : Below wn.heap.size wn W2 := by rw [hW2]; exact Below.al hb _
    obtain ⟨X2, hX⟩ : ∃ X, X = w2.heap.size := ⟨_, rfl⟩
    rw [← hX] at hbx
    go_upto_region 6 with fail
    rw [← hW2, ← hX]
    clear hX hW2
    have HX1 := Lib.hid (HX1.out.below hb)
    have HX2 := Lib.hid hbx
    clear hbx
    have b0 := b0.below hb
    have b1 := b1.below hb
    have HXS := Lib.hid (HXS.out.keep hb)
    have HP := Lib.hid (HP.out.keep hb)
    have hB := Below.next hB hb
    obtain ⟨wn, rfl⟩ : ∃ wn, wn = W2 := ⟨_, rfl⟩
    clear hb
    as_aux_lemma =>
      have a0 : wn.cell? ⟨Cx, 0, none⟩ = some (.int .i64 c.nd) := b0.cell 0
      have a1 : wn.cell? ⟨Cx, 1, none⟩ = some (.int .u64 c.qo) := b0.cell 1
      have a2 : wn.cell? ⟨Cx, 2, none⟩ = some (.int .u64 c.la) := b0.cell 2
      have a3 : wn.cell? ⟨Cx, 3, none⟩ = some (.int .u64 c.wd) := b0.cell 3
      have a4 : wn.cell? ⟨Cx, 4, none⟩ = some (.int .u64 c.lo) := b0.cell 4
      have a5 : wn.cell? ⟨Cx, 5, none⟩ = some (.int .i64 c.re) := b0.cell 5
      have a6 : wn.cell? ⟨Cx, 6, none⟩ = some (.int .i64 c.rm) := b0.cell 6
      have a7 : wn.cell? ⟨Cx, 7, none⟩ = some (.int .i64 c.by') := b0.cell 7
      have a8 : wn.cell? ⟨Cx, 8, none⟩ = some (.int .i64 c.w0) := b0.cell 8
      have a9 : wn.cell? ⟨Cx, 9, none⟩ = some (.int .i64 c.w1) := b0.cell 9
      have a10 : wn.cell? ⟨Cx, 10, none⟩ = some (.int .i64 c.w2) := b0.cell 10
      have a11 : wn.cell? ⟨Cx, 11, none⟩ = some (.int .i64 c.rn) := b0.cell 11
      have a12 : wn.cell? ⟨Cx, 12, none⟩ = some (.int .i64 c.rd) := b0.cell 12
      have a13 : wn.cell? ⟨Cx, 13, none⟩ = some (.int .i64 c.bu) := b0.cell 13
      have a14 : wn.cell? ⟨Cx, 14, none⟩ = some (.int .i64 c.bl) := b0.cell 14
      have a15 : wn.cell? ⟨Cx, 15, none⟩ = some (.int .i64 c.ra) := b0.cell 15
      have e0 : wn.cell? ⟨Cx + 1, 0, none⟩ = some (.int .u64 500) := b1.cell 0
      have e1 : wn.cell? ⟨Cx + 1, 1, none⟩ = some (.int .u64 st) := b1.cell 1
      have e2 : wn.cell? ⟨Cx + 1, 2, none⟩ = some (.slice (some ra) 16 rc) := b1.cell 2
      have HB0 := Lib.hid b0
      have HB1 := Lib.hid b1
      clear b0 b1
      go_wp2_with fail
      clear a0 a1 a2 a3 a4 a5 a6 a7 a8 a9 a10 a11 a12 a13 a14 a15 e0 e1 e2
      have b0 := HB0.out
      have b1 := HB1.out
      clear HB0 HB1
      refine (room_any c 500 st _ xs cs _ 0 lo hin HPW.out hI0 hIl _ HXS.out HP.out).mono ?_
      rw [HR1.out, HF1.out]
      rintro e w2 ⟨rfl, hb⟩
      have HX1 := Lib.hid (HX1.out.below hb)
      have HX2 := Lib.hid (HX2.out.below hb)
      have b0 := b0.below hb
      have b1 := b1.below hb
      have HXS := Lib.hid (HXS.out.keep hb)
      have HP := Lib.hid (HP.out.keep hb)
      have hB := Below.next hB hb
      skip
      obtain ⟨wn, rfl⟩ : ∃ wn, wn = w2 := ⟨_, rfl⟩
      clear hb
      have a0 : wn.cell? ⟨Cx, 0, none⟩ = some (.int .i64 c.nd) := b0.cell 0
      have a1 : wn.cell? ⟨Cx, 1, none⟩ = some (.int .u64 c.qo) := b0.cell 1
      have a2 : wn.cell? ⟨Cx, 2, none⟩ = some (.int .u64 c.la) := b0.cell 2
      have a3 : wn.cell? ⟨Cx, 3, none⟩ = some (.int .u64 c.wd) := b0.cell 3
      have a4 : wn.cell? ⟨Cx, 4, none⟩ = some (.int .u64 c.lo) := b0.cell 4
      have a5 : wn.cell? ⟨Cx, 5, none⟩ = some (.int .i64 c.re) := b0.cell 5
      have a6 : wn.cell? ⟨Cx, 6, none⟩ = some (.int .i64 c.rm) := b0.cell 6
      have a7 : wn.cell? ⟨Cx, 7, none⟩ = some (.int .i64 c.by') := b0.cell 7
      have a8 : wn.cell? ⟨Cx, 8, none⟩ = some (.int .i64 c.w0) := b0.cell 8
      have a9 : wn.cell? ⟨Cx, 9, none⟩ = some (.int .i64 c.w1) := b0.cell 9
      have a10 : wn.cell? ⟨Cx, 10, none⟩ = some (.int .i64 c.w2) := b0.cell 10
      have a11 : wn.cell? ⟨Cx, 11, none⟩ = some (.int .i64 c.rn) := b0.cell 11
      have a12 : wn.cell? ⟨Cx, 12, none⟩ = some (.int .i64 c.rd) := b0.cell 12
      have a13 : wn.cell? ⟨Cx, 13, none⟩ = some (.int .i64 c.bu) := b0.cell 13
      have a14 : wn.cell? ⟨Cx, 14, none⟩ = some (.int .i64 c.bl) := b0.cell 14
      have a15 : wn.cell? ⟨Cx, 15, none⟩ = some (.int .i64 c.ra) := b0.cell 15
      have e0 : wn.cell? ⟨Cx + 1, 0, none⟩ = some (.int .u64 500) := b1.cell 0
      have e1 : wn.cell? ⟨Cx + 1, 1, none⟩ = some (.int .u64 st) := b1.cell 1
      have e2 : wn.cell? ⟨Cx + 1, 2, none⟩ = some (.slice (some ra) 16 rc) := b1.cell 2
      have HB0 := Lib.hid b0
      have HB1 := Lib.hid b1
      clear b0 b1
      go_wp2_with fail
      clear a0 a1 a2 a3 a4 a5 a6 a7 a8 a9 a10 a11 a12 a13 a14 a15 e0 e1 e2
      have b0 := HB0.out
      have b1 := HB1.out
      clear HB0 HB1
      refine (room_any c 500 st _ xs cs _ 0 hi hin HPW.out hI0 hIh _ HXS.out HP.out).mono ?_
      rw [HR2.out, HF2.out]
      rintro e w2 ⟨rfl, hb⟩
      have HX1 := Lib.hid (HX1.out.below hb)
      have HX2 := Lib.hid (HX2.out.below hb)
      have b0 := b0.below hb
      have b1 := b1.below hb
      have HXS := Lib.hid (HXS.out.keep hb)
      have HP := Lib.hid (HP.out.keep hb)
      have hB := Below.next hB hb
      skip
      obtain ⟨wn, rfl⟩ : ∃ wn, wn = w2 := ⟨_, rfl⟩
      clear hb
      as_aux_lemma =>
        obtain ⟨⟨g1, g2, g3⟩, ⟨⟨l1, l2⟩, l3, l4⟩, ⟨⟨k1, k2⟩, k3, k4⟩, ⟨j1, j2⟩, j3, j4⟩ := HG.out
        have t1 : decide (r.st + r.rv < p.st + p.rv) = false := nb (by omega)
        have t2 : decide (n < m) = false := nb (by omega)
        have t3 : decide (s.st + s.rv ≤ r.st + r.rv) = true := yb (by omega)
        have u1 : IntKind.u64.wrap (p.st + p.rv) = p.st + p.rv := IntWalk.u64_in _ (by omega)
        have u2 : IntKind.u64.wrap (r.st + r.rv) = r.st + r.rv := IntWalk.u64_in _ (by omega)
        have u3 : IntKind.u64.wrap (s.st + s.rv) = s.st + s.rv := IntWalk.u64_in _ (by omega)
        clear g1 g2 g3 l1 l2 l3 l4 k1 k2 k3 k4 j1 j2 j3 j4
        have x1 : wn.cell? ⟨X1, 1, none⟩ = some (.int .u64 p.st) := HX1.out.cell 1
        have x2 : wn.cell? ⟨X1, 2, none⟩ = some (.int .u64 p.rv) := HX1.out.cell 2
        have y1 : wn.cell? ⟨X2, 1, none⟩ = some (.int .u64 r.st) := HX2.out.cell 1
        have y2 : wn.cell? ⟨X2, 2, none⟩ = some (.int .u64 r.rv) := HX2.out.cell 2
        have a0 : wn.cell? ⟨Cx, 0, none⟩ = some (.int .i64 c.nd) := b0.cell 0
        have a1 : wn.cell? ⟨Cx, 1, none⟩ = some (.int .u64 c.qo) := b0.cell 1
        have a2 : wn.cell? ⟨Cx, 2, none⟩ = some (.int .u64 c.la) := b0.cell 2
        have a3 : wn.cell? ⟨Cx, 3, none⟩ = some (.int .u64 c.wd) := b0.cell 3
        have a4 : wn.cell? ⟨Cx, 4, none⟩ = some (.int .u64 c.lo) := b0.cell 4
        have a5 : wn.cell? ⟨Cx, 5, none⟩ = some (.int .i64 c.re) := b0.cell 5
        have a6 : wn.cell? ⟨Cx, 6, none⟩ = some (.int .i64 c.rm) := b0.cell 6
        have a7 : wn.cell? ⟨Cx, 7, none⟩ = some (.int .i64 c.by') := b0.cell 7
        have a8 : wn.cell? ⟨Cx, 8, none⟩ = some (.int .i64 c.w0) := b0.cell 8
        have a9 : wn.cell? ⟨Cx, 9, none⟩ = some (.int .i64 c.w1) := b0.cell 9
        have a10 : wn.cell? ⟨Cx, 10, none⟩ = some (.int .i64 c.w2) := b0.cell 10
        have a11 : wn.cell? ⟨Cx, 11, none⟩ = some (.int .i64 c.rn) := b0.cell 11
        have a12 : wn.cell? ⟨Cx, 12, none⟩ = some (.int .i64 c.rd) := b0.cell 12
        have a13 : wn.cell? ⟨Cx, 13, none⟩ = some (.int .i64 c.bu) := b0.cell 13
        have a14 : wn.cell? ⟨Cx, 14, none⟩ = some (.int .i64 c.bl) := b0.cell 14
        have a15 : wn.cell? ⟨Cx, 15, none⟩ = some (.int .i64 c.ra) := b0.cell 15
        have e0 : wn.cell? ⟨Cx + 1, 0, none⟩ = some (.int .u64 500) := b1.cell 0
        have e1 : wn.cell? ⟨Cx + 1, 1, none⟩ = some (.int .u64 st) := b1.cell 1
        have e2 : wn.cell? ⟨Cx + 1, 2, none⟩ = some (.slice (some ra) 16 rc) := b1.cell 2
        have HB0 := Lib.hid b0
        have HB1 := Lib.hid b1
        clear b0 b1
        go_wp2_with fail
        clear a0 a1 a2 a3 a4 a5 a6 a7 a8 a9 a10 a11 a12 a13 a14 a15 e0 e1 e2
        have b0 := HB0.out
        have b1 := HB1.out
        clear HB0 HB1
        clear x1 x2 y1 y2
        refine (ownSpace_any 500 st _ xs (by rw [HXL.out]; omega) _ HXS.out).mono ?_
        rintro e w2 ⟨oa, oc, rfl, hos, hb⟩
        rw [HXL.out] at hos ⊢
        have HOS := Lib.hid hos
        clear hos
        have HX1 := Lib.hid (HX1.out.below hb)
        have HX2 := Lib.hid (HX2.out.below hb)
        have b0 := b0.below hb
        have b1 := b1.below hb
        have HXS := Lib.hid (HXS.out.keep hb)
        have HP := Lib.hid (HP.out.keep hb)
        have hB := Below.next hB hb
        skip
        obtain ⟨wn, rfl⟩ : ∃ wn, wn = w2 := ⟨_, rfl⟩
        clear hb
        have hq2 : (0 : Int) ≤ st ∧ st ≤ 199 := hsb
        as_aux_lemma =>
          go_upto_region 12 with fail
          obtain ⟨W4, hW4⟩ : ∃ W : World, W = wn.alloc (.cells #[.int .u64 500, .int .u64 (st / 2), .slice oa 16 oc] 38) := ⟨_, rfl⟩
          have b3 : BoxN W4 wn.heap.size 38 #[.int .u64 500, .int .u64 (st / 2), .slice oa 16 oc] := by rw [hW4]; exact BoxN.new wn _ _
          have hb : Below wn.heap.size wn W4 := by rw [hW4]; exact Below.al (Below.refl _ _) _
          obtain ⟨X3, hX3⟩ : ∃ X, X = wn.heap.size := ⟨_, rfl⟩
          rw [← hX3] at b3
          rw [← hW4, ← hX3]
          have HOS := Lib.hid (HOS.out.keep hb)
          have HX1 := Lib.hid (HX1.out.below hb)
          have HX2 := Lib.hid (HX2.out.below hb)
          have HX3 := Lib.hid b3
          obtain ⟨w2, rfl⟩ : ∃ w, w = W4 := ⟨_, rfl⟩
          clear hX3 hW4 b3
          have b0 := b0.below hb
          have b1 := b1.below hb
          have HXS := Lib.hid (HXS.out.keep hb)
          have HP := Lib.hid (HP.out.keep hb)
          have hB := Below.next hB hb
          skip
          obtain ⟨wn, rfl⟩ : ∃ wn, wn = w2 := ⟨_, rfl⟩
          clear hb
          have z0 : wn.cell? ⟨X3, 0, none⟩ = some (.int .u64 500) := HX3.out.cell 0
          have z1 : wn.cell? ⟨X3, 1, none⟩ = some (.int .u64 (st / 2)) := HX3.out.cell 1
          have z2 : wn.cell? ⟨X3, 2, none⟩ = some (.slice oa 16 oc) := HX3.out.cell 2
          as_aux_lemma =>
            have a0 : wn.cell? ⟨Cx, 0, none⟩ = some (.int .i64 c.nd) := b0.cell 0
            have a1 : wn.cell? ⟨Cx, 1, none⟩ = some (.int .u64 c.qo) := b0.cell 1
            have a2 : wn.cell? ⟨Cx, 2, none⟩ = some (.int .u64 c.la) := b0.cell 2
            have a3 : wn.cell? ⟨Cx, 3, none⟩ = some (.int .u64 c.wd) := b0.cell 3
            have a4 : wn.cell? ⟨Cx, 4, none⟩ = some (.int .u64 c.lo) := b0.cell 4
            have a5 : wn.cell? ⟨Cx, 5, none⟩ = some (.int .i64 c.re) := b0.cell 5
            have a6 : wn.cell? ⟨Cx, 6, none⟩ = some (.int .i64 c.rm) := b0.cell 6
            have a7 : wn.cell? ⟨Cx, 7, none⟩ = some (.int .i64 c.by') := b0.cell 7
            have a8 : wn.cell? ⟨Cx, 8, none⟩ = some (.int .i64 c.w0) := b0.cell 8
            have a9 : wn.cell? ⟨Cx, 9, none⟩ = some (.int .i64 c.w1) := b0.cell 9
            have a10 : wn.cell? ⟨Cx, 10, none⟩ = some (.int .i64 c.w2) := b0.cell 10
            have a11 : wn.cell? ⟨Cx, 11, none⟩ = some (.int .i64 c.rn) := b0.cell 11
            have a12 : wn.cell? ⟨Cx, 12, none⟩ = some (.int .i64 c.rd) := b0.cell 12
            have a13 : wn.cell? ⟨Cx, 13, none⟩ = some (.int .i64 c.bu) := b0.cell 13
            have a14 : wn.cell? ⟨Cx, 14, none⟩ = some (.int .i64 c.bl) := b0.cell 14
            have a15 : wn.cell? ⟨Cx, 15, none⟩ = some (.int .i64 c.ra) := b0.cell 15
            have e0 : wn.cell? ⟨Cx + 1, 0, none⟩ = some (.int .u64 500) := b1.cell 0
            have e1 : wn.cell? ⟨Cx + 1, 1, none⟩ = some (.int .u64 st) := b1.cell 1
            have e2 : wn.cell? ⟨Cx + 1, 2, none⟩ = some (.slice (some ra) 16 rc) := b1.cell 2
            have HB0 := Lib.hid b0
            have HB1 := Lib.hid b1
            clear b0 b1
            go_wp2_with fail
            clear a0 a1 a2 a3 a4 a5 a6 a7 a8 a9 a10 a11 a12 a13 a14 a15 e0 e1 e2
            have b0 := HB0.out
            have b1 := HB1.out
            clear HB0 HB1
            clear z0 z1 z2
            refine (peak_any c 500 (st / 2) _ xs cs _ 0 hi hin2 HPW.out hI0 hIh _ HOS.out HP.out).mono ?_
            rw [HP3.out, HF3.out]
            rintro e w2 ⟨rfl, hb⟩
            obtain ⟨W2, hW2⟩ : ∃ W : World, W = w2.alloc (.cells #[.int .i64 s.tk, .int .u64 s.st, .int .u64 s.rv] 57) := ⟨_, rfl⟩
            have hbx : BoxN W2 w2.heap.size 57 #[.int .i64 s.tk, .int .u64 s.st, .int .u64 s.rv] := by rw [hW2]; exact BoxN.new w2 _ _
            have hb : Below wn.heap.size wn W2 := by rw [hW2]; exact Below.al hb _
            obtain ⟨X4, hX⟩ : ∃ X, X = w2.heap.size := ⟨_, rfl⟩
            rw [← hX] at hbx
            go_upto_region 13 with fail
            rw [← hW2, ← hX]
            clear hX hW2
            have HX2 := Lib.hid (HX2.out.below hb)
            have HX4 := Lib.hid hbx
            clear hbx
            have b0 := b0.below hb
            have b1 := b1.below hb
            have HXS := Lib.hid (HXS.out.keep hb)
            have HP := Lib.hid (HP.out.keep hb)
            have hB := Below.next hB hb
            obtain ⟨wn, rfl⟩ : ∃ wn, wn = W2 := ⟨_, rfl⟩
            clear hb
            have x1 : wn.cell? ⟨X4, 1, none⟩ = some (.int .u64 s.st) := HX4.out.cell 1
            have x2 : wn.cell? ⟨X4, 2, none⟩ = some (.int .u64 s.rv) := HX4.out.cell 2
            have y1 : wn.cell? ⟨X2, 1, none⟩ = some (.int .u64 r.st) := HX2.out.cell 1
            have y2 : wn.cell? ⟨X2, 2, none⟩ = some (.int .u64 r.rv) := HX2.out.cell 2
            clear b0 b1
            as_aux_lemma =>
              go_wp2_with fail
              refine (awake26_any _).mono ?_
              rintro e w2 ⟨rfl, hb⟩
              have hB := Below.next hB hb
              clear hb
              go_wp2_with fail
              go_ret
              exact ⟨rfl, hB⟩
end Go.Proofs.Ytnbjdgjopdeolaa
