/- Forecast: Peak, in both texts. Forecast: Room and Fits, in both texts. -/
import Derived.Test.YtnbjdgjopdeolaaPW2
import Derived.Test.YtnbjdgjopdeolaaRL
namespace Go.Proofs.Ytnbjdgjopdeolaa
open Go.RowKit Go.Shelf
set_option linter.unusedSimpArgs false
set_option linter.unusedVariables false
set_option maxRecDepth 100000

set_option maxHeartbeats 2000000 in
theorem peak_bad (c : Cf) (q st : Int) (rs : Value) (xs : List Int) (cs : List Ct) (v : Value) (now un : Int) (i : Inp q st xs) (hwf : ∀ c, c ∈ cs → Wf c) (hno : Ib now) (hun : Ib un) (er : Int) (he : fck c q st xs cs now un = er) (hne : er ≠ 0) (w : World) (h : RdI .u64 w rs xs) (hp : RdC w v cs) :
    Calls Try.prog 55 #[c.v, Sv q st rs, v, .int .i64 now, .int .i64 un] w fun e w' => e = .returned (.tuple #[lv0.v, .int .i64 er]) ∧ Below w.heap.size w w' := by
  have HR := Lib.hid h
  have HP := Lib.hid hp
  have HWF := Lib.hid hwf
  have HE := Lib.hid he
  have HNE := Lib.hid hne
  have d1 : (er != 0) = true := by simpa using hne
  clear h hp hwf he hne
  go_enter Try.func55, Try.ntmps55
  go_wp2_with fail
  obtain ⟨V1, hV1⟩ : ∃ V : World, V = w.alloc (.cells #[.int .i64 c.nd, .int .u64 c.qo, .int .u64 c.la, .int .u64 c.wd, .int .u64 c.lo, .int .i64 c.re, .int .i64 c.rm, .int .i64 c.by', .int .i64 c.w0, .int .i64 c.w1, .int .i64 c.w2, .int .i64 c.rn, .int .i64 c.rd, .int .i64 c.bu, .int .i64 c.bl, .int .i64 c.ra] 35) := ⟨_, rfl⟩
  obtain ⟨V2, hV2⟩ : ∃ V : World, V = V1.alloc (.cells #[.int .u64 q, .int .u64 st, rs] 38) := ⟨_, rfl⟩
  obtain ⟨V3, hV3⟩ : ∃ V : World, V = V2.alloc (.cells #[.int .i64 0, .int .u64 0, .int .u64 0] 57) := ⟨_, rfl⟩
  rw [← hV1, ← hV2, ← hV3]
  have b2 : BoxN V3 (w.heap.size + 1 + 1) 57 #[.int .i64 0, .int .u64 0, .int .u64 0] := by
    have s1 : V1.heap.size = w.heap.size + 1 := by rw [hV1]; simp
    have s2 : V2.heap.size = w.heap.size + 1 + 1 := by rw [hV2]; simp [s1]
    have := BoxN.new V2 57 #[.int .i64 0, .int .u64 0, .int .u64 0]
    rw [← hV3, s2] at this
    exact this
  have hB : Below w.heap.size w V3 := by rw [hV3, hV2, hV1]; exact (by repeat (first | assumption | exact Below.refl _ _ | apply Below.al | apply below_drewN | apply Below.drew | refine Below.next ?_ (by assumption)))
  clear hV1 hV2 hV3
  refine (levels_bad c q st rs xs cs v now un i HWF.out hno hun er HE.out HNE.out _ (HR.out.keep hB) (HP.out.keep hB)).mono ?_
  rintro e w1 ⟨rfl, hb⟩
  have b2 := b2.below hb
  have hB := Below.next hB hb
  have r0 : w1.cell? ⟨w.heap.size + 1 + 1, 0, none⟩ = some (.int .i64 0) := BoxN.cell b2 0
  have r1 : w1.cell? ⟨w.heap.size + 1 + 1, 1, none⟩ = some (.int .u64 0) := BoxN.cell b2 1
  have r2 : w1.cell? ⟨w.heap.size + 1 + 1, 2, none⟩ = some (.int .u64 0) := BoxN.cell b2 2
  have q0 : w1.frozen? ⟨w.heap.size + 1 + 1, 0, none⟩ = false := BoxN.frozen b2 0
  have q1 : w1.frozen? ⟨w.heap.size + 1 + 1, 1, none⟩ = false := BoxN.frozen b2 1
  have q2 : w1.frozen? ⟨w.heap.size + 1 + 1, 2, none⟩ = false := BoxN.frozen b2 2
  clear hb b2
  go_wp2_with fail
  exact bodyPost_ret (v := .tuple #[.agg #[.int .i64 0, .int .u64 0, .int .u64 0], .int .i64 er]) (by simp [results, Try.results55, go_sem, r0, r1, r2]) rfl ⟨rfl, by first | exact hB | exact ((hB.setCell (by show w.heap.size ≤ w.heap.size + 1 + 1; omega) _).setCell (by show w.heap.size ≤ w.heap.size + 1 + 1; omega) _).setCell (by show w.heap.size ≤ w.heap.size + 1 + 1; omega) _⟩
set_option maxHeartbeats 2000000 in
theorem rpeak_bad (c : Cf) (q st : Int) (rs : Value) (xs : List Int) (cs : List Ct) (v : Value) (now un : Int) (i : Inp q st xs) (hno : Ib now) (hun : Ib un) (er : Int) (he : fck c q st xs cs now un = er) (hne : er ≠ 0) (w : World) (h : RdI .u64 w rs xs) (hp : RdC w v cs) :
    Calls Try.prog 57 #[c.v, Sv q st rs, v, .int .i64 now, .int .i64 un] w fun e w' => e = .returned (.tuple #[lv0.v, .int .i64 er]) ∧ Below w.heap.size w w' := by
  have HR := Lib.hid h
  have HP := Lib.hid hp
  have HE := Lib.hid he
  have HNE := Lib.hid hne
  have d1 : (er != 0) = true := by simpa using hne
  clear h hp he hne
  go_enter Try.func57, Try.ntmps57
  go_wp2_with fail
  obtain ⟨V1, hV1⟩ : ∃ V : World, V = w.alloc (.cells #[.int .i64 c.nd, .int .u64 c.qo, .int .u64 c.la, .int .u64 c.wd, .int .u64 c.lo, .int .i64 c.re, .int .i64 c.rm, .int .i64 c.by', .int .i64 c.w0, .int .i64 c.w1, .int .i64 c.w2, .int .i64 c.rn, .int .i64 c.rd, .int .i64 c.bu, .int .i64 c.bl, .int .i64 c.ra] 35) := ⟨_, rfl⟩
  obtain ⟨V2, hV2⟩ : ∃ V : World, V = V1.alloc (.cells #[.int .u64 q, .int .u64 st, rs] 38) := ⟨_, rfl⟩
  obtain ⟨V3, hV3⟩ : ∃ V : World, V = V2.alloc (.cells #[.int .i64 0, .int .u64 0, .int .u64 0] 57) := ⟨_, rfl⟩
  rw [← hV1, ← hV2, ← hV3]
  have b2 : BoxN V3 (w.heap.size + 1 + 1) 57 #[.int .i64 0, .int .u64 0, .int .u64 0] := by
    have s1 : V1.heap.size = w.heap.size + 1 := by rw [hV1]; simp
    have s2 : V2.heap.size = w.heap.size + 1 + 1 := by rw [hV2]; simp [s1]
    have := BoxN.new V2 57 #[.int .i64 0, .int .u64 0, .int .u64 0]
    rw [← hV3, s2] at this
    exact this
  have hB : Below w.heap.size w V3 := by rw [hV3, hV2, hV1]; exact (by repeat (first | assumption | exact Below.refl _ _ | apply Below.al | apply below_drewN | apply Below.drew | refine Below.next ?_ (by assumption)))
  clear hV1 hV2 hV3
  refine (rlevels_bad c q st rs xs cs v now un i hno hun er HE.out HNE.out _ (HR.out.keep hB) (HP.out.keep hB)).mono ?_
  rintro e w1 ⟨rfl, hb⟩
  have b2 := b2.below hb
  have hB := Below.next hB hb
  have r0 : w1.cell? ⟨w.heap.size + 1 + 1, 0, none⟩ = some (.int .i64 0) := BoxN.cell b2 0
  have r1 : w1.cell? ⟨w.heap.size + 1 + 1, 1, none⟩ = some (.int .u64 0) := BoxN.cell b2 1
  have r2 : w1.cell? ⟨w.heap.size + 1 + 1, 2, none⟩ = some (.int .u64 0) := BoxN.cell b2 2
  have q0 : w1.frozen? ⟨w.heap.size + 1 + 1, 0, none⟩ = false := BoxN.frozen b2 0
  have q1 : w1.frozen? ⟨w.heap.size + 1 + 1, 1, none⟩ = false := BoxN.frozen b2 1
  have q2 : w1.frozen? ⟨w.heap.size + 1 + 1, 2, none⟩ = false := BoxN.frozen b2 2
  clear hb b2
  go_wp2_with fail
  exact bodyPost_ret (v := .tuple #[.agg #[.int .i64 0, .int .u64 0, .int .u64 0], .int .i64 er]) (by simp [results, Try.results57, go_sem, r0, r1, r2]) rfl ⟨rfl, by first | exact hB | exact ((hB.setCell (by show w.heap.size ≤ w.heap.size + 1 + 1; omega) _).setCell (by show w.heap.size ≤ w.heap.size + 1 + 1; omega) _).setCell (by show w.heap.size ≤ w.heap.size + 1 + 1; omega) _⟩
set_option maxHeartbeats 2000000 in
theorem peak_ok (c : Cf) (q st : Int) (rs : Value) (xs : List Int) (cs : List Ct) (v : Value) (now un : Int) (i : Inp q st xs) (hwf : ∀ c, c ∈ cs → Wf c) (hno : Ib now) (hun : Ib un) (he : fck c q st xs cs now un = 0) (w : World) (h : RdI .u64 w rs xs) (hp : RdC w v cs) :
    Calls Try.prog 55 #[c.v, Sv q st rs, v, .int .i64 now, .int .i64 un] w fun e w' => e = .returned (.tuple #[(pkV c q st xs cs now un).v, .int .i64 0]) ∧ Below w.heap.size w w' := by
  have HWF := Lib.hid hwf
  clear hwf
  obtain ⟨hL0, hL1, hL2, hL3⟩ := lvV_ok i he
  have HLE := Lib.hid hL0
  obtain ⟨L, hL⟩ : ∃ L, lvV c q st xs cs now un = L := ⟨_, rfl⟩
  have HPV : Hid (pkV c q st xs cs now un = pk L) := by unfold Hid pkV; rw [if_neg (by rw [he]; simp), hL]
  have HLO : Hid (lvO c cs st xs now (un - now).toNat = L) := by unfold Hid; rw [← hL0, hL]
  rw [HPV.out]
  rw [hL] at hL1 hL2 hL3
  have HLB := Lib.hid hL3
  have HR := Lib.hid h
  have HP := Lib.hid hp
  have HE := Lib.hid he
  clear h hp he hL hL0 hL3 HLE
  go_enter Try.func55, Try.ntmps55
  go_wp2_with fail
  obtain ⟨V1, hV1⟩ : ∃ V : World, V = w.alloc (.cells #[.int .i64 c.nd, .int .u64 c.qo, .int .u64 c.la, .int .u64 c.wd, .int .u64 c.lo, .int .i64 c.re, .int .i64 c.rm, .int .i64 c.by', .int .i64 c.w0, .int .i64 c.w1, .int .i64 c.w2, .int .i64 c.rn, .int .i64 c.rd, .int .i64 c.bu, .int .i64 c.bl, .int .i64 c.ra] 35) := ⟨_, rfl⟩
  obtain ⟨V2, hV2⟩ : ∃ V : World, V = V1.alloc (.cells #[.int .u64 q, .int .u64 st, rs] 38) := ⟨_, rfl⟩
  obtain ⟨V3, hV3⟩ : ∃ V : World, V = V2.alloc (.cells #[.int .i64 0, .int .u64 0, .int .u64 0] 57) := ⟨_, rfl⟩
  rw [← hV1, ← hV2, ← hV3]
  have b2 : BoxN V3 (w.heap.size + 1 + 1) 57 #[.int .i64 0, .int .u64 0, .int .u64 0] := by
    have s1 : V1.heap.size = w.heap.size + 1 := by rw [hV1]; simp
    have s2 : V2.heap.size = w.heap.size + 1 + 1 := by rw [hV2]; simp [s1]
    have := BoxN.new V2 57 #[.int .i64 0, .int .u64 0, .int .u64 0]
    rw [← hV3, s2] at this
    exact this
  have hB : Below w.heap.size w V3 := by rw [hV3, hV2, hV1]; exact (by repeat (first | assumption | exact Below.refl _ _ | apply Below.al | apply below_drewN | apply Below.drew | refine Below.next ?_ (by assumption)))
  clear hV1 hV2 hV3
  refine (levels_ok c q st rs xs cs v now un i HWF.out hno hun HE.out _ (HR.out.keep hB) (HP.out.keep hB)).mono ?_
  rw [HLO.out]
  rintro e w1 ⟨lv, rfl, hlv, _, hb⟩
  have b2 := b2.below hb
  have hB := Below.next hB hb
  have HLV := Lib.hid hlv
  clear hlv hb
  go_wp2_with fail
  refine (firstL_any _ L hL1 hL2 HLB.out _ HLV.out).mono ?_
  rintro e w2 ⟨rfl, hb⟩
  have b2 := b2.below hb
  have hB := Below.next hB hb
  obtain ⟨p, hp⟩ : ∃ p, pk L = p := ⟨_, rfl⟩
  rw [hp]
  have r0 : w2.cell? ⟨w.heap.size + 1 + 1, 0, none⟩ = some (.int .i64 0) := BoxN.cell b2 0
  have r1 : w2.cell? ⟨w.heap.size + 1 + 1, 1, none⟩ = some (.int .u64 0) := BoxN.cell b2 1
  have r2 : w2.cell? ⟨w.heap.size + 1 + 1, 2, none⟩ = some (.int .u64 0) := BoxN.cell b2 2
  have q0 : w2.frozen? ⟨w.heap.size + 1 + 1, 0, none⟩ = false := BoxN.frozen b2 0
  have q1 : w2.frozen? ⟨w.heap.size + 1 + 1, 1, none⟩ = false := BoxN.frozen b2 1
  have q2 : w2.frozen? ⟨w.heap.size + 1 + 1, 2, none⟩ = false := BoxN.frozen b2 2
  have HPP := Lib.hid hp
  clear hb hp
  go_wp2_with fail
  obtain ⟨W4, hW4⟩ : ∃ W4 : World, W4 = ((w2.setCell ⟨w.heap.size + 1 + 1, 0, none⟩ (.int .i64 p.tk)).setCell ⟨w.heap.size + 1 + 1, 1, none⟩ (.int .u64 p.st)).setCell ⟨w.heap.size + 1 + 1, 2, none⟩ (.int .u64 p.rv) := ⟨_, rfl⟩
  rw [← hW4]
  have b4 := b2.set3 (.int .i64 p.tk) (.int .u64 p.st) (.int .u64 p.rv)
  rw [← hW4] at b4
  have y0 := b4.cell 0
  have y1 := b4.cell 1
  have y2 := b4.cell 2
  have hB4 : Below w.heap.size w W4 := by
    rw [hW4]
    exact ((hB.setCell (by show w.heap.size ≤ w.heap.size + 1 + 1; omega) _).setCell (by show w.heap.size ≤ w.heap.size + 1 + 1; omega) _).setCell (by show w.heap.size ≤ w.heap.size + 1 + 1; omega) _
  clear hW4 b2 b4 r0 r1 r2 q0 q1 q2
  exact bodyPost_ret (v := .tuple #[p.v, .int .i64 0]) (by simp [results, Try.results55, go_sem, y0, y1, y2]) rfl ⟨by rw [HPP.out], hB4⟩
theorem RdS.setX {w : World} {size : Nat} {b off m n cap : Nat} {cs : List Value} {X : Nat} (h : RdS w size (.slice (some ⟨b, off, none⟩) m cap) n cs) (hne : b ≠ X) (o : Nat) (u : Value) : RdS (w.setCell ⟨X, o, none⟩ u) size (.slice (some ⟨b, off, none⟩) m cap) n cs := by
  obtain ⟨h1, h0, h2⟩ := h
  refine ⟨h1, h0, ?_⟩
  rcases h2 with h2 | ⟨b', off', cap', hv, hc, hr⟩
  · exact .inl h2
  · have hv2 := hv
    simp only [Value.slice.injEq, Option.some.injEq, Addr.mk.injEq, and_true, true_and] at hv2
    obtain ⟨⟨rfl, rfl⟩, rfl, rfl⟩ := hv2
    exact .inr ⟨b, off, cap, hv, hc, fun j x hj => cell_set _ hne (hr j x hj)⟩
set_option maxHeartbeats 2000000 in
theorem rpeak_ok (c : Cf) (q st : Int) (rs : Value) (xs : List Int) (cs : List Ct) (v : Value) (now un : Int) (i : Inp q st xs) (hno : Ib now) (hun : Ib un) (he : fck c q st xs cs now un = 0) (w : World) (h : RdI .u64 w rs xs) (hp : RdC w v cs) :
    Calls Try.prog 57 #[c.v, Sv q st rs, v, .int .i64 now, .int .i64 un] w fun e w' => e = .returned (.tuple #[(pkV c q st xs cs now un).v, .int .i64 0]) ∧ Below w.heap.size w w' := by
  obtain ⟨hL0, hL1, hL2, hL3⟩ := lvV_ok i he
  have HLE := Lib.hid hL0
  obtain ⟨L, hL⟩ : ∃ L, lvV c q st xs cs now un = L := ⟨_, rfl⟩
  have HPV : Hid (pkV c q st xs cs now un = pk L) := by unfold Hid pkV; rw [if_neg (by rw [he]; simp), hL]
  have HLO : Hid (lvO c cs st xs now (un - now).toNat = L) := by unfold Hid; rw [← hL0, hL]
  rw [HPV.out]
  rw [hL] at hL1 hL2 hL3
  have HLB := Lib.hid hL3
  have HR := Lib.hid h
  have HP := Lib.hid hp
  have HE := Lib.hid he
  clear h hp he hL hL0 hL3 HLE
  go_enter Try.func57, Try.ntmps57
  go_wp2_with fail
  obtain ⟨V1, hV1⟩ : ∃ V : World, V = w.alloc (.cells #[.int .i64 c.nd, .int .u64 c.qo, .int .u64 c.la, .int .u64 c.wd, .int .u64 c.lo, .int .i64 c.re, .int .i64 c.rm, .int .i64 c.by', .int .i64 c.w0, .int .i64 c.w1, .int .i64 c.w2, .int .i64 c.rn, .int .i64 c.rd, .int .i64 c.bu, .int .i64 c.bl, .int .i64 c.ra] 35) := ⟨_, rfl⟩
  obtain ⟨V2, hV2⟩ : ∃ V : World, V = V1.alloc (.cells #[.int .u64 q, .int .u64 st, rs] 38) := ⟨_, rfl⟩
  obtain ⟨V3, hV3⟩ : ∃ V : World, V = V2.alloc (.cells #[.int .i64 0, .int .u64 0, .int .u64 0] 57) := ⟨_, rfl⟩
  rw [← hV1, ← hV2, ← hV3]
  have b2 : BoxN V3 (w.heap.size + 1 + 1) 57 #[.int .i64 0, .int .u64 0, .int .u64 0] := by
    have s1 : V1.heap.size = w.heap.size + 1 := by rw [hV1]; simp
    have s2 : V2.heap.size = w.heap.size + 1 + 1 := by rw [hV2]; simp [s1]
    have := BoxN.new V2 57 #[.int .i64 0, .int .u64 0, .int .u64 0]
    rw [← hV3, s2] at this
    exact this
  have hB : Below w.heap.size w V3 := by rw [hV3, hV2, hV1]; exact (by repeat (first | assumption | exact Below.refl _ _ | apply Below.al | apply below_drewN | apply Below.drew | refine Below.next ?_ (by assumption)))
  clear hV1 hV2 hV3
  refine (rlevels_ok c q st rs xs cs v now un i hno hun HE.out _ (HR.out.keep hB) (HP.out.keep hB)).mono ?_
  rw [HLO.out]
  rintro e w1 ⟨lv, rfl, hlv, _, hb⟩
  have b2 := b2.below hb
  have hB := Below.next hB hb
  obtain ⟨la, lc, rfl⟩ := hlv.form
  obtain ⟨n, hN⟩ : ∃ n, L.length = n + 1 := ⟨L.length - 1, by omega⟩
  rw [hN] at hlv hL1 hL2 ⊢
  obtain ⟨lb, lo, rfl, hlc, hl0⟩ := RdL.at hlv hN 0 hL1
  obtain ⟨x0, HX0⟩ : ∃ x, Hid (L.getD 0 lv0 = x) := ⟨_, rfl⟩
  rw [HX0.out, Nat.zero_mul, Nat.add_zero] at hl0
  obtain ⟨c0', c1', c2'⟩ := hl0
  have HN := Lib.hid hN
  have HLV := Lib.hid hlv
  have HPK : Hid (pk L = pkN L n) := by unfold Hid pk; rw [hN]; rfl
  have i0 : (0 : Int) < ((n + 1 : Nat) : Int) := by omega
  have HB2 := Lib.hid b2
  have hz2 := b2.lt
  have hBW := Lib.hid hB
  clear hlv hb hN b2 hB
  go_upto_region 5 with fail
  obtain ⟨V4, hV4⟩ : ∃ V : World, V = w1.alloc (.cells #[.int .i64 x0.tk, .int .u64 x0.st, .int .u64 x0.rv] 57) := ⟨_, rfl⟩
  have bx : BoxN V4 w1.heap.size 57 #[.int .i64 x0.tk, .int .u64 x0.st, .int .u64 x0.rv] := by rw [hV4]; exact BoxN.new w1 _ _
  have hba : Below w1.heap.size w1 V4 := by rw [hV4]; exact Below.al (Below.refl _ _) _
  obtain ⟨X, hX⟩ : ∃ X, X = w1.heap.size := ⟨_, rfl⟩
  have hX' := hX
  rw [← hV4, ← hX]
  rw [← hX] at bx
  have hXR : w.heap.size + 1 + 1 < X := by omega
  have hXL : lb ≠ X := by
    have := cell_lt c0'
    rw [hX']
    exact Nat.ne_of_lt this
  have HB2 := Lib.hid (HB2.out.below hba)
  have HBX := Lib.hid bx
  have HLV := Lib.hid (HLV.out.keep hba)
  have HBW := Lib.hid (Below.next hBW.out hba)
  clear hV4 hX hX' hba bx c0' c1' c2' hz2
  go_wp2_with fail
  go_loopw [15] (fun i wr => ∃ k : Nat, k ≤ n ∧ i = .int .i64 ((k : Int) + 1) ∧ BoxN wr (w.heap.size + 1 + 1) 57 #[.int .i64 0, .int .u64 0, .int .u64 0] ∧ BoxN wr X 57 #[.int .i64 (pkN L k).tk, .int .u64 (pkN L k).st, .int .u64 (pkN L k).rv] ∧ RdL wr (.slice (some ⟨lb, lo, none⟩) (n + 1) lc) L ∧ Below w.heap.size w wr) (fun i _ => n + 1 - (intOf i).toNat)
  case atStart => exact ⟨0, Nat.zero_le _, rfl, HB2.out, by rw [show pkN L 0 = x0 from HX0.out]; exact HBX.out, HLV.out, HBW.out⟩
  case round =>
    clear HB2 HBX HBW HLV
    obtain ⟨k, hk, rfl, b2, bx, hlv, hBw⟩ := hrel
    have HLR := Lib.hid hlv
    clear hlv
    have HB2 := Lib.hid b2
    have HBX := Lib.hid bx
    by_cases hlt : k < n
    · have d1 : decide ((k : Int) + 1 < ((n + 1 : Nat) : Int)) = true := yb (by omega)
      obtain ⟨b', off', he, _, hx⟩ := RdL.at HLR.out HN.out (k + 1) (by omega)
      simp only [Option.some.injEq, Addr.mk.injEq, and_true] at he
      obtain ⟨rfl, rfl⟩ := he
      have hbx := HLB.out (k + 1) (by rw [HN.out]; omega)
      have hbp : Lb (pkN L k) := by
        obtain ⟨i, hi, he⟩ := pkN_at L k
        rw [he]; exact HLB.out i (by rw [HN.out]; omega)
      obtain ⟨x, hxx⟩ : ∃ x, L.getD (k + 1) lv0 = x := ⟨_, rfl⟩
      obtain ⟨p, hp⟩ : ∃ x, pkN L k = x := ⟨_, rfl⟩
      have HPS : Hid (pkN L (k + 1) = if p.all < x.all then x else p) := by
        unfold Hid
        show (if (pkN L k).all < (L.getD (k + 1) lv0).all then _ else _) = _
        rw [hp, hxx]
      rw [hxx] at hx hbx
      rw [hp] at hbp HBX bx
      obtain ⟨c0, c1, c2⟩ := hx
      clear hxx hp
      have p1 : wr.cell? ⟨X, 1, none⟩ = some (.int .u64 p.st) := bx.cell 1
      have p2 : wr.cell? ⟨X, 2, none⟩ = some (.int .u64 p.rv) := bx.cell 2
      clear b2 bx
      obtain ⟨⟨l1, l2⟩, l3, l4⟩ := hbx
      obtain ⟨⟨m1, m2⟩, m3, m4⟩ := hbp
      have u1 : IntKind.u64.wrap (x.st + x.rv) = x.st + x.rv := IntWalk.u64_in _ (by omega)
      have u2 : IntKind.u64.wrap (p.st + p.rv) = p.st + p.rv := IntWalk.u64_in _ (by omega)
      have hwk : IntKind.i64.wrap ((k : Int) + 1) = (k : Int) + 1 := IntWalk.i64_in _ (by omega)
      have j1 : (0 : Int) ≤ (k : Int) + 1 := by omega
      have j5 : ((k : Int) + 1).toNat = k + 1 := by omega
      by_cases hc : p.all < x.all
      · have d2 : decide (p.st + p.rv < x.st + x.rv) = true := yb hc
        have HPS2 : Hid (pkN L (k + 1) = x) := by unfold Hid; rw [HPS.out, if_pos hc]
        have HC0 := Lib.hid c0
        have HC1 := Lib.hid c1
        have HC2 := Lib.hid c2
        have HP1 := Lib.hid p1
        have HP2 := Lib.hid p2
        clear hc l1 l2 l3 l4 m1 m2 m3 m4
        go_wp2_with fail
        go_quiet (fail)
        go_upto_region 9 with fail
        refine wp_drewN ?_
        intro wS hS
        have c0 := cell_later hS HC0.out
        have c1 := cell_later hS HC1.out
        have c2 := cell_later hS HC2.out
        have b2 := HB2.out.below hS
        have bx := HBX.out.below hS
        have q0 : wS.cell? ⟨X, 0, none⟩ = some (.int .i64 p.tk) := bx.cell 0
        have q1 : wS.cell? ⟨X, 1, none⟩ = some (.int .u64 p.st) := bx.cell 1
        have q2 : wS.cell? ⟨X, 2, none⟩ = some (.int .u64 p.rv) := bx.cell 2
        have g0 : wS.frozen? ⟨X, 0, none⟩ = false := bx.frozen 0
        have g1 : wS.frozen? ⟨X, 1, none⟩ = false := bx.frozen 1
        have g2 : wS.frozen? ⟨X, 2, none⟩ = false := bx.frozen 2
        obtain ⟨W3, hW3⟩ : ∃ W : World, W = ((wS.setCell ⟨X, 0, none⟩ (.int .i64 x.tk)).setCell ⟨X, 1, none⟩ (.int .u64 x.st)).setCell ⟨X, 2, none⟩ (.int .u64 x.rv) := ⟨_, rfl⟩
        have nx : BoxN W3 X 57 #[.int .i64 x.tk, .int .u64 x.st, .int .u64 x.rv] := by rw [hW3]; exact bx.set3 _ _ _
        have n2 : BoxN W3 (w.heap.size + 1 + 1) 57 #[.int .i64 0, .int .u64 0, .int .u64 0] := by
          rw [hW3]
          exact ((b2.setO (by show w.heap.size + 1 + 1 ≠ X; omega) _).setO (by show w.heap.size + 1 + 1 ≠ X; omega) _).setO (by show w.heap.size + 1 + 1 ≠ X; omega) _
        have hBw3 : Below w.heap.size w W3 := by
          rw [hW3]
          exact (((Below.next hBw hS).setCell (by show w.heap.size ≤ X; omega) _).setCell (by show w.heap.size ≤ X; omega) _).setCell (by show w.heap.size ≤ X; omega) _
        have hlv : RdL W3 (.slice (some ⟨lb, lo, none⟩) (n + 1) lc) L := by
          rw [hW3]
          have := HLR.out.keep hS
          unfold RdL at this ⊢
          exact RdS.setX (RdS.setX (RdS.setX this hXL _ _) hXL _ _) hXL _ _
        have N2 := Lib.hid n2
        have NX := Lib.hid nx
        have NL := Lib.hid hlv
        clear b2 bx n2 nx hlv hS
        go_wp2_with fail
        rw [← hW3]
        clear hW3
        go_roundw
        case rel => exact ⟨k + 1, by omega, by go_num, N2.out, by rw [HPS2.out]; exact NX.out, NL.out, hBw3⟩
        case measure => simp [intOf]; omega
      · have d2 : decide (p.st + p.rv < x.st + x.rv) = false := nb hc
        have HPS2 : Hid (pkN L (k + 1) = p) := by unfold Hid; rw [HPS.out, if_neg hc]
        clear hc l1 l2 l3 l4 m1 m2 m3 m4
        go_wp2_with fail
        go_quiet (fail)
        go_wp2_with fail
        go_roundw
        case rel => exact ⟨k + 1, by omega, by go_num, HB2.out, by rw [HPS2.out]; exact HBX.out, HLR.out, below_drewN hBw _⟩
        case measure => simp [intOf]; omega
    · obtain rfl : k = n := by omega
      have d1 : decide ((k : Int) + 1 < ((k + 1 : Nat) : Int)) = false := nb (by omega)
      obtain ⟨p, hp⟩ : ∃ x, pkN L k = x := ⟨_, rfl⟩
      rw [hp] at HBX bx
      have HPP : Hid (pk L = p) := by unfold Hid; rw [HPK.out, hp]
      have p0 : wr.cell? ⟨X, 0, none⟩ = some (.int .i64 p.tk) := bx.cell 0
      have p1 : wr.cell? ⟨X, 1, none⟩ = some (.int .u64 p.st) := bx.cell 1
      have p2 : wr.cell? ⟨X, 2, none⟩ = some (.int .u64 p.rv) := bx.cell 2
      have r0 : wr.cell? ⟨w.heap.size + 1 + 1, 0, none⟩ = some (.int .i64 0) := BoxN.cell b2 0
      have r1 : wr.cell? ⟨w.heap.size + 1 + 1, 1, none⟩ = some (.int .u64 0) := BoxN.cell b2 1
      have r2 : wr.cell? ⟨w.heap.size + 1 + 1, 2, none⟩ = some (.int .u64 0) := BoxN.cell b2 2
      have q0 : wr.frozen? ⟨w.heap.size + 1 + 1, 0, none⟩ = false := BoxN.frozen b2 0
      have q1 : wr.frozen? ⟨w.heap.size + 1 + 1, 1, none⟩ = false := BoxN.frozen b2 1
      have q2 : wr.frozen? ⟨w.heap.size + 1 + 1, 2, none⟩ = false := BoxN.frozen b2 2
      obtain ⟨W4, hW4⟩ : ∃ W4 : World, W4 = ((wr.setCell ⟨w.heap.size + 1 + 1, 0, none⟩ (.int .i64 p.tk)).setCell ⟨w.heap.size + 1 + 1, 1, none⟩ (.int .u64 p.st)).setCell ⟨w.heap.size + 1 + 1, 2, none⟩ (.int .u64 p.rv) := ⟨_, rfl⟩
      have b4 := b2.set3 (.int .i64 p.tk) (.int .u64 p.st) (.int .u64 p.rv)
      rw [← hW4] at b4
      have y0 := b4.cell 0
      have y1 := b4.cell 1
      have y2 := b4.cell 2
      have hB4 : Below w.heap.size w W4 := by
        rw [hW4]
        exact ((hBw.setCell (by show w.heap.size ≤ w.heap.size + 1 + 1; omega) _).setCell (by show w.heap.size ≤ w.heap.size + 1 + 1; omega) _).setCell (by show w.heap.size ≤ w.heap.size + 1 + 1; omega) _
      clear b2 bx hp b4
      go_wp2_with fail
      rw [← hW4]
      clear hW4
      exact bodyPost_ret (v := .tuple #[p.v, .int .i64 0]) (by simp [results, Try.results57, go_sem, y0, y1, y2]) rfl ⟨by rw [HPP.out], hB4⟩
end Go.Proofs.Ytnbjdgjopdeolaa
namespace Go.Proofs.Ytnbjdgjopdeolaa
open Go.RowKit Go.Shelf
set_option linter.unusedSimpArgs false
set_option linter.unusedVariables false
set_option maxRecDepth 100000

theorem peak_any (c : Cf) (q st : Int) (rs : Value) (xs : List Int) (cs : List Ct) (v : Value) (now un : Int) (i : Inp q st xs) (hwf : ∀ c, c ∈ cs → Wf c) (hno : Ib now) (hun : Ib un) (w : World) (h : RdI .u64 w rs xs) (hp : RdC w v cs) :
    Calls Try.prog 55 #[c.v, Sv q st rs, v, .int .i64 now, .int .i64 un] w fun e w' => e = .returned (.tuple #[(pkV c q st xs cs now un).v, .int .i64 (fck c q st xs cs now un)]) ∧ Below w.heap.size w w' := by
  by_cases h0 : fck c q st xs cs now un = 0
  · rw [h0]
    exact peak_ok c q st rs xs cs v now un i hwf hno hun h0 w h hp
  · rw [show pkV c q st xs cs now un = lv0 from if_pos h0]
    exact peak_bad c q st rs xs cs v now un i hwf hno hun _ rfl h0 w h hp
theorem rpeak_any (c : Cf) (q st : Int) (rs : Value) (xs : List Int) (cs : List Ct) (v : Value) (now un : Int) (i : Inp q st xs) (hno : Ib now) (hun : Ib un) (w : World) (h : RdI .u64 w rs xs) (hp : RdC w v cs) :
    Calls Try.prog 57 #[c.v, Sv q st rs, v, .int .i64 now, .int .i64 un] w fun e w' => e = .returned (.tuple #[(pkV c q st xs cs now un).v, .int .i64 (fck c q st xs cs now un)]) ∧ Below w.heap.size w w' := by
  by_cases h0 : fck c q st xs cs now un = 0
  · rw [h0]
    exact rpeak_ok c q st rs xs cs v now un i hno hun h0 w h hp
  · rw [show pkV c q st xs cs now un = lv0 from if_pos h0]
    exact rpeak_bad c q st rs xs cs v now un i hno hun _ rfl h0 w h hp
theorem rlevels_any (c : Cf) (q st : Int) (rs : Value) (xs : List Int) (cs : List Ct) (v : Value) (now un : Int) (i : Inp q st xs) (hno : Ib now) (hun : Ib un) (w : World) (h : RdI .u64 w rs xs) (hp : RdC w v cs) :
    Calls Try.prog 32 #[c.v, Sv q st rs, v, .int .i64 now, .int .i64 un] w (LR w (lvV c q st xs cs now un) (fck c q st xs cs now un)) := by
  by_cases h0 : fck c q st xs cs now un = 0
  · rw [show lvV c q st xs cs now un = lvO c cs st xs now (un - now).toNat from if_neg (by omega), h0]
    exact rlevels_ok c q st rs xs cs v now un i hno hun h0 w h hp
  · rw [show lvV c q st xs cs now un = [] from if_pos h0]
    refine (rlevels_bad c q st rs xs cs v now un i hno hun _ rfl h0 w h hp).mono ?_
    rintro e w' ⟨rfl, hb⟩
    exact ⟨_, rfl, RdL.nil _, Fresh.nil _ _ _, hb⟩
set_option maxHeartbeats 2000000 in
theorem room_any (c : Cf) (q st : Int) (rs : Value) (xs : List Int) (cs : List Ct) (v : Value) (now un : Int) (i : Inp q st xs) (hwf : ∀ c, c ∈ cs → Wf c) (hno : Ib now) (hun : Ib un) (w : World) (h : RdI .u64 w rs xs) (hp : RdC w v cs) :
    Calls Try.prog 56 #[c.v, Sv q st rs, v, .int .i64 now, .int .i64 un] w fun e w' => e = .returned (.tuple #[.int .u64 (rmV c q st xs cs now un), .int .i64 (fck c q st xs cs now un)]) ∧ Below w.heap.size w w' := by
  have HWF := Lib.hid hwf
  clear hwf
  have HR := Lib.hid h
  have HP := Lib.hid hp
  clear h hp
  obtain ⟨p, HPV⟩ : ∃ p, Hid (pkV c q st xs cs now un = p) := ⟨_, rfl⟩
  obtain ⟨er, HE⟩ : ∃ er, Hid (fck c q st xs cs now un = er) := ⟨_, rfl⟩
  obtain ⟨rm, HRM⟩ : ∃ r, Hid (rmV c q st xs cs now un = r) := ⟨_, rfl⟩
  have hlb := pkV_bd (c := c) (cs := cs) (now := now) (un := un) i
  rw [HPV.out] at hlb
  rw [HE.out, HRM.out]
  have hrm := HRM.out
  unfold rmV at hrm
  rw [HE.out, HPV.out] at hrm
  obtain ⟨⟨l1, l2⟩, l3, l4⟩ := hlb
  have hq0 := i.1
  by_cases h0 : er = 0
  · obtain rfl := h0
    rw [if_neg (by simp)] at hrm
    have w1 : IntKind.u64.wrap (p.st + p.rv) = p.st + p.rv := IntWalk.u64_in _ (by omega)
    by_cases hm : p.st + p.rv < q
    · obtain rfl : rm = q - (p.st + p.rv) := by omega
      have w2 : IntKind.u64.wrap (q - (p.st + p.rv)) = q - (p.st + p.rv) := IntWalk.u64_in _ (by omega)
      have d5 : decide (p.st + p.rv < q) = true := yb hm
      clear hrm
      go_enter Try.func56, Try.ntmps56
      go_wp2_with fail
      obtain ⟨V1, hV1⟩ : ∃ V : World, V = w.alloc (.cells #[.int .i64 c.nd, .int .u64 c.qo, .int .u64 c.la, .int .u64 c.wd, .int .u64 c.lo, .int .i64 c.re, .int .i64 c.rm, .int .i64 c.by', .int .i64 c.w0, .int .i64 c.w1, .int .i64 c.w2, .int .i64 c.rn, .int .i64 c.rd, .int .i64 c.bu, .int .i64 c.bl, .int .i64 c.ra] 35) := ⟨_, rfl⟩
      obtain ⟨V2, hV2⟩ : ∃ V : World, V = V1.alloc (.cells #[.int .u64 q, .int .u64 st, rs] 38) := ⟨_, rfl⟩
      rw [← hV1, ← hV2]
      have b1 : BoxN V2 (w.heap.size + 1) 38 #[.int .u64 q, .int .u64 st, rs] := by
        have s1 : V1.heap.size = w.heap.size + 1 := by rw [hV1]; simp
        have := BoxN.new V1 38 #[.int .u64 q, .int .u64 st, rs]
        rw [← hV2, s1] at this
        exact this
      have hB : Below w.heap.size w V2 := by rw [hV2, hV1]; exact (by repeat (first | assumption | exact Below.refl _ _ | apply Below.al | apply below_drewN | apply Below.drew | refine Below.next ?_ (by assumption)))
      clear hV1 hV2
      refine (peak_any c q st rs xs cs v now un i HWF.out hno hun _ (HR.out.keep hB) (HP.out.keep hB)).mono ?_
      rw [HPV.out, HE.out]
      rintro e w1 ⟨rfl, hb⟩
      have e0 : w1.cell? ⟨w.heap.size + 1, 0, none⟩ = some (.int .u64 q) := (b1.below hb).cell 0
      have hz1 := (b1.below hb).lt
      have hB := Below.next hB hb
      clear hb b1
      go_wp2_with fail
      go_ret2
      exact ⟨rfl, (by repeat (first | assumption | exact Below.refl _ _ | apply Below.al | apply below_drewN | apply Below.drew | refine Below.next ?_ (by assumption)))⟩
    · obtain rfl : rm = 0 := by omega
      have d5 : decide (p.st + p.rv < q) = false := nb hm
      clear hrm
      go_enter Try.func56, Try.ntmps56
      go_wp2_with fail
      obtain ⟨V1, hV1⟩ : ∃ V : World, V = w.alloc (.cells #[.int .i64 c.nd, .int .u64 c.qo, .int .u64 c.la, .int .u64 c.wd, .int .u64 c.lo, .int .i64 c.re, .int .i64 c.rm, .int .i64 c.by', .int .i64 c.w0, .int .i64 c.w1, .int .i64 c.w2, .int .i64 c.rn, .int .i64 c.rd, .int .i64 c.bu, .int .i64 c.bl, .int .i64 c.ra] 35) := ⟨_, rfl⟩
      obtain ⟨V2, hV2⟩ : ∃ V : World, V = V1.alloc (.cells #[.int .u64 q, .int .u64 st, rs] 38) := ⟨_, rfl⟩
      rw [← hV1, ← hV2]
      have b1 : BoxN V2 (w.heap.size + 1) 38 #[.int .u64 q, .int .u64 st, rs] := by
        have s1 : V1.heap.size = w.heap.size + 1 := by rw [hV1]; simp
        have := BoxN.new V1 38 #[.int .u64 q, .int .u64 st, rs]
        rw [← hV2, s1] at this
        exact this
      have hB : Below w.heap.size w V2 := by rw [hV2, hV1]; exact (by repeat (first | assumption | exact Below.refl _ _ | apply Below.al | apply below_drewN | apply Below.drew | refine Below.next ?_ (by assumption)))
      clear hV1 hV2
      refine (peak_any c q st rs xs cs v now un i HWF.out hno hun _ (HR.out.keep hB) (HP.out.keep hB)).mono ?_
      rw [HPV.out, HE.out]
      rintro e w1 ⟨rfl, hb⟩
      have e0 : w1.cell? ⟨w.heap.size + 1, 0, none⟩ = some (.int .u64 q) := (b1.below hb).cell 0
      have hz1 := (b1.below hb).lt
      have hB := Below.next hB hb
      clear hb b1
      go_wp2_with fail
      go_ret2
      exact ⟨rfl, (by repeat (first | assumption | exact Below.refl _ _ | apply Below.al | apply below_drewN | apply Below.drew | refine Below.next ?_ (by assumption)))⟩
  · rw [if_pos h0] at hrm
    obtain rfl : rm = 0 := hrm.symm
    have d1 : (er != 0) = true := by simpa using h0
    clear hrm h0
    go_enter Try.func56, Try.ntmps56
    go_wp2_with fail
    refine (peak_any c q st rs xs cs v now un i HWF.out hno hun _ (HR.out.keep (by repeat (first | assumption | exact Below.refl _ _ | apply Below.al | apply below_drewN | apply Below.drew | refine Below.next ?_ (by assumption)))) (HP.out.keep (by repeat (first | assumption | exact Below.refl _ _ | apply Below.al | apply below_drewN | apply Below.drew | refine Below.next ?_ (by assumption))))).mono ?_
    rw [HPV.out, HE.out]
    rintro e w1 ⟨rfl, hb⟩
    have hB : Below w.heap.size w w1 := (by repeat (first | assumption | exact Below.refl _ _ | apply Below.al | apply below_drewN | apply Below.drew | refine Below.next ?_ (by assumption)))
    clear hb
    go_wp2_with fail
    go_ret2
    exact ⟨rfl, (by repeat (first | assumption | exact Below.refl _ _ | apply Below.al | apply below_drewN | apply Below.drew | refine Below.next ?_ (by assumption)))⟩
set_option maxHeartbeats 2000000 in
theorem rroom_any (c : Cf) (q st : Int) (rs : Value) (xs : List Int) (cs : List Ct) (v : Value) (now un : Int) (i : Inp q st xs) (hno : Ib now) (hun : Ib un) (w : World) (h : RdI .u64 w rs xs) (hp : RdC w v cs) :
    Calls Try.prog 58 #[c.v, Sv q st rs, v, .int .i64 now, .int .i64 un] w fun e w' => e = .returned (.tuple #[.int .u64 (rmV c q st xs cs now un), .int .i64 (fck c q st xs cs now un)]) ∧ Below w.heap.size w w' := by
  have HR := Lib.hid h
  have HP := Lib.hid hp
  clear h hp
  obtain ⟨p, HPV⟩ : ∃ p, Hid (pkV c q st xs cs now un = p) := ⟨_, rfl⟩
  obtain ⟨er, HE⟩ : ∃ er, Hid (fck c q st xs cs now un = er) := ⟨_, rfl⟩
  obtain ⟨rm, HRM⟩ : ∃ r, Hid (rmV c q st xs cs now un = r) := ⟨_, rfl⟩
  have hlb := pkV_bd (c := c) (cs := cs) (now := now) (un := un) i
  rw [HPV.out] at hlb
  rw [HE.out, HRM.out]
  have hrm := HRM.out
  unfold rmV at hrm
  rw [HE.out, HPV.out] at hrm
  obtain ⟨⟨l1, l2⟩, l3, l4⟩ := hlb
  have hq0 := i.1
  by_cases h0 : er = 0
  · obtain rfl := h0
    rw [if_neg (by simp)] at hrm
    have w1 : IntKind.u64.wrap (p.st + p.rv) = p.st + p.rv := IntWalk.u64_in _ (by omega)
    by_cases hm : p.st + p.rv < q
    · obtain rfl : rm = q - (p.st + p.rv) := by omega
      have w2 : IntKind.u64.wrap (q - (p.st + p.rv)) = q - (p.st + p.rv) := IntWalk.u64_in _ (by omega)
      have d5 : decide (p.st + p.rv < q) = true := yb hm
      clear hrm
      go_enter Try.func58, Try.ntmps58
      go_wp2_with fail
      obtain ⟨V1, hV1⟩ : ∃ V : World, V = w.alloc (.cells #[.int .i64 c.nd, .int .u64 c.qo, .int .u64 c.la, .int .u64 c.wd, .int .u64 c.lo, .int .i64 c.re, .int .i64 c.rm, .int .i64 c.by', .int .i64 c.w0, .int .i64 c.w1, .int .i64 c.w2, .int .i64 c.rn, .int .i64 c.rd, .int .i64 c.bu, .int .i64 c.bl, .int .i64 c.ra] 35) := ⟨_, rfl⟩
      obtain ⟨V2, hV2⟩ : ∃ V : World, V = V1.alloc (.cells #[.int .u64 q, .int .u64 st, rs] 38) := ⟨_, rfl⟩
      rw [← hV1, ← hV2]
      have b1 : BoxN V2 (w.heap.size + 1) 38 #[.int .u64 q, .int .u64 st, rs] := by
        have s1 : V1.heap.size = w.heap.size + 1 := by rw [hV1]; simp
        have := BoxN.new V1 38 #[.int .u64 q, .int .u64 st, rs]
        rw [← hV2, s1] at this
        exact this
      have hB : Below w.heap.size w V2 := by rw [hV2, hV1]; exact (by repeat (first | assumption | exact Below.refl _ _ | apply Below.al | apply below_drewN | apply Below.drew | refine Below.next ?_ (by assumption)))
      clear hV1 hV2
      refine (rpeak_any c q st rs xs cs v now un i hno hun _ (HR.out.keep hB) (HP.out.keep hB)).mono ?_
      rw [HPV.out, HE.out]
      rintro e w1 ⟨rfl, hb⟩
      have e0 : w1.cell? ⟨w.heap.size + 1, 0, none⟩ = some (.int .u64 q) := (b1.below hb).cell 0
      have hz1 := (b1.below hb).lt
      have hB := Below.next hB hb
      clear hb b1
      go_wp2_with fail
      go_ret2
      exact ⟨rfl, (by repeat (first | assumption | exact Below.refl _ _ | apply Below.al | apply below_drewN | apply Below.drew | refine Below.next ?_ (by assumption)))⟩
    · obtain rfl : rm = 0 := by omega
      have d5 : decide (p.st + p.rv < q) = false := nb hm
      clear hrm
      go_enter Try.func58, Try.ntmps58
      go_wp2_with fail
      obtain ⟨V1, hV1⟩ : ∃ V : World, V = w.alloc (.cells #[.int .i64 c.nd, .int .u64 c.qo, .int .u64 c.la, .int .u64 c.wd, .int .u64 c.lo, .int .i64 c.re, .int .i64 c.rm, .int .i64 c.by', .int .i64 c.w0, .int .i64 c.w1, .int .i64 c.w2, .int .i64 c.rn, .int .i64 c.rd, .int .i64 c.bu, .int .i64 c.bl, .int .i64 c.ra] 35) := ⟨_, rfl⟩
      obtain ⟨V2, hV2⟩ : ∃ V : World, V = V1.alloc (.cells #[.int .u64 q, .int .u64 st, rs] 38) := ⟨_, rfl⟩
      rw [← hV1, ← hV2]
      have b1 : BoxN V2 (w.heap.size + 1) 38 #[.int .u64 q, .int .u64 st, rs] := by
        have s1 : V1.heap.size = w.heap.size + 1 := by rw [hV1]; simp
        have := BoxN.new V1 38 #[.int .u64 q, .int .u64 st, rs]
        rw [← hV2, s1] at this
        exact this
      have hB : Below w.heap.size w V2 := by rw [hV2, hV1]; exact (by repeat (first | assumption | exact Below.refl _ _ | apply Below.al | apply below_drewN | apply Below.drew | refine Below.next ?_ (by assumption)))
      clear hV1 hV2
      refine (rpeak_any c q st rs xs cs v now un i hno hun _ (HR.out.keep hB) (HP.out.keep hB)).mono ?_
      rw [HPV.out, HE.out]
      rintro e w1 ⟨rfl, hb⟩
      have e0 : w1.cell? ⟨w.heap.size + 1, 0, none⟩ = some (.int .u64 q) := (b1.below hb).cell 0
      have hz1 := (b1.below hb).lt
      have hB := Below.next hB hb
      clear hb b1
      go_wp2_with fail
      go_ret2
      exact ⟨rfl, (by repeat (first | assumption | exact Below.refl _ _ | apply Below.al | apply below_drewN | apply Below.drew | refine Below.next ?_ (by assumption)))⟩
  · rw [if_pos h0] at hrm
    obtain rfl : rm = 0 := hrm.symm
    have d1 : (er != 0) = true := by simpa using h0
    clear hrm h0
    go_enter Try.func58, Try.ntmps58
    go_wp2_with fail
    refine (rpeak_any c q st rs xs cs v now un i hno hun _ (HR.out.keep (by repeat (first | assumption | exact Below.refl _ _ | apply Below.al | apply below_drewN | apply Below.drew | refine Below.next ?_ (by assumption)))) (HP.out.keep (by repeat (first | assumption | exact Below.refl _ _ | apply Below.al | apply below_drewN | apply Below.drew | refine Below.next ?_ (by assumption))))).mono ?_
    rw [HPV.out, HE.out]
    rintro e w1 ⟨rfl, hb⟩
    have hB : Below w.heap.size w w1 := (by repeat (first | assumption | exact Below.refl _ _ | apply Below.al | apply below_drewN | apply Below.drew | refine Below.next ?_ (by assumption)))
    clear hb
    go_wp2_with fail
    go_ret2
    exact ⟨rfl, (by repeat (first | assumption | exact Below.refl _ _ | apply Below.al | apply below_drewN | apply Below.drew | refine Below.next ?_ (by assumption)))⟩
/-- what Fits answers -/
def ftV (c : Cf) (q st : Int) (xs : List Int) (cs : List Ct) (now un sz : Int) : Bool := decide (fck c q st xs cs now un = 0) && decide (sz ≤ rmV c q st xs cs now un)
set_option maxHeartbeats 2000000 in
theorem fits_any (c : Cf) (q st : Int) (rs : Value) (xs : List Int) (cs : List Ct) (v : Value) (now un sz : Int) (i : Inp q st xs) (hwf : ∀ c, c ∈ cs → Wf c) (hno : Ib now) (hun : Ib un) (w : World) (h : RdI .u64 w rs xs) (hp : RdC w v cs) :
    Calls Try.prog 59 #[c.v, Sv q st rs, v, .int .i64 now, .int .i64 un, .int .u64 sz] w fun e w' => e = .returned (.tuple #[.bool (ftV c q st xs cs now un sz), .int .i64 (fck c q st xs cs now un)]) ∧ Below w.heap.size w w' := by
  have HWF := Lib.hid hwf
  clear hwf
  have HR := Lib.hid h
  have HP := Lib.hid hp
  clear h hp
  obtain ⟨er, HE⟩ : ∃ er, Hid (fck c q st xs cs now un = er) := ⟨_, rfl⟩
  obtain ⟨rm, HRM⟩ : ∃ r, Hid (rmV c q st xs cs now un = r) := ⟨_, rfl⟩
  obtain ⟨bb, HBB⟩ : ∃ b, Hid (ftV c q st xs cs now un sz = b) := ⟨_, rfl⟩
  rw [HE.out, HBB.out]
  have hbb := HBB.out
  unfold ftV at hbb
  rw [HE.out, HRM.out] at hbb
  by_cases h0 : er = 0
  · obtain rfl := h0
    by_cases h1 : sz ≤ rm
    · have d2 : decide (sz ≤ rm) = true := yb h1
      obtain rfl : bb = true := by rw [← hbb, d2]; rfl
      clear hbb h1
      go_enter Try.func59, Try.ntmps59
      go_wp2_with fail
      refine (room_any c q st rs xs cs v now un i HWF.out hno hun _ (HR.out.keep (by repeat (first | assumption | exact Below.refl _ _ | apply Below.al | apply below_drewN | apply Below.drew | refine Below.next ?_ (by assumption)))) (HP.out.keep (by repeat (first | assumption | exact Below.refl _ _ | apply Below.al | apply below_drewN | apply Below.drew | refine Below.next ?_ (by assumption))))).mono ?_
      rw [HRM.out, HE.out]
      rintro e w1 ⟨rfl, hb⟩
      have hB : Below w.heap.size w w1 := (by repeat (first | assumption | exact Below.refl _ _ | apply Below.al | apply below_drewN | apply Below.drew | refine Below.next ?_ (by assumption)))
      clear hb
      go_wp2_with fail
      go_ret2
      exact ⟨rfl, hB⟩
    · have d2 : decide (sz ≤ rm) = false := nb h1
      obtain rfl : bb = false := by rw [← hbb, d2]; rfl
      clear hbb h1
      go_enter Try.func59, Try.ntmps59
      go_wp2_with fail
      refine (room_any c q st rs xs cs v now un i HWF.out hno hun _ (HR.out.keep (by repeat (first | assumption | exact Below.refl _ _ | apply Below.al | apply below_drewN | apply Below.drew | refine Below.next ?_ (by assumption)))) (HP.out.keep (by repeat (first | assumption | exact Below.refl _ _ | apply Below.al | apply below_drewN | apply Below.drew | refine Below.next ?_ (by assumption))))).mono ?_
      rw [HRM.out, HE.out]
      rintro e w1 ⟨rfl, hb⟩
      have hB : Below w.heap.size w w1 := (by repeat (first | assumption | exact Below.refl _ _ | apply Below.al | apply below_drewN | apply Below.drew | refine Below.next ?_ (by assumption)))
      clear hb
      go_wp2_with fail
      go_ret2
      exact ⟨rfl, hB⟩
  · have d1 : (er == 0) = false := by simpa using h0
    obtain rfl : bb = false := by rw [← hbb, nb h0]; rfl
    clear hbb h0
    go_enter Try.func59, Try.ntmps59
    go_wp2_with fail
    refine (room_any c q st rs xs cs v now un i HWF.out hno hun _ (HR.out.keep (by repeat (first | assumption | exact Below.refl _ _ | apply Below.al | apply below_drewN | apply Below.drew | refine Below.next ?_ (by assumption)))) (HP.out.keep (by repeat (first | assumption | exact Below.refl _ _ | apply Below.al | apply below_drewN | apply Below.drew | refine Below.next ?_ (by assumption))))).mono ?_
    rw [HRM.out, HE.out]
    rintro e w1 ⟨rfl, hb⟩
    have hB : Below w.heap.size w w1 := (by repeat (first | assumption | exact Below.refl _ _ | apply Below.al | apply below_drewN | apply Below.drew | refine Below.next ?_ (by assumption)))
    clear hb
    go_wp2_with fail
    go_ret2
    exact ⟨rfl, hB⟩
set_option maxHeartbeats 2000000 in
theorem rfits_any (c : Cf) (q st : Int) (rs : Value) (xs : List Int) (cs : List Ct) (v : Value) (now un sz : Int) (i : Inp q st xs) (hno : Ib now) (hun : Ib un) (w : World) (h : RdI .u64 w rs xs) (hp : RdC w v cs) :
    Calls Try.prog 60 #[c.v, Sv q st rs, v, .int .i64 now, .int .i64 un, .int .u64 sz] w fun e w' => e = .returned (.tuple #[.bool (ftV c q st xs cs now un sz), .int .i64 (fck c q st xs cs now un)]) ∧ Below w.heap.size w w' := by
  have HR := Lib.hid h
  have HP := Lib.hid hp
  clear h hp
  obtain ⟨er, HE⟩ : ∃ er, Hid (fck c q st xs cs now un = er) := ⟨_, rfl⟩
  obtain ⟨rm, HRM⟩ : ∃ r, Hid (rmV c q st xs cs now un = r) := ⟨_, rfl⟩
  obtain ⟨bb, HBB⟩ : ∃ b, Hid (ftV c q st xs cs now un sz = b) := ⟨_, rfl⟩
  rw [HE.out, HBB.out]
  have hbb := HBB.out
  unfold ftV at hbb
  rw [HE.out, HRM.out] at hbb
  by_cases h0 : er = 0
  · obtain rfl := h0
    by_cases h1 : sz ≤ rm
    · have d2 : decide (sz ≤ rm) = true := yb h1
      obtain rfl : bb = true := by rw [← hbb, d2]; rfl
      clear hbb h1
      go_enter Try.func60, Try.ntmps60
      go_wp2_with fail
      refine (rroom_any c q st rs xs cs v now un i hno hun _ (HR.out.keep (by repeat (first | assumption | exact Below.refl _ _ | apply Below.al | apply below_drewN | apply Below.drew | refine Below.next ?_ (by assumption)))) (HP.out.keep (by repeat (first | assumption | exact Below.refl _ _ | apply Below.al | apply below_drewN | apply Below.drew | refine Below.next ?_ (by assumption))))).mono ?_
      rw [HRM.out, HE.out]
      rintro e w1 ⟨rfl, hb⟩
      have hB : Below w.heap.size w w1 := (by repeat (first | assumption | exact Below.refl _ _ | apply Below.al | apply below_drewN | apply Below.drew | refine Below.next ?_ (by assumption)))
      clear hb
      go_wp2_with fail
      go_ret2
      exact ⟨rfl, hB⟩
    · have d2 : decide (sz ≤ rm) = false := nb h1
      obtain rfl : bb = false := by rw [← hbb, d2]; rfl
      clear hbb h1
      go_enter Try.func60, Try.ntmps60
      go_wp2_with fail
      refine (rroom_any c q st rs xs cs v now un i hno hun _ (HR.out.keep (by repeat (first | assumption | exact Below.refl _ _ | apply Below.al | apply below_drewN | apply Below.drew | refine Below.next ?_ (by assumption)))) (HP.out.keep (by repeat (first | assumption | exact Below.refl _ _ | apply Below.al | apply below_drewN | apply Below.drew | refine Below.next ?_ (by assumption))))).mono ?_
      rw [HRM.out, HE.out]
      rintro e w1 ⟨rfl, hb⟩
      have hB : Below w.heap.size w w1 := (by repeat (first | assumption | exact Below.refl _ _ | apply Below.al | apply below_drewN | apply Below.drew | refine Below.next ?_ (by assumption)))
      clear hb
      go_wp2_with fail
      go_ret2
      exact ⟨rfl, hB⟩
  · have d1 : (er == 0) = false := by simpa using h0
    obtain rfl : bb = false := by rw [← hbb, nb h0]; rfl
    clear hbb h0
    go_enter Try.func60, Try.ntmps60
    go_wp2_with fail
    refine (rroom_any c q st rs xs cs v now un i hno hun _ (HR.out.keep (by repeat (first | assumption | exact Below.refl _ _ | apply Below.al | apply below_drewN | apply Below.drew | refine Below.next ?_ (by assumption)))) (HP.out.keep (by repeat (first | assumption | exact Below.refl _ _ | apply Below.al | apply below_drewN | apply Below.drew | refine Below.next ?_ (by assumption))))).mono ?_
    rw [HRM.out, HE.out]
    rintro e w1 ⟨rfl, hb⟩
    have hB : Below w.heap.size w w1 := (by repeat (first | assumption | exact Below.refl _ _ | apply Below.al | apply below_drewN | apply Below.drew | refine Below.next ?_ (by assumption)))
    clear hb
    go_wp2_with fail
    go_ret2
    exact ⟨rfl, hB⟩
end Go.Proofs.Ytnbjdgjopdeolaa
