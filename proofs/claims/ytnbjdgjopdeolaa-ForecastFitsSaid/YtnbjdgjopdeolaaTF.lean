

/- ForecastFits: the walk of the law. -/
import Derived.Test.YtnbjdgjopdeolaaRM
import Derived.Test.YtnbjdgjopdeolaaFQ
namespace Go.Proofs.Ytnbjdgjopdeolaa
open Go.RowKit Go.Shelf
set_option linter.unusedSimpArgs false
set_option linter.unusedVariables false
set_option maxRecDepth 100000


set_option maxHeartbeats 4000000 in
theorem lawFits (c : Cf) (q st : Int) (rs : Value) (xs : List Int) (cs : List Ct) (v : Value) (now un sz : Int) (i : Inp q st xs) (hwf : ∀ c, c ∈ cs → Wf c) (hno : Ib now) (hun : Ib un) (w : World) (h : RdI .u64 w rs xs) (hp : RdC w v cs) :
    Calls Try.prog 16 #[c.v, Sv q st rs, v, .agg #[.int .i64 now, .int .i64 un, .int .u64 sz]] w fun e w' => e = .returned (.bool true) ∧ Below w.heap.size w w' := by
  obtain ⟨p, HPV⟩ : ∃ p, Hid (pkV c q st xs cs now un = p) := ⟨_, rfl⟩
  obtain ⟨er, HE⟩ : ∃ er, Hid (fck c q st xs cs now un = er) := ⟨_, rfl⟩
  obtain ⟨rm, HRM⟩ : ∃ r, Hid (rmV c q st xs cs now un = r) := ⟨_, rfl⟩
  obtain ⟨bb, HBB⟩ : ∃ b, Hid (ftV c q st xs cs now un sz = b) := ⟨_, rfl⟩
  obtain ⟨ra, rc, rfl⟩ := h.form
  obtain ⟨pa, pc, rfl⟩ := hp.form
  obtain ⟨RN, hRN⟩ : ∃ n, xs.length = n := ⟨_, rfl⟩
  obtain ⟨PN, hPN⟩ : ∃ n, cs.length = n := ⟨_, rfl⟩
  rw [hRN] at h ⊢
  rw [hPN] at hp ⊢
  have HR := Lib.hid h
  have HP := Lib.hid hp
  have HWF := Lib.hid hwf
  clear h hp hwf hRN hPN
  go_enter Try.func16, Try.ntmps16
  go_wp2_with fail
  obtain ⟨W1, hW1⟩ : ∃ W : World, W = ((w.alloc (.cells #[.int .i64 c.nd, .int .u64 c.qo, .int .u64 c.la, .int .u64 c.wd, .int .u64 c.lo, .int .i64 c.re, .int .i64 c.rm, .int .i64 c.by', .int .i64 c.w0, .int .i64 c.w1, .int .i64 c.w2, .int .i64 c.rn, .int .i64 c.rd, .int .i64 c.bu, .int .i64 c.bl, .int .i64 c.ra] 35)).alloc (.cells #[.int .u64 q, .int .u64 st, .slice ra RN rc] 38)).alloc (.cells #[.int .i64 now, .int .i64 un, .int .u64 sz] 41) := ⟨_, rfl⟩
  have hB : Below w.heap.size w W1 := by rw [hW1]; exact (by repeat (first | assumption | exact Below.refl _ _ | apply Below.al | apply below_drewN | apply Below.drew | refine Below.next ?_ (by assumption)))
  have b0 : BoxN W1 w.heap.size 35 #[.int .i64 c.nd, .int .u64 c.qo, .int .u64 c.la, .int .u64 c.wd, .int .u64 c.lo, .int .i64 c.re, .int .i64 c.rm, .int .i64 c.by', .int .i64 c.w0, .int .i64 c.w1, .int .i64 c.w2, .int .i64 c.rn, .int .i64 c.rd, .int .i64 c.bu, .int .i64 c.bl, .int .i64 c.ra] := by rw [hW1]; exact heap_al _ (heap_al _ (heap_last w _))
  have b1 : BoxN W1 (w.heap.size + 1) 38 #[.int .u64 q, .int .u64 st, .slice ra RN rc] := by
    have := BoxN.new (w.alloc (.cells #[.int .i64 c.nd, .int .u64 c.qo, .int .u64 c.la, .int .u64 c.wd, .int .u64 c.lo, .int .i64 c.re, .int .i64 c.rm, .int .i64 c.by', .int .i64 c.w0, .int .i64 c.w1, .int .i64 c.w2, .int .i64 c.rn, .int .i64 c.rd, .int .i64 c.bu, .int .i64 c.bl, .int .i64 c.ra] 35)) 38 #[.int .u64 q, .int .u64 st, .slice ra RN rc]
    rw [World.size_alloc] at this
    rw [hW1]; exact this.alloc _
  have b2 : BoxN W1 (w.heap.size + 2) 41 #[.int .i64 now, .int .i64 un, .int .u64 sz] := by
    have := BoxN.new ((w.alloc (.cells #[.int .i64 c.nd, .int .u64 c.qo, .int .u64 c.la, .int .u64 c.wd, .int .u64 c.lo, .int .i64 c.re, .int .i64 c.rm, .int .i64 c.by', .int .i64 c.w0, .int .i64 c.w1, .int .i64 c.w2, .int .i64 c.rn, .int .i64 c.rd, .int .i64 c.bu, .int .i64 c.bl, .int .i64 c.ra] 35)).alloc (.cells #[.int .u64 q, .int .u64 st, .slice ra RN rc] 38)) 41 #[.int .i64 now, .int .i64 un, .int .u64 sz]
    rw [World.size_alloc, World.size_alloc] at this
    rw [hW1]; exact this
  rw [← hW1]
  clear hW1
  refine (asked_any q st ra RN rc pa PN pc un now hno hun _).mono ?_
  rintro e w1 ⟨bb, rfl, hb⟩
  have b0 := b0.below hb
  have b1 := b1.below hb
  have b2 := b2.below hb
  have hB := Below.next hB hb
  obtain ⟨wn, rfl⟩ : ∃ wn, wn = w1 := ⟨_, rfl⟩
  clear hb
  cases bb
  · clear b0 b1 b2
    go_wp2_with fail
    refine (awake26_any _).mono ?_
    rintro e w2 ⟨rfl, hb⟩
    have hB := Below.next hB hb
    clear hb
    go_wp2_with fail
    go_ret
    exact ⟨rfl, hB⟩
  as_aux_lemma =>
    have a0 : wn.cell? ⟨w.heap.size, 0, none⟩ = some (.int .i64 c.nd) := b0.cell 0
    have a1 : wn.cell? ⟨w.heap.size, 1, none⟩ = some (.int .u64 c.qo) := b0.cell 1
    have a2 : wn.cell? ⟨w.heap.size, 2, none⟩ = some (.int .u64 c.la) := b0.cell 2
    have a3 : wn.cell? ⟨w.heap.size, 3, none⟩ = some (.int .u64 c.wd) := b0.cell 3
    have a4 : wn.cell? ⟨w.heap.size, 4, none⟩ = some (.int .u64 c.lo) := b0.cell 4
    have a5 : wn.cell? ⟨w.heap.size, 5, none⟩ = some (.int .i64 c.re) := b0.cell 5
    have a6 : wn.cell? ⟨w.heap.size, 6, none⟩ = some (.int .i64 c.rm) := b0.cell 6
    have a7 : wn.cell? ⟨w.heap.size, 7, none⟩ = some (.int .i64 c.by') := b0.cell 7
    have a8 : wn.cell? ⟨w.heap.size, 8, none⟩ = some (.int .i64 c.w0) := b0.cell 8
    have a9 : wn.cell? ⟨w.heap.size, 9, none⟩ = some (.int .i64 c.w1) := b0.cell 9
    have a10 : wn.cell? ⟨w.heap.size, 10, none⟩ = some (.int .i64 c.w2) := b0.cell 10
    have a11 : wn.cell? ⟨w.heap.size, 11, none⟩ = some (.int .i64 c.rn) := b0.cell 11
    have a12 : wn.cell? ⟨w.heap.size, 12, none⟩ = some (.int .i64 c.rd) := b0.cell 12
    have a13 : wn.cell? ⟨w.heap.size, 13, none⟩ = some (.int .i64 c.bu) := b0.cell 13
    have a14 : wn.cell? ⟨w.heap.size, 14, none⟩ = some (.int .i64 c.bl) := b0.cell 14
    have a15 : wn.cell? ⟨w.heap.size, 15, none⟩ = some (.int .i64 c.ra) := b0.cell 15
    have e0 : wn.cell? ⟨w.heap.size + 1, 0, none⟩ = some (.int .u64 q) := b1.cell 0
    have e1 : wn.cell? ⟨w.heap.size + 1, 1, none⟩ = some (.int .u64 st) := b1.cell 1
    have e2 : wn.cell? ⟨w.heap.size + 1, 2, none⟩ = some (.slice ra RN rc) := b1.cell 2
    have x0 : wn.cell? ⟨w.heap.size + 2, 0, none⟩ = some (.int .i64 now) := b2.cell 0
    have x1 : wn.cell? ⟨w.heap.size + 2, 1, none⟩ = some (.int .i64 un) := b2.cell 1
    have x2 : wn.cell? ⟨w.heap.size + 2, 2, none⟩ = some (.int .u64 sz) := b2.cell 2
    have HB0 := Lib.hid b0
    have HB1 := Lib.hid b1
    have HB2 := Lib.hid b2
    clear b0 b1 b2
    go_wp2_with fail
    clear a0 a1 a2 a3 a4 a5 a6 a7 a8 a9 a10 a11 a12 a13 a14 a15 e0 e1 e2 x0 x1 x2
    have b0 := HB0.out
    have b1 := HB1.out
    have b2 := HB2.out
    clear HB0 HB1 HB2
    refine (peak_any c q st _ xs cs _ now un i HWF.out hno hun _ (HR.out.keep hB) (HP.out.keep hB)).mono ?_
    rw [HPV.out, HE.out]
    rintro e w1 ⟨rfl, hb⟩
    obtain ⟨W2, hW2⟩ : ∃ W : World, W = w1.alloc (.cells #[.int .i64 p.tk, .int .u64 p.st, .int .u64 p.rv] 57) := ⟨_, rfl⟩
    have b3 : BoxN W2 w1.heap.size 57 #[.int .i64 p.tk, .int .u64 p.st, .int .u64 p.rv] := by rw [hW2]; exact BoxN.new w1 _ _
    have hb : Below wn.heap.size wn W2 := by rw [hW2]; exact Below.al hb _
    obtain ⟨Xb3, hXb3⟩ : ∃ X, X = w1.heap.size := ⟨_, rfl⟩
    rw [← hXb3] at b3
    have b0 := b0.below hb
    have b1 := b1.below hb
    have b2 := b2.below hb
    skip
    have hB := Below.next hB hb
    have HN0 := Lib.hid b0
    have HN1 := Lib.hid b1
    have HN2 := Lib.hid b2
    have HN3 := Lib.hid b3
    clear b0 b1 b2 b3 hb
    go_upto_region 4 with fail
    rw [← hW2, ← hXb3]
    clear hW2 hXb3
    have b0 := HN0.out
    have b1 := HN1.out
    have b2 := HN2.out
    have b3 := HN3.out
    clear HN0 HN1 HN2 HN3
    obtain ⟨wn, rfl⟩ : ∃ wn, wn = W2 := ⟨_, rfl⟩
    have a0 : wn.cell? ⟨w.heap.size, 0, none⟩ = some (.int .i64 c.nd) := b0.cell 0
    have a1 : wn.cell? ⟨w.heap.size, 1, none⟩ = some (.int .u64 c.qo) := b0.cell 1
    have a2 : wn.cell? ⟨w.heap.size, 2, none⟩ = some (.int .u64 c.la) := b0.cell 2
    have a3 : wn.cell? ⟨w.heap.size, 3, none⟩ = some (.int .u64 c.wd) := b0.cell 3
    have a4 : wn.cell? ⟨w.heap.size, 4, none⟩ = some (.int .u64 c.lo) := b0.cell 4
    have a5 : wn.cell? ⟨w.heap.size, 5, none⟩ = some (.int .i64 c.re) := b0.cell 5
    have a6 : wn.cell? ⟨w.heap.size, 6, none⟩ = some (.int .i64 c.rm) := b0.cell 6
    have a7 : wn.cell? ⟨w.heap.size, 7, none⟩ = some (.int .i64 c.by') := b0.cell 7
    have a8 : wn.cell? ⟨w.heap.size, 8, none⟩ = some (.int .i64 c.w0) := b0.cell 8
    have a9 : wn.cell? ⟨w.heap.size, 9, none⟩ = some (.int .i64 c.w1) := b0.cell 9
    have a10 : wn.cell? ⟨w.heap.size, 10, none⟩ = some (.int .i64 c.w2) := b0.cell 10
    have a11 : wn.cell? ⟨w.heap.size, 11, none⟩ = some (.int .i64 c.rn) := b0.cell 11
    have a12 : wn.cell? ⟨w.heap.size, 12, none⟩ = some (.int .i64 c.rd) := b0.cell 12
    have a13 : wn.cell? ⟨w.heap.size, 13, none⟩ = some (.int .i64 c.bu) := b0.cell 13
    have a14 : wn.cell? ⟨w.heap.size, 14, none⟩ = some (.int .i64 c.bl) := b0.cell 14
    have a15 : wn.cell? ⟨w.heap.size, 15, none⟩ = some (.int .i64 c.ra) := b0.cell 15
    have e0 : wn.cell? ⟨w.heap.size + 1, 0, none⟩ = some (.int .u64 q) := b1.cell 0
    have e1 : wn.cell? ⟨w.heap.size + 1, 1, none⟩ = some (.int .u64 st) := b1.cell 1
    have e2 : wn.cell? ⟨w.heap.size + 1, 2, none⟩ = some (.slice ra RN rc) := b1.cell 2
    have x0 : wn.cell? ⟨w.heap.size + 2, 0, none⟩ = some (.int .i64 now) := b2.cell 0
    have x1 : wn.cell? ⟨w.heap.size + 2, 1, none⟩ = some (.int .i64 un) := b2.cell 1
    have x2 : wn.cell? ⟨w.heap.size + 2, 2, none⟩ = some (.int .u64 sz) := b2.cell 2
    have HB0 := Lib.hid b0
    have HB1 := Lib.hid b1
    have HB2 := Lib.hid b2
    clear b0 b1 b2
    go_wp2_with fail
    clear a0 a1 a2 a3 a4 a5 a6 a7 a8 a9 a10 a11 a12 a13 a14 a15 e0 e1 e2 x0 x1 x2
    have b0 := HB0.out
    have b1 := HB1.out
    have b2 := HB2.out
    clear HB0 HB1 HB2
    refine (rpeak_any c q st _ xs cs _ now un i hno hun _ (HR.out.keep hB) (HP.out.keep hB)).mono ?_
    rw [HPV.out, HE.out]
    rintro e w1 ⟨rfl, hb⟩
    obtain ⟨W2, hW2⟩ : ∃ W : World, W = w1.alloc (.cells #[.int .i64 p.tk, .int .u64 p.st, .int .u64 p.rv] 57) := ⟨_, rfl⟩
    have b4 : BoxN W2 w1.heap.size 57 #[.int .i64 p.tk, .int .u64 p.st, .int .u64 p.rv] := by rw [hW2]; exact BoxN.new w1 _ _
    have hb : Below wn.heap.size wn W2 := by rw [hW2]; exact Below.al hb _
    obtain ⟨Xb4, hXb4⟩ : ∃ X, X = w1.heap.size := ⟨_, rfl⟩
    rw [← hXb4] at b4
    have b0 := b0.below hb
    have b1 := b1.below hb
    have b2 := b2.below hb
    have b3 := b3.below hb
    have hB := Below.next hB hb
    have HN0 := Lib.hid b0
    have HN1 := Lib.hid b1
    have HN2 := Lib.hid b2
    have HN3 := Lib.hid b4
    clear b0 b1 b2 b4 hb
    go_upto_region 5 with fail
    rw [← hW2, ← hXb4]
    clear hW2 hXb4
    have b0 := HN0.out
    have b1 := HN1.out
    have b2 := HN2.out
    have b4 := HN3.out
    clear HN0 HN1 HN2 HN3
    obtain ⟨wn, rfl⟩ : ∃ wn, wn = W2 := ⟨_, rfl⟩
    have x0 : wn.cell? ⟨Xb3, 0, none⟩ = some (.int .i64 p.tk) := b3.cell 0
    have x1 : wn.cell? ⟨Xb3, 1, none⟩ = some (.int .u64 p.st) := b3.cell 1
    have x2 : wn.cell? ⟨Xb3, 2, none⟩ = some (.int .u64 p.rv) := b3.cell 2
    have y0 : wn.cell? ⟨Xb4, 0, none⟩ = some (.int .i64 p.tk) := b4.cell 0
    have y1 : wn.cell? ⟨Xb4, 1, none⟩ = some (.int .u64 p.st) := b4.cell 1
    have y2 : wn.cell? ⟨Xb4, 2, none⟩ = some (.int .u64 p.rv) := b4.cell 2
    clear b3 b4
    have n2 : (er == er) = true := by simp
    have n3 : (rm == rm) = true := by simp
    have n4 : (bb == bb) = true := by simp
    have n5 : (er != er) = false := by simp
    have b0' := Lib.hid b0
    have b1' := Lib.hid b1
    have b2' := Lib.hid b2
    clear b0 b1 b2
    go_upto_region 7 with fail
    clear x0 x1 x2 y0 y1 y2
    have b0 := b0'.out
    have b1 := b1'.out
    have b2 := b2'.out
    clear b0' b1' b2'
    as_aux_lemma =>
      have a0 : wn.cell? ⟨w.heap.size, 0, none⟩ = some (.int .i64 c.nd) := b0.cell 0
      have a1 : wn.cell? ⟨w.heap.size, 1, none⟩ = some (.int .u64 c.qo) := b0.cell 1
      have a2 : wn.cell? ⟨w.heap.size, 2, none⟩ = some (.int .u64 c.la) := b0.cell 2
      have a3 : wn.cell? ⟨w.heap.size, 3, none⟩ = some (.int .u64 c.wd) := b0.cell 3
      have a4 : wn.cell? ⟨w.heap.size, 4, none⟩ = some (.int .u64 c.lo) := b0.cell 4
      have a5 : wn.cell? ⟨w.heap.size, 5, none⟩ = some (.int .i64 c.re) := b0.cell 5
      have a6 : wn.cell? ⟨w.heap.size, 6, none⟩ = some (.int .i64 c.rm) := b0.cell 6
      have a7 : wn.cell? ⟨w.heap.size, 7, none⟩ = some (.int .i64 c.by') := b0.cell 7
      have a8 : wn.cell? ⟨w.heap.size, 8, none⟩ = some (.int .i64 c.w0) := b0.cell 8
      have a9 : wn.cell? ⟨w.heap.size, 9, none⟩ = some (.int .i64 c.w1) := b0.cell 9
      have a10 : wn.cell? ⟨w.heap.size, 10, none⟩ = some (.int .i64 c.w2) := b0.cell 10
      have a11 : wn.cell? ⟨w.heap.size, 11, none⟩ = some (.int .i64 c.rn) := b0.cell 11
      have a12 : wn.cell? ⟨w.heap.size, 12, none⟩ = some (.int .i64 c.rd) := b0.cell 12
      have a13 : wn.cell? ⟨w.heap.size, 13, none⟩ = some (.int .i64 c.bu) := b0.cell 13
      have a14 : wn.cell? ⟨w.heap.size, 14, none⟩ = some (.int .i64 c.bl) := b0.cell 14
      have a15 : wn.cell? ⟨w.heap.size, 15, none⟩ = some (.int .i64 c.ra) := b0.cell 15
      have e0 : wn.cell? ⟨w.heap.size + 1, 0, none⟩ = some (.int .u64 q) := b1.cell 0
      have e1 : wn.cell? ⟨w.heap.size + 1, 1, none⟩ = some (.int .u64 st) := b1.cell 1
      have e2 : wn.cell? ⟨w.heap.size + 1, 2, none⟩ = some (.slice ra RN rc) := b1.cell 2
      have x0 : wn.cell? ⟨w.heap.size + 2, 0, none⟩ = some (.int .i64 now) := b2.cell 0
      have x1 : wn.cell? ⟨w.heap.size + 2, 1, none⟩ = some (.int .i64 un) := b2.cell 1
      have x2 : wn.cell? ⟨w.heap.size + 2, 2, none⟩ = some (.int .u64 sz) := b2.cell 2
      have HB0 := Lib.hid b0
      have HB1 := Lib.hid b1
      have HB2 := Lib.hid b2
      clear b0 b1 b2
      go_wp2_with fail
      clear a0 a1 a2 a3 a4 a5 a6 a7 a8 a9 a10 a11 a12 a13 a14 a15 e0 e1 e2 x0 x1 x2
      have b0 := HB0.out
      have b1 := HB1.out
      have b2 := HB2.out
      clear HB0 HB1 HB2
      refine (room_any c q st _ xs cs _ now un i HWF.out hno hun _ (HR.out.keep hB) (HP.out.keep hB)).mono ?_
      rw [HRM.out, HE.out]
      rintro e w1 ⟨rfl, hb⟩
      have b0 := b0.below hb
      have b1 := b1.below hb
      have b2 := b2.below hb
      have hB := Below.next hB hb
      obtain ⟨wn, rfl⟩ : ∃ wn, wn = w1 := ⟨_, rfl⟩
      clear hb
      have a0 : wn.cell? ⟨w.heap.size, 0, none⟩ = some (.int .i64 c.nd) := b0.cell 0
      have a1 : wn.cell? ⟨w.heap.size, 1, none⟩ = some (.int .u64 c.qo) := b0.cell 1
      have a2 : wn.cell? ⟨w.heap.size, 2, none⟩ = some (.int .u64 c.la) := b0.cell 2
      have a3 : wn.cell? ⟨w.heap.size, 3, none⟩ = some (.int .u64 c.wd) := b0.cell 3
      have a4 : wn.cell? ⟨w.heap.size, 4, none⟩ = some (.int .u64 c.lo) := b0.cell 4
      have a5 : wn.cell? ⟨w.heap.size, 5, none⟩ = some (.int .i64 c.re) := b0.cell 5
      have a6 : wn.cell? ⟨w.heap.size, 6, none⟩ = some (.int .i64 c.rm) := b0.cell 6
      have a7 : wn.cell? ⟨w.heap.size, 7, none⟩ = some (.int .i64 c.by') := b0.cell 7
      have a8 : wn.cell? ⟨w.heap.size, 8, none⟩ = some (.int .i64 c.w0) := b0.cell 8
      have a9 : wn.cell? ⟨w.heap.size, 9, none⟩ = some (.int .i64 c.w1) := b0.cell 9
      have a10 : wn.cell? ⟨w.heap.size, 10, none⟩ = some (.int .i64 c.w2) := b0.cell 10
      have a11 : wn.cell? ⟨w.heap.size, 11, none⟩ = some (.int .i64 c.rn) := b0.cell 11
      have a12 : wn.cell? ⟨w.heap.size, 12, none⟩ = some (.int .i64 c.rd) := b0.cell 12
      have a13 : wn.cell? ⟨w.heap.size, 13, none⟩ = some (.int .i64 c.bu) := b0.cell 13
      have a14 : wn.cell? ⟨w.heap.size, 14, none⟩ = some (.int .i64 c.bl) := b0.cell 14
      have a15 : wn.cell? ⟨w.heap.size, 15, none⟩ = some (.int .i64 c.ra) := b0.cell 15
      have e0 : wn.cell? ⟨w.heap.size + 1, 0, none⟩ = some (.int .u64 q) := b1.cell 0
      have e1 : wn.cell? ⟨w.heap.size + 1, 1, none⟩ = some (.int .u64 st) := b1.cell 1
      have e2 : wn.cell? ⟨w.heap.size + 1, 2, none⟩ = some (.slice ra RN rc) := b1.cell 2
      have x0 : wn.cell? ⟨w.heap.size + 2, 0, none⟩ = some (.int .i64 now) := b2.cell 0
      have x1 : wn.cell? ⟨w.heap.size + 2, 1, none⟩ = some (.int .i64 un) := b2.cell 1
      have x2 : wn.cell? ⟨w.heap.size + 2, 2, none⟩ = some (.int .u64 sz) := b2.cell 2
      have HB0 := Lib.hid b0
      have HB1 := Lib.hid b1
      have HB2 := Lib.hid b2
      clear b0 b1 b2
      go_wp2_with fail
      clear a0 a1 a2 a3 a4 a5 a6 a7 a8 a9 a10 a11 a12 a13 a14 a15 e0 e1 e2 x0 x1 x2
      have b0 := HB0.out
      have b1 := HB1.out
      have b2 := HB2.out
      clear HB0 HB1 HB2
      refine (rroom_any c q st _ xs cs _ now un i hno hun _ (HR.out.keep hB) (HP.out.keep hB)).mono ?_
      rw [HRM.out, HE.out]
      rintro e w1 ⟨rfl, hb⟩
      have b0 := b0.below hb
      have b1 := b1.below hb
      have b2 := b2.below hb
      have hB := Below.next hB hb
      obtain ⟨wn, rfl⟩ : ∃ wn, wn = w1 := ⟨_, rfl⟩
      clear hb
      as_aux_lemma =>
        have a0 : wn.cell? ⟨w.heap.size, 0, none⟩ = some (.int .i64 c.nd) := b0.cell 0
        have a1 : wn.cell? ⟨w.heap.size, 1, none⟩ = some (.int .u64 c.qo) := b0.cell 1
        have a2 : wn.cell? ⟨w.heap.size, 2, none⟩ = some (.int .u64 c.la) := b0.cell 2
        have a3 : wn.cell? ⟨w.heap.size, 3, none⟩ = some (.int .u64 c.wd) := b0.cell 3
        have a4 : wn.cell? ⟨w.heap.size, 4, none⟩ = some (.int .u64 c.lo) := b0.cell 4
        have a5 : wn.cell? ⟨w.heap.size, 5, none⟩ = some (.int .i64 c.re) := b0.cell 5
        have a6 : wn.cell? ⟨w.heap.size, 6, none⟩ = some (.int .i64 c.rm) := b0.cell 6
        have a7 : wn.cell? ⟨w.heap.size, 7, none⟩ = some (.int .i64 c.by') := b0.cell 7
        have a8 : wn.cell? ⟨w.heap.size, 8, none⟩ = some (.int .i64 c.w0) := b0.cell 8
        have a9 : wn.cell? ⟨w.heap.size, 9, none⟩ = some (.int .i64 c.w1) := b0.cell 9
        have a10 : wn.cell? ⟨w.heap.size, 10, none⟩ = some (.int .i64 c.w2) := b0.cell 10
        have a11 : wn.cell? ⟨w.heap.size, 11, none⟩ = some (.int .i64 c.rn) := b0.cell 11
        have a12 : wn.cell? ⟨w.heap.size, 12, none⟩ = some (.int .i64 c.rd) := b0.cell 12
        have a13 : wn.cell? ⟨w.heap.size, 13, none⟩ = some (.int .i64 c.bu) := b0.cell 13
        have a14 : wn.cell? ⟨w.heap.size, 14, none⟩ = some (.int .i64 c.bl) := b0.cell 14
        have a15 : wn.cell? ⟨w.heap.size, 15, none⟩ = some (.int .i64 c.ra) := b0.cell 15
        have e0 : wn.cell? ⟨w.heap.size + 1, 0, none⟩ = some (.int .u64 q) := b1.cell 0
        have e1 : wn.cell? ⟨w.heap.size + 1, 1, none⟩ = some (.int .u64 st) := b1.cell 1
        have e2 : wn.cell? ⟨w.heap.size + 1, 2, none⟩ = some (.slice ra RN rc) := b1.cell 2
        have x0 : wn.cell? ⟨w.heap.size + 2, 0, none⟩ = some (.int .i64 now) := b2.cell 0
        have x1 : wn.cell? ⟨w.heap.size + 2, 1, none⟩ = some (.int .i64 un) := b2.cell 1
        have x2 : wn.cell? ⟨w.heap.size + 2, 2, none⟩ = some (.int .u64 sz) := b2.cell 2
        have HB0 := Lib.hid b0
        have HB1 := Lib.hid b1
        have HB2 := Lib.hid b2
        clear b0 b1 b2
        go_wp2_with fail
        clear a0 a1 a2 a3 a4 a5 a6 a7 a8 a9 a10 a11 a12 a13 a14 a15 e0 e1 e2 x0 x1 x2
        have b0 := HB0.out
        have b1 := HB1.out
        have b2 := HB2.out
        clear HB0 HB1 HB2
        refine (fits_any c q st _ xs cs _ now un sz i HWF.out hno hun _ (HR.out.keep hB) (HP.out.keep hB)).mono ?_
        rw [HBB.out, HE.out]
        rintro e w1 ⟨rfl, hb⟩
        have b0 := b0.below hb
        have b1 := b1.below hb
        have b2 := b2.below hb
        have hB := Below.next hB hb
        obtain ⟨wn, rfl⟩ : ∃ wn, wn = w1 := ⟨_, rfl⟩
        clear hb
        have a0 : wn.cell? ⟨w.heap.size, 0, none⟩ = some (.int .i64 c.nd) := b0.cell 0
        have a1 : wn.cell? ⟨w.heap.size, 1, none⟩ = some (.int .u64 c.qo) := b0.cell 1
        have a2 : wn.cell? ⟨w.heap.size, 2, none⟩ = some (.int .u64 c.la) := b0.cell 2
        have a3 : wn.cell? ⟨w.heap.size, 3, none⟩ = some (.int .u64 c.wd) := b0.cell 3
        have a4 : wn.cell? ⟨w.heap.size, 4, none⟩ = some (.int .u64 c.lo) := b0.cell 4
        have a5 : wn.cell? ⟨w.heap.size, 5, none⟩ = some (.int .i64 c.re) := b0.cell 5
        have a6 : wn.cell? ⟨w.heap.size, 6, none⟩ = some (.int .i64 c.rm) := b0.cell 6
        have a7 : wn.cell? ⟨w.heap.size, 7, none⟩ = some (.int .i64 c.by') := b0.cell 7
        have a8 : wn.cell? ⟨w.heap.size, 8, none⟩ = some (.int .i64 c.w0) := b0.cell 8
        have a9 : wn.cell? ⟨w.heap.size, 9, none⟩ = some (.int .i64 c.w1) := b0.cell 9
        have a10 : wn.cell? ⟨w.heap.size, 10, none⟩ = some (.int .i64 c.w2) := b0.cell 10
        have a11 : wn.cell? ⟨w.heap.size, 11, none⟩ = some (.int .i64 c.rn) := b0.cell 11
        have a12 : wn.cell? ⟨w.heap.size, 12, none⟩ = some (.int .i64 c.rd) := b0.cell 12
        have a13 : wn.cell? ⟨w.heap.size, 13, none⟩ = some (.int .i64 c.bu) := b0.cell 13
        have a14 : wn.cell? ⟨w.heap.size, 14, none⟩ = some (.int .i64 c.bl) := b0.cell 14
        have a15 : wn.cell? ⟨w.heap.size, 15, none⟩ = some (.int .i64 c.ra) := b0.cell 15
        have e0 : wn.cell? ⟨w.heap.size + 1, 0, none⟩ = some (.int .u64 q) := b1.cell 0
        have e1 : wn.cell? ⟨w.heap.size + 1, 1, none⟩ = some (.int .u64 st) := b1.cell 1
        have e2 : wn.cell? ⟨w.heap.size + 1, 2, none⟩ = some (.slice ra RN rc) := b1.cell 2
        have x0 : wn.cell? ⟨w.heap.size + 2, 0, none⟩ = some (.int .i64 now) := b2.cell 0
        have x1 : wn.cell? ⟨w.heap.size + 2, 1, none⟩ = some (.int .i64 un) := b2.cell 1
        have x2 : wn.cell? ⟨w.heap.size + 2, 2, none⟩ = some (.int .u64 sz) := b2.cell 2
        have HB0 := Lib.hid b0
        have HB1 := Lib.hid b1
        have HB2 := Lib.hid b2
        clear b0 b1 b2
        go_wp2_with fail
        clear a0 a1 a2 a3 a4 a5 a6 a7 a8 a9 a10 a11 a12 a13 a14 a15 e0 e1 e2 x0 x1 x2
        have b0 := HB0.out
        have b1 := HB1.out
        have b2 := HB2.out
        clear HB0 HB1 HB2
        refine (rfits_any c q st _ xs cs _ now un sz i hno hun _ (HR.out.keep hB) (HP.out.keep hB)).mono ?_
        rw [HBB.out, HE.out]
        rintro e w1 ⟨rfl, hb⟩
        have b0 := b0.below hb
        have b1 := b1.below hb
        have b2 := b2.below hb
        have hB := Below.next hB hb
        obtain ⟨wn, rfl⟩ : ∃ wn, wn = w1 := ⟨_, rfl⟩
        clear hb
        clear b0 b1 b2
        go_wp2_with fail
        refine (awake26_any _).mono ?_
        rintro e w2 ⟨rfl, hb⟩
        have hB := Below.next hB hb
        clear hb
        go_wp2_with fail
        go_ret
        exact ⟨rfl, hB⟩
end Go.Proofs.Ytnbjdgjopdeolaa
