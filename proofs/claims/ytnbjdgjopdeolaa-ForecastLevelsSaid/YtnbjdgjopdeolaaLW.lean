

/- ForecastLevels: the walk of the law. -/
import Derived.Test.YtnbjdgjopdeolaaSPO
import Derived.Test.YtnbjdgjopdeolaaFQ
namespace Go.Proofs.Ytnbjdgjopdeolaa
open Go.RowKit Go.Shelf
set_option linter.unusedSimpArgs false
set_option linter.unusedVariables false
set_option maxRecDepth 100000


def SomeB2 (w : World) (pn rn : Nat) (e : Ending) (w' : World) : Prop := ∃ b, e = .returned (.bool b) ∧ (b = true → pn ≤ 20 ∧ rn ≤ 20) ∧ Below w.heap.size w w'
set_option maxHeartbeats 1000000 in
theorem asked2_any (q st : Int) (ra : Option Addr) (rn rc : Nat) (pa : Option Addr) (pn pc : Nat) (un now : Int) (hno : Ib now) (hun : Ib un) (w : World) :
    Calls Try.prog 27 #[.agg #[.int .u64 q, .int .u64 st, .slice ra rn rc], .slice pa pn pc, .int .i64 un, .int .i64 now] w (SomeB2 w pn rn) := by
  by_cases t1 : pn ≤ 20
  · have d1 : decide ((pn : Int) ≤ 20) = true := yb (by omega)
    by_cases t2 : rn ≤ 20
    · have d2 : decide ((rn : Int) ≤ 20) = true := yb (by omega)
      by_cases t3 : un ≤ now
      · have d3 : decide (un ≤ now) = true := yb t3
        go_enter Try.func27, Try.ntmps27
        go_wp2_with fail
        go_ret
        exact ⟨_, rfl, by first | (intro _; exact ⟨by assumption, by assumption⟩) | (intro h; cases h), (by repeat (first | assumption | exact Below.refl _ _ | apply Below.al | apply below_drewN | apply Below.drew | refine Below.next ?_ (by assumption)))⟩
      · have d3 : decide (un ≤ now) = false := nb t3
        by_cases t4 : now < 0
        · have d4 : decide (now < 0) = true := yb t4
          go_enter Try.func27, Try.ntmps27
          go_wp2_with fail
          go_ret
          exact ⟨_, rfl, by first | (intro _; exact ⟨by assumption, by assumption⟩) | (intro h; cases h), (by repeat (first | assumption | exact Below.refl _ _ | apply Below.al | apply below_drewN | apply Below.drew | refine Below.next ?_ (by assumption)))⟩
        · have d4 : decide (now < 0) = false := nb t4
          have hws : IntKind.i64.wrap (un - now) = un - now := IntWalk.i64_in _ (by omega)
          by_cases t5 : un - now ≤ 120
          · have d5 : decide (un - now ≤ 120) = true := yb t5
            go_enter Try.func27, Try.ntmps27
            go_wp2_with fail
            go_ret
            exact ⟨_, rfl, by first | (intro _; exact ⟨by assumption, by assumption⟩) | (intro h; cases h), (by repeat (first | assumption | exact Below.refl _ _ | apply Below.al | apply below_drewN | apply Below.drew | refine Below.next ?_ (by assumption)))⟩
          · have d5 : decide (un - now ≤ 120) = false := nb t5
            by_cases t6 : 1000 < un - now
            · have d6 : decide (1000 < un - now) = true := yb t6
              go_enter Try.func27, Try.ntmps27
              go_wp2_with fail
              go_ret
              exact ⟨_, rfl, by first | (intro _; exact ⟨by assumption, by assumption⟩) | (intro h; cases h), (by repeat (first | assumption | exact Below.refl _ _ | apply Below.al | apply below_drewN | apply Below.drew | refine Below.next ?_ (by assumption)))⟩
            · have d6 : decide (1000 < un - now) = false := nb t6
              go_enter Try.func27, Try.ntmps27
              go_wp2_with fail
              go_ret
              exact ⟨_, rfl, by first | (intro _; exact ⟨by assumption, by assumption⟩) | (intro h; cases h), (by repeat (first | assumption | exact Below.refl _ _ | apply Below.al | apply below_drewN | apply Below.drew | refine Below.next ?_ (by assumption)))⟩
    · have d2 : decide ((rn : Int) ≤ 20) = false := nb (by omega)
      go_enter Try.func27, Try.ntmps27
      go_wp2_with fail
      go_ret
      exact ⟨_, rfl, by first | (intro _; exact ⟨by assumption, by assumption⟩) | (intro h; cases h), (by repeat (first | assumption | exact Below.refl _ _ | apply Below.al | apply below_drewN | apply Below.drew | refine Below.next ?_ (by assumption)))⟩
  · have d1 : decide ((pn : Int) ≤ 20) = false := nb (by omega)
    go_enter Try.func27, Try.ntmps27
    go_wp2_with fail
    go_ret
    exact ⟨_, rfl, by first | (intro _; exact ⟨by assumption, by assumption⟩) | (intro h; cases h), (by repeat (first | assumption | exact Below.refl _ _ | apply Below.al | apply below_drewN | apply Below.drew | refine Below.next ?_ (by assumption)))⟩

set_option maxHeartbeats 4000000 in
theorem lawLevels (c : Cf) (q st : Int) (rs : Value) (xs : List Int) (cs : List Ct) (v : Value) (now un sz : Int) (i : Inp q st xs) (hwf : ∀ c, c ∈ cs → Wf c) (hno : Ib now) (hun : Ib un) (w : World) (h : RdI .u64 w rs xs) (hp : RdC w v cs) :
    Calls Try.prog 4 #[c.v, Sv q st rs, v, .agg #[.int .i64 now, .int .i64 un, .int .u64 sz]] w fun e w' => e = .returned (.bool true) ∧ Below w.heap.size w w' := by
  obtain ⟨L, HL⟩ : ∃ p, Hid (lvV c q st xs cs now un = p) := ⟨_, rfl⟩
  obtain ⟨er, HE⟩ : ∃ er, Hid (fck c q st xs cs now un = er) := ⟨_, rfl⟩
  have n2 : (er == er) = true := by simp
  have HLL : Hid (L.length ≤ 1000000) := by
    unfold Hid
    rw [← HL.out]
    unfold lvV
    split
    · simp
    · rename_i hz
      have := fck_zero (show fck c q st xs cs now un = 0 by simpa using hz)
      have h1 := lvO_len c cs st xs now (un - now).toNat
      omega
  obtain ⟨ra, rc, rfl⟩ := h.form
  obtain ⟨pa, pc, rfl⟩ := hp.form
  obtain ⟨RN, hRN⟩ : ∃ n, xs.length = n := ⟨_, rfl⟩
  obtain ⟨PN, hPN⟩ : ∃ n, cs.length = n := ⟨_, rfl⟩
  rw [hRN] at h ⊢
  rw [hPN] at hp ⊢
  have HR := Lib.hid h
  have HP := Lib.hid hp
  have HWF := Lib.hid hwf
  have HRN := Lib.hid hRN
  have HPN := Lib.hid hPN
  clear h hp hwf hRN hPN
  go_enter Try.func4, Try.ntmps4
  go_wp2_with fail
  obtain ⟨W1, hW1⟩ : ∃ W : World, W = ((w.alloc (.cells #[.int .i64 c.nd, .int .u64 c.qo, .int .u64 c.la, .int .u64 c.wd, .int .u64 c.lo, .int .i64 c.re, .int .i64 c.rm, .int .i64 c.by', .int .i64 c.w0, .int .i64 c.w1, .int .i64 c.w2, .int .i64 c.rn, .int .i64 c.rd, .int .i64 c.bu, .int .i64 c.bl, .int .i64 c.ra] 35)).alloc (.cells #[.int .u64 q, .int .u64 st, .slice ra RN rc] 38)).alloc (.cells #[.int .i64 now, .int .i64 un, .int .u64 sz] 41) := ⟨_, rfl⟩
  have hB : Below w.heap.size w W1 := by rw [hW1]; exact (by repeat (first | assumption | exact Below.refl _ _ | apply Below.al | apply below_drewN | apply Below.drew | refine Below.next ?_ (by assumption)))
  have b0 : BoxN W1 w.heap.size 35 #[.int .i64 c.nd, .int .u64 c.qo, .int .u64 c.la, .int .u64 c.wd, .int .u64 c.lo, .int .i64 c.re, .int .i64 c.rm, .int .i64 c.by', .int .i64 c.w0, .int .i64 c.w1, .int .i64 c.w2, .int .i64 c.rn, .int .i64 c.rd, .int .i64 c.bu, .int .i64 c.bl, .int .i64 c.ra] := by rw [hW1]; exact heap_al _ (heap_al _ (heap_last w _))
  have b1 : BoxN W1 (w.heap.size + 1) 38 #[.int .u64 q, .int .u64 st, .slice ra RN rc] := by
    have := BoxN.new (w.alloc (.cells #[.int .i64 c.nd, .int .u64 c.qo, .int .u64 c.la, .int .u64 c.wd, .int .u64 c.lo, .int .i64 c.re, .int .i64 c.rm, .int .i64 c.by', .int .i64 c.w0, .int .i64 c.w1, .int .i64 c.w2, .int .i64 c.rn, .int .i64 c.rd, .int .i64 c.bu, .int .i64 c.bl, .int .i64 c.ra] 35)) 38 #[.int .u64 q, .int .u64 st, .slice ra RN rc]
    rw [World.size_alloc] at this
    rw [hW1]; exact this.alloc _
  have b2 : BoxN W1 (w.heap.size + 2) 41 #[.int .i64 now, .int .i64 un, .int .u64 sz] := by
    have := BoxN.new ((w.alloc (.cells #[.int .i64 c.nd, .int .u64 c.qo, .int .u64 c.la, .int .u64 c.wd, .int .u64 c.lo, .int .i64 c.re, .int .i64 c.rm, .int .i64 c.by', .int .i64 c.w0, .int .i64 c.w1, .int .i64 c.w2, .int .i64 c.rn, .int .i64 c.rd, .int .i64 c.bu, .int .i64 c.bl, .int .i64 c.ra] 35)).alloc (.cells #[.int .u64 q, .int .u64 st, .slice ra RN rc] 38)) 41 #[.int .i64 now, .int .i64 un, .int .u64 sz]
    rw [World.size_alloc, World.size_alloc] at this
    rw [hW1]; exact this
  rw [← hW1]
  clear hW1
  refine (asked2_any q st ra RN rc pa PN pc un now hno hun _).mono ?_
  rintro e w1 ⟨bb, rfl, hbl, hb⟩
  have b0 := b0.below hb
  have b1 := b1.below hb
  have b2 := b2.below hb
  have hB := Below.next hB hb
  obtain ⟨wn, rfl⟩ : ∃ wn, wn = w1 := ⟨_, rfl⟩
  clear hb
  cases bb
  · clear b0 b1 b2
    go_wp2_with fail
    refine (awake26_any _).mono ?_
    rintro e w2 ⟨rfl, hb⟩
    have hB := Below.next hB hb
    clear hb
    go_wp2_with fail
    go_ret
    exact ⟨rfl, hB⟩
  obtain ⟨hl1, hl2⟩ := hbl rfl
  clear hbl
  have a0 : wn.cell? ⟨w.heap.size, 0, none⟩ = some (.int .i64 c.nd) := b0.cell 0
  have a1 : wn.cell? ⟨w.heap.size, 1, none⟩ = some (.int .u64 c.qo) := b0.cell 1
  have a2 : wn.cell? ⟨w.heap.size, 2, none⟩ = some (.int .u64 c.la) := b0.cell 2
  have a3 : wn.cell? ⟨w.heap.size, 3, none⟩ = some (.int .u64 c.wd) := b0.cell 3
  have a4 : wn.cell? ⟨w.heap.size, 4, none⟩ = some (.int .u64 c.lo) := b0.cell 4
  have a5 : wn.cell? ⟨w.heap.size, 5, none⟩ = some (.int .i64 c.re) := b0.cell 5
  have a6 : wn.cell? ⟨w.heap.size, 6, none⟩ = some (.int .i64 c.rm) := b0.cell 6
  have a7 : wn.cell? ⟨w.heap.size, 7, none⟩ = some (.int .i64 c.by') := b0.cell 7
  have a8 : wn.cell? ⟨w.heap.size, 8, none⟩ = some (.int .i64 c.w0) := b0.cell 8
  have a9 : wn.cell? ⟨w.heap.size, 9, none⟩ = some (.int .i64 c.w1) := b0.cell 9
  have a10 : wn.cell? ⟨w.heap.size, 10, none⟩ = some (.int .i64 c.w2) := b0.cell 10
  have a11 : wn.cell? ⟨w.heap.size, 11, none⟩ = some (.int .i64 c.rn) := b0.cell 11
  have a12 : wn.cell? ⟨w.heap.size, 12, none⟩ = some (.int .i64 c.rd) := b0.cell 12
  have a13 : wn.cell? ⟨w.heap.size, 13, none⟩ = some (.int .i64 c.bu) := b0.cell 13
  have a14 : wn.cell? ⟨w.heap.size, 14, none⟩ = some (.int .i64 c.bl) := b0.cell 14
  have a15 : wn.cell? ⟨w.heap.size, 15, none⟩ = some (.int .i64 c.ra) := b0.cell 15
  have e0 : wn.cell? ⟨w.heap.size + 1, 0, none⟩ = some (.int .u64 q) := b1.cell 0
  have e1 : wn.cell? ⟨w.heap.size + 1, 1, none⟩ = some (.int .u64 st) := b1.cell 1
  have e2 : wn.cell? ⟨w.heap.size + 1, 2, none⟩ = some (.slice ra RN rc) := b1.cell 2
  have x0 : wn.cell? ⟨w.heap.size + 2, 0, none⟩ = some (.int .i64 now) := b2.cell 0
  have x1 : wn.cell? ⟨w.heap.size + 2, 1, none⟩ = some (.int .i64 un) := b2.cell 1
  have x2 : wn.cell? ⟨w.heap.size + 2, 2, none⟩ = some (.int .u64 sz) := b2.cell 2
  have HB0 := Lib.hid b0
  have HB1 := Lib.hid b1
  have HB2 := Lib.hid b2
  clear b0 b1 b2
  go_wp2_with fail
  clear a0 a1 a2 a3 a4 a5 a6 a7 a8 a9 a10 a11 a12 a13 a14 a15 e0 e1 e2 x0 x1 x2
  have b0 := HB0.out
  have b1 := HB1.out
  have b2 := HB2.out
  clear HB0 HB1 HB2
  refine (ownSpace_any q st _ xs (by have := HRN.out; omega) _ (HR.out.keep hB)).mono ?_
  rintro e w1 ⟨oa, oc, rfl, hos, hb⟩
  rw [HRN.out] at hos ⊢
  have HOS := Lib.hid hos
  clear hos
  have b0 := b0.below hb
  have b1 := b1.below hb
  have b2 := b2.below hb
  have hB := Below.next hB hb
  obtain ⟨wn, rfl⟩ : ∃ wn, wn = w1 := ⟨_, rfl⟩
  clear hb
  go_wp2_with fail
  refine (ownPlan_any _ cs (by have := HPN.out; omega) _ (HP.out.keep hB)).mono ?_
  rintro e w1 ⟨ov, rfl, hop, hb⟩
  have HOS := Lib.hid (HOS.out.keep hb)
  have HOP := Lib.hid hop
  clear hop
  obtain ⟨W2, hW2⟩ : ∃ W : World, W = w1.alloc (.cells #[.int .u64 q, .int .u64 st, .slice oa RN oc] 38) := ⟨_, rfl⟩
  have b3 : BoxN W2 w1.heap.size 38 #[.int .u64 q, .int .u64 st, .slice oa RN oc] := by rw [hW2]; exact BoxN.new w1 _ _
  have hb' : Below w1.heap.size w1 W2 := by rw [hW2]; exact Below.al (Below.refl _ _) _
  have HOS := Lib.hid (HOS.out.keep hb')
  have HOP := Lib.hid (HOP.out.keep hb')
  have hb := Below.next hb hb'
  have b0 := b0.below hb
  have b1 := b1.below hb
  have b2 := b2.below hb
  have hB := Below.next hB hb
  obtain ⟨X, hX⟩ : ∃ X, X = w1.heap.size := ⟨_, rfl⟩
  rw [← hX] at b3
  have HB0 := Lib.hid b0
  have HB1 := Lib.hid b1
  have HB2 := Lib.hid b2
  have HB3 := Lib.hid b3
  clear b0 b1 b2 b3 hb hb'
  go_upto_region 4 with fail
  rw [← hW2, ← hX]
  clear hW2 hX
  obtain ⟨wn, rfl⟩ : ∃ wn, wn = W2 := ⟨_, rfl⟩
  have b0 := HB0.out
  have b1 := HB1.out
  have b2 := HB2.out
  clear HB0 HB1 HB2
  have z0 : wn.cell? ⟨X, 0, none⟩ = some (.int .u64 q) := HB3.out.cell 0
  have z1 : wn.cell? ⟨X, 1, none⟩ = some (.int .u64 st) := HB3.out.cell 1
  have z2 : wn.cell? ⟨X, 2, none⟩ = some (.slice oa RN oc) := HB3.out.cell 2
  have a0 : wn.cell? ⟨w.heap.size, 0, none⟩ = some (.int .i64 c.nd) := b0.cell 0
  have a1 : wn.cell? ⟨w.heap.size, 1, none⟩ = some (.int .u64 c.qo) := b0.cell 1
  have a2 : wn.cell? ⟨w.heap.size, 2, none⟩ = some (.int .u64 c.la) := b0.cell 2
  have a3 : wn.cell? ⟨w.heap.size, 3, none⟩ = some (.int .u64 c.wd) := b0.cell 3
  have a4 : wn.cell? ⟨w.heap.size, 4, none⟩ = some (.int .u64 c.lo) := b0.cell 4
  have a5 : wn.cell? ⟨w.heap.size, 5, none⟩ = some (.int .i64 c.re) := b0.cell 5
  have a6 : wn.cell? ⟨w.heap.size, 6, none⟩ = some (.int .i64 c.rm) := b0.cell 6
  have a7 : wn.cell? ⟨w.heap.size, 7, none⟩ = some (.int .i64 c.by') := b0.cell 7
  have a8 : wn.cell? ⟨w.heap.size, 8, none⟩ = some (.int .i64 c.w0) := b0.cell 8
  have a9 : wn.cell? ⟨w.heap.size, 9, none⟩ = some (.int .i64 c.w1) := b0.cell 9
  have a10 : wn.cell? ⟨w.heap.size, 10, none⟩ = some (.int .i64 c.w2) := b0.cell 10
  have a11 : wn.cell? ⟨w.heap.size, 11, none⟩ = some (.int .i64 c.rn) := b0.cell 11
  have a12 : wn.cell? ⟨w.heap.size, 12, none⟩ = some (.int .i64 c.rd) := b0.cell 12
  have a13 : wn.cell? ⟨w.heap.size, 13, none⟩ = some (.int .i64 c.bu) := b0.cell 13
  have a14 : wn.cell? ⟨w.heap.size, 14, none⟩ = some (.int .i64 c.bl) := b0.cell 14
  have a15 : wn.cell? ⟨w.heap.size, 15, none⟩ = some (.int .i64 c.ra) := b0.cell 15
  have e0 : wn.cell? ⟨w.heap.size + 1, 0, none⟩ = some (.int .u64 q) := b1.cell 0
  have e1 : wn.cell? ⟨w.heap.size + 1, 1, none⟩ = some (.int .u64 st) := b1.cell 1
  have e2 : wn.cell? ⟨w.heap.size + 1, 2, none⟩ = some (.slice ra RN rc) := b1.cell 2
  have x0 : wn.cell? ⟨w.heap.size + 2, 0, none⟩ = some (.int .i64 now) := b2.cell 0
  have x1 : wn.cell? ⟨w.heap.size + 2, 1, none⟩ = some (.int .i64 un) := b2.cell 1
  have x2 : wn.cell? ⟨w.heap.size + 2, 2, none⟩ = some (.int .u64 sz) := b2.cell 2
  have HB0 := Lib.hid b0
  have HB1 := Lib.hid b1
  have HB2 := Lib.hid b2
  clear b0 b1 b2
  go_wp2_with fail
  clear a0 a1 a2 a3 a4 a5 a6 a7 a8 a9 a10 a11 a12 a13 a14 a15 e0 e1 e2 x0 x1 x2
  have b0 := HB0.out
  have b1 := HB1.out
  have b2 := HB2.out
  clear HB0 HB1 HB2
  refine (levels_any c q st _ xs cs _ now un i HWF.out hno hun _ HOS.out HOP.out).mono ?_
  rw [HL.out, HE.out]
  rintro e w1 ⟨l1, rfl, hl, _, hb⟩
  have HOS := Lib.hid (HOS.out.keep hb)
  have HOP := Lib.hid (HOP.out.keep hb)
  have HB3 := Lib.hid (HB3.out.below hb)
  have HV1 := Lib.hid hl
  clear hl z0 z1 z2
  have b0 := b0.below hb
  have b1 := b1.below hb
  have b2 := b2.below hb
  have hB := Below.next hB hb
  obtain ⟨wn, rfl⟩ : ∃ wn, wn = w1 := ⟨_, rfl⟩
  clear hb
  have a0 : wn.cell? ⟨w.heap.size, 0, none⟩ = some (.int .i64 c.nd) := b0.cell 0
  have a1 : wn.cell? ⟨w.heap.size, 1, none⟩ = some (.int .u64 c.qo) := b0.cell 1
  have a2 : wn.cell? ⟨w.heap.size, 2, none⟩ = some (.int .u64 c.la) := b0.cell 2
  have a3 : wn.cell? ⟨w.heap.size, 3, none⟩ = some (.int .u64 c.wd) := b0.cell 3
  have a4 : wn.cell? ⟨w.heap.size, 4, none⟩ = some (.int .u64 c.lo) := b0.cell 4
  have a5 : wn.cell? ⟨w.heap.size, 5, none⟩ = some (.int .i64 c.re) := b0.cell 5
  have a6 : wn.cell? ⟨w.heap.size, 6, none⟩ = some (.int .i64 c.rm) := b0.cell 6
  have a7 : wn.cell? ⟨w.heap.size, 7, none⟩ = some (.int .i64 c.by') := b0.cell 7
  have a8 : wn.cell? ⟨w.heap.size, 8, none⟩ = some (.int .i64 c.w0) := b0.cell 8
  have a9 : wn.cell? ⟨w.heap.size, 9, none⟩ = some (.int .i64 c.w1) := b0.cell 9
  have a10 : wn.cell? ⟨w.heap.size, 10, none⟩ = some (.int .i64 c.w2) := b0.cell 10
  have a11 : wn.cell? ⟨w.heap.size, 11, none⟩ = some (.int .i64 c.rn) := b0.cell 11
  have a12 : wn.cell? ⟨w.heap.size, 12, none⟩ = some (.int .i64 c.rd) := b0.cell 12
  have a13 : wn.cell? ⟨w.heap.size, 13, none⟩ = some (.int .i64 c.bu) := b0.cell 13
  have a14 : wn.cell? ⟨w.heap.size, 14, none⟩ = some (.int .i64 c.bl) := b0.cell 14
  have a15 : wn.cell? ⟨w.heap.size, 15, none⟩ = some (.int .i64 c.ra) := b0.cell 15
  have e0 : wn.cell? ⟨w.heap.size + 1, 0, none⟩ = some (.int .u64 q) := b1.cell 0
  have e1 : wn.cell? ⟨w.heap.size + 1, 1, none⟩ = some (.int .u64 st) := b1.cell 1
  have e2 : wn.cell? ⟨w.heap.size + 1, 2, none⟩ = some (.slice ra RN rc) := b1.cell 2
  have x0 : wn.cell? ⟨w.heap.size + 2, 0, none⟩ = some (.int .i64 now) := b2.cell 0
  have x1 : wn.cell? ⟨w.heap.size + 2, 1, none⟩ = some (.int .i64 un) := b2.cell 1
  have x2 : wn.cell? ⟨w.heap.size + 2, 2, none⟩ = some (.int .u64 sz) := b2.cell 2
  have HB0 := Lib.hid b0
  have HB1 := Lib.hid b1
  have HB2 := Lib.hid b2
  clear b0 b1 b2
  go_wp2_with fail
  clear a0 a1 a2 a3 a4 a5 a6 a7 a8 a9 a10 a11 a12 a13 a14 a15 e0 e1 e2 x0 x1 x2
  have b0 := HB0.out
  have b1 := HB1.out
  have b2 := HB2.out
  clear HB0 HB1 HB2
  refine (rlevels_any c q st _ xs cs _ now un i hno hun _ (HR.out.keep hB) (HP.out.keep hB)).mono ?_
  rw [HL.out, HE.out]
  rintro e w1 ⟨l2, rfl, hl, _, hb⟩
  have HOS := Lib.hid (HOS.out.keep hb)
  have HOP := Lib.hid (HOP.out.keep hb)
  have HB3 := Lib.hid (HB3.out.below hb)
  have HV1 := Lib.hid (HV1.out.keep hb)
  have HV2 := Lib.hid hl
  clear hl
  have b0 := b0.below hb
  have b1 := b1.below hb
  have b2 := b2.below hb
  have hB := Below.next hB hb
  obtain ⟨wn, rfl⟩ : ∃ wn, wn = w1 := ⟨_, rfl⟩
  clear hb
  go_wp2_with fail
  refine (sameL_eq _ _ L HLL.out _ HV1.out HV2.out).mono ?_
  rintro e w1 ⟨rfl, hb⟩
  have HOS := Lib.hid (HOS.out.keep hb)
  have HOP := Lib.hid (HOP.out.keep hb)
  have HB3 := Lib.hid (HB3.out.below hb)
  have b0 := b0.below hb
  have b1 := b1.below hb
  have b2 := b2.below hb
  have hB := Below.next hB hb
  obtain ⟨wn, rfl⟩ : ∃ wn, wn = w1 := ⟨_, rfl⟩
  clear hb
  have z0 : wn.cell? ⟨X, 0, none⟩ = some (.int .u64 q) := HB3.out.cell 0
  have z1 : wn.cell? ⟨X, 1, none⟩ = some (.int .u64 st) := HB3.out.cell 1
  have z2 : wn.cell? ⟨X, 2, none⟩ = some (.slice oa RN oc) := HB3.out.cell 2
  have a0 : wn.cell? ⟨w.heap.size, 0, none⟩ = some (.int .i64 c.nd) := b0.cell 0
  have a1 : wn.cell? ⟨w.heap.size, 1, none⟩ = some (.int .u64 c.qo) := b0.cell 1
  have a2 : wn.cell? ⟨w.heap.size, 2, none⟩ = some (.int .u64 c.la) := b0.cell 2
  have a3 : wn.cell? ⟨w.heap.size, 3, none⟩ = some (.int .u64 c.wd) := b0.cell 3
  have a4 : wn.cell? ⟨w.heap.size, 4, none⟩ = some (.int .u64 c.lo) := b0.cell 4
  have a5 : wn.cell? ⟨w.heap.size, 5, none⟩ = some (.int .i64 c.re) := b0.cell 5
  have a6 : wn.cell? ⟨w.heap.size, 6, none⟩ = some (.int .i64 c.rm) := b0.cell 6
  have a7 : wn.cell? ⟨w.heap.size, 7, none⟩ = some (.int .i64 c.by') := b0.cell 7
  have a8 : wn.cell? ⟨w.heap.size, 8, none⟩ = some (.int .i64 c.w0) := b0.cell 8
  have a9 : wn.cell? ⟨w.heap.size, 9, none⟩ = some (.int .i64 c.w1) := b0.cell 9
  have a10 : wn.cell? ⟨w.heap.size, 10, none⟩ = some (.int .i64 c.w2) := b0.cell 10
  have a11 : wn.cell? ⟨w.heap.size, 11, none⟩ = some (.int .i64 c.rn) := b0.cell 11
  have a12 : wn.cell? ⟨w.heap.size, 12, none⟩ = some (.int .i64 c.rd) := b0.cell 12
  have a13 : wn.cell? ⟨w.heap.size, 13, none⟩ = some (.int .i64 c.bu) := b0.cell 13
  have a14 : wn.cell? ⟨w.heap.size, 14, none⟩ = some (.int .i64 c.bl) := b0.cell 14
  have a15 : wn.cell? ⟨w.heap.size, 15, none⟩ = some (.int .i64 c.ra) := b0.cell 15
  have e0 : wn.cell? ⟨w.heap.size + 1, 0, none⟩ = some (.int .u64 q) := b1.cell 0
  have e1 : wn.cell? ⟨w.heap.size + 1, 1, none⟩ = some (.int .u64 st) := b1.cell 1
  have e2 : wn.cell? ⟨w.heap.size + 1, 2, none⟩ = some (.slice ra RN rc) := b1.cell 2
  have x0 : wn.cell? ⟨w.heap.size + 2, 0, none⟩ = some (.int .i64 now) := b2.cell 0
  have x1 : wn.cell? ⟨w.heap.size + 2, 1, none⟩ = some (.int .i64 un) := b2.cell 1
  have x2 : wn.cell? ⟨w.heap.size + 2, 2, none⟩ = some (.int .u64 sz) := b2.cell 2
  have HB0 := Lib.hid b0
  have HB1 := Lib.hid b1
  have HB2 := Lib.hid b2
  clear b0 b1 b2
  go_wp2_with fail
  clear a0 a1 a2 a3 a4 a5 a6 a7 a8 a9 a10 a11 a12 a13 a14 a15 e0 e1 e2 x0 x1 x2
  have b0 := HB0.out
  have b1 := HB1.out
  have b2 := HB2.out
  clear HB0 HB1 HB2
  refine (sameSpace_eq q st _ _ xs (by have := HRN.out; omega) _ HOS.out (HR.out.keep hB)).mono ?_
  rintro e w1 ⟨rfl, hb⟩
  have HOP := Lib.hid (HOP.out.keep hb)
  clear z0 z1 z2 HB3 HOS
  have b0 := b0.below hb
  have b1 := b1.below hb
  have b2 := b2.below hb
  have hB := Below.next hB hb
  obtain ⟨wn, rfl⟩ : ∃ wn, wn = w1 := ⟨_, rfl⟩
  clear hb
  go_wp2_with fail
  refine (samePlan_eq _ _ cs (by have := HPN.out; omega) _ HOP.out (HP.out.keep hB)).mono ?_
  rintro e w1 ⟨rfl, hb⟩
  have b0 := b0.below hb
  have b1 := b1.below hb
  have b2 := b2.below hb
  have hB := Below.next hB hb
  obtain ⟨wn, rfl⟩ : ∃ wn, wn = w1 := ⟨_, rfl⟩
  clear hb
  clear b0 b1 b2
  go_wp2_with fail
  refine (awake26_any _).mono ?_
  rintro e w2 ⟨rfl, hb⟩
  have hB := Below.next hB hb
  clear hb
  go_wp2_with fail
  go_ret
  exact ⟨rfl, hB⟩
end Go.Proofs.Ytnbjdgjopdeolaa
