

/- Forecast: Levels answers the levels. -/
import Derived.Test.YtnbjdgjopdeolaaFW
namespace Go.Proofs.Ytnbjdgjopdeolaa
open Go.RowKit Go.Shelf
set_option linter.unusedSimpArgs false
set_option linter.unusedVariables false
set_option maxRecDepth 100000
attribute [local go_sem] Oper.semAt_some

theorem levels_bad (c : Cf) (q st : Int) (rs : Value) (xs : List Int) (cs : List Ct) (v : Value) (now un : Int) (i : Inp q st xs) (hwf : ∀ c, c ∈ cs → Wf c) (hno : Ib now) (hun : Ib un) (er : Int) (he : fck c q st xs cs now un = er) (hne : er ≠ 0) (w : World) (h : RdI .u64 w rs xs) (hp : RdC w v cs) :
    Calls Try.prog 31 #[c.v, Sv q st rs, v, .int .i64 now, .int .i64 un] w fun e w' => e = .returned (.tuple #[.slice none 0 0, .int .i64 er]) ∧ Below w.heap.size w w' := by
  have HR := Lib.hid h
  have HP := Lib.hid hp
  have HWF := Lib.hid hwf
  have HE := Lib.hid he
  have d1 : (er != 0) = true := by simpa using hne
  clear h hp hwf he hne
  go_enter Try.func31, Try.ntmps31
  go_wp2_with fail
  refine (fcheck_any c q st rs xs cs v now un i HWF.out hno hun er HE.out _ (HR.out.keep (by repeat (first | assumption | exact Below.refl _ _ | apply Below.al | apply below_drewN | apply Below.drew | refine Below.next ?_ (by assumption)))) (HP.out.keep (by repeat (first | assumption | exact Below.refl _ _ | apply Below.al | apply below_drewN | apply Below.drew | refine Below.next ?_ (by assumption))))).mono ?_
  rintro e w1 ⟨rfl, hb⟩
  have hB : Below w.heap.size w w1 := (by repeat (first | assumption | exact Below.refl _ _ | apply Below.al | apply below_drewN | apply Below.drew | refine Below.next ?_ (by assumption)))
  clear hb
  go_wp2_with fail
  go_ret2
  exact ⟨rfl, hB⟩
/-- a call has returned these levels and this error -/
def LR (w : World) (ls : List Lv) (er : Int) (e : Ending) (w' : World) : Prop := ∃ v, e = .returned (.tuple #[v, .int .i64 er]) ∧ RdL w' v ls ∧ Fresh w.heap.size v ∧ Below w.heap.size w w'
theorem chk_zero {q st : Int} {xs : List Int} (h : chk q st xs = 0) (i : Inp q st xs) : Rb xs ∧ 0 ≤ st ∧ st ≤ 1099511627776 := by
  have g := Good.of i h
  have h1 := sum_nn g.gxs
  have h2 := g.gle
  have h3 := g.gq
  have h4 := g.gst
  refine ⟨⟨g.gn, fun k hk => ?_⟩, by omega, by omega⟩
  have hk2 := g.gxs.get k (by rw [g.gn]; exact hk)
  have hs := sum_take_succ xs k (by rw [g.gn]; exact hk)
  have hle := sum_take_le g.gxs (k + 1)
  have hnn := sum_nn (g.gxs.take k)
  omega
theorem own_row {w : World} {base : Nat} {e : TypeId} {size : Nat} {v : Value} {n : Nat} {xs : List Value} (h : w.ownsRow base e size v n xs) {r : Nat} (hr : v.ownBlock = some r) : ∃ cur, w.heap[r]? = some (.cells cur e (0, 0)) := by
  obtain ⟨_, ⟨rfl, _⟩ | ⟨g, cap, cur, rfl, _, hh, _⟩⟩ := h
  · simp [Value.ownBlock] at hr
  · simp [Value.ownBlock] at hr; subst hr; exact ⟨cur, hh⟩
set_option maxHeartbeats 4000000 in
theorem levels_ok (c : Cf) (q st : Int) (rs : Value) (xs : List Int) (cs : List Ct) (v : Value) (now un : Int) (i : Inp q st xs) (hwf : ∀ c, c ∈ cs → Wf c) (hno : Ib now) (hun : Ib un) (he : fck c q st xs cs now un = 0) (w : World) (h : RdI .u64 w rs xs) (hp : RdC w v cs) :
    Calls Try.prog 31 #[c.v, Sv q st rs, v, .int .i64 now, .int .i64 un] w (LR w (lvO c cs st xs now (un - now).toNat) 0) := by
  obtain ⟨hc1, hc2, hpl, hn1, hn2, hn3, hn4⟩ := fck_zero he
  obtain ⟨hrb, hs0, hs1⟩ := chk_zero hc2 i
  obtain ⟨M, hM⟩ : ∃ M : Nat, un = now + M := ⟨(un - now).toNat, by omega⟩
  subst hM
  rw [show (now + (M : Int) - now).toNat = M by omega]
  have hM1 : M ≤ 1000 := by omega
  have HWD := hc1.2.2
  have HR := Lib.hid h
  have HP := Lib.hid hp
  have HE := Lib.hid he
  have HPL := Lib.hid hpl
  have HRB := Lib.hid hrb
  have HWF := Lib.hid hwf
  clear h hp he hpl hn3 hn4 hc2 hrb hwf hc1
  obtain ⟨pa, pc, rfl⟩ := HP.out.form
  obtain ⟨N, hN⟩ : ∃ N, cs.length = N := ⟨_, rfl⟩
  have HN := Lib.hid hN
  have HP2 : Hid (RdC w (.slice pa N pc) cs) := by unfold Hid; rw [← hN]; exact HP.out
  rw [hN]
  clear hN HP
  have HP := HP2
  clear HP2
  refine (callsIn_wide (n := 9)).1 ?_
  refine callsIn_of_wp_marks Try.func31 rfl trivial ?_ rfl
  refine wpIn_wide.2 ?_
  simp only [Try.ntmps31, List.size_toArray, List.length_cons, List.length_nil, Nat.reduceAdd, Nat.reduceSub, Array.replicate_succ, Array.replicate_zero, List.push_toArray, List.append_toArray, List.nil_append, List.cons_append]
  go_wp2_with fail
  obtain ⟨W1, hW1⟩ : ∃ W : World, W = (w.alloc (.cells #[.int .i64 c.nd, .int .u64 c.qo, .int .u64 c.la, .int .u64 c.wd, .int .u64 c.lo, .int .i64 c.re, .int .i64 c.rm, .int .i64 c.by', .int .i64 c.w0, .int .i64 c.w1, .int .i64 c.w2, .int .i64 c.rn, .int .i64 c.rd, .int .i64 c.bu, .int .i64 c.bl, .int .i64 c.ra] 35)).alloc (.cells #[.int .u64 q, .int .u64 st, rs] 38) := ⟨_, rfl⟩
  have b0 : BoxN W1 w.heap.size 35 #[.int .i64 c.nd, .int .u64 c.qo, .int .u64 c.la, .int .u64 c.wd, .int .u64 c.lo, .int .i64 c.re, .int .i64 c.rm, .int .i64 c.by', .int .i64 c.w0, .int .i64 c.w1, .int .i64 c.w2, .int .i64 c.rn, .int .i64 c.rd, .int .i64 c.bu, .int .i64 c.bl, .int .i64 c.ra] := by rw [hW1]; exact heap_al _ (heap_last w _)
  have b1 : BoxN W1 (w.heap.size + 1) 38 #[.int .u64 q, .int .u64 st, rs] := by
    rw [hW1]; unfold BoxN; have := heap_last (w.alloc (.cells #[.int .i64 c.nd, .int .u64 c.qo, .int .u64 c.la, .int .u64 c.wd, .int .u64 c.lo, .int .i64 c.re, .int .i64 c.rm, .int .i64 c.by', .int .i64 c.w0, .int .i64 c.w1, .int .i64 c.w2, .int .i64 c.rn, .int .i64 c.rd, .int .i64 c.bu, .int .i64 c.bl, .int .i64 c.ra] 35)) (.cells #[.int .u64 q, .int .u64 st, rs] 38); rwa [World.size_alloc] at this
  have hB1 : Below w.heap.size w W1 := by rw [hW1]; exact (by repeat (first | assumption | exact Below.refl _ _ | apply Below.al | apply below_drewN | apply Below.drew | refine Below.next ?_ (by assumption)))
  have hz1 : w.heap.size + 2 = W1.heap.size := by rw [hW1]; simp
  rw [← hW1]
  clear hW1
  refine (fcheck_any c q st rs xs cs (.slice pa N pc) now (now + M) i HWF.out hno hun 0 HE.out _ (HR.out.keep hB1) (HP.out.keep hB1)).mono ?_
  rintro e w1 ⟨rfl, hb⟩
  have b0 := b0.below hb
  have b1 := b1.below hb
  have hB2 := Below.next hB1 hb
  have hz2 : w.heap.size + 2 ≤ w1.heap.size := by have := hb.size; omega
  clear hb hz1 hB1
  obtain ⟨W2, hW2⟩ : ∃ W : World, W = w1.alloc (.cells #[.slice none 0 0] 45) := ⟨_, rfl⟩
  have bL : Boxed W2 w1.heap.size 45 (.slice none 0 0) := by rw [hW2]; exact Boxed.new w1 _ _
  have b0 := b0.alloc (.cells #[.slice none 0 0] 45)
  have b1 := b1.alloc (.cells #[.slice none 0 0] 45)
  rw [← hW2] at b0 b1
  have hB3 : Below w.heap.size w W2 := by rw [hW2]; exact Below.al hB2 _
  have hz3 : W2.heap.size = w1.heap.size + 1 := by rw [hW2]; simp
  obtain ⟨L, hL⟩ : ∃ L, L = w1.heap.size := ⟨_, rfl⟩
  rw [← hL] at bL hz2 hz3
  have HL := Lib.hid hL
  clear hL
  have a0 : W2.cell? ⟨w.heap.size, 0, none⟩ = some (.int .i64 c.nd) := b0.cell 0
  have a1 : W2.cell? ⟨w.heap.size, 1, none⟩ = some (.int .u64 c.qo) := b0.cell 1
  have a2 : W2.cell? ⟨w.heap.size, 2, none⟩ = some (.int .u64 c.la) := b0.cell 2
  have a3 : W2.cell? ⟨w.heap.size, 3, none⟩ = some (.int .u64 c.wd) := b0.cell 3
  have a4 : W2.cell? ⟨w.heap.size, 4, none⟩ = some (.int .u64 c.lo) := b0.cell 4
  have a5 : W2.cell? ⟨w.heap.size, 5, none⟩ = some (.int .i64 c.re) := b0.cell 5
  have a6 : W2.cell? ⟨w.heap.size, 6, none⟩ = some (.int .i64 c.rm) := b0.cell 6
  have a7 : W2.cell? ⟨w.heap.size, 7, none⟩ = some (.int .i64 c.by') := b0.cell 7
  have a8 : W2.cell? ⟨w.heap.size, 8, none⟩ = some (.int .i64 c.w0) := b0.cell 8
  have a9 : W2.cell? ⟨w.heap.size, 9, none⟩ = some (.int .i64 c.w1) := b0.cell 9
  have a10 : W2.cell? ⟨w.heap.size, 10, none⟩ = some (.int .i64 c.w2) := b0.cell 10
  have a11 : W2.cell? ⟨w.heap.size, 11, none⟩ = some (.int .i64 c.rn) := b0.cell 11
  have a12 : W2.cell? ⟨w.heap.size, 12, none⟩ = some (.int .i64 c.rd) := b0.cell 12
  have a13 : W2.cell? ⟨w.heap.size, 13, none⟩ = some (.int .i64 c.bu) := b0.cell 13
  have a14 : W2.cell? ⟨w.heap.size, 14, none⟩ = some (.int .i64 c.bl) := b0.cell 14
  have a15 : W2.cell? ⟨w.heap.size, 15, none⟩ = some (.int .i64 c.ra) := b0.cell 15
  have e0 : W2.cell? ⟨w.heap.size + 1, 0, none⟩ = some (.int .u64 q) := b1.cell 0
  have e1 : W2.cell? ⟨w.heap.size + 1, 1, none⟩ = some (.int .u64 st) := b1.cell 1
  have e2 : W2.cell? ⟨w.heap.size + 1, 2, none⟩ = some (rs) := b1.cell 2
  clear b0 b1
  go_upto_region 5 with fail
  rw [← hW2]
  clear hW2
  go_wp2_with fail
  refine (vlevels_any c q st rs pa N pc now (now + M) W2).mono ?_
  rintro e w3 ⟨rfl, hBX, hb, hz4⟩
  have bL := Boxed.below bL hb
  have hB4 := Below.next hB3 hb
  obtain ⟨B, hB⟩ : ∃ B, B = W2.heap.size := ⟨_, rfl⟩
  rw [← hB] at hBX hz4 hz3 ⊢
  have hz5 : L < B := by omega
  have hz6 : B < w3.heap.size := by omega
  clear hz3 hz4
  have HLw := HL.out
  have HB4 := Lib.hid hB4
  have HBX := Lib.hid hBX
  have HBL := Lib.hid bL
  clear a0 a1 a2 a3 a4 a5 a6 a7 a8 a9 a10 a11 a12 a13 a14 a15 e0 e1 e2 hb hB hBX hB4 bL hB3
  rw [← HLw]
  clear HLw HL
  have hseq := levels_seq c cs q st rs xs (.slice pa N pc) now M 8 B w w3 HPL.out HP.out HR.out HRB.out ⟨hs0, hs1⟩ HWD hn1 hn2 hM1 HB4.out HBX.out
  have h0 : LI L (outL (lvs c cs st xs now 0)) w3 := by show LI L [] w3; exact ⟨_, HBL.out, rfl, .inl ⟨rfl, rfl⟩⟩
  have HSEQ := Lib.hid hseq
  have H0 := Lib.hid h0
  clear hseq h0
  go_wp2_with fail
  refine range_ownW (gf := 96) (lb := #[.pointer (some ⟨B + 1, 0, none⟩), .pointer (some ⟨B + 3, 0, none⟩), .pointer (some ⟨B + 4, 0, none⟩), .pointer (some ⟨B + 2, 0, none⟩), .pointer (some ⟨B, 0, none⟩)]) 9 57 (fun tm k Bx => ((tm.setIfInBounds 32 (.int .i64 (now + (k : Int)))).setIfInBounds 33 (.agg (lvl c cs st xs now k).cells.toArray)).setIfInBounds 15 (.pointer (some ⟨Bx, 0, none⟩))) (by omega) ?hg ?eg
    (e1 := fun k => .int .i64 (now + (k : Int))) (cs := fun k => (lvl c cs st xs now k).cells.toArray) (p := pF) (q := qL) (n0 := w.heap.size) (N := M) ?hp ?hq ?hn0 ?hseq
    (fun k W => LI L (outL (lvs c cs st xs now k)) W ∧ Below w.heap.size w W) ?hI ?h0 ?assign ?body ?done
  case hg => rfl
  case eg => exact enters_of Try.func96 (by kernel_rfl) rfl
  case hn0 => omega
  case hseq => exact HSEQ.out
  case h0 => exact ⟨H0.out, HB4.out⟩
  case hp => intro o h; cases o <;> first | rfl | (simp [Obj.isCells] at h)
  case hq => intro o h; cases o <;> first | rfl | (simp [Obj.isCells] at h)
  case hI => exact fun k A B' h hb hk => ⟨h.1.keep hk, h.2.trans (hb.mono (by omega))⟩
  case assign =>
    intro l k W K hI hz hK
    obtain ⟨x, hx⟩ : ∃ x, lvl c cs st xs now k = x := ⟨_, rfl⟩
    rw [hx] at hK ⊢
    clear hx hI
    simp only [Lv.cells, List.setIfInBounds_toArray, List.set_cons_zero, List.set_cons_succ] at hK ⊢
    gi_wp2
    exact hK
  case body =>
    obtain ⟨j0, hj, hjz, hjs, hjb⟩ := info_parts ELv.hi
    rintro l k Bx W ⟨⟨v, bL, hown⟩, hBW⟩ hzW hBx hbx hkM
    have hls : outL (lvs c cs st xs now (k + 1)) = addL (outL (lvs c cs st xs now k)) (lvl c cs st xs now k) := by show outL (lvs c cs st xs now k ++ [lvl c cs st xs now k]) = _; rw [outL_snoc]
    have hlen := outL_len (lvs c cs st xs now k)
    rw [lvs_len] at hlen
    obtain ⟨x, hx⟩ : ∃ x, lvl c cs st xs now k = x := ⟨_, rfl⟩
    obtain ⟨ls, hl⟩ : ∃ ls, outL (lvs c cs st xs now k) = ls := ⟨_, rfl⟩
    rw [hx] at hbx hls ⊢
    rw [hl] at hown hls hlen
    obtain ⟨va, vc, rfl⟩ := owns_form hown
    obtain ⟨nn, hnn⟩ : ∃ nn, ls.length = nn := ⟨_, rfl⟩
    rw [hnn] at hown hlen bL
    have HLS := Lib.hid hls
    have HNN := Lib.hid hnn
    clear hx hl hls hnn
    simp only [Lv.cells, List.setIfInBounds_toArray, List.set_cons_zero, List.set_cons_succ] at hbx ⊢
    have x0 : W.cell? ⟨Bx, 0, none⟩ = some (.int .i64 x.tk) := hbx.cell 0
    have x1 : W.cell? ⟨Bx, 1, none⟩ = some (.int .u64 x.st) := hbx.cell 1
    have x2 : W.cell? ⟨Bx, 2, none⟩ = some (.int .u64 x.rv) := hbx.cell 2
    have bcell := bL.cell
    have HBX2 := Lib.hid hbx
    have HBL := Lib.hid bL
    have HOWN := Lib.hid hown
    clear hbx bL
    by_cases hn : 0 < nn
    · obtain ⟨i, hi⟩ : ∃ i : Nat, nn = i + 1 := ⟨nn - 1, by omega⟩
      have hRd : RdL W (.slice va nn vc) ls := by unfold RdL; rw [HNN.out]; exact RdS.of_owns HOWN.out (by decide)
      obtain ⟨b, off, rfl, hcap, hla⟩ := RdL.at hRd HNN.out i (by omega)
      obtain ⟨y, hy⟩ : ∃ y, ls.getD i lv0 = y := ⟨_, rfl⟩
      rw [hy] at hla
      have HLS2 : Hid (outL (lvs c cs st xs now (k + 1)) = if y.st = x.st ∧ y.rv = x.rv then ls else ls ++ [x]) := by
        unfold Hid
        rw [HLS.out]
        unfold addL
        rw [HNN.out, show nn - 1 = i by omega, hy]
        congr 1
        simp only [eq_iff_iff]
        exact ⟨fun h => h.2, fun h => ⟨hn, h⟩⟩
      have g0 : decide ((0 : Int) < (nn : Int)) = true := yb (by omega)
      have g0' : decide (0 < nn) = true := yb hn
      have hwn : IntKind.i64.wrap ((nn : Int) - 1) = (i : Int) := by rw [show (nn : Int) - 1 = (i : Int) by omega]; exact IntWalk.i64_in _ (by omega)
      have hwi : IntKind.i64.wrap (i : Int) = (i : Int) := IntWalk.i64_in _ (by omega)
      have hi0 : (0 : Int) ≤ (i : Int) := by omega
      have hi1 : (i : Int) < (nn : Int) := by omega
      clear hi hRd hy HLS hn
      by_cases h1 : y.st = x.st
      · have d1 : (y.st == x.st) = true := by simp [h1]
        by_cases h2 : y.rv = x.rv
        · have d2 : (y.rv == x.rv) = true := by simp [h2]
          have hls := HLS2.out
          rw [if_pos ⟨h1, h2⟩] at hls
          have HLS := Lib.hid hls
          clear h1 h2 hls HLS2
          gi_wp2
          refine wpIn_region_calm (fun w' => Below W.heap.size W w') 99 (by kernel_rfl) (fun h => by obtain ⟨_, _, h⟩ := h; exact h) (by kernel_rfl) ((Below.refl _ W).drew) ?_
          refine cm_run 0 36 (v := ?_) rfl rfl (by kernel_rfl) (by kernel_rfl) (by kernel_rfl) (by kernel_rfl) (by kernel_rfl) (fun _ _ _ h => h) (by rfl) ?_ ?_
          rotate_left
          · (intro wS hS; skip; go_simp; (try with_reducible rfl))
          simp only [List.setIfInBounds_toArray, List.set_cons_zero, List.set_cons_succ]
          refine cm_run 1 37 (v := ?_) rfl rfl (by kernel_rfl) (by kernel_rfl) (by kernel_rfl) (by kernel_rfl) (by kernel_rfl) (fun _ _ _ h => h) (by rfl) ?_ ?_
          rotate_left
          · (intro wS hS; skip; go_simp; (try with_reducible rfl))
          simp only [List.setIfInBounds_toArray, List.set_cons_zero, List.set_cons_succ]
          refine cm_run 2 38 (v := ?_) rfl rfl (by kernel_rfl) (by kernel_rfl) (by kernel_rfl) (by kernel_rfl) (by kernel_rfl) (fun _ _ _ h => h) (by rfl) ?_ ?_
          rotate_left
          · (intro wS hS; skip; go_simp; (try with_reducible rfl))
          simp only [List.setIfInBounds_toArray, List.set_cons_zero, List.set_cons_succ]
          refine cm_run 3 39 (v := ?_) rfl rfl (by kernel_rfl) (by kernel_rfl) (by kernel_rfl) (by kernel_rfl) (by kernel_rfl) (fun _ _ _ h => h) (by rfl) ?_ ?_
          rotate_left
          · (intro wS hS; have g := cell_later hS bcell; go_simp; (try with_reducible rfl))
          simp only [List.setIfInBounds_toArray, List.set_cons_zero, List.set_cons_succ]
          refine cm_run 4 40 (v := ?_) rfl rfl (by kernel_rfl) (by kernel_rfl) (by kernel_rfl) (by kernel_rfl) (by kernel_rfl) (fun _ _ _ h => h) (by rfl) ?_ ?_
          rotate_left
          · (intro wS hS; skip; go_simp; (try with_reducible rfl))
          simp only [List.setIfInBounds_toArray, List.set_cons_zero, List.set_cons_succ]
          refine cm_run 5 41 (v := ?_) rfl rfl (by kernel_rfl) (by kernel_rfl) (by kernel_rfl) (by kernel_rfl) (by kernel_rfl) (fun _ _ _ h => h) (by rfl) ?_ ?_
          rotate_left
          · (intro wS hS; skip; go_simp; (try with_reducible rfl))
          simp only [List.setIfInBounds_toArray, List.set_cons_zero, List.set_cons_succ]
          refine cm_run 6 42 (v := ?_) rfl rfl (by kernel_rfl) (by kernel_rfl) (by kernel_rfl) (by kernel_rfl) (by kernel_rfl) (fun _ _ _ h => h) (by rfl) ?_ ?_
          rotate_left
          · (intro wS hS; skip; go_simp; (try with_reducible rfl))
          simp only [List.setIfInBounds_toArray, List.set_cons_zero, List.set_cons_succ]
          refine cm_run 7 43 (v := ?_) rfl rfl (by kernel_rfl) (by kernel_rfl) (by kernel_rfl) (by kernel_rfl) (by kernel_rfl) (fun _ _ _ h => h) (by rfl) ?_ ?_
          rotate_left
          · (intro wS hS; skip; go_simp; (try with_reducible rfl))
          simp only [List.setIfInBounds_toArray, List.set_cons_zero, List.set_cons_succ]
          refine cm_run 8 44 (v := ?_) rfl rfl (by kernel_rfl) (by kernel_rfl) (by kernel_rfl) (by kernel_rfl) (by kernel_rfl) (fun _ _ _ h => h) (by rfl) ?_ ?_
          rotate_left
          · (intro wS hS; have g := cell_later hS hla.2.1; go_simp; (try with_reducible rfl))
          simp only [List.setIfInBounds_toArray, List.set_cons_zero, List.set_cons_succ]
          refine cm_run 9 45 (v := ?_) rfl rfl (by kernel_rfl) (by kernel_rfl) (by kernel_rfl) (by kernel_rfl) (by kernel_rfl) (fun _ _ _ h => h) (by rfl) ?_ ?_
          rotate_left
          · (intro wS hS; skip; go_simp; (try with_reducible rfl))
          simp only [List.setIfInBounds_toArray, List.set_cons_zero, List.set_cons_succ]
          refine cm_run 10 46 (v := ?_) rfl rfl (by kernel_rfl) (by kernel_rfl) (by kernel_rfl) (by kernel_rfl) (by kernel_rfl) (fun _ _ _ h => h) (by rfl) ?_ ?_
          rotate_left
          · (intro wS hS; have g := cell_later hS x1; go_simp; (try with_reducible rfl))
          simp only [List.setIfInBounds_toArray, List.set_cons_zero, List.set_cons_succ]
          refine cm_run 11 47 (v := ?_) rfl rfl (by kernel_rfl) (by kernel_rfl) (by kernel_rfl) (by kernel_rfl) (by kernel_rfl) (fun _ _ _ h => h) (by rfl) ?_ ?_
          rotate_left
          · (intro wS hS; skip; go_simp; (try with_reducible rfl))
          simp only [List.setIfInBounds_toArray, List.set_cons_zero, List.set_cons_succ]
          refine cm_run 12 48 (v := ?_) rfl rfl (by kernel_rfl) (by kernel_rfl) (by kernel_rfl) (by kernel_rfl) (by kernel_rfl) (fun _ _ _ h => h) (by rfl) ?_ ?_
          rotate_left
          · (intro wS hS; skip; go_simp; (try with_reducible rfl))
          simp only [List.setIfInBounds_toArray, List.set_cons_zero, List.set_cons_succ]
          refine cm_run 13 49 (v := ?_) rfl rfl (by kernel_rfl) (by kernel_rfl) (by kernel_rfl) (by kernel_rfl) (by kernel_rfl) (fun _ _ _ h => h) (by rfl) ?_ ?_
          rotate_left
          · (intro wS hS; skip; go_simp; (try with_reducible rfl))
          simp only [List.setIfInBounds_toArray, List.set_cons_zero, List.set_cons_succ]
          refine cm_run 14 50 (v := ?_) rfl rfl (by kernel_rfl) (by kernel_rfl) (by kernel_rfl) (by kernel_rfl) (by kernel_rfl) (fun _ _ _ h => h) (by rfl) ?_ ?_
          rotate_left
          · (intro wS hS; have g := cell_later hS bcell; go_simp; (try with_reducible rfl))
          simp only [List.setIfInBounds_toArray, List.set_cons_zero, List.set_cons_succ]
          refine cm_run 15 51 (v := ?_) rfl rfl (by kernel_rfl) (by kernel_rfl) (by kernel_rfl) (by kernel_rfl) (by kernel_rfl) (fun _ _ _ h => h) (by rfl) ?_ ?_
          rotate_left
          · (intro wS hS; skip; go_simp; (try with_reducible rfl))
          simp only [List.setIfInBounds_toArray, List.set_cons_zero, List.set_cons_succ]
          refine cm_run 16 52 (v := ?_) rfl rfl (by kernel_rfl) (by kernel_rfl) (by kernel_rfl) (by kernel_rfl) (by kernel_rfl) (fun _ _ _ h => h) (by rfl) ?_ ?_
          rotate_left
          · (intro wS hS; skip; go_simp; (try with_reducible rfl))
          simp only [List.setIfInBounds_toArray, List.set_cons_zero, List.set_cons_succ]
          refine cm_run 17 53 (v := ?_) rfl rfl (by kernel_rfl) (by kernel_rfl) (by kernel_rfl) (by kernel_rfl) (by kernel_rfl) (fun _ _ _ h => h) (by rfl) ?_ ?_
          rotate_left
          · (intro wS hS; skip; go_simp; (try with_reducible rfl))
          simp only [List.setIfInBounds_toArray, List.set_cons_zero, List.set_cons_succ]
          refine cm_run 18 54 (v := ?_) rfl rfl (by kernel_rfl) (by kernel_rfl) (by kernel_rfl) (by kernel_rfl) (by kernel_rfl) (fun _ _ _ h => h) (by rfl) ?_ ?_
          rotate_left
          · (intro wS hS; skip; go_simp; (try with_reducible rfl))
          simp only [List.setIfInBounds_toArray, List.set_cons_zero, List.set_cons_succ]
          refine cm_run 19 55 (v := ?_) rfl rfl (by kernel_rfl) (by kernel_rfl) (by kernel_rfl) (by kernel_rfl) (by kernel_rfl) (fun _ _ _ h => h) (by rfl) ?_ ?_
          rotate_left
          · (intro wS hS; have g := cell_later hS hla.2.2; go_simp; (try with_reducible rfl))
          simp only [List.setIfInBounds_toArray, List.set_cons_zero, List.set_cons_succ]
          refine cm_run 20 56 (v := ?_) rfl rfl (by kernel_rfl) (by kernel_rfl) (by kernel_rfl) (by kernel_rfl) (by kernel_rfl) (fun _ _ _ h => h) (by rfl) ?_ ?_
          rotate_left
          · (intro wS hS; skip; go_simp; (try with_reducible rfl))
          simp only [List.setIfInBounds_toArray, List.set_cons_zero, List.set_cons_succ]
          refine cm_run 21 57 (v := ?_) rfl rfl (by kernel_rfl) (by kernel_rfl) (by kernel_rfl) (by kernel_rfl) (by kernel_rfl) (fun _ _ _ h => h) (by rfl) ?_ ?_
          rotate_left
          · (intro wS hS; have g := cell_later hS x2; go_simp; (try with_reducible rfl))
          simp only [List.setIfInBounds_toArray, List.set_cons_zero, List.set_cons_succ]
          refine cm_run 22 58 (v := ?_) rfl rfl (by kernel_rfl) (by kernel_rfl) (by kernel_rfl) (by kernel_rfl) (by kernel_rfl) (fun _ _ _ h => h) (by rfl) ?_ ?_
          rotate_left
          · (intro wS hS; skip; go_simp; (try with_reducible rfl))
          simp only [List.setIfInBounds_toArray, List.set_cons_zero, List.set_cons_succ]
          refine cm_run 23 59 (v := ?_) rfl rfl (by kernel_rfl) (by kernel_rfl) (by kernel_rfl) (by kernel_rfl) (by kernel_rfl) (fun _ _ _ h => h) (by rfl) ?_ ?_
          rotate_left
          · (intro wS hS; skip; go_simp; (try with_reducible rfl))
          simp only [List.setIfInBounds_toArray, List.set_cons_zero, List.set_cons_succ]
          refine cm_done (by kernel_rfl) ?_
          intro wS hS
          have hzS := hS.size
          have HS := Lib.hid hS
          clear hS bcell x0 x1 x2 hla
          gi_wp2
          exact ⟨(keeps_below HS.out).from _, ⟨HS.out.mono (by omega), keepsP.below HS.out⟩, by rw [HLS.out]; exact ⟨_, Boxed.below HBL.out HS.out, by rw [HNN.out]; exact own_keep HS.out HOWN.out⟩, Below.next hBW HS.out⟩
        · have d2 : (y.rv == x.rv) = false := by simp [h2]
          have hls := HLS2.out
          rw [if_neg (fun h => h2 h.2)] at hls
          have HLS := Lib.hid hls
          clear h1 h2 hls HLS2
          gi_wp2
          refine wpIn_region_calm (fun w' => Below W.heap.size W w') 99 (by kernel_rfl) (fun h => by obtain ⟨_, _, h⟩ := h; exact h) (by kernel_rfl) ((Below.refl _ W).drew) ?_
          refine cm_run 0 36 (v := ?_) rfl rfl (by kernel_rfl) (by kernel_rfl) (by kernel_rfl) (by kernel_rfl) (by kernel_rfl) (fun _ _ _ h => h) (by rfl) ?_ ?_
          rotate_left
          · (intro wS hS; skip; go_simp; (try with_reducible rfl))
          simp only [List.setIfInBounds_toArray, List.set_cons_zero, List.set_cons_succ]
          refine cm_run 1 37 (v := ?_) rfl rfl (by kernel_rfl) (by kernel_rfl) (by kernel_rfl) (by kernel_rfl) (by kernel_rfl) (fun _ _ _ h => h) (by rfl) ?_ ?_
          rotate_left
          · (intro wS hS; skip; go_simp; (try with_reducible rfl))
          simp only [List.setIfInBounds_toArray, List.set_cons_zero, List.set_cons_succ]
          refine cm_run 2 38 (v := ?_) rfl rfl (by kernel_rfl) (by kernel_rfl) (by kernel_rfl) (by kernel_rfl) (by kernel_rfl) (fun _ _ _ h => h) (by rfl) ?_ ?_
          rotate_left
          · (intro wS hS; skip; go_simp; (try with_reducible rfl))
          simp only [List.setIfInBounds_toArray, List.set_cons_zero, List.set_cons_succ]
          refine cm_run 3 39 (v := ?_) rfl rfl (by kernel_rfl) (by kernel_rfl) (by kernel_rfl) (by kernel_rfl) (by kernel_rfl) (fun _ _ _ h => h) (by rfl) ?_ ?_
          rotate_left
          · (intro wS hS; have g := cell_later hS bcell; go_simp; (try with_reducible rfl))
          simp only [List.setIfInBounds_toArray, List.set_cons_zero, List.set_cons_succ]
          refine cm_run 4 40 (v := ?_) rfl rfl (by kernel_rfl) (by kernel_rfl) (by kernel_rfl) (by kernel_rfl) (by kernel_rfl) (fun _ _ _ h => h) (by rfl) ?_ ?_
          rotate_left
          · (intro wS hS; skip; go_simp; (try with_reducible rfl))
          simp only [List.setIfInBounds_toArray, List.set_cons_zero, List.set_cons_succ]
          refine cm_run 5 41 (v := ?_) rfl rfl (by kernel_rfl) (by kernel_rfl) (by kernel_rfl) (by kernel_rfl) (by kernel_rfl) (fun _ _ _ h => h) (by rfl) ?_ ?_
          rotate_left
          · (intro wS hS; skip; go_simp; (try with_reducible rfl))
          simp only [List.setIfInBounds_toArray, List.set_cons_zero, List.set_cons_succ]
          refine cm_run 6 42 (v := ?_) rfl rfl (by kernel_rfl) (by kernel_rfl) (by kernel_rfl) (by kernel_rfl) (by kernel_rfl) (fun _ _ _ h => h) (by rfl) ?_ ?_
          rotate_left
          · (intro wS hS; skip; go_simp; (try with_reducible rfl))
          simp only [List.setIfInBounds_toArray, List.set_cons_zero, List.set_cons_succ]
          refine cm_run 7 43 (v := ?_) rfl rfl (by kernel_rfl) (by kernel_rfl) (by kernel_rfl) (by kernel_rfl) (by kernel_rfl) (fun _ _ _ h => h) (by rfl) ?_ ?_
          rotate_left
          · (intro wS hS; skip; go_simp; (try with_reducible rfl))
          simp only [List.setIfInBounds_toArray, List.set_cons_zero, List.set_cons_succ]
          refine cm_run 8 44 (v := ?_) rfl rfl (by kernel_rfl) (by kernel_rfl) (by kernel_rfl) (by kernel_rfl) (by kernel_rfl) (fun _ _ _ h => h) (by rfl) ?_ ?_
          rotate_left
          · (intro wS hS; have g := cell_later hS hla.2.1; go_simp; (try with_reducible rfl))
          simp only [List.setIfInBounds_toArray, List.set_cons_zero, List.set_cons_succ]
          refine cm_run 9 45 (v := ?_) rfl rfl (by kernel_rfl) (by kernel_rfl) (by kernel_rfl) (by kernel_rfl) (by kernel_rfl) (fun _ _ _ h => h) (by rfl) ?_ ?_
          rotate_left
          · (intro wS hS; skip; go_simp; (try with_reducible rfl))
          simp only [List.setIfInBounds_toArray, List.set_cons_zero, List.set_cons_succ]
          refine cm_run 10 46 (v := ?_) rfl rfl (by kernel_rfl) (by kernel_rfl) (by kernel_rfl) (by kernel_rfl) (by kernel_rfl) (fun _ _ _ h => h) (by rfl) ?_ ?_
          rotate_left
          · (intro wS hS; have g := cell_later hS x1; go_simp; (try with_reducible rfl))
          simp only [List.setIfInBounds_toArray, List.set_cons_zero, List.set_cons_succ]
          refine cm_run 11 47 (v := ?_) rfl rfl (by kernel_rfl) (by kernel_rfl) (by kernel_rfl) (by kernel_rfl) (by kernel_rfl) (fun _ _ _ h => h) (by rfl) ?_ ?_
          rotate_left
          · (intro wS hS; skip; go_simp; (try with_reducible rfl))
          simp only [List.setIfInBounds_toArray, List.set_cons_zero, List.set_cons_succ]
          refine cm_run 12 48 (v := ?_) rfl rfl (by kernel_rfl) (by kernel_rfl) (by kernel_rfl) (by kernel_rfl) (by kernel_rfl) (fun _ _ _ h => h) (by rfl) ?_ ?_
          rotate_left
          · (intro wS hS; skip; go_simp; (try with_reducible rfl))
          simp only [List.setIfInBounds_toArray, List.set_cons_zero, List.set_cons_succ]
          refine cm_run 13 49 (v := ?_) rfl rfl (by kernel_rfl) (by kernel_rfl) (by kernel_rfl) (by kernel_rfl) (by kernel_rfl) (fun _ _ _ h => h) (by rfl) ?_ ?_
          rotate_left
          · (intro wS hS; skip; go_simp; (try with_reducible rfl))
          simp only [List.setIfInBounds_toArray, List.set_cons_zero, List.set_cons_succ]
          refine cm_run 14 50 (v := ?_) rfl rfl (by kernel_rfl) (by kernel_rfl) (by kernel_rfl) (by kernel_rfl) (by kernel_rfl) (fun _ _ _ h => h) (by rfl) ?_ ?_
          rotate_left
          · (intro wS hS; have g := cell_later hS bcell; go_simp; (try with_reducible rfl))
          simp only [List.setIfInBounds_toArray, List.set_cons_zero, List.set_cons_succ]
          refine cm_run 15 51 (v := ?_) rfl rfl (by kernel_rfl) (by kernel_rfl) (by kernel_rfl) (by kernel_rfl) (by kernel_rfl) (fun _ _ _ h => h) (by rfl) ?_ ?_
          rotate_left
          · (intro wS hS; skip; go_simp; (try with_reducible rfl))
          simp only [List.setIfInBounds_toArray, List.set_cons_zero, List.set_cons_succ]
          refine cm_run 16 52 (v := ?_) rfl rfl (by kernel_rfl) (by kernel_rfl) (by kernel_rfl) (by kernel_rfl) (by kernel_rfl) (fun _ _ _ h => h) (by rfl) ?_ ?_
          rotate_left
          · (intro wS hS; skip; go_simp; (try with_reducible rfl))
          simp only [List.setIfInBounds_toArray, List.set_cons_zero, List.set_cons_succ]
          refine cm_run 17 53 (v := ?_) rfl rfl (by kernel_rfl) (by kernel_rfl) (by kernel_rfl) (by kernel_rfl) (by kernel_rfl) (fun _ _ _ h => h) (by rfl) ?_ ?_
          rotate_left
          · (intro wS hS; skip; go_simp; (try with_reducible rfl))
          simp only [List.setIfInBounds_toArray, List.set_cons_zero, List.set_cons_succ]
          refine cm_run 18 54 (v := ?_) rfl rfl (by kernel_rfl) (by kernel_rfl) (by kernel_rfl) (by kernel_rfl) (by kernel_rfl) (fun _ _ _ h => h) (by rfl) ?_ ?_
          rotate_left
          · (intro wS hS; skip; go_simp; (try with_reducible rfl))
          simp only [List.setIfInBounds_toArray, List.set_cons_zero, List.set_cons_succ]
          refine cm_run 19 55 (v := ?_) rfl rfl (by kernel_rfl) (by kernel_rfl) (by kernel_rfl) (by kernel_rfl) (by kernel_rfl) (fun _ _ _ h => h) (by rfl) ?_ ?_
          rotate_left
          · (intro wS hS; have g := cell_later hS hla.2.2; go_simp; (try with_reducible rfl))
          simp only [List.setIfInBounds_toArray, List.set_cons_zero, List.set_cons_succ]
          refine cm_run 20 56 (v := ?_) rfl rfl (by kernel_rfl) (by kernel_rfl) (by kernel_rfl) (by kernel_rfl) (by kernel_rfl) (fun _ _ _ h => h) (by rfl) ?_ ?_
          rotate_left
          · (intro wS hS; skip; go_simp; (try with_reducible rfl))
          simp only [List.setIfInBounds_toArray, List.set_cons_zero, List.set_cons_succ]
          refine cm_run 21 57 (v := ?_) rfl rfl (by kernel_rfl) (by kernel_rfl) (by kernel_rfl) (by kernel_rfl) (by kernel_rfl) (fun _ _ _ h => h) (by rfl) ?_ ?_
          rotate_left
          · (intro wS hS; have g := cell_later hS x2; go_simp; (try with_reducible rfl))
          simp only [List.setIfInBounds_toArray, List.set_cons_zero, List.set_cons_succ]
          refine cm_run 22 58 (v := ?_) rfl rfl (by kernel_rfl) (by kernel_rfl) (by kernel_rfl) (by kernel_rfl) (by kernel_rfl) (fun _ _ _ h => h) (by rfl) ?_ ?_
          rotate_left
          · (intro wS hS; skip; go_simp; (try with_reducible rfl))
          simp only [List.setIfInBounds_toArray, List.set_cons_zero, List.set_cons_succ]
          refine cm_run 23 59 (v := ?_) rfl rfl (by kernel_rfl) (by kernel_rfl) (by kernel_rfl) (by kernel_rfl) (by kernel_rfl) (fun _ _ _ h => h) (by rfl) ?_ ?_
          rotate_left
          · (intro wS hS; skip; go_simp; (try with_reducible rfl))
          simp only [List.setIfInBounds_toArray, List.set_cons_zero, List.set_cons_succ]
          refine cm_done (by kernel_rfl) ?_
          intro wS hS
          have hzS := hS.size
          have bL := Boxed.below HBL.out hS
          have bcell := bL.cell
          have x0 := cell_later hS x0
          have x1 := cell_later hS x1
          have x2 := cell_later hS x2
          have hown := own_keep hS HOWN.out
          have HOWN1 := Lib.hid hown
          have HOWN2 := Lib.hid (hown.alloc (.cells #[.int .i64 x.tk, .int .u64 x.st, .int .u64 x.rv] 57))
          have HS := Lib.hid hS
          have HB5 := Lib.hid bL
          clear hown hS bL
          gi_wp2_with (gi_at_builtin; refine wpListIn_append_own _ rfl (.tmp 60) (.tmp 62) 45 rfl L 57 j0 (.agg #[.int .i64 0, .int .u64 0, .int .u64 0]) 3 24 Try.underlying45 hj hjz hjs hjb rfl (by decide) _ nn (lcs ls) rfl HOWN2.out ⟨wS.heap.size, 0, none⟩ 1 1 x.cells rfl rfl ?_ ?_ ?_ ?_ ?_ ?_)
          · intro j u hj
            rw [Addr.add_mid]
            match j, hj with
            | 0, hj => simp [Lv.cells] at hj; subst hj; simp [go_sem]
            | 1, hj => simp [Lv.cells] at hj; subst hj; simp [go_sem]
            | 2, hj => simp [Lv.cells] at hj; subst hj; simp [go_sem]
            | j + 3, hj => simp [Lv.cells] at hj
          · intro u hu
            simp [Lv.cells] at hu
            rcases hu with rfl | rfl | rfl <;> rfl
          · unfold maxLen; omega
          · omega
          · simp; omega
          intro v' w1 hown' hgrow _
          obtain ⟨a3, c3, rfl⟩ := owns_form hown'
          have HGR := Lib.hid hgrow
          have HO' : Hid (w1.ownsRow L 57 3 (.slice a3 (nn + 1) c3) (nn + 1) (lcs ls ++ x.cells)) := hown'
          have hall := HB5.out.appended (by decide) HOWN1.out (by omega) (Nat.le_refl _) hown' hgrow
          clear hgrow hown' bcell x0 x1 x2
          obtain ⟨hv1, hv2, hr2, hk2, hb2⟩ := hall
          have hc1 := hv1.cell
          have hf1 := hv1.frozen
          have HV1 := Lib.hid hv1
          have HV2 := Lib.hid hv2
          have HR2 := Lib.hid hr2
          have HK2 := Lib.hid hk2
          have HB2 := Lib.hid hb2
          clear hv1 hv2 hr2 hk2 hb2
          gi_wp2
          have hq : keepsP qL wS (w1.setCell ⟨L, 0, none⟩ (.slice a3 (nn + 1) c3)) := by
            have h1 : keepsP qL wS (wS.alloc (.cells #[.int .i64 x.tk, .int .u64 x.st, .int .u64 x.rv] 57)) := keepsP.below ((Below.refl _ _).alloc (Nat.le_refl _) _)
            have h2 := keepsP.grown (p := qL) HGR.out (fun r e o ho => by
              obtain ⟨cur, hc⟩ := own_row HOWN2.out e
              rw [hc] at ho; cases ho; rfl)
            exact (h1.trans h2).trans (keepsP.set HV1.out rfl _ rfl _)
          exact ⟨((keeps_below HS.out).trans HK2.out).from _, ⟨(HS.out.mono (by omega)).trans (HB2.out.mono (by omega)), (keepsP.below HS.out).trans hq⟩,
            by rw [HLS.out]; exact ⟨_, HV2.out, by rw [List.length_append, HNN.out, lcs_snoc]; exact HR2.out⟩, (Below.next hBW HS.out).trans (HB2.out.mono (by omega))⟩
      · have d1 : (y.st == x.st) = false := by simp [h1]
        have hls := HLS2.out
        rw [if_neg (fun h => h1 h.1)] at hls
        have HLS := Lib.hid hls
        clear h1 hls HLS2
        gi_wp2
        refine wpIn_region_calm (fun w' => Below W.heap.size W w') 99 (by kernel_rfl) (fun h => by obtain ⟨_, _, h⟩ := h; exact h) (by kernel_rfl) ((Below.refl _ W).drew) ?_
        refine cm_run 0 36 (v := ?_) rfl rfl (by kernel_rfl) (by kernel_rfl) (by kernel_rfl) (by kernel_rfl) (by kernel_rfl) (fun _ _ _ h => h) (by rfl) ?_ ?_
        rotate_left
        · (intro wS hS; skip; go_simp; (try with_reducible rfl))
        simp only [List.setIfInBounds_toArray, List.set_cons_zero, List.set_cons_succ]
        refine cm_run 1 37 (v := ?_) rfl rfl (by kernel_rfl) (by kernel_rfl) (by kernel_rfl) (by kernel_rfl) (by kernel_rfl) (fun _ _ _ h => h) (by rfl) ?_ ?_
        rotate_left
        · (intro wS hS; skip; go_simp; (try with_reducible rfl))
        simp only [List.setIfInBounds_toArray, List.set_cons_zero, List.set_cons_succ]
        refine cm_run 2 38 (v := ?_) rfl rfl (by kernel_rfl) (by kernel_rfl) (by kernel_rfl) (by kernel_rfl) (by kernel_rfl) (fun _ _ _ h => h) (by rfl) ?_ ?_
        rotate_left
        · (intro wS hS; skip; go_simp; (try with_reducible rfl))
        simp only [List.setIfInBounds_toArray, List.set_cons_zero, List.set_cons_succ]
        refine cm_run 3 39 (v := ?_) rfl rfl (by kernel_rfl) (by kernel_rfl) (by kernel_rfl) (by kernel_rfl) (by kernel_rfl) (fun _ _ _ h => h) (by rfl) ?_ ?_
        rotate_left
        · (intro wS hS; have g := cell_later hS bcell; go_simp; (try with_reducible rfl))
        simp only [List.setIfInBounds_toArray, List.set_cons_zero, List.set_cons_succ]
        refine cm_run 4 40 (v := ?_) rfl rfl (by kernel_rfl) (by kernel_rfl) (by kernel_rfl) (by kernel_rfl) (by kernel_rfl) (fun _ _ _ h => h) (by rfl) ?_ ?_
        rotate_left
        · (intro wS hS; skip; go_simp; (try with_reducible rfl))
        simp only [List.setIfInBounds_toArray, List.set_cons_zero, List.set_cons_succ]
        refine cm_run 5 41 (v := ?_) rfl rfl (by kernel_rfl) (by kernel_rfl) (by kernel_rfl) (by kernel_rfl) (by kernel_rfl) (fun _ _ _ h => h) (by rfl) ?_ ?_
        rotate_left
        · (intro wS hS; skip; go_simp; (try with_reducible rfl))
        simp only [List.setIfInBounds_toArray, List.set_cons_zero, List.set_cons_succ]
        refine cm_run 6 42 (v := ?_) rfl rfl (by kernel_rfl) (by kernel_rfl) (by kernel_rfl) (by kernel_rfl) (by kernel_rfl) (fun _ _ _ h => h) (by rfl) ?_ ?_
        rotate_left
        · (intro wS hS; skip; go_simp; (try with_reducible rfl))
        simp only [List.setIfInBounds_toArray, List.set_cons_zero, List.set_cons_succ]
        refine cm_run 7 43 (v := ?_) rfl rfl (by kernel_rfl) (by kernel_rfl) (by kernel_rfl) (by kernel_rfl) (by kernel_rfl) (fun _ _ _ h => h) (by rfl) ?_ ?_
        rotate_left
        · (intro wS hS; skip; go_simp; (try with_reducible rfl))
        simp only [List.setIfInBounds_toArray, List.set_cons_zero, List.set_cons_succ]
        refine cm_run 8 44 (v := ?_) rfl rfl (by kernel_rfl) (by kernel_rfl) (by kernel_rfl) (by kernel_rfl) (by kernel_rfl) (fun _ _ _ h => h) (by rfl) ?_ ?_
        rotate_left
        · (intro wS hS; have g := cell_later hS hla.2.1; go_simp; (try with_reducible rfl))
        simp only [List.setIfInBounds_toArray, List.set_cons_zero, List.set_cons_succ]
        refine cm_run 9 45 (v := ?_) rfl rfl (by kernel_rfl) (by kernel_rfl) (by kernel_rfl) (by kernel_rfl) (by kernel_rfl) (fun _ _ _ h => h) (by rfl) ?_ ?_
        rotate_left
        · (intro wS hS; skip; go_simp; (try with_reducible rfl))
        simp only [List.setIfInBounds_toArray, List.set_cons_zero, List.set_cons_succ]
        refine cm_run 10 46 (v := ?_) rfl rfl (by kernel_rfl) (by kernel_rfl) (by kernel_rfl) (by kernel_rfl) (by kernel_rfl) (fun _ _ _ h => h) (by rfl) ?_ ?_
        rotate_left
        · (intro wS hS; have g := cell_later hS x1; go_simp; (try with_reducible rfl))
        simp only [List.setIfInBounds_toArray, List.set_cons_zero, List.set_cons_succ]
        refine cm_run 11 47 (v := ?_) rfl rfl (by kernel_rfl) (by kernel_rfl) (by kernel_rfl) (by kernel_rfl) (by kernel_rfl) (fun _ _ _ h => h) (by rfl) ?_ ?_
        rotate_left
        · (intro wS hS; skip; go_simp; (try with_reducible rfl))
        simp only [List.setIfInBounds_toArray, List.set_cons_zero, List.set_cons_succ]
        refine cm_run 12 48 (v := ?_) rfl rfl (by kernel_rfl) (by kernel_rfl) (by kernel_rfl) (by kernel_rfl) (by kernel_rfl) (fun _ _ _ h => h) (by rfl) ?_ ?_
        rotate_left
        · (intro wS hS; skip; go_simp; (try with_reducible rfl))
        simp only [List.setIfInBounds_toArray, List.set_cons_zero, List.set_cons_succ]
        refine cm_run 13 49 (v := ?_) rfl rfl (by kernel_rfl) (by kernel_rfl) (by kernel_rfl) (by kernel_rfl) (by kernel_rfl) (fun _ _ _ h => h) (by rfl) ?_ ?_
        rotate_left
        · (intro wS hS; skip; go_simp; (try with_reducible rfl))
        simp only [List.setIfInBounds_toArray, List.set_cons_zero, List.set_cons_succ]
        refine cm_shut 14 50 rfl rfl (by kernel_rfl) (by kernel_rfl) (by kernel_rfl) (by kernel_rfl) (by kernel_rfl) (fun _ _ _ h => h) (by rfl) ?_
        simp only [List.setIfInBounds_toArray, List.set_cons_zero, List.set_cons_succ]
        refine cm_shut 15 51 rfl rfl (by kernel_rfl) (by kernel_rfl) (by kernel_rfl) (by kernel_rfl) (by kernel_rfl) (fun _ _ _ h => h) (by rfl) ?_
        simp only [List.setIfInBounds_toArray, List.set_cons_zero, List.set_cons_succ]
        refine cm_shut 16 52 rfl rfl (by kernel_rfl) (by kernel_rfl) (by kernel_rfl) (by kernel_rfl) (by kernel_rfl) (fun _ _ _ h => h) (by rfl) ?_
        simp only [List.setIfInBounds_toArray, List.set_cons_zero, List.set_cons_succ]
        refine cm_shut 17 53 rfl rfl (by kernel_rfl) (by kernel_rfl) (by kernel_rfl) (by kernel_rfl) (by kernel_rfl) (fun _ _ _ h => h) (by rfl) ?_
        simp only [List.setIfInBounds_toArray, List.set_cons_zero, List.set_cons_succ]
        refine cm_shut 18 54 rfl rfl (by kernel_rfl) (by kernel_rfl) (by kernel_rfl) (by kernel_rfl) (by kernel_rfl) (fun _ _ _ h => h) (by rfl) ?_
        simp only [List.setIfInBounds_toArray, List.set_cons_zero, List.set_cons_succ]
        refine cm_shut 19 55 rfl rfl (by kernel_rfl) (by kernel_rfl) (by kernel_rfl) (by kernel_rfl) (by kernel_rfl) (fun _ _ _ h => h) (by rfl) ?_
        simp only [List.setIfInBounds_toArray, List.set_cons_zero, List.set_cons_succ]
        refine cm_shut 20 56 rfl rfl (by kernel_rfl) (by kernel_rfl) (by kernel_rfl) (by kernel_rfl) (by kernel_rfl) (fun _ _ _ h => h) (by rfl) ?_
        simp only [List.setIfInBounds_toArray, List.set_cons_zero, List.set_cons_succ]
        refine cm_shut 21 57 rfl rfl (by kernel_rfl) (by kernel_rfl) (by kernel_rfl) (by kernel_rfl) (by kernel_rfl) (fun _ _ _ h => h) (by rfl) ?_
        simp only [List.setIfInBounds_toArray, List.set_cons_zero, List.set_cons_succ]
        refine cm_shut 22 58 rfl rfl (by kernel_rfl) (by kernel_rfl) (by kernel_rfl) (by kernel_rfl) (by kernel_rfl) (fun _ _ _ h => h) (by rfl) ?_
        simp only [List.setIfInBounds_toArray, List.set_cons_zero, List.set_cons_succ]
        refine cm_run 23 59 (v := ?_) rfl rfl (by kernel_rfl) (by kernel_rfl) (by kernel_rfl) (by kernel_rfl) (by kernel_rfl) (fun _ _ _ h => h) (by rfl) ?_ ?_
        rotate_left
        · (intro wS hS; skip; go_simp; (try with_reducible rfl))
        simp only [List.setIfInBounds_toArray, List.set_cons_zero, List.set_cons_succ]
        refine cm_done (by kernel_rfl) ?_
        intro wS hS
        have hzS := hS.size
        have bL := Boxed.below HBL.out hS
        have bcell := bL.cell
        have x0 := cell_later hS x0
        have x1 := cell_later hS x1
        have x2 := cell_later hS x2
        have hown := own_keep hS HOWN.out
        have HOWN1 := Lib.hid hown
        have HOWN2 := Lib.hid (hown.alloc (.cells #[.int .i64 x.tk, .int .u64 x.st, .int .u64 x.rv] 57))
        have HS := Lib.hid hS
        have HB5 := Lib.hid bL
        clear hown hS bL
        gi_wp2_with (gi_at_builtin; refine wpListIn_append_own _ rfl (.tmp 60) (.tmp 62) 45 rfl L 57 j0 (.agg #[.int .i64 0, .int .u64 0, .int .u64 0]) 3 24 Try.underlying45 hj hjz hjs hjb rfl (by decide) _ nn (lcs ls) rfl HOWN2.out ⟨wS.heap.size, 0, none⟩ 1 1 x.cells rfl rfl ?_ ?_ ?_ ?_ ?_ ?_)
        · intro j u hj
          rw [Addr.add_mid]
          match j, hj with
          | 0, hj => simp [Lv.cells] at hj; subst hj; simp [go_sem]
          | 1, hj => simp [Lv.cells] at hj; subst hj; simp [go_sem]
          | 2, hj => simp [Lv.cells] at hj; subst hj; simp [go_sem]
          | j + 3, hj => simp [Lv.cells] at hj
        · intro u hu
          simp [Lv.cells] at hu
          rcases hu with rfl | rfl | rfl <;> rfl
        · unfold maxLen; omega
        · omega
        · simp; omega
        intro v' w1 hown' hgrow _
        obtain ⟨a3, c3, rfl⟩ := owns_form hown'
        have HGR := Lib.hid hgrow
        have HO' : Hid (w1.ownsRow L 57 3 (.slice a3 (nn + 1) c3) (nn + 1) (lcs ls ++ x.cells)) := hown'
        have hall := HB5.out.appended (by decide) HOWN1.out (by omega) (Nat.le_refl _) hown' hgrow
        clear hgrow hown' bcell x0 x1 x2
        obtain ⟨hv1, hv2, hr2, hk2, hb2⟩ := hall
        have hc1 := hv1.cell
        have hf1 := hv1.frozen
        have HV1 := Lib.hid hv1
        have HV2 := Lib.hid hv2
        have HR2 := Lib.hid hr2
        have HK2 := Lib.hid hk2
        have HB2 := Lib.hid hb2
        clear hv1 hv2 hr2 hk2 hb2
        gi_wp2
        have hq : keepsP qL wS (w1.setCell ⟨L, 0, none⟩ (.slice a3 (nn + 1) c3)) := by
          have h1 : keepsP qL wS (wS.alloc (.cells #[.int .i64 x.tk, .int .u64 x.st, .int .u64 x.rv] 57)) := keepsP.below ((Below.refl _ _).alloc (Nat.le_refl _) _)
          have h2 := keepsP.grown (p := qL) HGR.out (fun r e o ho => by
            obtain ⟨cur, hc⟩ := own_row HOWN2.out e
            rw [hc] at ho; cases ho; rfl)
          exact (h1.trans h2).trans (keepsP.set HV1.out rfl _ rfl _)
        exact ⟨((keeps_below HS.out).trans HK2.out).from _, ⟨(HS.out.mono (by omega)).trans (HB2.out.mono (by omega)), (keepsP.below HS.out).trans hq⟩,
          by rw [HLS.out]; exact ⟨_, HV2.out, by rw [List.length_append, HNN.out, lcs_snoc]; exact HR2.out⟩, (Below.next hBW HS.out).trans (HB2.out.mono (by omega))⟩
    · have g0 : decide ((0 : Int) < (nn : Int)) = false := nb (by omega)
      have g0' : decide (0 < nn) = false := nb hn
      have hls := HLS.out
      have HLS : Hid (outL (lvs c cs st xs now (k + 1)) = ls ++ [x]) := by
        unfold Hid
        rw [hls]
        exact if_neg (fun h => by have := HNN.out; omega)
      clear hls hn
      gi_wp2
      refine wpIn_region_calm (fun w' => Below W.heap.size W w') 99 (by kernel_rfl) (fun h => by obtain ⟨_, _, h⟩ := h; exact h) (by kernel_rfl) ((Below.refl _ W).drew) ?_
      refine cm_run 0 36 (v := ?_) rfl rfl (by kernel_rfl) (by kernel_rfl) (by kernel_rfl) (by kernel_rfl) (by kernel_rfl) (fun _ _ _ h => h) (by rfl) ?_ ?_
      rotate_left
      · (intro wS hS; skip; go_simp; (try with_reducible rfl))
      simp only [List.setIfInBounds_toArray, List.set_cons_zero, List.set_cons_succ]
      refine cm_run 1 37 (v := ?_) rfl rfl (by kernel_rfl) (by kernel_rfl) (by kernel_rfl) (by kernel_rfl) (by kernel_rfl) (fun _ _ _ h => h) (by rfl) ?_ ?_
      rotate_left
      · (intro wS hS; skip; go_simp; (try with_reducible rfl))
      simp only [List.setIfInBounds_toArray, List.set_cons_zero, List.set_cons_succ]
      refine cm_run 2 38 (v := ?_) rfl rfl (by kernel_rfl) (by kernel_rfl) (by kernel_rfl) (by kernel_rfl) (by kernel_rfl) (fun _ _ _ h => h) (by rfl) ?_ ?_
      rotate_left
      · (intro wS hS; skip; go_simp; (try with_reducible rfl))
      simp only [List.setIfInBounds_toArray, List.set_cons_zero, List.set_cons_succ]
      refine cm_shut 3 39 rfl rfl (by kernel_rfl) (by kernel_rfl) (by kernel_rfl) (by kernel_rfl) (by kernel_rfl) (fun _ _ _ h => h) (by rfl) ?_
      simp only [List.setIfInBounds_toArray, List.set_cons_zero, List.set_cons_succ]
      refine cm_shut 4 40 rfl rfl (by kernel_rfl) (by kernel_rfl) (by kernel_rfl) (by kernel_rfl) (by kernel_rfl) (fun _ _ _ h => h) (by rfl) ?_
      simp only [List.setIfInBounds_toArray, List.set_cons_zero, List.set_cons_succ]
      refine cm_shut 5 41 rfl rfl (by kernel_rfl) (by kernel_rfl) (by kernel_rfl) (by kernel_rfl) (by kernel_rfl) (fun _ _ _ h => h) (by rfl) ?_
      simp only [List.setIfInBounds_toArray, List.set_cons_zero, List.set_cons_succ]
      refine cm_shut 6 42 rfl rfl (by kernel_rfl) (by kernel_rfl) (by kernel_rfl) (by kernel_rfl) (by kernel_rfl) (fun _ _ _ h => h) (by rfl) ?_
      simp only [List.setIfInBounds_toArray, List.set_cons_zero, List.set_cons_succ]
      refine cm_shut 7 43 rfl rfl (by kernel_rfl) (by kernel_rfl) (by kernel_rfl) (by kernel_rfl) (by kernel_rfl) (fun _ _ _ h => h) (by rfl) ?_
      simp only [List.setIfInBounds_toArray, List.set_cons_zero, List.set_cons_succ]
      refine cm_shut 8 44 rfl rfl (by kernel_rfl) (by kernel_rfl) (by kernel_rfl) (by kernel_rfl) (by kernel_rfl) (fun _ _ _ h => h) (by rfl) ?_
      simp only [List.setIfInBounds_toArray, List.set_cons_zero, List.set_cons_succ]
      refine cm_shut 9 45 rfl rfl (by kernel_rfl) (by kernel_rfl) (by kernel_rfl) (by kernel_rfl) (by kernel_rfl) (fun _ _ _ h => h) (by rfl) ?_
      simp only [List.setIfInBounds_toArray, List.set_cons_zero, List.set_cons_succ]
      refine cm_shut 10 46 rfl rfl (by kernel_rfl) (by kernel_rfl) (by kernel_rfl) (by kernel_rfl) (by kernel_rfl) (fun _ _ _ h => h) (by rfl) ?_
      simp only [List.setIfInBounds_toArray, List.set_cons_zero, List.set_cons_succ]
      refine cm_shut 11 47 rfl rfl (by kernel_rfl) (by kernel_rfl) (by kernel_rfl) (by kernel_rfl) (by kernel_rfl) (fun _ _ _ h => h) (by rfl) ?_
      simp only [List.setIfInBounds_toArray, List.set_cons_zero, List.set_cons_succ]
      refine cm_run 12 48 (v := ?_) rfl rfl (by kernel_rfl) (by kernel_rfl) (by kernel_rfl) (by kernel_rfl) (by kernel_rfl) (fun _ _ _ h => h) (by rfl) ?_ ?_
      rotate_left
      · (intro wS hS; skip; go_simp; (try with_reducible rfl))
      simp only [List.setIfInBounds_toArray, List.set_cons_zero, List.set_cons_succ]
      refine cm_run 13 49 (v := ?_) rfl rfl (by kernel_rfl) (by kernel_rfl) (by kernel_rfl) (by kernel_rfl) (by kernel_rfl) (fun _ _ _ h => h) (by rfl) ?_ ?_
      rotate_left
      · (intro wS hS; skip; go_simp; (try with_reducible rfl))
      simp only [List.setIfInBounds_toArray, List.set_cons_zero, List.set_cons_succ]
      refine cm_shut 14 50 rfl rfl (by kernel_rfl) (by kernel_rfl) (by kernel_rfl) (by kernel_rfl) (by kernel_rfl) (fun _ _ _ h => h) (by rfl) ?_
      simp only [List.setIfInBounds_toArray, List.set_cons_zero, List.set_cons_succ]
      refine cm_shut 15 51 rfl rfl (by kernel_rfl) (by kernel_rfl) (by kernel_rfl) (by kernel_rfl) (by kernel_rfl) (fun _ _ _ h => h) (by rfl) ?_
      simp only [List.setIfInBounds_toArray, List.set_cons_zero, List.set_cons_succ]
      refine cm_shut 16 52 rfl rfl (by kernel_rfl) (by kernel_rfl) (by kernel_rfl) (by kernel_rfl) (by kernel_rfl) (fun _ _ _ h => h) (by rfl) ?_
      simp only [List.setIfInBounds_toArray, List.set_cons_zero, List.set_cons_succ]
      refine cm_shut 17 53 rfl rfl (by kernel_rfl) (by kernel_rfl) (by kernel_rfl) (by kernel_rfl) (by kernel_rfl) (fun _ _ _ h => h) (by rfl) ?_
      simp only [List.setIfInBounds_toArray, List.set_cons_zero, List.set_cons_succ]
      refine cm_shut 18 54 rfl rfl (by kernel_rfl) (by kernel_rfl) (by kernel_rfl) (by kernel_rfl) (by kernel_rfl) (fun _ _ _ h => h) (by rfl) ?_
      simp only [List.setIfInBounds_toArray, List.set_cons_zero, List.set_cons_succ]
      refine cm_shut 19 55 rfl rfl (by kernel_rfl) (by kernel_rfl) (by kernel_rfl) (by kernel_rfl) (by kernel_rfl) (fun _ _ _ h => h) (by rfl) ?_
      simp only [List.setIfInBounds_toArray, List.set_cons_zero, List.set_cons_succ]
      refine cm_shut 20 56 rfl rfl (by kernel_rfl) (by kernel_rfl) (by kernel_rfl) (by kernel_rfl) (by kernel_rfl) (fun _ _ _ h => h) (by rfl) ?_
      simp only [List.setIfInBounds_toArray, List.set_cons_zero, List.set_cons_succ]
      refine cm_shut 21 57 rfl rfl (by kernel_rfl) (by kernel_rfl) (by kernel_rfl) (by kernel_rfl) (by kernel_rfl) (fun _ _ _ h => h) (by rfl) ?_
      simp only [List.setIfInBounds_toArray, List.set_cons_zero, List.set_cons_succ]
      refine cm_shut 22 58 rfl rfl (by kernel_rfl) (by kernel_rfl) (by kernel_rfl) (by kernel_rfl) (by kernel_rfl) (fun _ _ _ h => h) (by rfl) ?_
      simp only [List.setIfInBounds_toArray, List.set_cons_zero, List.set_cons_succ]
      refine cm_run 23 59 (v := ?_) rfl rfl (by kernel_rfl) (by kernel_rfl) (by kernel_rfl) (by kernel_rfl) (by kernel_rfl) (fun _ _ _ h => h) (by rfl) ?_ ?_
      rotate_left
      · (intro wS hS; skip; go_simp; (try with_reducible rfl))
      simp only [List.setIfInBounds_toArray, List.set_cons_zero, List.set_cons_succ]
      refine cm_done (by kernel_rfl) ?_
      intro wS hS
      have hzS := hS.size
      have bL := Boxed.below HBL.out hS
      have bcell := bL.cell
      have x0 := cell_later hS x0
      have x1 := cell_later hS x1
      have x2 := cell_later hS x2
      have hown := own_keep hS HOWN.out
      have HOWN1 := Lib.hid hown
      have HOWN2 := Lib.hid (hown.alloc (.cells #[.int .i64 x.tk, .int .u64 x.st, .int .u64 x.rv] 57))
      have HS := Lib.hid hS
      have HB5 := Lib.hid bL
      clear hown hS bL
      gi_wp2_with (gi_at_builtin; refine wpListIn_append_own _ rfl (.tmp 60) (.tmp 62) 45 rfl L 57 j0 (.agg #[.int .i64 0, .int .u64 0, .int .u64 0]) 3 24 Try.underlying45 hj hjz hjs hjb rfl (by decide) _ nn (lcs ls) rfl HOWN2.out ⟨wS.heap.size, 0, none⟩ 1 1 x.cells rfl rfl ?_ ?_ ?_ ?_ ?_ ?_)
      · intro j u hj
        rw [Addr.add_mid]
        match j, hj with
        | 0, hj => simp [Lv.cells] at hj; subst hj; simp [go_sem]
        | 1, hj => simp [Lv.cells] at hj; subst hj; simp [go_sem]
        | 2, hj => simp [Lv.cells] at hj; subst hj; simp [go_sem]
        | j + 3, hj => simp [Lv.cells] at hj
      · intro u hu
        simp [Lv.cells] at hu
        rcases hu with rfl | rfl | rfl <;> rfl
      · unfold maxLen; omega
      · omega
      · simp; omega
      intro v' w1 hown' hgrow _
      obtain ⟨a3, c3, rfl⟩ := owns_form hown'
      have HGR := Lib.hid hgrow
      have HO' : Hid (w1.ownsRow L 57 3 (.slice a3 (nn + 1) c3) (nn + 1) (lcs ls ++ x.cells)) := hown'
      have hall := HB5.out.appended (by decide) HOWN1.out (by omega) (Nat.le_refl _) hown' hgrow
      clear hgrow hown' bcell x0 x1 x2
      obtain ⟨hv1, hv2, hr2, hk2, hb2⟩ := hall
      have hc1 := hv1.cell
      have hf1 := hv1.frozen
      have HV1 := Lib.hid hv1
      have HV2 := Lib.hid hv2
      have HR2 := Lib.hid hr2
      have HK2 := Lib.hid hk2
      have HB2 := Lib.hid hb2
      clear hv1 hv2 hr2 hk2 hb2
      gi_wp2
      have hq : keepsP qL wS (w1.setCell ⟨L, 0, none⟩ (.slice a3 (nn + 1) c3)) := by
        have h1 : keepsP qL wS (wS.alloc (.cells #[.int .i64 x.tk, .int .u64 x.st, .int .u64 x.rv] 57)) := keepsP.below ((Below.refl _ _).alloc (Nat.le_refl _) _)
        have h2 := keepsP.grown (p := qL) HGR.out (fun r e o ho => by
          obtain ⟨cur, hc⟩ := own_row HOWN2.out e
          rw [hc] at ho; cases ho; rfl)
        exact (h1.trans h2).trans (keepsP.set HV1.out rfl _ rfl _)
      exact ⟨((keeps_below HS.out).trans HK2.out).from _, ⟨(HS.out.mono (by omega)).trans (HB2.out.mono (by omega)), (keepsP.below HS.out).trans hq⟩,
        by rw [HLS.out]; exact ⟨_, HV2.out, by rw [List.length_append, HNN.out, lcs_snoc]; exact HR2.out⟩, (Below.next hBW HS.out).trans (HB2.out.mono (by omega))⟩
  case done =>
    rintro D W hD ⟨⟨v, bL, hown⟩, hBW⟩ hK
    obtain ⟨va, vc, rfl⟩ := owns_form hown
    have cL := bL.cell
    have hF := Fresh.of_owns hown
    have ho2 := own_keepP (p := fun o => o.isCells) (keepsP.put hK rfl (.deferred none)) (fun _ => rfl) hown
    have hR : RdL (W.putObj D (.deferred none)) _ (outL (lvs c cs st xs now M)) := RdS.of_owns ho2 (by decide)
    have HR2 := Lib.hid hR
    have HF2 := Lib.hid hF
    clear bL hown hR hF ho2
    go_wp2
    refine ⟨by simp, .inl ⟨_, _, rfl, run_takeDeferred hK, ?_⟩⟩
    refine ⟨.tuple #[.slice va (outL (lvs c cs st xs now M)).length vc, .int .i64 0], by simp [results, Try.results31, go_sem], _, rfl, HR2.out, HF2.out.mono (by omega), ?_⟩
    exact hBW.trans (below_putK (by omega) _)
/-- what Levels answers -/
def lvV (c : Cf) (q st : Int) (xs : List Int) (cs : List Ct) (now un : Int) : List Lv :=
  if fck c q st xs cs now un ≠ 0 then [] else lvO c cs st xs now (un - now).toNat
theorem levels_any (c : Cf) (q st : Int) (rs : Value) (xs : List Int) (cs : List Ct) (v : Value) (now un : Int) (i : Inp q st xs) (hwf : ∀ c, c ∈ cs → Wf c) (hno : Ib now) (hun : Ib un) (w : World) (h : RdI .u64 w rs xs) (hp : RdC w v cs) :
    Calls Try.prog 31 #[c.v, Sv q st rs, v, .int .i64 now, .int .i64 un] w (LR w (lvV c q st xs cs now un) (fck c q st xs cs now un)) := by
  by_cases h0 : fck c q st xs cs now un = 0
  · rw [show lvV c q st xs cs now un = lvO c cs st xs now (un - now).toNat from if_neg (by omega), h0]
    exact levels_ok c q st rs xs cs v now un i hwf hno hun h0 w h hp
  · rw [show lvV c q st xs cs now un = [] from if_pos h0]
    refine (levels_bad c q st rs xs cs v now un i hwf hno hun _ rfl h0 w h hp).mono ?_
    rintro e w' ⟨rfl, hb⟩
    exact ⟨_, rfl, RdL.nil _, Fresh.nil _ _ _, hb⟩
end Go.Proofs.Ytnbjdgjopdeolaa
