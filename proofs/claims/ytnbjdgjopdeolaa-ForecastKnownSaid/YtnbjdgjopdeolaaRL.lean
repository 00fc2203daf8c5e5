/- Forecast: the reference's level and tick. Forecast: the reference's tick. Forecast: the reference's Levels. -/
import Derived.Test.YtnbjdgjopdeolaaFM
import Derived.Test.YtnbjdgjopdeolaaFN
import Derived.Test.YtnbjdgjopdeolaaFC
import Derived.Test.YtnbjdgjopdeolaaSB
import Derived.Test.YtnbjdgjopdeolaaS
import Derived.Test.YtnbjdgjopdeolaaMD
import Derived.Test.YtnbjdgjopdeolaaPW2
namespace Go.Proofs.Ytnbjdgjopdeolaa
open Go.RowKit Go.Shelf
set_option linter.unusedSimpArgs false
set_option linter.unusedVariables false
set_option maxRecDepth 100000

theorem Rb.nn {rs : List Int} (h : Rb rs) : Nn rs := by
  intro x hx
  obtain ⟨i, hi, rfl⟩ := List.mem_iff_getElem.1 hx
  have h1 := h.2 i (by rw [← h.1]; exact hi)
  rw [List.getD_eq_getElem?_getD, List.getElem?_eq_getElem hi] at h1
  simp at h1
  omega
set_option maxHeartbeats 1000000 in
theorem rlevel_any (q st : Int) (rs : Value) (xs : List Int) (t : Int) (hr : Rb xs) (w : World) (h : RdI .u64 w rs xs) :
    Calls Try.prog 101 #[Sv q st rs, .int .i64 t] w fun e w' => e = .returned (.agg #[.int .i64 t, .int .u64 st, .int .u64 xs.sum]) ∧ Below w.heap.size w w' := by
  have hl := hr.1
  obtain ⟨b, off, cap, rfl, hcell⟩ := rd_cells h hl
  have HL := Lib.hid hl
  have HN := Lib.hid hr.nn
  have hsb := hr.sum
  have HC := Lib.hid hcell
  clear hl hr h hcell
  go_enter Try.func101, Try.ntmps101
  obtain ⟨W1, hW1⟩ : ∃ W : World, W = ((w.alloc (.cells #[.int .u64 q, .int .u64 st, .slice (some ⟨b, off, none⟩) 16 cap] 38)).alloc (.cells #[.int .i64 0, .int .u64 0, .int .u64 0] 57)).alloc (.cells #[.int .i64 t, .int .u64 st, .int .u64 0] 57) := ⟨_, rfl⟩
  have hS : BoxN W1 w.heap.size 38 #[.int .u64 q, .int .u64 st, .slice (some ⟨b, off, none⟩) 16 cap] := by rw [hW1]; exact ((BoxN.new w _ _).alloc _).alloc _
  have hX1 : LX W1 (w.heap.size + 1) ⟨0, 0, 0⟩ := by
    have := BoxN.new (w.alloc (.cells #[.int .u64 q, .int .u64 st, .slice (some ⟨b, off, none⟩) 16 cap] 38)) 57 #[.int .i64 0, .int .u64 0, .int .u64 0]
    rw [World.size_alloc] at this
    rw [hW1]; exact this.alloc _
  have hX2 : LX W1 (w.heap.size + 2) ⟨t, st, 0⟩ := by
    have := BoxN.new ((w.alloc (.cells #[.int .u64 q, .int .u64 st, .slice (some ⟨b, off, none⟩) 16 cap] 38)).alloc (.cells #[.int .i64 0, .int .u64 0, .int .u64 0] 57)) 57 #[.int .i64 t, .int .u64 st, .int .u64 0]
    rw [World.size_alloc, World.size_alloc] at this
    rw [hW1]; exact this
  have hB : Below w.heap.size w W1 := by rw [hW1]; exact (by repeat (first | assumption | exact Below.refl _ _ | apply Below.al | apply below_drewN | apply Below.drew | refine Below.next ?_ (by assumption)))
  have HS := Lib.hid hS
  have HX1 := Lib.hid hX1
  have HX2 := Lib.hid hX2
  clear hS hX1 hX2
  go_upto_region 2 with fail
  rw [← hW1]
  clear hW1
  go_wp2_with fail
  go_loopw [6] (fun i wr => ∃ k : Nat, k ≤ 16 ∧ i = .int .i64 k ∧ BoxN wr w.heap.size 38 #[.int .u64 q, .int .u64 st, .slice (some ⟨b, off, none⟩) 16 cap] ∧ LX wr (w.heap.size + 1) ⟨0, 0, 0⟩ ∧ LX wr (w.heap.size + 1 + 1) ⟨t, st, (xs.take k).sum⟩ ∧ Below w.heap.size w wr) (fun i _ => 16 - (intOf i).toNat)
  case atStart => exact ⟨0, Nat.zero_le _, rfl, HS.out, HX1.out, HX2.out, hB⟩
  case round =>
    obtain ⟨k, hk, rfl, hS, h1, h2, hB⟩ := hrel
    obtain ⟨x0, x1, x2, x3⟩ := h2.cells
    obtain ⟨a0, a1, a2, a3⟩ := h1.cells
    have s2 : wr.cell? ⟨w.heap.size, 2, none⟩ = some (.slice (some ⟨b, off, none⟩) 16 cap) := hS.cell 2
    have f2 := x3 2
    have g0 := a3 0
    have g1 := a3 1
    have g2 := a3 2
    have hlt2 := h2.lt
    clear x3 a3
    have H1 := Lib.hid h1
    have H2 := Lib.hid h2
    have HS := Lib.hid hS
    clear h1 h2 hS HX1 HX2
    by_cases hlt : k < 16
    · have hs1 := sum_take_le HN.out (k + 1)
      have hs0 := sum_nn (HN.out.take k)
      have hg := HN.out.get k (by rw [HL.out]; exact hlt)
      have hst := sum_take_succ xs k (by rw [HL.out]; exact hlt)
      have hcx := (hB.cell (p := ⟨b, off + k, none⟩) (cell_lt (HC.out k hlt))).trans (HC.out k hlt)
      obtain ⟨s, hs⟩ : ∃ s, (xs.take k).sum = s := ⟨_, rfl⟩
      obtain ⟨x, hx⟩ : ∃ x, xs.getD k 0 = x := ⟨_, rfl⟩
      simp only [hs] at x2 hs0 hst H2
      rw [hx] at hg hst hcx
      rw [hst] at hs1
      have HST := Lib.hid hst
      clear hs hx hst
      have hws : IntKind.u64.wrap (s + x) = s + x := IntWalk.u64_in _ (by omega)
      have i1 : (0 : Int) ≤ (k : Int) := by omega
      have i2 : (k : Int) < 16 := by omega
      have hwk : IntKind.i64.wrap (k : Int) = (k : Int) := IntWalk.i64_in _ (by omega)
      clear a0 a1 a2 g0 g1 g2 x0 x1
      go_wp2_with fail
      refine wp_region_calm (fun w' => Below wr.heap.size wr w') 9 (by kernel_rfl) ((Below.refl _ wr).drew) ?_
      refine cm_run 0 18 (v := ?_) rfl rfl (by kernel_rfl) (by kernel_rfl) (by kernel_rfl) (by kernel_rfl) (by kernel_rfl) (fun _ _ _ h => h) (by rfl) ?_ ?_
      rotate_left
      · (intro wS hS; skip; go_simp; (try with_reducible rfl))
      simp only [List.setIfInBounds_toArray, List.set_cons_zero, List.set_cons_succ]
      refine cm_run 1 19 (v := ?_) rfl rfl (by kernel_rfl) (by kernel_rfl) (by kernel_rfl) (by kernel_rfl) (by kernel_rfl) (fun _ _ _ h => h) (by rfl) ?_ ?_
      rotate_left
      · (intro wS hS; have g := cell_later hS x2; go_simp; (try with_reducible rfl))
      simp only [List.setIfInBounds_toArray, List.set_cons_zero, List.set_cons_succ]
      refine cm_run 2 20 (v := ?_) rfl rfl (by kernel_rfl) (by kernel_rfl) (by kernel_rfl) (by kernel_rfl) (by kernel_rfl) (fun _ _ _ h => h) (by rfl) ?_ ?_
      rotate_left
      · (intro wS hS; skip; go_simp; (try with_reducible rfl))
      simp only [List.setIfInBounds_toArray, List.set_cons_zero, List.set_cons_succ]
      refine cm_run 3 21 (v := ?_) rfl rfl (by kernel_rfl) (by kernel_rfl) (by kernel_rfl) (by kernel_rfl) (by kernel_rfl) (fun _ _ _ h => h) (by rfl) ?_ ?_
      rotate_left
      · (intro wS hS; have g := cell_later hS s2; go_simp; (try with_reducible rfl))
      simp only [List.setIfInBounds_toArray, List.set_cons_zero, List.set_cons_succ]
      refine cm_run 4 22 (v := ?_) rfl rfl (by kernel_rfl) (by kernel_rfl) (by kernel_rfl) (by kernel_rfl) (by kernel_rfl) (fun _ _ _ h => h) (by rfl) ?_ ?_
      rotate_left
      · (intro wS hS; skip; go_simp; (try with_reducible rfl))
      simp only [List.setIfInBounds_toArray, List.set_cons_zero, List.set_cons_succ]
      refine cm_run 5 23 (v := ?_) rfl rfl (by kernel_rfl) (by kernel_rfl) (by kernel_rfl) (by kernel_rfl) (by kernel_rfl) (fun _ _ _ h => h) (by rfl) ?_ ?_
      rotate_left
      · (intro wS hS; skip; go_simp; (try with_reducible rfl))
      simp only [List.setIfInBounds_toArray, List.set_cons_zero, List.set_cons_succ]
      refine cm_run 6 24 (v := ?_) rfl rfl (by kernel_rfl) (by kernel_rfl) (by kernel_rfl) (by kernel_rfl) (by kernel_rfl) (fun _ _ _ h => h) (by rfl) ?_ ?_
      rotate_left
      · (intro wS hS; have g := cell_later hS hcx; go_simp; (try with_reducible rfl))
      simp only [List.setIfInBounds_toArray, List.set_cons_zero, List.set_cons_succ]
      refine cm_run 7 25 (v := ?_) rfl rfl (by kernel_rfl) (by kernel_rfl) (by kernel_rfl) (by kernel_rfl) (by kernel_rfl) (fun _ _ _ h => h) (by rfl) ?_ ?_
      rotate_left
      · (intro wS hS; skip; go_simp; (try with_reducible rfl))
      simp only [List.setIfInBounds_toArray, List.set_cons_zero, List.set_cons_succ]
      refine cm_run 8 26 (v := ?_) rfl rfl (by kernel_rfl) (by kernel_rfl) (by kernel_rfl) (by kernel_rfl) (by kernel_rfl) (fun _ _ _ h => h) (by rfl) ?_ ?_
      rotate_left
      · (intro wS hS; skip; go_simp; (try with_reducible rfl))
      simp only [List.setIfInBounds_toArray, List.set_cons_zero, List.set_cons_succ]
      refine cm_tail 9 rfl (by kernel_rfl) (by kernel_rfl) (by kernel_rfl) (by rfl) ?_
      intro wS hS K hK
      have gx := cell_later hS x2; have fx := fz_later hS hlt2 f2
      go_simp
      refine hK _ _ ?_
      clear hK K
      refine NoPanic.normal ?_
      have n1 := (H1.out.keep hS).other (p := ⟨w.heap.size + 1 + 1, 2, none⟩) (by show w.heap.size + 1 ≠ w.heap.size + 1 + 1; omega) (.int .u64 (s + x))
      have n2 := (H2.out.keep hS).set2 (s + x)
      have n3 : BoxN (wS.setCell ⟨w.heap.size + 1 + 1, 2, none⟩ (.int .u64 (s + x))) w.heap.size 38 #[.int .u64 q, .int .u64 st, .slice (some ⟨b, off, none⟩) 16 cap] := by
        unfold BoxN; rw [Below.heap_setCell wS ⟨w.heap.size + 1 + 1, 2, none⟩ _ _ (by show w.heap.size ≠ w.heap.size + 1 + 1; omega)]; exact HS.out.below hS
      have n4 := (Below.next hB hS).setCell (p := ⟨w.heap.size + 1 + 1, 2, none⟩) (by show w.heap.size ≤ w.heap.size + 1 + 1; omega) (.int .u64 (s + x))
      obtain ⟨WD, hWD⟩ : ∃ WD : World, WD = wS.setCell ⟨w.heap.size + 1 + 1, 2, none⟩ (.int .u64 (s + x)) := ⟨_, rfl⟩
      rw [← hWD] at n1 n2 n3 n4 ⊢
      have N1 := Lib.hid n1
      have N2 := Lib.hid n2
      have N3 := Lib.hid n3
      clear hWD n1 n2 n3 gx fx hS x2 s2 hcx f2 hlt2
      go_wp2_with fail
      go_roundw
      case rel => exact ⟨k + 1, by omega, by go_num, N3.out, N1.out, by rw [HST.out]; exact N2.out, n4⟩
      case measure => simp [intOf]; omega
    · obtain rfl : k = 16 := by omega
      have HT : Hid ((xs.take 16).sum = xs.sum) := by unfold Hid; rw [show 16 = xs.length from HL.out.symm, List.take_length]
      go_wp2_with fail
      obtain ⟨W4, hW4⟩ : ∃ W4 : World, W4 = ((wr.setCell ⟨w.heap.size + 1, 0, none⟩ (.int .i64 t)).setCell ⟨w.heap.size + 1, 1, none⟩ (.int .u64 st)).setCell ⟨w.heap.size + 1, 2, none⟩ (.int .u64 (List.take 16 xs).sum) := ⟨_, rfl⟩
      rw [← hW4]
      have h4 : LX W4 (w.heap.size + 1) ⟨t, st, (List.take 16 xs).sum⟩ := by rw [hW4]; exact H1.out.set3 ⟨t, st, (List.take 16 xs).sum⟩
      have hB4 : Below w.heap.size w W4 := by
        rw [hW4]
        exact ((hB.setCell (by show w.heap.size ≤ w.heap.size + 1; omega) _).setCell (by show w.heap.size ≤ w.heap.size + 1; omega) _).setCell (by show w.heap.size ≤ w.heap.size + 1; omega) _
      obtain ⟨y0, y1, y2, _⟩ := h4.cells
      clear hW4 a0 a1 a2 g0 g1 g2 f2 x0 x1 x2
      exact bodyPost_ret (v := .agg #[.int .i64 t, .int .u64 st, .int .u64 (List.take 16 xs).sum]) (by simp [results, Try.results101, go_sem, y0, y1, y2]) rfl ⟨by rw [HT.out], hB4⟩
end Go.Proofs.Ytnbjdgjopdeolaa
namespace Go.Proofs.Ytnbjdgjopdeolaa
open Go.RowKit Go.Shelf
set_option linter.unusedSimpArgs false
set_option linter.unusedVariables false
set_option maxRecDepth 100000

/-- the boxes of a tick, from block A on -/
structure TS (w : World) (A : Nat) (c : Cf) (q : Int) (R cap : Nat) (st : Int) (xs : List Int) (W : World) : Prop where
  b0 : BoxN W A 35 #[.int .i64 c.nd, .int .u64 c.qo, .int .u64 c.la, .int .u64 c.wd, .int .u64 c.lo, .int .i64 c.re, .int .i64 c.rm, .int .i64 c.by', .int .i64 c.w0, .int .i64 c.w1, .int .i64 c.w2, .int .i64 c.rn, .int .i64 c.rd, .int .i64 c.bu, .int .i64 c.bl, .int .i64 c.ra]
  b1 : BoxN W (A + 1) 38 #[.int .u64 q, .int .u64 st, .slice (some ⟨R, 0, none⟩) 16 cap]
  b2 : BoxN W (A + 1 + 1) 57 #[.int .i64 0, .int .u64 0, .int .u64 0]
  b3 : BoxN W (A + 1 + 1 + 1) 38 #[.int .u64 0, .int .u64 0, .slice none 0 0]
  own : W.ownsRow (A + 4) 32 1 (.slice (some ⟨R, 0, none⟩) 16 cap) 16 (ic .u64 xs)
  bel : Below w.heap.size w W
  hA : w.heap.size ≤ A
theorem TS.R {w : World} {A : Nat} {c : Cf} {q : Int} {R cap : Nat} {st : Int} {xs : List Int} {W : World} (h : TS w A c q R cap st xs W) : A + 4 ≤ R ∧ R < W.heap.size := World.ownsRow.lt h.own R rfl
theorem TS.below {w : World} {A : Nat} {c : Cf} {q : Int} {R cap : Nat} {st : Int} {xs : List Int} {W W' : World} (h : TS w A c q R cap st xs W) (hb : Below W.heap.size W W') : TS w A c q R cap st xs W' :=
  ⟨h.b0.below hb, h.b1.below hb, h.b2.below hb, h.b3.below hb, own_keep hb h.own, Below.next h.bel hb, h.hA⟩
theorem TS.setRow {w : World} {A : Nat} {c : Cf} {q : Int} {R cap : Nat} {st : Int} {xs : List Int} {W : World} (h : TS w A c q R cap st xs W) (k : Nat) (x : Int) : TS w A c q R cap st (xs.set k x) (W.setCell ⟨R, k, none⟩ (.int .u64 x)) := by
  have hR := h.R
  have := h.hA
  refine ⟨h.b0.setO (by show A ≠ R; omega) _, h.b1.setO (by show A + 1 ≠ R; omega) _, h.b2.setO (by show A + 1 + 1 ≠ R; omega) _, h.b3.setO (by show A + 1 + 1 + 1 ≠ R; omega) _, ?_, h.bel.setCell (by show w.heap.size ≤ R; omega) _, h.hA⟩
  have := (World.ownsRow.stored h.own k (.int .u64 x)).1
  simpa [ic, List.map_set] using this
theorem BoxN.set1 {w : World} {b : Nat} {T : TypeId} {x y z : Value} (h : BoxN w b T #[x, y, z]) (u : Value) : BoxN (w.setCell ⟨b, 1, none⟩ u) b T #[x, u, z] := by
  unfold BoxN at *
  simp [World.setCell, Array.getElem?_modify, h]
theorem BoxN.set2 {w : World} {b : Nat} {T : TypeId} {x y z : Value} (h : BoxN w b T #[x, y, z]) (u : Value) : BoxN (w.setCell ⟨b, 2, none⟩ u) b T #[x, y, u] := by
  unfold BoxN at *
  simp [World.setCell, Array.getElem?_modify, h]
theorem TS.setSt {w : World} {A : Nat} {c : Cf} {q : Int} {R cap : Nat} {st : Int} {xs : List Int} {W : World} (h : TS w A c q R cap st xs W) (x : Int) : TS w A c q R cap x xs (W.setCell ⟨A + 1, 1, none⟩ (.int .u64 x)) := by
  have hR := h.R
  have := h.hA
  exact ⟨h.b0.setO (by show A ≠ A + 1; omega) _, h.b1.set1 _, h.b2.setO (by show A + 1 + 1 ≠ A + 1; omega) _, h.b3.setO (by show A + 1 + 1 + 1 ≠ A + 1; omega) _, own_other h.own (by omega) _ _, h.bel.setCell (by show w.heap.size ≤ A + 1; omega) _, h.hA⟩
theorem TS.cells {w : World} {A : Nat} {c : Cf} {q : Int} {R cap : Nat} {st : Int} {xs : List Int} {W : World} (h : TS w A c q R cap st xs W) :
    W.cell? ⟨A, 0, none⟩ = some (.int .i64 c.nd) ∧ W.cell? ⟨A, 3, none⟩ = some (.int .u64 c.wd) ∧ W.cell? ⟨A + 1, 0, none⟩ = some (.int .u64 q) ∧ W.cell? ⟨A + 1, 1, none⟩ = some (.int .u64 st) ∧ W.cell? ⟨A + 1, 2, none⟩ = some (.slice (some ⟨R, 0, none⟩) 16 cap) :=
  ⟨h.b0.cell 0, h.b0.cell 3, h.b1.cell 0, h.b1.cell 1, h.b1.cell 2⟩
theorem TS.row {w : World} {A : Nat} {c : Cf} {q : Int} {R cap : Nat} {st : Int} {xs : List Int} {W : World} (h : TS w A c q R cap st xs W) (hl : xs.length = 16) (k : Nat) (hk : k < 16) : W.cell? ⟨R, k, none⟩ = some (.int .u64 (xs.getD k 0)) ∧ W.frozen? ⟨R, k, none⟩ = false ∧ 16 ≤ cap := by
  have hr : RdI .u64 W (.slice (some ⟨R, 0, none⟩) 16 cap) xs := by have := RdS.of_owns h.own (by decide); unfold RdI; rwa [hl]
  obtain ⟨b, off, he, hc, hx⟩ := RdI.at hr hl k hk
  simp only [Option.some.injEq, Addr.mk.injEq, and_true] at he
  obtain ⟨rfl, rfl⟩ := he
  obtain ⟨cur, hcur⟩ := own_row h.own (r := R) rfl
  exact ⟨by rwa [Nat.zero_add] at hx, by simp [World.frozen?, hcur], hc⟩
theorem nxR_rb {cs : List Ct} {nd wd t : Int} {rs : List Int} (hw : wd ≤ 1099511627776) (h : Rb rs) : ∀ m, m ≤ 16 → Rb (nxR cs nd wd t rs m)
  | 0, _ => h
  | m + 1, hm => by
    have ih := nxR_rb (cs := cs) (nd := nd) (t := t) hw h m (by omega)
    have := ih.2 m (by omega)
    unfold nxR
    split
    · exact ih.set (by omega) (by omega) (by omega)
    · exact ih
theorem mvR_rb {cs : List Ct} (hok : ∀ k, k < cs.length → okC (cs.getD k c0)) {nd t st : Int} {rs : List Int} (h : Rb rs) : ∀ m, m ≤ 16 → Rb (mvR cs nd t st rs m).2 ∧ st ≤ (mvR cs nd t st rs m).1
  | 0, _ => ⟨h, Int.le_refl _⟩
  | m + 1, hm => by
    obtain ⟨ih, il⟩ := mvR_rb hok (nd := nd) (t := t) (st := st) h m (by omega)
    have := ih.2 m (by omega)
    have hb := rateK_bd hok ((m : Int) + 1) nd t cs.length (Nat.le_refl _)
    unfold mvR
    refine ⟨ih.set (by omega) (by omega) (by omega), ?_⟩
    show st ≤ (mvR cs nd t st rs m).1 + min _ _
    omega
def TKR (w : World) (q t st : Int) (sm : Int) (st' : Int) (xs' : List Int) (e : Ending) (w' : World) : Prop := ∃ R cap, e = .returned (.tuple #[.agg #[.int .i64 t, .int .u64 st, .int .u64 sm], .agg #[.int .u64 q, .int .u64 st', .slice (some ⟨R, 0, none⟩) 16 cap]]) ∧ RdI .u64 w' (.slice (some ⟨R, 0, none⟩) 16 cap) xs' ∧ w.heap.size ≤ R ∧ Below w.heap.size w w'
theorem own_sets {base : Nat} {e : TypeId} {size : Nat} {g n cap : Nat} {xs : List Value} {B : Nat} (hne : g ≠ B) : ∀ (us : List Value) (o : Nat) (w : World), w.ownsRow base e size (.slice (some ⟨g, 0, none⟩) n cap) n xs → (w.setCells B o us).ownsRow base e size (.slice (some ⟨g, 0, none⟩) n cap) n xs
  | [], _, _, h => h
  | u :: us, o, w, h => own_sets hne us (o + 1) _ (own_other h hne o u)
set_option maxHeartbeats 4000000 in
theorem rtickF_any (c : Cf) (q st : Int) (rs : Value) (xs : List Int) (cs : List Ct) (v : Value) (t : Int) (hpl : planChk cs = (0, 0)) (hwd : c.wd ≤ 1099511627776) (hr : Rb xs) (hst : 0 ≤ st ∧ st ≤ 1152921504606846976) (w : World) (h : RdI .u64 w rs xs) (hp : RdC w v cs) :
    Calls Try.prog 77 #[c.v, Sv q st rs, v, .int .i64 t] w (TKR w q t st (nxR cs c.nd c.wd t xs 16).sum
      ((mvR cs c.nd t st (nxR cs c.nd c.wd t xs 16) 16).1 - min (mvR cs c.nd t st (nxR cs c.nd c.wd t xs 16) 16).1 (sumK cs c.nd t 16)) (mvR cs c.nd t st (nxR cs c.nd c.wd t xs 16) 16).2) := by
  obtain ⟨pa, pc, rfl⟩ := hp.form
  obtain ⟨PN, hPN⟩ : ∃ n, cs.length = n := ⟨_, rfl⟩
  have hl200 := (ok_of_planChk hpl).1
  have HL200 := Lib.hid hl200
  have HOK : Hid (∀ k, k < cs.length → okC (cs.getD k c0)) := fun k hk => okC_of hpl hk
  obtain ⟨b, off, rc, rfl, hcell⟩ := rd_cells h hr.1
  have h16 : xs.length = 16 := hr.1
  have HRD : Hid (RdS w 1 (.slice (some ⟨b, off, none⟩) 16 rc) 16 (ic .u64 xs)) := by unfold Hid; have := h; unfold RdI at this; rwa [h16] at this
  have HP := Lib.hid hp
  have HRB := Lib.hid hr
  have H16 := Lib.hid h16
  have HPN := Lib.hid hPN
  rw [hPN] at HP ⊢
  clear h hp hr hcell h16 hl200 hpl hPN
  have hmk0 : True := trivial
  clear hmk0
  go_enter Try.func77, Try.ntmps77
  go_upto_region 1 with fail
  obtain ⟨A, hA⟩ : ∃ A, A = w.heap.size := ⟨_, rfl⟩
  obtain ⟨V1, hV1⟩ : ∃ V : World, V = w.alloc (.cells #[.int .i64 c.nd, .int .u64 c.qo, .int .u64 c.la, .int .u64 c.wd, .int .u64 c.lo, .int .i64 c.re, .int .i64 c.rm, .int .i64 c.by', .int .i64 c.w0, .int .i64 c.w1, .int .i64 c.w2, .int .i64 c.rn, .int .i64 c.rd, .int .i64 c.bu, .int .i64 c.bl, .int .i64 c.ra] 35) := ⟨_, rfl⟩
  obtain ⟨V2, hV2⟩ : ∃ V : World, V = V1.alloc (.cells #[.int .u64 q, .int .u64 st, .slice (some ⟨b, off, none⟩) 16 rc] 38) := ⟨_, rfl⟩
  obtain ⟨V3, hV3⟩ : ∃ V : World, V = V2.alloc (.cells #[.int .i64 0, .int .u64 0, .int .u64 0] 57) := ⟨_, rfl⟩
  obtain ⟨V4, hV4⟩ : ∃ V : World, V = V3.alloc (.cells #[.int .u64 0, .int .u64 0, .slice none 0 0] 38) := ⟨_, rfl⟩
  rw [← hV1, ← hV2, ← hV3, ← hV4, ← hA]
  have s1 : V1.heap.size = A + 1 := by rw [hV1, hA]; simp
  have s2 : V2.heap.size = A + 2 := by rw [hV2]; simp [s1]
  have s3 : V3.heap.size = A + 3 := by rw [hV3]; simp [s2]
  have s4 : V4.heap.size = A + 4 := by rw [hV4]; simp [s3]
  have b0 : BoxN V4 A 35 #[.int .i64 c.nd, .int .u64 c.qo, .int .u64 c.la, .int .u64 c.wd, .int .u64 c.lo, .int .i64 c.re, .int .i64 c.rm, .int .i64 c.by', .int .i64 c.w0, .int .i64 c.w1, .int .i64 c.w2, .int .i64 c.rn, .int .i64 c.rd, .int .i64 c.bu, .int .i64 c.bl, .int .i64 c.ra] := by
    have := BoxN.new w 35 #[.int .i64 c.nd, .int .u64 c.qo, .int .u64 c.la, .int .u64 c.wd, .int .u64 c.lo, .int .i64 c.re, .int .i64 c.rm, .int .i64 c.by', .int .i64 c.w0, .int .i64 c.w1, .int .i64 c.w2, .int .i64 c.rn, .int .i64 c.rd, .int .i64 c.bu, .int .i64 c.bl, .int .i64 c.ra]
    rw [← hV1, ← hA] at this
    rw [hV4, hV3, hV2]; exact ((this.alloc _).alloc _).alloc _
  have b1 : BoxN V4 (A + 1) 38 #[.int .u64 q, .int .u64 st, .slice (some ⟨b, off, none⟩) 16 rc] := by
    have := BoxN.new V1 38 #[.int .u64 q, .int .u64 st, .slice (some ⟨b, off, none⟩) 16 rc]
    rw [← hV2, s1] at this
    rw [hV4, hV3]; exact (this.alloc _).alloc _
  have b2 : BoxN V4 (A + 1 + 1) 57 #[.int .i64 0, .int .u64 0, .int .u64 0] := by
    have := BoxN.new V2 57 #[.int .i64 0, .int .u64 0, .int .u64 0]
    rw [← hV3, s2] at this
    rw [hV4]; exact this.alloc _
  have b3 : BoxN V4 (A + 1 + 1 + 1) 38 #[.int .u64 0, .int .u64 0, .slice none 0 0] := by
    have := BoxN.new V3 38 #[.int .u64 0, .int .u64 0, .slice none 0 0]
    rw [← hV4, s3] at this
    exact this
  have hB : Below w.heap.size w V4 := by rw [hV4, hV3, hV2, hV1]; exact (by repeat (first | assumption | exact Below.refl _ _ | apply Below.al | apply below_drewN | apply Below.drew | refine Below.next ?_ (by assumption)))
  have hAw : w.heap.size ≤ A := by omega
  obtain ⟨Z4, hZ4⟩ : ∃ Z, Z = V4.heap.size := ⟨_, rfl⟩
  have h45 : A + 4 ≤ Z4 ∧ V4.heap.size ≤ A + 4 := by omega
  clear hV1 hV2 hV3 hV4 s1 s2 s3 s4 hA
  have e2 : V4.cell? ⟨A + 1, 2, none⟩ = some (.slice (some ⟨b, off, none⟩) 16 rc) := b1.cell 2
  have hown0 : (V4.alloc (.cells #[] 32)).ownsRow (A + 4) 32 1 (.slice (some ⟨V4.heap.size, 0, none⟩) 0 0) 0 [] := owns_block _ _ 32 1 0 [] _ (by omega) (heap_last V4 _) rfl (by decide)
  have HRD1 : Hid (RdS (V4.alloc (.cells #[] 32)) 1 (.slice (some ⟨b, off, none⟩) 16 rc) 16 (ic .u64 xs)) := Lib.hid (RdS.keep (Below.next hB (Below.al (Below.refl _ _) _)) HRD.out)
  have HB0 := Lib.hid b0
  have HB1 := Lib.hid b1
  have HB2 := Lib.hid b2
  have HB3 := Lib.hid b3
  have HOWN0 := Lib.hid hown0
  have HBV := Lib.hid hB
  have hb2 : A + 1 < V4.heap.size := b1.lt
  clear b0 b1 b2 b3 hown0 hB
  go_wp2_with (at_builtin; refine wpList_app rfl (.tmp 14) (.tmp 16) 36 rfl (A + 4) 32 (.int .u64 0) 1 8 E22 _ 0 [] rfl HOWN0.out _ 16 (ic .u64 xs) rfl HRD1.out (ic_one _ _) ?c1 ?c2 ?c3 ?c4)
  case c1 => unfold maxLen; omega
  case c2 => omega
  case c3 => simp; omega
  case c4 =>
    intro a3 c3 w3 hown3 hg3 hb3
    have hown3 : w3.ownsRow (A + 4) 32 1 (.slice a3 16 c3) 16 (ic .u64 xs) := by first | with_reducible exact hown3 | simpa using hown3
    obtain ⟨R, cap, ha3⟩ : ∃ R cap, (Value.slice a3 16 c3) = .slice (some ⟨R, 0, none⟩) 16 cap := by
      obtain ⟨_, ⟨hv, hn⟩ | ⟨g, cap, cur, hv, _⟩⟩ := hown3
      · simp at hv
      · exact ⟨g, cap, hv⟩
    simp only [Value.slice.injEq, true_and] at ha3
    obtain ⟨rfl, rfl⟩ := ha3
    have hb4 : Below V4.heap.size V4 w3 := by
      have h1 := Below.al (Below.refl V4.heap.size V4) (.cells #[] 32)
      exact h1.trans (hb3.mono (by omega))
    have b0 := HB0.out.below hb4
    have b1 := HB1.out.below hb4
    have b2 := HB2.out.below hb4
    have b3 := HB3.out.below hb4
    have hBW := Below.next HBV.out hb4
    have hR := World.ownsRow.lt hown3 R rfl
    have cc : w3.cell? ⟨A + 1, 2, none⟩ = some (.slice (some ⟨b, off, none⟩) 16 rc) := b1.cell 2
    have cf : w3.frozen? ⟨A + 1, 2, none⟩ = false := b1.frozen 2
    have hts : TS w A c q R c3 st xs (w3.setCell ⟨A + 1, 2, none⟩ (.slice (some ⟨R, 0, none⟩) 16 c3)) :=
      ⟨b0.setO (by show A ≠ A + 1; omega) _, b1.set2 _, b2.setO (by show A + 1 + 1 ≠ A + 1; omega) _, b3.setO (by show A + 1 + 1 + 1 ≠ A + 1; omega) _, own_other hown3 (by omega) _ _, hBW.setCell (by show w.heap.size ≤ A + 1; omega) _, hAw⟩
    have HTS := Lib.hid hts
    clear hown3 hg3 hb3 hb4 b0 b1 b2 b3 hBW hR hts e2 HB0 HB1 HB2 HB3 HOWN0 HBV HRD1 hb2 h45 hZ4
    go_upto_region 2 with fail
    obtain ⟨W5, hW5⟩ : ∃ W5 : World, W5 = w3.setCell ⟨A + 1, 2, none⟩ (.slice (some ⟨R, 0, none⟩) 16 c3) := ⟨_, rfl⟩
    rw [← hW5] at HTS ⊢
    clear hW5 cc cf
    have hwd0 := hwd
    go_wp2_with fail
    go_loopw [10] (fun i wr => ∃ k : Nat, k ≤ 16 ∧ i = .int .i64 ((k : Int) + 1) ∧ TS w A c q R c3 st (nxR cs c.nd c.wd t xs k) wr) (fun i _ => 17 - (intOf i).toNat)
    case atStart => exact ⟨0, Nat.zero_le _, rfl, HTS.out⟩
    case round =>
      obtain ⟨k, hk, rfl, hT⟩ := hrel
      have HT := Lib.hid hT
      have hRb := nxR_rb (cs := cs) (nd := c.nd) (wd := c.wd) (t := t) hwd HRB.out k hk
      obtain ⟨a0, a3, e0, e1, e2⟩ := hT.cells
      by_cases hlt : k < 16
      · have d1 : decide ((k : Int) + 1 ≤ 16) = true := yb (by omega)
        have hrt := rateK_bd HOK.out ((k : Int) + 1) c.nd t cs.length (Nat.le_refl _)
        have HNX : Hid (nxR cs c.nd c.wd t xs (k + 1) = if 0 < rateK cs ((k : Int) + 1) c.nd t cs.length then (nxR cs c.nd c.wd t xs k).set k (max ((nxR cs c.nd c.wd t xs k).getD k 0) c.wd) else nxR cs c.nd c.wd t xs k) := rfl
        obtain ⟨rt, HRT⟩ : ∃ r, Hid (rateK cs ((k : Int) + 1) c.nd t cs.length = r) := ⟨_, rfl⟩
        rw [HRT.out] at hrt HNX
        obtain ⟨ys, hys⟩ : ∃ ys, nxR cs c.nd c.wd t xs k = ys := ⟨_, rfl⟩
        rw [hys] at HT hRb HNX hT
        clear hys
        have hrow := hT.row hRb.1 k hlt
        have hyb := hRb.2 k hlt
        obtain ⟨y, HY⟩ : ∃ y, Hid (ys.getD k 0 = y) := ⟨_, rfl⟩
        rw [HY.out] at hrow hyb HNX
        have HRB2 := Lib.hid hRb
        clear hRb hT
        obtain ⟨r1, r2, r3⟩ := hrow
        have hzR := HT.out.R
        have hwk1 : IntKind.i64.wrap ((k : Int) + 1 - 1) = (k : Int) := by rw [show (k : Int) + 1 - 1 = (k : Int) by omega]; exact IntWalk.i64_in _ (by omega)
        have hwk : IntKind.i64.wrap (k : Int) = (k : Int) := IntWalk.i64_in _ (by omega)
        have hwk2 : IntKind.i64.wrap ((k : Int) + 1 + 1) = (k : Int) + 1 + 1 := IntWalk.i64_in _ (by omega)
        have i1 : (0 : Int) ≤ (k : Int) := by omega
        have i2 : (k : Int) < 16 := by omega
        go_wp2_with fail
        refine (rrate_any cs _ ((k : Int) + 1) c.nd t HOK.out HL200.out _ (HP.out.keep HT.out.bel)).mono ?_
        rw [HRT.out]
        rintro e w1 ⟨rfl, hb⟩
        have HT := Lib.hid (HT.out.below hb)
        obtain ⟨wn, rfl⟩ : ∃ wn, wn = w1 := ⟨_, rfl⟩
        clear hb a0 a3 e0 e1 e2 r1 r2 r3
        by_cases h0 : 0 < rt
        · have d3 : decide (0 < rt) = true := yb h0
          have hnx := HNX.out
          rw [if_pos h0] at hnx
          have HNX := Lib.hid hnx
          clear hnx h0
          obtain ⟨a0, a3, e0, e1, e2⟩ := HT.out.cells
          obtain ⟨r1, r2, r3⟩ := HT.out.row HRB2.out.1 k hlt
          rw [HY.out] at r1
          go_wp2_with fail
          refine wp_region_calm (fun w' => Below wn.heap.size wn w') 14 (by kernel_rfl) ((Below.refl _ wn).drew) ?_
          refine cm_run 0 30 (v := ?_) rfl rfl (by kernel_rfl) (by kernel_rfl) (by kernel_rfl) (by kernel_rfl) (by kernel_rfl) (fun _ _ _ h => h) (by rfl) ?_ ?_
          rotate_left
          · (intro wS hS; skip; go_simp; (try with_reducible rfl))
          simp only [List.setIfInBounds_toArray, List.set_cons_zero, List.set_cons_succ]
          refine cm_run 1 31 (v := ?_) rfl rfl (by kernel_rfl) (by kernel_rfl) (by kernel_rfl) (by kernel_rfl) (by kernel_rfl) (fun _ _ _ h => h) (by rfl) ?_ ?_
          rotate_left
          · (intro wS hS; have g := cell_later hS e2; go_simp; (try with_reducible rfl))
          simp only [List.setIfInBounds_toArray, List.set_cons_zero, List.set_cons_succ]
          refine cm_run 2 32 (v := ?_) rfl rfl (by kernel_rfl) (by kernel_rfl) (by kernel_rfl) (by kernel_rfl) (by kernel_rfl) (fun _ _ _ h => h) (by rfl) ?_ ?_
          rotate_left
          · (intro wS hS; skip; go_simp; (try with_reducible rfl))
          simp only [List.setIfInBounds_toArray, List.set_cons_zero, List.set_cons_succ]
          refine cm_run 3 33 (v := ?_) rfl rfl (by kernel_rfl) (by kernel_rfl) (by kernel_rfl) (by kernel_rfl) (by kernel_rfl) (fun _ _ _ h => h) (by rfl) ?_ ?_
          rotate_left
          · (intro wS hS; skip; go_simp; (try with_reducible rfl))
          simp only [List.setIfInBounds_toArray, List.set_cons_zero, List.set_cons_succ]
          refine cm_run 4 34 (v := ?_) rfl rfl (by kernel_rfl) (by kernel_rfl) (by kernel_rfl) (by kernel_rfl) (by kernel_rfl) (fun _ _ _ h => h) (by rfl) ?_ ?_
          rotate_left
          · (intro wS hS; skip; go_simp; (try with_reducible rfl))
          simp only [List.setIfInBounds_toArray, List.set_cons_zero, List.set_cons_succ]
          refine cm_run 5 35 (v := ?_) rfl rfl (by kernel_rfl) (by kernel_rfl) (by kernel_rfl) (by kernel_rfl) (by kernel_rfl) (fun _ _ _ h => h) (by rfl) ?_ ?_
          rotate_left
          · (intro wS hS; have g := cell_later hS e2; go_simp; (try with_reducible rfl))
          simp only [List.setIfInBounds_toArray, List.set_cons_zero, List.set_cons_succ]
          refine cm_run 6 36 (v := ?_) rfl rfl (by kernel_rfl) (by kernel_rfl) (by kernel_rfl) (by kernel_rfl) (by kernel_rfl) (fun _ _ _ h => h) (by rfl) ?_ ?_
          rotate_left
          · (intro wS hS; skip; go_simp; (try with_reducible rfl))
          simp only [List.setIfInBounds_toArray, List.set_cons_zero, List.set_cons_succ]
          refine cm_run 7 37 (v := ?_) rfl rfl (by kernel_rfl) (by kernel_rfl) (by kernel_rfl) (by kernel_rfl) (by kernel_rfl) (fun _ _ _ h => h) (by rfl) ?_ ?_
          rotate_left
          · (intro wS hS; skip; go_simp; (try with_reducible rfl))
          simp only [List.setIfInBounds_toArray, List.set_cons_zero, List.set_cons_succ]
          refine cm_run 8 38 (v := ?_) rfl rfl (by kernel_rfl) (by kernel_rfl) (by kernel_rfl) (by kernel_rfl) (by kernel_rfl) (fun _ _ _ h => h) (by rfl) ?_ ?_
          rotate_left
          · (intro wS hS; skip; go_simp; (try with_reducible rfl))
          simp only [List.setIfInBounds_toArray, List.set_cons_zero, List.set_cons_succ]
          refine cm_run 9 39 (v := ?_) rfl rfl (by kernel_rfl) (by kernel_rfl) (by kernel_rfl) (by kernel_rfl) (by kernel_rfl) (fun _ _ _ h => h) (by rfl) ?_ ?_
          rotate_left
          · (intro wS hS; have g := cell_later hS r1; go_simp; (try with_reducible rfl))
          simp only [List.setIfInBounds_toArray, List.set_cons_zero, List.set_cons_succ]
          refine cm_run 10 40 (v := ?_) rfl rfl (by kernel_rfl) (by kernel_rfl) (by kernel_rfl) (by kernel_rfl) (by kernel_rfl) (fun _ _ _ h => h) (by rfl) ?_ ?_
          rotate_left
          · (intro wS hS; skip; go_simp; (try with_reducible rfl))
          simp only [List.setIfInBounds_toArray, List.set_cons_zero, List.set_cons_succ]
          refine cm_run 11 41 (v := ?_) rfl rfl (by kernel_rfl) (by kernel_rfl) (by kernel_rfl) (by kernel_rfl) (by kernel_rfl) (fun _ _ _ h => h) (by rfl) ?_ ?_
          rotate_left
          · (intro wS hS; have g := cell_later hS a3; go_simp; (try with_reducible rfl))
          simp only [List.setIfInBounds_toArray, List.set_cons_zero, List.set_cons_succ]
          refine cm_run 12 42 (v := ?_) rfl rfl (by kernel_rfl) (by kernel_rfl) (by kernel_rfl) (by kernel_rfl) (by kernel_rfl) (fun _ _ _ h => h) (by rfl) ?_ ?_
          rotate_left
          · (intro wS hS; skip; go_simp; (try with_reducible rfl))
          simp only [List.setIfInBounds_toArray, List.set_cons_zero, List.set_cons_succ]
          refine cm_run 13 43 (v := ?_) rfl rfl (by kernel_rfl) (by kernel_rfl) (by kernel_rfl) (by kernel_rfl) (by kernel_rfl) (fun _ _ _ h => h) (by rfl) ?_ ?_
          rotate_left
          · (intro wS hS; skip; go_simp; (try with_reducible rfl))
          simp only [List.setIfInBounds_toArray, List.set_cons_zero, List.set_cons_succ]
          refine cm_tail 14 rfl (by kernel_rfl) (by kernel_rfl) (by kernel_rfl) (by rfl) ?_
          intro wS hS K hK
          have gx := cell_later hS r1; have fx := fz_later hS (cell_lt r1) r2
          go_simp
          refine hK _ _ ?_
          clear hK K
          refine NoPanic.normal ?_
          have nT := (HT.out.below hS).setRow k (if y < c.wd then c.wd else y)
          obtain ⟨WD, hWD⟩ : ∃ WD : World, WD = wS.setCell ⟨R, k, none⟩ (.int .u64 (if y < c.wd then c.wd else y)) := ⟨_, rfl⟩
          rw [← hWD] at nT ⊢
          rw [show (if y < c.wd then c.wd else y) = max y c.wd by split <;> omega, ← HNX.out] at nT
          have NT := Lib.hid nT
          clear hWD nT gx fx hS a0 a3 e0 e1 e2 r1 r2 r3
          go_wp2_with fail
          go_roundw
          case rel => exact ⟨k + 1, by omega, by go_num, NT.out⟩
          case measure => simp [intOf]; omega
        · have d3 : decide (0 < rt) = false := nb h0
          have hnx := HNX.out
          rw [if_neg h0] at hnx
          have HNX := Lib.hid hnx
          clear hnx h0
          go_wp2_with fail
          go_roundw
          case rel => exact ⟨k + 1, by omega, by go_num, by rw [HNX.out]; exact HT.out⟩
          case measure => simp [intOf]; omega
      · obtain rfl : k = 16 := by omega
        have d1 : decide ((16 : Int) + 1 ≤ 16) = false := by decide
        obtain ⟨ys, hys⟩ : ∃ ys, nxR cs c.nd c.wd t xs 16 = ys := ⟨_, rfl⟩
        rw [hys] at HT hRb hT
        have HYS := Lib.hid hys
        clear hys
        have hrd : RdI .u64 wr (.slice (some ⟨R, 0, none⟩) 16 c3) ys := by
          have := RdS.of_owns hT.own (by decide)
          unfold RdI; rwa [hRb.1]
        have HRD2 := Lib.hid hrd
        have HRB2 := Lib.hid hRb
        clear hrd hRb hT
        go_wp2_with fail
        refine (rlevel_any q st _ ys t HRB2.out _ HRD2.out).mono ?_
        rintro e w1 ⟨rfl, hb⟩
        have hT1 := HT.out.below hb
        obtain ⟨sm, HSM⟩ : ∃ s, Hid (ys.sum = s) := ⟨_, rfl⟩
        rw [HSM.out]
        obtain ⟨W2, hW2⟩ : ∃ W : World, W = w1.alloc (.cells #[.int .i64 t, .int .u64 st, .int .u64 sm] 57) := ⟨_, rfl⟩
        have hT2 : TS w A c q R c3 st ys W2 := by rw [hW2]; exact hT1.below (Below.al (Below.refl _ _) _)
        have hX2 : BoxN W2 w1.heap.size 57 #[.int .i64 t, .int .u64 st, .int .u64 sm] := by rw [hW2]; exact BoxN.new w1 _ _
        have hXR : R < w1.heap.size := hT1.R.2
        obtain ⟨X, hX⟩ : ∃ X, X = w1.heap.size := ⟨_, rfl⟩
        rw [← hX] at hX2 hXR
        have HT2 := Lib.hid hT2
        have HX := Lib.hid hX2
        have HXR := Lib.hid hXR
        clear HT hb hT1 hT2 hX2 hXR a0 a3 e0 e1 e2 HRD2 HTS
        go_upto_region 8 with fail
        rw [← hW2, ← hX]
        clear hW2 hX
        go_wp2_with fail
        obtain ⟨wo, rfl⟩ : ∃ wo, wo = wr := ⟨_, rfl⟩
        go_loopw [12] (fun i wr => ∃ k : Nat, k ≤ 16 ∧ i = .int .i64 ((k : Int) + 1) ∧ TS w A c q R c3 (mvR cs c.nd t st ys k).1 (mvR cs c.nd t st ys k).2 wr ∧ BoxN wr X 57 #[.int .i64 t, .int .u64 st, .int .u64 sm]) (fun i _ => 17 - (intOf i).toNat)
        case atStart => exact ⟨0, Nat.zero_le _, rfl, HT2.out, HX.out⟩
        case round =>
          clear HT2 HX
          obtain ⟨k, hk, rfl, hT, hX⟩ := hrel
          have HT := Lib.hid hT
          have HX := Lib.hid hX
          obtain ⟨hRb, hlo⟩ := mvR_rb (nd := c.nd) (t := t) (st := st) HOK.out HRB2.out k hk
          have hsu := mvR_sum (cs := cs) (nd := c.nd) (t := t) (st := st) (rs := ys) HRB2.out.1 k hk
          have hs1 := HRB2.out.sum
          have hs2 := hRb.sum
          obtain ⟨a0, a3, e0, e1, e2⟩ := hT.cells
          clear hX
          by_cases hlt : k < 16
          · have d1 : decide ((k : Int) + 1 ≤ 16) = true := yb (by omega)
            have hrt := rateK_bd HOK.out ((k : Int) + 1) c.nd t cs.length (Nat.le_refl _)
            have HMV : Hid (mvR cs c.nd t st ys (k + 1) = ((mvR cs c.nd t st ys k).1 + min (rateK cs ((k : Int) + 1) c.nd t cs.length) ((mvR cs c.nd t st ys k).2.getD k 0),
              (mvR cs c.nd t st ys k).2.set k ((mvR cs c.nd t st ys k).2.getD k 0 - min (rateK cs ((k : Int) + 1) c.nd t cs.length) ((mvR cs c.nd t st ys k).2.getD k 0)))) := rfl
            obtain ⟨rt, HRT⟩ : ∃ r, Hid (rateK cs ((k : Int) + 1) c.nd t cs.length = r) := ⟨_, rfl⟩
            rw [HRT.out] at hrt HMV
            obtain ⟨zs, hzs⟩ : ∃ zs, (mvR cs c.nd t st ys k).2 = zs := ⟨_, rfl⟩
            obtain ⟨z, hz⟩ : ∃ z, (mvR cs c.nd t st ys k).1 = z := ⟨_, rfl⟩
            rw [hzs, hz] at HT HMV hT hsu
            rw [hzs] at hRb hs2
            rw [hz] at hlo e1
            clear hzs hz
            have hrow := hT.row hRb.1 k hlt
            have hyb := hRb.2 k hlt
            obtain ⟨y, HY⟩ : ∃ y, Hid (zs.getD k 0 = y) := ⟨_, rfl⟩
            rw [HY.out] at hrow hyb HMV
            have HRB3 := Lib.hid hRb
            obtain ⟨r1, r2, r3⟩ := hrow
            clear hRb hT
            have hwk1 : IntKind.i64.wrap ((k : Int) + 1 - 1) = (k : Int) := by rw [show (k : Int) + 1 - 1 = (k : Int) by omega]; exact IntWalk.i64_in _ (by omega)
            have hwk : IntKind.i64.wrap (k : Int) = (k : Int) := IntWalk.i64_in _ (by omega)
            have hwk2 : IntKind.i64.wrap ((k : Int) + 1 + 1) = (k : Int) + 1 + 1 := IntWalk.i64_in _ (by omega)
            have i1 : (0 : Int) ≤ (k : Int) := by omega
            have i2 : (k : Int) < 16 := by omega
            have hzz : z ≤ 1152921504606846976 + 17592186044416 := by omega
            go_wp2_with fail
            refine wp_region_calm (fun w' => Below wr.heap.size wr w') 99 (by kernel_rfl) ((Below.refl _ wr).drew) ?_
            refine cm_run 0 51 (v := ?_) rfl rfl (by kernel_rfl) (by kernel_rfl) (by kernel_rfl) (by kernel_rfl) (by kernel_rfl) (fun _ _ _ h => h) (by rfl) ?_ ?_
            rotate_left
            · (intro wS hS; skip; go_simp; (try with_reducible rfl))
            simp only [List.setIfInBounds_toArray, List.set_cons_zero, List.set_cons_succ]
            refine cm_run 1 52 (v := ?_) rfl rfl (by kernel_rfl) (by kernel_rfl) (by kernel_rfl) (by kernel_rfl) (by kernel_rfl) (fun _ _ _ h => h) (by rfl) ?_ ?_
            rotate_left
            · (intro wS hS; skip; go_simp; (try with_reducible rfl))
            simp only [List.setIfInBounds_toArray, List.set_cons_zero, List.set_cons_succ]
            refine cm_run 2 53 (v := ?_) rfl rfl (by kernel_rfl) (by kernel_rfl) (by kernel_rfl) (by kernel_rfl) (by kernel_rfl) (fun _ _ _ h => h) (by rfl) ?_ ?_
            rotate_left
            · (intro wS hS; skip; go_simp; (try with_reducible rfl))
            simp only [List.setIfInBounds_toArray, List.set_cons_zero, List.set_cons_succ]
            refine cm_run 3 54 (v := ?_) rfl rfl (by kernel_rfl) (by kernel_rfl) (by kernel_rfl) (by kernel_rfl) (by kernel_rfl) (fun _ _ _ h => h) (by rfl) ?_ ?_
            rotate_left
            · (intro wS hS; have g := cell_later hS a0; go_simp; (try with_reducible rfl))
            simp only [List.setIfInBounds_toArray, List.set_cons_zero, List.set_cons_succ]
            refine cm_run 4 55 (v := ?_) rfl rfl (by kernel_rfl) (by kernel_rfl) (by kernel_rfl) (by kernel_rfl) (by kernel_rfl) (fun _ _ _ h => h) (by rfl) ?_ ?_
            rotate_left
            · (intro wS hS; skip; go_simp; (try with_reducible rfl))
            simp only [List.setIfInBounds_toArray, List.set_cons_zero, List.set_cons_succ]
            refine cm_call 5 56 100 (v := .int .u64 rt) (args := ?_) rfl rfl (by kernel_rfl) (by kernel_rfl) (by kernel_rfl) (by kernel_rfl) (by kernel_rfl) (fun _ _ _ h => h) (by rfl) ?_ ?_ ?_
            rotate_left 1
            · (intro wS hS; go_simp; (try with_reducible rfl))
            · (intro wS hS; refine (rrate_any cs _ ((k : Int) + 1) c.nd t HOK.out HL200.out _ (HP.out.keep (Below.next HT.out.bel hS))).mono ?_; (rw [HRT.out]; rintro e w2 ⟨rfl, hb⟩; exact ⟨rfl, Below.next hS hb⟩))
            simp only [List.setIfInBounds_toArray, List.set_cons_zero, List.set_cons_succ]
            refine cm_run 6 57 (v := ?_) rfl rfl (by kernel_rfl) (by kernel_rfl) (by kernel_rfl) (by kernel_rfl) (by kernel_rfl) (fun _ _ _ h => h) (by rfl) ?_ ?_
            rotate_left
            · (intro wS hS; skip; go_simp; (try with_reducible rfl))
            simp only [List.setIfInBounds_toArray, List.set_cons_zero, List.set_cons_succ]
            refine cm_run 7 58 (v := ?_) rfl rfl (by kernel_rfl) (by kernel_rfl) (by kernel_rfl) (by kernel_rfl) (by kernel_rfl) (fun _ _ _ h => h) (by rfl) ?_ ?_
            rotate_left
            · (intro wS hS; have g := cell_later hS e2; go_simp; (try with_reducible rfl))
            simp only [List.setIfInBounds_toArray, List.set_cons_zero, List.set_cons_succ]
            refine cm_run 8 59 (v := ?_) rfl rfl (by kernel_rfl) (by kernel_rfl) (by kernel_rfl) (by kernel_rfl) (by kernel_rfl) (fun _ _ _ h => h) (by rfl) ?_ ?_
            rotate_left
            · (intro wS hS; skip; go_simp; (try with_reducible rfl))
            simp only [List.setIfInBounds_toArray, List.set_cons_zero, List.set_cons_succ]
            refine cm_run 9 60 (v := ?_) rfl rfl (by kernel_rfl) (by kernel_rfl) (by kernel_rfl) (by kernel_rfl) (by kernel_rfl) (fun _ _ _ h => h) (by rfl) ?_ ?_
            rotate_left
            · (intro wS hS; skip; go_simp; (try with_reducible rfl))
            simp only [List.setIfInBounds_toArray, List.set_cons_zero, List.set_cons_succ]
            refine cm_run 10 61 (v := ?_) rfl rfl (by kernel_rfl) (by kernel_rfl) (by kernel_rfl) (by kernel_rfl) (by kernel_rfl) (fun _ _ _ h => h) (by rfl) ?_ ?_
            rotate_left
            · (intro wS hS; skip; go_simp; (try with_reducible rfl))
            simp only [List.setIfInBounds_toArray, List.set_cons_zero, List.set_cons_succ]
            refine cm_run 11 62 (v := ?_) rfl rfl (by kernel_rfl) (by kernel_rfl) (by kernel_rfl) (by kernel_rfl) (by kernel_rfl) (fun _ _ _ h => h) (by rfl) ?_ ?_
            rotate_left
            · (intro wS hS; have g := cell_later hS r1; go_simp; (try with_reducible rfl))
            simp only [List.setIfInBounds_toArray, List.set_cons_zero, List.set_cons_succ]
            refine cm_run 12 63 (v := ?_) rfl rfl (by kernel_rfl) (by kernel_rfl) (by kernel_rfl) (by kernel_rfl) (by kernel_rfl) (fun _ _ _ h => h) (by rfl) ?_ ?_
            rotate_left
            · (intro wS hS; skip; go_simp; (try with_reducible rfl))
            simp only [List.setIfInBounds_toArray, List.set_cons_zero, List.set_cons_succ]
            refine cm_run 13 13 (v := ?_) rfl rfl (by kernel_rfl) (by kernel_rfl) (by kernel_rfl) (by kernel_rfl) (by kernel_rfl) (fun _ _ _ h => h) (by rfl) ?_ ?_
            rotate_left
            · (intro wS hS; skip; go_simp; (try with_reducible rfl))
            simp only [List.setIfInBounds_toArray, List.set_cons_zero, List.set_cons_succ]
            refine cm_done (by kernel_rfl) ?_
            intro wS hS
            refine NoPanic.normal ?_
            have HT := Lib.hid (HT.out.below hS)
            have HX := Lib.hid (HX.out.below hS)
            obtain ⟨mn, HMN⟩ : ∃ m, Hid (min rt y = m) := ⟨_, rfl⟩
            rw [show (if y < rt then y else rt) = min rt y by split <;> omega, HMN.out]
            rw [HMN.out] at HMV
            have hmn : 0 ≤ mn ∧ mn ≤ y := by have := HMN.out; omega
            obtain ⟨wn, rfl⟩ : ∃ wn, wn = wS := ⟨_, rfl⟩
            clear hS a0 a3 e0 e1 e2 r1 r2
            obtain ⟨a0, a3, e0, e1, e2⟩ := HT.out.cells
            obtain ⟨r1, r2, _⟩ := HT.out.row HRB3.out.1 k hlt
            rw [HY.out] at r1
            have hzR := HT.out.R
            have hws : IntKind.u64.wrap (y - mn) = y - mn := IntWalk.u64_in _ (by omega)
            have hwz : IntKind.u64.wrap (z + mn) = z + mn := IntWalk.u64_in _ (by omega)
            go_wp2_with fail
            refine wp_region_calm (fun w' => Below wn.heap.size wn w') 13 (by kernel_rfl) ((Below.refl _ wn).drew) ?_
            refine cm_run 0 64 (v := ?_) rfl rfl (by kernel_rfl) (by kernel_rfl) (by kernel_rfl) (by kernel_rfl) (by kernel_rfl) (fun _ _ _ h => h) (by rfl) ?_ ?_
            rotate_left
            · (intro wS hS; skip; go_simp; (try with_reducible rfl))
            simp only [List.setIfInBounds_toArray, List.set_cons_zero, List.set_cons_succ]
            refine cm_run 1 65 (v := ?_) rfl rfl (by kernel_rfl) (by kernel_rfl) (by kernel_rfl) (by kernel_rfl) (by kernel_rfl) (fun _ _ _ h => h) (by rfl) ?_ ?_
            rotate_left
            · (intro wS hS; have g := cell_later hS e2; go_simp; (try with_reducible rfl))
            simp only [List.setIfInBounds_toArray, List.set_cons_zero, List.set_cons_succ]
            refine cm_run 2 66 (v := ?_) rfl rfl (by kernel_rfl) (by kernel_rfl) (by kernel_rfl) (by kernel_rfl) (by kernel_rfl) (fun _ _ _ h => h) (by rfl) ?_ ?_
            rotate_left
            · (intro wS hS; skip; go_simp; (try with_reducible rfl))
            simp only [List.setIfInBounds_toArray, List.set_cons_zero, List.set_cons_succ]
            refine cm_run 3 67 (v := ?_) rfl rfl (by kernel_rfl) (by kernel_rfl) (by kernel_rfl) (by kernel_rfl) (by kernel_rfl) (fun _ _ _ h => h) (by rfl) ?_ ?_
            rotate_left
            · (intro wS hS; skip; go_simp; (try with_reducible rfl))
            simp only [List.setIfInBounds_toArray, List.set_cons_zero, List.set_cons_succ]
            refine cm_run 4 68 (v := ?_) rfl rfl (by kernel_rfl) (by kernel_rfl) (by kernel_rfl) (by kernel_rfl) (by kernel_rfl) (fun _ _ _ h => h) (by rfl) ?_ ?_
            rotate_left
            · (intro wS hS; skip; go_simp; (try with_reducible rfl))
            simp only [List.setIfInBounds_toArray, List.set_cons_zero, List.set_cons_succ]
            refine cm_run 5 69 (v := ?_) rfl rfl (by kernel_rfl) (by kernel_rfl) (by kernel_rfl) (by kernel_rfl) (by kernel_rfl) (fun _ _ _ h => h) (by rfl) ?_ ?_
            rotate_left
            · (intro wS hS; have g := cell_later hS e2; go_simp; (try with_reducible rfl))
            simp only [List.setIfInBounds_toArray, List.set_cons_zero, List.set_cons_succ]
            refine cm_run 6 70 (v := ?_) rfl rfl (by kernel_rfl) (by kernel_rfl) (by kernel_rfl) (by kernel_rfl) (by kernel_rfl) (fun _ _ _ h => h) (by rfl) ?_ ?_
            rotate_left
            · (intro wS hS; skip; go_simp; (try with_reducible rfl))
            simp only [List.setIfInBounds_toArray, List.set_cons_zero, List.set_cons_succ]
            refine cm_run 7 71 (v := ?_) rfl rfl (by kernel_rfl) (by kernel_rfl) (by kernel_rfl) (by kernel_rfl) (by kernel_rfl) (fun _ _ _ h => h) (by rfl) ?_ ?_
            rotate_left
            · (intro wS hS; skip; go_simp; (try with_reducible rfl))
            simp only [List.setIfInBounds_toArray, List.set_cons_zero, List.set_cons_succ]
            refine cm_run 8 72 (v := ?_) rfl rfl (by kernel_rfl) (by kernel_rfl) (by kernel_rfl) (by kernel_rfl) (by kernel_rfl) (fun _ _ _ h => h) (by rfl) ?_ ?_
            rotate_left
            · (intro wS hS; skip; go_simp; (try with_reducible rfl))
            simp only [List.setIfInBounds_toArray, List.set_cons_zero, List.set_cons_succ]
            refine cm_run 9 73 (v := ?_) rfl rfl (by kernel_rfl) (by kernel_rfl) (by kernel_rfl) (by kernel_rfl) (by kernel_rfl) (fun _ _ _ h => h) (by rfl) ?_ ?_
            rotate_left
            · (intro wS hS; have g := cell_later hS r1; go_simp; (try with_reducible rfl))
            simp only [List.setIfInBounds_toArray, List.set_cons_zero, List.set_cons_succ]
            refine cm_run 10 74 (v := ?_) rfl rfl (by kernel_rfl) (by kernel_rfl) (by kernel_rfl) (by kernel_rfl) (by kernel_rfl) (fun _ _ _ h => h) (by rfl) ?_ ?_
            rotate_left
            · (intro wS hS; skip; go_simp; (try with_reducible rfl))
            simp only [List.setIfInBounds_toArray, List.set_cons_zero, List.set_cons_succ]
            refine cm_run 11 75 (v := ?_) rfl rfl (by kernel_rfl) (by kernel_rfl) (by kernel_rfl) (by kernel_rfl) (by kernel_rfl) (fun _ _ _ h => h) (by rfl) ?_ ?_
            rotate_left
            · (intro wS hS; skip; go_simp; (try with_reducible rfl))
            simp only [List.setIfInBounds_toArray, List.set_cons_zero, List.set_cons_succ]
            refine cm_run 12 76 (v := ?_) rfl rfl (by kernel_rfl) (by kernel_rfl) (by kernel_rfl) (by kernel_rfl) (by kernel_rfl) (fun _ _ _ h => h) (by rfl) ?_ ?_
            rotate_left
            · (intro wS hS; skip; go_simp; (try with_reducible rfl))
            simp only [List.setIfInBounds_toArray, List.set_cons_zero, List.set_cons_succ]
            refine cm_tail 13 rfl (by kernel_rfl) (by kernel_rfl) (by kernel_rfl) (by rfl) ?_
            intro wS hS K hK
            have gx := cell_later hS r1; have fx := fz_later hS (cell_lt r1) r2
            go_simp
            refine hK _ _ ?_
            clear hK K
            refine NoPanic.normal ?_
            have nT := (HT.out.below hS).setRow k (y - mn)
            have nX := (HX.out.below hS).setO (p := ⟨R, k, none⟩) (by have := HXR.out; show X ≠ R; omega) (.int .u64 (y - mn))
            obtain ⟨WD, hWD⟩ : ∃ WD : World, WD = wS.setCell ⟨R, k, none⟩ (.int .u64 (y - mn)) := ⟨_, rfl⟩
            rw [← hWD] at nT nX ⊢
            have c1 : WD.cell? ⟨A + 1, 1, none⟩ = some (.int .u64 z) := nT.b1.cell 1
            have c2 : WD.frozen? ⟨A + 1, 1, none⟩ = false := nT.b1.frozen 1
            have HXA : Hid (X ≠ A + 1) := by unfold Hid; have := HXR.out; have := hzR.1; omega
            have NT := Lib.hid (nT.setSt (z + mn))
            have NX := Lib.hid (nX.setO (p := ⟨A + 1, 1, none⟩) HXA.out (.int .u64 (z + mn)))
            clear hWD nT nX gx fx hS a0 a3 e0 e1 e2 r1 r2
            go_wp2_with fail
            go_roundw
            case rel => exact ⟨k + 1, by omega, by go_num, by rw [HMV.out]; exact NT.out, NX.out⟩
            case measure => simp [intOf]; omega
          · obtain rfl : k = 16 := by omega
            have d1 : decide ((16 : Int) + 1 ≤ 16) = false := by decide
            have hou := sumK_bd HOK.out c.nd t 16
            obtain ⟨ou, HOU⟩ : ∃ o, Hid (sumK cs c.nd t 16 = o) := ⟨_, rfl⟩
            rw [HOU.out] at hou
            obtain ⟨zs, HZS⟩ : ∃ zs, Hid ((mvR cs c.nd t st ys 16).2 = zs) := ⟨_, rfl⟩
            obtain ⟨z, HZ⟩ : ∃ z, Hid ((mvR cs c.nd t st ys 16).1 = z) := ⟨_, rfl⟩
            rw [HZS.out, HZ.out] at HT hT hsu
            rw [HZS.out] at hRb hs2
            rw [HZ.out] at hlo e1
            have hzz : z ≤ 1152921504606846976 + 17592186044416 := by omega
            have hzR := HT.out.R
            have hmo : IntKind.u64.wrap (z - (if ou < z then ou else z)) = z - (if ou < z then ou else z) := IntWalk.u64_in _ (by split <;> omega)
            have HRB3 := Lib.hid hRb
            clear hRb hT
            go_wp2_with fail
            refine wp_region_calm (fun w' => Below wr.heap.size wr w') 12 (by kernel_rfl) ((Below.refl _ wr).drew) ?_
            refine cm_run 0 82 (v := ?_) rfl rfl (by kernel_rfl) (by kernel_rfl) (by kernel_rfl) (by kernel_rfl) (by kernel_rfl) (fun _ _ _ h => h) (by rfl) ?_ ?_
            rotate_left
            · (intro wS hS; skip; go_simp; (try with_reducible rfl))
            simp only [List.setIfInBounds_toArray, List.set_cons_zero, List.set_cons_succ]
            refine cm_run 1 83 (v := ?_) rfl rfl (by kernel_rfl) (by kernel_rfl) (by kernel_rfl) (by kernel_rfl) (by kernel_rfl) (fun _ _ _ h => h) (by rfl) ?_ ?_
            rotate_left
            · (intro wS hS; have g := cell_later hS e1; go_simp; (try with_reducible rfl))
            simp only [List.setIfInBounds_toArray, List.set_cons_zero, List.set_cons_succ]
            refine cm_run 2 84 (v := ?_) rfl rfl (by kernel_rfl) (by kernel_rfl) (by kernel_rfl) (by kernel_rfl) (by kernel_rfl) (fun _ _ _ h => h) (by rfl) ?_ ?_
            rotate_left
            · (intro wS hS; skip; go_simp; (try with_reducible rfl))
            simp only [List.setIfInBounds_toArray, List.set_cons_zero, List.set_cons_succ]
            refine cm_run 3 85 (v := ?_) rfl rfl (by kernel_rfl) (by kernel_rfl) (by kernel_rfl) (by kernel_rfl) (by kernel_rfl) (fun _ _ _ h => h) (by rfl) ?_ ?_
            rotate_left
            · (intro wS hS; have g := cell_later hS e1; go_simp; (try with_reducible rfl))
            simp only [List.setIfInBounds_toArray, List.set_cons_zero, List.set_cons_succ]
            refine cm_run 4 86 (v := ?_) rfl rfl (by kernel_rfl) (by kernel_rfl) (by kernel_rfl) (by kernel_rfl) (by kernel_rfl) (fun _ _ _ h => h) (by rfl) ?_ ?_
            rotate_left
            · (intro wS hS; skip; go_simp; (try with_reducible rfl))
            simp only [List.setIfInBounds_toArray, List.set_cons_zero, List.set_cons_succ]
            refine cm_run 5 87 (v := ?_) rfl rfl (by kernel_rfl) (by kernel_rfl) (by kernel_rfl) (by kernel_rfl) (by kernel_rfl) (fun _ _ _ h => h) (by rfl) ?_ ?_
            rotate_left
            · (intro wS hS; skip; go_simp; (try with_reducible rfl))
            simp only [List.setIfInBounds_toArray, List.set_cons_zero, List.set_cons_succ]
            refine cm_run 6 88 (v := ?_) rfl rfl (by kernel_rfl) (by kernel_rfl) (by kernel_rfl) (by kernel_rfl) (by kernel_rfl) (fun _ _ _ h => h) (by rfl) ?_ ?_
            rotate_left
            · (intro wS hS; have g := cell_later hS a0; go_simp; (try with_reducible rfl))
            simp only [List.setIfInBounds_toArray, List.set_cons_zero, List.set_cons_succ]
            refine cm_run 7 89 (v := ?_) rfl rfl (by kernel_rfl) (by kernel_rfl) (by kernel_rfl) (by kernel_rfl) (by kernel_rfl) (fun _ _ _ h => h) (by rfl) ?_ ?_
            rotate_left
            · (intro wS hS; skip; go_simp; (try with_reducible rfl))
            simp only [List.setIfInBounds_toArray, List.set_cons_zero, List.set_cons_succ]
            refine cm_call 8 90 90 (v := .int .u64 ou) (args := ?_) rfl rfl (by kernel_rfl) (by kernel_rfl) (by kernel_rfl) (by kernel_rfl) (by kernel_rfl) (fun _ _ _ h => h) (by rfl) ?_ ?_ ?_
            rotate_left 1
            · (intro wS hS; go_simp; (try with_reducible rfl))
            · (intro wS hS; refine (rout_any cs _ c.nd t HOK.out HL200.out _ (HP.out.keep (Below.next HT.out.bel hS))).mono ?_; (rw [HOU.out]; rintro e w2 ⟨rfl, hb⟩; exact ⟨rfl, Below.next hS hb⟩))
            simp only [List.setIfInBounds_toArray, List.set_cons_zero, List.set_cons_succ]
            refine cm_run 9 91 (v := ?_) rfl rfl (by kernel_rfl) (by kernel_rfl) (by kernel_rfl) (by kernel_rfl) (by kernel_rfl) (fun _ _ _ h => h) (by rfl) ?_ ?_
            rotate_left
            · (intro wS hS; skip; go_simp; (try with_reducible rfl))
            simp only [List.setIfInBounds_toArray, List.set_cons_zero, List.set_cons_succ]
            refine cm_run 10 92 (v := ?_) rfl rfl (by kernel_rfl) (by kernel_rfl) (by kernel_rfl) (by kernel_rfl) (by kernel_rfl) (fun _ _ _ h => h) (by rfl) ?_ ?_
            rotate_left
            · (intro wS hS; skip; go_simp; (try with_reducible rfl))
            simp only [List.setIfInBounds_toArray, List.set_cons_zero, List.set_cons_succ]
            refine cm_run 11 93 (v := ?_) rfl rfl (by kernel_rfl) (by kernel_rfl) (by kernel_rfl) (by kernel_rfl) (by kernel_rfl) (fun _ _ _ h => h) (by rfl) ?_ ?_
            rotate_left
            · (intro wS hS; skip; go_simp; (try with_reducible rfl))
            simp only [List.setIfInBounds_toArray, List.set_cons_zero, List.set_cons_succ]
            have cf : wr.frozen? ⟨A + 1, 1, none⟩ = false := HT.out.b1.frozen 1
            refine cm_tail 12 rfl (by kernel_rfl) (by kernel_rfl) (by kernel_rfl) (by rfl) ?_
            intro wS hS K hK
            have gx := cell_later hS e1; have fx := fz_later hS (cell_lt e1) cf
            go_simp
            refine hK _ _ ?_
            clear hK K
            refine NoPanic.normal ?_
            have nT := (HT.out.below hS).setSt (z - (if ou < z then ou else z))
            have nX := (HX.out.below hS).setO (p := ⟨A + 1, 1, none⟩) (by have := HXR.out; show X ≠ A + 1; omega) (.int .u64 (z - (if ou < z then ou else z)))
            obtain ⟨WD, hWD⟩ : ∃ WD : World, WD = wS.setCell ⟨A + 1, 1, none⟩ (.int .u64 (z - (if ou < z then ou else z))) := ⟨_, rfl⟩
            rw [← hWD] at nT nX ⊢
            have HZ2 : Hid ((mvR cs c.nd t st (nxR cs c.nd c.wd t xs 16) 16).1 - min (mvR cs c.nd t st (nxR cs c.nd c.wd t xs 16) 16).1 (sumK cs c.nd t 16) = z - (if ou < z then ou else z)) := by
              unfold Hid
              rw [HYS.out, HZ.out, HOU.out]
              split <;> omega
            have HZS2 : Hid ((mvR cs c.nd t st (nxR cs c.nd c.wd t xs 16) 16).2 = zs) := by unfold Hid; rw [HYS.out]; exact HZS.out
            have HS2 : Hid ((nxR cs c.nd c.wd t xs 16).sum = sm) := by unfold Hid; rw [HYS.out]; exact HSM.out
            obtain ⟨zz, hzz2⟩ : ∃ zz, zz = z - (if ou < z then ou else z) := ⟨_, rfl⟩
            rw [← hzz2] at nT HZ2 ⊢
            obtain ⟨mi, hmi⟩ : ∃ m, m = (if ou < z then ou else z) := ⟨_, rfl⟩
            rw [← hmi] at hzz2 ⊢
            clear hmi
            have hXA : X ≠ A + 1 + 1 ∧ X ≠ A + 1 + 1 + 1 := by have := HXR.out; omega
            have HT := Lib.hid nT
            have HX := Lib.hid nX
            clear hWD nT nX gx fx hS a0 a3 e0 e1 e2 hzz2 hmo cf
            go_upto_region 15 with fail
            refine wp_region_noPanic ?_
            refine wp_region_held_drew (S := (fun w' => BoxN w' X 57 #[.int .i64 t, .int .u64 st, .int .u64 sm] ∧ BoxN w' (A + 1) 38 #[.int .u64 q, .int .u64 zz, .slice (some ⟨R, 0, none⟩) 16 c3])) (by kernel_rfl) ⟨HX.out, HT.out.b1⟩ (fun hHeld => ?_)
            refine reg_tk (v := .agg #[.int .i64 t, .int .u64 st, .int .u64 sm]) 0 94 rfl rfl (by kernel_rfl) (by kernel_rfl) (by kernel_rfl) (fun _ _ _ h => h) (by rfl) (fun w3 hS => ld_box 57 _ rfl X rfl hS.1 Try.underlying57 rfl (by kernel_rfl)) (by assumption) ?_
            simp only [List.setIfInBounds_toArray, List.set_cons_zero, List.set_cons_succ]
            refine reg_tk (v := .agg #[.int .u64 q, .int .u64 zz, .slice (some ⟨R, 0, none⟩) 16 c3]) 1 95 rfl rfl (by kernel_rfl) (by kernel_rfl) (by kernel_rfl) (fun _ _ _ h => h) (by rfl) (fun w3 hS => ld_box 38 _ rfl (A + 1) rfl hS.2 Try.underlying38 rfl (by kernel_rfl)) (by assumption) ?_
            simp only [List.setIfInBounds_toArray, List.set_cons_zero, List.set_cons_succ]
            have B1 : BoxN WD.drew _ _ _ := HT.out.b1
            have B2 : BoxN WD.drew _ _ _ := HT.out.b2
            have B3 : BoxN WD.drew _ _ _ := HT.out.b3
            have BX : BoxN WD.drew _ _ _ := HX.out
            have hB : Below w.heap.size w WD.drew := HT.out.bel.drew
            have hO : WD.drew.ownsRow _ _ _ _ _ _ := HT.out.own
            refine wpAnyH_ready (rs := [2]) (by kernel_rfl) (by simp) ?_
            refine AllReadyH.cons rfl (fun K hK => ?_) AllReadyH.nil
            refine wp_store_mid 57 (.tmp 8) (.tmp 94) rfl (A + 1 + 1) 0 #[.int .i64 t, .int .u64 st, .int .u64 sm] rfl rfl (B2.there _ rfl) (by kernel_rfl) (by simp [Value.oneCell']) ?_
            have hO := own_sets (B := A + 1 + 1) (by omega) [.int .i64 t, .int .u64 st, .int .u64 sm] 0 _ hO
            have B1 := B1.setsO (b2 := A + 1 + 1) (by omega) 0 [.int .i64 t, .int .u64 st, .int .u64 sm]
            have B2 := B2.sets [.int .i64 t, .int .u64 st, .int .u64 sm] rfl
            have B3 := B3.setsO (b2 := A + 1 + 1) (by omega) 0 [.int .i64 t, .int .u64 st, .int .u64 sm]
            have BX := BX.setsO (b2 := A + 1 + 1) hXA.1 0 [.int .i64 t, .int .u64 st, .int .u64 sm]
            have hB := below_setCells (by omega : w.heap.size ≤ A + 1 + 1) [.int .i64 t, .int .u64 st, .int .u64 sm] 0 _ hB
            obtain ⟨Y, hY⟩ : ∃ Y : World, Y = WD.drew.setCells (A + 1 + 1) 0 [.int .i64 t, .int .u64 st, .int .u64 sm] := ⟨_, rfl⟩
            show K _ (WD.drew.setCells (A + 1 + 1) 0 [.int .i64 t, .int .u64 st, .int .u64 sm])
            rw [← hY] at B1 B2 B3 BX hB hO ⊢
            clear hY
            refine hK.out _ _ ⟨BX, B1⟩ (fun hHeld2 => ?_)
            clear hK K hHeld
            have hHeld := hHeld2
            clear hHeld2
            try simp only [Act.put, List.setIfInBounds_toArray, List.set_cons_zero, List.set_cons_succ]
            refine wpAnyH_ready (rs := [3]) (by kernel_rfl) (by simp) ?_
            refine AllReadyH.cons rfl (fun K hK => ?_) AllReadyH.nil
            refine wp_store_mid 38 (.tmp 9) (.tmp 95) rfl (A + 1 + 1 + 1) 0 #[.int .u64 q, .int .u64 zz, .slice (some ⟨R, 0, none⟩) 16 c3] rfl rfl (B3.there _ rfl) (by kernel_rfl) (by simp [Value.oneCell']) ?_
            have hO := own_sets (B := A + 1 + 1 + 1) (by omega) [.int .u64 q, .int .u64 zz, .slice (some ⟨R, 0, none⟩) 16 c3] 0 _ hO
            have B1 := B1.setsO (b2 := A + 1 + 1 + 1) (by omega) 0 [.int .u64 q, .int .u64 zz, .slice (some ⟨R, 0, none⟩) 16 c3]
            have B2 := B2.setsO (b2 := A + 1 + 1 + 1) (by omega) 0 [.int .u64 q, .int .u64 zz, .slice (some ⟨R, 0, none⟩) 16 c3]
            have B3 := B3.sets [.int .u64 q, .int .u64 zz, .slice (some ⟨R, 0, none⟩) 16 c3] rfl
            have BX := BX.setsO (b2 := A + 1 + 1 + 1) hXA.2 0 [.int .u64 q, .int .u64 zz, .slice (some ⟨R, 0, none⟩) 16 c3]
            have hB := below_setCells (by omega : w.heap.size ≤ A + 1 + 1 + 1) [.int .u64 q, .int .u64 zz, .slice (some ⟨R, 0, none⟩) 16 c3] 0 _ hB
            obtain ⟨Z, hZ⟩ : ∃ Z : World, Z = Y.setCells (A + 1 + 1 + 1) 0 [.int .u64 q, .int .u64 zz, .slice (some ⟨R, 0, none⟩) 16 c3] := ⟨_, rfl⟩
            show K _ (Y.setCells (A + 1 + 1 + 1) 0 [.int .u64 q, .int .u64 zz, .slice (some ⟨R, 0, none⟩) 16 c3])
            rw [← hZ] at B1 B2 B3 BX hB hO ⊢
            clear hZ
            refine hK.out _ _ ⟨BX, B1⟩ (fun hHeld2 => ?_)
            clear hK K hHeld
            have hHeld := hHeld2
            clear hHeld2
            try simp only [Act.put, List.setIfInBounds_toArray, List.set_cons_zero, List.set_cons_succ]
            refine wpAnyH_done (by kernel_rfl) ?_ _
            refine NoPanic.normal ?_
            have x0 : Z.cell? ⟨A + 1 + 1, 0, none⟩ = some (.int .i64 t) := B2.cell 0
            have x1 : Z.cell? ⟨A + 1 + 1, 1, none⟩ = some (.int .u64 st) := B2.cell 1
            have x2 : Z.cell? ⟨A + 1 + 1, 2, none⟩ = some (.int .u64 sm) := B2.cell 2
            have y0 : Z.cell? ⟨A + 1 + 1 + 1, 0, none⟩ = some (.int .u64 q) := B3.cell 0
            have y1 : Z.cell? ⟨A + 1 + 1 + 1, 1, none⟩ = some (.int .u64 zz) := B3.cell 1
            have y2 : Z.cell? ⟨A + 1 + 1 + 1, 2, none⟩ = some (.slice (some ⟨R, 0, none⟩) 16 c3) := B3.cell 2
            have hrd : RdI .u64 Z (.slice (some ⟨R, 0, none⟩) 16 c3) zs := by
              have := RdS.of_owns hO (by decide)
              unfold RdI; rwa [HRB3.out.1]
            have HRD3 := Lib.hid hrd
            clear B1 B2 B3 BX hHeld hrd hO HT HX
            go_wp2_with fail
            refine bodyPost_ret (v := .tuple #[.agg #[.int .i64 t, .int .u64 st, .int .u64 sm], .agg #[.int .u64 q, .int .u64 zz, .slice (some ⟨R, 0, none⟩) 16 c3]]) (by simp [results, Try.results77, go_sem, x0, x1, x2, y0, y1, y2]) rfl ?_
            rw [HZ2.out, HZS2.out, HS2.out]
            exact ⟨R, c3, rfl, HRD3.out, by omega, hB⟩
end Go.Proofs.Ytnbjdgjopdeolaa
namespace Go.Proofs.Ytnbjdgjopdeolaa
open Go.RowKit Go.Shelf
set_option linter.unusedSimpArgs false
set_option linter.unusedVariables false
set_option maxRecDepth 100000

theorem stF_ref {c : Cf} {cs : List Ct} {st : Int} {xs : List Int} {now : Int} (hpl : planChk cs = (0, 0)) (hw : c.wd ≤ 1099511627776) (h0 : 0 ≤ st ∧ st ≤ 1099511627776) (hr : Rb xs) (m : Nat) :
    (nxR cs c.nd c.wd (now + m) (stF c cs st xs now m).2 16).sum = (lvl c cs st xs now m).rv ∧
    (mvR cs c.nd (now + m) (stF c cs st xs now m).1 (nxR cs c.nd c.wd (now + m) (stF c cs st xs now m).2 16) 16).1 - min (mvR cs c.nd (now + m) (stF c cs st xs now m).1 (nxR cs c.nd c.wd (now + m) (stF c cs st xs now m).2 16) 16).1 (sumK cs c.nd (now + m) 16) = (stF c cs st xs now (m + 1)).1 ∧
    (mvR cs c.nd (now + m) (stF c cs st xs now m).1 (nxR cs c.nd c.wd (now + m) (stF c cs st xs now m).2 16) 16).2 = (stF c cs st xs now (m + 1)).2 := by
  have hz := step_of_planChk hpl
  obtain ⟨h1, h2, h3⟩ := stF_b (q := 0) hz hw h0 hr (now := now) m
  have n1 := nxK_rb hz (nd := c.nd) (t := now + m) hw h1 _ (Nat.le_refl _)
  have e1 := nx_eq hz (nd := c.nd) (wd := c.wd) (t := now + m) h1.1
  have e2 := mv_eq hz (nd := c.nd) (t := now + m) (st := (stF c cs st xs now m).1) n1.1 (fun i hi => (n1.2 i hi).1)
  have e3 := outK_eq hpl c.nd (now + m)
  have hs : stF c cs st xs now (m + 1) = ((mvK cs c.nd (now + m) (stF c cs st xs now m).1 (nxK cs c.nd c.wd (now + m) (stF c cs st xs now m).2 cs.length) cs.length).1 - min (mvK cs c.nd (now + m) (stF c cs st xs now m).1 (nxK cs c.nd c.wd (now + m) (stF c cs st xs now m).2 cs.length) cs.length).1 (outK cs c.nd (now + m) cs.length), (mvK cs c.nd (now + m) (stF c cs st xs now m).1 (nxK cs c.nd c.wd (now + m) (stF c cs st xs now m).2 cs.length) cs.length).2) := rfl
  rw [hs, ← e1, ← e2, ← e3]
  exact ⟨rfl, rfl, rfl⟩
theorem rlevels_bad (c : Cf) (q st : Int) (rs : Value) (xs : List Int) (cs : List Ct) (v : Value) (now un : Int) (i : Inp q st xs) (hno : Ib now) (hun : Ib un) (er : Int) (he : fck c q st xs cs now un = er) (hne : er ≠ 0) (w : World) (h : RdI .u64 w rs xs) (hp : RdC w v cs) :
    Calls Try.prog 32 #[c.v, Sv q st rs, v, .int .i64 now, .int .i64 un] w fun e w' => e = .returned (.tuple #[.slice none 0 0, .int .i64 er]) ∧ Below w.heap.size w w' := by
  have HR := Lib.hid h
  have HP := Lib.hid hp
  have HE := Lib.hid he
  have d1 : (er != 0) = true := by simpa using hne
  clear h hp he hne
  go_enter Try.func32, Try.ntmps32
  go_wp2_with fail
  refine (rasks_any c q st rs xs cs v now un i hno hun er HE.out _ (HR.out.keep (by repeat (first | assumption | exact Below.refl _ _ | apply Below.al | apply below_drewN | apply Below.drew | refine Below.next ?_ (by assumption)))) (HP.out.keep (by repeat (first | assumption | exact Below.refl _ _ | apply Below.al | apply below_drewN | apply Below.drew | refine Below.next ?_ (by assumption))))).mono ?_
  rintro e w1 ⟨rfl, hb⟩
  have hB : Below w.heap.size w w1 := (by repeat (first | assumption | exact Below.refl _ _ | apply Below.al | apply below_drewN | apply Below.drew | refine Below.next ?_ (by assumption)))
  clear hb
  go_wp2_with fail
  go_ret2
  exact ⟨rfl, hB⟩
/-- what stands at the head of tick m -/
structure RLS (w : World) (A : Nat) (c : Cf) (cs : List Ct) (q st : Int) (xs : List Int) (now : Int) (m : Nat) (o : Value) (W : World) : Prop where
  b0 : BoxN W A 35 #[.int .i64 c.nd, .int .u64 c.qo, .int .u64 c.la, .int .u64 c.wd, .int .u64 c.lo, .int .i64 c.re, .int .i64 c.rm, .int .i64 c.by', .int .i64 c.w0, .int .i64 c.w1, .int .i64 c.w2, .int .i64 c.rn, .int .i64 c.rd, .int .i64 c.bu, .int .i64 c.bl, .int .i64 c.ra]
  b1 : ∃ rv, BoxN W (A + 1) 38 #[.int .u64 q, .int .u64 (stF c cs st xs now m).1, rv] ∧ RdI .u64 W rv (stF c cs st xs now m).2
  own : W.ownsRow (A + 2) 57 3 o (outL (lvs c cs st xs now m)).length (lcs (outL (lvs c cs st xs now m)))
  bel : Below w.heap.size w W
theorem RLS.below {w : World} {A : Nat} {c : Cf} {cs : List Ct} {q st : Int} {xs : List Int} {now : Int} {m : Nat} {o : Value} {W W' : World} (h : RLS w A c cs q st xs now m o W) (hb : Below W.heap.size W W') : RLS w A c cs q st xs now m o W' := by
  obtain ⟨rv, h1, h2⟩ := h.b1
  exact ⟨h.b0.below hb, ⟨rv, h1.below hb, h2.keep hb⟩, own_keep hb h.own, Below.next h.bel hb⟩
theorem BoxN.set0 {w : World} {b : Nat} {T : TypeId} {x y z : Value} (h : BoxN w b T #[x, y, z]) (u : Value) : BoxN (w.setCell ⟨b, 0, none⟩ u) b T #[u, y, z] := by
  unfold BoxN at *
  simp [World.setCell, Array.getElem?_modify, h]
theorem BoxN.belowB {W W' : World} {n B : Nat} {t : TypeId} {vs : Array Value} (h : BoxN W B t vs) (hb : Below n W W') (hB : B < n) : BoxN W' B t vs := (hb.block B hB).trans h
theorem own_setB {w : World} {base : Nat} {e : TypeId} {size : Nat} {v : Value} {n : Nat} {xs : List Value} {B : Nat} (h : w.ownsRow base e size v n xs) (hne : ∀ g, v.ownBlock = some g → g ≠ B) (o : Nat) (x : Value) : (w.setCell ⟨B, o, none⟩ x).ownsRow base e size v n xs := by
  have h' := h
  obtain ⟨hl, ⟨hv, hn⟩ | ⟨g, cap, cur, hv, _⟩⟩ := h'
  · exact ⟨hl, .inl ⟨hv, hn⟩⟩
  · subst hv
    exact own_other h (hne g rfl) o x
theorem RdS.grown {w w' : World} {size : Nat} {v : Value} {n : Nat} {cs : List Value} {row : Option Nat} (h : RdS w size v n cs) (hg : w.grownBy w' row) (hne : ∀ a m c, v = .slice (some a) m c → some a.block ≠ row) : RdS w' size v n cs := by
  obtain ⟨h1, h0, h2⟩ := h
  refine ⟨h1, h0, ?_⟩
  rcases h2 with h2 | ⟨b, off, cap, hv, hc, hr⟩
  · exact .inl h2
  · refine .inr ⟨b, off, cap, hv, hc, fun j u hj => ?_⟩
    have hj' := hr j u hj
    rw [← hj']
    exact World.cell?_of_block (w := w) (hg.block b (cell_lt hj') (hne _ _ _ hv))
theorem wp_drewN {P : Program} {c : Code} {Q : Exit → Act → World → Prop} {a : Act} {W : World} {n : Nat} (h : ∀ W', Below W.heap.size W W' → c.wp P Q a W') : c.wp P Q a (W.drewN n) := h _ (below_drewN (Below.refl _ _) n)
theorem lvc_one (x : Lv) : ∀ u ∈ x.cells, u.oneCell' = true := by
  intro u hu
  simp [Lv.cells] at hu
  rcases hu with rfl | rfl | rfl <;> rfl
set_option maxHeartbeats 4000000 in
theorem rlevels_ok (c : Cf) (q st : Int) (rs : Value) (xs : List Int) (cs : List Ct) (v : Value) (now un : Int) (i : Inp q st xs) (hno : Ib now) (hun : Ib un) (he : fck c q st xs cs now un = 0) (w : World) (h : RdI .u64 w rs xs) (hp : RdC w v cs) :
    Calls Try.prog 32 #[c.v, Sv q st rs, v, .int .i64 now, .int .i64 un] w (LR w (lvO c cs st xs now (un - now).toNat) 0) := by
  obtain ⟨hc1, hc2, hpl, hn1, hn2, hn3, hn4⟩ := fck_zero he
  obtain ⟨hrb, hs0, hs1⟩ := chk_zero hc2 i
  obtain ⟨M, hM⟩ : ∃ M : Nat, un = now + M := ⟨(un - now).toNat, by omega⟩
  subst hM
  rw [show (now + (M : Int) - now).toNat = M by omega]
  have hM1 : M ≤ 1000 := by omega
  have HWD := Lib.hid hc1.2.2
  have HR := Lib.hid h
  have HP := Lib.hid hp
  have HE := Lib.hid he
  have HPL := Lib.hid hpl
  have HRB := Lib.hid hrb
  have HSB : Hid (∀ m : Nat, m ≤ M → Rb (stF c cs st xs now m).2 ∧ 0 ≤ (stF c cs st xs now m).1 ∧ (stF c cs st xs now m).1 ≤ 1152921504606846976) := fun m hm => by
    obtain ⟨h1, h2, h3⟩ := stF_b (q := 0) (step_of_planChk hpl) hc1.2.2 ⟨hs0, hs1⟩ hrb (now := now) m
    exact ⟨h1, h2, by omega⟩
  have HREF : Hid (∀ m : Nat, (nxR cs c.nd c.wd (now + m) (stF c cs st xs now m).2 16).sum = (lvl c cs st xs now m).rv ∧
    (mvR cs c.nd (now + m) (stF c cs st xs now m).1 (nxR cs c.nd c.wd (now + m) (stF c cs st xs now m).2 16) 16).1 - min (mvR cs c.nd (now + m) (stF c cs st xs now m).1 (nxR cs c.nd c.wd (now + m) (stF c cs st xs now m).2 16) 16).1 (sumK cs c.nd (now + m) 16) = (stF c cs st xs now (m + 1)).1 ∧
    (mvR cs c.nd (now + m) (stF c cs st xs now m).1 (nxR cs c.nd c.wd (now + m) (stF c cs st xs now m).2 16) 16).2 = (stF c cs st xs now (m + 1)).2) := fun m => stF_ref hpl hc1.2.2 ⟨hs0, hs1⟩ hrb m
  clear h hp he hpl hn3 hn4 hc2 hrb hc1
  go_enter Try.func32, Try.ntmps32
  go_wp2_with fail
  obtain ⟨A, hA⟩ : ∃ A, A = w.heap.size := ⟨_, rfl⟩
  obtain ⟨V1, hV1⟩ : ∃ V : World, V = w.alloc (.cells #[.int .i64 c.nd, .int .u64 c.qo, .int .u64 c.la, .int .u64 c.wd, .int .u64 c.lo, .int .i64 c.re, .int .i64 c.rm, .int .i64 c.by', .int .i64 c.w0, .int .i64 c.w1, .int .i64 c.w2, .int .i64 c.rn, .int .i64 c.rd, .int .i64 c.bu, .int .i64 c.bl, .int .i64 c.ra] 35) := ⟨_, rfl⟩
  obtain ⟨V2, hV2⟩ : ∃ V : World, V = V1.alloc (.cells #[.int .u64 q, .int .u64 st, rs] 38) := ⟨_, rfl⟩
  rw [← hV1, ← hV2, ← hA]
  have s1 : V1.heap.size = A + 1 := by rw [hV1, hA]; simp
  have s2 : V2.heap.size = A + 2 := by rw [hV2]; simp [s1]
  have b0 : BoxN V2 A 35 #[.int .i64 c.nd, .int .u64 c.qo, .int .u64 c.la, .int .u64 c.wd, .int .u64 c.lo, .int .i64 c.re, .int .i64 c.rm, .int .i64 c.by', .int .i64 c.w0, .int .i64 c.w1, .int .i64 c.w2, .int .i64 c.rn, .int .i64 c.rd, .int .i64 c.bu, .int .i64 c.bl, .int .i64 c.ra] := by
    have := BoxN.new w 35 #[.int .i64 c.nd, .int .u64 c.qo, .int .u64 c.la, .int .u64 c.wd, .int .u64 c.lo, .int .i64 c.re, .int .i64 c.rm, .int .i64 c.by', .int .i64 c.w0, .int .i64 c.w1, .int .i64 c.w2, .int .i64 c.rn, .int .i64 c.rd, .int .i64 c.bu, .int .i64 c.bl, .int .i64 c.ra]
    rw [← hV1, ← hA] at this
    rw [hV2]; exact this.alloc _
  have b1 : BoxN V2 (A + 1) 38 #[.int .u64 q, .int .u64 st, rs] := by
    have := BoxN.new V1 38 #[.int .u64 q, .int .u64 st, rs]
    rw [← hV2, s1] at this
    exact this
  have hB : Below w.heap.size w V2 := by rw [hV2, hV1]; exact (by repeat (first | assumption | exact Below.refl _ _ | apply Below.al | apply below_drewN | apply Below.drew | refine Below.next ?_ (by assumption)))
  have hAw : w.heap.size ≤ A := by omega
  clear hV1 hV2 s1 hA
  refine (rasks_any c q st rs xs cs v now (now + M) i hno hun 0 HE.out _ (HR.out.keep hB) (HP.out.keep hB)).mono ?_
  rintro e w1 ⟨rfl, hb⟩
  have h0 : RLS w A c cs q st xs now 0 (.slice none 0 0) w1 := ⟨b0.below hb, ⟨rs, b1.below hb, HR.out.keep (Below.next hB hb)⟩, ⟨rfl, .inl ⟨rfl, rfl⟩⟩, Below.next hB hb⟩
  have H0 := Lib.hid h0
  clear b0 b1 hb hB h0 s2
  go_wp2_with fail
  go_loopw [13, 14] (fun o t wr => ∃ m : Nat, m ≤ M ∧ t = .int .i64 (now + m) ∧ RLS w A c cs q st xs now m o wr) (fun _ t _ => (now + M - intOf t).toNat)
  case atStart => exact ⟨0, Nat.zero_le _, by go_num, H0.out⟩
  case round =>
    clear H0
    obtain ⟨m, hm, rfl, hL⟩ := hrel
    obtain ⟨b0, ⟨rv, b1, hrv⟩, hown, hBW⟩ := hL
    obtain ⟨hrbm, hst0, hst1⟩ := HSB.out m hm
    by_cases hlt : m < M
    · have d1 : decide (now + (m : Int) < now + (M : Int)) = true := yb (by omega)
      go_upto_region 9 with fail
      obtain ⟨X, hX⟩ : ∃ X, X = wr.heap.size := ⟨_, rfl⟩
      obtain ⟨W1, hW1⟩ : ∃ W : World, W = wr.alloc (.cells #[.int .i64 0, .int .u64 0, .int .u64 0] 57) := ⟨_, rfl⟩
      rw [← hW1, ← hX]
      have hba : Below wr.heap.size wr W1 := by rw [hW1]; exact Below.al (Below.refl _ _) _
      have bX : BoxN W1 X 57 #[.int .i64 0, .int .u64 0, .int .u64 0] := by rw [hW1, hX]; exact BoxN.new wr _ _
      have hAX : A + 1 < X := by have := b1.lt; omega
      have hgX : ∀ g, u13.ownBlock = some g → A + 2 ≤ g ∧ g < X := fun g hg => by
        have := World.ownsRow.lt hown g hg
        omega
      have b0 := b0.below hba
      have b1 := b1.below hba
      have hrv := hrv.keep hba
      have hown := own_keep hba hown
      have hBW := Below.next hBW hba
      have HOWN := Lib.hid hown
      have HRV := Lib.hid hrv
      have HRBM := Lib.hid hrbm
      have HGX := Lib.hid hgX
      have HB0 := Lib.hid b0
      have HB1 := Lib.hid b1
      have HBX := Lib.hid bX
      have HBW := Lib.hid hBW
      clear hX hW1 hba hgX hown hrv hrbm b0 b1 bX hBW
      have a0 : W1.cell? ⟨A, 0, none⟩ = some (.int .i64 c.nd) := BoxN.cell HB0.out 0
      have a1 : W1.cell? ⟨A, 1, none⟩ = some (.int .u64 c.qo) := BoxN.cell HB0.out 1
      have a2 : W1.cell? ⟨A, 2, none⟩ = some (.int .u64 c.la) := BoxN.cell HB0.out 2
      have a3 : W1.cell? ⟨A, 3, none⟩ = some (.int .u64 c.wd) := BoxN.cell HB0.out 3
      have a4 : W1.cell? ⟨A, 4, none⟩ = some (.int .u64 c.lo) := BoxN.cell HB0.out 4
      have a5 : W1.cell? ⟨A, 5, none⟩ = some (.int .i64 c.re) := BoxN.cell HB0.out 5
      have a6 : W1.cell? ⟨A, 6, none⟩ = some (.int .i64 c.rm) := BoxN.cell HB0.out 6
      have a7 : W1.cell? ⟨A, 7, none⟩ = some (.int .i64 c.by') := BoxN.cell HB0.out 7
      have a8 : W1.cell? ⟨A, 8, none⟩ = some (.int .i64 c.w0) := BoxN.cell HB0.out 8
      have a9 : W1.cell? ⟨A, 9, none⟩ = some (.int .i64 c.w1) := BoxN.cell HB0.out 9
      have a10 : W1.cell? ⟨A, 10, none⟩ = some (.int .i64 c.w2) := BoxN.cell HB0.out 10
      have a11 : W1.cell? ⟨A, 11, none⟩ = some (.int .i64 c.rn) := BoxN.cell HB0.out 11
      have a12 : W1.cell? ⟨A, 12, none⟩ = some (.int .i64 c.rd) := BoxN.cell HB0.out 12
      have a13 : W1.cell? ⟨A, 13, none⟩ = some (.int .i64 c.bu) := BoxN.cell HB0.out 13
      have a14 : W1.cell? ⟨A, 14, none⟩ = some (.int .i64 c.bl) := BoxN.cell HB0.out 14
      have a15 : W1.cell? ⟨A, 15, none⟩ = some (.int .i64 c.ra) := BoxN.cell HB0.out 15
      have e0 : W1.cell? ⟨A + 1, 0, none⟩ = some (.int .u64 q) := HB1.out.cell 0
      have e1 : W1.cell? ⟨A + 1, 1, none⟩ = some (.int .u64 (stF c cs st xs now m).1) := HB1.out.cell 1
      have e2 : W1.cell? ⟨A + 1, 2, none⟩ = some rv := HB1.out.cell 2
      go_wp2_with fail
      clear a0 a1 a2 a3 a4 a5 a6 a7 a8 a9 a10 a11 a12 a13 a14 a15 e0 e1 e2
      refine (rtickF_any c q _ rv _ cs v (now + m) HPL.out HWD.out HRBM.out ⟨hst0, hst1⟩ W1 HRV.out (HP.out.keep HBW.out)).mono ?_
      rw [(HREF.out m).1, (HREF.out m).2.1, (HREF.out m).2.2]
      rintro e w2 ⟨R, cap, rfl, hrd, hRlo, hb⟩
      have hHS : Hid (outL (lvs c cs st xs now (m + 1)) = addL (outL (lvs c cs st xs now m)) (lvl c cs st xs now m)) := outL_snoc _ _
      have hXW : X < W1.heap.size := HBX.out.lt
      have b0 := HB0.out.below hb
      have b1 := HB1.out.below hb
      have bX := HBX.out.below hb
      have hown := own_keep hb HOWN.out
      have hBW := Below.next HBW.out hb
      obtain ⟨x, hx⟩ : ∃ x, lvl c cs st xs now m = x := ⟨_, rfl⟩
      have hxt : x.tk = now + m := by rw [← hx]; rfl
      have hxs : x.st = (stF c cs st xs now m).1 := by rw [← hx]; rfl
      rw [hx] at hHS ⊢
      rw [← hxt, ← hxs]
      have hxb : 0 ≤ x.tk ∧ x.tk < 1099511627776 := by omega
      have hwt : IntKind.i64.wrap (x.tk + 1) = x.tk + 1 := IntWalk.i64_in _ (by omega)
      have HXT : Hid (x.tk + 1 = now + ((m + 1 : Nat) : Int)) := by unfold Hid; push_cast; omega
      obtain ⟨ls, hls⟩ : ∃ ls, outL (lvs c cs st xs now m) = ls := ⟨_, rfl⟩
      have hlen := outL_len (lvs c cs st xs now m)
      rw [lvs_len, hls] at hlen
      rw [hls] at hown hHS
      obtain ⟨st1, HST1⟩ : ∃ s, Hid ((stF c cs st xs now (m + 1)).1 = s) := ⟨_, rfl⟩
      obtain ⟨xs1, HXS1⟩ : ∃ s, Hid ((stF c cs st xs now (m + 1)).2 = s) := ⟨_, rfl⟩
      rw [HXS1.out] at hrd
      rw [HST1.out]
      have k0 : w2.cell? ⟨X, 0, none⟩ = some (.int .i64 0) := bX.cell 0
      have k1 : w2.cell? ⟨X, 1, none⟩ = some (.int .u64 0) := bX.cell 1
      have k2 : w2.cell? ⟨X, 2, none⟩ = some (.int .u64 0) := bX.cell 2
      have g0 : w2.frozen? ⟨X, 0, none⟩ = false := bX.frozen 0
      have g1 : w2.frozen? ⟨X, 1, none⟩ = false := bX.frozen 1
      have g2 : w2.frozen? ⟨X, 2, none⟩ = false := bX.frozen 2
      have e0 : w2.cell? ⟨A + 1, 0, none⟩ = some (.int .u64 q) := b1.cell 0
      have e1 : w2.cell? ⟨A + 1, 1, none⟩ = some (.int .u64 (stF c cs st xs now m).1) := b1.cell 1
      have e2 : w2.cell? ⟨A + 1, 2, none⟩ = some rv := b1.cell 2
      have f0 : w2.frozen? ⟨A + 1, 0, none⟩ = false := b1.frozen 0
      have f1 : w2.frozen? ⟨A + 1, 1, none⟩ = false := b1.frozen 1
      have f2 : w2.frozen? ⟨A + 1, 2, none⟩ = false := b1.frozen 2
      have hne1 : X ≠ A + 1 := by omega
      have hne2 : A + 1 ≠ X := by omega
      have HQ0 := Lib.hid b0
      have HQ1 := Lib.hid b1
      have HQX := Lib.hid bX
      have HOWN := Lib.hid hown
      have HRD := Lib.hid hrd
      have HBW := Lib.hid hBW
      clear HB0 HB1 HBX b0 b1 bX hown hrd hBW hb hx hls hxt hxs HRV HRBM
      go_upto_region 10 with fail
      obtain ⟨W6, hW6⟩ : ∃ W6 : World, W6 = ((((((w2.setCell ⟨X, 0, none⟩ (.int .i64 x.tk)).setCell ⟨X, 1, none⟩ (.int .u64 x.st)).setCell ⟨X, 2, none⟩ (.int .u64 x.rv)).setCell ⟨A + 1, 0, none⟩ (.int .u64 q)).setCell ⟨A + 1, 1, none⟩ (.int .u64 st1)).setCell ⟨A + 1, 2, none⟩ (.slice (some ⟨R, 0, none⟩) 16 cap)) := ⟨_, rfl⟩
      rw [← hW6]
      have qx : BoxN W6 X 57 #[.int .i64 x.tk, .int .u64 x.st, .int .u64 x.rv] := by
        rw [hW6]
        exact (((HQX.out.set3 (.int .i64 x.tk) (.int .u64 x.st) (.int .u64 x.rv)).setO (by show X ≠ A + 1; omega) _).setO (by show X ≠ A + 1; omega) _).setO (by show X ≠ A + 1; omega) _
      have q1 : BoxN W6 (A + 1) 38 #[.int .u64 q, .int .u64 st1, .slice (some ⟨R, 0, none⟩) 16 cap] := by
        rw [hW6]
        exact BoxN.set3 (((HQ1.out.setO (by show A + 1 ≠ X; omega) _).setO (by show A + 1 ≠ X; omega) _).setO (by show A + 1 ≠ X; omega) _) _ _ _
      have q0 : BoxN W6 A 35 #[.int .i64 c.nd, .int .u64 c.qo, .int .u64 c.la, .int .u64 c.wd, .int .u64 c.lo, .int .i64 c.re, .int .i64 c.rm, .int .i64 c.by', .int .i64 c.w0, .int .i64 c.w1, .int .i64 c.w2, .int .i64 c.rn, .int .i64 c.rd, .int .i64 c.bu, .int .i64 c.bl, .int .i64 c.ra] := by
        rw [hW6]
        exact (((((HQ0.out.setO (by show A ≠ X; omega) _).setO (by show A ≠ X; omega) _).setO (by show A ≠ X; omega) _).setO (by show A ≠ A + 1; omega) _).setO (by show A ≠ A + 1; omega) _).setO (by show A ≠ A + 1; omega) _
      have hfr : Fresh W1.heap.size (.slice (some ⟨R, 0, none⟩) 16 cap) := fun a n c e => by
        simp only [Value.slice.injEq, Option.some.injEq] at e
        obtain ⟨rfl, _, _⟩ := e
        exact hRlo
      have qr : RdI .u64 W6 (.slice (some ⟨R, 0, none⟩) 16 cap) xs1 := by
        rw [hW6]
        exact RdI.set _ (RdI.set _ (RdI.set _ (RdI.set _ (RdI.set _ (RdI.set _ HRD.out hfr (by show X < W1.heap.size; omega)) hfr (by show X < W1.heap.size; omega)) hfr (by show X < W1.heap.size; omega)) hfr (by show A + 1 < W1.heap.size; omega)) hfr (by show A + 1 < W1.heap.size; omega)) hfr (by show A + 1 < W1.heap.size; omega)
      have nX : ∀ g, u13.ownBlock = some g → g ≠ X := fun g hg => by have := HGX.out g hg; omega
      have nA : ∀ g, u13.ownBlock = some g → g ≠ A + 1 := fun g hg => by have := HGX.out g hg; omega
      have qo : W6.ownsRow (A + 2) 57 3 u13 ls.length (lcs ls) := by
        rw [hW6]
        exact own_setB (own_setB (own_setB (own_setB (own_setB (own_setB HOWN.out nX _ _) nX _ _) nX _ _) nA _ _) nA _ _) nA _ _
      have qB : Below w.heap.size w W6 := by
        rw [hW6]
        exact (((((HBW.out.setCell (by show w.heap.size ≤ X; omega) _).setCell (by show w.heap.size ≤ X; omega) _).setCell (by show w.heap.size ≤ X; omega) _).setCell (by show w.heap.size ≤ A + 1; omega) _).setCell (by show w.heap.size ≤ A + 1; omega) _).setCell (by show w.heap.size ≤ A + 1; omega) _
      have HRG : Hid (some R ≠ u13.ownBlock) := by
        unfold Hid
        intro h
        have := HGX.out R h.symm
        omega
      obtain ⟨va, vc, rfl⟩ := owns_form qo
      obtain ⟨nn, hnn⟩ : ∃ nn, ls.length = nn := ⟨_, rfl⟩
      rw [hnn] at qo hlen HRG
      have HNN := Lib.hid hnn
      rw [hnn]
      have H6 : BoxN W6 A 35 #[.int .i64 c.nd, .int .u64 c.qo, .int .u64 c.la, .int .u64 c.wd, .int .u64 c.lo, .int .i64 c.re, .int .i64 c.rm, .int .i64 c.by', .int .i64 c.w0, .int .i64 c.w1, .int .i64 c.w2, .int .i64 c.rn, .int .i64 c.rd, .int .i64 c.bu, .int .i64 c.bl, .int .i64 c.ra] ∧ BoxN W6 (A + 1) 38 #[.int .u64 q, .int .u64 st1, .slice (some ⟨R, 0, none⟩) 16 cap] ∧ BoxN W6 X 57 #[.int .i64 x.tk, .int .u64 x.st, .int .u64 x.rv] ∧ RdI .u64 W6 (.slice (some ⟨R, 0, none⟩) 16 cap) xs1 ∧ W6.ownsRow (A + 2) 57 3 (.slice va nn vc) nn (lcs ls) ∧ Below w.heap.size w W6 := ⟨q0, q1, qx, qr, qo, qB⟩
      have x0 : W6.cell? ⟨X, 0, none⟩ = some (.int .i64 x.tk) := qx.cell 0
      have x1 : W6.cell? ⟨X, 1, none⟩ = some (.int .u64 x.st) := qx.cell 1
      have x2 : W6.cell? ⟨X, 2, none⟩ = some (.int .u64 x.rv) := qx.cell 2
      have HH6 := Lib.hid H6
      clear hW6 q0 q1 qx qr qo qB hfr nX nA hnn H6 HQ0 HQ1 HQX HOWN HRD HBW k0 k1 k2 g0 g1 g2 e0 e1 e2 f0 f1 f2
      have H6 := HH6.out
      by_cases hn : 0 < nn
      · obtain ⟨i, hi⟩ : ∃ i : Nat, nn = i + 1 := ⟨nn - 1, by omega⟩
        have hRd : RdL W6 (.slice va nn vc) ls := by unfold RdL; rw [HNN.out]; exact RdS.of_owns H6.2.2.2.2.1 (by decide)
        obtain ⟨b, off, rfl, hcap, hla⟩ := RdL.at hRd HNN.out i (by omega)
        obtain ⟨y, hy⟩ : ∃ y, ls.getD i lv0 = y := ⟨_, rfl⟩
        rw [hy] at hla
        have HLS2 : Hid (outL (lvs c cs st xs now (m + 1)) = if y.st = x.st ∧ y.rv = x.rv then ls else ls ++ [x]) := by
          unfold Hid
          rw [hHS.out]
          unfold addL
          rw [HNN.out, show nn - 1 = i by omega, hy]
          congr 1
          simp only [eq_iff_iff]
          exact ⟨fun h => h.2, fun h => ⟨hn, h⟩⟩
        have g0 : ((nn : Int) == 0) = false := by simp; omega
        have g0' : (nn == 0) = false := by simp; omega
        have hwn : IntKind.i64.wrap ((nn : Int) - 1) = (i : Int) := by rw [show (nn : Int) - 1 = (i : Int) by omega]; exact IntWalk.i64_in _ (by omega)
        have hwi : IntKind.i64.wrap (i : Int) = (i : Int) := IntWalk.i64_in _ (by omega)
        have hi0 : (0 : Int) ≤ (i : Int) := by omega
        have hi1 : (i : Int) < (nn : Int) := by omega
        obtain ⟨l0, l1, l2⟩ := hla
        clear hi hRd hy hHS hn l0
        by_cases h1 : y.st = x.st
        · have d2 : (y.st == x.st) = true := by simp [h1]
          have d2' : (y.st != x.st) = false := by simp [h1]
          by_cases h2 : y.rv = x.rv
          · have d3 : (y.rv == x.rv) = true := by simp [h2]
            have d3' : (y.rv != x.rv) = false := by simp [h2]
            have hls := HLS2.out
            rw [if_pos ⟨h1, h2⟩] at hls
            have HLS := Lib.hid hls
            clear h1 h2 hls HLS2
            go_wp2_with fail
            go_quiet (fail)
            go_wp2_with fail
            go_roundw
            case rel =>
              refine ⟨m + 1, by omega, by rw [HXT.out], RLS.below ?_ (below_drewN (Below.refl _ _) _)⟩
              refine ⟨H6.1, ⟨_, by rw [HST1.out]; exact H6.2.1, by rw [HXS1.out]; exact H6.2.2.2.1⟩, ?_, H6.2.2.2.2.2⟩
              rw [HLS.out, HNN.out]
              exact H6.2.2.2.2.1
            case measure => simp [intOf]; have := HXT.out; omega
          · have d3 : (y.rv == x.rv) = false := by simp [h2]
            have d3' : (y.rv != x.rv) = true := by simp [h2]
            have hls := HLS2.out
            rw [if_neg (fun h => h2 h.2)] at hls
            have HLS := Lib.hid hls
            clear h1 h2 hls HLS2
            go_wp2_with fail
            go_quiet (fail)
            go_upto_region 12 with fail
            refine wp_drewN ?_
            intro wS hS
            obtain ⟨B0, B1, BX, HRD, HOW, HBW⟩ := H6
            have B0 := B0.below hS
            have B1 := B1.below hS
            have BX := BX.below hS
            have HRD := HRD.keep hS
            have HOW := own_keep hS HOW
            have HBW := Below.next HBW hS
            clear hS
            have x0 : wS.cell? ⟨X, 0, none⟩ = some (.int .i64 x.tk) := BX.cell 0
            have x1 : wS.cell? ⟨X, 1, none⟩ = some (.int .u64 x.st) := BX.cell 1
            have x2 : wS.cell? ⟨X, 2, none⟩ = some (.int .u64 x.rv) := BX.cell 2
            have HOWN1 := Lib.hid (HOW.alloc (.cells #[.int .i64 x.tk, .int .u64 x.st, .int .u64 x.rv] 57))
            have HR1 : Hid (RdS (wS.alloc (.cells #[.int .i64 x.tk, .int .u64 x.st, .int .u64 x.rv] 57)) 3 (.slice (some ⟨wS.heap.size, 0, none⟩) 1 1) 1 x.cells) := rdS_box 3 1 x.cells (BoxN.new wS _ _) rfl (by decide)
            have HB0 := Lib.hid B0
            have HB1 := Lib.hid B1
            have HRDh := Lib.hid HRD
            have HBWh := Lib.hid HBW
            have hXS : X < wS.heap.size := BX.lt
            clear B0 B1 BX HRD HOW HBW
            go_wp2_with (at_builtin; refine wpList_app rfl (.tmp 66) (.tmp 68) 45 rfl (A + 2) 57 _ 3 24 ELv _ nn (lcs ls) rfl HOWN1.out _ 1 x.cells rfl HR1.out (lvc_one x) ?_ ?_ ?_ ?_)
            · unfold maxLen; omega
            · omega
            · simp; omega
            intro a3 c3 w3 hown3 hg3 hb3
            have hb4 : Below (A + 2) wS w3 := ((Below.refl (A + 2) wS).alloc (by omega) _).trans hb3
            have hRd3 : RdI .u64 w3 (.slice (some ⟨R, 0, none⟩) 16 cap) xs1 := by
              have := HRDh.out.keep (Below.al (Below.refl _ wS) (.cells #[.int .i64 x.tk, .int .u64 x.st, .int .u64 x.rv] 57))
              exact RdS.grown this hg3 (fun a m c e h => by
                simp only [Value.slice.injEq, Option.some.injEq] at e
                obtain ⟨rfl, _, _⟩ := e
                exact HRG.out h)
            have hL3 : RLS w A c cs q st xs now (m + 1) (.slice a3 (nn + 1) c3) w3 := by
              refine ⟨HB0.out.belowB hb4 (by omega), ⟨_, by rw [HST1.out]; exact HB1.out.belowB hb4 (by omega), by rw [HXS1.out]; exact hRd3⟩, ?_, HBWh.out.trans (hb4.mono (by omega))⟩
              rw [HLS.out, List.length_append, HNN.out, lcs_snoc]
              exact hown3
            have HL3 := Lib.hid hL3
            clear hown3 hg3 hb3 hb4 hRd3 hL3 x0 x1 x2
            go_wp2_with fail
            go_roundw
            case rel => exact ⟨m + 1, by omega, by rw [HXT.out], HL3.out⟩
            case measure => simp [intOf]; have := HXT.out; omega
        · have d2 : (y.st == x.st) = false := by simp [h1]
          have d2' : (y.st != x.st) = true := by simp [h1]
          have hls := HLS2.out
          rw [if_neg (fun h => h1 h.1)] at hls
          have HLS := Lib.hid hls
          clear h1 hls HLS2
          go_wp2_with fail
          go_quiet (fail)
          go_upto_region 12 with fail
          refine wp_drewN ?_
          intro wS hS
          obtain ⟨B0, B1, BX, HRD, HOW, HBW⟩ := H6
          have B0 := B0.below hS
          have B1 := B1.below hS
          have BX := BX.below hS
          have HRD := HRD.keep hS
          have HOW := own_keep hS HOW
          have HBW := Below.next HBW hS
          clear hS
          have x0 : wS.cell? ⟨X, 0, none⟩ = some (.int .i64 x.tk) := BX.cell 0
          have x1 : wS.cell? ⟨X, 1, none⟩ = some (.int .u64 x.st) := BX.cell 1
          have x2 : wS.cell? ⟨X, 2, none⟩ = some (.int .u64 x.rv) := BX.cell 2
          have HOWN1 := Lib.hid (HOW.alloc (.cells #[.int .i64 x.tk, .int .u64 x.st, .int .u64 x.rv] 57))
          have HR1 : Hid (RdS (wS.alloc (.cells #[.int .i64 x.tk, .int .u64 x.st, .int .u64 x.rv] 57)) 3 (.slice (some ⟨wS.heap.size, 0, none⟩) 1 1) 1 x.cells) := rdS_box 3 1 x.cells (BoxN.new wS _ _) rfl (by decide)
          have HB0 := Lib.hid B0
          have HB1 := Lib.hid B1
          have HRDh := Lib.hid HRD
          have HBWh := Lib.hid HBW
          have hXS : X < wS.heap.size := BX.lt
          clear B0 B1 BX HRD HOW HBW
          go_wp2_with (at_builtin; refine wpList_app rfl (.tmp 66) (.tmp 68) 45 rfl (A + 2) 57 _ 3 24 ELv _ nn (lcs ls) rfl HOWN1.out _ 1 x.cells rfl HR1.out (lvc_one x) ?_ ?_ ?_ ?_)
          · unfold maxLen; omega
          · omega
          · simp; omega
          intro a3 c3 w3 hown3 hg3 hb3
          have hb4 : Below (A + 2) wS w3 := ((Below.refl (A + 2) wS).alloc (by omega) _).trans hb3
          have hRd3 : RdI .u64 w3 (.slice (some ⟨R, 0, none⟩) 16 cap) xs1 := by
            have := HRDh.out.keep (Below.al (Below.refl _ wS) (.cells #[.int .i64 x.tk, .int .u64 x.st, .int .u64 x.rv] 57))
            exact RdS.grown this hg3 (fun a m c e h => by
              simp only [Value.slice.injEq, Option.some.injEq] at e
              obtain ⟨rfl, _, _⟩ := e
              exact HRG.out h)
          have hL3 : RLS w A c cs q st xs now (m + 1) (.slice a3 (nn + 1) c3) w3 := by
            refine ⟨HB0.out.belowB hb4 (by omega), ⟨_, by rw [HST1.out]; exact HB1.out.belowB hb4 (by omega), by rw [HXS1.out]; exact hRd3⟩, ?_, HBWh.out.trans (hb4.mono (by omega))⟩
            rw [HLS.out, List.length_append, HNN.out, lcs_snoc]
            exact hown3
          have HL3 := Lib.hid hL3
          clear hown3 hg3 hb3 hb4 hRd3 hL3 x0 x1 x2
          go_wp2_with fail
          go_roundw
          case rel => exact ⟨m + 1, by omega, by rw [HXT.out], HL3.out⟩
          case measure => simp [intOf]; have := HXT.out; omega
      · have g0 : ((nn : Int) == 0) = true := by simp; omega
        have g0' : (nn == 0) = true := by simp; omega
        have HLS : Hid (outL (lvs c cs st xs now (m + 1)) = ls ++ [x]) := by
          unfold Hid
          rw [hHS.out]
          exact if_neg (fun h => by have := HNN.out; omega)
        clear hn hHS
        go_wp2_with fail
        go_quiet (fail)
        go_upto_region 12 with fail
        refine wp_drewN ?_
        intro wS hS
        obtain ⟨B0, B1, BX, HRD, HOW, HBW⟩ := H6
        have B0 := B0.below hS
        have B1 := B1.below hS
        have BX := BX.below hS
        have HRD := HRD.keep hS
        have HOW := own_keep hS HOW
        have HBW := Below.next HBW hS
        clear hS
        have x0 : wS.cell? ⟨X, 0, none⟩ = some (.int .i64 x.tk) := BX.cell 0
        have x1 : wS.cell? ⟨X, 1, none⟩ = some (.int .u64 x.st) := BX.cell 1
        have x2 : wS.cell? ⟨X, 2, none⟩ = some (.int .u64 x.rv) := BX.cell 2
        have HOWN1 := Lib.hid (HOW.alloc (.cells #[.int .i64 x.tk, .int .u64 x.st, .int .u64 x.rv] 57))
        have HR1 : Hid (RdS (wS.alloc (.cells #[.int .i64 x.tk, .int .u64 x.st, .int .u64 x.rv] 57)) 3 (.slice (some ⟨wS.heap.size, 0, none⟩) 1 1) 1 x.cells) := rdS_box 3 1 x.cells (BoxN.new wS _ _) rfl (by decide)
        have HB0 := Lib.hid B0
        have HB1 := Lib.hid B1
        have HRDh := Lib.hid HRD
        have HBWh := Lib.hid HBW
        have hXS : X < wS.heap.size := BX.lt
        clear B0 B1 BX HRD HOW HBW
        go_wp2_with (at_builtin; refine wpList_app rfl (.tmp 66) (.tmp 68) 45 rfl (A + 2) 57 _ 3 24 ELv _ nn (lcs ls) rfl HOWN1.out _ 1 x.cells rfl HR1.out (lvc_one x) ?_ ?_ ?_ ?_)
        · unfold maxLen; omega
        · omega
        · simp; omega
        intro a3 c3 w3 hown3 hg3 hb3
        have hb4 : Below (A + 2) wS w3 := ((Below.refl (A + 2) wS).alloc (by omega) _).trans hb3
        have hRd3 : RdI .u64 w3 (.slice (some ⟨R, 0, none⟩) 16 cap) xs1 := by
          have := HRDh.out.keep (Below.al (Below.refl _ wS) (.cells #[.int .i64 x.tk, .int .u64 x.st, .int .u64 x.rv] 57))
          exact RdS.grown this hg3 (fun a m c e h => by
            simp only [Value.slice.injEq, Option.some.injEq] at e
            obtain ⟨rfl, _, _⟩ := e
            exact HRG.out h)
        have hL3 : RLS w A c cs q st xs now (m + 1) (.slice a3 (nn + 1) c3) w3 := by
          refine ⟨HB0.out.belowB hb4 (by omega), ⟨_, by rw [HST1.out]; exact HB1.out.belowB hb4 (by omega), by rw [HXS1.out]; exact hRd3⟩, ?_, HBWh.out.trans (hb4.mono (by omega))⟩
          rw [HLS.out, List.length_append, HNN.out, lcs_snoc]
          exact hown3
        have HL3 := Lib.hid hL3
        clear hown3 hg3 hb3 hb4 hRd3 hL3 x0 x1 x2
        go_wp2_with fail
        go_roundw
        case rel => exact ⟨m + 1, by omega, by rw [HXT.out], HL3.out⟩
        case measure => simp [intOf]; have := HXT.out; omega
    · obtain rfl : m = M := by omega
      have d1 : decide (now + (m : Int) < now + (m : Int)) = false := nb (by omega)
      have HO := Lib.hid hown
      have HBW := Lib.hid hBW
      clear b0 b1 hrv hown hBW
      obtain ⟨va, vc, rfl⟩ := owns_form HO.out
      go_wp2_with fail
      go_ret2
      exact ⟨_, rfl, RdS.of_owns HO.out (by decide), (Fresh.of_owns HO.out).mono (by omega), HBW.out⟩
end Go.Proofs.Ytnbjdgjopdeolaa
