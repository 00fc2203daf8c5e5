

/- Forecast: a box of what is stored and reserved; the level of a tick. -/
import Derived.Test.YtnbjdgjopdeolaaFL
import Derived.Test.YtnbjdgjopdeolaaSA
import Derived.Deep.MidRow
namespace Go.Proofs.Ytnbjdgjopdeolaa
open Go.RowKit
set_option linter.unusedSimpArgs false
set_option linter.unusedVariables false
set_option maxRecDepth 100000

theorem run_index_agg {P : Program} {w : World} (t e : TypeId) (n : Nat) (cs : Array Value) (i : Nat) (v : Value) (h : P.underlying t = some (.array n e)) (hs : ∀ w, (sizeOf e).run P w = .ok 1 w) (ha : ∀ w, (isAgg e).run P w = .ok false w) (hi : i < n) (hv : cs[i]? = some v) :
    (Instr.index t (.agg cs) (.int .i64 i)).run P w = .ok v w := by
  simp [Instr.index, run_underlying h, asIntOf, go_sem, hi, hs, ha, hv]
theorem idx16 (rs : List Int) (hl : rs.length = 16) (k : Nat) (hk : k < 16) (w : World) : (Instr.index 115 (.agg (ic .u64 rs).toArray) (.int .i64 k)).run Try.prog w = .ok (.int .u64 (rs.getD k 0)) w :=
  run_index_agg _ _ 16 _ k _ Try.underlying115 (fun w => by kernel_rfl) (fun w => by kernel_rfl) hk (by have := ic_get .u64 rs k (by omega); simpa using this)

/-- the cells of what is stored and reserved -/
abbrev fcs (st : Int) (rs : List Int) : List Value := .int .u64 st :: ic .u64 rs
theorem fcs_one (st : Int) (rs : List Int) : (fcs st rs).toArray.all (·.oneCell') = true := by
  simp [fcs, Value.oneCell', ic]
theorem fcs_len {rs : List Int} (st : Int) (h : rs.length = 16) : (fcs st rs).length = 17 := by simp [fcs, h]
/-- block b holds what is stored and reserved -/
def FX (w : World) (b : Nat) (st : Int) (rs : List Int) : Prop := rs.length = 16 ∧ w.heap[b]? = some (.cells (fcs st rs).toArray 117 (0, 0))
theorem FX.lt {w : World} {b : Nat} {st : Int} {rs : List Int} (h : FX w b st rs) : b < w.heap.size := (Array.getElem?_eq_some_iff.1 h.2).1
theorem FX.keep {W w1 : World} {b : Nat} {st : Int} {rs : List Int} (hb : Below W.heap.size W w1) (h : FX W b st rs) : FX w1 b st rs := ⟨h.1, by rw [hb.block b h.lt]; exact h.2⟩
theorem FX.c0 {w : World} {b : Nat} {st : Int} {rs : List Int} (h : FX w b st rs) : w.cell? ⟨b, 0, none⟩ = some (.int .u64 st) := by
  simp [World.cell?, h.2]
theorem FX.ci {w : World} {b : Nat} {st : Int} {rs : List Int} (h : FX w b st rs) (i : Nat) (hi : i < 16) : w.cell? ⟨b, 1 + i, none⟩ = some (.int .u64 (rs.getD i 0)) := by
  have := ic_get .u64 rs i (by rw [h.1]; exact hi)
  simp only [World.cell?, h.2]
  rw [show 1 + i = i + 1 by omega]
  simpa using this
theorem FX.fz {w : World} {b : Nat} {st : Int} {rs : List Int} (h : FX w b st rs) (i : Nat) : w.frozen? ⟨b, i, none⟩ = false := by
  simp [World.frozen?, h.2]
theorem FX.arr {w : World} {b : Nat} {st : Int} {rs : List Int} (h : FX w b st rs) : w.rangeAt b 1 (ic .u64 rs) := fun j u hj => by
  have hjl : j < 16 := by have := (List.getElem?_eq_some_iff.1 hj).1; simp [h.1] at this; exact this
  rw [ic_get .u64 rs j (by rw [h.1]; exact hjl)] at hj
  cases hj
  exact h.ci j hjl
theorem FX.all {w : World} {b : Nat} {st : Int} {rs : List Int} (h : FX w b st rs) : w.rangeAt b 0 (fcs st rs) := fun j u hj => by
  simp only [World.cell?, h.2, Nat.zero_add]
  simpa using hj
theorem FX.there {w : World} {b : Nat} {st : Int} {rs : List Int} (h : FX w b st rs) : w.there b 0 17 := fun j hj => by
  refine ⟨?_, h.fz _⟩
  have hl := fcs_len st h.1
  have := h.all j ((fcs st rs)[j]'(by omega)) (List.getElem?_eq_getElem (by omega))
  rw [this]; rfl
theorem FX.set {w : World} {b : Nat} {st : Int} {rs : List Int} (h : FX w b st rs) (k : Nat) (y : Int) : FX (w.setCell ⟨b, 1 + k, none⟩ (.int .u64 y)) b st (rs.set k y) := by
  refine ⟨by simp [h.1], ?_⟩
  simp only [World.setCell, Array.getElem?_modify, if_true, h.2, Option.map_some]
  congr 2
  rw [show 1 + k = k + 1 by omega]
  simp [ic, List.map_set, fcs]
theorem FX.setSt {w : World} {b : Nat} {st : Int} {rs : List Int} (h : FX w b st rs) (y : Int) : FX (w.setCell ⟨b, 0, none⟩ (.int .u64 y)) b y rs := by
  refine ⟨h.1, ?_⟩
  simp [World.setCell, Array.getElem?_modify, h.2, fcs]
theorem setCells_block (b : Nat) (T : TypeId) : ∀ (vs ys : List Value) (o : Nat) (w : World), w.heap[b]? = some (.cells ys.toArray T (0, 0)) → o + vs.length ≤ ys.length →
    (w.setCells b o vs).heap[b]? = some (.cells (ys.take o ++ vs ++ ys.drop (o + vs.length)).toArray T (0, 0))
  | [], ys, o, w, h, hl => by
    rw [World.setCells, List.append_nil, List.length_nil, Nat.add_zero, List.take_append_drop]; exact h
  | v :: vs, ys, o, w, h, hl => by
    have hl' : o + 1 + vs.length ≤ ys.length := by simp at hl; omega
    have h1 : (w.setCell ⟨b, o, none⟩ v).heap[b]? = some (.cells (ys.set o v).toArray T (0, 0)) := by
      simp [World.setCell, Array.getElem?_modify, h]
    have ih := setCells_block b T vs (ys.set o v) (o + 1) _ h1 (by simpa using hl')
    rw [World.setCells, ih]
    congr 3
    have ho : o < ys.length := by simp at hl; omega
    rw [List.drop_set_of_lt (by omega), List.take_succ_eq_append_getElem (by simpa using ho)]
    have e1 : (ys.set o v).take o = ys.take o := by
      refine List.ext_getElem? fun i => ?_
      rw [List.getElem?_take, List.getElem?_take]
      split
      · rw [List.getElem?_set_ne (by omega)]
      · rfl
    rw [e1]
    simp [show o + 1 + vs.length = o + (vs.length + 1) by omega]
theorem setCells_other (b k : Nat) (hne : k ≠ b) : ∀ (vs : List Value) (o : Nat) (w : World), (w.setCells b o vs).heap[k]? = w.heap[k]?
  | [], _, _ => rfl
  | v :: vs, o, w => by rw [World.setCells, setCells_other b k hne vs (o + 1)]; exact Below.heap_setCell w ⟨b, o, none⟩ v k hne
theorem FX.setAll {w : World} {b : Nat} {st st' : Int} {rs rs' : List Int} (h : FX w b st rs) (hl : rs'.length = 16) : FX (w.setCells b 0 (fcs st' rs')) b st' rs' := by
  refine ⟨hl, ?_⟩
  have := setCells_block b _ (fcs st' rs') (fcs st rs) 0 w h.2 (by rw [fcs_len _ hl, fcs_len _ h.1]; omega)
  rw [this]
  rw [List.take_zero, List.nil_append, List.drop_of_length_le (by rw [fcs_len _ hl, fcs_len _ h.1]; omega), List.append_nil]
theorem FX.al {w : World} {b : Nat} {st : Int} {rs : List Int} (h : FX w b st rs) (o : Obj) : FX (w.alloc o) b st rs := h.keep ((Below.refl _ w).alloc (Nat.le_refl _) o)
theorem FX.new (w : World) (st : Int) {rs : List Int} (h : rs.length = 16) : FX (w.alloc (.cells (fcs st rs).toArray 117 (0, 0))) w.heap.size st rs := ⟨h, heap_last w _⟩
theorem FX.drew {w : World} {b : Nat} {st : Int} {rs : List Int} (h : FX w b st rs) : FX w.drew b st rs := h
theorem FX.other {w : World} {b : Nat} {st : Int} {rs : List Int} (h : FX w b st rs) {p : Addr} (hne : b ≠ p.block) (u : Value) : FX (w.setCell p u) b st rs := ⟨h.1, by rw [Below.heap_setCell w p u b hne]; exact h.2⟩

/-- block b holds a level -/
def LX (w : World) (b : Nat) (x : Lv) : Prop := w.heap[b]? = some (.cells #[.int .i64 x.tk, .int .u64 x.st, .int .u64 x.rv] 57 (0, 0))
theorem LX.lt {w : World} {b : Nat} {x : Lv} (h : LX w b x) : b < w.heap.size := (Array.getElem?_eq_some_iff.1 h).1
theorem LX.keep {W w1 : World} {b : Nat} {x : Lv} (hb : Below W.heap.size W w1) (h : LX W b x) : LX w1 b x := by unfold LX; rw [hb.block b h.lt]; exact h
theorem LX.cells {w : World} {b : Nat} {x : Lv} (h : LX w b x) : w.cell? ⟨b, 0, none⟩ = some (.int .i64 x.tk) ∧ w.cell? ⟨b, 1, none⟩ = some (.int .u64 x.st) ∧ w.cell? ⟨b, 2, none⟩ = some (.int .u64 x.rv) ∧ (∀ i, w.frozen? ⟨b, i, none⟩ = false) := by
  unfold LX at h
  simp [World.cell?, World.frozen?, h]
theorem LX.set2 {w : World} {b : Nat} {x : Lv} (h : LX w b x) (y : Int) : LX (w.setCell ⟨b, 2, none⟩ (.int .u64 y)) b ⟨x.tk, x.st, y⟩ := by
  unfold LX at *
  simp [World.setCell, Array.getElem?_modify, h]
theorem LX.set3 {w : World} {b : Nat} {x : Lv} (h : LX w b x) (y : Lv) : LX (((w.setCell ⟨b, 0, none⟩ (.int .i64 y.tk)).setCell ⟨b, 1, none⟩ (.int .u64 y.st)).setCell ⟨b, 2, none⟩ (.int .u64 y.rv)) b y := by
  unfold LX at *
  simp [World.setCell, Array.getElem?_modify, h]
theorem LX.other {w : World} {b : Nat} {x : Lv} (h : LX w b x) {p : Addr} (hne : b ≠ p.block) (u : Value) : LX (w.setCell p u) b x := by
  unfold LX; rw [Below.heap_setCell w p u b hne]; exact h

theorem heap_al {w : World} {b : Nat} {o : Obj} (x : Obj) (h : w.heap[b]? = some o) : (w.alloc x).heap[b]? = some o :=
  (Below.heap_alloc _ _ _ (Array.getElem?_eq_some_iff.1 h).1).trans h
set_option maxHeartbeats 1000000 in
theorem level_any (st : Int) (rs : List Int) (t : Int) (hr : Rb rs) (w : World) :
    Calls Try.prog 98 #[.agg (fcs st rs).toArray, .int .i64 t] w fun e w' => e = .returned (.agg #[.int .i64 t, .int .u64 st, .int .u64 rs.sum]) ∧ Below w.heap.size w w' := by
  have hl := hr.1
  have HL := Lib.hid hl
  have HR := Lib.hid hr
  have HI : Hid ((Try.prog.info? 115).map (·.size) = some (ic .u64 rs).length) := by unfold Hid; rw [ic_length, hl]; kernel_rfl
  clear hl hr
  go_enter Try.func98, Try.ntmps98
  obtain ⟨W1, hW1⟩ : ∃ W : World, W = ((w.alloc (.cells (fcs st rs).toArray 117)).alloc (.cells #[.int .i64 0, .int .u64 0, .int .u64 0] 57)).alloc (.cells #[.int .i64 t, .int .u64 st, .int .u64 0] 57) := ⟨_, rfl⟩
  have hF : FX W1 w.heap.size st rs := by rw [hW1]; exact ((FX.new w st HL.out).al _).al _
  have hA := hF.arr
  have hX1 : LX W1 (w.heap.size + 1) ⟨0, 0, 0⟩ := by rw [hW1]; unfold LX; first | exact heap_al _ (by have := heap_last (w.alloc (.cells (fcs st rs).toArray 117)) (.cells #[.int .i64 0, .int .u64 0, .int .u64 0] 57); rwa [World.size_alloc] at this) | (have := heap_last ((w.alloc (.cells (fcs st rs).toArray 117)).alloc (.cells #[.int .i64 0, .int .u64 0, .int .u64 0] 57)) (.cells #[.int .i64 t, .int .u64 st, .int .u64 0] 57); rwa [World.size_alloc, World.size_alloc] at this)
  have hX2 : LX W1 (w.heap.size + 2) ⟨t, st, 0⟩ := by rw [hW1]; unfold LX; first | exact heap_al _ (by have := heap_last (w.alloc (.cells (fcs st rs).toArray 117)) (.cells #[.int .i64 0, .int .u64 0, .int .u64 0] 57); rwa [World.size_alloc] at this) | (have := heap_last ((w.alloc (.cells (fcs st rs).toArray 117)).alloc (.cells #[.int .i64 0, .int .u64 0, .int .u64 0] 57)) (.cells #[.int .i64 t, .int .u64 st, .int .u64 0] 57); rwa [World.size_alloc, World.size_alloc] at this)
  have hB : Below w.heap.size w W1 := by rw [hW1]; exact (by repeat (first | assumption | exact Below.refl _ _ | apply Below.al | apply below_drewN | apply Below.drew | refine Below.next ?_ (by assumption)))
  have HF := Lib.hid hF
  have HX1 := Lib.hid hX1
  have HX2 := Lib.hid hX2
  have HA := Lib.hid hA
  clear hF hX1 hX2 hA
  go_upto_region 2 with fail
  rw [← hW1]
  clear hW1
  go_wp2_with (with_reducible refine wpList_load_mid rfl 115 _ rfl w.heap.size 1 rfl (ic .u64 rs) (.array 16 32) HA.out Try.underlying115 rfl HI.out ?_)
  have HRA := HR.out
  have hsb := HRA.sum
  have HN : Hid (Nn rs) := by
    intro x hx
    obtain ⟨i, hi, rfl⟩ := List.mem_iff_getElem.1 hx
    have h1 := HRA.2 i (by rw [← HL.out]; exact hi)
    rw [List.getD_eq_getElem?_getD, List.getElem?_eq_getElem hi] at h1
    simp at h1
    omega
  have HRH := Lib.hid HRA
  clear HRA HF HA HI
  go_loopw [14] (fun i wr => ∃ k : Nat, k ≤ 16 ∧ i = .int .i64 k ∧ LX wr (w.heap.size + 1) ⟨0, 0, 0⟩ ∧ LX wr (w.heap.size + 1 + 1) ⟨t, st, (rs.take k).sum⟩ ∧ Below w.heap.size w wr) (fun i _ => 16 - (intOf i).toNat)
  case atStart => exact ⟨0, Nat.zero_le _, rfl, HX1.out, HX2.out, hB⟩
  case round =>
    obtain ⟨k, hk, rfl, h1, h2, hB⟩ := hrel
    obtain ⟨a0, a1, a2, a3⟩ := h1.cells
    obtain ⟨x0, x1, x2, x3⟩ := h2.cells
    have f2 := x3 2
    have g0 := a3 0
    have g1 := a3 1
    have g2 := a3 2
    clear x3 a3
    have H1 := Lib.hid h1
    have H2 := Lib.hid h2
    clear h1 h2
    by_cases hlt : k < 16
    · have hix := fun w : World => idx16 rs HL.out k hlt w
      have hs1 := sum_take_le HN.out (k + 1)
      have hs0 := sum_nn (HN.out.take k)
      have hg := HN.out.get k (by rw [HL.out]; exact hlt)
      have hst := sum_take_succ rs k (by rw [HL.out]; exact hlt)
      obtain ⟨s, hs⟩ : ∃ s, (rs.take k).sum = s := ⟨_, rfl⟩
      obtain ⟨x, hx⟩ : ∃ x, rs.getD k 0 = x := ⟨_, rfl⟩
      simp only [hs] at x2 hs0 hst H2
      rw [hx] at hg hst
      simp only [hx] at hix
      rw [hst] at hs1
      have HST := Lib.hid hst
      clear hs hx hst
      have hws : IntKind.u64.wrap (s + x) = s + x := IntWalk.u64_in _ (by omega)
      go_wp2_with fail
      go_roundw
      case rel => exact ⟨k + 1, by omega, by go_num, H1.out.other (by show w.heap.size + 1 ≠ w.heap.size + 1 + 1; omega) _, by rw [HST.out]; exact H2.out.set2 _, hB.setCell (by show w.heap.size ≤ w.heap.size + 1 + 1; omega) _⟩
      case measure => simp [intOf]; omega
    · obtain rfl : k = 16 := by omega
      have HT : Hid ((rs.take 16).sum = rs.sum) := by unfold Hid; rw [show 16 = rs.length from HL.out.symm, List.take_length]
      go_wp2_with fail
      obtain ⟨W4, hW4⟩ : ∃ W4 : World, W4 = ((wr.setCell ⟨w.heap.size + 1, 0, none⟩ (.int .i64 t)).setCell ⟨w.heap.size + 1, 1, none⟩ (.int .u64 st)).setCell ⟨w.heap.size + 1, 2, none⟩ (.int .u64 (List.take 16 rs).sum) := ⟨_, rfl⟩
      rw [← hW4]
      have h4 : LX W4 (w.heap.size + 1) ⟨t, st, (List.take 16 rs).sum⟩ := by rw [hW4]; exact H1.out.set3 ⟨t, st, (List.take 16 rs).sum⟩
      have hB4 : Below w.heap.size w W4 := by
        rw [hW4]
        exact ((hB.setCell (by show w.heap.size ≤ w.heap.size + 1; omega) _).setCell (by show w.heap.size ≤ w.heap.size + 1; omega) _).setCell (by show w.heap.size ≤ w.heap.size + 1; omega) _
      obtain ⟨y0, y1, y2, _⟩ := h4.cells
      clear hW4 a0 a1 a2 g0 g1 g2 f2 x0 x1 x2
      exact bodyPost_ret (v := .agg #[.int .i64 t, .int .u64 st, .int .u64 (List.take 16 rs).sum]) (by simp [results, Try.results98, go_sem, y0, y1, y2]) rfl ⟨by rw [HT.out], hB4⟩
end Go.Proofs.Ytnbjdgjopdeolaa
