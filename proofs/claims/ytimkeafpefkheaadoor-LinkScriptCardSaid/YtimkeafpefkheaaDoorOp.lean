

/- Links: what the card's condition gives the walks (the table of functions); arguments opened: lists of texts, a fault, lists of faults. -/
import Derived.Test.YtimkeafpefkheaaDoorJ
import Derived.Test.YtimkeafpefkheaaDoorE
import Derived.Test.YtimkeafpefkheaaDoorRW
import Derived.Test.YtimkeafpefkheaaDoorRows
import Derived.Deep.Strs
import Derived.ChangeMaps5
import Derived.OpenShut
import Derived.LaidMore
import Derived.Stop.Joined
namespace Go.Proofs.YtimkeafpefkheaaDoor
open Go.ChangeShapes Go.WideShapes Go.ChangeAt Go.RowKit Go.Joins Go.Deep
set_option linter.unusedSimpArgs false
set_option linter.unusedVariables false
set_option maxRecDepth 100000
theorem gKinds : Tryd.prog.globalNamed "packhorse/link.kinds" = some 0 := by kernel_rfl
theorem tKinds : (Tryd.prog.globals[0]?).map (·.type) = some 60 := by kernel_rfl
theorem cellsKind : Tryd.prog.cellsOf 59 = 2 := by kernel_rfl
theorem cellsKinds : Tryd.prog.cellsOf 60 = 12 := by kernel_rfl
theorem cellsFits : Tryd.prog.cellsOf 41 = 1 := by kernel_rfl
theorem cellsMake : Tryd.prog.cellsOf 57 = 1 := by kernel_rfl
abbrev laid1 : List (String × DataW Unit) := [("packhorse/link.kinds", Rows.laid_packhorse_link_kinds)]
set_option maxHeartbeats 1000000 in
theorem of_laid {W : World} (h : laidMetH Tryd.prog laid1 W) : KD W := by
  obtain ⟨g, t, cs, fuel, p, hg, ht, hv, hd⟩ := h.funcs (List.mem_singleton.2 rfl)
  obtain rfl := Option.some.inj (gKinds.symm.trans hg)
  obtain rfl := Option.some.inj (tKinds.symm.trans ht)
  have hd' : DataW.trod (funcToken Tryd.prog) Tryd.prog W 0 (fun _ => true) true fuel 60 cs.toList = some (.agg [.agg [.nil, .nil], .agg [.held [112, 97, 99, 107, 104, 111, 114, 115, 101, 47, 108, 105, 110, 107, 46, 107, 105, 110, 100, 115, 36, 49], .held [112, 97, 99, 107, 104, 111, 114, 115, 101, 47, 108, 105, 110, 107, 46, 107, 105, 110, 100, 115, 36, 50]], .agg [.held [112, 97, 99, 107, 104, 111, 114, 115, 101, 47, 108, 105, 110, 107, 46, 107, 105, 110, 100, 115, 36, 51], .held [112, 97, 99, 107, 104, 111, 114, 115, 101, 47, 108, 105, 110, 107, 46, 107, 105, 110, 100, 115, 36, 52]], .agg [.held [112, 97, 99, 107, 104, 111, 114, 115, 101, 47, 108, 105, 110, 107, 46, 107, 105, 110, 100, 115, 36, 53], .held [112, 97, 99, 107, 104, 111, 114, 115, 101, 47, 108, 105, 110, 107, 46, 107, 105, 110, 100, 115, 36, 54]], .agg [.held [112, 97, 99, 107, 104, 111, 114, 115, 101, 47, 108, 105, 110, 107, 46, 107, 105, 110, 100, 115, 36, 55], .held [112, 97, 99, 107, 104, 111, 114, 115, 101, 47, 108, 105, 110, 107, 46, 107, 105, 110, 100, 115, 36, 56]], .agg [.held [112, 97, 99, 107, 104, 111, 114, 115, 101, 47, 108, 105, 110, 107, 46, 107, 105, 110, 100, 115, 36, 57], .held [112, 97, 99, 107, 104, 111, 114, 115, 101, 47, 108, 105, 110, 107, 46, 107, 105, 110, 100, 115, 36, 49, 48]]], p) := hd
  obtain ⟨xs, m, _, hx, hlen, hxl, hel⟩ := DataW.trod_array Tryd.underlying60 hd'
  rw [cellsKinds] at hlen
  rw [cellsKind] at hel
  simp only [Prod.mk.injEq, DataW.agg.injEq] at hx
  have hx1 := hx.1
  have hvar := fun i => World.var?_cell hg hv i
  obtain ⟨cs⟩ := cs
  simp only at hlen hel hvar
  obtain ⟨c0, c1, c2, c3, c4, c5, c6, c7, c8, c9, c10, c11, rfl⟩ : ∃ c0 c1 c2 c3 c4 c5 c6 c7 c8 c9 c10 c11, cs = [c0, c1, c2, c3, c4, c5, c6, c7, c8, c9, c10, c11] := by
    match cs, hlen with
    | [c0, c1, c2, c3, c4, c5, c6, c7, c8, c9, c10, c11], _ => exact ⟨_, _, _, _, _, _, _, _, _, _, _, _, rfl⟩
  have h1 : DataW.trod (funcToken Tryd.prog) Tryd.prog W 0 (fun _ => true) true m 59 [c2, c3] = xs[1]? := hel 1 (by decide)
  obtain ⟨q1, e1⟩ : ∃ q, xs[1]? = some (.agg [.held [112, 97, 99, 107, 104, 111, 114, 115, 101, 47, 108, 105, 110, 107, 46, 107, 105, 110, 100, 115, 36, 49], .held [112, 97, 99, 107, 104, 111, 114, 115, 101, 47, 108, 105, 110, 107, 46, 107, 105, 110, 100, 115, 36, 50]], q) := by
    have := congrArg (fun l => l[1]?) hx1
    simp only [List.getElem?_map] at this
    obtain ⟨y, hy, hy1⟩ := Option.map_eq_some_iff.1 this.symm
    exact ⟨y.2, by rw [hy, ← hy1]⟩
  rw [e1] at h1
  obtain ⟨ys1, n1, _, hy1, _, _, hf1⟩ := DataW.trod_struct Tryd.underlying59 h1
  simp only [Prod.mk.injEq, DataW.agg.injEq] at hy1
  have a1 : DataW.trod (funcToken Tryd.prog) Tryd.prog W 0 (fun _ => true) true n1 41 ((List.drop 0 [c2, c3]).take (Tryd.prog.cellsOf 41)) = ys1[0]? := hf1 0 _ rfl
  have b1 : DataW.trod (funcToken Tryd.prog) Tryd.prog W 0 (fun _ => true) true n1 57 ((List.drop 1 [c2, c3]).take (Tryd.prog.cellsOf 57)) = ys1[1]? := hf1 1 _ rfl
  obtain ⟨p1, i1⟩ : ∃ q, ys1[0]? = some (.held [112, 97, 99, 107, 104, 111, 114, 115, 101, 47, 108, 105, 110, 107, 46, 107, 105, 110, 100, 115, 36, 49], q) := by
    have := congrArg (fun l => l[0]?) hy1.1
    simp only [List.getElem?_map] at this
    obtain ⟨y, hy, hy1⟩ := Option.map_eq_some_iff.1 this.symm
    exact ⟨y.2, by rw [hy, ← hy1]⟩
  obtain ⟨r1, j1⟩ : ∃ q, ys1[1]? = some (.held [112, 97, 99, 107, 104, 111, 114, 115, 101, 47, 108, 105, 110, 107, 46, 107, 105, 110, 100, 115, 36, 50], q) := by
    have := congrArg (fun l => l[1]?) hy1.1
    simp only [List.getElem?_map] at this
    obtain ⟨y, hy, hy1⟩ := Option.map_eq_some_iff.1 this.symm
    exact ⟨y.2, by rw [hy, ← hy1]⟩
  rw [i1] at a1
  rw [j1] at b1
  have h2 : DataW.trod (funcToken Tryd.prog) Tryd.prog W 0 (fun _ => true) true m 59 [c4, c5] = xs[2]? := hel 2 (by decide)
  obtain ⟨q2, e2⟩ : ∃ q, xs[2]? = some (.agg [.held [112, 97, 99, 107, 104, 111, 114, 115, 101, 47, 108, 105, 110, 107, 46, 107, 105, 110, 100, 115, 36, 51], .held [112, 97, 99, 107, 104, 111, 114, 115, 101, 47, 108, 105, 110, 107, 46, 107, 105, 110, 100, 115, 36, 52]], q) := by
    have := congrArg (fun l => l[2]?) hx1
    simp only [List.getElem?_map] at this
    obtain ⟨y, hy, hy1⟩ := Option.map_eq_some_iff.1 this.symm
    exact ⟨y.2, by rw [hy, ← hy1]⟩
  rw [e2] at h2
  obtain ⟨ys2, n2, _, hy2, _, _, hf2⟩ := DataW.trod_struct Tryd.underlying59 h2
  simp only [Prod.mk.injEq, DataW.agg.injEq] at hy2
  have a2 : DataW.trod (funcToken Tryd.prog) Tryd.prog W 0 (fun _ => true) true n2 41 ((List.drop 0 [c4, c5]).take (Tryd.prog.cellsOf 41)) = ys2[0]? := hf2 0 _ rfl
  have b2 : DataW.trod (funcToken Tryd.prog) Tryd.prog W 0 (fun _ => true) true n2 57 ((List.drop 1 [c4, c5]).take (Tryd.prog.cellsOf 57)) = ys2[1]? := hf2 1 _ rfl
  obtain ⟨p2, i2⟩ : ∃ q, ys2[0]? = some (.held [112, 97, 99, 107, 104, 111, 114, 115, 101, 47, 108, 105, 110, 107, 46, 107, 105, 110, 100, 115, 36, 51], q) := by
    have := congrArg (fun l => l[0]?) hy2.1
    simp only [List.getElem?_map] at this
    obtain ⟨y, hy, hy1⟩ := Option.map_eq_some_iff.1 this.symm
    exact ⟨y.2, by rw [hy, ← hy1]⟩
  obtain ⟨r2, j2⟩ : ∃ q, ys2[1]? = some (.held [112, 97, 99, 107, 104, 111, 114, 115, 101, 47, 108, 105, 110, 107, 46, 107, 105, 110, 100, 115, 36, 52], q) := by
    have := congrArg (fun l => l[1]?) hy2.1
    simp only [List.getElem?_map] at this
    obtain ⟨y, hy, hy1⟩ := Option.map_eq_some_iff.1 this.symm
    exact ⟨y.2, by rw [hy, ← hy1]⟩
  rw [i2] at a2
  rw [j2] at b2
  have h3 : DataW.trod (funcToken Tryd.prog) Tryd.prog W 0 (fun _ => true) true m 59 [c6, c7] = xs[3]? := hel 3 (by decide)
  obtain ⟨q3, e3⟩ : ∃ q, xs[3]? = some (.agg [.held [112, 97, 99, 107, 104, 111, 114, 115, 101, 47, 108, 105, 110, 107, 46, 107, 105, 110, 100, 115, 36, 53], .held [112, 97, 99, 107, 104, 111, 114, 115, 101, 47, 108, 105, 110, 107, 46, 107, 105, 110, 100, 115, 36, 54]], q) := by
    have := congrArg (fun l => l[3]?) hx1
    simp only [List.getElem?_map] at this
    obtain ⟨y, hy, hy1⟩ := Option.map_eq_some_iff.1 this.symm
    exact ⟨y.2, by rw [hy, ← hy1]⟩
  rw [e3] at h3
  obtain ⟨ys3, n3, _, hy3, _, _, hf3⟩ := DataW.trod_struct Tryd.underlying59 h3
  simp only [Prod.mk.injEq, DataW.agg.injEq] at hy3
  have a3 : DataW.trod (funcToken Tryd.prog) Tryd.prog W 0 (fun _ => true) true n3 41 ((List.drop 0 [c6, c7]).take (Tryd.prog.cellsOf 41)) = ys3[0]? := hf3 0 _ rfl
  have b3 : DataW.trod (funcToken Tryd.prog) Tryd.prog W 0 (fun _ => true) true n3 57 ((List.drop 1 [c6, c7]).take (Tryd.prog.cellsOf 57)) = ys3[1]? := hf3 1 _ rfl
  obtain ⟨p3, i3⟩ : ∃ q, ys3[0]? = some (.held [112, 97, 99, 107, 104, 111, 114, 115, 101, 47, 108, 105, 110, 107, 46, 107, 105, 110, 100, 115, 36, 53], q) := by
    have := congrArg (fun l => l[0]?) hy3.1
    simp only [List.getElem?_map] at this
    obtain ⟨y, hy, hy1⟩ := Option.map_eq_some_iff.1 this.symm
    exact ⟨y.2, by rw [hy, ← hy1]⟩
  obtain ⟨r3, j3⟩ : ∃ q, ys3[1]? = some (.held [112, 97, 99, 107, 104, 111, 114, 115, 101, 47, 108, 105, 110, 107, 46, 107, 105, 110, 100, 115, 36, 54], q) := by
    have := congrArg (fun l => l[1]?) hy3.1
    simp only [List.getElem?_map] at this
    obtain ⟨y, hy, hy1⟩ := Option.map_eq_some_iff.1 this.symm
    exact ⟨y.2, by rw [hy, ← hy1]⟩
  rw [i3] at a3
  rw [j3] at b3
  have h4 : DataW.trod (funcToken Tryd.prog) Tryd.prog W 0 (fun _ => true) true m 59 [c8, c9] = xs[4]? := hel 4 (by decide)
  obtain ⟨q4, e4⟩ : ∃ q, xs[4]? = some (.agg [.held [112, 97, 99, 107, 104, 111, 114, 115, 101, 47, 108, 105, 110, 107, 46, 107, 105, 110, 100, 115, 36, 55], .held [112, 97, 99, 107, 104, 111, 114, 115, 101, 47, 108, 105, 110, 107, 46, 107, 105, 110, 100, 115, 36, 56]], q) := by
    have := congrArg (fun l => l[4]?) hx1
    simp only [List.getElem?_map] at this
    obtain ⟨y, hy, hy1⟩ := Option.map_eq_some_iff.1 this.symm
    exact ⟨y.2, by rw [hy, ← hy1]⟩
  rw [e4] at h4
  obtain ⟨ys4, n4, _, hy4, _, _, hf4⟩ := DataW.trod_struct Tryd.underlying59 h4
  simp only [Prod.mk.injEq, DataW.agg.injEq] at hy4
  have a4 : DataW.trod (funcToken Tryd.prog) Tryd.prog W 0 (fun _ => true) true n4 41 ((List.drop 0 [c8, c9]).take (Tryd.prog.cellsOf 41)) = ys4[0]? := hf4 0 _ rfl
  have b4 : DataW.trod (funcToken Tryd.prog) Tryd.prog W 0 (fun _ => true) true n4 57 ((List.drop 1 [c8, c9]).take (Tryd.prog.cellsOf 57)) = ys4[1]? := hf4 1 _ rfl
  obtain ⟨p4, i4⟩ : ∃ q, ys4[0]? = some (.held [112, 97, 99, 107, 104, 111, 114, 115, 101, 47, 108, 105, 110, 107, 46, 107, 105, 110, 100, 115, 36, 55], q) := by
    have := congrArg (fun l => l[0]?) hy4.1
    simp only [List.getElem?_map] at this
    obtain ⟨y, hy, hy1⟩ := Option.map_eq_some_iff.1 this.symm
    exact ⟨y.2, by rw [hy, ← hy1]⟩
  obtain ⟨r4, j4⟩ : ∃ q, ys4[1]? = some (.held [112, 97, 99, 107, 104, 111, 114, 115, 101, 47, 108, 105, 110, 107, 46, 107, 105, 110, 100, 115, 36, 56], q) := by
    have := congrArg (fun l => l[1]?) hy4.1
    simp only [List.getElem?_map] at this
    obtain ⟨y, hy, hy1⟩ := Option.map_eq_some_iff.1 this.symm
    exact ⟨y.2, by rw [hy, ← hy1]⟩
  rw [i4] at a4
  rw [j4] at b4
  have h5 : DataW.trod (funcToken Tryd.prog) Tryd.prog W 0 (fun _ => true) true m 59 [c10, c11] = xs[5]? := hel 5 (by decide)
  obtain ⟨q5, e5⟩ : ∃ q, xs[5]? = some (.agg [.held [112, 97, 99, 107, 104, 111, 114, 115, 101, 47, 108, 105, 110, 107, 46, 107, 105, 110, 100, 115, 36, 57], .held [112, 97, 99, 107, 104, 111, 114, 115, 101, 47, 108, 105, 110, 107, 46, 107, 105, 110, 100, 115, 36, 49, 48]], q) := by
    have := congrArg (fun l => l[5]?) hx1
    simp only [List.getElem?_map] at this
    obtain ⟨y, hy, hy1⟩ := Option.map_eq_some_iff.1 this.symm
    exact ⟨y.2, by rw [hy, ← hy1]⟩
  rw [e5] at h5
  obtain ⟨ys5, n5, _, hy5, _, _, hf5⟩ := DataW.trod_struct Tryd.underlying59 h5
  simp only [Prod.mk.injEq, DataW.agg.injEq] at hy5
  have a5 : DataW.trod (funcToken Tryd.prog) Tryd.prog W 0 (fun _ => true) true n5 41 ((List.drop 0 [c10, c11]).take (Tryd.prog.cellsOf 41)) = ys5[0]? := hf5 0 _ rfl
  have b5 : DataW.trod (funcToken Tryd.prog) Tryd.prog W 0 (fun _ => true) true n5 57 ((List.drop 1 [c10, c11]).take (Tryd.prog.cellsOf 57)) = ys5[1]? := hf5 1 _ rfl
  obtain ⟨p5, i5⟩ : ∃ q, ys5[0]? = some (.held [112, 97, 99, 107, 104, 111, 114, 115, 101, 47, 108, 105, 110, 107, 46, 107, 105, 110, 100, 115, 36, 57], q) := by
    have := congrArg (fun l => l[0]?) hy5.1
    simp only [List.getElem?_map] at this
    obtain ⟨y, hy, hy1⟩ := Option.map_eq_some_iff.1 this.symm
    exact ⟨y.2, by rw [hy, ← hy1]⟩
  obtain ⟨r5, j5⟩ : ∃ q, ys5[1]? = some (.held [112, 97, 99, 107, 104, 111, 114, 115, 101, 47, 108, 105, 110, 107, 46, 107, 105, 110, 100, 115, 36, 49, 48], q) := by
    have := congrArg (fun l => l[1]?) hy5.1
    simp only [List.getElem?_map] at this
    obtain ⟨y, hy, hy1⟩ := Option.map_eq_some_iff.1 this.symm
    exact ⟨y.2, by rw [hy, ← hy1]⟩
  rw [i5] at a5
  rw [j5] at b5
  simp only [cellsFits, cellsMake, List.drop_zero, List.drop_succ_cons, List.take_succ_cons, List.take_zero] at a1 a2 a3 a4 a5 b1 b2 b3 b4 b5
  obtain rfl := func_of_trod (f0 := 59) Tryd.underlying41 (by kernel_rfl) a1
  obtain rfl := func_of_trod (f0 := 60) Tryd.underlying57 (by kernel_rfl) b1
  obtain rfl := func_of_trod (f0 := 61) Tryd.underlying41 (by kernel_rfl) a2
  obtain rfl := func_of_trod (f0 := 62) Tryd.underlying57 (by kernel_rfl) b2
  obtain rfl := func_of_trod (f0 := 64) Tryd.underlying41 (by kernel_rfl) a3
  obtain rfl := func_of_trod (f0 := 66) Tryd.underlying57 (by kernel_rfl) b3
  obtain rfl := func_of_trod (f0 := 67) Tryd.underlying41 (by kernel_rfl) a4
  obtain rfl := func_of_trod (f0 := 68) Tryd.underlying57 (by kernel_rfl) b4
  obtain rfl := func_of_trod (f0 := 69) Tryd.underlying41 (by kernel_rfl) a5
  obtain rfl := func_of_trod (f0 := 70) Tryd.underlying57 (by kernel_rfl) b5
  intro k hk1 hk2
  have hkd : k = 1 ∨ k = 2 ∨ k = 3 ∨ k = 4 ∨ k = 5 := by omega
  rcases hkd with rfl | rfl | rfl | rfl | rfl
  all_goals exact ⟨hvar _, hvar _⟩

/-! arguments -/
section
variable {H : Type} {enc : TypeId × Value → H} {P : Program} {w : World} {base : Nat} {held : Bool}
theorem open_rdt {r : Reach} {b0 : Nat} {t e : TypeId} {v : Value} {d : DataW H} {p : List MemPlace} (htt : P.underlying t = some (.slice e)) (he : P.underlying e = some .string) (hc : P.cellsOf e = 1)
    (hv : Value.okWide P w r b0 t v) (h : DataW.Trod enc P w base (fun _ => true) held t v d p) : ∃ l : List Fr, RdT w v l ∧ Szs l := by
  obtain ⟨a, len, cap, rfl⟩ := okWide_slice htt hv
  obtain ⟨fuel, hf⟩ := h
  rcases open_strs htt he hc (by simpa [Value.cells] using hf) with ⟨hcs, _⟩ | ⟨a, len, cap, m, Sx, hcs, _, hl, hm, hmm, _, hel⟩
  · simp only [List.cons.injEq, and_true] at hcs
    rw [hcs]
    exact ⟨[], RdT.nil w, fun s hs => by cases hs⟩
  · simp only [List.cons.injEq, and_true] at hcs
    rw [hcs]
    simp at hmm
    subst hmm
    refine ⟨(List.range len).map Sx, ⟨by simp, by simp; omega, ?_⟩, fun s hs => ?_⟩
    · by_cases h0 : len = 0
      · exact .inl ⟨by simp [h0], some a, m, by rw [h0], fun h => by cases h⟩
      · obtain ⟨b, off, spot⟩ := a
        have h1 := (hel 0 (by omega)).1
        have hspot : spot = none := by simpa [Addr.add] using World.cell?_spot h1
        subst hspot
        refine .inr ⟨b, off, m, by simp, by simp; omega, fun j u hj => ?_⟩
        simp only [tcs, List.map_map, List.getElem?_map, Option.map_eq_some_iff, Function.comp] at hj
        obtain ⟨i, hi, rfl⟩ := hj
        have hjl : j < len := by have := (List.getElem?_eq_some_iff.1 hi).1; simpa using this
        rw [List.getElem?_range hjl] at hi
        cases hi
        have := (hel j (by omega)).1
        rw [Go.WideShapes.add_plain] at this
        exact this
    · simp only [List.mem_map, List.mem_range] at hs
      obtain ⟨i, hi, rfl⟩ := hs
      have := (hel i (by omega)).2
      unfold maxLen at this
      omega
theorem open_str {r : Reach} {b0 : Nat} {t : TypeId} {v : Value} {d : DataW H} {p : List MemPlace} (ht : P.underlying t = some .string)
    (hv : Value.okWide P w r b0 t v) (h : DataW.Trod enc P w base (fun _ => true) held t v d p) : ∃ s : Fr, v = .string s ∧ s.size ≤ 9223372036854775807 := by
  obtain ⟨s, rfl, _, _, hs⟩ := Go.ChangeMaps.open_string ht hv h
  exact ⟨s, rfl, by unfold maxLen at hs; omega⟩
end
/-! faults -/
def Tr.cs (t : Tr) : List Value := [.int .i64 t.k, .int .i64 t.i, .int .i64 t.j, .int .i64 t.b]
def t0 : Tr := ⟨0, 0, 0, 0⟩
def trR : RowT Tr := ⟨4, Tr.cs, t0, by decide, fun _ => rfl, fun t u hu => by
  simp only [Tr.cs, List.mem_cons, List.mem_nil_iff, or_false] at hu
  rcases hu with rfl | rfl | rfl | rfl <;> rfl⟩
def TrOk (t : Tr) : Prop := Ib t.k ∧ Ib t.i ∧ Ib t.j ∧ Ib t.b
section
variable {H : Type} {enc : TypeId × Value → H} {W : World} {base : Nat} {held : Bool}
theorem tr_of (n : Nat) (cs : List Value) (x : DataW H × List MemPlace) (h : DataW.trod enc Tryd.prog W base (fun _ => true) held n 36 cs = some x) : ∃ t : Tr, cs = trR.cells t ∧ TrOk t := by
  obtain ⟨hlen, key⟩ := ints_of (t3 := 3) (n := 4) Tryd.underlying36 (by rfl) (by kernel_rfl) (by kernel_rfl) Tryd.underlying3 (by intro f hf; simp at hf; rcases hf with rfl | rfl | rfl | rfl <;> rfl) h
  obtain ⟨z0, q0, w0⟩ := key 0 (by omega)
  obtain ⟨z1, q1, w1⟩ := key 1 (by omega)
  obtain ⟨z2, q2, w2⟩ := key 2 (by omega)
  obtain ⟨z3, q3, w3⟩ := key 3 (by omega)
  obtain ⟨d0, d1, d2, d3, rfl⟩ : ∃ d0 d1 d2 d3, cs = [d0, d1, d2, d3] := by
    match cs, hlen with
    | [d0, d1, d2, d3], _ => exact ⟨d0, d1, d2, d3, rfl⟩
  simp at q0 q1 q2 q3
  subst q0 q1 q2 q3
  exact ⟨⟨z0, z1, z2, z3⟩, rfl, bd_i64 w0, bd_i64 w1, bd_i64 w2, bd_i64 w3⟩
theorem open_trs {r : Reach} {b0 : Nat} {v : Value} {d : DataW H} {p : List MemPlace}
    (hv : Value.okWide Tryd.prog W r b0 49 v) (h : DataW.Trod enc Tryd.prog W base (fun _ => true) held 49 v d p) : ∃ cs : List Tr, RdL trR W v cs ∧ ∀ c, c ∈ cs → TrOk c :=
  open_rdl Tryd.underlying49 (by kernel_rfl) tr_of hv h
end
end Go.Proofs.YtimkeafpefkheaaDoor
