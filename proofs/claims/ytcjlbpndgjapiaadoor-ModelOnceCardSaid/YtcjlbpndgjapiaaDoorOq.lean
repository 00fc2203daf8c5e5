




/- Bundles, outcomes, IDs and numbers as arguments, opened. -/
import Derived.Test.YtcjlbpndgjapiaaDoorOp
import Derived.Test.YtcjlbpndgjapiaaDoorO
import Derived.Deep.Strs
namespace Go.Proofs.YtcjlbpndgjapiaaDoor
open Go.ChangeShapes Go.WideShapes Go.ChangeAt Go.RowKit Go.Joins Go.Deep
set_option linter.unusedSimpArgs false
set_option linter.unusedVariables false
set_option maxRecDepth 100000

section
variable {H : Type} {enc : TypeId × Value → H} {W : World} {base : Nat} {held : Bool}
theorem c3_one : Tryd.prog.cellsOf 3 = 1 := by kernel_rfl
theorem cu_one : Tryd.prog.cellsOf 24 = 1 := by kernel_rfl
theorem cs_one : Tryd.prog.cellsOf 9 = 1 := by kernel_rfl
theorem ci_three : Tryd.prog.cellsOf 26 = 3 := by kernel_rfl
/-- a field of a struct, opened -/
theorem field_at {fs : Array Field} {e : TypeId} {m : Nat} {cs : List Value} {x : DataW H × List MemPlace} (he : Tryd.prog.underlying e = some (.struct fs))
    (h : DataW.trod enc Tryd.prog W base (fun _ => true) held m e cs = some x) (i : Nat) (T : TypeId) (O C : Nat) (hf : (fs[i]?).map (fun f => (f.type, f.offset)) = some (T, O)) (hC : Tryd.prog.cellsOf T = C) : ∃ n y, DataW.trod enc Tryd.prog W base (fun _ => true) held n T ((cs.drop O).take C) = some y := by
  obtain ⟨xs, n, _, _, _, hxl, hg⟩ := DataW.trod_struct he h
  obtain ⟨f, hf1, hf2⟩ := Option.map_eq_some_iff.1 hf
  have h1 := hg i f hf1
  have hi : i < fs.size := (Array.getElem?_eq_some_iff.1 hf1).1
  rw [List.getElem?_eq_getElem (show i < xs.length by omega)] at h1
  simp only [Prod.mk.injEq] at hf2
  obtain ⟨rfl, rfl⟩ := hf2
  rw [hC] at h1
  exact ⟨n, _, h1⟩
theorem len_at {fs : Array Field} {e : TypeId} {m : Nat} {cs : List Value} {x : DataW H × List MemPlace} (he : Tryd.prog.underlying e = some (.struct fs))
    (h : DataW.trod enc Tryd.prog W base (fun _ => true) held m e cs = some x) {C : Nat} (hC : Tryd.prog.cellsOf e = C) : cs.length = C := by
  obtain ⟨xs, n, _, _, hl, _, _⟩ := DataW.trod_struct he h
  exact hl.trans hC
theorem int_at {n : Nat} {T : TypeId} {k : IntKind} {u : Value} {y : DataW H × List MemPlace} (ht : Tryd.prog.underlying T = some (.int k)) (h : DataW.trod enc Tryd.prog W base (fun _ => true) held n T [u] = some y) : ∃ a, u = .int k a ∧ (Lit.int k a).wf = true := by
  obtain ⟨a, ha, _, hw⟩ := DataW.trod_int ht h
  simp only [List.cons.injEq, and_true] at ha
  exact ⟨a, ha, hw⟩
theorem id_of (n : Nat) (cs : List Value) (x : DataW H × List MemPlace) (h : DataW.trod enc Tryd.prog W base (fun _ => true) held n 26 cs = some x) : ∃ i : Idn, cs = i.cs ∧ IdW i := by
  have hl := len_at Tryd.underlying26 h ci_three
  obtain ⟨_, _, h0⟩ := field_at Tryd.underlying26 h 0 3 0 1 rfl c3_one
  obtain ⟨_, _, h1⟩ := field_at Tryd.underlying26 h 1 24 1 1 rfl cu_one
  obtain ⟨_, _, h2⟩ := field_at Tryd.underlying26 h 2 3 2 1 rfl c3_one
  obtain ⟨d0, d1, d2, rfl⟩ : ∃ d0 d1 d2, cs = [d0, d1, d2] := by
    match cs, hl with
    | [d0, d1, d2], _ => exact ⟨d0, d1, d2, rfl⟩
  obtain ⟨a, rfl, w0⟩ := int_at Tryd.underlying3 h0
  obtain ⟨b, rfl, w1⟩ := int_at Tryd.underlying24 h1
  obtain ⟨c, rfl, w2⟩ := int_at Tryd.underlying3 h2
  exact ⟨⟨a, b, c⟩, rfl, bd_i64 w0, bd_u64 w1, bd_i64 w2⟩
theorem oc_of (n : Nat) (cs : List Value) (x : DataW H × List MemPlace) (h : DataW.trod enc Tryd.prog W base (fun _ => true) held n 28 cs = some x) : ∃ o : Oc, cs = ocR.cells o ∧ OcW o := by
  have hl := len_at Tryd.underlying28 h (C := 7) (by kernel_rfl)
  obtain ⟨_, _, h0⟩ := field_at Tryd.underlying28 h 0 3 0 1 rfl c3_one
  obtain ⟨_, _, h1⟩ := field_at Tryd.underlying28 h 1 3 1 1 rfl c3_one
  obtain ⟨_, _, h2⟩ := field_at Tryd.underlying28 h 2 3 2 1 rfl c3_one
  obtain ⟨_, _, h3⟩ := field_at Tryd.underlying28 h 3 26 3 3 rfl ci_three
  obtain ⟨_, _, h4⟩ := field_at Tryd.underlying28 h 4 3 6 1 rfl c3_one
  obtain ⟨d0, d1, d2, d3, d4, d5, d6, rfl⟩ : ∃ d0 d1 d2 d3 d4 d5 d6, cs = [d0, d1, d2, d3, d4, d5, d6] := by
    match cs, hl with
    | [d0, d1, d2, d3, d4, d5, d6], _ => exact ⟨d0, d1, d2, d3, d4, d5, d6, rfl⟩
  obtain ⟨a, rfl, w0⟩ := int_at Tryd.underlying3 h0
  obtain ⟨b, rfl, w1⟩ := int_at Tryd.underlying3 h1
  obtain ⟨c, rfl, w2⟩ := int_at Tryd.underlying3 h2
  obtain ⟨i, hi, w3⟩ := id_of _ _ _ h3
  obtain ⟨e, rfl, w4⟩ := int_at Tryd.underlying3 h4
  simp only [List.drop_succ_cons, List.drop_zero, List.take_succ_cons, List.take_zero, Idn.cs, List.cons.injEq, and_true] at hi
  obtain ⟨rfl, rfl, rfl⟩ := hi
  exact ⟨⟨a, b, c, i, e⟩, rfl, bd_i64 w0, bd_i64 w1, bd_i64 w2, w3, bd_i64 w4⟩
theorem bd_of (n : Nat) (cs : List Value) (x : DataW H × List MemPlace) (h : DataW.trod enc Tryd.prog W base (fun _ => true) held n 41 cs = some x) : ∃ b : Bd, cs = bdR.cells b ∧ BdW b := by
  have hl := len_at Tryd.underlying41 h (C := 9) (by kernel_rfl)
  obtain ⟨_, _, h0⟩ := field_at Tryd.underlying41 h 0 26 0 3 rfl ci_three
  obtain ⟨_, _, h1⟩ := field_at Tryd.underlying41 h 1 3 3 1 rfl c3_one
  obtain ⟨_, _, h2⟩ := field_at Tryd.underlying41 h 2 3 4 1 rfl c3_one
  obtain ⟨_, _, h3⟩ := field_at Tryd.underlying41 h 3 3 5 1 rfl c3_one
  obtain ⟨_, _, h4⟩ := field_at Tryd.underlying41 h 4 3 6 1 rfl c3_one
  obtain ⟨_, _, h5⟩ := field_at Tryd.underlying41 h 5 3 7 1 rfl c3_one
  obtain ⟨_, _, h6⟩ := field_at Tryd.underlying41 h 6 9 8 1 rfl cs_one
  obtain ⟨d0, d1, d2, d3, d4, d5, d6, d7, d8, rfl⟩ : ∃ d0 d1 d2 d3 d4 d5 d6 d7 d8, cs = [d0, d1, d2, d3, d4, d5, d6, d7, d8] := by
    match cs, hl with
    | [d0, d1, d2, d3, d4, d5, d6, d7, d8], _ => exact ⟨d0, d1, d2, d3, d4, d5, d6, d7, d8, rfl⟩
  obtain ⟨i, hi, w0⟩ := id_of _ _ _ h0
  obtain ⟨a, rfl, w1⟩ := int_at Tryd.underlying3 h1
  obtain ⟨b, rfl, w2⟩ := int_at Tryd.underlying3 h2
  obtain ⟨c, rfl, w3⟩ := int_at Tryd.underlying3 h3
  obtain ⟨d, rfl, w4⟩ := int_at Tryd.underlying3 h4
  obtain ⟨e, rfl, w5⟩ := int_at Tryd.underlying3 h5
  obtain ⟨s, hs, _, w6⟩ := DataW.trod_string Tryd.underlying9 h6
  simp only [List.drop_succ_cons, List.drop_zero, List.take_succ_cons, List.take_zero, List.cons.injEq, and_true] at hs
  subst hs
  simp only [List.drop_succ_cons, List.drop_zero, List.take_succ_cons, List.take_zero, Idn.cs, List.cons.injEq, and_true] at hi
  obtain ⟨rfl, rfl, rfl⟩ := hi
  exact ⟨⟨i, a, b, c, d, e, s⟩, rfl, w0, bd_i64 w1, bd_i64 w2, bd_i64 w3, bd_i64 w4, bd_i64 w5, w6⟩
theorem open_bds {r : Reach} {b0 : Nat} {v : Value} {d : DataW H} {p : List MemPlace}
    (hv : Value.okWide Tryd.prog W r b0 22 v) (h : DataW.Trod enc Tryd.prog W base (fun _ => true) held 22 v d p) : ∃ ws : List Bd, RdB W v ws ∧ ∀ b, b ∈ ws → BdW b :=
  open_rdl (R := bdR) (Wf := BdW) Tryd.underlying22 (by kernel_rfl) bd_of hv h
theorem open_ocs {r : Reach} {b0 : Nat} {v : Value} {d : DataW H} {p : List MemPlace}
    (hv : Value.okWide Tryd.prog W r b0 23 v) (h : DataW.Trod enc Tryd.prog W base (fun _ => true) held 23 v d p) : ∃ l : List Oc, RdO W v l ∧ ∀ o, o ∈ l → OcW o :=
  open_rdl (R := ocR) (Wf := OcW) Tryd.underlying23 (by kernel_rfl) oc_of hv h
theorem open_oc {r : Reach} {b0 : Nat} {v : Value} {d : DataW H} {p : List MemPlace}
    (hv : Value.okWide Tryd.prog W r b0 28 v) (h : DataW.Trod enc Tryd.prog W base (fun _ => true) held 28 v d p) : ∃ o : Oc, v = o.v ∧ OcW o := by
  obtain ⟨cs, rfl, hsz⟩ := okWide_struct Tryd.underlying28 hv
  obtain ⟨fuel, hf⟩ := h
  obtain ⟨o, ht, hw⟩ := oc_of _ _ _ hf
  exact ⟨o, by
    have h5 : cs.toList = Oc.cs o := by have h6 : cs.toList = ocR.cells o := (by simpa [Value.cells] using ht); exact h6
    show Value.agg cs = Value.agg (Oc.cs o).toArray
    rw [← h5], hw⟩
theorem open_id {r : Reach} {b0 : Nat} {v : Value} {d : DataW H} {p : List MemPlace}
    (hv : Value.okWide Tryd.prog W r b0 26 v) (h : DataW.Trod enc Tryd.prog W base (fun _ => true) held 26 v d p) : ∃ i : Idn, v = i.v ∧ IdW i := by
  obtain ⟨cs, rfl, hsz⟩ := okWide_struct Tryd.underlying26 hv
  obtain ⟨fuel, hf⟩ := h
  obtain ⟨i, ht, hw⟩ := id_of _ _ _ hf
  exact ⟨i, by
    have h5 : cs.toList = Idn.cs i := by simpa [Value.cells] using ht
    show Value.agg cs = Value.agg (Idn.cs i).toArray
    rw [← h5], hw⟩
theorem open_int {r : Reach} {b0 : Nat} {v : Value} {d : DataW H} {p : List MemPlace}
    (hv : Value.okWide Tryd.prog W r b0 3 v) (h : DataW.Trod enc Tryd.prog W base (fun _ => true) held 3 v d p) : ∃ n : Int, v = .int .i64 n ∧ Ib n := by
  obtain ⟨n, rfl⟩ := okWide_int Tryd.underlying3 hv
  obtain ⟨fuel, hf⟩ := h
  obtain ⟨m, hm, _, hw⟩ := DataW.trod_int Tryd.underlying3 hf
  simp only [Value.cells, List.cons.injEq, and_true, Value.int.injEq, true_and] at hm
  subst hm
  exact ⟨n, rfl, bd_i64 hw⟩
theorem open_nums {r : Reach} {b0 : Nat} {v : Value} {d : DataW H} {p : List MemPlace}
    (hv : Value.okWide Tryd.prog W r b0 43 v) (h : DataW.Trod enc Tryd.prog W base (fun _ => true) held 43 v d p) : ∃ l : List Int, RdI .i64 W v l ∧ ∀ n, n ∈ l → Ib n := by
  obtain ⟨l, h1, h2⟩ := open_rdi Tryd.underlying43 Tryd.underlying3 (by kernel_rfl) hv h
  exact ⟨l, h1, fun n hn => bd_i64 (h2 n hn)⟩
end
end Go.Proofs.YtcjlbpndgjapiaaDoor
