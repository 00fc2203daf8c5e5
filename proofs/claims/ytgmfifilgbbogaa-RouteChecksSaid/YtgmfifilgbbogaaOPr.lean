


/- Route as an argument, opened; seven arguments. -/
import Derived.Test.YtgmfifilgbbogaaRC
import Derived.Test.YtgmfifilgbbogaaOC5
namespace Go.Proofs.Ytgmfifilgbbogaa
open Go.ChangeShapes Go.WideShapes Go.ChangeAt Go.RowKit Go.Joins Go.Deep
set_option linter.unusedSimpArgs false
set_option linter.unusedVariables false
set_option maxRecDepth 100000

section
variable {H : Type} {enc : TypeId × Value → H} {W : World} {base : Nat} {held : Bool}
theorem c3_one : Try.prog.cellsOf 3 = 1 := by kernel_rfl
/-- a struct of one-cell fields, opened field by field -/
theorem fields_of {P : Program} {w : World} {fs : Array Field} {e : TypeId} {m n : Nat} {cs : List Value} {x : DataW H × List MemPlace} (he : P.underlying e = some (.struct fs)) (hn : fs.size = n) (hone : oneCellFields P fs = true) (hC : P.cellsOf e = n)
    (h : DataW.trod enc P w base (fun _ => true) held m e cs = some x) : cs.length = n ∧ ∀ (j : Nat) (f : Field), fs[j]? = some f → ∃ v m y, cs[j]? = some v ∧ DataW.trod enc P w base (fun _ => true) held m f.type [v] = some y := by
  obtain ⟨xs, m, _, _, hlen, hxl, hg⟩ := DataW.trod_struct he h
  rw [hC] at hlen
  refine ⟨hlen, fun j f hf => ?_⟩
  have hj : j < fs.size := (Array.getElem?_eq_some_iff.1 hf).1
  obtain ⟨ho, hk⟩ := hone_of hone j _ hf
  have h1 := hg j _ hf
  rw [ho, hk, List.drop_eq_getElem_cons (by omega)] at h1
  have hx : xs[j]? = some (xs[j]'(by omega)) := List.getElem?_eq_getElem (by omega)
  rw [hx] at h1
  simp only [List.take_succ_cons, List.take_zero] at h1
  exact ⟨_, _, _, List.getElem?_eq_getElem (by omega), h1⟩
theorem open_rt {r : Reach} {b0 : Nat} {v : Value} {d : DataW H} {p : List MemPlace}
    (hv : Value.okWide Try.prog W r b0 27 v) (h : DataW.Trod enc Try.prog W base (fun _ => true) held 27 v d p) : ∃ a l, RdR W v a l := by
  obtain ⟨cs, rfl, hsz⟩ := okWide_struct Try.underlying27 hv
  obtain ⟨fuel, hf⟩ := h
  obtain ⟨hl, hz⟩ := fields_of (n := 2) Try.underlying27 rfl (by kernel_rfl) (by kernel_rfl) hf
  obtain ⟨v0, _, _, e0, t0⟩ := hz 0 _ rfl
  obtain ⟨v1, _, _, e1, t1⟩ := hz 1 _ rfl
  obtain ⟨l, hq, _⟩ := rdi_of Try.underlying25 Try.underlying3 c3_one t0
  obtain ⟨a, ha, _⟩ := DataW.trod_int Try.underlying3 t1
  simp only [List.cons.injEq, and_true] at ha
  subst ha
  refine ⟨a, l, v0, ?_, hq⟩
  have hl : cs.toList.length = 2 := by simpa [Value.cells] using hl
  have e0 : cs.toList[0]? = some v0 := by simpa [Value.cells] using e0
  have e1 : cs.toList[1]? = some (.int .i64 a) := by simpa [Value.cells] using e1
  obtain ⟨cs⟩ := cs
  simp only at hl e0 e1
  match cs, hl, e0, e1 with
  | [_, _], _, rfl, rfl => rfl
theorem trodAll_seven {P : Program} {w : World} {spare : Nat → Bool} {t0 t1 t2 t3 t4 t5 t6 : TypeId} {args : Array Value} {ds : List (DataW H)} {ps : List MemPlace} (h : DataW.TrodAll enc P w base spare held [t0, t1, t2, t3, t4, t5, t6] args.toList ds ps) :
    ∃ v0 v1 v2 v3 v4 v5 v6 d0 d1 d2 d3 d4 d5 d6 p0 p1 p2 p3 p4 p5 p6, args = #[v0, v1, v2, v3, v4, v5, v6] ∧ ds = [d0, d1, d2, d3, d4, d5, d6] ∧ DataW.Trod enc P w base spare held t0 v0 d0 p0 ∧ DataW.Trod enc P w base spare held t1 v1 d1 p1 ∧ DataW.Trod enc P w base spare held t2 v2 d2 p2 ∧
      DataW.Trod enc P w base spare held t3 v3 d3 p3 ∧ DataW.Trod enc P w base spare held t4 v4 d4 p4 ∧ DataW.Trod enc P w base spare held t5 v5 d5 p5 ∧ DataW.Trod enc P w base spare held t6 v6 d6 p6 := by
  obtain ⟨v0, vs, d0, _, p0, _, hargs, rfl, _, h0, h⟩ := trodAll_cons h
  obtain ⟨v1, vs, d1, _, p1, _, rfl, rfl, _, h1, h⟩ := trodAll_cons h
  obtain ⟨v2, vs, d2, _, p2, _, rfl, rfl, _, h2, h⟩ := trodAll_cons h
  obtain ⟨v3, vs, d3, _, p3, _, rfl, rfl, _, h3, h⟩ := trodAll_cons h
  obtain ⟨v4, vs, d4, _, p4, _, rfl, rfl, _, h4, h⟩ := trodAll_cons h
  obtain ⟨v5, vs, d5, _, p5, _, rfl, rfl, _, h5, h⟩ := trodAll_cons h
  obtain ⟨v6, vs, d6, _, p6, _, rfl, rfl, _, h6, h⟩ := trodAll_cons h
  obtain ⟨rfl, rfl, _⟩ := trodAll_nil h
  exact ⟨v0, v1, v2, v3, v4, v5, v6, d0, d1, d2, d3, d4, d5, d6, p0, p1, p2, p3, p4, p5, p6, by cases args; simp_all, rfl, h0, h1, h2, h3, h4, h5, h6⟩
end
end Go.Proofs.Ytgmfifilgbbogaa
