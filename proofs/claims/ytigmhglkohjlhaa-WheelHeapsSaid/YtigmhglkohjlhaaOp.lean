


/- Timers: a timer, an ID and a list of timers as arguments, opened. -/
import Derived.Test.YtigmhglkohjlhaaD
import Derived.Test.YtigmhglkohjlhaaO
import Derived.Deep.Strs
namespace Go.Proofs.Ytigmhglkohjlhaa
open Go.ChangeShapes Go.WideShapes Go.ChangeAt Go.RowKit Go.Joins Go.Deep
set_option linter.unusedSimpArgs false
set_option linter.unusedVariables false
set_option maxRecDepth 100000

theorem Try.laidOut : laidOutB Try.prog = true := by kernel_rfl
theorem Try.own : ownKnob Try.prog.godebug = none := by kernel_rfl
section
variable {H : Type} {enc : TypeId × Value → H} {W : World} {base : Nat} {held : Bool}
theorem c3_one : Try.prog.cellsOf 3 = 1 := by kernel_rfl
theorem cs_one : Try.prog.cellsOf 37 = 1 := by kernel_rfl
theorem id_of (n : Nat) (cs : List Value) (x : DataW H × List MemPlace) (h : DataW.trod enc Try.prog W base (fun _ => true) held n 39 cs = some x) : ∃ a b c : Int, cs = [.int .i64 a, .int .u64 b, .int .i64 c] := by
  obtain ⟨y0, y1, y2, m, _, hl, h0, h1, h2⟩ := trod_struct3 Try.underlying39 h
  have hl : cs.length = 3 := hl.trans (by kernel_rfl)
  obtain ⟨d0, d1, d2, rfl⟩ : ∃ d0 d1 d2, cs = [d0, d1, d2] := by
    match cs, hl with
    | [d0, d1, d2], _ => exact ⟨d0, d1, d2, rfl⟩
  simp only [c3_one, cs_one, List.drop_zero, List.drop_succ_cons, List.take_succ_cons, List.take_zero] at h0 h1 h2
  obtain ⟨a, ha, _⟩ := DataW.trod_int Try.underlying3 h0
  obtain ⟨b, hb, _⟩ := DataW.trod_int Try.underlying37 h1
  obtain ⟨c, hc, _⟩ := DataW.trod_int Try.underlying3 h2
  simp only [List.cons.injEq, and_true] at ha hb hc
  subst ha hb hc
  exact ⟨a, b, c, rfl⟩
theorem tm_of (n : Nat) (cs : List Value) (x : DataW H × List MemPlace) (h : DataW.trod enc Try.prog W base (fun _ => true) held n 41 cs = some x) : ∃ t : Tm, cs = tmR.cells t ∧ True := by
  obtain ⟨y0, y1, y2, m, _, hl, h0, h1, h2⟩ := trod_struct3 Try.underlying41 h
  have hl : cs.length = 5 := hl.trans (by kernel_rfl)
  obtain ⟨d0, d1, d2, d3, d4, rfl⟩ : ∃ d0 d1 d2 d3 d4, cs = [d0, d1, d2, d3, d4] := by
    match cs, hl with
    | [d0, d1, d2, d3, d4], _ => exact ⟨d0, d1, d2, d3, d4, rfl⟩
  simp only [c3_one, show Try.prog.cellsOf 39 = 3 by kernel_rfl, List.drop_zero, List.drop_succ_cons, List.take_succ_cons, List.take_zero] at h0 h1 h2
  obtain ⟨a, ha, _⟩ := DataW.trod_int Try.underlying3 h0
  obtain ⟨b, hb, _⟩ := DataW.trod_int Try.underlying3 h1
  obtain ⟨p, q, r, hc⟩ := id_of _ _ _ h2
  simp only [List.cons.injEq, and_true] at ha hb hc
  obtain ⟨rfl, rfl, rfl⟩ := hc
  subst ha hb
  exact ⟨⟨a, b, p, q, r⟩, rfl, trivial⟩
theorem open_tms {r : Reach} {b0 : Nat} {v : Value} {d : DataW H} {p : List MemPlace}
    (hv : Value.okWide Try.prog W r b0 22 v) (h : DataW.Trod enc Try.prog W base (fun _ => true) held 22 v d p) : ∃ cs : List Tm, RdM W v cs := by
  obtain ⟨cs, hr, _⟩ := open_rdl (R := tmR) (Wf := fun _ => True) Try.underlying22 (by kernel_rfl) tm_of hv h
  exact ⟨cs, hr⟩
theorem open_tm {r : Reach} {b0 : Nat} {v : Value} {d : DataW H} {p : List MemPlace}
    (hv : Value.okWide Try.prog W r b0 41 v) (h : DataW.Trod enc Try.prog W base (fun _ => true) held 41 v d p) : ∃ t : Tm, v = t.v := by
  obtain ⟨cs, rfl, hsz⟩ := okWide_struct Try.underlying41 hv
  obtain ⟨fuel, hf⟩ := h
  obtain ⟨t, ht, _⟩ := tm_of _ _ _ hf
  exact ⟨t, by
    have h5 : cs.toList = Tm.cs t := by have h6 : cs.toList = tmR.cells t := (by simpa [Value.cells] using ht); exact h6
    show Value.agg cs = Value.agg (Tm.cs t).toArray
    rw [← h5]⟩
theorem open_id {r : Reach} {b0 : Nat} {v : Value} {d : DataW H} {p : List MemPlace}
    (hv : Value.okWide Try.prog W r b0 39 v) (h : DataW.Trod enc Try.prog W base (fun _ => true) held 39 v d p) : ∃ a b c : Int, v = .agg #[.int .i64 a, .int .u64 b, .int .i64 c] := by
  obtain ⟨cs, rfl, hsz⟩ := okWide_struct Try.underlying39 hv
  obtain ⟨fuel, hf⟩ := h
  obtain ⟨a, b, c, ht⟩ := id_of _ _ _ hf
  exact ⟨a, b, c, by
    have h5 : cs.toList = [.int .i64 a, .int .u64 b, .int .i64 c] := by simpa [Value.cells] using ht
    show Value.agg cs = Value.agg [Value.int .i64 a, .int .u64 b, .int .i64 c].toArray
    rw [← h5]⟩
end
end Go.Proofs.Ytigmhglkohjlhaa
