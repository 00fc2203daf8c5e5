

/- Arguments opened: a config, a space. -/
import Derived.Test.YtnbjdgjopdeolaaOC
import Derived.Test.YtnbjdgjopdeolaaFA
import Derived.Laws.IdiomArrays
namespace Go.Proofs.Ytnbjdgjopdeolaa
open Go.ChangeShapes Go.WideShapes Go.ChangeAt Go.RowKit Go.Joins Go.Deep
set_option linter.unusedSimpArgs false
set_option linter.unusedVariables false
set_option maxRecDepth 100000

theorem Try.cells35 : Try.prog.cellsOf 35 = 16 := by kernel_rfl
theorem Try.cellsU : Try.prog.cellsOf 32 = 1 := by kernel_rfl
theorem Try.cellsI : Try.prog.cellsOf 3 = 1 := by kernel_rfl
theorem Try.cellsA3 : Try.prog.cellsOf 33 = 3 := by kernel_rfl
theorem Try.cells38 : Try.prog.cellsOf 38 = 3 := by kernel_rfl
section
variable {H : Type} {enc : TypeId × Value → H} {w : World} {base : Nat} {held : Bool}
theorem open_cfg {r : Reach} {b0 : Nat} {v : Value} {d : DataW H} {p : List MemPlace} (hv : Value.okWide Try.prog w r b0 35 v) (h : DataW.Trod enc Try.prog w base (fun _ => true) held 35 v d p) : ∃ c : Cf, v = c.v := by
  obtain ⟨cs, rfl, hsz⟩ := okWide_struct Try.underlying35 hv
  obtain ⟨l⟩ := cs
  match l, hsz.trans Try.cells35 with
  | [c0, c1, c2, c3, c4, c5, c6, c7, c8, c9, c10, c11, c12, c13, c14, c15], _ =>
    obtain ⟨fuel, hf⟩ := h
    obtain ⟨xs, n, _, _, _, hlen, hg⟩ := DataW.trod_struct Try.underlying35 hf
    match xs, hlen with
    | [y0, y1, y2, y3, y4, y5, y6, y7, y8, y9, y10, y11, y12, y13], _ =>
      have g0 := hg 0 _ rfl
      have g1 := hg 1 _ rfl
      have g2 := hg 2 _ rfl
      have g3 := hg 3 _ rfl
      have g4 := hg 4 _ rfl
      have g5 := hg 5 _ rfl
      have g6 := hg 6 _ rfl
      have g7 := hg 7 _ rfl
      have g8 := hg 8 _ rfl
      have g9 := hg 9 _ rfl
      have g10 := hg 10 _ rfl
      have g11 := hg 11 _ rfl
      have g12 := hg 12 _ rfl
      have g13 := hg 13 _ rfl
      simp [Value.cells, Try.cellsU, Try.cellsI, Try.cellsA3] at g0 g1 g2 g3 g4 g5 g6 g7 g8 g9 g10 g11 g12 g13
      obtain ⟨a0, e0, _⟩ := DataW.trod_int Try.underlying3 g0
      obtain ⟨a1, e1, _⟩ := DataW.trod_int Try.underlying32 g1
      obtain ⟨a2, e2, _⟩ := DataW.trod_int Try.underlying32 g2
      obtain ⟨a3, e3, _⟩ := DataW.trod_int Try.underlying32 g3
      obtain ⟨a4, e4, _⟩ := DataW.trod_int Try.underlying32 g4
      obtain ⟨a5, e5, _⟩ := DataW.trod_int Try.underlying3 g5
      obtain ⟨a6, e6, _⟩ := DataW.trod_int Try.underlying3 g6
      obtain ⟨a7, e7, _⟩ := DataW.trod_int Try.underlying3 g7
      obtain ⟨_, _, _, _, _, h8, h9, h10⟩ := trod_array3 Try.underlying33 Try.cellsI g8
      obtain ⟨a8, e8, _⟩ := DataW.trod_int Try.underlying3 h8
      obtain ⟨a9, e9, _⟩ := DataW.trod_int Try.underlying3 h9
      obtain ⟨a10, e10, _⟩ := DataW.trod_int Try.underlying3 h10
      obtain ⟨a11, e11, _⟩ := DataW.trod_int Try.underlying3 g9
      obtain ⟨a12, e12, _⟩ := DataW.trod_int Try.underlying3 g10
      obtain ⟨a13, e13, _⟩ := DataW.trod_int Try.underlying3 g11
      obtain ⟨a14, e14, _⟩ := DataW.trod_int Try.underlying3 g12
      obtain ⟨a15, e15, _⟩ := DataW.trod_int Try.underlying3 g13
      simp only [List.cons.injEq, and_true] at e0 e1 e2 e3 e4 e5 e6 e7 e8 e9 e10 e11 e12 e13 e14 e15
      subst e0 e1 e2 e3 e4 e5 e6 e7 e8 e9 e10 e11 e12 e13 e14 e15
      exact ⟨⟨a0, a1, a2, a3, a4, a5, a6, a7, a8, a9, a10, a11, a12, a13, a14, a15⟩, rfl⟩
theorem open_spc {r : Reach} {b0 : Nat} {v : Value} {d : DataW H} {p : List MemPlace} (hv : Value.okWide Try.prog w r b0 38 v) (h : DataW.Trod enc Try.prog w base (fun _ => true) held 38 v d p) :
    ∃ q st rs xs, v = Sv q st rs ∧ Inp q st xs ∧ RdI .u64 w rs xs := by
  obtain ⟨c0, c1, c2, y0, y1, y2, m, rfl, hy, _, hy0, hy1, hy2⟩ := open_agg3 Try.underlying38 (by kernel_rfl) Try.cells38 hv h
  obtain ⟨q, hq, _, wq⟩ := DataW.trod_int Try.underlying32 hy0
  obtain ⟨st, hst, _, wst⟩ := DataW.trod_int Try.underlying32 hy1
  simp only [List.cons.injEq, and_true] at hq hst
  subst hq hst
  obtain ⟨l, hr, hl⟩ := rdi_of Try.underlying36 Try.underlying32 Try.cellsU hy2
  exact ⟨q, st, c2, l, rfl, ⟨bd_u64 wq, bd_u64 wst, fun x hx => bd_u64 (hl x hx)⟩, hr⟩
theorem open_ahead {r : Reach} {b0 : Nat} {v : Value} {d : DataW H} {p : List MemPlace} (hC : Try.prog.cellsOf 41 = 3) (hv : Value.okWide Try.prog w r b0 41 v) (h : DataW.Trod enc Try.prog w base (fun _ => true) held 41 v d p) :
    ∃ now un sz : Int, v = .agg #[.int .i64 now, .int .i64 un, .int .u64 sz] ∧ (-9223372036854775808 ≤ now ∧ now ≤ 9223372036854775807) ∧ (-9223372036854775808 ≤ un ∧ un ≤ 9223372036854775807) ∧ (0 ≤ sz ∧ sz < 18446744073709551616) := by
  obtain ⟨c0, c1, c2, y0, y1, y2, m, rfl, hy, _, hy0, hy1, hy2⟩ := open_agg3 Try.underlying41 (by kernel_rfl) hC hv h
  obtain ⟨a, ha, _, wa⟩ := DataW.trod_int Try.underlying3 hy0
  obtain ⟨b, hb, _, wb⟩ := DataW.trod_int Try.underlying3 hy1
  obtain ⟨c, hc, _, wc⟩ := DataW.trod_int Try.underlying32 hy2
  simp only [List.cons.injEq, and_true] at ha hb hc
  subst ha hb hc
  exact ⟨a, b, c, rfl, bd_i64 wa, bd_i64 wb, bd_u64 wc⟩
end
end Go.Proofs.Ytnbjdgjopdeolaa
