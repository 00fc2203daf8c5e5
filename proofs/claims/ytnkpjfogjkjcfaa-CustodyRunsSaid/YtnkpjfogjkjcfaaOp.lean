


/- Custody: tags, frames, moves, copies and worlds as arguments, opened. -/
import Derived.Test.YtnkpjfogjkjcfaaZ
import Derived.Test.YtnkpjfogjkjcfaaO
import Derived.Deep.Strs
namespace Go.Proofs.Ytnkpjfogjkjcfaa
open Go.ChangeShapes Go.WideShapes Go.ChangeAt Go.RowKit Go.Joins Go.Deep
set_option linter.unusedSimpArgs false
set_option linter.unusedVariables false
set_option maxRecDepth 100000

theorem Try.laidOut : laidOutB Try.prog = true := by kernel_rfl
theorem Try.own : ownKnob Try.prog.godebug = none := by kernel_rfl
section
variable {H : Type} {enc : TypeId × Value → H} {W : World} {base : Nat} {held : Bool}
theorem c3_one : Try.prog.cellsOf 3 = 1 := by kernel_rfl
/-- a struct of one-cell fields, opened field by field -/
theorem fields_of {P : Program} {w : World} {fs : Array Field} {e : TypeId} {m n : Nat} {cs : List Value} {x : DataW H × List MemPlace} (he : P.underlying e = some (.struct fs)) (hn : fs.size = n) (hone : oneCellFields P fs = true) (hC : P.cellsOf e = n)
    (h : DataW.trod enc P w base (fun _ => true) held m e cs = some x) : cs.length = n ∧ ∀ (j : Nat) (f : Field), fs[j]? = some f → ∃ v m y, cs[j]? = some v ∧ DataW.trod enc P w base (fun _ => true) held m f.type [v] = some y := by
  obtain ⟨xs, m, _, _, hlen, hxl, hg⟩ := DataW.trod_struct he h
  rw [hC] at hlen
  refine ⟨hlen, fun j f hf => ?_⟩
  have hj : j < fs.size := (Array.getElem?_eq_some_iff.1 hf).1
  obtain ⟨ho, hk⟩ := hone_of hone j _ hf
  have h1 := hg j _ hf
  rw [ho, hk, List.drop_eq_getElem_cons (by omega)] at h1
  have hx : xs[j]? = some (xs[j]'(by omega)) := List.getElem?_eq_getElem (by omega)
  rw [hx] at h1
  simp only [List.take_succ_cons, List.take_zero] at h1
  exact ⟨_, _, _, List.getElem?_eq_getElem (by omega), h1⟩
theorem tg_of (n : Nat) (cs : List Value) (x : DataW H × List MemPlace) (h : DataW.trod enc Try.prog W base (fun _ => true) held n 80 cs = some x) : ∃ t : Tg, cs = tgR.cells t ∧ True := by
  obtain ⟨hl, hz⟩ := ints_of (n := 2) Try.underlying80 rfl (by kernel_rfl) (by kernel_rfl) Try.underlying3 (by decide) h
  obtain ⟨a, ha, _⟩ := hz 0 (by omega)
  obtain ⟨b, hb, _⟩ := hz 1 (by omega)
  match cs, hl, ha, hb with
  | [_, _], _, rfl, rfl => exact ⟨⟨a, b⟩, rfl, trivial⟩
theorem ps_of (n : Nat) (cs : List Value) (x : DataW H × List MemPlace) (h : DataW.trod enc Try.prog W base (fun _ => true) held n 47 cs = some x) : ∃ t : Ps, cs = psR.cells t ∧ True := by
  obtain ⟨hl, hz⟩ := ints_of (n := 4) Try.underlying47 rfl (by kernel_rfl) (by kernel_rfl) Try.underlying3 (by decide) h
  obtain ⟨a, ha, _⟩ := hz 0 (by omega)
  obtain ⟨b, hb, _⟩ := hz 1 (by omega)
  obtain ⟨c, hc, _⟩ := hz 2 (by omega)
  obtain ⟨d, hd, _⟩ := hz 3 (by omega)
  match cs, hl, ha, hb, hc, hd with
  | [_, _, _, _], _, rfl, rfl, rfl, rfl => exact ⟨⟨a, b, c, d⟩, rfl, trivial⟩
theorem mv_of (n : Nat) (cs : List Value) (x : DataW H × List MemPlace) (h : DataW.trod enc Try.prog W base (fun _ => true) held n 40 cs = some x) : ∃ t : Mv, cs = mvR.cells t ∧ True := by
  obtain ⟨hl, hz⟩ := ints_of (n := 4) Try.underlying40 rfl (by kernel_rfl) (by kernel_rfl) Try.underlying3 (by decide) h
  obtain ⟨a, ha, _⟩ := hz 0 (by omega)
  obtain ⟨b, hb, _⟩ := hz 1 (by omega)
  obtain ⟨c, hc, _⟩ := hz 2 (by omega)
  obtain ⟨d, hd, _⟩ := hz 3 (by omega)
  match cs, hl, ha, hb, hc, hd with
  | [_, _, _, _], _, rfl, rfl, rfl, rfl => exact ⟨⟨a, b, c, d⟩, rfl, trivial⟩
theorem cp_of (n : Nat) (cs : List Value) (x : DataW H × List MemPlace) (h : DataW.trod enc Try.prog W base (fun _ => true) held n 45 cs = some x) : ∃ y : Cq, cs = cpR.cells y ∧ ∃ c : Cp, CopR W y c := by
  obtain ⟨hl, hz⟩ := fields_of (n := 6) Try.underlying45 rfl (by kernel_rfl) (by kernel_rfl) h
  obtain ⟨v0, _, _, e0, t0⟩ := hz 0 _ rfl
  obtain ⟨v1, _, _, e1, t1⟩ := hz 1 _ rfl
  obtain ⟨v2, _, _, e2, t2⟩ := hz 2 _ rfl
  obtain ⟨v3, _, _, e3, t3⟩ := hz 3 _ rfl
  obtain ⟨v4, _, _, e4, t4⟩ := hz 4 _ rfl
  obtain ⟨v5, _, _, e5, t5⟩ := hz 5 _ rfl
  obtain ⟨a, ha, _⟩ := DataW.trod_int Try.underlying3 t0
  obtain ⟨b, hb, _⟩ := DataW.trod_int Try.underlying3 t1
  obtain ⟨c, hc, _⟩ := DataW.trod_int Try.underlying3 t2
  obtain ⟨d, hd, _⟩ := DataW.trod_int Try.underlying3 t3
  obtain ⟨tk, htk, _⟩ := rdl_of (R := tgR) (Wf := fun _ => True) Try.underlying43 (by kernel_rfl) tg_of t4
  obtain ⟨kp, hkp, _⟩ := rdl_of (R := tgR) (Wf := fun _ => True) Try.underlying43 (by kernel_rfl) tg_of t5
  simp only [List.cons.injEq, and_true] at ha hb hc hd
  subst ha hb hc hd
  obtain ⟨ta, tc, rfl⟩ := htk.form
  obtain ⟨ka, kc, rfl⟩ := hkp.form
  match cs, hl, e0, e1, e2, e3, e4, e5 with
  | [_, _, _, _, _, _], _, rfl, rfl, rfl, rfl, rfl, rfl => exact ⟨⟨a, b, c, d, ta, tk.length, tc, ka, kp.length, kc⟩, rfl, ⟨a, b, c, d, tk, kp⟩, rfl, rfl, rfl, rfl, htk, hkp⟩
theorem cps_of {w : World} : ∀ (q : List Cq), (∀ y, y ∈ q → ∃ c : Cp, CopR w y c) → ∃ l : List Cp, l.length = q.length ∧ ∀ i, CopR w (gq q i) (gc l i)
  | [], _ => ⟨[], rfl, fun i => CopR.zero w⟩
  | y :: q, h => by
    obtain ⟨l, hl, hc⟩ := cps_of q (fun z hz => h z (List.mem_cons_of_mem _ hz))
    obtain ⟨c, hy⟩ := h y (List.mem_cons_self ..)
    refine ⟨c :: l, by simp [hl], fun i => ?_⟩
    cases i with
    | zero => exact hy
    | succ i => exact hc i
theorem open_wd {r : Reach} {b0 : Nat} {v : Value} {d : DataW H} {p : List MemPlace}
    (hv : Value.okWide Try.prog W r b0 25 v) (h : DataW.Trod enc Try.prog W base (fun _ => true) held 25 v d p) : ∃ X : Wd, RdW W v X := by
  obtain ⟨cs, rfl, hsz⟩ := okWide_struct Try.underlying25 hv
  obtain ⟨fuel, hf⟩ := h
  obtain ⟨hl, hz⟩ := fields_of (n := 3) Try.underlying25 rfl (by kernel_rfl) (by kernel_rfl) hf
  obtain ⟨v0, _, _, e0, t0⟩ := hz 0 _ rfl
  obtain ⟨v1, _, _, e1, t1⟩ := hz 1 _ rfl
  obtain ⟨v2, _, _, e2, t2⟩ := hz 2 _ rfl
  obtain ⟨a, ha, _⟩ := DataW.trod_int Try.underlying3 t0
  obtain ⟨q, hq, hw⟩ := rdl_of (R := cpR) (Wf := fun y => ∃ c : Cp, CopR W y c) Try.underlying22 (by kernel_rfl) cp_of t1
  obtain ⟨fr, hfr, _⟩ := rdl_of (R := psR) (Wf := fun _ => True) Try.underlying23 (by kernel_rfl) ps_of t2
  simp only [List.cons.injEq, and_true] at ha
  subst ha
  obtain ⟨l, hll, hcc⟩ := cps_of q hw
  refine ⟨⟨a, l, fr⟩, v1, v2, q, ?_, hq, hfr, hll.symm, hcc⟩
  have hl : cs.toList.length = 3 := by simpa [Value.cells] using hl
  have e0 : cs.toList[0]? = some (.int .i64 a) := by simpa [Value.cells] using e0
  have e1 : cs.toList[1]? = some v1 := by simpa [Value.cells] using e1
  have e2 : cs.toList[2]? = some v2 := by simpa [Value.cells] using e2
  obtain ⟨cs⟩ := cs
  simp only at hl e0 e1 e2
  match cs, hl, e0, e1, e2 with
  | [_, _, _], _, rfl, rfl, rfl => rfl
theorem open_mv {r : Reach} {b0 : Nat} {v : Value} {d : DataW H} {p : List MemPlace}
    (hv : Value.okWide Try.prog W r b0 40 v) (h : DataW.Trod enc Try.prog W base (fun _ => true) held 40 v d p) : ∃ m : Mv, v = m.v := by
  obtain ⟨cs, rfl, hsz⟩ := okWide_struct Try.underlying40 hv
  obtain ⟨fuel, hf⟩ := h
  obtain ⟨t, ht, _⟩ := mv_of _ _ _ hf
  exact ⟨t, by
    have h5 : cs.toList = Mv.vs t := by have h6 : cs.toList = mvR.cells t := (by simpa [Value.cells] using ht); exact h6
    show Value.agg cs = Value.agg (Mv.vs t).toArray
    rw [← h5]⟩
theorem open_mvs {r : Reach} {b0 : Nat} {v : Value} {d : DataW H} {p : List MemPlace}
    (hv : Value.okWide Try.prog W r b0 26 v) (h : DataW.Trod enc Try.prog W base (fun _ => true) held 26 v d p) : ∃ l : List Mv, RdL mvR W v l := by
  obtain ⟨cs, hr, _⟩ := open_rdl (R := mvR) (Wf := fun _ => True) Try.underlying26 (by kernel_rfl) mv_of hv h
  exact ⟨cs, hr⟩
end
end Go.Proofs.Ytnkpjfogjkjcfaa
