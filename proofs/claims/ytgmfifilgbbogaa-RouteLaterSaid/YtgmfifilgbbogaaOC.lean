


/- An argument that is a list of contacts, opened: what it reads as, and that its numbers are numbers. -/
import Derived.Test.YtgmfifilgbbogaaG
import Derived.Test.YtgmfifilgbbogaaO
import Derived.Test.YtgmfifilgbbogaaD
namespace Go.Proofs.Ytgmfifilgbbogaa
open Go.ChangeShapes Go.WideShapes Go.ChangeAt Go.RowKit Go.Joins Go.Deep
set_option linter.unusedSimpArgs false
set_option linter.unusedVariables false

section
variable {H : Type} {enc : TypeId × Value → H} {P : Program} {w : World} {base : Nat} {held : Bool}
theorem ct_of {fs : Array Field} {e t3 : TypeId} {n : Nat} {cs : List Value} {x : DataW H × List MemPlace} (he : P.underlying e = some (.struct fs)) (h6 : fs.size = 6) (hone : oneCellFields P fs = true) (hC : P.cellsOf e = 6) (hi : P.underlying t3 = some (.int .i64)) (ht : ∀ f ∈ fs, f.type = t3)
    (h : DataW.trod enc P w base (fun _ => true) held n e cs = some x) : ∃ c : Ct, cs = c.cells ∧ Wf c := by
  obtain ⟨xs, m, _, _, hlen, hxl, hg⟩ := DataW.trod_struct he h
  rw [hC] at hlen
  have key : ∀ j, j < 6 → ∃ z : Int, cs[j]? = some (.int .i64 z) ∧ (Lit.int .i64 z).wf = true := by
    intro j hj
    have hf : fs[j]? = some (fs[j]'(by omega)) := Array.getElem?_eq_getElem (by omega)
    obtain ⟨ho, hk⟩ := hone_of hone j _ hf
    have h1 := hg j _ hf
    rw [ho, hk, List.drop_eq_getElem_cons (by omega)] at h1
    have hx : xs[j]? = some (xs[j]'(by omega)) := List.getElem?_eq_getElem (by omega)
    rw [hx, ht _ (Array.getElem_mem _)] at h1
    simp only [List.take_succ_cons, List.take_zero] at h1
    obtain ⟨z, hz, _, hw⟩ := DataW.trod_int hi h1
    simp only [List.cons.injEq, and_true] at hz
    exact ⟨z, by rw [List.getElem?_eq_getElem (by omega), hz], hw⟩
  obtain ⟨z0, q0, w0⟩ := key 0 (by omega)
  obtain ⟨z1, q1, w1⟩ := key 1 (by omega)
  obtain ⟨z2, q2, w2⟩ := key 2 (by omega)
  obtain ⟨z3, q3, w3⟩ := key 3 (by omega)
  obtain ⟨z4, q4, w4⟩ := key 4 (by omega)
  obtain ⟨z5, q5, w5⟩ := key 5 (by omega)
  obtain ⟨d0, d1, d2, d3, d4, d5, rfl⟩ : ∃ d0 d1 d2 d3 d4 d5, cs = [d0, d1, d2, d3, d4, d5] := by
    match cs, hlen with
    | [d0, d1, d2, d3, d4, d5], _ => exact ⟨d0, d1, d2, d3, d4, d5, rfl⟩
  simp at q0 q1 q2 q3 q4 q5
  subst q0 q1 q2 q3 q4 q5
  exact ⟨⟨z0, z1, z2, z3, z4, z5⟩, rfl, w0, w1, w2, w3, w4, w5⟩

theorem list_of {Q : Nat → Ct → Prop} : ∀ (n : Nat), (∀ i, i < n → ∃ c, Q i c) → ∃ cs : List Ct, cs.length = n ∧ ∀ i, i < n → Q i (cs.getD i c0)
  | 0, _ => ⟨[], rfl, fun i hi => by omega⟩
  | n + 1, h => by
    obtain ⟨cs, hl, hc⟩ := list_of n (fun i hi => h i (by omega))
    obtain ⟨c, hq⟩ := h n (by omega)
    refine ⟨cs ++ [c], by simp [hl], fun i hi => ?_⟩
    by_cases hin : i = n
    · subst hin
      simp [List.getD_eq_getElem?_getD, ← hl]
      rw [hl]; exact hq
    · have := hc i (by omega)
      rw [List.getD_eq_getElem?_getD] at this ⊢
      rwa [List.getElem?_append_left (by omega)]

theorem rdc_of {fs : Array Field} {t e t3 : TypeId} {fuel : Nat} {v : Value} {x : DataW H × List MemPlace} (htt : P.underlying t = some (.slice e)) (he : P.underlying e = some (.struct fs)) (h6 : fs.size = 6) (hone : oneCellFields P fs = true) (hC : P.cellsOf e = 6) (hi : P.underlying t3 = some (.int .i64)) (ht : ∀ f ∈ fs, f.type = t3)
    (h : DataW.trod enc P w base (fun _ => true) held fuel t [v] = some x) : ∃ cs : List Ct, RdC w v cs ∧ ∀ c, c ∈ cs → Wf c := by
  rcases open_slice htt h with ⟨hcs, _⟩ | ⟨a, len, cap, m, n, D, Pl, hcs, _, hl, hm, hmm, _, hel⟩
  · simp only [List.cons.injEq, and_true] at hcs
    subst hcs
    exact ⟨[], RdC.nil w, fun c hc => by cases hc⟩
  · simp only [List.cons.injEq, and_true] at hcs
    subst hcs
    simp at hmm
    subst hmm
    obtain ⟨cs, hlen, hc⟩ := list_of (Q := fun i c => (∀ j, j < 6 → w.cell? (a.add (i * 6 + j)) = c.cells[j]?) ∧ Wf c) len (fun i hi' => by
      obtain ⟨cs', hcc, htr⟩ := hel i (by omega)
      rw [hC] at hcc
      obtain ⟨c, rfl, hw⟩ := ct_of he h6 hone hC hi ht htr
      obtain ⟨_, _, hat⟩ := World.cells?_some hcc
      refine ⟨c, fun j hj => ?_, hw⟩
      rw [← Go.Deep.add_add, hat j hj])
    refine ⟨cs, ⟨ccs_length cs, by omega, ?_⟩, fun c hcm => ?_⟩
    · rw [hlen]
      by_cases h0 : len = 0
      · exact .inl ⟨h0, some a, m, by rw [h0], fun h => by cases h⟩
      · obtain ⟨b, off, spot⟩ := a
        have h1 := (hc 0 (by omega)).1 0 (by omega)
        have hspot : spot = none := by simpa [Addr.add] using World.cell?_spot (h1.trans (by simp [Ct.cells]; rfl))
        subst hspot
        refine .inr ⟨b, off, m, rfl, hl, fun j u hj => ?_⟩
        have hjl : j < len * 6 := by have := (List.getElem?_eq_some_iff.1 hj).1; rw [ccs_length, hlen] at this; exact this
        have h2 := (hc (j / 6) (by omega)).1 (j % 6) (by omega)
        rw [show j / 6 * 6 + j % 6 = j by omega, Go.WideShapes.add_plain] at h2
        rw [h2, ← ccs_get cs (j / 6) (j % 6) (by rw [hlen]; omega) (by omega), show j / 6 * 6 + j % 6 = j by omega]
        exact hj
    · obtain ⟨i, hi', rfl⟩ := List.getElem_of_mem hcm
      have := (hc i (by omega)).2
      rwa [List.getD_eq_getElem?_getD, List.getElem?_eq_getElem hi'] at this

theorem trodAll_six {spare : Nat → Bool} {t0 t1 t2 t3 t4 t5 : TypeId} {args : Array Value} {ds : List (DataW H)} {ps : List MemPlace} (h : DataW.TrodAll enc P w base spare held [t0, t1, t2, t3, t4, t5] args.toList ds ps) :
    ∃ v0 v1 v2 v3 v4 v5 d0 d1 d2 d3 d4 d5 p0 p1 p2 p3 p4 p5, args = #[v0, v1, v2, v3, v4, v5] ∧ ds = [d0, d1, d2, d3, d4, d5] ∧ DataW.Trod enc P w base spare held t0 v0 d0 p0 ∧ DataW.Trod enc P w base spare held t1 v1 d1 p1 ∧ DataW.Trod enc P w base spare held t2 v2 d2 p2 ∧
      DataW.Trod enc P w base spare held t3 v3 d3 p3 ∧ DataW.Trod enc P w base spare held t4 v4 d4 p4 ∧ DataW.Trod enc P w base spare held t5 v5 d5 p5 := by
  obtain ⟨v0, vs, d0, _, p0, _, hargs, rfl, _, h0, h⟩ := trodAll_cons h
  obtain ⟨v1, vs, d1, _, p1, _, rfl, rfl, _, h1, h⟩ := trodAll_cons h
  obtain ⟨v2, vs, d2, _, p2, _, rfl, rfl, _, h2, h⟩ := trodAll_cons h
  obtain ⟨v3, vs, d3, _, p3, _, rfl, rfl, _, h3, h⟩ := trodAll_cons h
  obtain ⟨v4, vs, d4, _, p4, _, rfl, rfl, _, h4, h⟩ := trodAll_cons h
  obtain ⟨v5, vs, d5, _, p5, _, rfl, rfl, _, h5, h⟩ := trodAll_cons h
  obtain ⟨rfl, rfl, _⟩ := trodAll_nil h
  exact ⟨v0, v1, v2, v3, v4, v5, d0, d1, d2, d3, d4, d5, p0, p1, p2, p3, p4, p5, by cases args; simp_all, rfl, h0, h1, h2, h3, h4, h5⟩
theorem open_rdc {fs : Array Field} {r : Reach} {b0 : Nat} {t e t3 : TypeId} {v : Value} {d : DataW H} {p : List MemPlace} (htt : P.underlying t = some (.slice e)) (he : P.underlying e = some (.struct fs)) (h6 : fs.size = 6) (hone : oneCellFields P fs = true) (hC : P.cellsOf e = 6) (hi : P.underlying t3 = some (.int .i64)) (ht : ∀ f ∈ fs, f.type = t3)
    (hv : Value.okWide P w r b0 t v) (h : DataW.Trod enc P w base (fun _ => true) held t v d p) : ∃ cs : List Ct, RdC w v cs ∧ ∀ c, c ∈ cs → Wf c := by
  obtain ⟨a, len, cap, rfl⟩ := okWide_slice htt hv
  obtain ⟨fuel, hf⟩ := h
  exact rdc_of htt he h6 hone hC hi ht (by simpa [Value.cells] using hf)
end
end Go.Proofs.Ytgmfifilgbbogaa
