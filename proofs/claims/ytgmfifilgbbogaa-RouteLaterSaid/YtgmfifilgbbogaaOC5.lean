


/- Five arguments, opened one by one. -/
import Derived.Test.YtgmfifilgbbogaaOC
namespace Go.Proofs.Ytgmfifilgbbogaa
open Go.ChangeShapes Go.WideShapes Go.ChangeAt Go.RowKit Go.Joins Go.Deep
section
variable {H : Type} {enc : TypeId × Value → H} {P : Program} {w : World} {base : Nat} {held : Bool}
theorem trodAll_five {spare : Nat → Bool} {t0 t1 t2 t3 t4 : TypeId} {args : Array Value} {ds : List (DataW H)} {ps : List MemPlace} (h : DataW.TrodAll enc P w base spare held [t0, t1, t2, t3, t4] args.toList ds ps) :
    ∃ v0 v1 v2 v3 v4 d0 d1 d2 d3 d4 p0 p1 p2 p3 p4, args = #[v0, v1, v2, v3, v4] ∧ ds = [d0, d1, d2, d3, d4] ∧ DataW.Trod enc P w base spare held t0 v0 d0 p0 ∧ DataW.Trod enc P w base spare held t1 v1 d1 p1 ∧ DataW.Trod enc P w base spare held t2 v2 d2 p2 ∧
      DataW.Trod enc P w base spare held t3 v3 d3 p3 ∧ DataW.Trod enc P w base spare held t4 v4 d4 p4 := by
  obtain ⟨v0, vs, d0, _, p0, _, hargs, rfl, _, h0, h⟩ := trodAll_cons h
  obtain ⟨v1, vs, d1, _, p1, _, rfl, rfl, _, h1, h⟩ := trodAll_cons h
  obtain ⟨v2, vs, d2, _, p2, _, rfl, rfl, _, h2, h⟩ := trodAll_cons h
  obtain ⟨v3, vs, d3, _, p3, _, rfl, rfl, _, h3, h⟩ := trodAll_cons h
  obtain ⟨v4, vs, d4, _, p4, _, rfl, rfl, _, h4, h⟩ := trodAll_cons h
  obtain ⟨rfl, rfl, _⟩ := trodAll_nil h
  exact ⟨v0, v1, v2, v3, v4, d0, d1, d2, d3, d4, p0, p1, p2, p3, p4, by cases args; simp_all, rfl, h0, h1, h2, h3, h4⟩
end
end Go.Proofs.Ytgmfifilgbbogaa
