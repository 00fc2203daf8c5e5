




/- What the card's conditions give the walks: the table of faces, the map of steps. -/
import Derived.Test.YtcjlbpndgjapiaaDoorPf
import Derived.Test.YtcjlbpndgjapiaaDoorH
import Derived.Test.YtcjlbpndgjapiaaDoorRW
import Derived.Test.YtcjlbpndgjapiaaDoorRows
import Derived.Deep.Strs
import Derived.ChangeMaps5
import Derived.OpenShut
import Derived.LaidMore
import Derived.LaidSub
import Derived.Stop.Joined
import Derived.WideKeyElems2
import Derived.Lib.LaidU8
namespace Go.Proofs.YtcjlbpndgjapiaaDoor
open Go.ChangeShapes Go.WideShapes Go.ChangeAt Go.RowKit Go.Joins Go.Deep
set_option linter.unusedSimpArgs false
set_option linter.unusedVariables false
set_option maxRecDepth 100000

abbrev laid1 : List (String × DataW Unit) := [("packhorse/trace.faces", Rows.laid_packhorse_trace_faces), ("packhorse/model.steps", Rows.laid_packhorse_model_steps)]
theorem gFaces : Tryd.prog.globalNamed "packhorse/trace.faces" = some 1 := by kernel_rfl
theorem tFaces : (Tryd.prog.globals[1]?).map (·.type) = some 126 := by kernel_rfl
theorem gSteps : Tryd.prog.globalNamed "packhorse/model.steps" = some 0 := by kernel_rfl
theorem tSteps : (Tryd.prog.globals[0]?).map (·.type) = some 108 := by kernel_rfl
theorem cellsFace : Tryd.prog.cellsOf 125 = 2 := by kernel_rfl
theorem cellsFaces : Tryd.prog.cellsOf 126 = 32 := by kernel_rfl
theorem cellsInt : Tryd.prog.cellsOf 3 = 1 := by kernel_rfl
/-- an element of a table of functions is the one of its name -/
theorem elem_func {W : World} {n : Nat} {v : Value} {y : DataW (List UInt8) × List MemPlace} {b : UInt8} {r : List UInt8} {f0 : FuncId}
    (h : WideElems.elemAt (funcToken Tryd.prog) Tryd.prog W 0 (fun _ => true) true n 107 v = some y) (hy : y.1 = .held (b :: r))
    (hone : ((List.range Tryd.prog.funcs.size).filter fun f => (Tryd.prog.funcs[f]?).any (·.name.toUTF8.data.toList == b :: r)) = [f0]) : v = .func (.func f0) #[] #[] := by
  unfold WideElems.elemAt at h
  split at h
  · rename_i hf
    obtain ⟨d, q⟩ := y
    simp only at hy
    subst hy
    cases v with
    | agg cs => simp [Value.formed, Tryd.underlying107] at hf
    | _ => exact Go.func_of_trod (f0 := f0) Tryd.underlying107 hone h
  · cases h
set_option maxHeartbeats 1000000 in
theorem sd_of {W : World} (h : laidMetH Tryd.prog laid1 W) : SD W := by
  obtain ⟨g, t, cs, fuel, p, hg, ht, hv, hd⟩ := h.funcs (List.mem_cons_of_mem _ (List.mem_singleton.2 rfl))
  obtain rfl := Option.some.inj (gSteps.symm.trans hg)
  obtain rfl := Option.some.inj (tSteps.symm.trans ht)
  rcases WideElems.open_map Tryd.underlying108 hd with ⟨_, he⟩ | ⟨b, es, clock, n, rfl, hcs, hb, _, F, hx⟩
  · cases he
  · have hbl : b < W.heap.size := (Array.getElem?_eq_some_iff.1 hb).1
    refine ⟨b, ?_, fun w' hw k hk => ?_⟩
    · rw [World.var?_cell gSteps hv 0]
      obtain ⟨cs⟩ := cs
      simp only at hcs
      subst hcs
      rfl
    · have hb' : w'.heap[b]? = some (.map es clock) := (hw.block b hbl).trans hb
      have hwf : (Lit.int .i64 k).wf = true := by simp [Lit.wf, IntKind.min, IntKind.max, IntKind.signed, IntKind.bits]; unfold Ib at hk; omega
      have hkey : keyOf Tryd.prog 3 (.int .i64 k) = some (.int .i64 k) := Maps.keyOf_int_mk Tryd.underlying3 hwf
      have hz : (zeroValue 107).run Tryd.prog w' = .ok .nilFunc w' := by kernel_rfl
      simp only [Prod.mk.injEq] at hx
      have hD := hx.1
      have hno : mat k = false → ∀ zd, ((.map [(.int .i64 1, .held [40, 42, 112, 97, 99, 107, 104, 111, 114, 115, 101, 47, 109, 111, 100, 101, 108, 46, 102, 97, 116, 101, 41, 46, 97, 99, 99, 101, 112, 116]), (.int .i64 6, .held [40, 42, 112, 97, 99, 107, 104, 111, 114, 115, 101, 47, 109, 111, 100, 101, 108, 46, 102, 97, 116, 101, 41, 46, 116, 97, 107, 101]), (.int .i64 7, .held [40, 42, 112, 97, 99, 107, 104, 111, 114, 115, 101, 47, 109, 111, 100, 101, 108, 46, 102, 97, 116, 101, 41, 46, 104, 97, 110, 100]), (.int .i64 8, .held [40, 42, 112, 97, 99, 107, 104, 111, 114, 115, 101, 47, 109, 111, 100, 101, 108, 46, 102, 97, 116, 101, 41, 46, 100, 101, 108, 105, 118, 101, 114]), (.int .i64 9, .held [40, 42, 112, 97, 99, 107, 104, 111, 114, 115, 101, 47, 109, 111, 100, 101, 108, 46, 102, 97, 116, 101, 41, 46, 101, 120, 112, 105, 114, 101])] : DataW (List UInt8))).atKey (.int .i64 k) zd = zd := fun hm zd => by
        unfold mat at hm
        have hm := of_decide_eq_false hm
        have e1 : ∀ j : Int, (j = 1 ∨ j = 6 ∨ j = 7 ∨ j = 8 ∨ j = 9) → (Lit.int .i64 j).sameKey (.int .i64 k) = false := fun j hj => by
          unfold Lit.sameKey
          exact nb (fun h => by have := h.2; omega)
        unfold DataW.atKey
        simp only [List.find?_cons, e1 1 (by omega), e1 6 (by omega), e1 7 (by omega), e1 8 (by omega), e1 9 (by omega), List.find?_nil]
      have hyes : mat k = true → ∃ bb r, (((List.range Tryd.prog.funcs.size).filter fun f => (Tryd.prog.funcs[f]?).any (·.name.toUTF8.data.toList == bb :: r)) = [fnK k]) ∧ ∀ zd, ((.map [(.int .i64 1, .held [40, 42, 112, 97, 99, 107, 104, 111, 114, 115, 101, 47, 109, 111, 100, 101, 108, 46, 102, 97, 116, 101, 41, 46, 97, 99, 99, 101, 112, 116]), (.int .i64 6, .held [40, 42, 112, 97, 99, 107, 104, 111, 114, 115, 101, 47, 109, 111, 100, 101, 108, 46, 102, 97, 116, 101, 41, 46, 116, 97, 107, 101]), (.int .i64 7, .held [40, 42, 112, 97, 99, 107, 104, 111, 114, 115, 101, 47, 109, 111, 100, 101, 108, 46, 102, 97, 116, 101, 41, 46, 104, 97, 110, 100]), (.int .i64 8, .held [40, 42, 112, 97, 99, 107, 104, 111, 114, 115, 101, 47, 109, 111, 100, 101, 108, 46, 102, 97, 116, 101, 41, 46, 100, 101, 108, 105, 118, 101, 114]), (.int .i64 9, .held [40, 42, 112, 97, 99, 107, 104, 111, 114, 115, 101, 47, 109, 111, 100, 101, 108, 46, 102, 97, 116, 101, 41, 46, 101, 120, 112, 105, 114, 101])] : DataW (List UInt8))).atKey (.int .i64 k) zd = .held (bb :: r) := fun hm => by
        rcases mat_cases hm with rfl | rfl | rfl | rfl | rfl
        · exact ⟨_, _, by kernel_rfl, fun _ => rfl⟩
        · exact ⟨_, _, by kernel_rfl, fun _ => rfl⟩
        · exact ⟨_, _, by kernel_rfl, fun _ => rfl⟩
        · exact ⟨_, _, by kernel_rfl, fun _ => rfl⟩
        · exact ⟨_, _, by kernel_rfl, fun _ => rfl⟩
      have hDe : (DataW.map ((es.toList.map (WideElems.rg Tryd.prog 3 (WideElems.elemAt (funcToken Tryd.prog) Tryd.prog W 0 (fun _ => true) true n 107))).foldr DataW.insert []) : DataW (List UInt8)) = .map [(.int .i64 1, .held [40, 42, 112, 97, 99, 107, 104, 111, 114, 115, 101, 47, 109, 111, 100, 101, 108, 46, 102, 97, 116, 101, 41, 46, 97, 99, 99, 101, 112, 116]), (.int .i64 6, .held [40, 42, 112, 97, 99, 107, 104, 111, 114, 115, 101, 47, 109, 111, 100, 101, 108, 46, 102, 97, 116, 101, 41, 46, 116, 97, 107, 101]), (.int .i64 7, .held [40, 42, 112, 97, 99, 107, 104, 111, 114, 115, 101, 47, 109, 111, 100, 101, 108, 46, 102, 97, 116, 101, 41, 46, 104, 97, 110, 100]), (.int .i64 8, .held [40, 42, 112, 97, 99, 107, 104, 111, 114, 115, 101, 47, 109, 111, 100, 101, 108, 46, 102, 97, 116, 101, 41, 46, 100, 101, 108, 105, 118, 101, 114]), (.int .i64 9, .held [40, 42, 112, 97, 99, 107, 104, 111, 114, 115, 101, 47, 109, 111, 100, 101, 108, 46, 102, 97, 116, 101, 41, 46, 101, 120, 112, 105, 114, 101])] := hD.symm
      unfold stepF
      rcases Maps.fit_look false (Maps.int_keyed Tryd.underlying3) Tryd.underlying108 hz hb' F hkey with ⟨hrun, _, hat⟩ | ⟨e0, y, _, _, hrun, hR, hat, _⟩
      · rw [hDe] at hat
        cases hm : mat k with
        | false => rw [if_neg (by simp)]; exact hrun
        | true =>
          obtain ⟨bb, r, _, h2⟩ := hyes hm
          have := (h2 .nil).symm.trans (hat .nil)
          cases this
      · rw [hDe] at hat
        cases hm : mat k with
        | false =>
          have h1 := (hno hm .nil).symm.trans (hat .nil)
          have h2 := (hno hm (.agg [])).symm.trans (hat (.agg []))
          rw [← h1] at h2
          cases h2
        | true =>
          obtain ⟨bb, r, h1, h2⟩ := hyes hm
          rw [if_pos rfl, ← elem_func hR ((hat .nil).symm.trans (h2 .nil)) h1]
          exact hrun
theorem fc_of {W : World} (h : laidMetH Tryd.prog laid1 W) : FC W := by
  have h1 := (laidMetH_iff.1 h).1
  obtain ⟨g, t, cs, fuel, p, hg, ht, hv, hd⟩ := Lib.laidMet.reads h1 (n := "packhorse/trace.faces") (d := Rows.laid_packhorse_trace_faces) (List.mem_cons_self ..)
  obtain rfl := Option.some.inj (gFaces.symm.trans hg)
  obtain rfl := Option.some.inj (tFaces.symm.trans ht)
  obtain ⟨xs, m, _, hx, hlen, hxl, hel⟩ := DataW.trod_array Tryd.underlying126 hd
  rw [cellsFaces] at hlen
  rw [cellsFace] at hel
  simp only [Prod.mk.injEq] at hx
  have hx1 : ∀ j : Nat, (xs.map (·.1))[j]? = (match (Rows.laid_packhorse_trace_faces : DataW Unit) with | .agg l => l | _ => [])[j]? := fun j => by rw [hx.1]
  intro k hk1 hk2
  rw [World.var?_cell gFaces hv]
  have hkk := hel k (by omega)
  obtain ⟨s, hs⟩ : ∃ s, (match (Rows.laid_packhorse_trace_faces : DataW Unit) with | .agg l => l | _ => [])[k]? = some (.agg [s, .lit (.int .i64 (usN k))]) := by
    have hkd : k = 1 ∨ k = 2 ∨ k = 3 ∨ k = 4 ∨ k = 5 ∨ k = 6 ∨ k = 7 ∨ k = 8 ∨ k = 9 ∨ k = 10 ∨ k = 11 ∨ k = 12 ∨ k = 13 ∨ k = 14 ∨ k = 15 := by omega
    rcases hkd with rfl | rfl | rfl | rfl | rfl | rfl | rfl | rfl | rfl | rfl | rfl | rfl | rfl | rfl | rfl
    all_goals exact ⟨_, rfl⟩
  have hxk := hx1 k
  rw [hs, List.getElem?_map] at hxk
  obtain ⟨y, hy, hy1⟩ := Option.map_eq_some_iff.1 hxk
  rw [hy] at hkk
  obtain ⟨ys, n, _, hyy, hl2, hyl, hf⟩ := DataW.trod_struct Tryd.underlying125 hkk
  have h2 : DataW.trod (fun _ => ()) Tryd.prog W 0 (fun _ => true) false n 3 (List.take (Tryd.prog.cellsOf 3) (List.drop 1 (List.take 2 (List.drop (k * 2) cs.toList)))) = ys[1]? := hf 1 _ rfl
  rw [cellsInt] at h2
  have hys : (ys.map (·.1))[1]? = some (.lit (.int .i64 (usN k))) := by
    have e := congrArg Prod.fst hyy
    rw [hy1] at e
    simp only [DataW.agg.injEq] at e
    rw [← e]; rfl
  rw [List.getElem?_map] at hys
  obtain ⟨z, hz, hz1⟩ := Option.map_eq_some_iff.1 hys
  rw [hz] at h2
  obtain ⟨a, ha, hza, _⟩ := DataW.trod_int Tryd.underlying3 h2
  rw [hza] at hz1
  simp only [DataW.lit.injEq, Lit.int.injEq, true_and] at hz1
  subst hz1
  have h3 : (List.take 1 (List.drop 1 (List.take 2 (List.drop (k * 2) cs.toList))))[0]? = some (.int .i64 (usN k)) := by rw [ha]; rfl
  simp only [List.getElem?_take, List.getElem?_drop] at h3
  simpa using h3
end Go.Proofs.YtcjlbpndgjapiaaDoor
