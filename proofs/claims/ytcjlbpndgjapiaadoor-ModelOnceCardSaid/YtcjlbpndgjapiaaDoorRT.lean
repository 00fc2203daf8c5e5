/- A drawn region of which two operations may come up at once; an append onto an empty row that has just been built. Plain; no program is named. -/
import Derived.Test.YtcjlbpndgjapiaaDoorRS
namespace Go.Proofs.YtcjlbpndgjapiaaDoor
set_option linter.unusedSimpArgs false
set_option linter.unusedVariables false
open Go.RowKit
section
variable {P : Program} {md : Region.Mode} {ops : Array Oper} {Q : Exit → Act → World → Prop} {S S0 : World → Prop} {B : List Nat}
/-- two operations may come up now -/
theorem wpAnyG_twoS {i j : Nat} {o o' : Oper} {fuel : Nat} {L : Array Bool} {a : Act} {w : World} (hr : Region.ready md ops L = [i, j]) (ho : ops[i]? = some o) (ho' : ops[j]? = some o') (hw : Region.wanted o (yielded ops a.tmps) = true) (hw' : Region.wanted o' (yielded ops a.tmps) = true)
    (h : ∀ K' : Act → World → Prop, (∀ a w, S0 w → S w → wpAnyG P md ops Q S0 S B fuel (L.setIfInBounds i true) a w → K' a w) → Oper.wp P o a w K' Q)
    (h' : ∀ K' : Act → World → Prop, (∀ a w, S0 w → S w → wpAnyG P md ops Q S0 S B fuel (L.setIfInBounds j true) a w → K' a w) → Oper.wp P o' a w K' Q) : wpAnyG P md ops Q S0 S B (fuel + 1) L a w := by
  refine ⟨(fun h0 => by rw [h0] at hr; cases hr), fun k hk => ?_⟩
  rw [hr] at hk
  have hk : k = i ∨ k = j := by simpa using hk
  rcases hk with rfl | rfl
  · refine wpOp_step ho (fun K' hK => ?_)
    rw [if_pos hw]
    exact h K' (fun a w h0 hS hW => hK a w ⟨⟨h0, .inr hS⟩, hW⟩)
  · refine wpOp_step ho' (fun K' hK => ?_)
    rw [if_pos hw']
    exact h' K' (fun a w h0 hS hW => hK a w ⟨⟨h0, .inr hS⟩, hW⟩)
end
section
variable {P : Program} {w : World}
/-- append of what reads onto an empty row that has just been built: nothing older is touched -/
theorem wp_app_new {o : Oper} {a : Act} {K : Act → World → Prop} {Q : Exit → Act → World → Prop} (s x : Operand) (t : TypeId)
    (ho : o.op = .call { callee := .builtin .append, args := #[s, x], argTypes := #[t, t] }) (base : Nat) (e : TypeId) (z : Value) (size bytes : Nat) (E : ElemOk P t e z size bytes)
    (g : Nat) (hs : a.eval s = .slice (some ⟨g, 0, none⟩) 0 0) (hown : w.ownsRow base e size (.slice (some ⟨g, 0, none⟩) 0 0) 0 []) (u : Value) (m : Nat) (cs : List Value) (hx : a.eval x = u) (hr : RdS w size u m cs) (h1 : ∀ c ∈ cs, c.oneCell' = true)
    (h63 : m ≤ maxLen) (hbytes : m * bytes ≤ 140737488355328) (hbase : base ≤ w.heap.size)
    (h : ∀ a' c' w', w'.ownsRow base e size (.slice a' m c') m cs → Below w.heap.size w w' → K (a.put o.dst (.slice a' m c')) w') : o.wp P a w K Q := by
  obtain ⟨i, hi, hz, hsize, hby⟩ := info_parts E.hi
  have key : ∃ a' c' w', (Builtin.append_ #[t, t] o.type #[.slice (some ⟨g, 0, none⟩) 0 0, u]).run P w = .ok (.slice a' m c') w' ∧ w'.ownsRow base e size (.slice a' m c') m cs ∧ Below w.heap.size w w' := by
    obtain ⟨hl, _, hr⟩ := hr
    have none_case : ∀ (ad : Addr) (cap : Nat), m = 0 → u = .slice (some ad) m cap → ∃ a' c' w', (Builtin.append_ #[t, t] o.type #[.slice (some ⟨g, 0, none⟩) 0 0, u]).run P w = .ok (.slice a' m c') w' ∧ w'.ownsRow base e size (.slice a' m c') m cs ∧ Below w.heap.size w w' := fun ad cap hm hu => by
      subst hm
      subst hu
      have hcs : cs = [] := List.length_eq_zero_iff.1 (by omega)
      subst hcs
      exact ⟨_, _, _, run_append_room_cells (P := P) (w := w) t o.type e i E.ht hi g 0 0 0 ad 0 cap [] (by simp) (fun j c hj => by simp at hj) (fun _ h => by simp at h) (by omega) (fun j hj => by simp at hj) (fun j hj => by simp at hj), hown, Below.refl _ _⟩
    rcases hr with ⟨hm, a0, cap0, rfl, h00⟩ | ⟨b, off, cap, rfl, hc, hrd⟩
    · cases a0 with
      | some a0 => exact none_case a0 cap0 hm (by rw [hm])
      | none =>
        obtain rfl := h00 rfl
        subst hm
        have hcs : cs = [] := List.length_eq_zero_iff.1 (by omega)
        subst hcs
        exact ⟨_, _, _, run_append_owned_none (P := P) (w := w) base t o.type e i size E.ht hi _ 0 [] hown, hown, Below.refl _ _⟩
    · by_cases hm : m = 0
      · exact none_case _ cap hm rfl
      · have hnews : ∀ j v, cs[j]? = some v → w.cell? ((⟨b, off, none⟩ : Addr).add j) = some v := fun j c hj => by rw [Addr.add_mid]; exact hrd j c hj
        obtain ⟨v', w', hr1, ho1, _⟩ := run_append_own (P := P) w base t o.type e i z size bytes E.ht hi hz hsize hby E.hzs E.hsz _ 0 [] hown ⟨b, off, none⟩ m cap cs hl hnews h1 (by omega) (by rw [Nat.zero_add]; exact hbytes) hbase
        have hr2 := run_append_grow (P := P) w t o.type e i z E.ht hi hz ⟨g, 0, none⟩ 0 0 [] (by simp) (fun j v hj => by simp at hj) ⟨b, off, none⟩ m cap cs (by rw [hl, hsize]) hnews (by omega) (by unfold maxLen at h63; omega) (growslice_fits (by omega) (by rw [hby, Nat.zero_add]; exact hbytes))
        rw [hr2] at hr1
        simp only [Result.ok.injEq] at hr1
        obtain ⟨hv, hw⟩ := hr1
        refine ⟨some ⟨w.heap.size, 0, none⟩, _, w', by rw [hr2, ← hw, Nat.zero_add], ?_, ?_⟩
        · rw [← hv] at ho1
          simpa using ho1
        · rw [← hw]
          exact Below.al ((Below.refl _ w).drew) _
  obtain ⟨a', c', w', hrun, h2, h3⟩ := key
  unfold Oper.wp execOp
  simp only [ho, resolve, invoke, builtin, Sem.run_bind, Sem.run_pure, Result.andThen_ok, List.map_toArray, List.map_cons, List.map_nil, hs, hx, hrun]
  exact h a' c' w' h2 h3
end
end Go.Proofs.YtcjlbpndgjapiaaDoor
