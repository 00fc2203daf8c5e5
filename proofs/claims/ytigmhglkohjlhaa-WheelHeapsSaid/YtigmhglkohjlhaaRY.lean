/- A drawn region in a fenced walk: plain till the first of some calls comes up, fenced from there on. Plain; no program is named. -/
import Derived.Test.YtigmhglkohjlhaaRS
import Derived.OrdersIn
import Derived.OwnWalkIn
import Derived.RegionIn
namespace Go.Proofs.Ytigmhglkohjlhaa
set_option linter.unusedSimpArgs false
set_option linter.unusedVariables false
open Go.RowKit

section
variable {n : Nat} {P : Program} {md : Region.Mode} {ops : Array Oper} {Q : Exit → Act → World → Prop} {S : World → Prop} {B : List Nat}
theorem operIn_wide {o : Oper} {a : Act} {w : World} {K : Act → World → Prop} (hnd : ∀ c, o.op ≠ .defer c) (h : o.wp P a w K Q) : o.wpIn Fence.wide n P a w K Q := by
  refine ⟨fun _ _ => trivial, ?_⟩
  rw [Oper.semAt_plain Fence.wide _ _ hnd]
  unfold Oper.wp at h
  generalize (execOp a.eval o).run P w = r at *
  cases r with
  | ok x w' =>
    cases x <;> simp only [Oper.upon, Oper.uponIn] at h ⊢ <;>
      first
        | exact h
        | exact ⟨fun h0 => by simp [Fence.wide] at h0, callsIn_wide.2 h⟩
        | exact ⟨fun h0 => by simp [Fence.wide] at h0, fun c cs _ => let ⟨v, w', r, s⟩ := h c cs; ⟨v, w', r, stepsIn_wide.2 s⟩⟩
        | exact h.elim
  | halt x w' => cases x <;> simp only [Oper.upon, Oper.uponIn] at h ⊢ <;> exact h
theorem opIn_wide {i : Nat} {a : Act} {w : World} {K : Act → World → Prop} (hnd : ∀ (i : Nat) o c, ops[i]? = some o → o.op ≠ .defer c) (hL : ¬ LetsOut Q) (h : wpOp P ops Q i K a w) : wpOpIn Fence.wide n P ops Q i K a w := by
  unfold wpOpIn
  unfold wpOp at h
  cases ho : ops[i]? with
  | none => simp only [ho] at h; exact h
  | some o =>
    simp only [ho] at h ⊢
    split
    · rename_i hw
      rw [if_pos hw] at h
      rcases h with h | h
      · exact operIn_wide (fun c => hnd i o c ho) h
      · exact absurd h.2 hL
    · rename_i hw
      rw [if_neg hw] at h
      exact ⟨fun _ _ => trivial, h⟩
def wpAnyX (n : Nat) (P : Program) (md : Region.Mode) (ops : Array Oper) (Q : Exit → Act → World → Prop) (S : World → Prop) (B : List Nat) : Nat → Array Bool → Act → World → Prop
  | 0, L, a, w => Region.ready md ops L = [] ∧ Q .normal a w
  | fuel + 1, L, a, w =>
    (Region.ready md ops L = [] → Q .normal a w) ∧
    ∀ i ∈ Region.ready md ops L, wpOp P ops Q i (fun a' w' => if late B (L.setIfInBounds i true) = true then wpAnyIn Fence.wide n P md ops Q fuel (L.setIfInBounds i true) a' w' else S w' ∧ wpAnyX n P md ops Q S B fuel (L.setIfInBounds i true) a' w') a w
theorem anyIn_of_X (hnd : ∀ (i : Nat) o c, ops[i]? = some o → o.op ≠ .defer c) (hL : ¬ LetsOut Q) : ∀ (fuel : Nat) (L : Array Bool) (a : Act) (w : World), wpAnyX n P md ops Q S B fuel L a w → wpAnyIn Fence.wide n P md ops Q fuel L a w
  | 0, _, _, _, h => h
  | fuel + 1, L, _, _, h => ⟨h.1, fun i hi => wpOpIn_mono (fun a' w' h' => by
      by_cases hb : late B (L.setIfInBounds i true) = true
      · rwa [if_pos hb] at h'
      · rw [if_neg hb] at h'
        exact anyIn_of_X hnd hL fuel _ a' w' h'.2) (opIn_wide hnd hL (h.2 i hi))⟩
theorem wpAnyX_first {i : Nat} {oi : Oper} {v : Value} (hi : ops[i]? = some oi) (hsel : ∀ (j : Nat) (o : Oper) cs b, ops[j]? = some o → o.op ≠ .select cs b)
    (hQ : ∀ c a w, Q (.panic c) (a.put oi.dst v) w → Q (.panic c) a w) {m : Nat} (D : List Nat) (hm : m < ops.size) :
    ∀ (fuel : Nat) (L : Array Bool) (a : Act) (w : World),
      (∀ j oj, ops[j]? = some oj → j ≠ i → L.getD j true = false → (∀ e ∈ oj.after, Region.binds md e = true → e.on ≠ i) → oi.apart ops oj = true) →
      i ∈ Region.ready md ops L → YieldsIf P ops S oi v a → S w → late [m] L = false → m ≠ i → waitOk md ops L i m D = true →
      wpAnyX n P md ops Q S [m] fuel (L.setIfInBounds i true) (a.put oi.dst v) w → wpAnyX n P md ops Q S [m] (fuel + 1) L a w := by
  intro fuel
  induction fuel with
  | zero =>
    intro L a w _ hr hy hS hl hmi hW H
    have hiB : i ∉ [m] := fun h => hmi (List.mem_singleton.1 h).symm
    refine ⟨fun h => (by rw [h] at hr; cases hr), fun j hj => ?_⟩
    by_cases hji : j = i
    · subst hji
      refine hy.wpOp hi hS ?_
      rw [if_neg (by rw [late_set hiB hl]; simp)]
      exact ⟨hS, H⟩
    · have := ready_mono hj hji
      rw [H.1] at this
      cases this
  | succ fuel ih =>
    intro L a w hfree hr hy hS hl hmi hW H
    have hiB : i ∉ [m] := fun h => hmi (List.mem_singleton.1 h).symm
    refine ⟨fun h => (by rw [h] at hr; cases hr), fun j hj => ?_⟩
    by_cases hji : j = i
    · subst hji
      refine hy.wpOp hi hS ?_
      rw [if_neg (by rw [late_set hiB hl]; simp)]
      exact ⟨hS, H⟩
    · have h1 := H.2 j (ready_mono hj hji)
      obtain ⟨hjun, oj, hoj, hall⟩ := mem_ready.1 hj
      have hnot : ∀ e ∈ oj.after, Region.binds md e = true → e.on ≠ i := fun e he hb heq => by
        have h1 := hall e he hb
        have h0 := (mem_ready.1 hr).1
        rw [heq] at h1
        rcases Nat.lt_or_ge i L.size with h' | h'
        · simp [h'] at h0 h1; rw [h0] at h1; cases h1
        · simp [Array.getElem?_eq_none h'] at h1
      have hjD : j ∉ D := waitOk_out hW hj hji
      have hjB : j ∉ [m] := fun h => by
        have e : j = m := by simpa using h
        rcases waitOk_m hW with h5 | h5
        · omega
        · exact hjD (e ▸ h5)
      have h2 := wpOp_putIf hoj (hfree j oj hoj hji hjun hnot) (fun cs b => hsel i oi cs b hi) (fun cs b => hsel j oj cs b hoj) hQ hy h1
      have hfree' : ∀ k ok, ops[k]? = some ok → k ≠ i → (L.setIfInBounds j true).getD k true = false →
          (∀ e ∈ ok.after, Region.binds md e = true → e.on ≠ i) → oi.apart ops ok = true := fun k ok hk hki hun hno => by
        refine hfree k ok hk hki ?_ hno
        by_cases hjk : j = k
        · subst hjk; exact hjun
        · rw [getD_set_ne true hjk] at hun; exact hun
      refine wpOp_mono (fun a' w' h3 => ?_) h2
      have h4 := h3.2
      rw [if_neg (by rw [late_set hjB (late_set hiB hl)]; simp)] at h4
      rw [if_neg (by rw [late_set hjB hl]; simp)]
      refine ⟨h4.1, ih (L.setIfInBounds j true) a' w' hfree' (ready_mono hr (Ne.symm hji)) h3.1 h4.1 (late_set hjB hl) hmi (waitOk_set hW hjD) ?_⟩
      rw [Array.setIfInBounds_comm _ _ hji]
      exact h4.2
theorem regX_tk (i d : Nat) {m : Nat} {oi : Oper} {v : Value} {fuel : Nat} {L : Array Bool} {a : Act} {w : World} (hi : ops[i]? = some oi) (hd : oi.dst = some d)
    (hs : Region.noSelect ops = true) (hf : Region.free md ops L i = true) (hr : (Region.ready md ops L).contains i = true) (hm : m < ops.size) (hmi : m ≠ i) (hW : waitOk md ops L i m (waiters md ops i) = true) (hl : late [m] L = false)
    (hQ : ∀ c a w, Q (.panic c) (a.put oi.dst v) w → Q (.panic c) a w) (hw : Region.wanted oi (yielded ops a.tmps) = true) (hy : ∀ w, S w → (execOp a.eval oi).run P w = .ok (.value v) w) (hS : S w)
    (h : wpAnyX n P md ops Q S [m] fuel (L.setIfInBounds i true) { a with tmps := a.tmps.setIfInBounds d v } w) : wpAnyX n P md ops Q S [m] (fuel + 1) L a w :=
  wpAnyX_first hi (Region.noSelect_spec hs) hQ (waiters md ops i) hm fuel L a w (Region.free_spec hi hf) (by simpa using hr) (Or.inl ⟨hw, hy⟩) hS hl hmi hW (by rw [hd]; exact h)
theorem regX_nt (i d : Nat) {m : Nat} {oi : Oper} {fuel : Nat} {L : Array Bool} {a : Act} {w : World} (hi : ops[i]? = some oi) (hd : oi.dst = some d)
    (hs : Region.noSelect ops = true) (hf : Region.free md ops L i = true) (hr : (Region.ready md ops L).contains i = true) (hm : m < ops.size) (hmi : m ≠ i) (hW : waitOk md ops L i m (waiters md ops i) = true) (hl : late [m] L = false)
    (hQ : ∀ c a w, Q (.panic c) (a.put oi.dst undef) w → Q (.panic c) a w) (hw : Region.wanted oi (yielded ops a.tmps) = false) (hS : S w)
    (h : wpAnyX n P md ops Q S [m] fuel (L.setIfInBounds i true) { a with tmps := a.tmps.setIfInBounds d undef } w) : wpAnyX n P md ops Q S [m] (fuel + 1) L a w :=
  wpAnyX_first hi (Region.noSelect_spec hs) hQ (waiters md ops i) hm fuel L a w (Region.free_spec hi hf) (by simpa using hr) (Or.inr ⟨hw, rfl⟩) hS hl hmi hW (by rw [hd]; exact h)
/-- an operation that yields whatever the world may be taken first wherever it stands -/
theorem wpAnyX_pure {i : Nat} {oi : Oper} {v : Value} (hi : ops[i]? = some oi) (hsel : ∀ (j : Nat) (o : Oper) cs b, ops[j]? = some o → o.op ≠ .select cs b)
    (hQ : ∀ c a w, Q (.panic c) (a.put oi.dst v) w → Q (.panic c) a w) (hab : ∀ ρ w, oi.about P w ρ = none) (hiB : i ∉ B) :
    ∀ (fuel : Nat) (L : Array Bool) (a : Act) (w : World),
      (∀ j oj, ops[j]? = some oj → j ≠ i → L.getD j true = false → (∀ e ∈ oj.after, Region.binds md e = true → e.on ≠ i) → oi.apart ops oj = true) →
      i ∈ Region.ready md ops L → Yields P ops oi v a → S w → late B L = false →
      wpAnyX n P md ops Q S B fuel (L.setIfInBounds i true) (a.put oi.dst v) w → wpAnyX n P md ops Q S B (fuel + 1) L a w := by
  intro fuel
  induction fuel with
  | zero =>
    intro L a w _ hr hy hS hl H
    refine ⟨fun h => (by rw [h] at hr; cases hr), fun j hj => ?_⟩
    by_cases hji : j = i
    · subst hji
      refine (hy.yieldsIf (S := S)).wpOp hi hS ?_
      rw [if_neg (by rw [late_set hiB hl]; simp)]
      exact ⟨hS, H⟩
    · have := ready_mono hj hji
      rw [H.1] at this
      cases this
  | succ fuel ih =>
    intro L a w hfree hr hy hS hl H
    refine ⟨fun h => (by rw [h] at hr; cases hr), fun j hj => ?_⟩
    by_cases hji : j = i
    · subst hji
      refine (hy.yieldsIf (S := S)).wpOp hi hS ?_
      rw [if_neg (by rw [late_set hiB hl]; simp)]
      exact ⟨hS, H⟩
    · have h1 := H.2 j (ready_mono hj hji)
      obtain ⟨hjun, oj, hoj, hall⟩ := mem_ready.1 hj
      have hnot : ∀ e ∈ oj.after, Region.binds md e = true → e.on ≠ i := fun e he hb heq => by
        have h1 := hall e he hb
        have h0 := (mem_ready.1 hr).1
        rw [heq] at h1
        rcases Nat.lt_or_ge i L.size with h' | h'
        · simp [h'] at h0 h1; rw [h0] at h1; cases h1
        · simp [Array.getElem?_eq_none h'] at h1
      have h2 := wpOp_put hoj (hfree j oj hoj hji hjun hnot) (fun cs b => hsel i oi cs b hi) (fun cs b => hsel j oj cs b hoj) hQ hy h1
      have hfree' : ∀ k ok, ops[k]? = some ok → k ≠ i → (L.setIfInBounds j true).getD k true = false →
          (∀ e ∈ ok.after, Region.binds md e = true → e.on ≠ i) → oi.apart ops ok = true := fun k ok hk hki hun hno => by
        refine hfree k ok hk hki ?_ hno
        by_cases hjk : j = k
        · subst hjk; exact hjun
        · rw [getD_set_ne true hjk] at hun; exact hun
      refine wpOp_mono (fun a' w' h3 => ?_) h2
      have h4 := h3.2
      rw [Array.setIfInBounds_comm _ _ (Ne.symm hji)] at h4
      by_cases hb : late B (L.setIfInBounds j true) = true
      · rw [if_pos (late_more hb)] at h4
        rw [if_pos hb]
        exact wpAnyIn_first rfl hi hsel hQ fuel _ a' w' hfree' (ready_mono hr (Ne.symm hji)) ⟨h3.1, fun w => hab _ w⟩ h4
      · rw [if_neg (by rw [late_set hiB (by simpa using hb)]; simp)] at h4
        rw [if_neg hb]
        exact ⟨h4.1, ih (L.setIfInBounds j true) a' w' hfree' (ready_mono hr (Ne.symm hji)) h3.1 h4.1 (by simpa using hb) h4.2⟩
theorem regX_pu (i d : Nat) {oi : Oper} {v : Value} {fuel : Nat} {L : Array Bool} {a : Act} {w : World} (hi : ops[i]? = some oi) (hd : oi.dst = some d)
    (hs : Region.noSelect ops = true) (hf : Region.free md ops L i = true) (hr : (Region.ready md ops L).contains i = true) (hB : B.contains i = false) (hl : late B L = false)
    (hQ : ∀ c a w, Q (.panic c) (a.put oi.dst v) w → Q (.panic c) a w) (hab : ∀ ρ w, oi.about P w ρ = none) (hw : Region.wanted oi (yielded ops a.tmps) = true) (hy : ∀ w, (execOp a.eval oi).run P w = .ok (.value v) w) (hS : S w)
    (h : wpAnyX n P md ops Q S B fuel (L.setIfInBounds i true) { a with tmps := a.tmps.setIfInBounds d v } w) : wpAnyX n P md ops Q S B (fuel + 1) L a w :=
  wpAnyX_pure hi (Region.noSelect_spec hs) hQ hab (by simpa using hB) fuel L a w (Region.free_spec hi hf) (by simpa using hr) (Or.inl ⟨hw, hy⟩) hS hl (by rw [hd]; exact h)
/-- the one operation that may come up now is the first of B: fenced from here on -/
theorem wpAnyX_turn {i : Nat} {o : Oper} {fuel : Nat} {L : Array Bool} {a : Act} {w : World} (hr : Region.ready md ops L = [i]) (ho : ops[i]? = some o) (hw : Region.wanted o (yielded ops a.tmps) = true) (hl : late B (L.setIfInBounds i true) = true)
    (h : ∀ K' : Act → World → Prop, (∀ a w, wpAnyIn Fence.wide n P md ops Q fuel (L.setIfInBounds i true) a w → K' a w) → Oper.wp P o a w K' Q) : wpAnyX n P md ops Q S B (fuel + 1) L a w := by
  refine ⟨(fun h0 => by rw [h0] at hr; cases hr), fun j hj => ?_⟩
  rw [hr] at hj
  obtain rfl : j = i := by simpa using hj
  refine wpOp_step ho (fun K' hK => ?_)
  rw [if_pos hw]
  refine h K' (fun a w hW => hK a w ?_)
  rw [if_pos hl]
  exact hW
/-- as plain all the way (nothing of B comes up) -/
theorem wpAnyX_done {L : Array Bool} {a : Act} {w : World} (hr : Region.ready md ops L = []) (h : Q .normal a w) : ∀ fuel, wpAnyX n P md ops Q S B fuel L a w
  | 0 => ⟨hr, h⟩
  | _ + 1 => ⟨fun _ => h, by rw [hr]; simp⟩
theorem wpIn_region_noPanic {F : Fence} {id : Nat} {b : Bool} {a : Act} {w : World} (h : (Code.region id ops b).wpIn F n P (NoPanic Q) a w) : (Code.region id ops b).wpIn F n P Q a w :=
  wpIn_mono h NoPanic.imp
theorem wpIn_region_X {id : Nat} {a : Act} {w : World} (S : World → Prop) (B : List Nat) (hd : noDefer ops = true) (hL : ¬ LetsOut Q) (hm : P.follows .mixedOrders = true) (hS : S w.drew)
    (h : S w.drew → wpAnyX n P .any ops Q S B ops.size (Array.replicate ops.size false) a w.drew) : (Code.region id ops true).wpIn Fence.wide n P Q a w :=
  wpIn_region_any hm (anyIn_of_X (noDefer_spec hd) hL _ _ _ _ (h hS))
end
end Go.Proofs.Ytigmhglkohjlhaa
