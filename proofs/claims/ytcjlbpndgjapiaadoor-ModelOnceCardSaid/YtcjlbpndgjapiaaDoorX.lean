/- A drawn region taken operation by operation, in the order of the text: one lemma for an operation that yields whatever the world (that meets S), one for an operation whose guard is shut. Plain; no program is named. -/
import Derived.Deep.RegionHeld3
import Derived.Test.YtcjlbpndgjapiaaDoorR
import Derived.RangeFuncNested
import Derived.RangeFuncBound
import Derived.RangeFuncCalls
import Derived.RangeFuncLeaves
import Derived.OrdersIn
namespace Go.Proofs.YtcjlbpndgjapiaaDoor
set_option linter.unusedSimpArgs false
set_option linter.unusedVariables false
open Go.RowKit

section
variable {P : Program} {md : Region.Mode} {ops : Array Oper} {Q : Exit → Act → World → Prop} {S : World → Prop}
theorem reg_tk (i d : Nat) {oi : Oper} {v : Value} {fuel : Nat} {listed : Array Bool} {a : Act} {w : World} (hi : ops[i]? = some oi) (hd : oi.dst = some d)
    (hs : Region.noSelect ops = true) (hf : Region.free md ops listed i = true) (hr : (Region.ready md ops listed).contains i = true)
    (hQ : ∀ c a w, Q (.panic c) (a.put oi.dst v) w → Q (.panic c) a w) (hw : Region.wanted oi (yielded ops a.tmps) = true) (hy : ∀ w, S w → (execOp a.eval oi).run P w = .ok (.value v) w) (hS : S w)
    (h : wpAnyH P md ops Q S fuel (listed.setIfInBounds i true) { a with tmps := a.tmps.setIfInBounds d v } w) : wpAnyH P md ops Q S (fuel + 1) listed a w :=
  wpAnyH_take hi hs hf hr hQ (Or.inl ⟨hw, hy⟩) hS (by rw [hd]; exact h)
theorem reg_nt (i d : Nat) {oi : Oper} {fuel : Nat} {listed : Array Bool} {a : Act} {w : World} (hi : ops[i]? = some oi) (hd : oi.dst = some d)
    (hs : Region.noSelect ops = true) (hf : Region.free md ops listed i = true) (hr : (Region.ready md ops listed).contains i = true)
    (hQ : ∀ c a w, Q (.panic c) (a.put oi.dst undef) w → Q (.panic c) a w) (hw : Region.wanted oi (yielded ops a.tmps) = false) (hS : S w)
    (h : wpAnyH P md ops Q S fuel (listed.setIfInBounds i true) { a with tmps := a.tmps.setIfInBounds d undef } w) : wpAnyH P md ops Q S (fuel + 1) listed a w :=
  wpAnyH_take hi hs hf hr hQ (Or.inr ⟨hw, rfl⟩) hS (by rw [hd]; exact h)
end

/-! A drawn region in the round of a range over a function, at the wide fence: as everywhere. -/
section
variable {P : Program} {md : Region.Mode} {ops : Array Oper} {Q : Exit → Act → World → Prop} {S : World → Prop}
theorem rowsIn_round {n l : Nat} {row : String} {args : Array Value} {w : World} {R : Value → World → Prop} (h : Rows P row args w R) : RowsIn (Fence.wide.inRound l) n P row args w R :=
  fun c cs _ => let ⟨v, w', r, s⟩ := h c cs; ⟨v, w', r, stepsIn_wide.2 s⟩
theorem operIn_round {n l : Nat} {o : Oper} {a : Act} {w : World} {K : Act → World → Prop} (hnd : ∀ c, o.op ≠ .defer c) (h : o.wp P a w K Q) : o.wpIn (Fence.wide.inRound l) n P a w K Q := by
  refine ⟨fun _ _ => trivial, ?_⟩
  rw [Fence.inRound_round, Oper.semAt_some l a.eval o hnd]
  unfold Oper.wp at h
  generalize (execOp a.eval o).run P w = r at *
  cases r with
  | ok x w' =>
    cases x <;> simp only [Oper.upon, Oper.uponIn] at h ⊢ <;>
      first
        | exact h
        | exact ⟨fun h0 => by simp [Fence.wide] at h0, CallsIn.inRound l (callsIn_wide.2 h)⟩
        | exact ⟨fun h0 => by simp [Fence.wide] at h0, rowsIn_round h⟩
        | exact h.elim
  | halt x w' => cases x <;> simp only [Oper.upon, Oper.uponIn] at h ⊢ <;> exact h
theorem opIn_round {n l i : Nat} {a : Act} {w : World} {K : Act → World → Prop} (hnd : ∀ (i : Nat) o c, ops[i]? = some o → o.op ≠ .defer c) (hL : ¬ LetsOut Q) (h : wpOp P ops Q i K a w) : wpOpIn (Fence.wide.inRound l) n P ops Q i K a w := by
  unfold wpOpIn
  unfold wpOp at h
  cases ho : ops[i]? with
  | none => simp only [ho] at h; exact h
  | some o =>
    simp only [ho] at h ⊢
    split
    · rename_i hw
      rw [if_pos hw] at h
      rcases h with h | h
      · exact operIn_round (fun c => hnd i o c ho) h
      · exact absurd h.2 hL
    · rename_i hw
      rw [if_neg hw] at h
      exact ⟨fun _ _ => trivial, h⟩
theorem anyIn_round {n l : Nat} (hnd : ∀ (i : Nat) o c, ops[i]? = some o → o.op ≠ .defer c) (hL : ¬ LetsOut Q) : ∀ (fuel : Nat) (listed : Array Bool) (a : Act) (w : World), wpAny P md ops Q fuel listed a w → wpAnyIn (Fence.wide.inRound l) n P md ops Q fuel listed a w
  | 0, _, _, _, h => h
  | fuel + 1, _, _, _, h => ⟨h.1, fun i hi => wpOpIn_mono (fun a' w' h' => anyIn_round hnd hL fuel _ a' w' h') (opIn_round hnd hL (h.2 i hi))⟩
/-- no operation of a list is a 'defer' statement -/
def noDefer (ops : Array Oper) : Bool := ops.all fun o => match o.op with | .defer _ => false | _ => true
theorem noDefer_spec (h : noDefer ops = true) : ∀ (i : Nat) o c, ops[i]? = some o → o.op ≠ .defer c := by
  intro i o c hi hc
  have h1 := Array.all_eq_true_iff_forall_mem.1 h o (Array.mem_of_getElem? hi)
  simp [hc] at h1
theorem wpIn_region_round {n l id : Nat} {a : Act} {w : World} (hd : noDefer ops = true) (hL : ¬ LetsOut Q) (hm : P.follows .mixedOrders = true) (hS : S w.drew)
    (h : S w.drew → wpAnyH P .any ops Q S ops.size (Array.replicate ops.size false) a w.drew) : (Code.region id ops true).wpIn (Fence.wide.inRound l) n P Q a w :=
  wpIn_region_any hm (anyIn_round (noDefer_spec hd) hL _ _ _ _ (wpAny_of_held _ _ _ _ (h hS)))
end

/-! The calm walk of a drawn region: every operation but one (the last, number m) yields one value in every world that meets S, and leaves a world that meets S: then one walk in the order of the text serves all orders. -/
section
variable {P : Program} {md : Region.Mode} {ops : Array Oper} {Q : Exit → Act → World → Prop} {S : World → Prop} {m : Nat}

def calm (P : Program) (md : Region.Mode) (ops : Array Oper) (Q : Exit → Act → World → Prop) (S : World → Prop) (m : Nat) : Nat → Array Bool → Act → Prop
  | 0, L, a => Region.ready md ops L = [] ∧ ∀ w, S w → Q .normal a w
  | f + 1, L, a => ∀ w, S w → (Region.ready md ops L = [] → Q .normal a w) ∧
    ∀ i ∈ Region.ready md ops L, wpOp P ops Q i (fun a' w' => if i = m then Region.ready md ops (L.setIfInBounds i true) = [] ∧ Q .normal a' w' else S w' ∧ calm P md ops Q S m f (L.setIfInBounds i true) a') a w

theorem wpAny_done {L : Array Bool} {a : Act} {w : World} (hr : Region.ready md ops L = []) (h : Q .normal a w) : ∀ fuel, wpAny P md ops Q fuel L a w
  | 0 => ⟨hr, h⟩
  | _ + 1 => ⟨fun _ => h, by rw [hr]; simp⟩
theorem wpAny_of_calm : ∀ (f : Nat) (L : Array Bool) (a : Act) (w : World), S w → calm P md ops Q S m f L a → wpAny P md ops Q f L a w
  | 0, _, _, w, hS, h => ⟨h.1, h.2 w hS⟩
  | f + 1, L, a, w, hS, h => ⟨(h w hS).1, fun i hi => wpOp_mono (fun a' w' h' => by
      by_cases he : i = m
      · rw [if_pos he] at h'
        exact wpAny_done h'.1 h'.2 f
      · rw [if_neg he] at h'
        exact wpAny_of_calm f _ a' w' h'.1 h'.2) ((h w hS).2 i hi)⟩

/-- the operations that wait, through others, for number i -/
def waiters (md : Region.Mode) (ops : Array Oper) (i : Nat) : List Nat :=
  (List.range ops.size).foldl (fun acc j => if ((ops[j]?).map fun o => o.after.any fun e => Region.binds md e && acc.contains e.on) = some true then acc ++ [j] else acc) [i]
/-- D holds m; whoever is in D is not listed, and waits for another of D, or is i -/
def waitOk (md : Region.Mode) (ops : Array Oper) (L : Array Bool) (i m : Nat) (D : List Nat) : Bool :=
  (decide (ops.size ≤ m) || D.contains m) && D.all fun j => !(L.getD j true) && (decide (j = i) || (match ops[j]? with | some o => o.after.any fun e => Region.binds md e && D.contains e.on | none => false))

theorem waitOk_m {L : Array Bool} {i : Nat} {D : List Nat} (h : waitOk md ops L i m D = true) : ops.size ≤ m ∨ m ∈ D := by
  unfold waitOk at h
  simp only [Bool.and_eq_true, Bool.or_eq_true, decide_eq_true_eq, List.contains_iff_mem] at h
  exact h.1
theorem waitOk_out {L : Array Bool} {i j : Nat} {D : List Nat} (h : waitOk md ops L i m D = true) (hj : j ∈ Region.ready md ops L) (hji : j ≠ i) : j ∉ D := by
  intro hD
  unfold waitOk at h
  simp only [Bool.and_eq_true, List.all_eq_true] at h
  have h1 := (h.2 j hD).2
  simp only [Bool.or_eq_true, decide_eq_true_eq, hji, false_or] at h1
  obtain ⟨_, oj, hoj, hall⟩ := mem_ready.1 hj
  rw [hoj] at h1
  simp only [Array.any_eq_true] at h1
  obtain ⟨k, hk, hb⟩ := h1
  simp only [Bool.and_eq_true, List.contains_iff_mem] at hb
  have h2 := hall _ (Array.getElem_mem hk) hb.1
  have h3 := (h.2 _ hb.2).1
  rcases Nat.lt_or_ge (oj.after[k].on) L.size with h' | h'
  · simp [h'] at h2 h3; rw [h2] at h3; cases h3
  · simp [Array.getElem?_eq_none h'] at h3
theorem waitOk_set {L : Array Bool} {i j : Nat} {D : List Nat} (h : waitOk md ops L i m D = true) (hj : j ∉ D) : waitOk md ops (L.setIfInBounds j true) i m D = true := by
  unfold waitOk at h ⊢
  simp only [Bool.and_eq_true, List.all_eq_true] at h ⊢
  refine ⟨h.1, fun k hk => ⟨?_, (h.2 k hk).2⟩⟩
  have hne : j ≠ k := fun e => hj (e ▸ hk)
  rw [getD_set_ne true hne]
  exact (h.2 k hk).1

/-- what an operation does when nothing is asked of the frame behind it but what it leaves -/
def Runs (P : Program) (S : World → Prop) (o : Oper) (v : Value) (a : Act) : Prop :=
  ∀ w, S w → ((execOp a.eval o).run P w = .ok (.value v) w) ∨
    ∃ f args w1, (execOp a.eval o).run P w = .ok (.enter f args) w1 ∧ Calls P f args w1 fun e w' => e = .returned v ∧ S w'
theorem Runs.wp {o : Oper} {v : Value} {a : Act} (h : Runs P S o v a) {w : World} (hS : S w) {K : Act → World → Prop} (hK : ∀ w', S w' → K (a.put o.dst v) w') : o.wp P a w K Q := by
  unfold Oper.wp
  rcases h w hS with h1 | ⟨f, args, w1, h1, hc⟩
  · rw [h1]; exact hK w hS
  · rw [h1]
    refine Calls.mono hc ?_
    rintro e w' ⟨rfl, hS'⟩
    exact hK w' hS'
theorem Runs.of_same {o : Oper} {v : Value} {a a' : Act} (h : Runs P S o v a) (he : execOp a'.eval o = execOp a.eval o) : Runs P S o v a' := by
  unfold Runs at *
  rw [he]
  exact h

/-- 'Calms', said of the operation's run alone -/
def CalmR (P : Program) (ops : Array Oper) (S : World → Prop) (o : Oper) (v : Value) (a : Act) : Prop :=
  (Region.wanted o (yielded ops a.tmps) = true ∧ Runs P S o v a) ∨ (Region.wanted o (yielded ops a.tmps) = false ∧ v = undef)
theorem CalmR.of_same {o : Oper} {v : Value} {a a' : Act} (hy : CalmR P ops S o v a) (he : execOp a'.eval o = execOp a.eval o) (hw : Region.wanted o (yielded ops a'.tmps) = Region.wanted o (yielded ops a.tmps)) : CalmR P ops S o v a' := by
  unfold CalmR at *
  rw [hw]
  exact hy.imp (fun h => ⟨h.1, h.2.of_same he⟩) id
theorem CalmR.wpOp {i : Nat} {o : Oper} {v : Value} {a : Act} (hi : ops[i]? = some o) (hy : CalmR P ops S o v a) {K : Act → World → Prop} {w : World} (hS : S w) (h : ∀ w', S w' → K (a.put o.dst v) w') : wpOp P ops Q i K a w := by
  unfold Go.wpOp
  simp only [hi]
  rcases hy with ⟨hw, hv⟩ | ⟨hw, rfl⟩
  · simp only [hw, if_true]; exact .inl (hv.wp hS h)
  · simp only [hw, Bool.false_eq_true, if_false]; exact h w hS

theorem wpOp_putC {j : Nat} {oi oj : Oper} {v : Value} (hj : ops[j]? = some oj) (hap : oi.apart ops oj = true)
    (hsi : ∀ cs b, oi.op ≠ .select cs b) (hsj : ∀ cs b, oj.op ≠ .select cs b)
    (hQ : ∀ c a w, Q (.panic c) (a.put oi.dst v) w → Q (.panic c) a w) {K : Act → World → Prop} {a : Act} {w : World}
    (hy : CalmR P ops S oi v a) (h : wpOp P ops Q j K (a.put oi.dst v) w) :
    wpOp P ops Q j (fun a' w' => CalmR P ops S oi v a' ∧ K (a'.put oi.dst v) w') a w := by
  obtain ⟨h1, h2, h3⟩ := Oper.apart_spec hap
  have keep : ∀ (a : Act), CalmR P ops S oi v a → ∀ u, CalmR P ops S oi v (a.put oj.dst u) := fun a hy u =>
    hy.of_same (execOp_put oi hsi a oj.dst u h3) (wanted_put oi a oj.dst u h3)
  have keepD : ∀ d, CalmR P ops S oi v { a with defers := d :: a.defers } := fun d => hy.of_same rfl rfl
  unfold wpOp at *
  simp only [hj] at *
  rw [wanted_put oj a oi.dst v h1] at h
  split
  · rename_i hw
    simp only [hw, if_true] at h
    rcases h with h | ⟨hasks, hlets⟩
    case inr => exact .inr ⟨by unfold Oper.asks at *; rw [execOp_put oj hsj a oi.dst v h1] at hasks; exact hasks, hlets⟩
    refine .inl ?_
    unfold Oper.wp at *
    rw [execOp_put oj hsj a oi.dst v h1] at h
    generalize (execOp a.eval oj).run P w = r at *
    cases r with
    | ok n w' =>
      cases n <;> simp only [Oper.upon] at h ⊢
      case value u => exact ⟨keep a hy u, by rw [← Act.put_comm a v u h2]; exact h⟩
      case skip => exact ⟨keep a hy _, by rw [← Act.put_comm a v undef h2]; exact h⟩
      case defer d =>
        refine ⟨keep _ (keepD d) _, ?_⟩
        rw [← Act.put_comm _ v undef h2, ← Act.put_defers]
        exact h
      case enter f args =>
        refine Calls.mono h fun e w'' he => ?_
        cases e with
        | returned u => exact ⟨keep a hy u, by rw [← Act.put_comm a v u h2]; exact he⟩
        | panicked c => exact hQ _ _ _ he
        | outgrown => exact he
      case row row args => exact Rows.mono h fun u w'' he => ⟨keep a hy u, by rw [← Act.put_comm a v u h2]; exact he⟩
    | halt x w' =>
      cases x <;> simp only [Oper.upon] at h ⊢
      case panic u => exact hQ _ _ _ h
  · rename_i hw
    simp only [hw] at h
    exact ⟨keep a hy _, by rw [← Act.put_comm a v undef h2]; exact h⟩

theorem calm_first {i : Nat} {oi : Oper} {v : Value} (D : List Nat) (hi : ops[i]? = some oi) (him : i ≠ m) (hsel : ∀ (j : Nat) (o : Oper) cs b, ops[j]? = some o → o.op ≠ .select cs b)
    (hQ : ∀ c a w, Q (.panic c) (a.put oi.dst v) w → Q (.panic c) a w) :
    ∀ (f : Nat) (L : Array Bool) (a : Act),
      (∀ j oj, ops[j]? = some oj → j ≠ i → L.getD j true = false → (∀ e ∈ oj.after, Region.binds md e = true → e.on ≠ i) → oi.apart ops oj = true) →
      waitOk md ops L i m D = true → i ∈ Region.ready md ops L → CalmR P ops S oi v a →
      calm P md ops Q S m f (L.setIfInBounds i true) (a.put oi.dst v) → calm P md ops Q S m (f + 1) L a := by
  intro f
  induction f with
  | zero =>
    intro L a _ _ hr hy H w hS
    refine ⟨fun h => (by rw [h] at hr; cases hr), fun j hj => ?_⟩
    by_cases hji : j = i
    · subst hji
      refine hy.wpOp hi hS (fun w' hS' => ?_)
      rw [if_neg him]
      exact ⟨hS', H⟩
    · have := ready_mono hj hji
      rw [H.1] at this
      cases this
  | succ f ih =>
    intro L a hfree hwait hr hy H w hS
    refine ⟨fun h => (by rw [h] at hr; cases hr), fun j hj => ?_⟩
    by_cases hji : j = i
    · subst hji
      refine hy.wpOp hi hS (fun w' hS' => ?_)
      rw [if_neg him]
      exact ⟨hS', H⟩
    · have hjD := waitOk_out hwait hj hji
      have hjm : j ≠ m := by
        intro e
        subst e
        rcases waitOk_m hwait with h | h
        · obtain ⟨_, oj, hoj, _⟩ := mem_ready.1 hj
          rw [Array.getElem?_eq_none h] at hoj
          cases hoj
        · exact hjD h
      have h1 := (H w hS).2 j (ready_mono hj hji)
      obtain ⟨hjun, oj, hoj, hall⟩ := mem_ready.1 hj
      have hnot : ∀ e ∈ oj.after, Region.binds md e = true → e.on ≠ i := fun e he hb heq => by
        have h1 := hall e he hb
        have h0 := (mem_ready.1 hr).1
        rw [heq] at h1
        rcases Nat.lt_or_ge i L.size with h' | h'
        · simp [h'] at h0 h1; rw [h0] at h1; cases h1
        · simp [Array.getElem?_eq_none h'] at h1
      have h2 := wpOp_putC hoj (hfree j oj hoj hji hjun hnot) (fun cs b => hsel i oi cs b hi) (fun cs b => hsel j oj cs b hoj) hQ hy h1
      have hfree' : ∀ k ok, ops[k]? = some ok → k ≠ i → (L.setIfInBounds j true).getD k true = false →
          (∀ e ∈ ok.after, Region.binds md e = true → e.on ≠ i) → oi.apart ops ok = true := fun k ok hk hki hun hno => by
        refine hfree k ok hk hki ?_ hno
        by_cases hjk : j = k
        · subst hjk; exact hjun
        · rw [getD_set_ne true hjk] at hun; exact hun
      refine wpOp_mono (fun a' w' h3 => ?_) h2
      rw [if_neg hjm] at h3 ⊢
      refine ⟨h3.2.1, ih (L.setIfInBounds j true) a' hfree' (waitOk_set hwait hjD) (ready_mono hr (Ne.symm hji)) h3.1 ?_⟩
      rw [Array.setIfInBounds_comm _ _ hji]
      exact h3.2.2

theorem cm_run (i d : Nat) {oi : Oper} {v : Value} {f : Nat} {L : Array Bool} {a : Act} (hi : ops[i]? = some oi) (hd : oi.dst = some d) (hs : Region.noSelect ops = true) (hf : Region.free md ops L i = true) (hr : (Region.ready md ops L).contains i = true)
    (hw : waitOk md ops L i m (waiters md ops i) = true) (him : (i == m) = false) (hQ : ∀ c a w, Q (.panic c) (a.put oi.dst v) w → Q (.panic c) a w) (hwa : Region.wanted oi (yielded ops a.tmps) = true)
    (hy : ∀ w, S w → (execOp a.eval oi).run P w = .ok (.value v) w)
    (h : calm P md ops Q S m f (L.setIfInBounds i true) { a with tmps := a.tmps.setIfInBounds d v }) : calm P md ops Q S m (f + 1) L a :=
  calm_first _ hi (by simpa using him) (Region.noSelect_spec hs) hQ f L a (Region.free_spec hi hf) hw (by simpa using hr) (.inl ⟨hwa, fun w hS => .inl (hy w hS)⟩) (by rw [hd]; exact h)
theorem cm_shut (i d : Nat) {oi : Oper} {f : Nat} {L : Array Bool} {a : Act} (hi : ops[i]? = some oi) (hd : oi.dst = some d) (hs : Region.noSelect ops = true) (hf : Region.free md ops L i = true) (hr : (Region.ready md ops L).contains i = true)
    (hw : waitOk md ops L i m (waiters md ops i) = true) (him : (i == m) = false) (hQ : ∀ c a w, Q (.panic c) (a.put oi.dst undef) w → Q (.panic c) a w) (hwa : Region.wanted oi (yielded ops a.tmps) = false)
    (h : calm P md ops Q S m f (L.setIfInBounds i true) { a with tmps := a.tmps.setIfInBounds d undef }) : calm P md ops Q S m (f + 1) L a :=
  calm_first _ hi (by simpa using him) (Region.noSelect_spec hs) hQ f L a (Region.free_spec hi hf) hw (by simpa using hr) (.inr ⟨hwa, rfl⟩) (by rw [hd]; exact h)
theorem cm_call (i d g : Nat) {oi : Oper} {v : Value} {args : Array Value} {f : Nat} {L : Array Bool} {a : Act} (hi : ops[i]? = some oi) (hd : oi.dst = some d) (hs : Region.noSelect ops = true) (hf : Region.free md ops L i = true) (hr : (Region.ready md ops L).contains i = true)
    (hw : waitOk md ops L i m (waiters md ops i) = true) (him : (i == m) = false) (hQ : ∀ c a w, Q (.panic c) (a.put oi.dst v) w → Q (.panic c) a w) (hwa : Region.wanted oi (yielded ops a.tmps) = true)
    (hy : ∀ w, S w → (execOp a.eval oi).run P w = .ok (.enter g args) w) (hc : ∀ w, S w → Calls P g args w fun e w' => e = .returned v ∧ S w')
    (h : calm P md ops Q S m f (L.setIfInBounds i true) { a with tmps := a.tmps.setIfInBounds d v }) : calm P md ops Q S m (f + 1) L a :=
  calm_first _ hi (by simpa using him) (Region.noSelect_spec hs) hQ f L a (Region.free_spec hi hf) hw (by simpa using hr) (.inl ⟨hwa, fun w hS => .inr ⟨g, args, w, hy w hS, hc w hS⟩⟩) (by rw [hd]; exact h)
theorem cm_done {f : Nat} {L : Array Bool} {a : Act} (hr : Region.ready md ops L = []) (h : ∀ w, S w → Q .normal a w) : calm P md ops Q S m f L a := by
  cases f with
  | zero => exact ⟨hr, h⟩
  | succ f => exact fun w hS => ⟨fun _ => h w hS, by rw [hr]; simp⟩
theorem cm_tail (i : Nat) {oi : Oper} {f : Nat} {L : Array Bool} {a : Act} (hi : ops[i]? = some oi) (hr : Region.ready md ops L = [i]) (hr2 : Region.ready md ops (L.setIfInBounds i true) = []) (him : (i == m) = true) (hwa : Region.wanted oi (yielded ops a.tmps) = true)
    (h : ∀ w, S w → ∀ K : Act → World → Prop, (∀ a' w', Q .normal a' w' → K a' w') → oi.wp P a w K Q) : calm P md ops Q S m (f + 1) L a := by
  intro w hS
  refine ⟨fun h0 => (by rw [hr] at h0; cases h0), fun j hj => ?_⟩
  rw [hr] at hj
  obtain rfl : j = i := by simpa using hj
  unfold wpOp
  simp only [hi, hwa, if_true]
  refine .inl (h w hS _ fun a' w' hq => ?_)
  rw [if_pos (by simpa using him)]
  exact ⟨hr2, hq⟩
theorem wp_region_calm (S : World → Prop) (m : Nat) {id : Nat} {a : Act} {w : World} (hm : P.follows .mixedOrders = true) (hS : S w.drew) (h : calm P .any ops (NoPanic Q) S m ops.size (Array.replicate ops.size false) a) : (Code.region id ops true).wp P Q a w :=
  wp_region_noPanic (wp_region_any hm (wpAny_of_calm _ _ _ _ hS h))
theorem wpIn_region_calm (S : World → Prop) (m : Nat) {n l id : Nat} {a : Act} {w : World} (hd : noDefer ops = true) (hL : ¬ LetsOut Q) (hm : P.follows .mixedOrders = true) (hS : S w.drew) (h : calm P .any ops Q S m ops.size (Array.replicate ops.size false) a) :
    (Code.region id ops true).wpIn (Fence.wide.inRound l) n P Q a w :=
  wpIn_region_any hm (anyIn_round (noDefer_spec hd) hL _ _ _ _ (wpAny_of_calm _ _ _ _ hS h))
end

/-! A range over a function whose second loop variable is boxed: the loop in a plain walk. -/
section
variable {P : Program}
/-- block B holds the cells vs -/
def BoxN (W : World) (B : Nat) (t : TypeId) (vs : Array Value) : Prop := W.heap[B]? = some (.cells vs t)
theorem BoxN.lt {W : World} {B : Nat} {t : TypeId} {vs : Array Value} (h : BoxN W B t vs) : B < W.heap.size := (Array.getElem?_eq_some_iff.1 h).1
theorem BoxN.new (W : World) (t : TypeId) (vs : Array Value) : BoxN (W.alloc (.cells vs t)) W.heap.size t vs := World.alloc_heap_new W _
theorem BoxN.kept {W W' : World} {row : Option Nat} {B : Nat} {t : TypeId} {vs : Array Value} (h : BoxN W B t vs) (hg : W.grownBy W' row) (hne : some B ≠ row) : BoxN W' B t vs := (hg.block B h.lt hne).trans h
theorem BoxN.alloc {W : World} {B : Nat} {t : TypeId} {vs : Array Value} (h : BoxN W B t vs) (o : Obj) : BoxN (W.alloc o) B t vs := h.kept (World.grownBy_alloc W o none) (by simp)
theorem BoxN.own {β : Type} (B : Nat) (t : TypeId) (f : β → Array Value) : Own (fun s W => BoxN W B t (f s)) := fun s X Y row hs hg hrow =>
  hs.kept hg (fun e' => by obtain ⟨o, ho, hc⟩ := hrow B e'.symm; rw [show X.heap[B]? = _ from hs] at ho; cases ho; cases hc)
theorem BoxN.below {W W' : World} {B : Nat} {t : TypeId} {vs : Array Value} (h : BoxN W B t vs) (hb : Below W.heap.size W W') : BoxN W' B t vs := (hb.block B h.lt).trans h
theorem BoxN.cell {W : World} {B : Nat} {t : TypeId} {vs : Array Value} (h : BoxN W B t vs) (i : Nat) : W.cell? ⟨B, i, none⟩ = vs[i]? := by simp [World.cell?, show W.heap[B]? = _ from h]
theorem BoxN.frozen {W : World} {B : Nat} {t : TypeId} {vs : Array Value} (h : BoxN W B t vs) (i : Nat) : W.frozen? ⟨B, i, none⟩ = false := by simp [World.frozen?, show W.heap[B]? = _ from h]
theorem Boxed.below {W W' : World} {B : Nat} {t : TypeId} {v : Value} (h : Boxed W B t v) (hb : Below W.heap.size W W') : Boxed W' B t v := (hb.block B (Boxed.lt h)).trans h
theorem keeps_below {W W' : World} (h : Below W.heap.size W W') : KeepsOthers W W' := ⟨h.size, fun k o hk _ => (h.block k (Array.getElem?_eq_some_iff.1 hk).1).trans hk⟩

theorem zip2_fold (p1 p2 : Tmp) (v1 v2 : Value) (t : Array Value) : (#[p1, p2].zip #[v1, v2]).foldl (fun t (p, v) => t.setIfInBounds p v) t = (t.setIfInBounds p1 v1).setIfInBounds p2 v2 := by
  have h : (#[p1, p2].zip #[v1, v2]) = #[(p1, v1), (p2, v2)] := by
    apply Array.toList_inj.1
    rw [Array.toList_zip]
    rfl
  rw [h]
  simp
theorem range_box {α : Type} {g : Operand} {p1 p2 : Tmp} {assign body : Code} {Q : Exit → Act → World → Prop} {a : Act} {w : World} {gf : Nat} {lb : Array Value} (n s : Nat) (T : TypeId) (h1 : 1 ≤ n)
    (hg : a.eval g = .func (.func gf) #[] lb) (eg : ∀ args w, (callFunc gf args).run P w = .ok (.enter gf args) w)
    {e1 : α → Value} {cs : α → Array Value} {Kp : World → World → Prop} {S Sp : List α → Prop} {N : Nat}
    (hseq : SeqStopsK Fence.wide (n - 1) P gf lb (fun x => #[e1 x, .agg (cs x)]) Kp S Sp N w)
    (hKt : ∀ {A B C : World}, Kp A B → Kp B C → Kp A C) (hKb : ∀ (W : World) (l : Nat) (o o' : Obj), w.heap.size ≤ l → W.heap[l]? = some o → o.isCells = false → o.isWalk = false → Kp W (W.putObj l o'))
    (hKa : ∀ (W : World) (o : Obj), w.heap.size ≤ W.heap.size → Kp W (W.alloc o))
    (I : List α → World → Prop) (hI : OwnFrom w.heap.size I) (hIz : ∀ pre W, I pre W → w.heap.size ≤ W.heap.size) (h0 : I [] w)
    (hassign : ∀ (l : Nat) (pre : List α) (x : α) (W : World) (K : Act → World → Prop), I pre W →
      K { tmps := ((a.tmps.setIfInBounds p1 (e1 x)).setIfInBounds p2 (.agg (cs x))).setIfInBounds s (.pointer (some ⟨W.heap.size, 0, none⟩)), defers := [] } (W.alloc (.cells (cs x) T)) →
      assign.wpIn (Fence.wide.inRound l) (n - 1 - 1) P (Exit.then K (fun _ _ _ => False)) { tmps := (a.tmps.setIfInBounds p1 (e1 x)).setIfInBounds p2 (.agg (cs x)), defers := [] } W)
    (hbody : ∀ (l : Nat) (pre : List α) (x : α) (Bx : Nat) (W : World), I pre W → w.heap.size ≤ Bx → BoxN W Bx T (cs x) → pre.length < N →
      body.wpIn (Fence.wide.inRound l) (n - 1 - 1) P (ownPostG w.heap.size Kp I (fun _ _ _ => False) (pre ++ [x]) W) { tmps := ((a.tmps.setIfInBounds p1 (e1 x)).setIfInBounds p2 (.agg (cs x))).setIfInBounds s (.pointer (some ⟨Bx, 0, none⟩)), defers := [] } W)
    (hdone : ∀ (D : Nat) (xs : List α) (W : World), w.heap.size ≤ D → S xs → I xs W → W.heap[D]? = some (.deferred (some [])) → Q .normal { a with defers := { target := .collected D, args := #[] } :: a.defers } W) :
    (Code.rangeFunc g #[p1, p2] assign body).wp P Q a w := by
  refine (wpIn_wide (n := n)).1 ?_
  refine wpIn_rangeFunc_ownH (F := Fence.wide) rfl h1 hg trivial eg hseq hKt hKb (Below.refl _ _) (fun _ => rfl) I (fun _ _ _ => False) hI (fun _ _ _ _ _ hs _ _ => hs) h0
    (fun x a' W => ∃ Bx, w.heap.size ≤ Bx ∧ BoxN W Bx T (cs x) ∧ a' = { tmps := ((a.tmps.setIfInBounds p1 (e1 x)).setIfInBounds p2 (.agg (cs x))).setIfInBounds s (.pointer (some ⟨Bx, 0, none⟩)), defers := [] })
    (fun x a' _ X Y row hs hg hr => by obtain ⟨Bx, h1, h2, h3⟩ := hs; exact ⟨Bx, h1, BoxN.own Bx T (fun (_ : Unit) => cs x) () X Y row h2 hg (fun r e => (hr r e).2), h3⟩)
    ?_ ?_ hdone ?_
  · intro l pre x W K hIp hK
    rw [zip2_fold]
    exact hassign l pre x W K hIp (hK _ _ ((KeepsOthers.alloc _ _).from _) (hKa W _ (hIz pre W hIp)) (hI.alloc _ hIp) ⟨W.heap.size, hIz pre W hIp, BoxN.new W T (cs x), rfl⟩)
  · rintro l pre x a' W hl hr hIp ⟨Bx, hBx, hbx, rfl⟩ hlt
    exact hbody l pre x Bx W hIp hBx hbx hlt
  · rintro D c pre W _ _ h _
    exact h.elim
theorem range_box2 {α : Type} {g : Operand} {p1 p2 : Tmp} {assign body : Code} {Q : Exit → Act → World → Prop} {a : Act} {w : World} {gf : Nat} {lb : Array Value} (n : Nat) (T : TypeId) (asg : Array Value → α → Nat → Array Value) (h1 : 1 ≤ n)
    (hg : a.eval g = .func (.func gf) #[] lb) (eg : ∀ args w, (callFunc gf args).run P w = .ok (.enter gf args) w)
    {e1 : α → Value} {cs : α → Array Value} {Kp : World → World → Prop} {S Sp : List α → Prop} {N : Nat}
    (hseq : SeqStopsK Fence.wide (n - 1) P gf lb (fun x => #[e1 x, .agg (cs x)]) Kp S Sp N w)
    (hKt : ∀ {A B C : World}, Kp A B → Kp B C → Kp A C) (hKb : ∀ (W : World) (l : Nat) (o o' : Obj), w.heap.size ≤ l → W.heap[l]? = some o → o.isCells = false → o.isWalk = false → Kp W (W.putObj l o'))
    (hKa : ∀ (W : World) (o : Obj), w.heap.size ≤ W.heap.size → Kp W (W.alloc o))
    (I : List α → World → Prop) (hI : OwnFrom w.heap.size I) (hIz : ∀ pre W, I pre W → w.heap.size ≤ W.heap.size) (h0 : I [] w)
    (hassign : ∀ (l : Nat) (pre : List α) (x : α) (W : World) (K : Act → World → Prop), I pre W →
      K { tmps := asg a.tmps x W.heap.size, defers := [] } (W.alloc (.cells (cs x) T)) →
      assign.wpIn (Fence.wide.inRound l) (n - 1 - 1) P (Exit.then K (fun _ _ _ => False)) { tmps := (a.tmps.setIfInBounds p1 (e1 x)).setIfInBounds p2 (.agg (cs x)), defers := [] } W)
    (hbody : ∀ (l : Nat) (pre : List α) (x : α) (Bx : Nat) (W : World), I pre W → w.heap.size ≤ Bx → BoxN W Bx T (cs x) → pre.length < N →
      body.wpIn (Fence.wide.inRound l) (n - 1 - 1) P (ownPostG w.heap.size Kp I (fun _ _ _ => False) (pre ++ [x]) W) { tmps := asg a.tmps x Bx, defers := [] } W)
    (hdone : ∀ (D : Nat) (xs : List α) (W : World), w.heap.size ≤ D → S xs → I xs W → W.heap[D]? = some (.deferred (some [])) → Q .normal { a with defers := { target := .collected D, args := #[] } :: a.defers } W) :
    (Code.rangeFunc g #[p1, p2] assign body).wp P Q a w := by
  refine (wpIn_wide (n := n)).1 ?_
  refine wpIn_rangeFunc_ownH (F := Fence.wide) rfl h1 hg trivial eg hseq hKt hKb (Below.refl _ _) (fun _ => rfl) I (fun _ _ _ => False) hI (fun _ _ _ _ _ hs _ _ => hs) h0
    (fun x a' W => ∃ Bx, w.heap.size ≤ Bx ∧ BoxN W Bx T (cs x) ∧ a' = { tmps := asg a.tmps x Bx, defers := [] })
    (fun x a' _ X Y row hs hg hr => by obtain ⟨Bx, h1, h2, h3⟩ := hs; exact ⟨Bx, h1, BoxN.own Bx T (fun (_ : Unit) => cs x) () X Y row h2 hg (fun r e => (hr r e).2), h3⟩)
    ?_ ?_ hdone ?_
  · intro l pre x W K hIp hK
    rw [zip2_fold]
    exact hassign l pre x W K hIp (hK _ _ ((KeepsOthers.alloc _ _).from _) (hKa W _ (hIz pre W hIp)) (hI.alloc _ hIp) ⟨W.heap.size, hIz pre W hIp, BoxN.new W T (cs x), rfl⟩)
  · rintro l pre x a' W hl hr hIp ⟨Bx, hBx, hbx, rfl⟩ hlt
    exact hbody l pre x Bx W hIp hBx hbx hlt
  · rintro D c pre W _ _ h _
    exact h.elim
end
end Go.Proofs.YtcjlbpndgjapiaaDoor
