/- A drawn region whose guards are not decided: each guarded operation's slot holds what it yields if its guard is open. Plain; no program is named. -/
import Derived.Test.YtnkpjfogjkjcfaaX
import Derived.Deep.Quiet
import Derived.Tactics
namespace Go.Proofs.Ytnkpjfogjkjcfaa
set_option linter.unusedSimpArgs false
set_option linter.unusedVariables false
open Go.RowKit

/-- what lies in the slot of an operation under a guard -/
def sel (g : Bool) (v : Value) : Value := bif g then v else undef
@[simp] theorem sel_true (v : Value) : sel true v = v := rfl
@[simp] theorem sel_false (v : Value) : sel false v = undef := rfl
section
variable {P : Program} {md : Region.Mode} {ops : Array Oper} {Q : Exit → Act → World → Prop} {S : World → Prop} {m : Nat}
theorem cm_if (i d : Nat) {oi : Oper} {v : Value} {g : Bool} {f : Nat} {L : Array Bool} {a : Act} (hi : ops[i]? = some oi) (hd : oi.dst = some d) (hs : Region.noSelect ops = true) (hf : Region.free md ops L i = true) (hr : (Region.ready md ops L).contains i = true)
    (hw : waitOk md ops L i m (waiters md ops i) = true) (him : (i == m) = false) (hQ : ∀ c a w (u : Value), Q (.panic c) (a.put oi.dst u) w → Q (.panic c) a w) (hwa : Region.wanted oi (yielded ops a.tmps) = g)
    (hy : g = true → ∀ w, S w → (execOp a.eval oi).run P w = .ok (.value v) w)
    (h : calm P md ops Q S m f (L.setIfInBounds i true) { a with tmps := a.tmps.setIfInBounds d (sel g v) }) : calm P md ops Q S m (f + 1) L a := by
  cases g
  · exact cm_shut i d hi hd hs hf hr hw him (fun c a w => hQ c a w _) hwa h
  · exact cm_run i d hi hd hs hf hr hw him (fun c a w => hQ c a w _) hwa (hy rfl) h
theorem cm_callif (i d fn : Nat) {oi : Oper} {v : Value} {g : Bool} {args : Array Value} {f : Nat} {L : Array Bool} {a : Act} (hi : ops[i]? = some oi) (hd : oi.dst = some d) (hs : Region.noSelect ops = true) (hf : Region.free md ops L i = true) (hr : (Region.ready md ops L).contains i = true)
    (hw : waitOk md ops L i m (waiters md ops i) = true) (him : (i == m) = false) (hQ : ∀ c a w (u : Value), Q (.panic c) (a.put oi.dst u) w → Q (.panic c) a w) (hwa : Region.wanted oi (yielded ops a.tmps) = g)
    (hy : g = true → ∀ w, S w → (execOp a.eval oi).run P w = .ok (.enter fn args) w) (hc : g = true → ∀ w, S w → Calls P fn args w fun e w' => e = .returned v ∧ S w')
    (h : calm P md ops Q S m f (L.setIfInBounds i true) { a with tmps := a.tmps.setIfInBounds d (sel g v) }) : calm P md ops Q S m (f + 1) L a := by
  cases g
  · exact cm_shut i d hi hd hs hf hr hw him (fun c a w => hQ c a w _) hwa h
  · exact cm_call i d fn hi hd hs hf hr hw him (fun c a w => hQ c a w _) hwa (hy rfl) (hc rfl) h
end
/-- what a slot says to a guard -/
def ynd (v : Value) : Option Bool := match v with | .bool b => some b | _ => none
theorem wb_t (e : Bool) : (ynd (.bool e) == some true) = e := by cases e <;> rfl
theorem wb_f (e : Bool) : (ynd (.bool e) == some false) = !e := by cases e <;> rfl
theorem ws_t (g e : Bool) : (ynd (sel g (.bool e)) == some true) = (g && e) := by cases g <;> cases e <;> rfl
theorem ws_f (g e : Bool) : (ynd (sel g (.bool e)) == some false) = (g && !e) := by cases g <;> cases e <;> rfl
theorem pk_or (e f : Bool) : (if e = true then Value.bool true else sel (!e) (.bool f)) = .bool (e || f) := by cases e <;> cases f <;> rfl
theorem pk_and (e f : Bool) : (if e = true then sel e (.bool f) else Value.bool false) = .bool (e && f) := by cases e <;> cases f <;> rfl
theorem pk_gor (g e f : Bool) (hg : g = true) : (if e = true then Value.bool true else sel (g && !e) (.bool f)) = .bool (e || f) := by subst hg; cases e <;> cases f <;> rfl
theorem pk_gand (g e f : Bool) (hg : g = true) : (if e = true then sel (g && e) (.bool f) else Value.bool false) = .bool (e && f) := by subst hg; cases e <;> cases f <;> rfl
theorem want_at {o : Oper} {ops : Array Oper} {tmps : Array Value} {j d : Nat} {b : Bool} {v : Value} (hg : o.guard = some (j, b)) (hd : (ops[j]?).bind (·.dst) = some d) (hv : tmps[d]? = some v) : Region.wanted o (yielded ops tmps) = (ynd v == some b) := by
  unfold Region.wanted yielded
  rw [hg]
  simp only [hd, Option.bind_some, hv]
  cases v <;> rfl
section
variable {P : Program} {w : World} {ρ : Operand → Value}
/-- 'a pick' by its condition -/
theorem run_pick {o : Oper} {c x y : Operand} {e : Bool} (ho : o.op = .pick c x y) (hc : ρ c = .bool e) : (execOp ρ o).run P w = .ok (.value (if e = true then ρ x else ρ y)) w := by
  unfold execOp
  simp only [ho, hc, asBool]
  cases e <;> rfl
end

/-! The same with the frame abstracted: an operation is run against a frame that is a variable, of which its operands alone are known. -/
def putT (a : Act) (d : Nat) (v : Value) : Act := { a with tmps := (a.tmps.toList.set d v).toArray }
theorem putT_eq (a : Act) (d : Nat) (v : Value) : ({ a with tmps := a.tmps.setIfInBounds d v } : Act) = putT a d v := by
  unfold putT
  congr 1
  apply Array.ext'
  simp
/-- slot x of A holds what it holds in a -/
def Alike (A a : Act) (x : Nat) : Prop := A.tmps.getD x undef = a.tmps.getD x undef
theorem eval_at {a : Act} {x : Nat} {v : Value} (h : a.tmps[x]? = some v) : a.eval (.tmp x) = v := by
  unfold Act.eval
  simp [h]
theorem put_some (a : Act) {o : Oper} {d : Nat} (hd : o.dst = some d) (v : Value) : a.put o.dst v = putT a d v := by
  rw [← putT_eq, hd]
  rfl
section
variable {P : Program} {ops : Array Oper} {S : World → Prop} {K : Act → Prop}
theorem wpList_of_quiet {Q : Exit → Act → World → Prop} : ∀ (l : List Oper) (a : Act) (w : World), S w → wpQuiet P ops S (fun a' => ∀ w', S w' → Q .normal a' w') l a → wpList P ops Q l a w
  | [], a, w, hS, h => h w hS
  | o :: l, a, w, hS, h => by
    unfold wpQuiet at h
    unfold wpList
    split
    · rename_i hw
      rw [if_pos hw] at h
      exact .inl (Oper.wp_of_quiet hS (fun a' w' hS' h' => wpList_of_quiet l a' w' hS' h') h)
    · rename_i hw
      rw [if_neg hw] at h
      exact wpList_of_quiet l _ w hS h
/-- a region that draws, all of whose operations yield one value in every world that meets S -/
theorem wp_region_sym (S : World → Prop) {id : Nat} {Q : Exit → Act → World → Prop} {a : Act} {w : World} {l : List Oper} (hm : P.follows .mixedOrders = true) (hB : Region.lexB .any l.toArray = true) (hS : S w.drew)
    (h : wpQuiet P l.toArray S (fun a' => ∀ w', S w' → Q .normal a' w') l a) : (Code.region id l.toArray true).wp P Q a w :=
  wp_region_quiet hm hB hS (by simpa using h)
theorem wp_region_symL (S : World → Prop) {id : Nat} {Q : Exit → Act → World → Prop} {a : Act} {w : World} {l : List Oper} (hS : S w)
    (h : wpQuiet P l.toArray S (fun a' => ∀ w', S w' → Q .normal a' w') l a) : (Code.region id l.toArray false).wp P Q a w :=
  wp_region_lit (wpList_of_quiet l a w hS h)
theorem q_if (d : Nat) {o : Oper} {rest : List Oper} {v : Value} {g : Bool} {a : Act} (hd : o.dst = some d) (hwa : Region.wanted o (yielded ops a.tmps) = g) (hy : g = true → ∀ w, S w → (execOp a.eval o).run P w = .ok (.value v) w)
    (h : wpQuiet P ops S K rest (putT a d (sel g v))) : wpQuiet P ops S K (o :: rest) a := by
  unfold wpQuiet
  rw [hwa]
  cases g
  · simp only [Bool.false_eq_true, if_false]; rw [put_some a hd]; exact h
  · simp only [if_true]
    exact ⟨v, fun w hS => by unfold Oper.quietAt; rw [hy rfl w hS]; exact ⟨rfl, rfl⟩, by rw [put_some a hd]; exact h⟩
theorem q_run (d : Nat) {o : Oper} {rest : List Oper} {v : Value} {a : Act} (hd : o.dst = some d) (hg : o.guard = none) (hy : ∀ w, S w → (execOp a.eval o).run P w = .ok (.value v) w)
    (h : wpQuiet P ops S K rest (putT a d v)) : wpQuiet P ops S K (o :: rest) a :=
  q_if (g := true) d hd (by unfold Region.wanted; rw [hg]) (fun _ => hy) h
theorem q_callif (d fn : Nat) {o : Oper} {rest : List Oper} {v : Value} {g : Bool} {args : Array Value} {a : Act} (hd : o.dst = some d) (hwa : Region.wanted o (yielded ops a.tmps) = g) (hy : g = true → ∀ w, S w → (execOp a.eval o).run P w = .ok (.enter fn args) w)
    (hc : g = true → ∀ w, S w → Calls P fn args w fun e w' => e = .returned v ∧ S w') (h : wpQuiet P ops S K rest (putT a d (sel g v))) : wpQuiet P ops S K (o :: rest) a := by
  unfold wpQuiet
  rw [hwa]
  cases g
  · simp only [Bool.false_eq_true, if_false]; rw [put_some a hd]; exact h
  · simp only [if_true]
    exact ⟨v, fun w hS => by unfold Oper.quietAt; rw [hy rfl w hS]; exact ⟨rfl, hc rfl w hS⟩, by rw [put_some a hd]; exact h⟩
theorem q_call (d fn : Nat) {o : Oper} {rest : List Oper} {v : Value} {args : Array Value} {a : Act} (hd : o.dst = some d) (hg : o.guard = none) (hy : ∀ w, S w → (execOp a.eval o).run P w = .ok (.enter fn args) w)
    (hc : ∀ w, S w → Calls P fn args w fun e w' => e = .returned v ∧ S w') (h : wpQuiet P ops S K rest (putT a d v)) : wpQuiet P ops S K (o :: rest) a :=
  q_callif (g := true) d fn hd (by unfold Region.wanted; rw [hg]) (fun _ => hy) (fun _ => hc) h
theorem q_if1 (d x : Nat) {vx : Value} {o : Oper} {rest : List Oper} {v : Value} {g : Bool} {a : Act} (hx : a.tmps[x]? = some vx) (hd : o.dst = some d) (hwa : Region.wanted o (yielded ops a.tmps) = g)
    (hy : g = true → ∀ A : Act, A.tmps[x]? = some vx → ∀ w, S w → (execOp A.eval o).run P w = .ok (.value v) w) (h : wpQuiet P ops S K rest (putT a d (sel g v))) : wpQuiet P ops S K (o :: rest) a :=
  q_if d hd hwa (fun hg => hy hg a hx) h
theorem q_run1 (d x : Nat) {vx : Value} {o : Oper} {rest : List Oper} {v : Value} {a : Act} (hx : a.tmps[x]? = some vx) (hd : o.dst = some d) (hg : o.guard = none)
    (hy : ∀ A : Act, A.tmps[x]? = some vx → ∀ w, S w → (execOp A.eval o).run P w = .ok (.value v) w) (h : wpQuiet P ops S K rest (putT a d v)) : wpQuiet P ops S K (o :: rest) a :=
  q_run d hd hg (hy a hx) h
theorem q_if2 (d x y : Nat) {vx vy : Value} {o : Oper} {rest : List Oper} {v : Value} {g : Bool} {a : Act} (hx : a.tmps[x]? = some vx) (hv : a.tmps[y]? = some vy) (hd : o.dst = some d) (hwa : Region.wanted o (yielded ops a.tmps) = g)
    (hy : g = true → ∀ A : Act, A.tmps[x]? = some vx → A.tmps[y]? = some vy → ∀ w, S w → (execOp A.eval o).run P w = .ok (.value v) w) (h : wpQuiet P ops S K rest (putT a d (sel g v))) : wpQuiet P ops S K (o :: rest) a :=
  q_if d hd hwa (fun hg => hy hg a hx hv) h
theorem q_run2 (d x y : Nat) {vx vy : Value} {o : Oper} {rest : List Oper} {v : Value} {a : Act} (hx : a.tmps[x]? = some vx) (hv : a.tmps[y]? = some vy) (hd : o.dst = some d) (hg : o.guard = none)
    (hy : ∀ A : Act, A.tmps[x]? = some vx → A.tmps[y]? = some vy → ∀ w, S w → (execOp A.eval o).run P w = .ok (.value v) w) (h : wpQuiet P ops S K rest (putT a d v)) : wpQuiet P ops S K (o :: rest) a :=
  q_run d hd hg (hy a hx hv) h
theorem q_move (d x : Nat) {vx : Value} {o : Oper} {rest : List Oper} {a : Act} (hx : a.tmps[x]? = some vx) (ho : o.op = .move (.tmp x) ∨ o.op = .assign (.tmp x)) (hd : o.dst = some d) (hg : o.guard = none)
    (h : wpQuiet P ops S K rest (putT a d vx)) : wpQuiet P ops S K (o :: rest) a :=
  q_run d hd hg (fun w _ => by rcases ho with ho | ho <;> (unfold execOp; simp only [ho, eval_at hx]; rfl)) h
/-- a guarded move: of what is known under the guard -/
theorem q_moveg (d x : Nat) {v : Value} {o : Oper} {rest : List Oper} {g : Bool} {a : Act} (ho : o.op = .move (.tmp x)) (hd : o.dst = some d) (hwa : Region.wanted o (yielded ops a.tmps) = g) (hx : a.tmps[x]? = some v ∨ a.tmps[x]? = some (sel g v))
    (h : wpQuiet P ops S K rest (putT a d (sel g v))) : wpQuiet P ops S K (o :: rest) a :=
  q_if d hd hwa (fun hg w _ => by
    have he : a.eval (.tmp x) = v := by
      rcases hx with hx | hx
      · exact eval_at hx
      · rw [eval_at hx, hg]; rfl
    unfold execOp
    simp only [ho, he]
    rfl) h
/-- a pick, by its condition and what it picks from -/
theorem q_pick (d c y : Nat) {e : Bool} {u : Value} {o : Oper} {rest : List Oper} {v : Value} {a : Act} (hc : a.tmps[c]? = some (.bool e)) (hu : a.tmps[y]? = some u) (ho : o.op = .pick (.tmp c) (.const (.bool true)) (.tmp y)) (hd : o.dst = some d) (hg : o.guard = none)
    (hv : (if e = true then Value.bool true else u) = v) (h : wpQuiet P ops S K rest (putT a d v)) : wpQuiet P ops S K (o :: rest) a :=
  q_run d hd hg (fun w _ => by
    rw [run_pick ho (eval_at hc), eval_at hu, show a.eval (.const (.bool true)) = .bool true from rfl, hv]) h
theorem q_pickA (d c y : Nat) {e : Bool} {u : Value} {o : Oper} {rest : List Oper} {v : Value} {a : Act} (hc : a.tmps[c]? = some (.bool e)) (hu : a.tmps[y]? = some u) (ho : o.op = .pick (.tmp c) (.tmp y) (.const (.bool false))) (hd : o.dst = some d) (hg : o.guard = none)
    (hv : (if e = true then u else Value.bool false) = v) (h : wpQuiet P ops S K rest (putT a d v)) : wpQuiet P ops S K (o :: rest) a :=
  q_run d hd hg (fun w _ => by
    rw [run_pick ho (eval_at hc), eval_at hu, show a.eval (.const (.bool false)) = .bool false from rfl, hv]) h
theorem q_pickG (d c y : Nat) {e g : Bool} {u : Value} {o : Oper} {rest : List Oper} {v : Value} {a : Act} (hc : a.tmps[c]? = some (sel g (.bool e))) (hu : a.tmps[y]? = some u) (ho : o.op = .pick (.tmp c) (.const (.bool true)) (.tmp y)) (hd : o.dst = some d) (hwa : Region.wanted o (yielded ops a.tmps) = g)
    (hv : g = true → (if e = true then Value.bool true else u) = v) (h : wpQuiet P ops S K rest (putT a d (sel g v))) : wpQuiet P ops S K (o :: rest) a :=
  q_if d hd hwa (fun hg w _ => by
    rw [run_pick (e := e) ho (by rw [eval_at hc, hg]; rfl), eval_at hu, show a.eval (.const (.bool true)) = .bool true from rfl, hv hg]) h
theorem q_pickAG (d c y : Nat) {e g : Bool} {u : Value} {o : Oper} {rest : List Oper} {v : Value} {a : Act} (hc : a.tmps[c]? = some (sel g (.bool e))) (hu : a.tmps[y]? = some u) (ho : o.op = .pick (.tmp c) (.tmp y) (.const (.bool false))) (hd : o.dst = some d) (hwa : Region.wanted o (yielded ops a.tmps) = g)
    (hv : g = true → (if e = true then u else Value.bool false) = v) (h : wpQuiet P ops S K rest (putT a d (sel g v))) : wpQuiet P ops S K (o :: rest) a :=
  q_if d hd hwa (fun hg w _ => by
    rw [run_pick (e := e) ho (by rw [eval_at hc, hg]; rfl), eval_at hu, show a.eval (.const (.bool false)) = .bool false from rfl, hv hg]) h
end
end Go.Proofs.Ytnkpjfogjkjcfaa
