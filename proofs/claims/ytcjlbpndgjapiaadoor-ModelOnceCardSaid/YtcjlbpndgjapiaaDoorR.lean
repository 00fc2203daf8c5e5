/- Plain facts on worlds: what is kept below a world's size; a slice value that reads as a list of cells. No program is named. -/
import Derived.WalkKit
import Derived.Deep.QuietTactic
import Derived.BigQuiet
import Derived.Lib.Hide
import Derived.BigGuardPart
import Derived.Deep.DeepCutAuto
import Derived.Deep.RegionHeld3
import Derived.WalkSmall
import Derived.WalkSpells
import Derived.Deep.AppendSrc
import Derived.Deep.MidRow
import Derived.Laws.AppendOwn
import Derived.Laws.AppendOwnNone
namespace Go.Proofs.YtcjlbpndgjapiaaDoor
set_option linter.unusedSimpArgs false
set_option linter.unusedVariables false
open Go.RowKit

theorem Below.next {w W w2 : World} (h : Below w.heap.size w W) (hb : Below W.heap.size W w2) : Below w.heap.size w w2 := h.trans (hb.mono h.size)
theorem Below.al {w W : World} (h : Below w.heap.size w W) (o : Obj) : Below w.heap.size w (W.alloc o) := h.alloc h.size o
theorem Below.st {w W : World} (h : Below w.heap.size w W) {p : Addr} (hp : w.heap.size ≤ p.block) (u : Value) : Below w.heap.size w (W.setCell p u) := h.setCell hp u
theorem cell_lt {w : World} {a : Addr} {v : Value} (h : w.cell? a = some v) : a.block < w.heap.size := by
  unfold World.cell? at h
  rcases Nat.lt_or_ge a.block w.heap.size with h1 | h1
  · exact h1
  · rw [Array.getElem?_eq_none h1] at h
    simp at h
theorem nb {p : Prop} [Decidable p] (h : ¬ p) : decide p = false := by simp [h]
theorem yb {p : Prop} [Decidable p] (h : p) : decide p = true := by simp [h]

/-- v is a slice of n elements of 'size' cells each; its cells read cs. -/
def RdS (w : World) (size : Nat) (v : Value) (n : Nat) (cs : List Value) : Prop :=
  cs.length = n * size ∧ n ≤ maxLen ∧ ((n = 0 ∧ ∃ a cap, v = .slice a 0 cap ∧ (a = none → cap = 0)) ∨
    ∃ b off cap, v = .slice (some ⟨b, off, none⟩) n cap ∧ n ≤ cap ∧ ∀ j u, cs[j]? = some u → w.cell? ⟨b, off + j, none⟩ = some u)

theorem RdS.keep {W w1 : World} {size : Nat} {v : Value} {n : Nat} {cs : List Value} (hb : Below W.heap.size W w1) (h : RdS W size v n cs) : RdS w1 size v n cs := by
  obtain ⟨h1, h0, h2⟩ := h
  refine ⟨h1, h0, ?_⟩
  rcases h2 with h2 | ⟨b, off, cap, hv, hc, hr⟩
  · exact .inl h2
  · exact .inr ⟨b, off, cap, hv, hc, fun j u hj => cell_later hb (hr j u hj)⟩

theorem RdS.nil (w : World) (size : Nat) : RdS w size (.slice none 0 0) 0 [] := ⟨by simp, Nat.zero_le _, .inl ⟨rfl, none, 0, rfl, fun _ => rfl⟩⟩

/-- what a call owns reads as what it owns -/
theorem RdS.of_owns {w : World} {base : Nat} {e : TypeId} {size : Nat} {v : Value} {n : Nat} {xs : List Value} (h : w.ownsRow base e size v n xs) (hsz : 0 < size) : RdS w size v n xs := by
  obtain ⟨h1, h2⟩ := h
  rcases h2 with ⟨hv, hn⟩ | ⟨g, cap, cur, hv, hg, hh, hc, hm, hs, ht⟩
  · subst hn; exact ⟨h1, Nat.zero_le _, .inl ⟨rfl, none, 0, hv, fun _ => rfl⟩⟩
  · refine ⟨h1, by omega, .inr ⟨g, 0, cap, hv, hc, fun j u hj => ?_⟩⟩
    have hjl : j < xs.length := (List.getElem?_eq_some_iff.1 hj).1
    subst ht
    rw [List.getElem?_take] at hj
    unfold World.cell?
    simp only [hh]
    split at hj
    · simpa using hj
    · cases hj

/-- a list of integers of one kind as cells -/
def ic (k : IntKind) (xs : List Int) : List Value := xs.map (Value.int k)
@[simp] theorem ic_length (k : IntKind) (xs : List Int) : (ic k xs).length = xs.length := by simp [ic]
theorem ic_get (k : IntKind) (xs : List Int) (i : Nat) (h : i < xs.length) : (ic k xs)[i]? = some (.int k (xs.getD i 0)) := by
  simp [ic, List.getElem?_map, List.getElem?_eq_getElem h]
theorem ic_append (k : IntKind) (xs ys : List Int) : ic k (xs ++ ys) = ic k xs ++ ic k ys := by simp [ic]

/-- v reads as the integers xs of kind k -/
def RdI (k : IntKind) (w : World) (v : Value) (xs : List Int) : Prop := RdS w 1 v xs.length (ic k xs)
theorem RdI.keep {k : IntKind} {W w1 : World} {v : Value} {xs : List Int} (hb : Below W.heap.size W w1) (h : RdI k W v xs) : RdI k w1 v xs := RdS.keep hb h
theorem RdI.nil (k : IntKind) (w : World) : RdI k w (.slice none 0 0) [] := RdS.nil w 1
theorem RdI.cases {k : IntKind} {w : World} {v : Value} {xs : List Int} (h : RdI k w v xs) : xs.length ≤ maxLen ∧ ((∃ a cap, v = .slice a 0 cap ∧ xs = []) ∨
    ∃ b off cap, v = .slice (some ⟨b, off, none⟩) xs.length cap ∧ xs.length ≤ cap ∧ ∀ i, i < xs.length → w.cell? ⟨b, off + i, none⟩ = some (.int k (xs.getD i 0))) := by
  obtain ⟨h1, h0, h2⟩ := h
  refine ⟨h0, ?_⟩
  rcases h2 with ⟨hn, a, cap, hv, _⟩ | ⟨b, off, cap, hv, hc, hr⟩
  · exact .inl ⟨a, cap, hv, List.length_eq_zero_iff.1 hn⟩
  · exact .inr ⟨b, off, cap, hv, hc, fun i hi => hr i _ (ic_get k xs i hi)⟩
theorem ic_one (k : IntKind) (xs : List Int) : ∀ u ∈ ic k xs, u.oneCell' = true := by
  intro u hu
  obtain ⟨x, _, rfl⟩ := List.mem_map.1 hu
  rfl

/-- what is asked of a slice type t over elements of type e -/
structure ElemOk (P : Program) (t e : TypeId) (z : Value) (size bytes : Nat) : Prop where
  ht : P.underlying t = some (.slice e)
  hi : (P.info? e).map (fun i => (i.zero, i.size, i.bytes)) = some (some z, size, bytes)
  hzs : z.cells.size = size
  hsz : 0 < size

theorem rangeAt_of {w : World} {b off : Nat} {cs : List Value} (h : ∀ j u, cs[j]? = some u → w.cell? ⟨b, off + j, none⟩ = some u) : w.rangeAt b off cs := h

theorem below_of_grown {w w' : World} {base : Nat} {e : TypeId} {size : Nat} {v : Value} {n : Nat} {xs : List Value} (hown : w.ownsRow base e size v n xs) (hg : w.grownBy w' v.ownBlock) (hbase : base ≤ w.heap.size) : Below base w w' :=
  (Below.refl base w).grown hg hbase (fun k hk => (World.ownsRow.lt hown k hk).1)

theorem owns_form {w : World} {base : Nat} {e : TypeId} {size : Nat} {v : Value} {n : Nat} {xs : List Value} (h : w.ownsRow base e size v n xs) : ∃ a c, v = .slice a n c := by
  obtain ⟨_, ⟨hv, hn⟩ | ⟨g, cap, cur, hv, _⟩⟩ := h
  · exact ⟨none, 0, by rw [hv, hn]⟩
  · exact ⟨_, _, hv⟩
theorem RdS.form {w : World} {size : Nat} {v : Value} {n : Nat} {cs : List Value} (h : RdS w size v n cs) : ∃ a c, v = .slice a n c := by
  obtain ⟨_, _, ⟨hn, a, cap, hv, _⟩ | ⟨b, off, cap, hv, _⟩⟩ := h
  · exact ⟨a, cap, by rw [hv, hn]⟩
  · exact ⟨_, _, hv⟩

/-- append of whatever reads onto what the call owns -/
theorem wp_app {P : Program} {w : World} {o : Oper} {a : Act} {K : Act → World → Prop} {Q : Exit → Act → World → Prop} (s x : Operand) (t : TypeId)
    (ho : o.op = .call { callee := .builtin .append, args := #[s, x], argTypes := #[t, t] }) (base : Nat) (e : TypeId) (z : Value) (size bytes : Nat) (E : ElemOk P t e z size bytes)
    (v : Value) (n : Nat) (xs : List Value) (hs : a.eval s = v) (hown : w.ownsRow base e size v n xs) (u : Value) (m : Nat) (cs : List Value) (hx : a.eval x = u) (hr : RdS w size u m cs) (h1 : ∀ c ∈ cs, c.oneCell' = true)
    (h63 : n + m ≤ maxLen) (hbytes : (n + m) * bytes ≤ 140737488355328) (hbase : base ≤ w.heap.size)
    (h : ∀ a' c' w', w'.ownsRow base e size (.slice a' (n + m) c') (n + m) (xs ++ cs) → w.grownBy w' v.ownBlock → Below base w w' → K (a.put o.dst (.slice a' (n + m) c')) w') : o.wp P a w K Q := by
  obtain ⟨i, hi, hz, hsize, hby⟩ := info_parts E.hi
  obtain ⟨hl, _, ⟨hm, a0, cap0, rfl, h00⟩ | ⟨b, off, cap, rfl, hc, hrd⟩⟩ := hr
  · subst hm
    have hcs : cs = [] := List.length_eq_zero_iff.1 (by omega)
    subst hcs
    cases a0 with
    | some a0 =>
      exact wp_append_own w s x t ho base e i z size bytes E.ht hi hz hsize hby E.hzs E.hsz v n xs hs hown a0 0 cap0 [] hx (by simp)
        (fun j c hj => by simp at hj) (fun _ h => by simp at h) h63 hbytes hbase (fun v' w' ho hg _ => by
          obtain ⟨a', c', rfl⟩ := owns_form ho
          exact h a' c' w' ho hg (below_of_grown hown hg hbase))
    | none =>
    obtain rfl := h00 rfl
    have hrun := run_append_owned_none (P := P) (w := w) base t o.type e i size E.ht hi v n xs hown
    unfold Oper.wp
    simp [execOp, ho, resolve, invoke, builtin, hs, hx, hrun, Result.andThen]
    have hg : w.grownBy w v.ownBlock := ⟨rfl, rfl, rfl, Nat.le_refl _, fun _ _ _ => rfl⟩
    obtain ⟨a', c', rfl⟩ := owns_form hown
    exact h a' c' w (by simpa using hown) hg (below_of_grown hown hg hbase)
  · exact wp_append_own w s x t ho base e i z size bytes E.ht hi hz hsize hby E.hzs E.hsz v n xs hs hown ⟨b, off, none⟩ m cap cs hx hl
      (fun j c hj => by rw [Addr.add_mid]; exact hrd j c hj) h1 h63 hbytes hbase (fun v' w' ho hg _ => by
        obtain ⟨a', c', rfl⟩ := owns_form ho
        exact h a' c' w' ho hg (below_of_grown hown hg hbase))

theorem wpList_app {P : Program} {w : World} {ops : Array Oper} {rest : List Oper} {o : Oper} {a : Act} {Q : Exit → Act → World → Prop} (hgd : o.guard = none) (s x : Operand) (t : TypeId)
    (ho : o.op = .call { callee := .builtin .append, args := #[s, x], argTypes := #[t, t] }) (base : Nat) (e : TypeId) (z : Value) (size bytes : Nat) (E : ElemOk P t e z size bytes)
    (v : Value) (n : Nat) (xs : List Value) (hs : a.eval s = v) (hown : w.ownsRow base e size v n xs) (u : Value) (m : Nat) (cs : List Value) (hx : a.eval x = u) (hr : RdS w size u m cs) (h1 : ∀ c ∈ cs, c.oneCell' = true)
    (h63 : n + m ≤ maxLen) (hbytes : (n + m) * bytes ≤ 140737488355328) (hbase : base ≤ w.heap.size)
    (h : ∀ a' c' w', w'.ownsRow base e size (.slice a' (n + m) c') (n + m) (xs ++ cs) → w.grownBy w' v.ownBlock → Below base w w' → wpList P ops Q rest (a.put o.dst (.slice a' (n + m) c')) w') : wpList P ops Q (o :: rest) a w :=
  wpList_plain hgd fun _ hK => wp_app s x t ho base e z size bytes E v n xs hs hown u m cs hx hr h1 h63 hbytes hbase fun a' c' w' h2 h3 h4 => hK _ _ (h a' c' w' h2 h3 h4)

/-- a block of cells that has just been laid, as what the call owns -/
theorem owns_block (w : World) (base : Nat) (e : TypeId) (size n : Nat) (xs : List Value) (b : Nat) (hb : base ≤ b) (hh : w.heap[b]? = some (.cells xs.toArray e (0, 0))) (hl : xs.length = n * size) (hn : n ≤ maxLen) :
    w.ownsRow base e size (.slice (some ⟨b, 0, none⟩) n n) n xs :=
  ⟨hl, .inr ⟨b, n, xs.toArray, rfl, hb, hh, Nat.le_refl _, hn, by simpa using hl, by simp [← hl]⟩⟩

theorem heap_last (w : World) (o : Obj) : (w.alloc o).heap[w.heap.size]? = some o := by show (w.heap.push o)[_]? = _; simp
theorem cell_al {w : World} {a : Addr} {v : Value} (o : Obj) (h : w.cell? a = some v) : (w.alloc o).cell? a = some v :=
  cell_later ((Below.refl _ w).alloc (Nat.le_refl _) o) h
theorem cell_set {w : World} {a p : Addr} {x : Value} (u : Value) (hne : a.block ≠ p.block) (h : w.cell? a = some x) : (w.setCell p u).cell? a = some x := by
  rw [← h]
  exact World.cell?_of_block (w := w) (Below.heap_setCell w p u a.block hne)
theorem cell_set3 {w : World} {a p1 p2 p3 : Addr} {x : Value} (u1 u2 u3 : Value) (h1 : a.block ≠ p1.block) (h2 : a.block ≠ p2.block) (h3 : a.block ≠ p3.block) (h : w.cell? a = some x) :
    (((w.setCell p1 u1).setCell p2 u2).setCell p3 u3).cell? a = some x := cell_set _ h3 (cell_set _ h2 (cell_set _ h1 h))
theorem cell_drew {w : World} {a : Addr} {x : Option Value} (h : w.cell? a = x) : w.drew.cell? a = x := h
/-- a slice value that, if it has an address, lies from block 'base' on -/
def Fresh (base : Nat) (v : Value) : Prop := ∀ a n c, v = .slice (some a) n c → base ≤ a.block
theorem Fresh.nil (base n c : Nat) : Fresh base (.slice none n c) := fun a m d h => by simp at h
theorem Fresh.mono {base base' : Nat} {v : Value} (h : Fresh base v) (hb : base' ≤ base) : Fresh base' v := fun a n c e => Nat.le_trans hb (h a n c e)
theorem Fresh.of_owns {w : World} {base : Nat} {e : TypeId} {size : Nat} {v : Value} {n : Nat} {xs : List Value} (h : w.ownsRow base e size v n xs) : Fresh base v := by
  obtain ⟨_, ⟨hv, hn⟩ | ⟨g, cap, cur, hv, hg, _⟩⟩ := h
  · rw [hv]; exact Fresh.nil _ _ _
  · intro a m d e; rw [hv] at e; cases e; exact hg
theorem RdS.set {w : World} {size : Nat} {v : Value} {n : Nat} {cs : List Value} {base : Nat} {p : Addr} (u : Value) (h : RdS w size v n cs) (hf : Fresh base v) (hp : p.block < base) : RdS (w.setCell p u) size v n cs := by
  obtain ⟨h1, h0, h2⟩ := h
  refine ⟨h1, h0, ?_⟩
  rcases h2 with h2 | ⟨b, off, cap, hv, hc, hr⟩
  · exact .inl h2
  · have := hf _ _ _ hv
    exact .inr ⟨b, off, cap, hv, hc, fun j x hj => cell_set _ (by have : base ≤ b := this; show b ≠ p.block; omega) (hr j x hj)⟩
theorem RdI.set {k : IntKind} {w : World} {v : Value} {xs : List Int} {base : Nat} {p : Addr} (u : Value) (h : RdI k w v xs) (hf : Fresh base v) (hp : p.block < base) : RdI k (w.setCell p u) v xs := RdS.set u h hf hp
theorem RdI.form {k : IntKind} {w : World} {v : Value} {xs : List Int} (h : RdI k w v xs) : ∃ a c, v = .slice a xs.length c := RdS.form h
theorem fz_set {w : World} {a p : Addr} {x : Bool} (u : Value) (h : w.frozen? a = x) : (w.setCell p u).frozen? a = x := by rw [World.frozen?_setCell]; exact h
theorem fz_later {w wx : World} {a : Addr} {x : Bool} (hb : Below w.heap.size w wx) (ha : a.block < w.heap.size) (h : w.frozen? a = x) : wx.frozen? a = x := (hb.frozen ha).trans h
end Go.Proofs.YtcjlbpndgjapiaaDoor
