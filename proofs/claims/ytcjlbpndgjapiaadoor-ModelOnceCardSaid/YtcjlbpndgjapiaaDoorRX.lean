/- Rows of one's own, stored into element by element; what is kept but for some blocks. No program is named. -/
import Derived.Test.YtcjlbpndgjapiaaDoorRW
import Derived.Test.YtcjlbpndgjapiaaDoorX
import Derived.Laws.IdiomCopy
import Derived.Laws.OwnMore
import Derived.Deep.MidRow
namespace Go.Proofs.YtcjlbpndgjapiaaDoor
set_option linter.unusedSimpArgs false
set_option linter.unusedVariables false
open Go.RowKit

/-- cells laid one behind the other into a list -/
def setRow (xs : List Value) (o : Nat) : List Value → List Value
  | [] => xs
  | v :: r => setRow (xs.set o v) (o + 1) r
theorem setRow_len (xs : List Value) (o : Nat) (vs : List Value) : (setRow xs o vs).length = xs.length := by
  induction vs generalizing xs o with
  | nil => rfl
  | cons v r ih => unfold setRow; rw [ih]; simp
theorem setRow_get (vs : List Value) : ∀ (xs : List Value) (o j : Nat), o + vs.length ≤ xs.length → (setRow xs o vs)[j]? = if o ≤ j ∧ j < o + vs.length then vs[j - o]? else xs[j]? := by
  induction vs with
  | nil => intro xs o j h; simp [setRow]; omega
  | cons v r ih =>
    intro xs o j h
    simp only [List.length_cons] at h
    unfold setRow
    rw [ih _ _ _ (by simp; omega), List.length_cons]
    by_cases h1 : o + 1 ≤ j ∧ j < o + 1 + r.length
    · rw [if_pos h1, if_pos (by omega), show j - o = (j - (o + 1)) + 1 by omega]
      rfl
    · rw [if_neg h1]
      by_cases h2 : o = j
      · subst h2
        rw [if_pos (by omega), List.getElem?_set, if_pos rfl, if_pos (by omega), Nat.sub_self]
        rfl
      · rw [if_neg (by omega), List.getElem?_set, if_neg h2]
theorem rcs_set {α : Type} (R : RowT α) (l : List α) (i : Nat) (t : α) (hi : i < l.length) : rcs R (l.set i t) = setRow (rcs R l) (i * R.size) (R.cells t) := by
  have hmul : (i + 1) * R.size ≤ l.length * R.size := Nat.mul_le_mul_right _ hi
  rw [Nat.add_mul, Nat.one_mul] at hmul
  apply List.ext_getElem?
  intro j
  rw [setRow_get _ _ _ _ (by rw [R.len, rcs_length]; omega), R.len]
  by_cases hj : j < l.length * R.size
  · have hdm : j / R.size * R.size + j % R.size = j := by have := Nat.div_add_mod j R.size; rw [Nat.mul_comm] at this; exact this
    have hm := Nat.mod_lt j R.pos
    have hd : j / R.size < l.length := by rw [Nat.div_lt_iff_lt_mul R.pos]; exact hj
    have e1 := rcs_get R (l.set i t) (j / R.size) (j % R.size) (by simpa using hd) hm
    have e2 := rcs_get R l (j / R.size) (j % R.size) hd hm
    rw [hdm] at e1 e2
    rw [e1, e2, List.getD_eq_getElem?_getD, List.getElem?_set]
    by_cases hij : i = j / R.size
    · rw [if_pos hij, if_pos hi, if_pos (by rw [hij]; omega)]
      rw [show j - i * R.size = j % R.size by rw [hij]; omega]
      rfl
    · rw [if_neg hij, if_neg (fun h => hij ?_), List.getD_eq_getElem?_getD]
      exact (Nat.div_eq_of_lt_le h.1 (by rw [Nat.add_mul, Nat.one_mul]; exact h.2)).symm
  · rw [List.getElem?_eq_none (by rw [rcs_length, List.length_set]; omega), if_neg (by omega), List.getElem?_eq_none (by rw [rcs_length]; omega)]
/-- a row of one's own, one element stored anew -/
theorem own_row {w : World} {base e g n cap : Nat} {α : Type} {R : RowT α} {l : List α} (h : w.ownsRow base e R.size (.slice (some ⟨g, 0, none⟩) n cap) n (rcs R l)) (i : Nat) (hi : i < l.length) (t : α) :
    (w.setCells g (i * R.size) (R.cells t)).ownsRow base e R.size (.slice (some ⟨g, 0, none⟩) n cap) n (rcs R (l.set i t)) := by
  rw [rcs_set R l i t hi]
  generalize rcs R l = xs at h ⊢
  generalize i * R.size = o
  generalize R.cells t = vs
  induction vs generalizing w xs o with
  | nil => exact h
  | cons v r ih =>
    unfold World.setCells setRow
    exact ih _ (h.stored o v).1 _
/-- whatever lay in w lies in w' still, but for the blocks of X -/
def Kx (X : Nat → Prop) (w w' : World) : Prop := Below 0 w w' ∧ ∀ k, k < w.heap.size → ¬ X k → w'.heap[k]? = w.heap[k]?
theorem Kx.refl (X : Nat → Prop) (w : World) : Kx X w w := ⟨Below.refl _ _, fun _ _ _ => rfl⟩
theorem Kx.size {X : Nat → Prop} {w w' : World} (h : Kx X w w') : w.heap.size ≤ w'.heap.size := h.1.size
theorem Kx.of_below {X : Nat → Prop} {w w' : World} (h : Below w.heap.size w w') : Kx X w w' := ⟨h.mono (Nat.zero_le _), fun k hk _ => h.block k hk⟩
theorem Kx.trans {X Y : Nat → Prop} {a b c : World} (h : Kx X a b) (h2 : Kx Y b c) (hxy : ∀ k, k < a.heap.size → Y k → X k) : Kx X a c :=
  ⟨h.1.trans h2.1, fun k hk hx => (h2.2 k (Nat.lt_of_lt_of_le hk h.size) (fun hy => hx (hxy k hk hy))).trans (h.2 k hk hx)⟩
theorem Kx.next {X : Nat → Prop} {a b c : World} (h : Kx X a b) (h2 : Below b.heap.size b c) : Kx X a c := h.trans (Kx.of_below (X := X) h2) fun _ _ hk => hk
theorem Kx.mono {X Y : Nat → Prop} {a b : World} (h : Kx X a b) (hxy : ∀ k, X k → Y k) : Kx Y a b := ⟨h.1, fun k hk hy => h.2 k hk (fun hx => hy (hxy k hx))⟩
theorem Kx.below {X : Nat → Prop} {a b : World} {n : Nat} (h : Kx X a b) (hn : n ≤ a.heap.size) (hx : ∀ k, X k → n ≤ k) : Below n a b :=
  ⟨h.1.os, h.1.tape, h.1.output, h.1.size, fun k hk => h.2 k (by omega) (fun hxk => by have := hx k hxk; omega)⟩
theorem Kx.setCells {X : Nat → Prop} {a b : World} (h : Kx X a b) {g : Nat} (hg : X g ∨ a.heap.size ≤ g) (o : Nat) (vs : List Value) : Kx X a (b.setCells g o vs) := by
  induction vs generalizing b o with
  | nil => exact h
  | cons v r ih =>
    unfold World.setCells
    refine ih (b := b.setCell ⟨g, o, none⟩ v) ⟨⟨h.1.os, h.1.tape, h.1.output, by simpa using h.1.size, (fun k hk => by omega)⟩, fun k hk hx => ?_⟩ (o + 1)
    exact (Below.heap_setCell b ⟨g, o, none⟩ v k (fun e => by have e : k = g := e; rw [e] at hk hx; rcases hg with hg | hg; exact hx hg; omega)).trans (h.2 k hk hx)
theorem Kx.setCell {X : Nat → Prop} {a b : World} (h : Kx X a b) {g o : Nat} (hg : X g ∨ a.heap.size ≤ g) (v : Value) : Kx X a (b.setCell ⟨g, o, none⟩ v) := Kx.setCells h hg o [v]
theorem Kx.alloc {X : Nat → Prop} {a b : World} (h : Kx X a b) (o : Obj) : Kx X a (b.alloc o) := h.next (Below.al (Below.refl _ _) o)
theorem Kx.grown {X : Nat → Prop} {a b c : World} (h : Kx X a b) {row : Option Nat} (hg : b.grownBy c row) (hr : ∀ k, row = some k → X k ∨ a.heap.size ≤ k) : Kx X a c :=
  ⟨⟨hg.os.trans h.1.os, hg.tape.trans h.1.tape, hg.output.trans h.1.output, Nat.le_trans h.size hg.size, fun k hk => by omega⟩, fun k hk hx =>
    (hg.block k (Nat.lt_of_lt_of_le hk h.size) (fun e => by rcases hr k e.symm with h1 | h1; exact hx h1; omega)).trans (h.2 k hk hx)⟩
theorem Kx.box {X : Nat → Prop} {a b : World} {k T : Nat} {cs : Array Value} (h : Kx X a b) (hx : ¬ X k) (hb : BoxN a k T cs) : BoxN b k T cs := by
  have hk : k < a.heap.size := (Array.getElem?_eq_some_iff.1 hb).1
  exact (h.2 k hk hx).trans hb
theorem Kx.cell {X : Nat → Prop} {a b : World} {p : Addr} {v : Value} (h : Kx X a b) (hx : ¬ X p.block) (hc : a.cell? p = some v) : b.cell? p = some v :=
  (World.cell?_of_block (w := a) (h.2 p.block (cell_lt hc) hx)).trans hc
theorem Kx.rds {X : Nat → Prop} {a b : World} {size n : Nat} {v : Value} {cs : List Value} (h : Kx X a b) (hx : ∀ k, v.ownBlock = some k → ¬ X k) (hr : RdS a size v n cs) : RdS b size v n cs := by
  obtain ⟨h1, h0, h2⟩ := hr
  refine ⟨h1, h0, ?_⟩
  rcases h2 with h2 | ⟨g, off, cap, hv, hc, hr⟩
  · exact .inl h2
  · exact .inr ⟨g, off, cap, hv, hc, fun j u hj => h.cell (p := ⟨g, off + j, none⟩) (hx g (by rw [hv]; rfl)) (hr j u hj)⟩
theorem Kx.owns {X : Nat → Prop} {a b : World} {base e size n : Nat} {v : Value} {xs : List Value} (h : Kx X a b) (hx : ∀ k, v.ownBlock = some k → ¬ X k) (hr : a.ownsRow base e size v n xs) : b.ownsRow base e size v n xs := by
  refine ⟨hr.1, ?_⟩
  rcases hr.2 with h2 | ⟨g, cap, cur, hv, hb, hh, rest⟩
  · exact .inl h2
  · refine .inr ⟨g, cap, cur, hv, hb, ?_, rest⟩
    exact (h.2 g (Array.getElem?_eq_some_iff.1 hh).1 (hx g (by rw [hv]; rfl))).trans hh
theorem rcs_take {α : Type} (R : RowT α) (l : List α) : ∀ a, (rcs R l).take (a * R.size) = rcs R (l.take a) := by
  induction l with
  | nil => intro a; simp [rcs]
  | cons c l ih =>
    intro a
    cases a with
    | zero => simp [rcs]
    | succ a =>
      rw [List.take_succ_cons, rcs_cons, rcs_cons, ← ih a, List.take_append, R.len, show (a + 1) * R.size - R.size = a * R.size by rw [Nat.add_mul]; omega, List.take_of_length_le (by rw [R.len, Nat.add_mul]; omega)]
theorem rcs_drop {α : Type} (R : RowT α) (l : List α) : ∀ a, (rcs R l).drop (a * R.size) = rcs R (l.drop a) := by
  induction l with
  | nil => intro a; simp [rcs]
  | cons c l ih =>
    intro a
    cases a with
    | zero => simp
    | succ a =>
      rw [List.drop_succ_cons, rcs_cons, ← ih a, List.drop_append, R.len, show (a + 1) * R.size - R.size = a * R.size by rw [Nat.add_mul]; omega, List.drop_of_length_le (by rw [R.len, Nat.add_mul]; omega), List.nil_append]
/-- the first a rows of what reads -/
theorem rdl_take {α : Type} {R : RowT α} {w : World} {a0 : Option Addr} {N n0 : Nat} {l : List α} (h : RdL R w (.slice a0 N n0) l) (hN : l.length = N) (a : Nat) (ha : a ≤ N) : RdL R w (sliced a0 0 a n0 R.size) (l.take a) := by
  obtain ⟨hl, hm, hr⟩ := h
  have hla : (l.take a).length = a := by rw [List.length_take]; omega
  unfold RdL
  rw [hla]
  refine ⟨by rw [rcs_length, hla], by omega, ?_⟩
  rcases hr with ⟨h0, a1, cap, hv, hn⟩ | ⟨b, off, cap, hv, hc, hr⟩
  · simp only [Value.slice.injEq] at hv
    obtain ⟨rfl, h2, rfl⟩ := hv
    refine .inl ⟨by omega, _, _, by unfold sliced; rw [show a - 0 = 0 by omega], fun he => ?_⟩
    cases a0 with
    | none => simp [hn rfl]
    | some a1 => split at he <;> simp at he
  · simp only [Value.slice.injEq] at hv
    obtain ⟨rfl, h2, rfl⟩ := hv
    refine .inr ⟨b, off, n0, ?_, by omega, fun j u hj => ?_⟩
    · unfold sliced
      simp [Addr.add]
    · rw [← rcs_take, List.getElem?_take] at hj
      split at hj
      · exact hr j u hj
      · cases hj
/-- what is left of what reads behind a rows -/
theorem rdl_drop {α : Type} {R : RowT α} {w : World} {a0 : Option Addr} {N n0 : Nat} {l : List α} (h : RdL R w (.slice a0 N n0) l) (hN : l.length = N) (a : Nat) (ha : a ≤ N) : RdL R w (sliced a0 a N n0 R.size) (l.drop a) := by
  obtain ⟨hl, hm, hr⟩ := h
  have hla : (l.drop a).length = N - a := by rw [List.length_drop]; omega
  unfold RdL
  rw [hla]
  refine ⟨by rw [rcs_length, hla], by omega, ?_⟩
  rcases hr with ⟨h0, a1, cap, hv, hn⟩ | ⟨b, off, cap, hv, hc, hr⟩
  · simp only [Value.slice.injEq] at hv
    obtain ⟨rfl, h2, rfl⟩ := hv
    refine .inl ⟨by omega, _, _, by unfold sliced; rw [show N - a = 0 by omega], fun he => ?_⟩
    cases a0 with
    | none => simp [hn rfl]
    | some a1 => simp at he; split at he <;> simp at he
  · simp only [Value.slice.injEq] at hv
    obtain ⟨rfl, h2, rfl⟩ := hv
    by_cases hz : n0 = a
    · refine .inl ⟨by omega, _, _, by unfold sliced; rw [show N - a = 0 by omega], fun he => ?_⟩
      rw [if_pos hz] at he
      cases he
    · refine .inr ⟨b, off + a * R.size, n0 - a, ?_, by omega, fun j u hj => ?_⟩
      · unfold sliced
        rw [if_neg hz]
        simp [Addr.add]
      · rw [← rcs_drop, List.getElem?_drop] at hj
        have := hr _ u hj
        rwa [show off + (a * R.size + j) = off + a * R.size + j by omega] at this
end Go.Proofs.YtcjlbpndgjapiaaDoor
