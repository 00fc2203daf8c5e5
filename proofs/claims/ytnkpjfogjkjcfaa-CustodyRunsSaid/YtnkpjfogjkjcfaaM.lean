


/- Custody: a world in memory of one's own, and what stores into it leave. -/
import Derived.Test.YtnkpjfogjkjcfaaI
import Derived.Test.YtnkpjfogjkjcfaaLr
namespace Go.Proofs.Ytnkpjfogjkjcfaa
open Go.RowKit
set_option linter.unusedSimpArgs false
set_option linter.unusedVariables false
set_option maxRecDepth 100000

abbrev OwC (w : World) (B g cap n : Nat) (q : List Cq) : Prop := w.ownsRow B 45 6 (.slice (some ⟨g, 0, none⟩) n cap) n (rcs cpR q)
structure CopO (w : World) (B : Nat) (y : Cq) (c : Cp) : Prop where
  st : y.st = c.st
  tt : y.tt = c.tt
  of : y.of = c.of
  nx : y.nx = c.nx
  tk : OwG w B y.tv c.tk
  kp : OwG w B y.kv c.kp
/-- no two rows of tags lie in one block -/
structure Ap (q : List Cq) : Prop where
  tt : ∀ i j k, (gq q i).tv.ownBlock = some k → (gq q j).tv.ownBlock = some k → i = j
  kk : ∀ i j k, (gq q i).kv.ownBlock = some k → (gq q j).kv.ownBlock = some k → i = j
  tk : ∀ i j k, (gq q i).tv.ownBlock = some k → (gq q j).kv.ownBlock = some k → False
structure OR (w : World) (B g cap : Nat) (fv : Value) (q : List Cq) (X : Wd) : Prop where
  rows : OwC w B g cap X.cs.length q
  frs : OwP w B fv X.fr
  len : q.length = X.cs.length
  cop : ∀ i, CopO w B (gq q i) (gc X.cs i)
  ap : Ap q
def setI (X : Wd) (i : Nat) (c : Cp) : Wd := { X with cs := X.cs.set i c }
/-- the blocks of such a world -/
def Mn (g : Nat) (fv : Value) (q : List Cq) (k : Nat) : Prop := k = g ∨ fv.ownBlock = some k ∨ ∃ i, (gq q i).tv.ownBlock = some k ∨ (gq q i).kv.ownBlock = some k
theorem own_apart {w : World} {B B' e e' s s' n n' : Nat} {v v' : Value} {xs xs' : List Value} (h : w.ownsRow B e s v n xs) (h' : w.ownsRow B' e' s' v' n' xs') (he : e ≠ e') : ∀ k, v.ownBlock = some k → v'.ownBlock ≠ some k := by
  intro k hk hk'
  rcases h.2 with ⟨rfl, _⟩ | ⟨g, cap, cur, rfl, _, hh, _⟩
  · simp [Value.ownBlock] at hk
  · rcases h'.2 with ⟨rfl, _⟩ | ⟨g', cap', cur', rfl, _, hh', _⟩
    · simp [Value.ownBlock] at hk'
    · simp only [Value.ownBlock, Option.some.injEq] at hk hk'
      subst hk
      subst hk'
      rw [hh] at hh'
      simp only [Option.some.injEq, Obj.cells.injEq] at hh'
      exact he hh'.2.1
theorem CopO.rd {w : World} {B : Nat} {y : Cq} {c : Cp} (h : CopO w B y c) : CopR w y c := ⟨h.st, h.tt, h.of, h.nx, RdL.of_owns (R := tgR) h.tk, RdL.of_owns (R := tgR) h.kp⟩
theorem OR.pt {w : World} {B g cap : Nat} {fv : Value} {q : List Cq} {X : Wd} (h : OR w B g cap fv q X) : PtW w (.slice (some ⟨g, 0, none⟩) X.cs.length cap) fv q X :=
  ⟨by have := RdS.of_owns h.rows (by decide); unfold RdL; rw [h.len]; exact this, RdL.of_owns (R := psR) h.frs, h.len, fun i => (h.cop i).rd⟩
theorem OR.gt_lt {w : World} {B g cap : Nat} {fv : Value} {q : List Cq} {X : Wd} (h : OR w B g cap fv q X) {k : Nat} (hk : Mn g fv q k) : B ≤ k ∧ k < w.heap.size := by
  rcases hk with rfl | hk | ⟨i, hk | hk⟩
  · exact h.rows.lt k rfl
  · exact h.frs.lt k hk
  · exact (h.cop i).tk.lt k hk
  · exact (h.cop i).kp.lt k hk
theorem CopO.kx {S : Nat → Prop} {w w' : World} {B : Nat} {y : Cq} {c : Cp} (hk : Kx S w w') (h1 : ∀ k, y.tv.ownBlock = some k → ¬ S k) (h2 : ∀ k, y.kv.ownBlock = some k → ¬ S k) (h : CopO w B y c) : CopO w' B y c :=
  ⟨h.st, h.tt, h.of, h.nx, hk.owns h1 h.tk, hk.owns h2 h.kp⟩
theorem OR.kx {S : Nat → Prop} {w w' : World} {B g cap : Nat} {fv : Value} {q : List Cq} {X : Wd} (h : OR w B g cap fv q X) (hk : Kx S w w') (hs : ∀ k, Mn g fv q k → ¬ S k) : OR w' B g cap fv q X :=
  ⟨hk.owns (fun k e => hs k (.inl (by simpa [Value.ownBlock] using e.symm))) h.rows, hk.owns (fun k e => hs k (.inr (.inl e))) h.frs, h.len, fun i => (h.cop i).kx hk (fun k e => hs k (.inr (.inr ⟨i, .inl e⟩))) (fun k e => hs k (.inr (.inr ⟨i, .inr e⟩))), h.ap⟩
theorem OR.below {w w' : World} {B g cap : Nat} {fv : Value} {q : List Cq} {X : Wd} (h : OR w B g cap fv q X) (hb : Below w.heap.size w w') : OR w' B g cap fv q X :=
  h.kx (S := fun _ => False) (Kx.of_below hb) (fun _ _ h => h)
theorem gq_set {q : List Cq} {i j : Nat} {y : Cq} (hi : i < q.length) : gq (q.set i y) j = if j = i then y else gq q j := by
  unfold gq
  rw [List.getD_eq_getElem?_getD, List.getElem?_set]
  by_cases h : i = j
  · subst h
    rw [if_pos rfl, if_pos hi, if_pos rfl]
    rfl
  · rw [if_neg h, if_neg (fun e => h e.symm), List.getD_eq_getElem?_getD]
theorem gc_set {l : List Cp} {i j : Nat} {c : Cp} (hi : i < l.length) : gc (l.set i c) j = if j = i then c else gc l j := by
  unfold gc
  rw [List.getD_eq_getElem?_getD, List.getElem?_set]
  by_cases h : i = j
  · subst h
    rw [if_pos rfl, if_pos hi, if_pos rfl]
    rfl
  · rw [if_neg h, if_neg (fun e => h e.symm), List.getD_eq_getElem?_getD]
/-- one cell of a row, stored -/
theorem own_cell {w : World} {B g cap n : Nat} {q : List Cq} (h : OwC w B g cap n q) (hl : q.length = n) (i : Nat) (hi : i < n) (y : Cq) (j : Nat) (u : Value) (hj : j < 6) (hv : y.vs = (gq q i).vs.set j u) : OwC (w.setCell ⟨g, i * 6 + j, none⟩ u) B g cap n (q.set i y) := by
  have h1 := (h.stored (i * 6 + j) u).1
  have : (rcs cpR q).set (i * 6 + j) u = rcs cpR (q.set i y) := by
    rw [rcs_set cpR q i y (by omega)]
    have hR : cpR.size = 6 := rfl
    have hcells : cpR.cells y = y.vs := rfl
    have hyl : y.vs.length = 6 := rfl
    have hql : (gq q i).vs.length = 6 := rfl
    rw [hcells, hR]
    apply List.ext_getElem?
    intro m
    rw [setRow_get _ _ _ _ (by rw [hyl, rcs_length, hR]; have := Nat.mul_le_mul_right 6 hi; omega), hyl, List.getElem?_set]
    by_cases hm : i * 6 ≤ m ∧ m < i * 6 + 6
    · rw [if_pos hm, hv, List.getElem?_set]
      by_cases he : i * 6 + j = m
      · rw [if_pos he, if_pos (by rw [rcs_length, hR]; have := Nat.mul_le_mul_right 6 hi; omega), if_pos (show j = m - i * 6 by omega), if_pos (by rw [hql]; exact hj)]
      · rw [if_neg he, if_neg (by omega)]
        have e := rcs_get cpR q i (m - i * 6) (by omega) (by rw [hR]; omega)
        rw [hR, show i * 6 + (m - i * 6) = m by omega] at e
        rw [e]
        rfl
    · rw [if_neg hm, if_neg (by omega)]
  rw [this] at h1
  exact h1
theorem kx_cell (w : World) (g o : Nat) (u : Value) : Kx (fun k => k = g) w (w.setCell ⟨g, o, none⟩ u) := (Kx.refl (fun k => k = g) w).setCell (.inl rfl) u
/-- a row turned -/
theorem OR.row {w w' : World} {B g cap : Nat} {fv : Value} {q : List Cq} {X : Wd} (h : OR w B g cap fv q X) {i : Nat} (hi : i < X.cs.length) {y : Cq} {c : Cp} (hk : Kx (fun k => k = g) w w') (hrow : OwC w' B g cap X.cs.length (q.set i y)) (hc : CopO w B y c) (hap : Ap (q.set i y)) : OR w' B g cap fv (q.set i y) (setI X i c) := by
  have hg : ∀ {s n : Nat} {v : Value} {xs : List Value} {e : TypeId}, w.ownsRow B e s v n xs → 45 ≠ e → ∀ k, v.ownBlock = some k → ¬ k = g := fun ho he k hvk e => by
    rw [e] at hvk
    exact own_apart h.rows ho he g rfl hvk
  have hlen : (setI X i c).cs.length = X.cs.length := by simp [setI]
  refine ⟨by rw [hlen]; exact hrow, hk.owns (hg h.frs (by decide)) h.frs, by rw [List.length_set, hlen]; exact h.len, fun j => ?_, hap⟩
  rw [gq_set (by rw [h.len]; exact hi)]
  show CopO w' B _ (gc (X.cs.set i c) j)
  rw [gc_set hi]
  split
  · exact hc.kx hk (hg hc.tk (by decide)) (hg hc.kp (by decide))
  · exact (h.cop j).kx hk (hg (h.cop j).tk (by decide)) (hg (h.cop j).kp (by decide))
theorem ap_same {q : List Cq} {i : Nat} {y : Cq} (h : Ap q) (hi : i < q.length) (ht : y.tv = (gq q i).tv) (hk : y.kv = (gq q i).kv) : Ap (q.set i y) := by
  have e1 : ∀ j, (gq (q.set i y) j).tv = (gq q j).tv := fun j => by
    rw [gq_set hi]
    split
    · rename_i e; subst e; exact ht
    · rfl
  have e2 : ∀ j, (gq (q.set i y) j).kv = (gq q j).kv := fun j => by
    rw [gq_set hi]
    split
    · rename_i e; subst e; exact hk
    · rfl
  exact ⟨fun a b k h1 h2 => by rw [e1] at h1 h2; exact h.tt a b k h1 h2, fun a b k h1 h2 => by rw [e2] at h1 h2; exact h.kk a b k h1 h2, fun a b k h1 h2 => by rw [e1] at h1; rw [e2] at h2; exact h.tk a b k h1 h2⟩
/-- a number of a copy, stored -/
theorem OR.num {w : World} {B g cap : Nat} {fv : Value} {q : List Cq} {X : Wd} (h : OR w B g cap fv q X) {i : Nat} (hi : i < X.cs.length) {y : Cq} {c : Cp} (j : Nat) (u : Value) (hj : j < 6) (hv : y.vs = (gq q i).vs.set j u) (hc : CopO w B y c) (ht : y.tv = (gq q i).tv) (hk : y.kv = (gq q i).kv) : OR (w.setCell ⟨g, i * 6 + j, none⟩ u) B g cap fv (q.set i y) (setI X i c) :=
  h.row hi (kx_cell w g _ u) (own_cell h.rows h.len i hi y j u hj hv) hc (ap_same h.ap (by rw [h.len]; exact hi) ht hk)
/-- the tags of a copy, put anew in their row or in new memory, and stored -/
theorem OR.tag {w w1 : World} {B g cap : Nat} {fv : Value} {q : List Cq} {X : Wd} (h : OR w B g cap fv q X) {i : Nat} (hi : i < X.cs.length) {a : Option Addr} {c : Nat} {l : List Tg} (hk : Kx (fun k => (gq q i).tv.ownBlock = some k) w w1) (hown : OwG w1 B (.slice a l.length c) l) (hwh : ∀ k, (Value.slice a l.length c).ownBlock = some k → (gq q i).tv.ownBlock = some k ∨ w.heap.size ≤ k) :
    OR (w1.setCell ⟨g, i * 6 + 4, none⟩ (.slice a l.length c)) B g cap fv (q.set i { gq q i with ta := a, tn := l.length, tc := c }) (setI X i { gc X.cs i with tk := l }) ∧ Kx (fun k => k = g ∨ (gq q i).tv.ownBlock = some k) w (w1.setCell ⟨g, i * 6 + 4, none⟩ (.slice a l.length c)) := by
  have hci := h.cop i
  have hold : ∀ j k, (gq q j).tv.ownBlock = some k → k < w.heap.size := fun j k e => ((h.cop j).tk.lt k e).2
  have holdk : ∀ j k, (gq q j).kv.ownBlock = some k → k < w.heap.size := fun j k e => ((h.cop j).kp.lt k e).2
  have hgi : ∀ k, (gq q i).tv.ownBlock = some k → k ≠ g := fun k e e2 => by subst e2; exact own_apart hci.tk h.rows (by decide) k e rfl
  have hrows1 : OwC w1 B g cap X.cs.length q := hk.owns (fun k e e2 => hgi k e2 (by simpa [Value.ownBlock] using e.symm)) h.rows
  have hfrs1 : OwP w1 B fv X.fr := hk.owns (fun k e e2 => own_apart hci.tk h.frs (by decide) k e2 e) h.frs
  have hkp1 : ∀ j, OwG w1 B (gq q j).kv (gc X.cs j).kp := fun j => hk.owns (fun k e e2 => h.ap.tk i j k e2 e) (h.cop j).kp
  have htk1 : ∀ j, j ≠ i → OwG w1 B (gq q j).tv (gc X.cs j).tk := fun j hj => hk.owns (fun k e e2 => hj (h.ap.tt j i k e e2)) (h.cop j).tk
  have hql : i < q.length := by rw [h.len]; exact hi
  have hgw : g < w.heap.size := (h.rows.lt g rfl).2
  have hga : ∀ {s n : Nat} {v : Value} {xs : List Value} {e : TypeId}, w1.ownsRow B e s v n xs → 45 ≠ e → ∀ k, v.ownBlock = some k → ¬ k = g := fun ho he k hvk e => by
    rw [e] at hvk
    exact own_apart hrows1 ho he g rfl hvk
  have hset := kx_cell w1 g (i * 6 + 4) (.slice a l.length c)
  refine ⟨⟨?_, ?_, ?_, fun j => ?_, ?_⟩, ?_⟩
  · have := own_cell hrows1 h.len i hi { gq q i with ta := a, tn := l.length, tc := c } 4 (.slice a l.length c) (by decide) rfl
    simpa [setI] using this
  · exact hset.owns (hga hfrs1 (by decide)) hfrs1
  · simp [setI, h.len]
  · rw [gq_set hql]
    show CopO _ B _ (gc (X.cs.set i _) j)
    rw [gc_set hi]
    split
    · rename_i e
      subst e
      exact ⟨hci.st, hci.tt, hci.of, hci.nx, hset.owns (hga hown (by decide)) hown, hset.owns (hga (hkp1 j) (by decide)) (hkp1 j)⟩
    · rename_i e
      exact ⟨(h.cop j).st, (h.cop j).tt, (h.cop j).of, (h.cop j).nx, hset.owns (hga (htk1 j e) (by decide)) (htk1 j e), hset.owns (hga (hkp1 j) (by decide)) (hkp1 j)⟩
  · have e1 : ∀ j, (gq (q.set i { gq q i with ta := a, tn := l.length, tc := c }) j).tv = if j = i then .slice a l.length c else (gq q j).tv := fun j => by
      rw [gq_set hql]
      split <;> rfl
    have e2 : ∀ j, (gq (q.set i { gq q i with ta := a, tn := l.length, tc := c }) j).kv = (gq q j).kv := fun j => by
      rw [gq_set hql]
      split
      · rename_i e; subst e; rfl
      · rfl
    have hnew : ∀ j k, j ≠ i → (Value.slice a l.length c).ownBlock = some k → (gq q j).tv.ownBlock = some k → False := fun j k hj h1 h2 => by
      rcases hwh k h1 with h3 | h3
      · exact hj (h.ap.tt j i k h2 h3)
      · have := hold j k h2; omega
    refine ⟨fun x y k h1 h2 => ?_, fun x y k h1 h2 => by rw [e2] at h1 h2; exact h.ap.kk x y k h1 h2, fun x y k h1 h2 => ?_⟩
    · rw [e1] at h1 h2
      by_cases hx : x = i <;> by_cases hy : y = i
      · rw [hx, hy]
      · rw [if_pos hx] at h1; rw [if_neg hy] at h2
        exact (hnew y k hy h1 h2).elim
      · rw [if_neg hx] at h1; rw [if_pos hy] at h2
        exact (hnew x k hx h2 h1).elim
      · rw [if_neg hx] at h1; rw [if_neg hy] at h2
        exact h.ap.tt x y k h1 h2
    · rw [e1] at h1
      rw [e2] at h2
      by_cases hx : x = i
      · rw [if_pos hx] at h1
        rcases hwh k h1 with h3 | h3
        · exact h.ap.tk i y k h3 h2
        · have := holdk y k h2; omega
      · rw [if_neg hx] at h1
        exact h.ap.tk x y k h1 h2
  · exact (hk.mono (fun k h => .inr h)).trans hset (fun k _ e => .inl e)
/-- the same for the tags kept -/
theorem OR.kept {w w1 : World} {B g cap : Nat} {fv : Value} {q : List Cq} {X : Wd} (h : OR w B g cap fv q X) {i : Nat} (hi : i < X.cs.length) {a : Option Addr} {c : Nat} {l : List Tg} (hk : Kx (fun k => (gq q i).kv.ownBlock = some k) w w1) (hown : OwG w1 B (.slice a l.length c) l) (hwh : ∀ k, (Value.slice a l.length c).ownBlock = some k → (gq q i).kv.ownBlock = some k ∨ w.heap.size ≤ k) :
    OR (w1.setCell ⟨g, i * 6 + 5, none⟩ (.slice a l.length c)) B g cap fv (q.set i { gq q i with ka := a, kn := l.length, kc := c }) (setI X i { gc X.cs i with kp := l }) ∧ Kx (fun k => k = g ∨ (gq q i).kv.ownBlock = some k) w (w1.setCell ⟨g, i * 6 + 5, none⟩ (.slice a l.length c)) := by
  have hci := h.cop i
  have hold : ∀ j k, (gq q j).tv.ownBlock = some k → k < w.heap.size := fun j k e => ((h.cop j).tk.lt k e).2
  have holdk : ∀ j k, (gq q j).kv.ownBlock = some k → k < w.heap.size := fun j k e => ((h.cop j).kp.lt k e).2
  have hgi : ∀ k, (gq q i).kv.ownBlock = some k → k ≠ g := fun k e e2 => by subst e2; exact own_apart hci.kp h.rows (by decide) k e rfl
  have hrows1 : OwC w1 B g cap X.cs.length q := hk.owns (fun k e e2 => hgi k e2 (by simpa [Value.ownBlock] using e.symm)) h.rows
  have hfrs1 : OwP w1 B fv X.fr := hk.owns (fun k e e2 => own_apart hci.kp h.frs (by decide) k e2 e) h.frs
  have hkp1 : ∀ j, OwG w1 B (gq q j).tv (gc X.cs j).tk := fun j => hk.owns (fun k e e2 => h.ap.tk j i k e e2) (h.cop j).tk
  have htk1 : ∀ j, j ≠ i → OwG w1 B (gq q j).kv (gc X.cs j).kp := fun j hj => hk.owns (fun k e e2 => hj (h.ap.kk j i k e e2)) (h.cop j).kp
  have hql : i < q.length := by rw [h.len]; exact hi
  have hgw : g < w.heap.size := (h.rows.lt g rfl).2
  have hga : ∀ {s n : Nat} {v : Value} {xs : List Value} {e : TypeId}, w1.ownsRow B e s v n xs → 45 ≠ e → ∀ k, v.ownBlock = some k → ¬ k = g := fun ho he k hvk e => by
    rw [e] at hvk
    exact own_apart hrows1 ho he g rfl hvk
  have hset := kx_cell w1 g (i * 6 + 5) (.slice a l.length c)
  refine ⟨⟨?_, ?_, ?_, fun j => ?_, ?_⟩, ?_⟩
  · have := own_cell hrows1 h.len i hi { gq q i with ka := a, kn := l.length, kc := c } 5 (.slice a l.length c) (by decide) rfl
    simpa [setI] using this
  · exact hset.owns (hga hfrs1 (by decide)) hfrs1
  · simp [setI, h.len]
  · rw [gq_set hql]
    show CopO _ B _ (gc (X.cs.set i _) j)
    rw [gc_set hi]
    split
    · rename_i e
      subst e
      exact ⟨hci.st, hci.tt, hci.of, hci.nx, hset.owns (hga (hkp1 j) (by decide)) (hkp1 j), hset.owns (hga hown (by decide)) hown⟩
    · rename_i e
      exact ⟨(h.cop j).st, (h.cop j).tt, (h.cop j).of, (h.cop j).nx, hset.owns (hga (hkp1 j) (by decide)) (hkp1 j), hset.owns (hga (htk1 j e) (by decide)) (htk1 j e)⟩
  · have e1 : ∀ j, (gq (q.set i { gq q i with ka := a, kn := l.length, kc := c }) j).kv = if j = i then .slice a l.length c else (gq q j).kv := fun j => by
      rw [gq_set hql]
      split <;> rfl
    have e2 : ∀ j, (gq (q.set i { gq q i with ka := a, kn := l.length, kc := c }) j).tv = (gq q j).tv := fun j => by
      rw [gq_set hql]
      split
      · rename_i e; subst e; rfl
      · rfl
    have hnew : ∀ j k, j ≠ i → (Value.slice a l.length c).ownBlock = some k → (gq q j).kv.ownBlock = some k → False := fun j k hj h1 h2 => by
      rcases hwh k h1 with h3 | h3
      · exact hj (h.ap.kk j i k h2 h3)
      · have := holdk j k h2; omega
    refine ⟨fun x y k h1 h2 => by rw [e2] at h1 h2; exact h.ap.tt x y k h1 h2, fun x y k h1 h2 => ?_, fun x y k h1 h2 => ?_⟩
    · rw [e1] at h1 h2
      by_cases hx : x = i <;> by_cases hy : y = i
      · rw [hx, hy]
      · rw [if_pos hx] at h1; rw [if_neg hy] at h2
        exact (hnew y k hy h1 h2).elim
      · rw [if_neg hx] at h1; rw [if_pos hy] at h2
        exact (hnew x k hx h2 h1).elim
      · rw [if_neg hx] at h1; rw [if_neg hy] at h2
        exact h.ap.kk x y k h1 h2
    · rw [e2] at h1
      rw [e1] at h2
      by_cases hy : y = i
      · rw [if_pos hy] at h2
        rcases hwh k h2 with h3 | h3
        · exact h.ap.tk x i k h1 h3
        · have := hold x k h1; omega
      · rw [if_neg hy] at h2
        exact h.ap.tk x y k h1 h2
  · exact (hk.mono (fun k h => .inr h)).trans hset (fun k _ e => .inl e)
/-- the frames put anew -/
theorem OR.frames {w w1 : World} {B g cap : Nat} {fv fv' : Value} {q : List Cq} {X : Wd} {F : List Ps} (h : OR w B g cap fv q X) (hk : Kx (fun k => fv.ownBlock = some k) w w1) (hown : OwP w1 B fv' F) : OR w1 B g cap fv' q { X with fr := F } :=
  ⟨hk.owns (fun k e e2 => own_apart h.rows h.frs (by decide) k e e2) h.rows, hown, h.len, fun i => (h.cop i).kx hk (fun k e e2 => own_apart (h.cop i).tk h.frs (by decide) k e e2) (fun k e e2 => own_apart (h.cop i).kp h.frs (by decide) k e e2), h.ap⟩
theorem OR.at {w : World} {B g cap : Nat} {fv : Value} {q : List Cq} {X : Wd} (h : OR w B g cap fv q X) (i : Nat) (hi : i < X.cs.length) : CA w g (i * 6) (gq q i) := by
  have := PtW.node h.pt i hi
  rwa [Nat.zero_add] at this
end Go.Proofs.Ytnkpjfogjkjcfaa
