


/- Custody: an offer taken back, in both texts. -/
import Derived.Test.YtnkpjfogjkjcfaaM
namespace Go.Proofs.Ytnkpjfogjkjcfaa
open Go.RowKit
set_option linter.unusedSimpArgs false
set_option linter.unusedVariables false
set_option maxRecDepth 100000

def hldq (y : Cq) : Cq := if y.st = 2 then { y with st := 1, tt := 0, of := 0 } else y
theorem hldq_tv (y : Cq) : (hldq y).tv = y.tv := by unfold hldq; split <;> rfl
theorem hldq_kv (y : Cq) : (hldq y).kv = y.kv := by unfold hldq; split <;> rfl
theorem setI_setI (X : Wd) (i : Nat) (c d : Cp) : setI (setI X i c) i d = setI X i d := by unfold setI; simp
theorem setI_len (X : Wd) (i : Nat) (c : Cp) : (setI X i c).cs.length = X.cs.length := by simp [setI]
/-- as OR.num, at a row already turned -/
theorem OR.num' {w : World} {B g cap : Nat} {fv : Value} {q : List Cq} {X : Wd} {i : Nat} {y : Cq} {c : Cp} (h : OR w B g cap fv (q.set i y) (setI X i c)) (hi : i < X.cs.length) (hq : i < q.length) {y' : Cq} {c' : Cp} (j : Nat) (u : Value) (hj : j < 6) (hv : y'.vs = y.vs.set j u) (hc : CopO w B y' c') (ht : y'.tv = y.tv) (hk : y'.kv = y.kv) :
    OR (w.setCell ⟨g, i * 6 + j, none⟩ u) B g cap fv (q.set i y') (setI X i c') := by
  have e : gq (q.set i y) i = y := by rw [gq_set hq, if_pos rfl]
  have := h.num (i := i) (by rw [setI_len]; exact hi) (y := y') (c := c') j u hj (by rw [e]; exact hv) hc (by rw [e]; exact ht) (by rw [e]; exact hk)
  rwa [List.set_set, setI_setI] at this
theorem OR.self {w : World} {B g cap : Nat} {fv : Value} {q : List Cq} {X : Wd} (h : OR w B g cap fv q X) {i : Nat} (hi : i < X.cs.length) : OR w B g cap fv (q.set i (gq q i)) (setI X i (gc X.cs i)) := by
  have e1 : q.set i (gq q i) = q := by
    apply List.ext_getElem?
    intro j
    rw [List.getElem?_set]
    split
    · rename_i e; subst e
      have : i < q.length := by rw [h.len]; exact hi
      (try rw [if_pos this])
      unfold gq
      rw [List.getD_eq_getElem?_getD, List.getElem?_eq_getElem this]
      rfl
    · rfl
  have e2 : setI X i (gc X.cs i) = X := by
    unfold setI
    have : X.cs.set i (gc X.cs i) = X.cs := by
      apply List.ext_getElem?
      intro j
      rw [List.getElem?_set]
      split
      · rename_i e; subst e
        (try rw [if_pos hi])
        unfold gc
        rw [List.getD_eq_getElem?_getD, List.getElem?_eq_getElem hi]
        rfl
      · rfl
    rw [this]
  rw [e1, e2]
  exact h
theorem CopO.num {w : World} {B : Nat} {y y' : Cq} {c c' : Cp} (h : CopO w B y c) (h1 : y'.st = c'.st) (h2 : y'.tt = c'.tt) (h3 : y'.of = c'.of) (h4 : y'.nx = c'.nx) (ht : y'.tv = y.tv) (hk : y'.kv = y.kv) (h5 : c'.tk = c.tk) (h6 : c'.kp = c.kp) : CopO w B y' c' :=
  ⟨h1, h2, h3, h4, by rw [ht, h5]; exact h.tk, by rw [hk, h6]; exact h.kp⟩
theorem CopO.set {w : World} {B g cap : Nat} {fv : Value} {q : List Cq} {X : Wd} {y : Cq} {c : Cp} (h : OR w B g cap fv q X) (hc : CopO w B y c) (o : Nat) (u : Value) : CopO (w.setCell ⟨g, o, none⟩ u) B y c :=
  hc.kx (kx_cell w g o u) (fun k e e2 => by rw [e2] at e; exact own_apart h.rows hc.tk (by decide) g rfl e) (fun k e e2 => by rw [e2] at e; exact own_apart h.rows hc.kp (by decide) g rfl e)
/-- three numbers of a copy, stored -/
theorem OR.three {w : World} {B g cap : Nat} {fv : Value} {q : List Cq} {X : Wd} (h : OR w B g cap fv q X) {i : Nat} (hi : i < X.cs.length) (a b c : Int) :
    OR (((w.setCell ⟨g, i * 6, none⟩ (.int .i64 a)).setCell ⟨g, i * 6 + 1, none⟩ (.int .i64 b)).setCell ⟨g, i * 6 + 2, none⟩ (.int .i64 c)) B g cap fv (q.set i { gq q i with st := a, tt := b, of := c }) (setI X i { gc X.cs i with st := a, tt := b, of := c }) ∧ Kx (fun k => k = g) w (((w.setCell ⟨g, i * 6, none⟩ (.int .i64 a)).setCell ⟨g, i * 6 + 1, none⟩ (.int .i64 b)).setCell ⟨g, i * 6 + 2, none⟩ (.int .i64 c)) := by
  have hq : i < q.length := by rw [h.len]; exact hi
  have hc := h.cop i
  have c1 : CopO w B { gq q i with st := a } { gc X.cs i with st := a } := hc.num rfl hc.tt hc.of hc.nx rfl rfl rfl rfl
  have h1 : OR (w.setCell ⟨g, i * 6, none⟩ (.int .i64 a)) B g cap fv (q.set i { gq q i with st := a }) (setI X i { gc X.cs i with st := a }) := h.num hi 0 (.int .i64 a) (by decide) rfl c1 rfl rfl
  have c2 : CopO (w.setCell ⟨g, i * 6, none⟩ (.int .i64 a)) B { gq q i with st := a, tt := b } { gc X.cs i with st := a, tt := b } := (CopO.set h c1 _ _).num rfl rfl hc.of hc.nx rfl rfl rfl rfl
  have h2 := h1.num' hi hq (y' := { gq q i with st := a, tt := b }) (c' := { gc X.cs i with st := a, tt := b }) 1 (.int .i64 b) (by decide) rfl c2 rfl rfl
  have c3 : CopO ((w.setCell ⟨g, i * 6, none⟩ (.int .i64 a)).setCell ⟨g, i * 6 + 1, none⟩ (.int .i64 b)) B { gq q i with st := a, tt := b, of := c } { gc X.cs i with st := a, tt := b, of := c } := (CopO.set h1 c2 _ _).num rfl rfl rfl hc.nx rfl rfl rfl rfl
  exact ⟨h2.num' hi hq 2 (.int .i64 c) (by decide) rfl c3 rfl rfl, (((kx_cell w g _ _).setCell (.inl rfl) _).setCell (.inl rfl) _)⟩
theorem OR.there {w : World} {B g cap : Nat} {fv : Value} {q : List Cq} {X : Wd} (h : OR w B g cap fv q X) (o : Nat) : w.frozen? ⟨g, o, none⟩ = false := h.rows.frozenAt o
set_option maxHeartbeats 1000000 in
theorem hold_any (w : World) (B g cap : Nat) (fv : Value) (q : List Cq) (X : Wd) (i : Nat) (hi : i < X.cs.length) (h : OR w B g cap fv q X) : Calls Try.prog 58 #[.pointer (some ⟨g, i * 6, none⟩)] w fun e w' => e = .returned (.tuple #[]) ∧ OR w' B g cap fv (q.set i (hldq (gq q i))) (setI X i (hld (gc X.cs i))) ∧ Kx (fun k => k = g) w w' := by
  obtain ⟨a0, a1, a2, a3, a4, a5⟩ := h.at i hi
  obtain ⟨H3, K3⟩ := h.three hi 1 0 0
  have z0 := h.there (i * 6)
  have z1 := h.there (i * 6 + 1)
  have z2 := h.there (i * 6 + 2)
  have hst := (h.cop i).st
  obtain ⟨y, hy⟩ : ∃ y, gq q i = y := ⟨_, rfl⟩
  obtain ⟨c, hc⟩ : ∃ c, gc X.cs i = c := ⟨_, rfl⟩
  rw [hy] at a0 a1 a2 a3 a4 a5 hst H3
  rw [hc] at hst H3
  by_cases h2 : y.st = 2
  · have d1 : (y.st == 2) = true := by simp [h2]
    have e1 : hldq y = { y with st := 1, tt := 0, of := 0 } := by unfold hldq; rw [if_pos h2]
    have e2 : hld c = { c with st := 1, tt := 0, of := 0 } := by unfold hld; rw [if_pos (by rw [← hst]; exact h2)]
    have HR := Lib.hid (show (OR _ B g cap fv (q.set i (hldq y)) (setI X i (hld c)) ∧ Kx (fun k => k = g) w _) from ⟨by rw [e1, e2]; exact H3, K3⟩)
    rw [hy, hc]
    clear H3 K3 hst e1 e2 hy hc h2 h
    go_enter Try.func58, Try.ntmps58
    go_wp2_with fail
    exact bodyPost_end (results_none rfl _ _ _) rfl ⟨rfl, HR.out⟩
  · have d1 : (y.st == 2) = false := by simp [h2]
    have e1 : hldq y = y := by unfold hldq; rw [if_neg h2]
    have e2 : hld c = c := by unfold hld; rw [if_neg (by rw [← hst]; exact h2)]
    have hs := h.self hi
    rw [hy, hc] at hs
    have HR := Lib.hid (show (OR w B g cap fv (q.set i (hldq y)) (setI X i (hld c)) ∧ Kx (fun k => k = g) w w) from ⟨by rw [e1, e2]; exact hs, Kx.refl _ _⟩)
    rw [hy, hc]
    clear H3 K3 hst e1 e2 hy hc h2 h hs
    go_enter Try.func58, Try.ntmps58
    go_wp2_with fail
    exact bodyPost_end (results_none rfl _ _ _) rfl ⟨rfl, HR.out⟩
set_option maxHeartbeats 1000000 in
theorem held_any (w : World) (B g cap : Nat) (fv : Value) (q : List Cq) (X : Wd) (i : Nat) (hi : i < X.cs.length) (h : OR w B g cap fv q X) : Calls Try.prog 62 #[.pointer (some ⟨g, i * 6, none⟩)] w fun e w' => e = .returned (.tuple #[]) ∧ OR w' B g cap fv (q.set i (hldq (gq q i))) (setI X i (hld (gc X.cs i))) ∧ Kx (fun k => k = g) w w' := by
  obtain ⟨a0, a1, a2, a3, a4, a5⟩ := h.at i hi
  obtain ⟨H3, K3⟩ := h.three hi 1 0 0
  have z0 := h.there (i * 6)
  have z1 := h.there (i * 6 + 1)
  have z2 := h.there (i * 6 + 2)
  have hst := (h.cop i).st
  obtain ⟨y, hy⟩ : ∃ y, gq q i = y := ⟨_, rfl⟩
  obtain ⟨c, hc⟩ : ∃ c, gc X.cs i = c := ⟨_, rfl⟩
  rw [hy] at a0 a1 a2 a3 a4 a5 hst H3
  rw [hc] at hst H3
  by_cases h2 : y.st = 2
  · have d1 : (y.st == 2) = true := by simp [h2]
    have e1 : hldq y = { y with st := 1, tt := 0, of := 0 } := by unfold hldq; rw [if_pos h2]
    have e2 : hld c = { c with st := 1, tt := 0, of := 0 } := by unfold hld; rw [if_pos (by rw [← hst]; exact h2)]
    have HR := Lib.hid (show (OR _ B g cap fv (q.set i (hldq y)) (setI X i (hld c)) ∧ Kx (fun k => k = g) w _) from ⟨by rw [e1, e2]; exact H3, K3⟩)
    rw [hy, hc]
    clear H3 K3 hst e1 e2 hy hc h2 h
    go_enter Try.func62, Try.ntmps62
    go_wp2_with fail
    exact bodyPost_end (results_none rfl _ _ _) rfl ⟨rfl, HR.out⟩
  · have d1 : (y.st == 2) = false := by simp [h2]
    have e1 : hldq y = y := by unfold hldq; rw [if_neg h2]
    have e2 : hld c = c := by unfold hld; rw [if_neg (by rw [← hst]; exact h2)]
    have hs := h.self hi
    rw [hy, hc] at hs
    have HR := Lib.hid (show (OR w B g cap fv (q.set i (hldq y)) (setI X i (hld c)) ∧ Kx (fun k => k = g) w w) from ⟨by rw [e1, e2]; exact hs, Kx.refl _ _⟩)
    rw [hy, hc]
    clear H3 K3 hst e1 e2 hy hc h2 h hs
    go_enter Try.func62, Try.ntmps62
    go_wp2_with fail
    exact bodyPost_end (results_none rfl _ _ _) rfl ⟨rfl, HR.out⟩
end Go.Proofs.Ytnkpjfogjkjcfaa
