/- The model plainly: worlds, traces, what becomes of bundles. No program is named. The model plainly: bundles are independent; beginnings; what holds of one bundle. No program is named. The model plainly: what holds of a bundle in an allowed trace. No program is named. The model plainly: worlds and traces made of numbers. No program is named. The model plainly: an allowed trace made of numbers; what the laws say of it. No program is named. The model plainly: the laws on traces made of numbers. No program is named. -/
import Derived.Lib.Hide
namespace Go.Proofs.YtcjlbpndgjapiaaDoor
set_option linter.unusedSimpArgs false
set_option linter.unusedVariables false

/-- an ID, a bundle, an outcome -/
structure Idn where
  nd : Int
  sq : Int
  off : Int
instance : DecidableEq Idn := fun a b => decidable_of_iff (a.nd = b.nd ∧ a.sq = b.sq ∧ a.off = b.off) ⟨fun h => by cases a; cases b; simp_all, fun h => by subst h; exact ⟨rfl, rfl, rfl⟩⟩
structure Bd where
  id : Idn
  dst : Int
  pri : Int
  born : Int
  life : Int
  tot : Int
  dat : ByteArray
structure Oc where
  tk : Int
  nd : Int
  kd : Int
  id : Idn
  ot : Int
def i0 : Idn := ⟨0, 0, 0⟩
def b0 : Bd := ⟨i0, 0, 0, 0, 0, 0, ⟨#[]⟩⟩
def o0 : Oc := ⟨0, 0, 0, i0, 0⟩

/-! checks -/
/-- the first number from k on, of n, at which f is not 0 -/
def fstE (f : Nat → Int) : Nat → Nat → Int × Int
  | _, 0 => (0, 0)
  | k, n + 1 => if f k ≠ 0 then (f k, (k : Int)) else fstE f (k + 1) n
theorem fst_ok {f : Nat → Int} : ∀ {n k : Nat}, (∀ j, k ≤ j → j < k + n → f j = 0) → fstE f k n = (0, 0)
  | 0, _, _ => rfl
  | n + 1, k, h => by
    rw [fstE, if_neg (by rw [h k (Nat.le_refl _) (by omega)]; simp)]
    exact fst_ok (fun j h1 h2 => h j (by omega) (by omega))
theorem fst_at {f : Nat → Int} {j : Nat} (hj : f j ≠ 0) : ∀ {n k : Nat}, k ≤ j → j < k + n → (∀ i, k ≤ i → i < j → f i = 0) → fstE f k n = (f j, (j : Int))
  | 0, k, h1, h2, _ => by omega
  | n + 1, k, h1, h2, h => by
    by_cases e : k = j
    · subst e; rw [fstE, if_pos hj]
    · rw [fstE, if_neg (by rw [h k (Nat.le_refl _) (by omega)]; simp)]
      exact fst_at hj (by omega) (by omega) (fun i h3 h4 => h i (by omega) h4)
theorem fst_zero {f : Nat → Int} : ∀ {n k : Nat}, (fstE f k n).1 = 0 → ∀ j, k ≤ j → j < k + n → f j = 0
  | 0, k, _, j, h1, h2 => by omega
  | n + 1, k, h, j, h1, h2 => by
    rw [fstE] at h
    split at h
    · rename_i hk; exact absurd h hk
    · rename_i hk
      by_cases e : k = j
      · subst e; exact Decidable.byContradiction hk
      · exact fst_zero h j (by omega) (by omega)
def chkI (i : Idn) : Int := if i.nd < 1 ∨ 16 < i.nd ∨ i.off < 0 ∨ 19999 < i.off ∨ 1099511627776 < i.sq then 2 else 0
def badF (b : Bd) : Prop := b.dst < 1 ∨ 16 < b.dst ∨ b.pri < 0 ∨ 2 < b.pri ∨ b.born < 0 ∨ 1099511627776 < b.born ∨ b.life < 1 ∨ 1048576 < b.life ∨ b.tot < 1 ∨ 20000 < b.tot
instance (b : Bd) : Decidable (badF b) := by unfold badF; infer_instance
def chkB (b : Bd) : Int :=
  if chkI b.id ≠ 0 then chkI b.id else if badF b then 2 else if b.dat.size = 0 then 11 else if 1000 < b.dat.size then 4 else if b.tot < b.id.off + b.dat.size then 12 else 0
/-- does one of the first k bundles have the ID? -/
def hasI (ws : List Bd) (i : Idn) : Nat → Bool
  | 0 => false
  | k + 1 => hasI ws i k || decide ((ws.getD k b0).id = i)
theorem hasI_iff {ws : List Bd} {i : Idn} : ∀ {k : Nat}, hasI ws i k = true ↔ ∃ j, j < k ∧ (ws.getD j b0).id = i
  | 0 => ⟨fun h => (by cases h), fun ⟨j, hj, _⟩ => absurd hj (Nat.not_lt_zero _)⟩
  | k + 1 => by
    unfold hasI
    rw [Bool.or_eq_true, decide_eq_true_eq, hasI_iff (k := k)]
    constructor
    · rintro (⟨j, hj, h⟩ | h)
      · exact ⟨j, by omega, h⟩
      · exact ⟨k, by omega, h⟩
    · rintro ⟨j, hj, h⟩
      by_cases e : j = k
      · subst e; exact .inr h
      · exact .inl ⟨j, by omega, h⟩
def stepW (ws : List Bd) (k : Nat) : Int := if chkB (ws.getD k b0) ≠ 0 then chkB (ws.getD k b0) else if hasI ws (ws.getD k b0).id k = true then 9 else 0
def chkW (ws : List Bd) : Int × Int := if 200 < ws.length then (5, 0) else fstE (stepW ws) 0 ws.length

def usesI (k : Int) : Bool := decide (1 ≤ k ∧ k ≤ 10 ∧ k ≠ 5)
def usesO (k : Int) : Bool := decide (k = 6 ∨ k = 7 ∨ k = 10 ∨ k = 11 ∨ k = 12 ∨ k = 13)
def okO (o : Oc) : Bool := if usesO o.kd = false ∨ (o.kd = 12 ∧ o.ot = 0) then decide (o.ot = 0) else decide (1 ≤ o.ot ∧ o.ot ≤ 16 ∧ o.ot ≠ o.nd)
def okI (o : Oc) : Bool := if usesI o.kd = true then decide (chkI o.id = 0) else decide (o.id = i0)
def oneE (o : Oc) : Int := if o.kd < 1 ∨ 15 < o.kd then 7 else if o.tk < 0 ∨ 1099511627776 < o.tk ∨ o.nd < 1 ∨ 16 < o.nd ∨ okI o = false ∨ okO o = false then 2 else 0
def stepT (l : List Oc) (k : Nat) : Int := if oneE (l.getD k o0) ≠ 0 then oneE (l.getD k o0) else if 0 < k ∧ (l.getD k o0).tk < (l.getD (k - 1) o0).tk then 19 else 0
def chkT (l : List Oc) : Int × Int := if 5000 < l.length then (5, 0) else fstE (stepT l) 0 l.length

/-! what becomes of a bundle: accepted, delivered; who holds it now, who ever did (as bits), how many at once at most -/
structure Ft where
  ac : Bool
  dl : Bool
  nw : Nat
  ev : Nat
  mo : Nat
def f0 : Ft := ⟨false, false, 0, 0, 0⟩
/-- how many bits are set (of the first 17) -/
def pc (n : Nat) : Nat := ((List.range 17).filter fun i => n.testBit i).length
def addB (s n : Nat) : Nat := s ||| (1 <<< n)
def remB (s n : Nat) : Nat := s ^^^ (s &&& (1 <<< n))
theorem bit_one (n i : Nat) : ((1 : Nat) <<< n).testBit i = decide (n = i) := by
  rw [Nat.one_shiftLeft, Nat.testBit_two_pow]
theorem addB_bit (s n i : Nat) : (addB s n).testBit i = (s.testBit i || decide (n = i)) := by
  unfold addB
  rw [Nat.testBit_or, bit_one]
theorem remB_bit (s n i : Nat) : (remB s n).testBit i = (s.testBit i && !decide (n = i)) := by
  unfold remB
  rw [Nat.testBit_xor, Nat.testBit_and, bit_one]
  cases s.testBit i <;> cases decide (n = i) <;> rfl
def hld (f : Ft) (n : Nat) : Ft := { f with nw := addB f.nw n, ev := addB f.ev n, mo := max f.mo (pc (addB f.nw n)) }
def rmv (f : Ft) (n : Nat) : Ft := { f with nw := remB f.nw n }
def mat (k : Int) : Bool := decide (k = 1 ∨ k = 6 ∨ k = 7 ∨ k = 8 ∨ k = 9)
/-- an outcome of a bundle -/
def stp (b : Bd) (f : Ft) (o : Oc) : Option Ft :=
  if o.kd = 1 then (if f.ac = true ∨ o.nd ≠ b.id.nd ∨ o.tk ≠ b.born then none else some (hld { f with ac := true } o.nd.toNat))
  else if o.kd = 6 then (if f.ev.testBit o.ot.toNat = false ∨ f.nw.testBit o.nd.toNat = true ∨ b.born + b.life ≤ o.tk then none else some (hld f o.nd.toNat))
  else if o.kd = 7 then (if f.nw.testBit o.nd.toNat = false ∨ (f.ev.testBit o.ot.toNat = false ∧ ¬ (f.dl = true ∧ o.ot = b.dst)) then none else some (rmv f o.nd.toNat))
  else if o.kd = 8 then (if o.nd ≠ b.dst ∨ f.ac = false ∨ f.dl = true ∨ b.born + b.life ≤ o.tk then none else some (rmv { f with dl := true } o.nd.toNat))
  else if o.kd = 9 then (if f.nw.testBit o.nd.toNat = false ∨ o.tk < b.born + b.life then none else some (rmv f o.nd.toNat))
  else some f
/-- the first bundle with the ID -/
def idx (ws : List Bd) (i : Idn) : Option Nat := (List.range ws.length).find? fun k => decide ((ws.getD k b0).id = i)
/-- a trace is followed: what became of all, and the number of the first outcome that is not allowed -/
def fol (ws : List Bd) : List Oc → Nat → List Ft → List Ft × Nat
  | [], i, S => (S, i)
  | o :: l, i, S => if mat o.kd = true then
      (match idx ws o.id with
      | none => (S, i)
      | some k => match stp (ws.getD k b0) (S.getD k f0) o with
        | none => (S, i)
        | some f => fol ws l (i + 1) (S.set k f))
    else fol ws l (i + 1) S
def zeros (ws : List Bd) : List Ft := List.replicate ws.length f0
def folW (ws : List Bd) (l : List Oc) : List Ft × Nat := fol ws l 0 (zeros ws)
/-- the error of a world and a trace -/
def chkE (ws : List Bd) (l : List Oc) : Int := if (chkW ws).1 ≠ 0 then (chkW ws).1 else (chkT l).1
def allV (ws : List Bd) (l : List Oc) : Int × Int := if chkE ws l ≠ 0 then (0, chkE ws l) else (((folW ws l).2 : Int), 0)
/-- the error of what asks for an allowed trace -/
def fatE (ws : List Bd) (l : List Oc) : Int := if chkE ws l ≠ 0 then chkE ws l else if (folW ws l).2 < l.length then 12 else 0
def ofE (ws : List Bd) (l : List Oc) (i : Idn) : Int := if chkE ws l ≠ 0 then chkE ws l else if idx ws i = none then 8 else fatE ws l
def ofF (ws : List Bd) (l : List Oc) (i : Idn) : Ft := (folW ws l).1.getD ((idx ws i).getD 0) f0
def holV (f : Ft) : List Int := ((List.range 17).filter fun i => decide (1 ≤ i) && f.nw.testBit i).map fun (i : Nat) => (i : Int)
def lstF (b : Bd) (f : Ft) (t : Int) : Bool := f.ac && !f.dl && decide (f.nw = 0) && decide (t < b.born + b.life)
def lastT (l : List Oc) : Int := (l.getD (l.length - 1) o0).tk
def selI (ws : List Bd) (S : List Ft) (p : Bd → Ft → Bool) : List Idn := ((List.range ws.length).filter fun k => p (ws.getD k b0) (S.getD k f0)).map fun k => (ws.getD k b0).id
def losV (ws : List Bd) (l : List Oc) : List Idn := selI ws (folW ws l).1 fun b f => lstF b f (lastT l)
def delV (ws : List Bd) (l : List Oc) : List Idn := selI ws (folW ws l).1 fun _ f => f.dl
def nxtV (ws : List Bd) (l : List Oc) (o : Oc) : Bool × Int := if fatE ws l ≠ 0 then (false, fatE ws l) else (decide ((chkT (l ++ [o])).1 = 0 ∧ (folW ws (l ++ [o])).2 = l.length + 1), 0)
end Go.Proofs.YtcjlbpndgjapiaaDoor
namespace Go.Proofs.YtcjlbpndgjapiaaDoor
set_option linter.unusedSimpArgs false
set_option linter.unusedVariables false

/-- what becomes of one bundle -/
def runB (b : Bd) : Ft → List Oc → Option Ft
  | f, [] => some f
  | f, o :: l => (stp b f o).bind fun g => runB b g l
def fl (i : Idn) (l : List Oc) : List Oc := l.filter fun o => decide (o.id = i)
def Uniq (ws : List Bd) : Prop := ∀ j k, j < ws.length → k < ws.length → (ws.getD j b0).id = (ws.getD k b0).id → j = k
def InW (ws : List Bd) (l : List Oc) : Prop := ∀ o, o ∈ l → mat o.kd = true → ∃ k, k < ws.length ∧ (ws.getD k b0).id = o.id
theorem stp_id {b : Bd} {f : Ft} {o : Oc} (h : mat o.kd = false) : stp b f o = some f := by
  unfold mat at h
  have h := of_decide_eq_false h
  unfold stp
  rw [if_neg (by omega), if_neg (by omega), if_neg (by omega), if_neg (by omega), if_neg (by omega)]
theorem idx_some {ws : List Bd} {i : Idn} {k : Nat} (h : idx ws i = some k) : k < ws.length ∧ (ws.getD k b0).id = i := by
  unfold idx at h
  have h1 := List.find?_some h
  have h2 := List.mem_of_find?_eq_some h
  exact ⟨List.mem_range.1 h2, of_decide_eq_true h1⟩
theorem idx_none {ws : List Bd} {i : Idn} (h : idx ws i = none) : ∀ k, k < ws.length → (ws.getD k b0).id ≠ i := by
  unfold idx at h
  rw [List.find?_eq_none] at h
  intro k hk e
  exact h k (List.mem_range.2 hk) (decide_eq_true e)
theorem idx_at {ws : List Bd} (hu : Uniq ws) {k : Nat} (hk : k < ws.length) : idx ws (ws.getD k b0).id = some k := by
  cases h : idx ws (ws.getD k b0).id with
  | none => exact absurd rfl (idx_none h k hk)
  | some j =>
    obtain ⟨h1, h2⟩ := idx_some h
    rw [hu j k h1 hk h2]
theorem fl_cons_eq {i : Idn} {o : Oc} {l : List Oc} (h : o.id = i) : fl i (o :: l) = o :: fl i l := by simp [fl, h]
theorem fl_cons_ne {i : Idn} {o : Oc} {l : List Oc} (h : o.id ≠ i) : fl i (o :: l) = fl i l := by simp [fl, h]
theorem getD_set {α : Type} (S : List α) (k j : Nat) (x d : α) (hk : k < S.length) : (S.set k x).getD j d = if k = j then x else S.getD j d := by
  simp only [List.getD_eq_getElem?_getD, List.getElem?_set]
  by_cases h : k = j
  · subst h; simp [hk]
  · simp [h]
/-- what is followed, is followed bundle by bundle -/
theorem fol_all {ws : List Bd} (hu : Uniq ws) : ∀ (l : List Oc) (i : Nat) (S : List Ft), S.length = ws.length → InW ws l →
    ((∀ k, k < ws.length → ∃ f, runB (ws.getD k b0) (S.getD k f0) (fl (ws.getD k b0).id l) = some f) ∧ (fol ws l i S).2 = i + l.length ∧ (fol ws l i S).1.length = ws.length ∧ ∀ k, k < ws.length → runB (ws.getD k b0) (S.getD k f0) (fl (ws.getD k b0).id l) = some ((fol ws l i S).1.getD k f0)) ∨
    ((∃ k, k < ws.length ∧ runB (ws.getD k b0) (S.getD k f0) (fl (ws.getD k b0).id l) = none) ∧ (fol ws l i S).2 < i + l.length)
  | [], i, S, hS, _ => .inl ⟨fun k _ => ⟨_, rfl⟩, rfl, hS, fun k _ => rfl⟩
  | o :: l, i, S, hS, hin => by
    have hin2 : InW ws l := fun o ho => hin o (List.mem_cons_of_mem _ ho)
    cases hm : mat o.kd with
    | false =>
      have hf : fol ws (o :: l) i S = fol ws l (i + 1) S := by rw [fol, hm]; rfl
      have hr : ∀ b f, runB b f (fl b.id (o :: l)) = runB b f (fl b.id l) := fun b f => by
        by_cases e : o.id = b.id
        · rw [fl_cons_eq e, runB, stp_id hm]; rfl
        · rw [fl_cons_ne e]
      rw [hf]
      have ih := fol_all hu l (i + 1) S hS hin2
      simp only [hr, List.length_cons]
      rcases ih with ⟨h1, h2, h3, h4⟩ | ⟨h1, h2⟩
      · exact .inl ⟨h1, by omega, h3, h4⟩
      · exact .inr ⟨h1, by omega⟩
    | true =>
      obtain ⟨k, hk, hki⟩ := hin o (List.mem_cons_self ..) hm
      have hx : idx ws o.id = some k := by rw [← hki]; exact idx_at hu hk
      have hoth : ∀ j, j < ws.length → j ≠ k → o.id ≠ (ws.getD j b0).id := fun j hj hne e => hne (hu j k hj hk (by rw [← e, hki]))
      cases hs : stp (ws.getD k b0) (S.getD k f0) o with
      | none =>
        have hf : fol ws (o :: l) i S = (S, i) := by rw [fol, hm]; simp only [if_true, hx, hs]
        rw [hf]
        refine .inr ⟨⟨k, hk, ?_⟩, by simp⟩
        rw [fl_cons_eq hki.symm, runB, hs]; rfl
      | some g =>
        have hf : fol ws (o :: l) i S = fol ws l (i + 1) (S.set k g) := by rw [fol, hm]; simp only [if_true, hx, hs]
        have hSl : (S.set k g).length = ws.length := by rw [List.length_set]; exact hS
        rw [hf]
        have ih := fol_all hu l (i + 1) (S.set k g) hSl hin2
        have hr : ∀ j, j < ws.length → runB (ws.getD j b0) (S.getD j f0) (fl (ws.getD j b0).id (o :: l)) = runB (ws.getD j b0) ((S.set k g).getD j f0) (fl (ws.getD j b0).id l) := fun j hj => by
          rw [getD_set S k j g f0 (by omega)]
          by_cases e : k = j
          · subst e
            rw [if_pos rfl, fl_cons_eq hki.symm, runB, hs]; rfl
          · rw [if_neg e, fl_cons_ne (hoth j hj (fun h => e h.symm))]
        rcases ih with ⟨h1, h2, h3, h4⟩ | ⟨⟨j, hj, h1⟩, h2⟩
        · exact .inl ⟨fun j hj => by rw [hr j hj]; exact h1 j hj, by simp only [List.length_cons]; omega, h3, fun j hj => by rw [hr j hj]; exact h4 j hj⟩
        · exact .inr ⟨⟨j, hj, by rw [hr j hj]; exact h1⟩, by simp only [List.length_cons]; omega⟩
theorem zeros_at (ws : List Bd) (k : Nat) : (zeros ws).getD k f0 = f0 := by
  unfold zeros
  rw [List.getD_eq_getElem?_getD, List.getElem?_replicate]
  split <;> rfl
theorem fol_le {ws : List Bd} : ∀ (l : List Oc) (i : Nat) (S : List Ft), i ≤ (fol ws l i S).2 ∧ (fol ws l i S).2 ≤ i + l.length
  | [], i, S => ⟨Nat.le_refl _, Nat.le_refl _⟩
  | o :: l, i, S => by
    rw [fol]
    split
    · split
      · exact ⟨Nat.le_refl _, by simp⟩
      · split
        · exact ⟨Nat.le_refl _, by simp⟩
        · rename_i k _ _ f _
          have := fol_le (ws := ws) l (i + 1) (S.set k f)
          simp only [List.length_cons]
          omega
    · have := fol_le (ws := ws) l (i + 1) S
      simp only [List.length_cons]
      omega
/-- a longer trace goes at least as far; the beginning of an allowed one is allowed -/
theorem fol_app {ws : List Bd} (m : List Oc) : ∀ (l : List Oc) (i : Nat) (S : List Ft), (fol ws l i S).2 ≤ (fol ws (l ++ m) i S).2 ∧ ((fol ws l i S).2 < i + l.length → (fol ws (l ++ m) i S).2 = (fol ws l i S).2)
  | [], i, S => ⟨(fol_le _ i S).1, fun h => by simp [fol] at h⟩
  | o :: l, i, S => by
    rw [List.cons_append, fol, fol]
    split
    · split
      · exact ⟨Nat.le_refl _, fun _ => rfl⟩
      · split
        · exact ⟨Nat.le_refl _, fun _ => rfl⟩
        · rename_i k _ _ f _
          have := fol_app (ws := ws) m l (i + 1) (S.set k f)
          simp only [List.length_cons]
          exact ⟨this.1, fun h => this.2 (by omega)⟩
    · have := fol_app (ws := ws) m l (i + 1) S
      simp only [List.length_cons]
      exact ⟨this.1, fun h => this.2 (by omega)⟩
theorem fol_take {ws : List Bd} {l : List Oc} (h : (folW ws l).2 = l.length) (c : Nat) (hc : c ≤ l.length) : (folW ws (l.take c)).2 = c := by
  have h1 := fol_app (ws := ws) (l.drop c) (l.take c) 0 (zeros ws)
  have h2 := (fol_le (ws := ws) (l.take c) 0 (zeros ws)).2
  rw [List.take_append_drop] at h1
  have hl : (l.take c).length = c := by rw [List.length_take]; omega
  unfold folW at h ⊢
  rw [hl] at h1 h2
  by_cases e : (fol ws (l.take c) 0 (zeros ws)).2 < c
  · have := h1.2 (by omega)
    omega
  · omega
theorem one_uniq (b : Bd) : Uniq [b] := fun j k hj hk _ => by simp at hj hk; omega
/-- the outcomes of one bundle are allowed in a trace exactly if they are allowed alone -/
theorem apart_law {ws : List Bd} (hu : Uniq ws) {l : List Oc} (hin : InW ws l) :
    (folW ws l).2 = l.length ↔ ∀ k, k < ws.length → (folW [ws.getD k b0] (fl (ws.getD k b0).id l)).2 = (fl (ws.getD k b0).id l).length := by
  have hone : ∀ k, k < ws.length → ((folW [ws.getD k b0] (fl (ws.getD k b0).id l)).2 = (fl (ws.getD k b0).id l).length ↔ ∃ f, runB (ws.getD k b0) f0 (fl (ws.getD k b0).id l) = some f) := fun k hk => by
    have h1 : InW [ws.getD k b0] (fl (ws.getD k b0).id l) := fun o ho _ => ⟨0, by simp, by
      have := (List.mem_filter.1 ho).2
      exact (of_decide_eq_true this).symm⟩
    have hff : fl (ws.getD k b0).id (fl (ws.getD k b0).id l) = fl (ws.getD k b0).id l := by simp [fl, List.filter_filter]
    have h2 := fol_all (one_uniq (ws.getD k b0)) (fl (ws.getD k b0).id l) 0 (zeros [ws.getD k b0]) rfl h1
    rcases h2 with ⟨h2, h3, _⟩ | ⟨⟨j, hj, h2⟩, h3⟩
    · have := h2 0 (by simp)
      rw [zeros_at] at this
      change ∃ f, runB (ws.getD k b0) f0 (fl (ws.getD k b0).id (fl (ws.getD k b0).id l)) = some f at this
      rw [hff] at this
      exact ⟨fun _ => this, fun _ => by unfold folW; omega⟩
    · obtain rfl : j = 0 := by simp at hj; omega
      rw [zeros_at] at h2
      change runB (ws.getD k b0) f0 (fl (ws.getD k b0).id (fl (ws.getD k b0).id l)) = none at h2
      rw [hff] at h2
      refine ⟨fun h => ?_, fun ⟨f, h⟩ => by rw [h2] at h; cases h⟩
      unfold folW at h
      omega
  have h2 := fol_all hu l 0 (zeros ws) (by simp [zeros]) hin
  simp only [zeros_at] at h2
  rcases h2 with ⟨h2, h3, _⟩ | ⟨⟨j, hj, h2⟩, h3⟩
  · exact ⟨fun _ k hk => (hone k hk).2 (h2 k hk), fun _ => by unfold folW; omega⟩
  · refine ⟨fun h => ?_, fun h => ?_⟩
    · unfold folW at h; omega
    · obtain ⟨f, hf⟩ := (hone j hj).1 (h j hj)
      rw [h2] at hf; cases hf
end Go.Proofs.YtcjlbpndgjapiaaDoor
namespace Go.Proofs.YtcjlbpndgjapiaaDoor
set_option linter.unusedSimpArgs false
set_option linter.unusedVariables false

def cntK (k : Int) (m : List Oc) : Nat := (m.filter fun o => decide (o.kd = k)).length
theorem cntK_snoc (k : Int) (m : List Oc) (o : Oc) : cntK k (m ++ [o]) = cntK k m + if o.kd = k then 1 else 0 := by
  unfold cntK
  rw [List.filter_append, List.length_append]
  by_cases h : o.kd = k <;> simp [h]
theorem pc_mono {s t : Nat} (h : ∀ i, s.testBit i = true → t.testBit i = true) : pc s ≤ pc t := by
  unfold pc
  rw [← List.countP_eq_length_filter, ← List.countP_eq_length_filter]
  exact List.countP_mono_left fun i _ hi => h i hi
theorem pc_rem (s n : Nat) : pc (remB s n) ≤ pc s := pc_mono fun i hi => by
  rw [remB_bit] at hi
  simp at hi
  exact hi.1
theorem pc_pos {s n : Nat} (hn : n ≤ 16) (h : s.testBit n = true) : 1 ≤ pc s := by
  unfold pc
  exact List.length_pos_of_mem (List.mem_filter.2 ⟨List.mem_range.2 (by omega), h⟩)
theorem add_ne (s n : Nat) : addB s n ≠ 0 := fun h => by
  have := addB_bit s n n
  rw [h] at this
  simp at this
structure Inv (b : Bd) (f : Ft) (pre : List Oc) : Prop where
  na : cntK 1 pre = f.ac.toNat
  nd : cntK 8 pre = f.dl.toNat
  pcm : pc f.nw ≤ f.mo
  z : f.ac = false → f.nw = 0 ∧ f.ev = 0 ∧ f.mo = 0
  p : f.ac = true → 1 ≤ f.mo
  da : f.dl = true → f.ac = true
  nh : cntK 7 pre = 0 → f.ac = true → f.dl = false → f.nw ≠ 0 ∨ ∃ o, o ∈ pre ∧ b.born + b.life ≤ o.tk
theorem inv_zero (b : Bd) : Inv b f0 [] := by
  refine ⟨rfl, rfl, ?_, fun _ => ⟨rfl, rfl, rfl⟩, fun h => (by cases h), fun h => (by cases h), fun _ h => (by cases h)⟩
  decide
theorem inv_stp {b : Bd} {f g : Ft} {pre : List Oc} {o : Oc} (hi : Inv b f pre) (hn : 1 ≤ o.nd ∧ o.nd ≤ 16) (h : stp b f o = some g) : Inv b g (pre ++ [o]) := by
  have hnt : o.nd.toNat ≤ 16 := by omega
  have hcase : ∀ {P : Prop} {g : Ft}, (P ∨ g.nw ≠ 0) → True := fun _ => trivial
  unfold stp at h
  by_cases h1 : o.kd = 1
  · rw [if_pos h1] at h
    split at h
    · cases h
    · rename_i hc
      simp only [Option.some.injEq] at h
      subst h
      have hac : f.ac = false := by cases hx : f.ac with | false => rfl | true => exact absurd (.inl hx) hc
      obtain ⟨z1, z2, z3⟩ := hi.z hac
      have hdl : f.dl = false := by cases hx : f.dl with | false => rfl | true => have := hi.da hx; rw [hac] at this; cases this
      refine ⟨?_, ?_, ?_, fun h => (by cases h), fun _ => ?_, fun _ => rfl, fun _ _ _ => .inl (add_ne _ _)⟩
      · rw [cntK_snoc, hi.na, if_pos h1, hac]; rfl
      · rw [cntK_snoc, hi.nd, if_neg (by omega)]; rfl
      · exact Nat.le_max_right _ _
      · have : 1 ≤ pc (addB f.nw o.nd.toNat) := pc_pos hnt (by rw [addB_bit]; simp)
        exact Nat.le_trans this (Nat.le_max_right _ _)
  · rw [if_neg h1] at h
    by_cases h6 : o.kd = 6
    · rw [if_pos h6] at h
      split at h
      · cases h
      · rename_i hc
        simp only [Option.some.injEq] at h
        subst h
        have hac : f.ac = true := by
          cases hx : f.ac with
          | true => rfl
          | false =>
            exfalso
            refine hc (.inl ?_)
            rw [(hi.z hx).2.1]
            simp
        refine ⟨?_, ?_, Nat.le_max_right _ _, fun h => ?_, fun _ => ?_, hi.da, fun _ _ _ => .inl (add_ne _ _)⟩
        · rw [cntK_snoc, hi.na, if_neg (by omega)]; rfl
        · rw [cntK_snoc, hi.nd, if_neg (by omega)]; rfl
        · have h : f.ac = false := h
          rw [hac] at h; cases h
        · exact Nat.le_trans (hi.p hac) (Nat.le_max_left _ _)
    · rw [if_neg h6] at h
      by_cases h7 : o.kd = 7
      · rw [if_pos h7] at h
        split at h
        · cases h
        · simp only [Option.some.injEq] at h
          subst h
          refine ⟨?_, ?_, ?_, fun h => ?_, hi.p, hi.da, fun h => ?_⟩
          · rw [cntK_snoc, hi.na, if_neg (by omega)]; rfl
          · rw [cntK_snoc, hi.nd, if_neg (by omega)]; rfl
          · exact Nat.le_trans (pc_rem _ _) hi.pcm
          · obtain ⟨z1, z2, z3⟩ := hi.z h
            refine ⟨?_, z2, z3⟩
            show remB f.nw _ = 0
            rw [z1]; simp [remB]
          · rw [cntK_snoc, if_pos h7] at h; omega
      · rw [if_neg h7] at h
        by_cases h8 : o.kd = 8
        · rw [if_pos h8] at h
          split at h
          · cases h
          · rename_i hc
            simp only [Option.some.injEq] at h
            subst h
            have hac : f.ac = true := by cases hx : f.ac with | true => rfl | false => exact absurd (.inr (.inl hx)) hc
            have hdl : f.dl = false := by cases hx : f.dl with | false => rfl | true => exact absurd (.inr (.inr (.inl hx))) hc
            refine ⟨?_, ?_, ?_, fun h => ?_, fun _ => hi.p hac, fun _ => hac, fun _ _ h => (by cases h)⟩
            · rw [cntK_snoc, hi.na, if_neg (by omega)]; rfl
            · rw [cntK_snoc, hi.nd, if_pos h8, hdl]; rfl
            · exact Nat.le_trans (pc_rem _ _) hi.pcm
            · have h : f.ac = false := h
              rw [hac] at h; cases h
        · rw [if_neg h8] at h
          by_cases h9 : o.kd = 9
          · rw [if_pos h9] at h
            split at h
            · cases h
            · rename_i hc
              simp only [Option.some.injEq] at h
              subst h
              refine ⟨?_, ?_, ?_, fun h => ?_, hi.p, hi.da, fun _ _ _ => .inr ⟨o, by simp, by omega⟩⟩
              · rw [cntK_snoc, hi.na, if_neg (by omega)]; rfl
              · rw [cntK_snoc, hi.nd, if_neg (by omega)]; rfl
              · exact Nat.le_trans (pc_rem _ _) hi.pcm
              · obtain ⟨z1, z2, z3⟩ := hi.z h
                refine ⟨?_, z2, z3⟩
                show remB f.nw _ = 0
                rw [z1]; simp [remB]
          · rw [if_neg h9] at h
            simp only [Option.some.injEq] at h
            subst h
            refine ⟨?_, ?_, hi.pcm, hi.z, hi.p, hi.da, fun h a d => ?_⟩
            · rw [cntK_snoc, hi.na, if_neg h1]; rfl
            · rw [cntK_snoc, hi.nd, if_neg h8]; rfl
            · rw [cntK_snoc, if_neg h7] at h
              rcases hi.nh h a d with hx | ⟨o', ho, ht⟩
              · exact .inl hx
              · exact .inr ⟨o', by simp [ho], ht⟩
theorem inv_run {b : Bd} : ∀ (m : List Oc) (f g : Ft) (pre : List Oc), Inv b f pre → (∀ o, o ∈ m → 1 ≤ o.nd ∧ o.nd ≤ 16) → runB b f m = some g → Inv b g (pre ++ m)
  | [], f, g, pre, hi, _, h => by
    simp only [runB, Option.some.injEq] at h
    subst h
    rw [List.append_nil]; exact hi
  | o :: m, f, g, pre, hi, hn, h => by
    rw [runB] at h
    cases hs : stp b f o with
    | none => rw [hs] at h; cases h
    | some f1 =>
      rw [hs] at h
      have h1 := inv_stp hi (hn o (List.mem_cons_self ..)) hs
      have := inv_run m f1 g (pre ++ [o]) h1 (fun o ho => hn o (List.mem_cons_of_mem _ ho)) h
      rwa [List.append_assoc] at this
/-- all bundles of an allowed trace -/
theorem once_inv {ws : List Bd} (hu : Uniq ws) {l : List Oc} (hin : InW ws l) (hn : ∀ o, o ∈ l → 1 ≤ o.nd ∧ o.nd ≤ 16) (ha : (folW ws l).2 = l.length) : ∀ k, k < ws.length → Inv (ws.getD k b0) ((folW ws l).1.getD k f0) (fl (ws.getD k b0).id l) := by
  intro k hk
  have h2 := fol_all hu l 0 (zeros ws) (by simp [zeros]) hin
  rcases h2 with ⟨_, _, _, h4⟩ | ⟨_, h3⟩
  · have := h4 k hk
    rw [zeros_at] at this
    have := inv_run _ _ _ [] (inv_zero _) (fun o ho => hn o (List.mem_filter.1 ho).1) this
    exact this
  · unfold folW at ha; omega
theorem run_app {b : Bd} : ∀ (m n : List Oc) (f : Ft), runB b f (m ++ n) = (runB b f m).bind fun g => runB b g n
  | [], n, f => rfl
  | o :: m, n, f => by
    rw [List.cons_append, runB, runB]
    cases stp b f o with
    | none => rfl
    | some g => exact run_app m n g
/-- where a bundle is delivered, it was accepted once before -/
theorem once_before {ws : List Bd} (hu : Uniq ws) {l : List Oc} (hin : InW ws l) (hn : ∀ o, o ∈ l → 1 ≤ o.nd ∧ o.nd ≤ 16) (ha : (folW ws l).2 = l.length) {k i : Nat} (hk : k < ws.length) (hi : i < l.length) (h8 : (l.getD i o0).kd = 8) (hid : (l.getD i o0).id = (ws.getD k b0).id) :
    cntK 1 (fl (ws.getD k b0).id (l.take i)) = 1 := by
  have e : l.getD i o0 = l[i] := by rw [List.getD_eq_getElem?_getD, List.getElem?_eq_getElem hi]; rfl
  have htk : l.take (i + 1) = l.take i ++ [l.getD i o0] := by rw [e, List.take_succ_eq_append_getElem hi]
  have ha2 := fol_take ha (i + 1) (by omega)
  have hin2 : InW ws (l.take (i + 1)) := fun o ho => hin o (List.mem_of_mem_take ho)
  have h2 := fol_all hu (l.take (i + 1)) 0 (zeros ws) (by simp [zeros]) hin2
  rcases h2 with ⟨_, _, _, h4⟩ | ⟨_, h3⟩
  · have h5 := h4 k hk
    rw [zeros_at, htk] at h5
    have hf : fl (ws.getD k b0).id (l.take i ++ [l.getD i o0]) = fl (ws.getD k b0).id (l.take i) ++ [l.getD i o0] := by
      unfold fl
      rw [List.filter_append]
      congr 1
      rw [List.filter_cons, if_pos (decide_eq_true hid)]
      rfl
    rw [hf, run_app] at h5
    cases hr : runB (ws.getD k b0) f0 (fl (ws.getD k b0).id (l.take i)) with
    | none => rw [hr] at h5; cases h5
    | some f =>
      rw [hr] at h5
      have h5 : (stp (ws.getD k b0) f (l.getD i o0)).bind (fun g => runB (ws.getD k b0) g []) = some _ := h5
      have hI := inv_run _ _ _ [] (inv_zero (ws.getD k b0)) (fun o ho => hn o (List.mem_of_mem_take (List.mem_filter.1 ho).1)) hr
      have hac : f.ac = true := by
        unfold stp at h5
        rw [if_neg (by omega), if_neg (by omega), if_neg (by omega), if_pos h8] at h5
        split at h5
        · cases h5
        · rename_i hc
          cases hx : f.ac with | true => rfl | false => exact absurd (.inr (.inl hx)) hc
      have := hI.na
      rw [hac] at this
      exact this
  · have hl : (l.take (i + 1)).length = i + 1 := by rw [List.length_take]; omega
    unfold folW at ha2; omega
end Go.Proofs.YtcjlbpndgjapiaaDoor
namespace Go.Proofs.YtcjlbpndgjapiaaDoor
set_option linter.unusedSimpArgs false
set_option linter.unusedVariables false

def dA : ByteArray := ⟨#[97]⟩
/-- bundle i of the world made of n -/
def mkB (n : Int) (i : Nat) : Bd := ⟨⟨1 + (n / 4 + 37 * i) % 3, i, 0⟩, 1 + (n / 4 + 37 * i) / 3 % 3, 0, (n / 4 + 37 * i) / 9 % 5, 1 + (n / 4 + 37 * i) / 45 % 20, 1, dA⟩
def mkK (n : Int) (m : Nat) : List Bd := (List.range m).map (mkB n)
def mkW (n : Int) : List Bd := mkK n ((n % 4).toNat + 1)
/-- what bundles made of numbers have -/
structure SmB (b : Bd) : Prop where
  nd : 1 ≤ b.id.nd ∧ b.id.nd ≤ 3
  sq : 0 ≤ b.id.sq ∧ b.id.sq ≤ 3
  off : b.id.off = 0
  dst : 1 ≤ b.dst ∧ b.dst ≤ 3
  pri : b.pri = 0
  born : 0 ≤ b.born ∧ b.born ≤ 4
  life : 1 ≤ b.life ∧ b.life ≤ 20
  tot : b.tot = 1
  dat : b.dat.size = 1
theorem mkB_sm {n : Int} (hn : 0 ≤ n) {i : Nat} (hi : i ≤ 3) : SmB (mkB n i) := by
  unfold mkB
  refine ⟨?_, ?_, rfl, ?_, rfl, ?_, ?_, rfl, rfl⟩ <;> (dsimp only; omega)
theorem sm_chk {b : Bd} (h : SmB b) : chkB b = 0 := by
  obtain ⟨h1, h2, h3, h4, h5, h6, h7, h8, h9⟩ := h
  unfold chkB
  rw [show chkI b.id = 0 by unfold chkI; rw [if_neg (by omega)], if_neg (by simp), if_neg (by unfold badF; omega), if_neg (by omega), if_neg (by omega), if_neg (by omega)]
/-- a world made of numbers -/
structure SmW (ws : List Bd) : Prop where
  pos : 1 ≤ ws.length
  len : ws.length ≤ 4
  all : ∀ k, k < ws.length → SmB (ws.getD k b0)
  uni : Uniq ws
theorem mkK_at {n : Int} {m k : Nat} (h : k < m) : (mkK n m).getD k b0 = mkB n k := by
  unfold mkK
  rw [List.getD_eq_getElem?_getD, List.getElem?_map, List.getElem?_range h]; rfl
theorem mkK_succ (n : Int) (m : Nat) : mkK n (m + 1) = mkK n m ++ [mkB n m] := by
  unfold mkK
  rw [List.range_succ, List.map_append]; rfl
theorem mkW_sm {n : Int} (hn : 0 ≤ n) : SmW (mkW n) := by
  have hl : (mkW n).length = (n % 4).toNat + 1 := by simp [mkW, mkK]
  refine ⟨by omega, by omega, fun k hk => ?_, fun j k hj hk h => ?_⟩
  · unfold mkW
    rw [mkK_at (by omega)]
    exact mkB_sm hn (by omega)
  · unfold mkW at h
    rw [mkK_at (by omega), mkK_at (by omega)] at h
    have h : ((j : Nat) : Int) = ((k : Nat) : Int) := congrArg Idn.sq h
    omega
theorem SmW.chk {ws : List Bd} (h : SmW ws) : chkW ws = (0, 0) := by
  unfold chkW
  have := h.len
  rw [if_neg (by omega)]
  refine fst_ok fun j _ hj => ?_
  unfold stepW
  rw [sm_chk (h.all j (by omega)), if_neg (by simp), if_neg]
  intro hh
  obtain ⟨k, hk, he⟩ := hasI_iff.1 hh
  have := h.uni k j (by omega) (by omega) he
  omega
def kindN (k : Int) : Int := if k = 0 then 6 else if k = 1 then 7 else if k = 2 then 1 else if k = 3 then 8 else if k = 4 then 9 else if k = 5 then 6 else if k = 6 then 7 else if k = 7 then 10 else if k = 8 then 11 else 14
def tickN (k : Int) : Int := if k = 3 then 1 else if k = 4 then 2 else if k = 5 then 9 else 0
def ocK (b : Bd) (kd tk nd0 x tick : Int) : Oc :=
  ⟨if kd = 1 ∧ tick ≤ b.born then b.born else tk, if kd = 1 then b.id.nd else if kd = 8 then b.dst else nd0, kd, if kd = 11 ∨ kd = 14 then i0 else b.id, if kd = 6 ∨ kd = 7 ∨ kd = 10 ∨ kd = 11 then 1 + (nd0 + x) % 3 else 0⟩
/-- the outcome made of a number from 0 on -/
def ocN (ws : List Bd) (n tick : Int) : Oc := ocK (ws.getD (n % (ws.length : Int)).toNat b0) (kindN (n / 4 % 10)) (tick + tickN (n / 40 % 6)) (1 + n / 240 % 3) (n / 720 % 2) tick
structure SmO (ws : List Bd) (o : Oc) (tick : Int) : Prop where
  one : oneE o = 0
  nd : 1 ≤ o.nd ∧ o.nd ≤ 16
  tk : tick ≤ o.tk ∧ o.tk ≤ tick + 9
  inw : mat o.kd = true → ∃ k, k < ws.length ∧ (ws.getD k b0).id = o.id
  bd : o.id.nd ≤ 3 ∧ 0 ≤ o.id.sq ∧ o.id.sq ≤ 3 ∧ o.id.off = 0 ∧ 0 ≤ o.kd ∧ o.kd ≤ 15 ∧ 0 ≤ o.ot ∧ o.ot ≤ 16
theorem oc_sm {ws : List Bd} (h : SmW ws) {n tick : Int} (hn : 0 ≤ n) (ht : 0 ≤ tick ∧ tick ≤ 10000) : SmO ws (ocN ws n tick) tick := by
  have hp := h.pos
  have hk : (n % (ws.length : Int)).toNat < ws.length := by
    have h1 := Int.emod_nonneg n (show (ws.length : Int) ≠ 0 by omega)
    have h2 := Int.emod_lt_of_pos n (show (0 : Int) < ws.length by omega)
    omega
  have hb := h.all _ hk
  have hin : ∃ k, k < ws.length ∧ (ws.getD k b0).id = (ws.getD (n % (ws.length : Int)).toNat b0).id := ⟨_, hk, rfl⟩
  unfold ocN
  obtain ⟨b, hbe⟩ : ∃ b, ws.getD (n % (ws.length : Int)).toNat b0 = b := ⟨_, rfl⟩
  rw [hbe] at hb hin ⊢
  obtain ⟨kd, hkd⟩ : ∃ k, kindN (n / 4 % 10) = k := ⟨_, rfl⟩
  have hkd2 : kd = 1 ∨ kd = 6 ∨ kd = 7 ∨ kd = 8 ∨ kd = 9 ∨ kd = 10 ∨ kd = 11 ∨ kd = 14 := by
    rw [← hkd]
    unfold kindN
    repeat (split; · simp)
    simp
  obtain ⟨tt, htt⟩ : ∃ k, tickN (n / 40 % 6) = k := ⟨_, rfl⟩
  have htt2 : 0 ≤ tt ∧ tt ≤ 9 := by
    rw [← htt]
    unfold tickN
    repeat (split; · omega)
    omega
  obtain ⟨nd0, hnd⟩ : ∃ k, 1 + n / 240 % 3 = k := ⟨_, rfl⟩
  have hnd2 : 1 ≤ nd0 ∧ nd0 ≤ 3 := by omega
  obtain ⟨x, hx⟩ : ∃ k, n / 720 % 2 = k := ⟨_, rfl⟩
  have hx2 : 0 ≤ x ∧ x ≤ 1 := by omega
  rw [hkd, htt, hnd, hx]
  clear hkd htt hnd hx hbe hk hp h hn
  obtain ⟨h1, h2, h3, h4, h5, h6, h7, h8, h9⟩ := hb
  have hci : chkI b.id = 0 := by unfold chkI; rw [if_neg (by omega)]
  unfold ocK
  refine ⟨?_, ?_, ?_, ?_, ?_⟩
  · rcases hkd2 with rfl | rfl | rfl | rfl | rfl | rfl | rfl | rfl
    all_goals (unfold oneE okI okO usesI usesO; simp [hci]; try omega)
    all_goals (split <;> omega)
  · rcases hkd2 with rfl | rfl | rfl | rfl | rfl | rfl | rfl | rfl <;> simp <;> omega
  · rcases hkd2 with rfl | rfl | rfl | rfl | rfl | rfl | rfl | rfl <;> simp <;> (try split) <;> omega
  · intro hm
    rcases hkd2 with rfl | rfl | rfl | rfl | rfl | rfl | rfl | rfl <;> simp [mat] at hm ⊢ <;> simpa using hin
  · rcases hkd2 with rfl | rfl | rfl | rfl | rfl | rfl | rfl | rfl <;> simp [i0] <;> omega
end Go.Proofs.YtcjlbpndgjapiaaDoor
namespace Go.Proofs.YtcjlbpndgjapiaaDoor
set_option linter.unusedSimpArgs false
set_option linter.unusedVariables false

/-- the tick of the last outcome; 0 if there is none -/
def tkL (l : List Oc) : Int := if l.length = 0 then 0 else (l.getD (l.length - 1) o0).tk
/-- the trace that is made of the first k numbers -/
def alw (ws : List Bd) (nums : List Int) : Nat → List Oc
  | 0 => []
  | k + 1 => if (nxtV ws (alw ws nums k) (ocN ws (nums.getD k 0 % 1073741824) (tkL (alw ws nums k)))).1 = true then alw ws nums k ++ [ocN ws (nums.getD k 0 % 1073741824) (tkL (alw ws nums k))] else alw ws nums k
/-- a valid trace whose outcomes are of the world -/
structure TrO (ws : List Bd) (l : List Oc) (B : Int) : Prop where
  one : ∀ o, o ∈ l → oneE o = 0
  asc : ∀ k, k + 1 < l.length → (l.getD k o0).tk ≤ (l.getD (k + 1) o0).tk
  nd : ∀ o, o ∈ l → 1 ≤ o.nd ∧ o.nd ≤ 16
  inw : InW ws l
  last : 0 ≤ tkL l ∧ tkL l ≤ B
theorem tkL_snoc (l : List Oc) (o : Oc) : tkL (l ++ [o]) = o.tk := by
  unfold tkL
  rw [if_neg (by simp)]
  simp [List.getD_eq_getElem?_getD]
theorem getD_mem {α : Type} {l : List α} {k : Nat} {d : α} (h : k < l.length) : l.getD k d ∈ l := by
  rw [List.getD_eq_getElem?_getD, List.getElem?_eq_getElem h]
  exact List.getElem_mem h
theorem getD_app1 {α : Type} {l m : List α} {k : Nat} {d : α} (h : k < l.length) : (l ++ m).getD k d = l.getD k d := by
  simp only [List.getD_eq_getElem?_getD, List.getElem?_append_left h]
theorem getD_app2 {α : Type} {l : List α} {o : α} {d : α} : (l ++ [o]).getD l.length d = o := by
  simp [List.getD_eq_getElem?_getD]
theorem TrO.nil (ws : List Bd) : TrO ws [] 0 := ⟨fun o h => (by cases h), fun k h => (by simp at h), fun o h => (by cases h), fun o h => (by cases h), by unfold tkL; simp⟩
theorem TrO.mono {ws : List Bd} {l : List Oc} {B C : Int} (h : TrO ws l B) (hb : B ≤ C) : TrO ws l C := ⟨h.one, h.asc, h.nd, h.inw, h.last.1, by have := h.last.2; omega⟩
theorem TrO.snoc {ws : List Bd} {l : List Oc} {B : Int} {o : Oc} (h : TrO ws l B) (ho : SmO ws o (tkL l)) : TrO ws (l ++ [o]) (B + 9) := by
  refine ⟨fun x hx => ?_, fun k hk => ?_, fun x hx => ?_, fun x hx => ?_, ?_⟩
  · rcases List.mem_append.1 hx with hx | hx
    · exact h.one x hx
    · rw [List.mem_singleton.1 hx]; exact ho.one
  · rw [List.length_append, List.length_singleton] at hk
    by_cases e : k + 1 < l.length
    · rw [getD_app1 (by omega), getD_app1 e]
      exact h.asc k e
    · have e2 : k + 1 = l.length := by omega
      rw [getD_app1 (by omega), e2, getD_app2]
      have := ho.tk.1
      unfold tkL at this
      rw [if_neg (by omega), show l.length - 1 = k by omega] at this
      exact this
  · rcases List.mem_append.1 hx with hx | hx
    · exact h.nd x hx
    · rw [List.mem_singleton.1 hx]; exact ho.nd
  · rcases List.mem_append.1 hx with hx | hx
    · exact h.inw x hx
    · rw [List.mem_singleton.1 hx]; exact ho.inw
  · rw [tkL_snoc]
    have := ho.tk
    have := h.last
    omega
theorem TrO.chk {ws : List Bd} {l : List Oc} {B : Int} (h : TrO ws l B) (hl : l.length ≤ 5000) : chkT l = (0, 0) := by
  unfold chkT
  rw [if_neg (by omega)]
  refine fst_ok fun j _ hj => ?_
  unfold stepT
  rw [h.one _ (getD_mem (by omega)), if_neg (by simp)]
  by_cases h0 : 0 < j
  · have := h.asc (j - 1) (by omega)
    rw [show j - 1 + 1 = j by omega] at this
    rw [if_neg (by omega)]
  · rw [if_neg (by omega)]
theorem TrO.take {ws : List Bd} {l : List Oc} {B : Int} (h : TrO ws l B) (hB : ∀ o, o ∈ l → 0 ≤ o.tk ∧ o.tk ≤ B) (c : Nat) : TrO ws (l.take c) B := by
  have hg : ∀ k, k < (l.take c).length → (l.take c).getD k o0 = l.getD k o0 := fun k hk => by
    rw [List.length_take] at hk
    simp only [List.getD_eq_getElem?_getD, List.getElem?_take, if_pos (show k < c by omega)]
  refine ⟨fun x hx => h.one x (List.mem_of_mem_take hx), fun k hk => ?_, fun x hx => h.nd x (List.mem_of_mem_take hx), fun x hx => h.inw x (List.mem_of_mem_take hx), ?_⟩
  · rw [hg k (by omega), hg (k + 1) hk]
    rw [List.length_take] at hk
    exact h.asc k (by omega)
  · unfold tkL
    split
    · have := h.last; omega
    · rename_i hn
      have := hB _ (List.mem_of_mem_take (getD_mem (l := l.take c) (d := o0) (show (l.take c).length - 1 < (l.take c).length by omega)))
      exact this
theorem TrO.tks {ws : List Bd} {l : List Oc} {B : Int} (h : TrO ws l B) : ∀ o, o ∈ l → 0 ≤ o.tk ∧ o.tk ≤ B := by
  intro o ho
  obtain ⟨j, hj, he⟩ := List.getElem_of_mem ho
  have hup : ∀ d k, k + d < l.length → (l.getD k o0).tk ≤ (l.getD (k + d) o0).tk := fun d => by
    induction d with
    | zero => intro k _; exact Int.le_refl _
    | succ d ih =>
      intro k hk
      have h1 := ih k (by omega)
      have h2 := h.asc (k + d) (by omega)
      rw [show k + d + 1 = k + (d + 1) by omega] at h2
      omega
  have h1 := hup (l.length - 1 - j) j (by omega)
  rw [show j + (l.length - 1 - j) = l.length - 1 by omega] at h1
  have h2 := h.last
  unfold tkL at h2
  rw [if_neg (by omega)] at h2
  have e : l.getD j o0 = o := by rw [List.getD_eq_getElem?_getD, List.getElem?_eq_getElem hj, ← he]; rfl
  rw [e] at h1
  have h3 := h.one o ho
  unfold oneE at h3
  split at h3
  · cases h3
  · split at h3
    · cases h3
    · omega
theorem chkE_zero {ws : List Bd} {l : List Oc} (h1 : chkW ws = (0, 0)) (h2 : chkT l = (0, 0)) : chkE ws l = 0 := by
  unfold chkE
  rw [h1, h2]
  simp
structure Alw (ws : List Bd) (l : List Oc) (k : Nat) : Prop where
  tr : TrO ws l (9 * (k : Int))
  len : l.length ≤ k
  al : (folW ws l).2 = l.length
theorem alw_ok {ws : List Bd} (hw : SmW ws) (nums : List Int) : ∀ k, k ≤ 1000 → Alw ws (alw ws nums k) k
  | 0, _ => ⟨TrO.nil ws, Nat.le_refl _, rfl⟩
  | k + 1, hk => by
    have ih := alw_ok hw nums k (by omega)
    obtain ⟨l, hl⟩ : ∃ l, alw ws nums k = l := ⟨_, rfl⟩
    rw [alw]
    rw [hl] at ih ⊢
    have ho := oc_sm hw (n := nums.getD k 0 % 1073741824) (tick := tkL l) (by omega) (by have := ih.tr.last; omega)
    obtain ⟨o, he⟩ : ∃ o, ocN ws (nums.getD k 0 % 1073741824) (tkL l) = o := ⟨_, rfl⟩
    rw [he] at ho ⊢
    have hs := (ih.tr.snoc ho).mono (show 9 * (k : Int) + 9 ≤ 9 * ((k + 1 : Nat) : Int) by push_cast; omega)
    split
    · rename_i hn
      refine ⟨hs, by rw [List.length_append]; have := ih.len; simp; omega, ?_⟩
      unfold nxtV at hn
      split at hn
      · cases hn
      · have := (of_decide_eq_true hn).2
        rw [List.length_append]; exact this
    · exact ⟨ih.tr.mono (by push_cast; omega), by have := ih.len; omega, ih.al⟩
theorem alw_fatE {ws : List Bd} (hw : SmW ws) {l : List Oc} {k : Nat} (hk : k ≤ 1000) (h : Alw ws l k) : chkE ws l = 0 ∧ fatE ws l = 0 := by
  have h1 := chkE_zero hw.chk (h.tr.chk (by have := h.len; omega))
  refine ⟨h1, ?_⟩
  unfold fatE
  rw [if_neg (by simpa using h1), if_neg (by rw [h.al]; omega)]
end Go.Proofs.YtcjlbpndgjapiaaDoor
namespace Go.Proofs.YtcjlbpndgjapiaaDoor
set_option linter.unusedSimpArgs false
set_option linter.unusedVariables false

theorem allV_ok {ws : List Bd} {l : List Oc} (h : chkE ws l = 0) : allV ws l = (((folW ws l).2 : Int), 0) := by
  unfold allV
  rw [if_neg (by simpa using h)]
/-- the trace of a law, and one outcome more -/
structure Lg (ws : List Bd) (l : List Oc) (o : Oc) : Prop where
  sm : SmW ws
  al : Alw ws l 40
  tr : TrO ws (l ++ [o]) 369
theorem lg_of {ws : List Bd} (hw : SmW ws) (nums : List Int) (k : Nat) (hk : k ≤ 40) (m : Int) : Lg ws (alw ws nums k) (ocN ws (m % 1073741824) (tkL (alw ws nums k))) := by
  have h := alw_ok hw nums k (by omega)
  have h2 : Alw ws (alw ws nums k) 40 := ⟨h.tr.mono (by omega), by have := h.len; omega, h.al⟩
  have ho := oc_sm hw (n := m % 1073741824) (tick := tkL (alw ws nums k)) (by omega) (by have := h2.tr.last; omega)
  exact ⟨hw, h2, (h2.tr.snoc ho).mono (by omega)⟩
theorem Lg.chk {ws : List Bd} {l : List Oc} {o : Oc} (h : Lg ws l o) : chkE ws (l ++ [o]) = 0 :=
  chkE_zero h.sm.chk (h.tr.chk (by rw [List.length_append]; have := h.al.len; simp; omega))
theorem Lg.chk1 {ws : List Bd} {l : List Oc} {o : Oc} (h : Lg ws l o) : chkE ws l = 0 := chkE_zero h.sm.chk (h.al.tr.chk (by have := h.al.len; omega))
theorem Lg.begins {ws : List Bd} {l : List Oc} {o : Oc} (h : Lg ws l o) (c : Nat) (hc : c ≤ l.length) :
    allV ws (l.take c) = ((c : Int), 0) ∧ allV ws l = ((l.length : Int), 0) ∧ (∃ d : Nat, allV ws (l ++ [o]) = ((d : Int), 0) ∧ l.length ≤ d ∧ nxtV ws l o = (decide (d = l.length + 1), 0)) := by
  have h0 := h.chk1
  have h1 : chkE ws (l.take c) = 0 := chkE_zero h.sm.chk ((h.al.tr.take h.al.tr.tks c).chk (by rw [List.length_take]; have := h.al.len; omega))
  have h2 := h.chk
  refine ⟨?_, ?_, (folW ws (l ++ [o])).2, ?_, ?_, ?_⟩
  · rw [allV_ok h1, fol_take h.al.al c hc]
  · rw [allV_ok h0, h.al.al]
  · rw [allV_ok h2]
  · have := (fol_app (ws := ws) [o] l 0 (zeros ws)).1
    have := h.al.al
    unfold folW at *
    omega
  · have h3 : (chkT (l ++ [o])).1 = 0 := by
      unfold chkE at h2
      split at h2
      · rename_i hh; exact absurd h2 hh
      · exact h2
    unfold nxtV
    rw [if_neg (by rw [(alw_fatE h.sm (by omega) h.al).2]; simp)]
    simp only [h3, true_and]
theorem asc_pair {l : List Oc} (h : ∀ k, k + 1 < l.length → (l.getD k o0).tk ≤ (l.getD (k + 1) o0).tk) : l.Pairwise fun a b => a.tk ≤ b.tk := by
  rw [List.pairwise_iff_getElem]
  intro i j hi hj hij
  have hup : ∀ d k, k + d < l.length → (l.getD k o0).tk ≤ (l.getD (k + d) o0).tk := fun d => by
    induction d with
    | zero => intro k _; exact Int.le_refl _
    | succ d ih =>
      intro k hk
      have h1 := ih k (by omega)
      have h2 := h (k + d) (by omega)
      rw [show k + d + 1 = k + (d + 1) by omega] at h2
      omega
  have := hup (j - i) i (by omega)
  rw [show i + (j - i) = j by omega] at this
  simpa [List.getD_eq_getElem?_getD, List.getElem?_eq_getElem hi, List.getElem?_eq_getElem hj] using this
theorem pair_asc {l : List Oc} (h : l.Pairwise fun a b => a.tk ≤ b.tk) : ∀ k, k + 1 < l.length → (l.getD k o0).tk ≤ (l.getD (k + 1) o0).tk := by
  intro k hk
  have := List.pairwise_iff_getElem.1 h k (k + 1) (by omega) hk (by omega)
  simpa [List.getD_eq_getElem?_getD, List.getElem?_eq_getElem (show k < l.length by omega), List.getElem?_eq_getElem hk] using this
theorem fl_chk {ws : List Bd} {l : List Oc} {B : Int} (h : TrO ws l B) (hl : l.length ≤ 5000) (i : Idn) : chkT (fl i l) = (0, 0) := by
  have hlen : (fl i l).length ≤ l.length := List.length_filter_le _ _
  have hp := pair_asc (l := fl i l) (List.Pairwise.filter (fun o : Oc => decide (o.id = i)) (asc_pair h.asc))
  have hone : ∀ o, o ∈ fl i l → oneE o = 0 := fun o ho => h.one o (List.mem_filter.1 ho).1
  unfold chkT
  rw [if_neg (by omega)]
  refine fst_ok fun j _ hj => ?_
  unfold stepT
  rw [hone _ (getD_mem (by omega)), if_neg (by simp)]
  by_cases h0 : 0 < j
  · have := hp (j - 1) (by omega)
    rw [show j - 1 + 1 = j by omega] at this
    rw [if_neg (by omega)]
  · rw [if_neg (by omega)]
theorem sm_one {b : Bd} (h : SmB b) : SmW [b] := by
  refine ⟨by simp, by simp, fun k hk => ?_, one_uniq b⟩
  have : k = 0 := by simp at hk; omega
  subst this
  exact h
/-- the outcomes of one bundle: alone allowed or not; all allowed exactly if each are -/
theorem Lg.apart {ws : List Bd} {l : List Oc} {o : Oc} (h : Lg ws l o) :
    (∀ k, k < ws.length → chkI (ws.getD k b0).id = 0 ∧ allV [ws.getD k b0] (fl (ws.getD k b0).id (l ++ [o])) = (((folW [ws.getD k b0] (fl (ws.getD k b0).id (l ++ [o]))).2 : Int), 0)) ∧
    ((folW ws (l ++ [o])).2 = (l ++ [o]).length ↔ ∀ k, k < ws.length → (folW [ws.getD k b0] (fl (ws.getD k b0).id (l ++ [o]))).2 = (fl (ws.getD k b0).id (l ++ [o])).length) := by
  refine ⟨fun k hk => ⟨?_, ?_⟩, apart_law h.sm.uni h.tr.inw⟩
  · have hb := h.sm.all k hk
    obtain ⟨h1, h2, h3, _⟩ := hb
    unfold chkI
    rw [if_neg (by omega)]
  · exact allV_ok (chkE_zero (sm_one (h.sm.all k hk)).chk (fl_chk h.tr (by rw [List.length_append]; have := h.al.len; simp; omega) _))
end Go.Proofs.YtcjlbpndgjapiaaDoor
