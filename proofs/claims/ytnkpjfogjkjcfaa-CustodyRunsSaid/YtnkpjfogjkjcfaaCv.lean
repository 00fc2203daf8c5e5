


/- Custody, plainly: what moves make of a world; a world is never lost; gone only behind an Ack; delivered in the end. No program is named. -/
import Derived.Test.YtnkpjfogjkjcfaaCu
namespace Go.Proofs.Ytnkpjfogjkjcfaa
set_option linter.unusedSimpArgs false
set_option linter.unusedVariables false
open Go.RowKit
instance : DecidableEq Ps := fun a b => decidable_of_iff (a.kd = b.kd ∧ a.fr = b.fr ∧ a.tt = b.tt ∧ a.of = b.of) ⟨fun h => by cases a; cases b; simp only [Ps.mk.injEq]; exact h, fun h => by cases h; exact ⟨rfl, rfl, rfl, rfl⟩⟩
def W0 : Wd := ⟨0, [], []⟩
/-- the error of a move in a valid world -/
def ftE (X : Wd) (m : Mv) : Int :=
  if m.kd < 1 ∨ 6 < m.kd then 7
  else if (m.kd = 1 ∨ m.kd = 5 ∨ m.kd = 6) ∧ ¬ isN X m.nd then 2
  else if m.kd = 1 ∧ (¬ isN X m.ot ∨ m.ot = m.nd) then 2
  else if m.kd = 1 ∧ (atC X m.nd).st ≠ 1 then 12
  else if (m.kd = 2 ∨ m.kd = 3 ∨ m.kd = 4) ∧ (m.n < 0 ∨ (X.fr.length : Int) ≤ m.n) then 8
  else if (m.kd = 1 ∨ m.kd = 4) ∧ 64 ≤ X.fr.length then 5
  else if m.kd = 1 ∧ (atC X m.nd).nx = 1099511627776 then 5
  else 0
/-- an offer taken back -/
def hld (c : Cp) : Cp := if c.st = 2 then { c with st := 1, tt := 0, of := 0 } else c
/-- the kind of the answer to Data -/
def ansK (c : Cp) (t : Tg) (rash : Bool) : Int :=
  if t ∈ c.tk then (if t ∈ c.kp ∨ c.st = 1 ∨ c.st = 4 then 5 else 6)
  else if c.st = 2 ∧ rash = false then 6 else 5
/-- the copy behind Data -/
def ansC (d : Bool) (c : Cp) (t : Tg) (rash : Bool) : Cp :=
  if t ∈ c.tk then c
  else if c.st = 2 ∧ rash = false then { c with tk := insG c.tk t }
  else { c with tk := insG c.tk t, kp := insG c.kp t, st := if d = true then 4 else if c.st = 0 ∨ c.st = 3 then 1 else c.st }
def setC (X : Wd) (n : Int) (c : Cp) : Wd := { X with cs := X.cs.set (n - 1).toNat c }
def dlF (l : List Ps) (i : Nat) : List Ps := l.take i ++ l.drop (i + 1)
def outF (X : Wd) (i : Nat) : Wd := { X with fr := dlF X.fr i }
/-- a frame, already taken out, arrives -/
def pasW (rash : Bool) (X : Wd) (f : Ps) : Wd :=
  if f.kd = 3 then { setC X f.tt (ansC (decide (f.tt = X.ds)) (atC X f.tt) ⟨f.fr, f.of⟩ rash) with fr := X.fr ++ [⟨ansK (atC X f.tt) ⟨f.fr, f.of⟩ rash, f.tt, f.fr, f.of⟩] }
  else if (atC X f.tt).st = 2 ∧ (atC X f.tt).tt = f.fr ∧ (atC X f.tt).of = f.of then setC X f.tt { atC X f.tt with st := if f.kd = 5 then 3 else 1, tt := 0, of := 0 }
  else X
def rstW (X : Wd) (n : Int) : Wd :=
  { setC X n { hld (atC X n) with tk := [], kp := [] } with
    cs := (setC X n { hld (atC X n) with tk := [], kp := [] }).cs.map (fun c => if c.tt = n then hld c else c)
    fr := X.fr.filter (fun f => decide (¬ (f.fr = n ∨ f.tt = n))) }
/-- what a move without an error makes -/
def mvW (rash : Bool) (X : Wd) (m : Mv) : Wd :=
  if m.kd = 1 then { setC X m.nd { atC X m.nd with st := 2, tt := m.ot, of := (atC X m.nd).nx, nx := (atC X m.nd).nx + 1 } with fr := X.fr ++ [⟨3, m.nd, m.ot, (atC X m.nd).nx⟩] }
  else if m.kd = 2 then pasW rash (outF X m.n.toNat) (gp X.fr m.n.toNat)
  else if m.kd = 3 then outF X m.n.toNat
  else if m.kd = 4 then { X with fr := X.fr ++ [gp X.fr m.n.toNat] }
  else if m.kd = 5 then setC X m.nd (hld (atC X m.nd))
  else rstW X m.nd
def stpE (X : Wd) (m : Mv) : Int := if Okw X then ftE X m else 3
def stpW (rash : Bool) (X : Wd) (m : Mv) : Wd := if stpE X m = 0 then mvW rash X m else W0
/-- moves one after the other: the world, how many, the error -/
def runW (X : Wd) : List Mv → Nat → Wd × Nat × Int
  | [], k => (X, k, 0)
  | m :: l, k => if stpE X m = 0 then runW (mvW false X m) l (k + 1) else (X, k, stpE X m)
def ruW (X : Wd) (l : List Mv) : Wd × Nat × Int := if Okw X then runW X l 0 else (W0, 0, 3)
/-- who has the bundle -/
def hdsN : List Cp → Nat → List Int
  | [], _ => []
  | c :: l, k => (if c.st = 1 ∨ c.st = 2 then [(k : Int) + 1] else []) ++ hdsN l (k + 1)
def hdsW (X : Wd) : List Int := hdsN X.cs 0
def lstW (X : Wd) : Bool := decide (hdsW X = [] ∧ (atC X X.ds).st ≠ 4)
def begE (n d o : Int) : Int := if n < 2 ∨ 16 < n ∨ d < 1 ∨ n < d ∨ o < 1 ∨ n < o ∨ o = d then 2 else 0
def begW (n d o : Int) : Wd := setC ⟨d, List.replicate n.toNat cp0, []⟩ o { cp0 with st := 1 }
def ofr (a b : Int) : Mv := ⟨1, a, b, 0⟩
def mk (k : Int) : Mv := ⟨k, 0, 0, 0⟩
/-- the moves of a circle -/
def cirL (n : Nat) : List Mv := (List.range (n - 1)).flatMap (fun i : Nat => [ofr ((i : Int) + 1) ((i : Int) + 2), mk 2, mk 3, ⟨5, (i : Int) + 1, 0, 0⟩]) ++ (List.range n).map (fun i : Nat => ofr ((i : Int) + 1) ((((i + 1) % n : Nat) : Int) + 1)) ++ (List.range (2 * n)).map (fun _ => mk 2)
/-- rash moves one after the other: the world, whether all went -/
def rasW (X : Wd) : List Mv → Wd × Bool
  | [] => (X, true)
  | m :: l => if stpE X m = 0 then rasW (mvW true X m) l else (X, false)
end Go.Proofs.Ytnkpjfogjkjcfaa
