

/- Links: the table of the kinds: what its cells hold, and what its functions make. -/
import Derived.Test.YtimkeafpefkheaaDoorI
namespace Go.Proofs.YtimkeafpefkheaaDoor
open Go.RowKit
set_option linter.unusedSimpArgs false
set_option linter.unusedVariables false
set_option maxRecDepth 100000

/-- the function of kind k that says whether the fields are possible -/
def fK : Nat → Nat | 1 => 59 | 2 => 61 | 3 => 64 | 4 => 67 | _ => 69
/-- the function of kind k that makes the link after it -/
def mK : Nat → Nat | 1 => 60 | 2 => 62 | 3 => 66 | 4 => 68 | _ => 70
/-- the table lies in the world -/
def KD (w : World) : Prop := ∀ k, 1 ≤ k → k ≤ 5 → w.cell? ⟨0, k * 2, none⟩ = some (.func (.func (fK k)) #[] #[]) ∧ w.cell? ⟨0, k * 2 + 1, none⟩ = some (.func (.func (mK k)) #[] #[])
theorem KD.keep {W w1 : World} (hb : Below W.heap.size W w1) (h : KD W) : KD w1 := fun k h1 h2 => ⟨cell_later hb (h k h1 h2).1, cell_later hb (h k h1 h2).2⟩
theorem fitsK (v : Value) (l : List Fr) (hl : l.length ≤ 64) (hz : ∀ j, j < l.length → (l.getD j e0).size ≤ 1200) (kd i : Nat) (h1 : 1 ≤ kd) (h2 : kd ≤ 5) (hi : i < l.length) (j b : Int) (w : World) (h : RdT w v l) :
    Calls Tryd.prog (fK kd) #[v, (⟨(kd : Int), (i : Int), j, b⟩ : Tr).v] w fun x w' => x = .returned (.bool (fitT l ⟨(kd : Int), (i : Int), j, b⟩)) ∧ Below w.heap.size w w' := by
  have hsz := hz i hi
  have hkd : kd = 1 ∨ kd = 2 ∨ kd = 3 ∨ kd = 4 ∨ kd = 5 := by omega
  rcases hkd with rfl | rfl | rfl | rfl | rfl
  · exact fits1_any v ⟨((1 : Nat) : Int), (i : Int), j, b⟩ w
  · exact fits2_any v ⟨((2 : Nat) : Int), (i : Int), j, b⟩ w
  · obtain ⟨a0, n0, rfl⟩ := h.form
    exact fits3_any a0 l.length n0 ⟨((3 : Nat) : Int), (i : Int), j, b⟩ w
  · exact fits4_any v l ⟨((4 : Nat) : Int), (i : Int), j, b⟩ i hi (by omega) w h
  · exact fits5_any v l ⟨((5 : Nat) : Int), (i : Int), j, b⟩ i hi (by omega) w h
/-- the link after a fault -/
def apL (l : List Fr) (t : Tr) : List Fr :=
  if t.k = 1 then lessV l t.i.toNat
  else if t.k = 2 then insV l t.i.toNat (l.getD t.i.toNat e0)
  else if t.k = 3 then swapV l t.i.toNat t.j.toNat
  else if t.k = 4 then l.set t.i.toNat (spoilS (l.getD t.i.toNat e0) t.j.toNat t.b)
  else l.set t.i.toNat ((l.getD t.i.toNat e0).extract 0 t.j.toNat)
theorem makeK (a : Option Addr) (c base : Nat) (l : List Fr) (hl : l.length ≤ 64) (hz : ∀ j, j < l.length → (l.getD j e0).size ≤ 1200) (kd i : Nat) (h1 : 1 ≤ kd) (h2 : kd ≤ 5) (hi : i < l.length) (j b : Int) (hf : fitT l ⟨(kd : Int), (i : Int), j, b⟩ = true) (w : World)
    (h : w.ownsRow base 9 1 (.slice a l.length c) l.length (tcs l)) (hbw : base ≤ w.heap.size) :
    Calls Tryd.prog (mK kd) #[.slice a l.length c, (⟨(kd : Int), (i : Int), j, b⟩ : Tr).v] w (MkR base w (apL l ⟨(kd : Int), (i : Int), j, b⟩)) := by
  have hsz := hz i hi
  have hkd : kd = 1 ∨ kd = 2 ∨ kd = 3 ∨ kd = 4 ∨ kd = 5 := by omega
  rcases hkd with rfl | rfl | rfl | rfl | rfl
  · exact mk1_own a c base l ⟨((1 : Nat) : Int), (i : Int), j, b⟩ i hi hl w h hbw
  · exact mk2_own a c base l ⟨((2 : Nat) : Int), (i : Int), j, b⟩ i hi hl w h hbw
  · simp [fitT] at hf
    obtain ⟨n, rfl⟩ : ∃ n : Nat, j = n := ⟨j.toNat, by omega⟩
    exact mk3_own a c base l ⟨((3 : Nat) : Int), (i : Int), (n : Int), b⟩ i n hi hl rfl (by omega) w h hbw
  · simp [fitT] at hf
    obtain ⟨n, rfl⟩ : ∃ n : Nat, j = n := ⟨j.toNat, by omega⟩
    exact mk4_own a c base l ⟨((4 : Nat) : Int), (i : Int), (n : Int), b⟩ i n hi hl rfl (by have := hf.1.1.2; simp [List.getD_eq_getElem?_getD] at this ⊢; omega) hsz (by show 1 ≤ b; omega) (by show b ≤ 255; omega) w h hbw
  · simp [fitT] at hf
    obtain ⟨n, rfl⟩ : ∃ n : Nat, j = n := ⟨j.toNat, by omega⟩
    exact mk5_own a c base l ⟨((5 : Nat) : Int), (i : Int), (n : Int), b⟩ i n hi hl rfl (by have := hf.1.2; simp [List.getD_eq_getElem?_getD] at this ⊢; omega) w h hbw
theorem callK (kd : Nat) (h1 : 1 ≤ kd) (h2 : kd ≤ 5) (xs : Array Value) (w : World) : (callFunc (fK kd) xs).run Tryd.prog w = .ok (.enter (fK kd) xs) w ∧ (callFunc (mK kd) xs).run Tryd.prog w = .ok (.enter (mK kd) xs) w := by
  have hkd : kd = 1 ∨ kd = 2 ∨ kd = 3 ∨ kd = 4 ∨ kd = 5 := by omega
  rcases hkd with rfl | rfl | rfl | rfl | rfl
  all_goals
    refine ⟨?_, ?_⟩ <;> simp only [fK, mK] <;> first | (go_simp; done) | kernel_rfl
end Go.Proofs.YtimkeafpefkheaaDoor
