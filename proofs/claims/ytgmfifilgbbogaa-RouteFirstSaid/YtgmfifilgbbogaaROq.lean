


/- Routes: rows of arrays; a route's box while it is made. -/
import Derived.Test.YtgmfifilgbbogaaRNq
import Derived.BigRegion
namespace Go.Proofs.Ytgmfifilgbbogaa
open Go.RowKit
set_option linter.unusedSimpArgs false
set_option linter.unusedVariables false
set_option maxRecDepth 100000

def arR : RowT (List Int) := ⟨17, fun L => (List.range 17).map fun i => Value.int .i64 (L.getD i 0), [], by decide, fun _ => by simp, fun t u hu => by
  obtain ⟨i, _, rfl⟩ := List.mem_map.1 hu
  rfl⟩
theorem arR_ic {L : List Int} (h : L.length = 17) : arR.cells L = ic .i64 L := by
  refine List.ext_getElem (by simp [arR, ic, h]) fun i h1 h2 => ?_
  have hi : i < 17 := by simpa [arR] using h1
  simp [arR, ic, List.getD_eq_getElem?_getD, List.getElem?_eq_getElem (show i < L.length by omega)]
/-- a row of arrays of one's own -/
abbrev OwA (w : World) (base q n c : Nat) (Bs : List (List Int)) : Prop := w.ownsRow base 63 17 (.slice (some ⟨q, 0, none⟩) n c) n (rcs arR Bs)
theorem OwA.len {w : World} {base q n c : Nat} {Bs : List (List Int)} (h : OwA w base q n c Bs) : Bs.length = n := by
  have := h.1
  rw [rcs_length] at this
  have e : arR.size = 17 := rfl
  rw [e] at this
  omega
theorem OwA.keep {w w' : World} {base q n c : Nat} {Bs : List (List Int)} (h : OwA w base q n c Bs) (hb : Below w.heap.size w w') : OwA w' base q n c Bs := own_keep hb h
theorem OwA.range {w : World} {base q n c : Nat} {Bs : List (List Int)} (h : OwA w base q n c Bs) (k : Nat) (hk : k < n) {L : List Int} (hL : Bs.getD k [] = L) (hl : L.length = 17) : w.rangeAt q (k * 17) (ic .i64 L) := fun j u hj => by
  have hj17 : j < 17 := by have := (List.getElem?_eq_some_iff.1 hj).1; simpa [ic, hl] using this
  have e := rcs_get arR Bs k j (by rw [OwA.len h]; exact hk) (show j < 17 from hj17)
  have e2 : arR.cells (Bs.getD k arR.zero) = ic .i64 L := by rw [← arR_ic hl, ← hL]; rfl
  rw [e2, hj] at e
  rw [World.ownsRow.cellAt h (k * 17 + j) (by omega)]
  exact e
theorem OwA.at {w : World} {base q n c : Nat} {Bs : List (List Int)} (h : OwA w base q n c Bs) (k i : Nat) (hk : k < n) (hi : i < 17) {L : List Int} (hL : Bs.getD k [] = L) (hl : L.length = 17) : w.cell? ⟨q, k * 17 + i, none⟩ = some (.int .i64 (L.getD i 0)) :=
  OwA.range h k hk hL hl i _ (ic_get .i64 L i (by omega))
theorem OwA.one {w : World} {q : Nat} {L : List Int} (h : ArrB w q L) (hl : L.length = 17) : OwA w q q 1 1 [L] := by
  have e : rcs arR [L] = ic .i64 L := by rw [show rcs arR [L] = arR.cells L by simp [rcs], arR_ic hl]
  have := owns_block w q 63 17 1 (ic .i64 L) q (Nat.le_refl _) h (by simp [ic, hl]) (by decide)
  rw [← e] at this
  exact this
theorem E65 : ElemOk Try.prog 65 63 (.agg #[.int .i64 0, .int .i64 0, .int .i64 0, .int .i64 0, .int .i64 0, .int .i64 0, .int .i64 0, .int .i64 0, .int .i64 0, .int .i64 0, .int .i64 0, .int .i64 0, .int .i64 0, .int .i64 0, .int .i64 0, .int .i64 0, .int .i64 0]) 17 136 := ⟨Try.underlying65, by kernel_rfl, rfl, by decide⟩
/-- what the program keeps of the way back -/
def bsL (cs : List Ct) (n v E : Int) (m : Nat) : List (List Int) := (List.range m).map fun k => bkL cs n v E k
theorem bsL_len (cs : List Ct) (n v E : Int) (m : Nat) : (bsL cs n v E m).length = m := by simp [bsL]
theorem bsL_at (cs : List Ct) (n v E : Int) {m k : Nat} (h : k < m) : (bsL cs n v E m).getD k [] = bkL cs n v E k := by
  simp [bsL, List.getD_eq_getElem?_getD, h]
theorem bsL_succ (cs : List Ct) (n v E : Int) (m : Nat) : bsL cs n v E (m + 1) = bsL cs n v E m ++ [bkL cs n v E m] := by
  simp [bsL, List.range_succ]
/-- a store of the arrival -/
theorem MdB.arr {w wr : World} {P : Nat} {E : Int} {cv : Value} {l : List Int} (h : MdB w wr P E cv l) (s : Int) : MdB w (wr.setCell ⟨P, 1, none⟩ (.int .i64 s)) P s cv l := by
  have hge := h.ge
  have hk : Kx (fun k => k = P) wr (wr.setCell ⟨P, 1, none⟩ (.int .i64 s)) := Kx.setCell (X := fun k => k = P) (Kx.refl _ wr) (.inl rfl) _
  exact ⟨heap_setCell_same wr P 1 _ 27 (.int .i64 s) h.box, hk.owns (fun k hk he => by have := (h.row.lt k hk).1; omega) h.row, hk.box (by omega) h.res, h.bel.setCell (p := ⟨P, 1, none⟩) (by show w.heap.size ≤ P; omega) _, hge⟩
end Go.Proofs.Ytgmfifilgbbogaa
