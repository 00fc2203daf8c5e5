


/- RouteFirst: the law's walk. -/
import Derived.Test.YtgmfifilgbbogaaRXk
import Derived.Test.YtgmfifilgbbogaaRYa
import Derived.Test.YtgmfifilgbbogaaFIp
import Derived.Test.YtgmfifilgbbogaaOQa
import Derived.Test.YtgmfifilgbbogaaROq
import Derived.Test.YtgmfifilgbbogaaRD2
namespace Go.Proofs.Ytgmfifilgbbogaa
open Go.RowKit
set_option linter.unusedSimpArgs false
set_option linter.unusedVariables false
set_option maxRecDepth 100000

/-- a route of one's own while it is made -/
structure OB (w wr : World) (P : Nat) (A : Int) (cv : Value) (l : List Int) : Prop where
  box : BoxN wr P 27 #[cv, .int .i64 A]
  row : wr.ownsRow (P + 1) 3 1 cv l.length (ic .i64 l)
  bel : Below w.heap.size w wr
  ge : w.heap.size ≤ P
theorem OB.keep {w wr wx : World} {P : Nat} {A : Int} {cv : Value} {l : List Int} (h : OB w wr P A cv l) (hb : Below wr.heap.size wr wx) : OB w wx P A cv l :=
  ⟨h.box.below hb, own_keep hb h.row, Below.next h.bel hb, h.ge⟩
theorem OB.app {w w5 w6 : World} {P : Nat} {A : Int} {cv : Value} {l : List Int} (h : OB w w5 P A cv l) (hb : Below (P + 1) w5 w6) {v6 : Value} {m : List Int} (hr : w6.ownsRow (P + 1) 3 1 v6 m.length (ic .i64 m)) : OB w (w6.setCell ⟨P, 0, none⟩ v6) P A v6 m := by
  have hge := h.ge
  have hk : Kx (fun k => k = P) w6 (w6.setCell ⟨P, 0, none⟩ v6) := Kx.setCell (X := fun k => k = P) (Kx.refl _ w6) (.inl rfl) _
  refine ⟨?_, hk.owns (fun k hk he => ?_) hr, ?_, hge⟩
  · have h1 : BoxN w6 P 27 #[cv, .int .i64 A] := (hb.block P (by omega)).trans h.box
    exact (heap_setCell_same w6 P 0 _ 27 v6 h1)
  · have := (hr.lt k hk).1
    omega
  · exact (h.bel.trans (hb.mono (by omega))).setCell (p := ⟨P, 0, none⟩) (by show w.heap.size ≤ P; omega) _
theorem OB.arr {w wr : World} {P : Nat} {A : Int} {cv : Value} {l : List Int} (h : OB w wr P A cv l) (s : Int) : OB w (wr.setCell ⟨P, 1, none⟩ (.int .i64 s)) P s cv l := by
  have hge := h.ge
  have hk : Kx (fun k => k = P) wr (wr.setCell ⟨P, 1, none⟩ (.int .i64 s)) := Kx.setCell (X := fun k => k = P) (Kx.refl _ wr) (.inl rfl) _
  exact ⟨heap_setCell_same wr P 1 _ 27 (.int .i64 s) h.box, hk.owns (fun k hk he => by have := (h.row.lt k hk).1; omega) h.row, h.bel.setCell (p := ⟨P, 1, none⟩) (by show w.heap.size ≤ P; omega) _, hge⟩
/-- packhorsekit.Has -/
theorem has_any (v : Value) (l : List Int) (k : Int) (w : World) (h : RdI .i64 w v l) :
    Calls Try.prog 33 #[v, .int .i64 k] w fun e w' => e = .returned (.bool (decide (k ∈ l))) ∧ w = w' := by
  obtain ⟨a0, n0, rfl⟩ := h.form
  obtain ⟨N, hN⟩ : ∃ N, l.length = N := ⟨_, rfl⟩
  have hmx := h.2.1
  unfold maxLen at hmx
  rw [hN] at h hmx ⊢
  obtain ⟨b, hbb⟩ : ∃ b, decide (k ∈ l) = b := ⟨_, rfl⟩
  rw [hbb]
  have HB := Lib.hid hbb
  have HR := Lib.hid h
  have HN := Lib.hid hN
  clear h hN hbb
  go_enter Try.func33, Try.ntmps33
  go_wp2_with fail
  go_loopw [5] (fun i wr => ∃ j : Nat, j ≤ N ∧ i = .int .i64 j ∧ w = wr ∧ Hid (∀ m, m < j → l.getD m 0 ≠ k)) (fun i _ => N - (intOf i).toNat)
  case atStart => exact ⟨0, Nat.zero_le _, rfl, rfl, Lib.hid (fun m hm => absurd hm (Nat.not_lt_zero _))⟩
  case round =>
    obtain ⟨j, hj, rfl, rfl, HJ⟩ := hrel
    by_cases hlt : j < N
    · have d2 : decide ((j : Int) < (N : Int)) = true := yb (by omega)
      obtain ⟨b1, o1, rfl, hc1, h1⟩ := HR.out.at HN.out j hlt
      obtain ⟨x, HX⟩ : ∃ x, Hid (l.getD j 0 = x) := ⟨_, rfl⟩
      rw [HX.out] at h1
      have i1 : (0 : Int) ≤ (j : Int) := by omega
      have i2 : (j : Int) < (N : Int) := by omega
      have hwk : IntKind.i64.wrap (j : Int) = (j : Int) := IntWalk.i64_in _ (by omega)
      have hwk1 : IntKind.i64.wrap ((j : Int) + 1) = (j : Int) + 1 := IntWalk.i64_in _ (by omega)
      by_cases hx : x = k
      · have d3 : (x == k) = true := by simp [hx]
        obtain rfl : b = true := by
          rw [← HB.out]
          refine yb ?_
          rw [← hx, ← HX.out, List.getD_eq_getElem?_getD, List.getElem?_eq_getElem (by rw [HN.out]; exact hlt)]
          exact List.getElem_mem _
        clear hx
        go_wp2_with fail
        go_ret
        exact ⟨rfl, rfl⟩
      · have d3 : (x == k) = false := by simp [hx]
        have HJ2 : Hid (∀ m, m < j + 1 → l.getD m 0 ≠ k) := Lib.hid (fun m hm => by
          rcases Nat.lt_succ_iff_lt_or_eq.1 hm with hm | rfl
          · exact HJ.out m hm
          · rw [HX.out]; exact hx)
        clear hx
        go_wp2_with fail
        go_roundw
        case rel => exact ⟨j + 1, by omega, by go_num, by first | trivial | rfl, HJ2⟩
        case measure => simp [intOf]; omega
    · obtain rfl : j = N := by omega
      have d2 : decide ((j : Int) < (j : Int)) = false := nb (by omega)
      obtain rfl : b = false := by
        rw [← HB.out]
        refine nb (fun hm => ?_)
        obtain ⟨i, hi, he⟩ := List.getElem_of_mem hm
        exact HJ.out i (by rw [← HN.out]; exact hi) (by rw [List.getD_eq_getElem?_getD, List.getElem?_eq_getElem hi, ← he]; rfl)
      go_wp2_with fail
      go_ret
      first | trivial | exact ⟨rfl, rfl⟩
end Go.Proofs.Ytgmfifilgbbogaa
