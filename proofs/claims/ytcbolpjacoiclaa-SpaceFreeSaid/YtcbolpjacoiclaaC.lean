
/- Space: held, free, space, at, take. -/
import Derived.Test.YtcbolpjacoiclaaB
namespace Go.Proofs.Ytcbolpjacoiclaa
open Go.RowKit

theorem wrapU (n : Int) (h : 0 ≤ n ∧ n < 18446744073709551616) : IntKind.u64.wrap n = n := IntWalk.u64_in n (by omega)
/-- the cell of a result that has just been laid -/
abbrev RC (w : World) (b : Nat) : Prop := w.cell? ⟨b, 0, none⟩ = some (.int .u64 0) ∧ w.cell? ⟨b, 1, none⟩ = some (.int .u64 0) ∧ w.cell? ⟨b, 2, none⟩ = some (.slice none 0 0) ∧ w.frozen? ⟨b, 0, none⟩ = false ∧ w.frozen? ⟨b, 1, none⟩ = false ∧ w.frozen? ⟨b, 2, none⟩ = false
theorem RC.keep {W w1 : World} {b : Nat} (hb : Below W.heap.size W w1) (h : RC W b) : RC w1 b := by
  have hl : b < W.heap.size := cell_lt h.1
  exact ⟨cell_later hb h.1, cell_later hb h.2.1, cell_later hb h.2.2.1, fz_later hb hl h.2.2.2.1, fz_later hb hl h.2.2.2.2.1, fz_later hb hl h.2.2.2.2.2⟩
theorem RC.set {w : World} {b : Nat} {p : Addr} (u : Value) (hne : b ≠ p.block) (h : RC w b) : RC (w.setCell p u) b :=
  ⟨cell_set u hne h.1, cell_set u hne h.2.1, cell_set u hne h.2.2.1, fz_set u h.2.2.2.1, fz_set u h.2.2.2.2.1, fz_set u h.2.2.2.2.2⟩
structure Inp (q st : Int) (xs : List Int) : Prop where
  iq : 0 ≤ q ∧ q < 18446744073709551616
  ist : 0 ≤ st ∧ st < 18446744073709551616
  ixs : Nn xs
structure Good (q st : Int) (xs : List Int) : Prop where
  gq : q ≤ 1099511627776
  gst : 0 ≤ st
  gn : xs.length = 16
  gxs : Nn xs
  gle : st + xs.sum ≤ q

theorem Good.of {q st : Int} {xs : List Int} (h : Inp q st xs) (hc : chk q st xs = 0) : Good q st xs := by
  unfold chk at hc
  by_cases h1 : 1099511627776 < q
  · rw [if_pos h1] at hc; cases hc
  · rw [if_neg h1] at hc
    by_cases h2 : xs.length ≠ 16
    · rw [if_pos h2] at hc; cases hc
    · rw [if_neg h2] at hc
      by_cases h3 : q < st + xs.sum
      · rw [if_pos h3] at hc; cases hc
      · exact ⟨by omega, h.ist.1, by omega, h.ixs, by omega⟩
theorem Good.chk {q st : Int} {xs : List Int} (h : Good q st xs) : chk q st xs = 0 := by
  obtain ⟨h1, h2, h3, h4, h5⟩ := h
  unfold Go.Proofs.Ytcbolpjacoiclaa.chk
  rw [if_neg (by omega), if_neg (by omega), if_neg (by omega)]
theorem Good.sum {q st : Int} {xs : List Int} (h : Good q st xs) : 0 ≤ xs.sum := sum_nn h.gxs
theorem Good.tot {q st : Int} {xs : List Int} (h : Good q st xs) : tot xs = xs.sum := by
  have := h.sum; have := h.gle; have := h.gq; have := h.gst
  exact if_pos (by omega)

theorem of_yes (q st : Int) (rs : Value) (xs : List Int) (g : Good q st xs) (w : World) (h : RdI .u64 w rs xs) : Calls Try.prog 35 #[Sv q st rs] w (OfOk w q st rs xs) := by
  have := g.sum; have := g.gle; have := g.gq; have := g.gst
  exact of_ok q st rs xs g.gq ⟨g.gst, by omega⟩ g.gxs g.gn g.gle w h

theorem of_no (q st : Int) (rs : Value) (xs : List Int) (i : Inp q st xs) (er : Int) (he : chk q st xs = er) (hne : er ≠ 0) (w : World) (h : RdI .u64 w rs xs) :
    Calls Try.prog 35 #[Sv q st rs] w fun e w' => e = .returned (.tuple #[.pointer none, .int .i64 er]) ∧ Below w.heap.size w w' := by
  unfold chk at he
  by_cases h1 : 1099511627776 < q
  · rw [if_pos h1] at he; subst he
    exact of_big q st rs h1 w
  · rw [if_neg h1] at he
    by_cases h2 : xs.length ≠ 16
    · rw [if_pos h2] at he; subst he
      exact of_len q st rs xs (by omega) h2 w h
    · rw [if_neg h2] at he
      by_cases h3 : q < st + xs.sum
      · rw [if_pos h3] at he; subst he
        exact of_full q st rs xs (by omega) i.ist i.ixs (by omega) h3 w h
      · rw [if_neg h3] at he; exact absurd he.symm hne

theorem held_any (p : Nat) (q st : Int) (rs : Value) (xs : List Int) (hn : Nn xs) (w : World) (h : Acc w p q st rs xs) :
    Calls Try.prog 37 #[.pointer (some ⟨p, 0, none⟩)] w fun e w' => e = .returned (.int .u64 (tot xs)) ∧ w' = w := by
  have HA := Lib.hid h
  clear h
  go_enter Try.func37, Try.ntmps37
  go_wp2_with (go_at_call 46; refine (total_any _ xs hn _ HA.out.rd).mono ?_; rintro e w4 ⟨rfl, rfl⟩)
  go_ret
  exact ⟨rfl, rfl⟩

theorem free_any (p : Nat) (q st : Int) (rs : Value) (xs : List Int) (g : Good q st xs) (w : World) (h : Acc w p q st rs xs) :
    Calls Try.prog 36 #[.pointer (some ⟨p, 0, none⟩)] w fun e w' => e = .returned (.int .u64 (q - st - xs.sum)) ∧ Below w.heap.size w w' := by
  have c0 := h.c0
  have c1 := h.c1
  have HA := Lib.hid h
  have HG := Lib.hid g
  have b0 := g.sum; have b1 := g.gle; have b2 := g.gq; have b3 := g.gst
  have HT := Lib.hid g.tot
  clear h g
  go_enter Try.func36, Try.ntmps36
  go_wp2
  go_quiet ((go_at_call 37; exact Calls.quiet_of_same (held_any p q st rs xs HG.out.gxs _ HA.out)))
  go_wp2
  go_ret
  refine ⟨?_, below_drewN (Below.refl _ _) _⟩
  show Ending.returned (.int .u64 (IntKind.u64.wrap (q - st - tot xs))) = _
  rw [HT.out, wrapU (q - st - xs.sum) (by omega)]

def SpRes (w : World) (q st : Int) (xs : List Int) (er : Int) (e : Ending) (w' : World) : Prop :=
  ∃ v, e = .returned (.tuple #[Sv q st v, .int .i64 er]) ∧ RdI .u64 w' v xs ∧ Fresh w.heap.size v ∧ Below w.heap.size w w'

set_option maxHeartbeats 400000 in
theorem space_any (p : Nat) (q st : Int) (rs : Value) (xs : List Int) (w : World) (h : Acc w p q st rs xs) :
    Calls Try.prog 33 #[.pointer (some ⟨p, 0, none⟩)] w (SpRes w q st xs 0) := by
  have c0 := h.c0
  have c1 := h.c1
  have hl := h.1
  have HA := Lib.hid h
  have hp : p < w.heap.size := cell_lt c0
  clear h
  go_enter Try.func33, Try.ntmps33
  go_wp2
  obtain ⟨W, hW⟩ : ∃ W : World, W = ((w.alloc (.cells #[.int .u64 0, .int .u64 0, .slice none 0 0] 25)).alloc (.cells #[] 22)).drew := ⟨_, rfl⟩
  have hBW : Below w.heap.size w W := by rw [hW]; exact (by repeat (first | assumption | exact Below.refl _ _ | apply Below.al | apply below_drewN | apply Below.drew | refine Below.next ?_ (by assumption) | refine Below.st ?_ (by first | exact Nat.le_refl _ | (simp; done) | (simp; omega)) _))
  have hown0 : W.ownsRow (w.heap.size + 1) 22 1 (.slice (some ⟨w.heap.size + 1, 0, none⟩) 0 0) 0 [] := by
    have := heap_last (w.alloc (.cells #[.int .u64 0, .int .u64 0, .slice none 0 0] 25)) (.cells #[] 22)
    rw [World.size_alloc] at this
    rw [hW]; exact owns_block _ _ 22 1 0 [] _ (Nat.le_refl _) this rfl (by decide)
  have hrd0 : RdS W 1 (.slice (some ⟨p, 3, none⟩) 16 16) 16 (ic .u64 xs) := by
    have := (HA.out.keep hBW).rd; unfold RdI at this; rwa [hl] at this
  have hR0 : W.cell? ⟨w.heap.size, 0, none⟩ = some (.int .u64 0) ∧ W.cell? ⟨w.heap.size, 1, none⟩ = some (.int .u64 0) ∧ W.cell? ⟨w.heap.size, 2, none⟩ = some (.slice none 0 0) ∧
      (∀ i, W.frozen? ⟨w.heap.size, i, none⟩ = false) ∧ W.heap.size = w.heap.size + 2 := by
    rw [hW]; simp [go_sem]
  have HW := Lib.hid hW
  clear hW
  rw [HW.out] at hown0 hrd0
  go_region_held3 (fun w' => w'.cell? ⟨p, 0, none⟩ = some (.int .u64 q) ∧ w'.cell? ⟨p, 1, none⟩ = some (.int .u64 st))
    (first | with_reducible exact ⟨c0, c1⟩ | with_reducible exact ⟨cell_drew c0, cell_drew c1⟩ | with_reducible exact ⟨cell_drew (cell_al _ c0), cell_drew (cell_al _ c1)⟩ | with_reducible exact ⟨cell_drew (cell_al _ (cell_al _ c0)), cell_drew (cell_al _ (cell_al _ c1))⟩ | with_reducible exact ⟨cell_set3 _ _ _ hn0 hn0 hn0 c0, cell_set3 _ _ _ hn0 hn0 hn0 c1⟩)
    (first
      | (refine wp_app (.tmp 14) (.tmp 18) 23 rfl (w.heap.size + 1) 22 (.int .u64 0) 1 8 E22 _ 0 [] rfl hown0 _ 16 (ic .u64 xs) rfl hrd0 (ic_one _ _) (by decide) (by decide) (by simp) ?_; intro a3 c3 w3 hown3 hg3 hb3; rw [← HW.out] at hb3; have c0 := cell_later (hBW.trans (hb3.mono (Nat.le_succ _))) c0; have c1 := cell_later (hBW.trans (hb3.mono (Nat.le_succ _))) c1; have r0 := (hb3.cell (p := ⟨w.heap.size, 0, none⟩) (Nat.lt_succ_self _)).trans hR0.1; have r1 := (hb3.cell (p := ⟨w.heap.size, 1, none⟩) (Nat.lt_succ_self _)).trans hR0.2.1; have r2 := (hb3.cell (p := ⟨w.heap.size, 2, none⟩) (Nat.lt_succ_self _)).trans hR0.2.2.1; have f0 := (hb3.frozen (p := ⟨w.heap.size, 0, none⟩) (Nat.lt_succ_self _)).trans (hR0.2.2.2.1 0); have f1 := (hb3.frozen (p := ⟨w.heap.size, 1, none⟩) (Nat.lt_succ_self _)).trans (hR0.2.2.2.1 1); have f2 := (hb3.frozen (p := ⟨w.heap.size, 2, none⟩) (Nat.lt_succ_self _)).trans (hR0.2.2.2.1 2); have hn0 : p ≠ w.heap.size := by omega))
  go_wp2
  have hB5 : Below w.heap.size w w3 := hBW.trans (hb3.mono (Nat.le_succ _))
  have hO : World.ownsRow (((w3.setCell ⟨w.heap.size, 0, none⟩ (.int .u64 q)).setCell ⟨w.heap.size, 1, none⟩ (.int .u64 st)).setCell ⟨w.heap.size, 2, none⟩ (.slice a3 16 c3)) (w.heap.size + 1) 22 1 (.slice a3 16 c3) 16 (ic .u64 xs) :=
    ownsRow_setCell_below (ownsRow_setCell_below (ownsRow_setCell_below hown3 (Nat.lt_succ_self _) _) (Nat.lt_succ_self _) _) (Nat.lt_succ_self _) _
  have hv : SpRes w q st xs 0 (.returned (.tuple #[Sv q st (.slice a3 16 c3), .int .i64 0])) (((w3.setCell ⟨w.heap.size, 0, none⟩ (.int .u64 q)).setCell ⟨w.heap.size, 1, none⟩ (.int .u64 st)).setCell ⟨w.heap.size, 2, none⟩ (.slice a3 16 c3)) := by
    refine ⟨_, rfl, ?_, (Fresh.of_owns hO).mono (Nat.le_succ _), ?_⟩
    · have := RdS.of_owns hO (by decide)
      unfold RdI; rw [hl]; exact this
    · exact Below.st (Below.st (Below.st hB5 (Nat.le_refl _) _) (Nat.le_refl _) _) (Nat.le_refl _) _
  refine bodyPost_ret (v := .tuple #[Sv q st (.slice a3 16 c3), .int .i64 0]) ?_ rfl ?_
  · simp [results, Try.results33, go_sem, r0, r1, r2]
  · with_reducible exact hv

end Go.Proofs.Ytcbolpjacoiclaa
