

/- Space: what a good space is; Check, and the reference's Check. -/
import Derived.Test.YtnbjdgjopdeolaaSB
import Derived.Lib.SmallJoins
namespace Go.Proofs.Ytnbjdgjopdeolaa
open Go.RowKit
set_option linter.unusedSimpArgs false
set_option linter.unusedVariables false
set_option maxRecDepth 100000

structure Inp (q st : Int) (xs : List Int) : Prop where
  iq : 0 ≤ q ∧ q < 18446744073709551616
  ist : 0 ≤ st ∧ st < 18446744073709551616
  ixs : Nn xs
structure Good (q st : Int) (xs : List Int) : Prop where
  gq : q ≤ 1099511627776
  gst : 0 ≤ st
  gn : xs.length = 16
  gxs : Nn xs
  gle : st + xs.sum ≤ q

theorem Good.of {q st : Int} {xs : List Int} (h : Inp q st xs) (hc : chk q st xs = 0) : Good q st xs := by
  unfold chk at hc
  by_cases h1 : 1099511627776 < q
  · rw [if_pos h1] at hc; cases hc
  · rw [if_neg h1] at hc
    by_cases h2 : xs.length ≠ 16
    · rw [if_pos h2] at hc; cases hc
    · rw [if_neg h2] at hc
      by_cases h3 : q < st + xs.sum
      · rw [if_pos h3] at hc; cases hc
      · exact ⟨by omega, h.ist.1, by omega, h.ixs, by omega⟩
theorem Good.chk {q st : Int} {xs : List Int} (h : Good q st xs) : chk q st xs = 0 := by
  obtain ⟨h1, h2, h3, h4, h5⟩ := h
  unfold Go.Proofs.Ytnbjdgjopdeolaa.chk
  rw [if_neg (by omega), if_neg (by omega), if_neg (by omega)]
theorem Good.sum {q st : Int} {xs : List Int} (h : Good q st xs) : 0 ≤ xs.sum := sum_nn h.gxs
theorem Good.tot {q st : Int} {xs : List Int} (h : Good q st xs) : tot xs = xs.sum := by
  have := h.sum; have := h.gle; have := h.gq; have := h.gst
  exact if_pos (by omega)

theorem of_yes (q st : Int) (rs : Value) (xs : List Int) (g : Good q st xs) (w : World) (h : RdI .u64 w rs xs) : Calls Try.prog 107 #[Sv q st rs] w (OfOk w q st rs xs) := by
  have := g.sum; have := g.gle; have := g.gq; have := g.gst
  exact of_ok q st rs xs g.gq ⟨g.gst, by omega⟩ g.gxs g.gn g.gle w h

theorem of_no (q st : Int) (rs : Value) (xs : List Int) (i : Inp q st xs) (er : Int) (he : chk q st xs = er) (hne : er ≠ 0) (w : World) (h : RdI .u64 w rs xs) :
    Calls Try.prog 107 #[Sv q st rs] w fun e w' => e = .returned (.tuple #[.pointer none, .int .i64 er]) ∧ Below w.heap.size w w' := by
  unfold chk at he
  by_cases h1 : 1099511627776 < q
  · rw [if_pos h1] at he; subst he
    exact of_big q st rs h1 w
  · rw [if_neg h1] at he
    by_cases h2 : xs.length ≠ 16
    · rw [if_pos h2] at he; subst he
      exact of_len q st rs xs (by omega) h2 w h
    · rw [if_neg h2] at he
      by_cases h3 : q < st + xs.sum
      · rw [if_pos h3] at he; subst he
        exact of_full q st rs xs (by omega) i.ist i.ixs (by omega) h3 w h
      · rw [if_neg h3] at he; exact absurd he.symm hne

/-- Check, whatever the space -/
theorem space_any (q st : Int) (rs : Value) (xs : List Int) (i : Inp q st xs) (er : Int) (he : chk q st xs = er) (w : World) (h : RdI .u64 w rs xs) :
    Calls Try.prog 95 #[Sv q st rs] w fun e w' => e = .returned (.int .i64 er) ∧ Below w.heap.size w w' := by
  have HR := Lib.hid h
  by_cases h0 : er = 0
  · subst h0
    have g := Good.of i he
    have G := Lib.hid g
    clear he h g
    go_enter Try.func95, Try.ntmps95
    go_wp2_with fail
    refine (of_yes q st rs xs G.out _ (HR.out.keep (by repeat (first | assumption | exact Below.refl _ _ | apply Below.al | apply below_drewN | apply Below.drew | refine Below.next ?_ (by assumption) | refine Below.st ?_ (by first | exact Nat.le_refl _ | (simp; done) | (simp; omega)) _)))).mono ?_
    rintro e w1 ⟨p, rfl, _, _, hb⟩
    go_wp2_with fail
    go_ret
    exact ⟨rfl, (by repeat (first | assumption | exact Below.refl _ _ | apply Below.al | apply below_drewN | apply Below.drew | refine Below.next ?_ (by assumption) | refine Below.st ?_ (by first | exact Nat.le_refl _ | (simp; done) | (simp; omega)) _))⟩
  · have HE := Lib.hid he
    clear he h
    go_enter Try.func95, Try.ntmps95
    go_wp2_with fail
    refine (of_no q st rs xs i er HE.out h0 _ (HR.out.keep (by repeat (first | assumption | exact Below.refl _ _ | apply Below.al | apply below_drewN | apply Below.drew | refine Below.next ?_ (by assumption) | refine Below.st ?_ (by first | exact Nat.le_refl _ | (simp; done) | (simp; omega)) _)))).mono ?_
    rintro e w1 ⟨rfl, hb⟩
    go_wp2_with fail
    go_ret
    exact ⟨rfl, (by repeat (first | assumption | exact Below.refl _ _ | apply Below.al | apply below_drewN | apply Below.drew | refine Below.next ?_ (by assumption) | refine Below.st ?_ (by first | exact Nat.le_refl _ | (simp; done) | (simp; omega)) _))⟩
/-- a slice of numbers whose cells are read in a loop -/
theorem rd_cells {w : World} {v : Value} {xs : List Int} (h : RdI .u64 w v xs) (hl : xs.length = 16) : ∃ b off c, v = .slice (some ⟨b, off, none⟩) 16 c ∧ ∀ i, i < 16 → w.cell? ⟨b, off + i, none⟩ = some (.int .u64 (xs.getD i 0)) := by
  obtain ⟨hm, ⟨a0, cap0, rfl, rfl⟩ | ⟨b, off, cap, rfl, hc, hr⟩⟩ := h.cases
  · cases hl
  · exact ⟨b, off, cap, by rw [hl], fun i hi => hr i (by omega)⟩

set_option maxHeartbeats 1000000 in
theorem rcheck_aux (q st : Int) (rs : Value) (xs : List Int) (i : Inp q st xs) (er : Int) (he : chk q st xs = er) (w : World) (h : RdI .u64 w rs xs) :
    Calls Try.prog 99 #[Sv q st rs] w fun e w' => e = .returned (.int .i64 er) ∧ Below w.heap.size w w' := by
  have hq0 := i.iq; have hs0 := i.ist
  by_cases h1 : 1099511627776 < q
  · obtain rfl : er = 2 := by rw [← he]; exact if_pos h1
    have hd := yb h1
    clear he
    clear h
    go_enter Try.func99, Try.ntmps99
    go_wp2
    go_ret
    exact ⟨rfl, (by repeat (first | assumption | exact Below.refl _ _ | apply Below.al | apply below_drewN | apply Below.drew | refine Below.next ?_ (by assumption) | refine Below.st ?_ (by first | exact Nat.le_refl _ | (simp; done) | (simp; omega)) _))⟩
  have hd := nb h1
  by_cases h2 : xs.length ≠ 16
  · obtain rfl : er = 3 := by rw [← he]; unfold chk; rw [if_neg h1, if_pos h2]
    clear he
    obtain ⟨a, c, rfl⟩ := h.form
    obtain ⟨N, hN⟩ : ∃ N, xs.length = N := ⟨_, rfl⟩
    rw [hN] at h2 ⊢
    have hl2 : (((N : Nat) : Int) != 16) = true := by simp; omega
    clear h hN h2
    go_enter Try.func99, Try.ntmps99
    go_wp2
    go_ret
    exact ⟨rfl, (by repeat (first | assumption | exact Below.refl _ _ | apply Below.al | apply below_drewN | apply Below.drew | refine Below.next ?_ (by assumption) | refine Below.st ?_ (by first | exact Nat.le_refl _ | (simp; done) | (simp; omega)) _))⟩
  have h16 : xs.length = 16 := by omega
  obtain ⟨b, off, cap, rfl, hr⟩ := rd_cells h h16
  have hn := i.ixs
  have HNN := Lib.hid hn
  have H16 := Lib.hid h16
  by_cases h3 : q < st
  · obtain rfl : er = 5 := by
      have := sum_nn hn
      rw [← he]; unfold chk; rw [if_neg h1, if_neg h2, if_pos (by omega)]
    have hd3 := yb h3
    clear he
    clear h hr h2 h16
    go_enter Try.func99, Try.ntmps99
    go_wp2
    go_ret
    exact ⟨rfl, (by repeat (first | assumption | exact Below.refl _ _ | apply Below.al | apply below_drewN | apply Below.drew | refine Below.next ?_ (by assumption) | refine Below.st ?_ (by first | exact Nat.le_refl _ | (simp; done) | (simp; omega)) _))⟩
  have hd3 := nb h3
  have HE : Hid ((if q < st + xs.sum then 5 else 0) = er) := by unfold Hid; rw [← he]; unfold chk; rw [if_neg h1, if_neg h2]
  clear he
  have HR := Lib.hid hr
  clear h hr h2 h16 hn
  go_enter Try.func99, Try.ntmps99
  go_wp2
  go_loop [3, 4] (fun f i => ∃ (k : Nat) (s : Int), k ≤ 16 ∧ Hid ((xs.take k).sum = s) ∧ 0 ≤ s ∧ s ≤ q - st ∧ f = .int .u64 (q - st - s) ∧ i = .int .i64 k) (fun _ i => 16 - (intOf i).toNat)
  case atStart => exact ⟨0, 0, by omega, by simp [Hid], by omega, by omega, by simp, rfl⟩
  case round =>
    obtain ⟨k, s, hk, HS, hs1, hs2, rfl, rfl⟩ := hrel
    by_cases hlt : k < 16
    · obtain ⟨x, HX⟩ : ∃ x, Hid (xs.getD k 0 = x) := ⟨_, rfl⟩
      have hc := cell_al (.cells #[.int .u64 q, .int .u64 st, .slice (some ⟨b, off, none⟩) 16 cap] 38) (HR.out k hlt)
      rw [HX.out] at hc
      have hx := HNN.out.get k (by rw [H16.out]; exact hlt)
      rw [HX.out] at hx
      have HS2 : Hid ((xs.take (k + 1)).sum = s + x) := by unfold Hid; rw [sum_take_succ xs k (by rw [H16.out]; exact hlt), HS.out, HX.out]
      have i1 : (0 : Int) ≤ (k : Int) := by omega
      have i2 : (k : Int) < 16 := by omega
      by_cases hbig : q - st - s < x
      · obtain rfl : er = 5 := by
          have h1 := HS2.out; have h2 := sum_take_le HNN.out (k + 1)
          rw [← HE.out, if_pos (by omega)]
        have hd5 := yb hbig
        go_wp2
        go_ret
        exact ⟨rfl, (by repeat (first | assumption | exact Below.refl _ _ | apply Below.al | apply below_drewN | apply Below.drew | refine Below.next ?_ (by assumption) | refine Below.st ?_ (by first | exact Nat.le_refl _ | (simp; done) | (simp; omega)) _))⟩
      · have hd5 := nb hbig
        go_wp2
        go_round
        case rel => exact ⟨k + 1, s + x, by omega, HS2, by omega, by omega, by congr 1; omega, by go_num⟩
        case measure => simp [intOf]; omega
    · obtain rfl : er = 0 := by
        have h1 := HS.out
        rw [show k = xs.length by rw [H16.out]; omega, List.take_length] at h1
        rw [← HE.out, if_neg (by omega)]
      go_wp2
      go_ret
      exact ⟨rfl, (by repeat (first | assumption | exact Below.refl _ _ | apply Below.al | apply below_drewN | apply Below.drew | refine Below.next ?_ (by assumption) | refine Below.st ?_ (by first | exact Nat.le_refl _ | (simp; done) | (simp; omega)) _))⟩

theorem rcheck_any (q st : Int) (rs : Value) (xs : List Int) (i : Inp q st xs) (w : World) (h : RdI .u64 w rs xs) :
    Calls Try.prog 99 #[Sv q st rs] w fun e w' => e = .returned (.int .i64 (chk q st xs)) ∧ Below w.heap.size w w' := rcheck_aux q st rs xs i _ rfl w h

end Go.Proofs.Ytnbjdgjopdeolaa
