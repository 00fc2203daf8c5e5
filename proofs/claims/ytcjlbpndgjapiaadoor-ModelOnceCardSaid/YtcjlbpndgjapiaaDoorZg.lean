/- Bundles sought by ID, in the program; fateOf. fateOf, Copies, Holders, in the program. Copies, Holders, in the program. -/
import Derived.Test.YtcjlbpndgjapiaaDoorZf
import Derived.Test.YtcjlbpndgjapiaaDoorPf
namespace Go.Proofs.YtcjlbpndgjapiaaDoor
open Go.RowKit
set_option linter.unusedSimpArgs false
set_option linter.unusedVariables false
set_option maxRecDepth 100000

set_option maxHeartbeats 1000000 in
theorem fo1_p (y : Bd) (b : Nat) (i : Idn) (w : World) (m0 : w.cell? ⟨b, 0, none⟩ = some (.int .i64 i.nd)) (m1 : w.cell? ⟨b, 1, none⟩ = some (.int .u64 i.sq)) (m2 : w.cell? ⟨b, 2, none⟩ = some (.int .i64 i.off)) :
    Calls Tryd.prog 68 #[y.v, .pointer (some ⟨b, 0, none⟩)] w fun e w' => e = .returned (.bool (decide (y.id = i))) ∧ Below w.heap.size w w' := by
  obtain ⟨W, hW⟩ : ∃ W : World, W = w.alloc (.cells #[.int .i64 y.id.nd, .int .u64 y.id.sq, .int .i64 y.id.off, .int .i64 y.dst, .int .i64 y.pri, .int .i64 y.born, .int .i64 y.life, .int .i64 y.tot, .string y.dat] 41) := ⟨_, rfl⟩
  have hB : Below w.heap.size w W := by rw [hW]; exact (by repeat (first | assumption | exact Below.refl _ _ | apply Below.al | apply below_drewN | apply Below.drew | refine Below.next ?_ (by assumption)))
  have bI : BoxN W w.heap.size 41 #[.int .i64 y.id.nd, .int .u64 y.id.sq, .int .i64 y.id.off, .int .i64 y.dst, .int .i64 y.pri, .int .i64 y.born, .int .i64 y.life, .int .i64 y.tot, .string y.dat] := by rw [hW]; exact BoxN.new w _ _
  have h0 : W.cell? ⟨w.heap.size, 0, none⟩ = some (.int .i64 y.id.nd) := bI.cell 0
  have h1 : W.cell? ⟨w.heap.size, 1, none⟩ = some (.int .u64 y.id.sq) := bI.cell 1
  have h2 : W.cell? ⟨w.heap.size, 2, none⟩ = some (.int .i64 y.id.off) := bI.cell 2
  have h3 : W.cell? ⟨w.heap.size, 3, none⟩ = some (.int .i64 y.dst) := bI.cell 3
  have h4 : W.cell? ⟨w.heap.size, 4, none⟩ = some (.int .i64 y.pri) := bI.cell 4
  have h5 : W.cell? ⟨w.heap.size, 5, none⟩ = some (.int .i64 y.born) := bI.cell 5
  have h6 : W.cell? ⟨w.heap.size, 6, none⟩ = some (.int .i64 y.life) := bI.cell 6
  have h7 : W.cell? ⟨w.heap.size, 7, none⟩ = some (.int .i64 y.tot) := bI.cell 7
  have h8 : W.cell? ⟨w.heap.size, 8, none⟩ = some (.string y.dat) := bI.cell 8
  clear bI
  have n0 := cell_later hB m0
  have n1 := cell_later hB m1
  have n2 := cell_later hB m2
  have HB := Lib.hid hB
  obtain ⟨Q, hQ⟩ : ∃ Q, w.heap.size = Q := ⟨_, rfl⟩
  have HQ := Lib.hid hQ
  rw [hQ] at h0 h1 h2
  clear hB hQ h3 h4 h5 h6 h7 h8 m0 m1 m2
  obtain ⟨r, hr⟩ : ∃ r, decide (y.id = i) = r := ⟨_, rfl⟩
  rw [hr]
  go_enter Tryd.func68, Tryd.ntmps68
  go_upto_region 1 with fail
  rw [← hW, HQ.out]
  clear hW
  by_cases hid : y.id = i
  · obtain ⟨e1, e2, e3⟩ := id_eq hid
    obtain rfl : r = true := by rw [← hr]; exact yb hid
    clear hid hr
    go_wp2_with fail
    try (go_quiet (fail); go_wp2_with fail)
    go_ret
    exact ⟨rfl, by first | exact HB.out | exact below_drewN HB.out _⟩
  · have hne := id_ne hid
    obtain rfl : r = false := by rw [← hr]; exact nb hid
    clear hid hr
    rcases hne with e1 | ⟨e1, e2⟩ | ⟨e1, e2, e3⟩
    all_goals
      go_wp2_with fail
      try (go_quiet (fail); go_wp2_with fail)
      go_ret
      exact ⟨rfl, by first | exact HB.out | exact below_drewN HB.out _⟩
set_option maxHeartbeats 1000000 in
theorem fo1_ix (v : Value) (ws : List Bd) (b : Nat) (i : Idn) (w : World) (m0 : w.cell? ⟨b, 0, none⟩ = some (.int .i64 i.nd)) (m1 : w.cell? ⟨b, 1, none⟩ = some (.int .u64 i.sq)) (m2 : w.cell? ⟨b, 2, none⟩ = some (.int .i64 i.off)) (h : RdB w v ws) :
    Calls Tryd.prog 72 #[v, .func (.func 68) #[] #[.pointer (some ⟨b, 0, none⟩)]] w fun e w' => (∃ r : Int, e = .returned (.int .i64 r) ∧ SrI ws i ws.length r) ∧ Below w.heap.size w w' := by
  obtain ⟨a0, n0, rfl⟩ := h.form
  have hmx := h.2.1
  unfold maxLen at hmx
  obtain ⟨N, hN⟩ : ∃ N, ws.length = N := ⟨_, rfl⟩
  rw [hN] at h hmx ⊢
  have HN := Lib.hid hN
  have HR := Lib.hid h
  clear hN h
  go_enter Tryd.func72, Tryd.ntmps72
  go_wp2_with fail
  go_loopw [8] (fun i' wr => ∃ k : Nat, k ≤ N ∧ i' = .int .i64 k ∧ Below w.heap.size w wr ∧ Hid (∀ j, j < k → (gb ws j).id ≠ i)) (fun i' _ => N - (intOf i').toNat)
  case atStart => exact ⟨0, Nat.zero_le _, rfl, Below.refl _ _, Lib.hid fun j hj => absurd hj (Nat.not_lt_zero _)⟩
  case round =>
    obtain ⟨k, hkN, rfl, hB, HZ⟩ := hrel
    by_cases hlt : k < N
    · have d2 : decide ((k : Int) < (N : Int)) = true := yb (by omega)
      obtain ⟨b1, o1, rfl, hc1, g0, g1, g2, g3, g4, g5, g6, g7, g8⟩ := RdB.at (HR.out.keep hB) HN.out k hlt
      obtain ⟨y, HY⟩ : ∃ y, Hid (gb ws k = y) := ⟨_, Lib.hid rfl⟩
      rw [HY.out] at g0 g1 g2 g3 g4 g5 g6 g7 g8
      have i1 : (0 : Int) ≤ (k : Int) := by omega
      have i2 : (k : Int) < (N : Int) := by omega
      have hwk : IntKind.i64.wrap (k : Int) = (k : Int) := IntWalk.i64_in _ (by omega)
      have hP := fo1_p y b i wr (cell_later hB m0) (cell_later hB m1) (cell_later hB m2)
      by_cases hs : y.id = i
      · rw [yb hs] at hP
        have HPP := Lib.hid hP
        have HS : Hid (SrI ws i N k) := Lib.hid (.inr ⟨k, hlt, by rw [HY.out]; exact hs, rfl⟩)
        clear hP hs m0 m1 m2
        go_wp2_with fail
        refine HPP.out.mono ?_
        rintro e w1 ⟨rfl, hb1⟩
        have hB1 := Below.next hB hb1
        clear hb1
        go_wp2_with fail
        go_ret
        exact ⟨⟨_, rfl, HS.out⟩, hB1⟩
      · rw [nb hs] at hP
        have HPP := Lib.hid hP
        have HS := Lib.hid hs
        clear hP hs
        have M0 := Lib.hid m0
        have M1 := Lib.hid m1
        have M2 := Lib.hid m2
        clear m0 m1 m2
        go_wp2_with fail
        refine HPP.out.mono ?_
        rintro e w1 ⟨rfl, hb1⟩
        have hB1 := Below.next hB hb1
        clear hb1
        go_wp2_with fail
        go_roundw
        case rel => exact ⟨k + 1, by omega, by go_num, hB1, Lib.hid fun j hj => by
          rcases Nat.lt_succ_iff_lt_or_eq.1 hj with hj | rfl
          · exact HZ.out j hj
          · rw [HY.out]; exact HS.out⟩
        case measure => simp [intOf]; omega
    · obtain rfl : k = N := by omega
      have d2 : decide ((k : Int) < (k : Int)) = false := nb (by omega)
      have HS : Hid (SrI ws i k (-1)) := Lib.hid (.inl ⟨rfl, HZ.out⟩)
      clear m0 m1 m2
      go_wp2_with fail
      go_ret
      exact ⟨⟨_, rfl, HS.out⟩, hB⟩
set_option maxHeartbeats 1000000 in
theorem th2_p (y : Bd) (b : Nat) (i : Idn) (w : World) (m0 : w.cell? ⟨b, 0, none⟩ = some (.int .i64 i.nd)) (m1 : w.cell? ⟨b, 1, none⟩ = some (.int .u64 i.sq)) (m2 : w.cell? ⟨b, 2, none⟩ = some (.int .i64 i.off)) :
    Calls Tryd.prog 73 #[y.v, .pointer (some ⟨b, 0, none⟩)] w fun e w' => e = .returned (.bool (decide (y.id = i))) ∧ Below w.heap.size w w' := by
  obtain ⟨W, hW⟩ : ∃ W : World, W = w.alloc (.cells #[.int .i64 y.id.nd, .int .u64 y.id.sq, .int .i64 y.id.off, .int .i64 y.dst, .int .i64 y.pri, .int .i64 y.born, .int .i64 y.life, .int .i64 y.tot, .string y.dat] 41) := ⟨_, rfl⟩
  have hB : Below w.heap.size w W := by rw [hW]; exact (by repeat (first | assumption | exact Below.refl _ _ | apply Below.al | apply below_drewN | apply Below.drew | refine Below.next ?_ (by assumption)))
  have bI : BoxN W w.heap.size 41 #[.int .i64 y.id.nd, .int .u64 y.id.sq, .int .i64 y.id.off, .int .i64 y.dst, .int .i64 y.pri, .int .i64 y.born, .int .i64 y.life, .int .i64 y.tot, .string y.dat] := by rw [hW]; exact BoxN.new w _ _
  have h0 : W.cell? ⟨w.heap.size, 0, none⟩ = some (.int .i64 y.id.nd) := bI.cell 0
  have h1 : W.cell? ⟨w.heap.size, 1, none⟩ = some (.int .u64 y.id.sq) := bI.cell 1
  have h2 : W.cell? ⟨w.heap.size, 2, none⟩ = some (.int .i64 y.id.off) := bI.cell 2
  have h3 : W.cell? ⟨w.heap.size, 3, none⟩ = some (.int .i64 y.dst) := bI.cell 3
  have h4 : W.cell? ⟨w.heap.size, 4, none⟩ = some (.int .i64 y.pri) := bI.cell 4
  have h5 : W.cell? ⟨w.heap.size, 5, none⟩ = some (.int .i64 y.born) := bI.cell 5
  have h6 : W.cell? ⟨w.heap.size, 6, none⟩ = some (.int .i64 y.life) := bI.cell 6
  have h7 : W.cell? ⟨w.heap.size, 7, none⟩ = some (.int .i64 y.tot) := bI.cell 7
  have h8 : W.cell? ⟨w.heap.size, 8, none⟩ = some (.string y.dat) := bI.cell 8
  clear bI
  have n0 := cell_later hB m0
  have n1 := cell_later hB m1
  have n2 := cell_later hB m2
  have HB := Lib.hid hB
  obtain ⟨Q, hQ⟩ : ∃ Q, w.heap.size = Q := ⟨_, rfl⟩
  have HQ := Lib.hid hQ
  rw [hQ] at h0 h1 h2
  clear hB hQ h3 h4 h5 h6 h7 h8 m0 m1 m2
  obtain ⟨r, hr⟩ : ∃ r, decide (y.id = i) = r := ⟨_, rfl⟩
  rw [hr]
  go_enter Tryd.func73, Tryd.ntmps73
  go_upto_region 1 with fail
  rw [← hW, HQ.out]
  clear hW
  by_cases hid : y.id = i
  · obtain ⟨e1, e2, e3⟩ := id_eq hid
    obtain rfl : r = true := by rw [← hr]; exact yb hid
    clear hid hr
    go_wp2_with fail
    try (go_quiet (fail); go_wp2_with fail)
    go_ret
    exact ⟨rfl, by first | exact HB.out | exact below_drewN HB.out _⟩
  · have hne := id_ne hid
    obtain rfl : r = false := by rw [← hr]; exact nb hid
    clear hid hr
    rcases hne with e1 | ⟨e1, e2⟩ | ⟨e1, e2, e3⟩
    all_goals
      go_wp2_with fail
      try (go_quiet (fail); go_wp2_with fail)
      go_ret
      exact ⟨rfl, by first | exact HB.out | exact below_drewN HB.out _⟩
set_option maxHeartbeats 1000000 in
theorem th2_ix (v : Value) (ws : List Bd) (b : Nat) (i : Idn) (w : World) (m0 : w.cell? ⟨b, 0, none⟩ = some (.int .i64 i.nd)) (m1 : w.cell? ⟨b, 1, none⟩ = some (.int .u64 i.sq)) (m2 : w.cell? ⟨b, 2, none⟩ = some (.int .i64 i.off)) (h : RdB w v ws) :
    Calls Tryd.prog 72 #[v, .func (.func 73) #[] #[.pointer (some ⟨b, 0, none⟩)]] w fun e w' => (∃ r : Int, e = .returned (.int .i64 r) ∧ SrI ws i ws.length r) ∧ Below w.heap.size w w' := by
  obtain ⟨a0, n0, rfl⟩ := h.form
  have hmx := h.2.1
  unfold maxLen at hmx
  obtain ⟨N, hN⟩ : ∃ N, ws.length = N := ⟨_, rfl⟩
  rw [hN] at h hmx ⊢
  have HN := Lib.hid hN
  have HR := Lib.hid h
  clear hN h
  go_enter Tryd.func72, Tryd.ntmps72
  go_wp2_with fail
  go_loopw [8] (fun i' wr => ∃ k : Nat, k ≤ N ∧ i' = .int .i64 k ∧ Below w.heap.size w wr ∧ Hid (∀ j, j < k → (gb ws j).id ≠ i)) (fun i' _ => N - (intOf i').toNat)
  case atStart => exact ⟨0, Nat.zero_le _, rfl, Below.refl _ _, Lib.hid fun j hj => absurd hj (Nat.not_lt_zero _)⟩
  case round =>
    obtain ⟨k, hkN, rfl, hB, HZ⟩ := hrel
    by_cases hlt : k < N
    · have d2 : decide ((k : Int) < (N : Int)) = true := yb (by omega)
      obtain ⟨b1, o1, rfl, hc1, g0, g1, g2, g3, g4, g5, g6, g7, g8⟩ := RdB.at (HR.out.keep hB) HN.out k hlt
      obtain ⟨y, HY⟩ : ∃ y, Hid (gb ws k = y) := ⟨_, Lib.hid rfl⟩
      rw [HY.out] at g0 g1 g2 g3 g4 g5 g6 g7 g8
      have i1 : (0 : Int) ≤ (k : Int) := by omega
      have i2 : (k : Int) < (N : Int) := by omega
      have hwk : IntKind.i64.wrap (k : Int) = (k : Int) := IntWalk.i64_in _ (by omega)
      have hP := th2_p y b i wr (cell_later hB m0) (cell_later hB m1) (cell_later hB m2)
      by_cases hs : y.id = i
      · rw [yb hs] at hP
        have HPP := Lib.hid hP
        have HS : Hid (SrI ws i N k) := Lib.hid (.inr ⟨k, hlt, by rw [HY.out]; exact hs, rfl⟩)
        clear hP hs m0 m1 m2
        go_wp2_with fail
        refine HPP.out.mono ?_
        rintro e w1 ⟨rfl, hb1⟩
        have hB1 := Below.next hB hb1
        clear hb1
        go_wp2_with fail
        go_ret
        exact ⟨⟨_, rfl, HS.out⟩, hB1⟩
      · rw [nb hs] at hP
        have HPP := Lib.hid hP
        have HS := Lib.hid hs
        clear hP hs
        have M0 := Lib.hid m0
        have M1 := Lib.hid m1
        have M2 := Lib.hid m2
        clear m0 m1 m2
        go_wp2_with fail
        refine HPP.out.mono ?_
        rintro e w1 ⟨rfl, hb1⟩
        have hB1 := Below.next hB hb1
        clear hb1
        go_wp2_with fail
        go_roundw
        case rel => exact ⟨k + 1, by omega, by go_num, hB1, Lib.hid fun j hj => by
          rcases Nat.lt_succ_iff_lt_or_eq.1 hj with hj | rfl
          · exact HZ.out j hj
          · rw [HY.out]; exact HS.out⟩
        case measure => simp [intOf]; omega
    · obtain rfl : k = N := by omega
      have d2 : decide ((k : Int) < (k : Int)) = false := nb (by omega)
      have HS : Hid (SrI ws i k (-1)) := Lib.hid (.inl ⟨rfl, HZ.out⟩)
      clear m0 m1 m2
      go_wp2_with fail
      go_ret
      exact ⟨⟨_, rfl, HS.out⟩, hB⟩
end Go.Proofs.YtcjlbpndgjapiaaDoor
namespace Go.Proofs.YtcjlbpndgjapiaaDoor
open Go.RowKit Go.Maps
set_option linter.unusedSimpArgs false
set_option linter.unusedVariables false
set_option maxRecDepth 100000

theorem fo1_has (v : Value) (ws : List Bd) (b : Nat) (i : Idn) (hu : Uniq ws) (w : World) (m0 : w.cell? ⟨b, 0, none⟩ = some (.int .i64 i.nd)) (m1 : w.cell? ⟨b, 1, none⟩ = some (.int .u64 i.sq)) (m2 : w.cell? ⟨b, 2, none⟩ = some (.int .i64 i.off)) (h : RdB w v ws) :
    Calls Tryd.prog 67 #[v, .func (.func 68) #[] #[.pointer (some ⟨b, 0, none⟩)]] w fun e w' => e = .returned (.bool (idx ws i).isSome) ∧ Below w.heap.size w w' := by
  have HP := Lib.hid (fo1_ix v ws b i w m0 m1 m2 h)
  have HU := Lib.hid hu
  clear m0 m1 m2 h hu
  go_enter Tryd.func67, Tryd.ntmps67
  go_wp2_with fail
  refine HP.out.mono ?_
  rintro e w1 ⟨⟨x, rfl, hx⟩, hb⟩
  have HB := Lib.hid hb
  rcases SrI.end HU.out hx with ⟨rfl, h1⟩ | ⟨j, _, rfl, h1⟩
  · have HI := Lib.hid h1
    clear hx h1 hb HP
    go_wp2_with fail
    go_ret
    exact ⟨by rw [HI.out]; rfl, HB.out⟩
  · have HI := Lib.hid h1
    have d1 : decide ((j : Int) ≥ 0) = true := yb (by omega)
    have d2 : decide ((0 : Int) ≤ (j : Int)) = true := yb (by omega)
    clear hx h1 hb HP
    go_wp2_with fail
    go_ret
    exact ⟨by rw [HI.out]; rfl, HB.out⟩
theorem mf_nil (i : Idn) (w : World) : (Instr.lookup 71 (.map none) i.v false).run Tryd.prog w = .ok (.pointer none) w := by
  first
  | (go_simp; done)
  | (simp [Instr.lookup, run_underlying Tryd.underlying71]; done)
  | (simp [Instr.lookup, run_underlying Tryd.underlying71]; rfl)
  | rfl
/-- fateOf has returned -/
def OpR (w : World) (ws : List Bd) (l : List Oc) (i : Idn) (e : Ending) (w' : World) : Prop :=
  Below w.heap.size w w' ∧ ((ofE ws l i ≠ 0 ∧ ∃ v, e = .returned (.tuple #[v, .int .i64 (ofE ws l i)])) ∨ (ofE ws l i = 0 ∧ ∃ A b, e = .returned (.tuple #[.pointer (some ⟨A, 0, none⟩), .int .i64 0]) ∧ FtB w' A b (ofF ws l i) ∧ FtK (ofF ws l i) ∧ w.heap.size ≤ A))
set_option maxHeartbeats 4000000 in
theorem fateof_any (v u : Value) (ws : List Bd) (l : List Oc) (i : Idn) (hi : IdW i) (w : World) (h : Wd w v u ws l) : Calls Tryd.prog 49 #[v, u, i.v] w (OpR w ws l i) := by
  obtain ⟨W, hW⟩ : ∃ W : World, W = w.alloc (.cells #[.int .i64 i.nd, .int .u64 i.sq, .int .i64 i.off] 26) := ⟨_, rfl⟩
  have hB : Below w.heap.size w W := by rw [hW]; exact (by repeat (first | assumption | exact Below.refl _ _ | apply Below.al | apply below_drewN | apply Below.drew | refine Below.next ?_ (by assumption)))
  have bI : BoxN W w.heap.size 26 #[.int .i64 i.nd, .int .u64 i.sq, .int .i64 i.off] := by rw [hW]; exact BoxN.new w _ _
  have h0 : W.cell? ⟨w.heap.size, 0, none⟩ = some (.int .i64 i.nd) := bI.cell 0
  have h1 : W.cell? ⟨w.heap.size, 1, none⟩ = some (.int .u64 i.sq) := bI.cell 1
  have h2 : W.cell? ⟨w.heap.size, 2, none⟩ = some (.int .i64 i.off) := bI.cell 2
  clear bI
  have HH := Lib.hid (h.keep hB)
  have HC := Lib.hid (checked_any v u ws l W HH.out)
  obtain ⟨z, hz⟩ : ∃ z, chkE ws l = z := ⟨_, rfl⟩
  rw [hz] at HC
  have HZ := Lib.hid hz
  obtain ⟨Q, hQ⟩ : ∃ Q, w.heap.size = Q := ⟨_, rfl⟩
  have HQ := Lib.hid hQ
  have HB := Lib.hid hB
  have HIW := Lib.hid hi
  rw [hQ] at h0 h1 h2
  clear hz h hB hQ hi
  go_enter Tryd.func49, Tryd.ntmps49
  go_upto_region 1 with fail
  rw [← hW, HQ.out]
  clear hW
  go_wp2_with fail
  refine HC.out.mono ?_
  rintro e w1 ⟨rfl, hb1⟩
  replace HH := Lib.hid (HH.out.keep hb1)
  have k0 := cell_later hb1 h0
  have k1 := cell_later hb1 h1
  have k2 := cell_later hb1 h2
  have HB1 := Lib.hid (Below.next HB.out hb1)
  clear h0 h1 h2 hb1 HC HB
  by_cases hz0 : z = 0
  · have d1 : (z != 0) = false := by simp [hz0]
    have he : chkE ws l = 0 := by rw [HZ.out, hz0]
    have HE := Lib.hid he
    have hu := (chk_world (chkE_parts he).1).2.2
    have HU := Lib.hid hu
    have HCF := Lib.hid (fo1_has v ws Q i hu w1 k0 k1 k2 HH.out.rb)
    obtain ⟨r, hr⟩ : ∃ r, (idx ws i).isSome = r := ⟨_, rfl⟩
    rw [hr] at HCF
    have HR := Lib.hid hr
    clear hz0 he hu hr
    go_wp2_with fail
    refine HCF.out.mono ?_
    rintro e w2 ⟨rfl, hb2⟩
    replace HH := Lib.hid (HH.out.keep hb2)
    have k0 := cell_later hb2 k0
    have k1 := cell_later hb2 k1
    have k2 := cell_later hb2 k2
    have HB2 := Lib.hid (Below.next HB1.out hb2)
    clear hb2 HCF
    cases r with
    | false =>
      have HOE : Hid (ofE ws l i = 8) := Lib.hid (by
        have hx : idx ws i = none := by
          have := HR.out
          cases hx : idx ws i with
          | none => rfl
          | some j => rw [hx] at this; cases this
        unfold ofE; rw [if_neg (by rw [HE.out]; simp), if_pos hx])
      go_wp2_with fail
      go_ret2
      exact ⟨HB2.out, .inl ⟨by rw [HOE.out]; simp, _, by rw [HOE.out]; rfl⟩⟩
    | true =>
      obtain ⟨j, hj⟩ : ∃ j, idx ws i = some j := by
        have := HR.out
        cases hx : idx ws i with
        | none => rw [hx] at this; cases this
        | some j => exact ⟨j, rfl⟩
      have HJ := Lib.hid hj
      have HOE : Hid (ofE ws l i = fatE ws l) := Lib.hid (by unfold ofE; rw [if_neg (by rw [HE.out]; simp), if_neg (by rw [hj]; simp)])
      have HOF : Hid (ofF ws l i = (folW ws l).1.getD j f0) := Lib.hid (by unfold ofF; rw [hj]; rfl)
      have HFA := Lib.hid (fates_any v u ws l w2 HH.out)
      clear hj
      go_wp2_with fail
      refine HFA.out.mono ?_
      rintro e w3 ⟨hb3, hcase⟩
      have k0 := cell_later hb3 k0
      have k1 := cell_later hb3 k1
      have k2 := cell_later hb3 k2
      have HB3 := Lib.hid (Below.next HB2.out hb3)
      clear hb3 HFA
      rcases hcase with ⟨hne, rfl⟩ | ⟨he0, B, bl, rfl, hFW⟩
      · obtain ⟨z2, hz2⟩ : ∃ z2, fatE ws l = z2 := ⟨_, rfl⟩
        rw [hz2] at hne HOE ⊢
        have HNE := Lib.hid hne
        have hnil := mf_nil i w3
        clear hne hz2
        go_wp2_with fail
        go_ret2
        exact ⟨HB3.out, .inl ⟨by rw [HOE.out]; exact HNE.out, _, by rw [HOE.out]; rfl⟩⟩
      · obtain ⟨hj1, _⟩ := idx_some HJ.out
        have hlp := mf_look hFW.map HH.out.wf (by omega) HIW.out
        have hpi : pIdx ws i ws.length = idx ws i := pIdx_idx HU.out i
        rw [hpi, HJ.out] at hlp
        obtain ⟨A, hA⟩ : ∃ A, bl.getD j 0 = A := ⟨_, rfl⟩
        replace hlp : (Instr.lookup 71 (.map (some B)) i.v false).run Tryd.prog w3 = .ok (.pointer (some ⟨A, 0, none⟩)) w3 := by rw [← hA]; exact hlp
        have HX := Lib.hid (hFW.box j hj1)
        have HK := Lib.hid (hFW.ok j hj1)
        have HGE := Lib.hid (Nat.le_trans HB2.out.size (hFW.ge j hj1))
        rw [hA] at HX HGE
        have HE0 := Lib.hid he0
        clear hFW hpi hA hj1 he0
        go_wp2_with fail
        go_ret2
        exact ⟨HB3.out, .inr ⟨by rw [HOE.out, HE0.out], A, _, rfl, by rw [HOF.out]; exact HX.out, by rw [HOF.out]; exact HK.out, HGE.out⟩⟩
  · have d1 : (z != 0) = true := by simpa using hz0
    have HOE : Hid (ofE ws l i = z ∧ z ≠ 0) := Lib.hid ⟨by unfold ofE; rw [HZ.out, if_pos hz0], hz0⟩
    clear hz0
    go_wp2_with fail
    go_ret2
    exact ⟨HB1.out, .inl ⟨by rw [HOE.out.1]; exact HOE.out.2, _, by rw [HOE.out.1]; rfl⟩⟩
end Go.Proofs.YtcjlbpndgjapiaaDoor
namespace Go.Proofs.YtcjlbpndgjapiaaDoor
open Go.RowKit Go.Maps
set_option linter.unusedSimpArgs false
set_option linter.unusedVariables false
set_option maxRecDepth 100000

set_option maxHeartbeats 2000000 in
theorem copies_any (v u : Value) (ws : List Bd) (l : List Oc) (i : Idn) (hi : IdW i) (w : World) (h : Wd w v u ws l) : Calls Tryd.prog 22 #[v, u, i.v] w fun e w' => e = .returned (V2 (cpV ws l i) (ofE ws l i)) ∧ Below w.heap.size w w' := by
  obtain ⟨W, hW⟩ : ∃ W : World, W = w.alloc (.cells #[.int .i64 i.nd, .int .u64 i.sq, .int .i64 i.off] 26) := ⟨_, rfl⟩
  have hB : Below w.heap.size w W := by rw [hW]; exact (by repeat (first | assumption | exact Below.refl _ _ | apply Below.al | apply below_drewN | apply Below.drew | refine Below.next ?_ (by assumption)))
  have bI : BoxN W w.heap.size 26 #[.int .i64 i.nd, .int .u64 i.sq, .int .i64 i.off] := by rw [hW]; exact BoxN.new w _ _
  have h0 : W.cell? ⟨w.heap.size, 0, none⟩ = some (.int .i64 i.nd) := bI.cell 0
  have h1 : W.cell? ⟨w.heap.size, 1, none⟩ = some (.int .u64 i.sq) := bI.cell 1
  have h2 : W.cell? ⟨w.heap.size, 2, none⟩ = some (.int .i64 i.off) := bI.cell 2
  clear bI
  have HC := Lib.hid (fateof_any v u ws l i hi W (h.keep hB))
  obtain ⟨Q, hQ⟩ : ∃ Q, w.heap.size = Q := ⟨_, rfl⟩
  have HQ := Lib.hid hQ
  have HB := Lib.hid hB
  rw [hQ] at h0 h1 h2
  clear h hB hQ hi
  go_enter Tryd.func22, Tryd.ntmps22
  go_upto_region 1 with fail
  rw [← hW, HQ.out]
  clear hW
  go_wp2_with fail
  refine HC.out.mono ?_
  rintro e w1 ⟨hb1, hcase⟩
  have HB1 := Lib.hid (Below.next HB.out hb1)
  clear h0 h1 h2 hb1 HC HB
  rcases hcase with ⟨hne, fx, rfl⟩ | ⟨he0, A, b, rfl, hx, hk, hge⟩
  · have HV : Hid (cpV ws l i = 0) := Lib.hid (by unfold cpV; rw [if_neg hne]; rfl)
    obtain ⟨z, hz⟩ : ∃ z, ofE ws l i = z := ⟨_, rfl⟩
    rw [hz] at hne ⊢
    have HZ := Lib.hid hz
    have d1 : (z != 0) = true := by simpa using hne
    clear hne hz
    go_wp2_with fail
    go_ret2
    exact ⟨by rw [HV.out, HZ.out]; rfl, HB1.out⟩
  · have HV : Hid (cpV ws l i = (ofF ws l i).mo) := Lib.hid (by unfold cpV; rw [if_pos he0])
    have HZ := Lib.hid he0
    obtain ⟨f, hf⟩ : ∃ f, ofF ws l i = f := ⟨_, rfl⟩
    rw [hf] at hx HV
    have c13 : w1.cell? ⟨A, 13, none⟩ = some (.int .i64 (f.mo : Int)) := BoxN.cell hx 13
    clear hx hk he0 hf
    go_wp2_with fail
    go_ret2
    exact ⟨by rw [HV.out, HZ.out]; rfl, HB1.out⟩
set_option maxHeartbeats 2000000 in
theorem holders_any (v u : Value) (ws : List Bd) (l : List Oc) (i : Idn) (hi : IdW i) (w : World) (h : Wd w v u ws l) : Calls Tryd.prog 19 #[v, u, i.v] w fun e w' => ∃ x, e = .returned (.tuple #[x, .int .i64 (ofE ws l i)]) ∧ RdI .i64 w' x (hoV ws l i) ∧ Below w.heap.size w w' := by
  obtain ⟨W, hW⟩ : ∃ W : World, W = w.alloc (.cells #[.int .i64 i.nd, .int .u64 i.sq, .int .i64 i.off] 26) := ⟨_, rfl⟩
  have hB : Below w.heap.size w W := by rw [hW]; exact (by repeat (first | assumption | exact Below.refl _ _ | apply Below.al | apply below_drewN | apply Below.drew | refine Below.next ?_ (by assumption)))
  have bI : BoxN W w.heap.size 26 #[.int .i64 i.nd, .int .u64 i.sq, .int .i64 i.off] := by rw [hW]; exact BoxN.new w _ _
  have h0 : W.cell? ⟨w.heap.size, 0, none⟩ = some (.int .i64 i.nd) := bI.cell 0
  have h1 : W.cell? ⟨w.heap.size, 1, none⟩ = some (.int .u64 i.sq) := bI.cell 1
  have h2 : W.cell? ⟨w.heap.size, 2, none⟩ = some (.int .i64 i.off) := bI.cell 2
  clear bI
  have HC := Lib.hid (fateof_any v u ws l i hi W (h.keep hB))
  obtain ⟨Q, hQ⟩ : ∃ Q, w.heap.size = Q := ⟨_, rfl⟩
  have HQ := Lib.hid hQ
  have HB := Lib.hid hB
  rw [hQ] at h0 h1 h2
  clear h hB hQ hi
  go_enter Tryd.func19, Tryd.ntmps19
  go_upto_region 1 with fail
  rw [← hW, HQ.out]
  clear hW
  go_wp2_with fail
  refine HC.out.mono ?_
  rintro e w1 ⟨hb1, hcase⟩
  have HB1 := Lib.hid (Below.next HB.out hb1)
  clear h0 h1 h2 hb1 HC HB
  rcases hcase with ⟨hne, fx, rfl⟩ | ⟨he0, A, b, rfl, hx, hk, hge⟩
  · have HV : Hid (hoV ws l i = []) := Lib.hid (by unfold hoV; rw [if_neg hne])
    obtain ⟨z, hz⟩ : ∃ z, ofE ws l i = z := ⟨_, rfl⟩
    rw [hz] at hne ⊢
    have HZ := Lib.hid hz
    have d1 : (z != 0) = true := by simpa using hne
    clear hne hz
    go_wp2_with fail
    go_ret2
    exact ⟨_, by rw [HZ.out]; rfl, by rw [HV.out]; exact RdI.nil _ _, HB1.out⟩
  · have HV : Hid (hoV ws l i = holT (ofF ws l i).nw 17) := Lib.hid (by unfold hoV; rw [if_pos he0]; rfl)
    have HZ := Lib.hid he0
    obtain ⟨f, hf⟩ : ∃ f, ofF ws l i = f := ⟨_, rfl⟩
    rw [hf] at hx hk HV
    have hs := hk.nw
    have cn : w1.cell? ⟨A, 11, none⟩ = some (.int .u32 (f.nw : Int)) := BoxN.cell hx 11
    obtain ⟨s, hsn⟩ : ∃ s, f.nw = s := ⟨_, rfl⟩
    rw [hsn] at hs cn HV
    have HS := Lib.hid hs
    have HCN := Lib.hid cn
    clear hx hk he0 hf hsn hs cn
    go_wp2_with fail
    rename World => wq
    go_loopw [10, 11] (fun ov iv wr => ∃ (j : Nat) (a : Option Addr) (c : Nat), 1 ≤ j ∧ j ≤ 17 ∧ iv = .int .i64 j ∧ ov = .slice a (holT s j).length c ∧ wr.ownsRow wq.heap.size 3 1 (.slice a (holT s j).length c) (holT s j).length (ic .i64 (holT s j)) ∧ Below wq.heap.size wq wr) (fun _ iv _ => 17 - (intOf iv).toNat)
    case atStart => exact ⟨1, none, 0, Nat.le_refl _, by omega, rfl, by rw [holT_one]; rfl, by rw [holT_one]; exact ⟨rfl, .inl ⟨rfl, rfl⟩⟩, Below.refl _ _⟩
    case round =>
      obtain ⟨j, a, c, hj1, hj2, rfl, rfl, hOW, hB⟩ := hrel
      by_cases hlt : j ≤ 16
      · have d2 : decide ((j : Int) ≤ 16) = true := yb (by omega)
        have hcn := cell_later hB HCN.out
        have i1 : (0 : Int) ≤ (j : Int) := by omega
        have i2 : (j : Int) < 17 := by omega
        have hwj : IntKind.i64.wrap (j : Int) = (j : Int) := IntWalk.i64_in _ (by omega)
        have hwj1 : IntKind.i64.wrap ((j : Int) + 1) = (j : Int) + 1 := IntWalk.i64_in _ (by omega)
        have hsc := holT_succ s j
        have hll := holT_len s j
        obtain ⟨L, hL⟩ : ∃ L, holT s j = L := ⟨_, rfl⟩
        rw [hL] at hsc hll hOW ⊢
        have HSC := Lib.hid hsc
        have HLL := Lib.hid hll
        have HOW := Lib.hid hOW
        have HB := Lib.hid hB
        have HJ := Lib.hid hj1
        have HJ2 := Lib.hid hlt
        have hha := has_any s HS.out (j : Int) (by omega) wr
        rw [Int.toNat_natCast] at hha
        obtain ⟨r, hr⟩ : ∃ r, s.testBit j = r := ⟨_, rfl⟩
        rw [hr] at hha
        have HR := Lib.hid hr
        have HHA := Lib.hid hha
        clear hsc hll hOW hB hL hj1 hj2 hha hr
        go_wp2_with fail
        refine HHA.out.mono ?_
        rintro e w2 ⟨rfl, rfl⟩
        clear HHA hcn
        cases r with
        | true =>
          have HE : Hid (holT s (j + 1) = L ++ [(j : Int)]) := Lib.hid (by rw [HSC.out, HR.out, if_pos (by simp; exact HJ.out)])
          clear HSC hlt
          go_wp2_with (at_builtin; refine wpList_app rfl (.tmp 32) (.tmp 34) 43 rfl wq.heap.size 3 (.int .i64 0) 1 8 EIn _ _ _ rfl (HOW.out.alloc _) _ 1 [.int .i64 (j : Int)] rfl (rds_one _ _ _) (by simp [Value.oneCell']) ?c1 ?c2 ?c3 ?_)
          case c1 => have := HLL.out; have := HJ2.out; unfold maxLen; omega
          case c2 => have := HLL.out; have := HJ2.out; omega
          case c3 => have := HB.out.size; simp; omega
          intro a3 c3 w3 hown3 hg3 hb3
          have hown3 : w3.ownsRow wq.heap.size 3 1 (.slice a3 (L.length + 1) c3) (L.length + 1) (ic .i64 L ++ [.int .i64 (j : Int)]) := by with_reducible exact hown3
          have HB5 : Hid (Below wq.heap.size wq w3) := Lib.hid ((Below.al HB.out _).trans hb3)
          have HOW3 := Lib.hid hown3
          clear hown3 hg3 hb3 HOW HB
          go_wp2_with fail
          go_roundw
          case rel => exact ⟨j + 1, a3, c3, by omega, by have := HJ2.out; omega, by go_num, by rw [HE.out, List.length_append]; rfl, by rw [HE.out, List.length_append, ic_append]; exact HOW3.out, HB5.out⟩
          case measure => simp [intOf]; have := HJ2.out; omega
        | false =>
          have HE : Hid (holT s (j + 1) = L) := Lib.hid (by rw [HSC.out, HR.out, if_neg (by simp), List.append_nil])
          clear HSC hlt
          go_wp2_with fail
          go_roundw
          case rel => exact ⟨j + 1, a, c, by omega, by have := HJ2.out; omega, by go_num, by rw [HE.out], by rw [HE.out]; exact HOW.out, HB.out⟩
          case measure => simp [intOf]; have := HJ2.out; omega
      · obtain rfl : j = 17 := by omega
        have d2 : decide ((17 : Int) ≤ 16) = false := by decide
        have HOW := Lib.hid hOW
        have HB := Lib.hid hB
        clear hOW hB
        go_wp2_with fail
        go_ret2
        exact ⟨_, by rw [HZ.out]; rfl, by rw [HV.out]; exact RdS.of_owns HOW.out (by decide), Below.next HB1.out HB.out⟩
end Go.Proofs.YtcjlbpndgjapiaaDoor
