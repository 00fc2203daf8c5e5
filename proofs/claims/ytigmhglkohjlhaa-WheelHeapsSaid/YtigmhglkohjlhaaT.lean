


/- Timers: the program makes a heap. -/
import Derived.Test.YtigmhglkohjlhaaSp
namespace Go.Proofs.Ytigmhglkohjlhaa
open Go.RowKit
set_option linter.unusedSimpArgs false
set_option linter.unusedVariables false
set_option maxRecDepth 100000

set_option maxHeartbeats 4000000 in
theorem make_any (v : Value) (l : List Tm) (hl : l.length ≤ 1000000) (w : World) (h : RdM w v l) : Calls Try.prog 12 #[v] w (LE w (mkL l)) := by
  obtain ⟨a0, n0, rfl⟩ := h.form
  obtain ⟨N, hN⟩ : ∃ N, l.length = N := ⟨_, rfl⟩
  have HR := Lib.hid (show RdM w (.slice a0 N n0) l by rw [hN] at h; exact h)
  have HN := Lib.hid hN
  obtain ⟨R, hRr⟩ : ∃ R, mkL l = R := ⟨_, rfl⟩
  have HRR := Lib.hid (show mkF l N = R by rw [← hN]; exact hRr)
  rw [hN] at hl
  rw [hN, hRr]
  clear hN h hRr
  obtain ⟨W, hW⟩ : ∃ W : World, W = (w.alloc (.cells #[] 41)).alloc (.cells #[.slice (some ⟨w.heap.size, 0, none⟩) 0 0] 53) := ⟨_, rfl⟩
  have hB : Below w.heap.size w W := by rw [hW]; exact (by repeat (first | assumption | exact Below.refl _ _ | apply Below.al | apply below_drewN | apply Below.drew | refine Below.next ?_ (by assumption)))
  have hT : TM W w.heap.size (w.heap.size + 1) (.slice (some ⟨w.heap.size, 0, none⟩) 0 0) [] := by
    refine ⟨?_, ?_, by simp, Nat.le_succ _⟩
    · rw [hW]
      have := BoxN.new (w.alloc (.cells #[] 41)) 53 #[.slice (some ⟨w.heap.size, 0, none⟩) 0 0]
      simpa using this
    · rw [hW]
      exact OwM.keep (owns_block (w.alloc (.cells #[] 41)) _ 41 5 0 [] _ (Nat.le_refl _) (heap_last w _) rfl (by decide)) (Below.al (Below.refl _ _) _)
  have HT := Lib.hid hT
  clear hT
  go_enter Try.func12, Try.ntmps12
  go_upto_region 2 with fail
  rw [← hW]
  clear hW
  go_upto_region 3 with fail
  go_loopw [12] (fun i wr => ∃ (k : Nat) (L : List Tm) (u : Value), k ≤ N ∧ i = .int .i64 k ∧ TM wr w.heap.size (w.heap.size + 1) u L ∧ mkF l k = (L, 0) ∧ Below w.heap.size w wr) (fun i _ => N - (intOf i).toNat)
  case atStart => exact ⟨0, [], _, Nat.zero_le _, rfl, HT.out, rfl, hB⟩
  case round =>
    obtain ⟨k, L, u, hk, rfl, hT, hmk, hB⟩ := hrel
    have HT := Lib.hid hT
    have HMK := Lib.hid hmk
    have HG := Lib.hid (show Good L by have := mkF_good l k; rwa [hmk] at this)
    clear hT hmk
    by_cases hlt : k < N
    · have d2 : decide ((k : Int) < (N : Int)) = true := yb (by omega)
      obtain ⟨b1, o1, rfl, hc1, g0, g1, g2, g3, g4⟩ := RdM.at (HR.out.keep hB) HN.out k hlt
      obtain ⟨t, HT2⟩ : ∃ y, Hid (g l k = y) := ⟨_, rfl⟩
      rw [HT2.out] at g0 g1 g2 g3 g4
      have n1 : (0 : Int) ≤ (k : Int) := by omega
      have n2 : (k : Int) < (N : Int) := by omega
      have hwk : IntKind.i64.wrap (k : Int) = (k : Int) := IntWalk.i64_in _ (by omega)
      have hmk1 : mkF l (k + 1) = addW L t := by
        rw [add_good HG.out]
        show (if (mkF l k).2 ≠ 0 then _ else if putE (mkF l k).1 (g l k) ≠ 0 then _ else _) = _
        rw [HMK.out, HT2.out, if_neg (by simp)]
      rw [add_good HG.out] at hmk1
      obtain ⟨E, hE⟩ : ∃ E, putE L t = E := ⟨_, rfl⟩
      rw [hE] at hmk1
      have HE := Lib.hid hE
      have HMK1 := Lib.hid hmk1
      clear hmk1 hE
      rename World => wr
      obtain ⟨X, hX⟩ : ∃ X : World, X = wr.alloc (.cells #[.int .i64 t.tk, .int .i64 t.kd, .int .i64 t.nd, .int .u64 t.sq, .int .i64 t.of] 41) := ⟨_, rfl⟩
      have hbx : Below wr.heap.size wr X := by rw [hX]; exact (by repeat (first | assumption | exact Below.refl _ _ | apply Below.al | apply below_drewN | apply Below.drew | refine Below.next ?_ (by assumption)))
      have bT : BoxN X wr.heap.size 41 #[.int .i64 t.tk, .int .i64 t.kd, .int .i64 t.nd, .int .u64 t.sq, .int .i64 t.of] := by rw [hX]; exact BoxN.new _ _ _
      have HTX := Lib.hid (HT.out.keep hbx)
      have hBX := Below.next hB hbx
      go_upto_region 5 with fail
      rw [← hX]
      clear hX g0 g1 g2 g3 g4 HT
      have c0 : X.cell? ⟨wr.heap.size, 0, none⟩ = some (.int .i64 t.tk) := (bT.cell 0).trans rfl
      have c1 : X.cell? ⟨wr.heap.size, 1, none⟩ = some (.int .i64 t.kd) := (bT.cell 1).trans rfl
      have c2 : X.cell? ⟨wr.heap.size, 2, none⟩ = some (.int .i64 t.nd) := (bT.cell 2).trans rfl
      have c3 : X.cell? ⟨wr.heap.size, 3, none⟩ = some (.int .u64 t.sq) := (bT.cell 3).trans rfl
      have c4 : X.cell? ⟨wr.heap.size, 4, none⟩ = some (.int .i64 t.of) := (bT.cell 4).trans rfl
      go_wp2_with fail
      refine (put_any _ _ _ u L t (HG.out.1) HTX.out).mono ?_
      rw [HE.out]
      rintro e w2 ⟨rfl, v2, hT2, hR2⟩
      have hB2 := hBX.trans (hR2.below HTX.out)
      have HT3 := Lib.hid hT2
      clear hT2 hR2 hbx bT c0 c1 c2 c3 c4
      by_cases he : E = 0
      · subst he
        have HT4 := Lib.hid (show TM w2 w.heap.size (w.heap.size + 1) v2 (putL L t) by have := HT3.out; rwa [if_pos rfl] at this)
        have HMK2 := Lib.hid (show mkF l (k + 1) = (putL L t, 0) by have := HMK1.out; rwa [if_neg (by simp)] at this)
        clear HT3
        go_wp2_with fail
        go_roundw
        case rel => exact ⟨k + 1, putL L t, v2, by omega, by go_num, HT4.out, HMK2.out, hB2⟩
        case measure => simp [intOf]; omega
      · have d3 : (E != 0) = true := by simpa using he
        have HX : Hid (R = ([], E)) := by
          unfold Hid
          have h0 := HMK1.out
          rw [if_pos he] at h0
          have h1 := mkF_fail (l := l) (k := k + 1) (by rw [h0]; exact he) N (by omega)
          rw [HRR.out, h0] at h1
          exact h1
        clear he
        go_wp2_with fail
        go_ret2
        exact ⟨_, by rw [HX.out]; rfl, by rw [HX.out]; exact RdM.nil _, hB2⟩
    · obtain rfl : k = N := by omega
      have d2 : decide ((k : Int) < (k : Int)) = false := nb (by omega)
      have HX : Hid (R = (L, 0)) := by unfold Hid; rw [← HRR.out, HMK.out]
      have h0 := HT.out.hd
      go_wp2_with fail
      go_ret2
      exact ⟨_, by rw [HX.out]; rfl, by rw [HX.out]; exact HT.out.rd, hB⟩
end Go.Proofs.Ytigmhglkohjlhaa
