
/- SpaceSums: Free, Stored and Held are together the quota after any steps: the walk of the law. -/
import Derived.Test.YtcbolpjacoiclaaJ
namespace Go.Proofs.Ytcbolpjacoiclaa
open Go.RowKit

theorem make_good (q : Int) (h0 : 0 ≤ q) (h1 : q ≤ 1099511627776) : Good q 0 z16 := by
  have hz : z16.sum = 0 := by decide
  exact ⟨h1, by decide, rfl, by unfold z16 Nn; simp, by omega⟩

set_option maxRecDepth 100000 in
set_option maxHeartbeats 4000000 in
theorem lawSums (quota : Int) (hq : -9223372036854775808 ≤ quota ∧ quota ≤ 9223372036854775807) (v : Value) (l : List Int) (hl : Ib l) (w : World) (h : RdI .i64 w v l) :
    Calls Try.prog 7 #[.int .i64 quota, v] w fun e w' => e = .returned (.bool true) ∧ Below w.heap.size w w' := by
  obtain ⟨q0, HQ⟩ : ∃ s, Hid (quota % 1001 = s) := ⟨_, rfl⟩
  have hq0 : 0 ≤ q0 ∧ q0 < 1001 := by rw [← HQ.out]; omega
  have hw1 : IntKind.u64.wrap q0 = q0 := IntWalk.u64_in q0 (by omega)
  have G0 := Lib.hid (make_good q0 (by omega) (by omega))
  have HC := Lib.hid h.cases
  obtain ⟨av, cv, rfl⟩ := h.form
  have hmax : l.length ≤ 9223372036854775807 := by have := h.cases.1; unfold maxLen at this; exact this
  obtain ⟨N, hN⟩ : ∃ N, l.length = N := ⟨_, rfl⟩
  rw [hN] at hmax ⊢
  have HN := Lib.hid hN
  have HL := Lib.hid hl
  clear hN h hl
  go_enter Try.func7, Try.ntmps7
  go_wp2_with fail
  refine (mod_any quota 1001 (by decide) (by decide) hq _).mono ?_
  rw [HQ.out]
  rintro e w2 ⟨rfl, rfl⟩
  go_wp2_with fail
  refine (make_ok q0 (by omega) _).mono ?_
  rintro e w1 ⟨v1, rfl, hr, hF1, b1⟩
  obtain ⟨a1, c1, hv1⟩ := hr.form
  rw [List.length_replicate] at hv1
  subst hv1
  have R1 := Lib.hid hr
  clear hr
  go_wp2_with fail
  obtain ⟨S, hS⟩ : ∃ S : Nat, S = w1.heap.size := ⟨_, rfl⟩
  obtain ⟨W, hW⟩ : ∃ W : World, W = w1.alloc (.cells #[.int .u64 q0, .int .u64 0, .slice a1 16 c1] 25) := ⟨_, rfl⟩
  rw [← hW, ← hS]
  have hA : BS W S q0 0 (.slice a1 16 c1) := by rw [hW, hS]; simp [BS, go_sem]
  have hZ : FZ W S := by rw [hW, hS]; simp [FZ, go_sem]
  have RW : Hid (RdI .u64 W (.slice a1 16 c1) z16) := by rw [hW]; exact R1.out.keep (by repeat (first | assumption | exact Below.refl _ _ | apply Below.al | apply below_drewN | apply Below.drew | refine Below.next ?_ (by assumption) | refine Below.st ?_ (by first | exact Nat.le_refl _ | (simp; done) | (simp; omega)) _))
  have hBW : Below w.heap.size w W := by rw [hW]; exact (by repeat (first | assumption | exact Below.refl _ _ | apply Below.al | apply below_drewN | apply Below.drew | refine Below.next ?_ (by assumption) | refine Below.st ?_ (by first | exact Nat.le_refl _ | (simp; done) | (simp; omega)) _))
  have hS0 : w.heap.size ≤ S := by rw [hS]; exact b1.size
  clear hW hS R1 hF1 b1
  go_loopw [7] (fun i wr => ∃ (k : Nat) (q st : Int) (xs : List Int) (a : Option Addr) (c : Nat), k ≤ N ∧ i = .int .i64 k ∧ Hid (Good q st xs) ∧ BS wr S q st (.slice a xs.length c) ∧ Hid (RdI .u64 wr (.slice a xs.length c) xs) ∧ FZ wr S ∧ Below w.heap.size w wr) (fun i _ => N - (intOf i).toNat)
  case atStart => exact ⟨0, q0, 0, z16, a1, c1, Nat.zero_le _, rfl, G0.out, hA, RW.out, hZ, hBW⟩
  case round =>
    clear hA hZ RW hBW
    obtain ⟨k, q, st, xs, a, c, hk, rfl, HG, hA, HR, hZ, hB⟩ := hrel
    by_cases hlt : k < N ∧ k < 30
    · obtain ⟨h1, h2⟩ := hlt
      have d1 : decide ((k : Int) < (N : Int)) = true := yb (by omega)
      have d2 : decide ((k : Int) < 30) = true := yb (by omega)
      have i1 : (0 : Int) ≤ (k : Int) := by omega
      have i2 : (k : Int) < (N : Int) := by omega
      obtain ⟨b, off, x, rfl, HX, hcx⟩ : ∃ b off x, av = some ⟨b, off, none⟩ ∧ Hid (l.getD k 0 = x) ∧ wr.cell? ⟨b, off + k, none⟩ = some (.int .i64 x) := by
        obtain ⟨_, ⟨_, _, _, h0⟩ | ⟨b, off, cap, hv, hc, hr⟩⟩ := HC.out
        · have h1 := HN.out; have h3 : l.length = 0 := by rw [h0]; rfl
          omega
        · simp only [Value.slice.injEq] at hv
          exact ⟨b, off, _, hv.1, rfl, cell_later hB (hr k (by rw [HN.out]; exact h1))⟩
      have hx := HL.out.get k
      rw [HX.out] at hx
      obtain ⟨y, HY⟩ : ∃ y, Hid (x % 1048576 = y) := ⟨_, rfl⟩
      have hy : 0 ≤ y ∧ y < 1048576 := by rw [← HY.out]; omega
      have hkd : 0 ≤ y % 5 ∧ y % 5 ≤ 4 := by omega
      have hn : 0 ≤ y / 20 % 300 := by omega
      obtain ⟨q', st', ys, er, sA⟩ := St.ex q st xs (1 + y / 5 % 4) (y / 20 % 300) (y % 5) hkd
      have HSA := Lib.hid sA
      have HLEN := Lib.hid sA.len
      clear sA
      have zS : S < wr.heap.size := cell_lt hA.1
      go_wp2_with fail
      refine (mod_any x 1048576 (by decide) (by decide) hx _).mono ?_
      rw [HY.out]
      rintro e w2 ⟨rfl, rfl⟩
      go_wp2_with fail
      refine (ownSpace_any q st _ xs (by rw [HG.out.gn]; decide) _ HR.out).mono ?_
      rintro e w3 ⟨v3, rfl, hr3, hF3, b3⟩
      obtain ⟨a3, c3, rfl⟩ := hr3.form
      have R3 := Lib.hid hr3
      clear hr3
      have hA3 : BS w3 S q st _ := BS.keep b3 hA
      go_wp2_with fail
      refine (step_any q st _ xs HG.out.inp _ _ hn _ hkd _ _ _ _ HSA.out _ (R3.out.keep (by repeat (first | assumption | exact Below.refl _ _ | apply Below.al | apply below_drewN | apply Below.drew | refine Below.next ?_ (by assumption) | refine Below.st ?_ (by first | exact Nat.le_refl _ | (simp; done) | (simp; omega)) _)))).mono ?_
      rintro e w4 ⟨v4, rfl, hr4, hF4, b4⟩
      obtain ⟨a4, c4, rfl⟩ := hr4.form
      have R4 := Lib.hid hr4
      clear hr4
      have zS3 : S < w3.heap.size := cell_lt hA3.1
      have hA4 : BS w4 S q st _ := BS.keep b4 hA3
      have zS4 : S < w4.heap.size := cell_lt hA4.1
      have hB4 : Below w.heap.size w w4 := (by repeat (first | assumption | exact Below.refl _ _ | apply Below.al | apply below_drewN | apply Below.drew | refine Below.next ?_ (by assumption) | refine Below.st ?_ (by first | exact Nat.le_refl _ | (simp; done) | (simp; omega)) _))
      by_cases he : er = 0
      · subst he
        have fZ4 : FZ w4 S := ⟨fz_later b4 zS3 (fz_later b3 zS hZ.1), fz_later b4 zS3 (fz_later b3 zS hZ.2.1), fz_later b4 zS3 (fz_later b3 zS hZ.2.2)⟩
        have G' := Lib.hid (HSA.out.good HG.out.inp hn)
        have n1 : S ≠ w4.heap.size := by omega
        go_wp2_with fail
        obtain ⟨Ws, hWs⟩ : ∃ Ws : World, Ws = ((w4.setCell ⟨S, 0, none⟩ (.int .u64 q')).setCell ⟨S, 1, none⟩ (.int .u64 st')).setCell ⟨S, 2, none⟩ (.slice a4 ys.length c4) := ⟨_, rfl⟩
        rw [← hWs]
        have kA : BS Ws S q' st' (.slice a4 ys.length c4) := by rw [hWs]; simp [BS, go_sem, hA4, zS4]
        have kF : FZ Ws S := by rw [hWs]; exact ⟨fz_set _ (fz_set _ (fz_set _ fZ4.1)), fz_set _ (fz_set _ (fz_set _ fZ4.2.1)), fz_set _ (fz_set _ (fz_set _ fZ4.2.2))⟩
        have p4 : (⟨S, 0, none⟩ : Addr).block < w3.heap.size := zS3
        have kR : RdI .u64 Ws (.slice a4 ys.length c4) ys := by rw [hWs]; exact RdI.set _ (RdI.set _ (RdI.set _ R4.out hF4 p4) hF4 p4) hF4 p4
        have kB : Below w.heap.size w Ws := by rw [hWs]; exact Below.st (Below.st (Below.st hB4 hS0 _) hS0 _) hS0 _
        have kz : S < Ws.heap.size := cell_lt kA.1
        obtain ⟨W4, hW4⟩ : ∃ W4 : World, W4 = Ws.alloc (.cells #[.int .u64 q', .int .u64 st', .slice a4 ys.length c4] 25) := ⟨_, rfl⟩
        rw [← hW4]
        have kk : Below Ws.heap.size Ws W4 := by rw [hW4]; exact (by repeat (first | assumption | exact Below.refl _ _ | apply Below.al | apply below_drewN | apply Below.drew | refine Below.next ?_ (by assumption) | refine Below.st ?_ (by first | exact Nat.le_refl _ | (simp; done) | (simp; omega)) _))
        have gA := BS.keep kk kA
        have gF : FZ W4 S := ⟨fz_later kk kz kF.1, fz_later kk kz kF.2.1, fz_later kk kz kF.2.2⟩
        have HR4 : Hid (RdI .u64 W4 (.slice a4 ys.length c4) ys) := Lib.hid (kR.keep kk)
        have gB : Below w.heap.size w W4 := (by repeat (first | assumption | exact Below.refl _ _ | apply Below.al | apply below_drewN | apply Below.drew | refine Below.next ?_ (by assumption) | refine Below.st ?_ (by first | exact Nat.le_refl _ | (simp; done) | (simp; omega)) _))
        clear hWs kA kF kR kB kz kk p4
        clear hW4 fZ4 hA4 hA3 hA R4 R3 b4 b3 hB4 hB
        refine (freeS_ok q' st' _ ys G'.out _ HR4.out).mono ?_
        rintro e w5 ⟨rfl, b5⟩
        have hA5 := BS.keep b5 gA
        have z5 : S < w5.heap.size := cell_lt hA5.1
        go_wp2_with fail
        refine (heldS_ok q' st' _ ys G'.out _ (HR4.out.keep b5)).mono ?_
        rintro e w6 ⟨rfl, b6⟩
        have hA6 := BS.keep b6 hA5
        have z4 : S < W4.heap.size := cell_lt gA.1
        have gF6 : FZ w6 S := ⟨fz_later b6 z5 (fz_later b5 z4 gF.1), fz_later b6 z5 (fz_later b5 z4 gF.2.1), fz_later b6 z5 (fz_later b5 z4 gF.2.2)⟩
        have HR6 : Hid (RdI .u64 w6 (.slice a4 ys.length c4) ys) := Lib.hid ((HR4.out.keep b5).keep b6)
        have hB6 : Below w.heap.size w w6 := (by repeat (first | assumption | exact Below.refl _ _ | apply Below.al | apply below_drewN | apply Below.drew | refine Below.next ?_ (by assumption) | refine Below.st ?_ (by first | exact Nat.le_refl _ | (simp; done) | (simp; omega)) _))
        have s0 := G'.out.sum; have s1 := G'.out.gle; have s2 := G'.out.gst; have s3 := G'.out.gq
        have t1 : IntKind.u64.wrap (q' - st' - ys.sum + ys.sum) = q' - st' := by rw [show q' - st' - ys.sum + ys.sum = q' - st' by omega]; exact IntWalk.u64_in _ (by omega)
        have t2 : q' - st' - ys.sum + ys.sum + st' = q' := by omega
        clear gA gF hA5 b5 b6 gB
        go_wp2_with fail
        refine ⟨⟨k + 1, q', st', ys, a4, c4, by omega, by go_num, G'.out, hA6, HR6.out, gF6, hB6⟩, by simp [intOf]; omega⟩
      · have hne : (er != 0) = true := by simpa using he
        obtain ⟨e1, e2, e3⟩ : ys = [] ∧ q' = 0 ∧ st' = 0 := by
          rcases HLEN.out with ⟨_, h1, h2, h3⟩ | ⟨h1, _⟩
          · exact ⟨h1, h2, h3⟩
          · exact absurd h1 he
        subst e1 e2 e3
        have fZ4 : FZ w4 S := ⟨fz_later b4 zS3 (fz_later b3 zS hZ.1), fz_later b4 zS3 (fz_later b3 zS hZ.2.1), fz_later b4 zS3 (fz_later b3 zS hZ.2.2)⟩
        have HR4 : Hid (RdI .u64 w4 (.slice a xs.length c) xs) := Lib.hid ((HR.out.keep b3).keep (by repeat (first | assumption | exact Below.refl _ _ | apply Below.al)))
        go_wp2_with fail
        have kk : Below w4.heap.size w4 (w4.alloc (.cells #[.int .u64 0, .int .u64 0, .slice a4 0 c4] 25)) := (by repeat (first | assumption | exact Below.refl _ _ | apply Below.al | apply below_drewN | apply Below.drew | refine Below.next ?_ (by assumption) | refine Below.st ?_ (by first | exact Nat.le_refl _ | (simp; done) | (simp; omega)) _))
        refine ⟨⟨k + 1, q, st, xs, a, c, by omega, by go_num, HG.out, BS.al _ hA4, HR4.out.keep kk, ⟨fz_later kk zS4 fZ4.1, fz_later kk zS4 fZ4.2.1, fz_later kk zS4 fZ4.2.2⟩, Below.al hB4 _⟩, by simp [intOf]; omega⟩
    · by_cases h1 : k < N
      · have d1 : decide ((k : Int) < (N : Int)) = true := yb (by omega)
        have d2 : decide ((k : Int) < 30) = false := nb (by omega)
        clear hlt
        go_wp2_with fail
        refine (awake_any _).mono ?_
        rintro e w9 ⟨rfl, b9⟩
        go_wp2_with fail
        go_ret
        exact ⟨rfl, (by repeat (first | assumption | exact Below.refl _ _ | apply Below.al | apply below_drewN | apply Below.drew | refine Below.next ?_ (by assumption) | refine Below.st ?_ (by first | exact Nat.le_refl _ | (simp; done) | (simp; omega)) _))⟩
      · have d1 : decide ((k : Int) < (N : Int)) = false := nb (by omega)
        clear hlt
        go_wp2_with fail
        refine (awake_any _).mono ?_
        rintro e w9 ⟨rfl, b9⟩
        go_wp2_with fail
        go_ret
        exact ⟨rfl, (by repeat (first | assumption | exact Below.refl _ _ | apply Below.al | apply below_drewN | apply Below.drew | refine Below.next ?_ (by assumption) | refine Below.st ?_ (by first | exact Nat.le_refl _ | (simp; done) | (simp; omega)) _))⟩
end Go.Proofs.Ytcbolpjacoiclaa
