/- Equal lists, in the law. The law's bundle and outcomes; remainders. The law's outcomes. large, in the law. The law's first trace. The law's question 'first'. -/
import Derived.Test.YtcjlbpndgjapiaaDoorA
import Derived.Test.YtcjlbpndgjapiaaDoorPf
namespace Go.Proofs.YtcjlbpndgjapiaaDoor
open Go.RowKit
set_option linter.unusedSimpArgs false
set_option linter.unusedVariables false
set_option maxRecDepth 100000

theorem RdI.at' {kd : IntKind} {w : World} {a : Option Addr} {n c : Nat} {l : List Int} (h : RdI kd w (.slice a n c) l) (hn : l.length = n) (k : Nat) (hk : k < n) : ∃ b off, a = some ⟨b, off, none⟩ ∧ n ≤ c ∧ w.cell? ⟨b, off + k, none⟩ = some (.int kd (l.getD k 0)) := by
  obtain ⟨_, _, ⟨h0, _⟩ | ⟨b, off, cap, hv, hc, hrd⟩⟩ := h
  · omega
  · simp only [Value.slice.injEq] at hv
    obtain ⟨rfl, h2, rfl⟩ := hv
    refine ⟨b, off, rfl, by omega, hrd k _ ?_⟩
    unfold ic
    rw [List.getElem?_map, List.getD_eq_getElem?_getD, List.getElem?_eq_getElem (by omega)]
    rfl
set_option maxHeartbeats 1000000 in
theorem sameO_eq (v u : Value) (l : List Oc) (w : World) (h : RdO w v l) (hu : RdO w u l) :
    Calls Tryd.prog 18 #[v, u] w fun x w' => x = .returned (.bool true) ∧ Below w.heap.size w w' := by
  have hmx := h.2.1
  unfold maxLen at hmx
  obtain ⟨a0, n0, rfl⟩ := h.form
  obtain ⟨a1, n1, rfl⟩ := hu.form
  obtain ⟨N, hN⟩ : ∃ N, l.length = N := ⟨_, rfl⟩
  rw [hN] at h hu hmx ⊢
  have HR := Lib.hid h
  have HU := Lib.hid hu
  have HN := Lib.hid hN
  clear h hu hN
  have d0 : ((N : Int) != (N : Int)) = false := by simp
  go_enter Tryd.func18, Tryd.ntmps18
  go_wp2_with fail
  go_loopw [5] (fun i wr => ∃ k : Nat, k ≤ N ∧ i = .int .i64 k ∧ Below w.heap.size w wr) (fun i _ => N - (intOf i).toNat)
  case atStart => exact ⟨0, Nat.zero_le _, rfl, Below.refl _ _⟩
  case round =>
    obtain ⟨k, hk, rfl, hB⟩ := hrel
    by_cases hlt : k < N
    · have d2 : decide ((k : Int) < (N : Int)) = true := yb (by omega)
      obtain ⟨b1, o1, rfl, hc1, p0, p1, p2, p3, p4, p5, p6⟩ := RdO.at (HR.out.keep hB) HN.out k hlt
      obtain ⟨b2, o2, rfl, hc2, q0, q1, q2, q3, q4, q5, q6⟩ := RdO.at (HU.out.keep hB) HN.out k hlt
      obtain ⟨y, HY⟩ : ∃ y, Hid (gx l k = y) := ⟨_, Lib.hid rfl⟩
      rw [HY.out] at p0 p1 p2 p3 p4 p5 p6 q0 q1 q2 q3 q4 q5 q6
      have i1 : (0 : Int) ≤ (k : Int) := by omega
      have i2 : (k : Int) < (N : Int) := by omega
      have hwk : IntKind.i64.wrap (k : Int) = (k : Int) := IntWalk.i64_in _ (by omega)
      have hwk1 : IntKind.i64.wrap ((k : Int) + 1) = (k : Int) + 1 := IntWalk.i64_in _ (by omega)
      go_wp2_with fail
      go_quiet (fail)
      go_wp2_with fail
      go_roundw
      case rel => exact ⟨k + 1, by omega, by go_num, below_drewN hB _⟩
      case measure => simp [intOf]; omega
    · obtain rfl : k = N := by omega
      have d2 : decide ((k : Int) < (k : Int)) = false := nb (by omega)
      go_wp2_with fail
      go_ret
      exact ⟨rfl, hB⟩
set_option maxHeartbeats 1000000 in
theorem sameD_eq (v u : Value) (l : List Idn) (w : World) (h : RdD w v l) (hu : RdD w u l) :
    Calls Tryd.prog 28 #[v, u] w fun x w' => x = .returned (.bool true) ∧ Below w.heap.size w w' := by
  have hmx := h.2.1
  unfold maxLen at hmx
  obtain ⟨a0, n0, rfl⟩ := h.form
  obtain ⟨a1, n1, rfl⟩ := hu.form
  obtain ⟨N, hN⟩ : ∃ N, l.length = N := ⟨_, rfl⟩
  rw [hN] at h hu hmx ⊢
  have HR := Lib.hid h
  have HU := Lib.hid hu
  have HN := Lib.hid hN
  clear h hu hN
  have d0 : ((N : Int) != (N : Int)) = false := by simp
  go_enter Tryd.func28, Tryd.ntmps28
  go_wp2_with fail
  go_loopw [5] (fun i wr => ∃ k : Nat, k ≤ N ∧ i = .int .i64 k ∧ Below w.heap.size w wr) (fun i _ => N - (intOf i).toNat)
  case atStart => exact ⟨0, Nat.zero_le _, rfl, Below.refl _ _⟩
  case round =>
    obtain ⟨k, hk, rfl, hB⟩ := hrel
    by_cases hlt : k < N
    · have d2 : decide ((k : Int) < (N : Int)) = true := yb (by omega)
      obtain ⟨b1, o1, rfl, hc1, p0, p1, p2⟩ := RdD.at (HR.out.keep hB) HN.out k hlt
      obtain ⟨b2, o2, rfl, hc2, q0, q1, q2⟩ := RdD.at (HU.out.keep hB) HN.out k hlt
      obtain ⟨y, HY⟩ : ∃ y, Hid (gd l k = y) := ⟨_, Lib.hid rfl⟩
      rw [HY.out] at p0 p1 p2 q0 q1 q2
      have i1 : (0 : Int) ≤ (k : Int) := by omega
      have i2 : (k : Int) < (N : Int) := by omega
      have hwk : IntKind.i64.wrap (k : Int) = (k : Int) := IntWalk.i64_in _ (by omega)
      have hwk1 : IntKind.i64.wrap ((k : Int) + 1) = (k : Int) + 1 := IntWalk.i64_in _ (by omega)
      go_wp2_with fail
      go_quiet (fail)
      go_wp2_with fail
      go_roundw
      case rel => exact ⟨k + 1, by omega, by go_num, below_drewN hB _⟩
      case measure => simp [intOf]; omega
    · obtain rfl : k = N := by omega
      have d2 : decide ((k : Int) < (k : Int)) = false := nb (by omega)
      go_wp2_with fail
      go_ret
      exact ⟨rfl, hB⟩
set_option maxHeartbeats 1000000 in
theorem sameInts_eq (v u : Value) (l : List Int) (w : World) (h : RdI .i64 w v l) (hu : RdI .i64 w u l) :
    Calls Tryd.prog 21 #[v, u] w fun x w' => x = .returned (.bool true) ∧ Below w.heap.size w w' := by
  have hmx := h.2.1
  unfold maxLen at hmx
  obtain ⟨a0, n0, rfl⟩ := h.form
  obtain ⟨a1, n1, rfl⟩ := hu.form
  obtain ⟨N, hN⟩ : ∃ N, l.length = N := ⟨_, rfl⟩
  rw [hN] at h hu hmx ⊢
  have HR := Lib.hid h
  have HU := Lib.hid hu
  have HN := Lib.hid hN
  clear h hu hN
  have d0 : ((N : Int) != (N : Int)) = false := by simp
  go_enter Tryd.func21, Tryd.ntmps21
  go_wp2_with fail
  go_loopw [5] (fun i wr => ∃ k : Nat, k ≤ N ∧ i = .int .i64 k ∧ Below w.heap.size w wr) (fun i _ => N - (intOf i).toNat)
  case atStart => exact ⟨0, Nat.zero_le _, rfl, Below.refl _ _⟩
  case round =>
    obtain ⟨k, hk, rfl, hB⟩ := hrel
    by_cases hlt : k < N
    · have d2 : decide ((k : Int) < (N : Int)) = true := yb (by omega)
      obtain ⟨b1, o1, rfl, hc1, p0⟩ := RdI.at' (HR.out.keep hB) HN.out k hlt
      obtain ⟨b2, o2, rfl, hc2, q0⟩ := RdI.at' (HU.out.keep hB) HN.out k hlt
      obtain ⟨y, HY⟩ : ∃ y, Hid (l.getD k 0 = y) := ⟨_, Lib.hid rfl⟩
      rw [HY.out] at p0 q0
      have i1 : (0 : Int) ≤ (k : Int) := by omega
      have i2 : (k : Int) < (N : Int) := by omega
      have hwk : IntKind.i64.wrap (k : Int) = (k : Int) := IntWalk.i64_in _ (by omega)
      have hwk1 : IntKind.i64.wrap ((k : Int) + 1) = (k : Int) + 1 := IntWalk.i64_in _ (by omega)
      go_wp2_with fail
      go_quiet (fail)
      go_wp2_with fail
      go_roundw
      case rel => exact ⟨k + 1, by omega, by go_num, below_drewN hB _⟩
      case measure => simp [intOf]; omega
    · obtain rfl : k = N := by omega
      have d2 : decide ((k : Int) < (k : Int)) = false := nb (by omega)
      go_wp2_with fail
      go_ret
      exact ⟨rfl, hB⟩
end Go.Proofs.YtcjlbpndgjapiaaDoor
namespace Go.Proofs.YtcjlbpndgjapiaaDoor
open Go.RowKit
set_option linter.unusedSimpArgs false
set_option linter.unusedVariables false
set_option maxRecDepth 100000

theorem mod_any (a n : Int) (hn : 1 ≤ n) (h1 : n ≤ 9223372036854775807) (ha : -9223372036854775808 ≤ a ∧ a ≤ 9223372036854775807) (w : World) :
    Calls Tryd.prog 36 #[.int .i64 a, .int .i64 n] w fun e w' => e = .returned (.int .i64 (a % n)) ∧ w = w' := by
  have hd : decide (n < 1) = false := nb (by omega)
  by_cases h0 : 0 ≤ a
  · have hm := Int.emod_nonneg a (show n ≠ 0 by omega)
    have hm2 := Int.emod_lt_of_pos a (show 0 < n by omega)
    have hd2 : decide (a % n < 0) = false := nb (by omega)
    go_enter Tryd.func36, Tryd.ntmps36
    go_wp2
    go_ret
    exact ⟨rfl, rfl⟩
  · have ht : a.tmod n = - ((-a) % n) := by
      rw [show a = -(-a) by omega, Int.neg_tmod, Int.tmod_eq_emod_of_nonneg (by omega)]; simp
    have hm := Int.emod_nonneg (-a) (show n ≠ 0 by omega)
    have hm2 := Int.emod_lt_of_pos (-a) (show 0 < n by omega)
    have he : a % n = if (-a) % n = 0 then 0 else n - (-a) % n := by
      by_cases hz : (-a) % n = 0
      · rw [if_pos hz]
        obtain ⟨c, hc⟩ := Int.dvd_of_emod_eq_zero hz
        exact Int.emod_eq_zero_of_dvd ⟨-c, by rw [Int.mul_neg, ← hc]; omega⟩
      · rw [if_neg hz]
        have e1 := Int.emod_add_mul_ediv (-a) n
        have : a = (n - (-a) % n) + n * (-((-a) / n) - 1) := by rw [Int.mul_sub, Int.mul_neg]; omega
        have e2 := Int.add_mul_emod_self_left (n - (-a) % n) n (-((-a) / n) - 1)
        rw [← this] at e2
        rw [e2]
        exact Int.emod_eq_of_lt (by omega) (by omega)
    obtain ⟨r, hr⟩ : ∃ r, (-a) % n = r := ⟨_, rfl⟩
    rw [hr] at ht hm hm2 he
    have HE := Lib.hid he
    obtain ⟨t, htt⟩ : ∃ t, a.tmod n = t := ⟨_, rfl⟩
    rw [htt] at ht
    have htn := Lib.hid ht
    have hb1 : t ≤ 0 := by omega
    have hb2 : -n < t := by omega
    have ha' : a < 0 := by omega
    clear he ht hr h0
    go_enter Tryd.func36, Tryd.ntmps36
    go_wp2
    · go_ret
      refine ⟨?_, rfl⟩
      rw [HE.out, if_neg (by have := htn.out; omega)]
      show Ending.returned (.int .i64 (t + n)) = _
      rw [htn.out, show n - r = -r + n by omega]
    · go_ret
      refine ⟨?_, rfl⟩
      rw [HE.out, if_pos (by have := htn.out; omega)]
      show Ending.returned (.int .i64 t) = _
      rw [show t = 0 by omega]

/-- the bundle of the chapter's examples -/
def bx : Bd := ⟨⟨1, 7, 0⟩, 3, 0, 5, 10, 1, ⟨#[97]⟩⟩
def ox (t n k o : Int) : Oc := ⟨t, n, k, ⟨1, 7, 0⟩, o⟩
theorem x_any (w : World) : Calls Tryd.prog 29 #[] w fun e w' => e = .returned bx.v ∧ Below w.heap.size w w' := by
  go_enter Tryd.func29, Tryd.ntmps29
  go_wp2_with fail
  exact bodyPost_ret (v := bx.v) (by simp [results, Tryd.results29, go_sem, Bd.v, bx]) rfl ⟨rfl, (by repeat (first | assumption | exact Below.refl _ _ | apply Below.al | apply below_drewN | apply Below.drew | refine Below.next ?_ (by assumption)))⟩
end Go.Proofs.YtcjlbpndgjapiaaDoor
namespace Go.Proofs.YtcjlbpndgjapiaaDoor
open Go.RowKit
set_option linter.unusedSimpArgs false
set_option linter.unusedVariables false
set_option maxRecDepth 100000

theorem out_any (t n k o : Int) (w : World) : Calls Tryd.prog 31 #[.int .i64 t, .int .i64 n, .int .i64 k, .int .i64 o] w fun e w' => e = .returned (ox t n k o).v ∧ Below w.heap.size w w' := by
  obtain ⟨W, hW⟩ : ∃ W : World, W = w.alloc (.cells #[.int .i64 0, .int .i64 0, .int .i64 0, .int .i64 0, .int .u64 0, .int .i64 0, .int .i64 0] 28) := ⟨_, rfl⟩
  have hB : Below w.heap.size w W := by rw [hW]; exact (by repeat (first | assumption | exact Below.refl _ _ | apply Below.al | apply below_drewN | apply Below.drew | refine Below.next ?_ (by assumption)))
  have bI : BoxN W w.heap.size 28 #[.int .i64 0, .int .i64 0, .int .i64 0, .int .i64 0, .int .u64 0, .int .i64 0, .int .i64 0] := by rw [hW]; exact BoxN.new w _ _
  have HX := Lib.hid (x_any W)
  have HB := Lib.hid hB
  have HBI := Lib.hid bI
  obtain ⟨Q, hQ⟩ : ∃ Q, w.heap.size = Q := ⟨_, rfl⟩
  have HQ := Lib.hid hQ
  clear bI hB hQ
  go_enter Tryd.func31, Tryd.ntmps31
  go_upto_region 1 with fail
  rw [← hW, HQ.out]
  clear hW
  go_wp2_with fail
  refine HX.out.mono ?_
  rintro e w1 ⟨rfl, hb⟩
  have hbx := BoxN.below HBI.out hb
  rw [HQ.out] at hbx
  have z0 := hbx.cell 0
  have z1 := hbx.cell 1
  have z2 := hbx.cell 2
  have z3 := hbx.cell 3
  have z4 := hbx.cell 4
  have z5 := hbx.cell 5
  have z6 := hbx.cell 6
  have f0 := hbx.frozen 0
  have f1 := hbx.frozen 1
  have f2 := hbx.frozen 2
  have f3 := hbx.frozen 3
  have f4 := hbx.frozen 4
  have f5 := hbx.frozen 5
  have f6 := hbx.frozen 6
  have HX2 := Lib.hid (BoxN.sets hbx (Oc.cs (ox t n k o)) (by rfl))
  have HB2 := Lib.hid (Below.next HB.out hb)
  have HTH := Lib.hid (BoxN.there hbx 7 rfl)
  have HBS : Hid (Below w.heap.size w (w1.setCells Q 0 (Oc.cs (ox t n k o)))) := Lib.hid (HB2.out.trans ((Kx.setCells (X := fun k => k = Q) (Kx.refl _ w1) (.inl rfl) 0 _).below HB2.out.size (fun k hk => by have hk : k = Q := hk; have := HQ.out; omega)))
  have hfl : ∀ w', (Instr.field 41 bx.v 0).run Tryd.prog w' = .ok (.agg #[.int .i64 1, .int .u64 7, .int .i64 0]) w' := fun _ => by kernel_rfl
  clear hb hbx HX
  go_wp2_with (first
    | (refine wpList_plain rfl (fun K hK => ?_); refine wp_store_mid 28 (.tmp 8) (.tmp 15) rfl Q 0 (Oc.cs (ox t n k o)).toArray rfl rfl HTH.out (by kernel_rfl) (by simp [Oc.cs, Value.oneCell']) ?_; refine hK _ _ ?_)
    | fail)
  clear z0 z1 z2 z3 z4 z5 z6 f0 f1 f2 f3 f4 f5 f6
  have r0 := HX2.out.cell 0
  have r1 := HX2.out.cell 1
  have r2 := HX2.out.cell 2
  have r3 := HX2.out.cell 3
  have r4 := HX2.out.cell 4
  have r5 := HX2.out.cell 5
  have r6 := HX2.out.cell 6
  obtain ⟨WD, hWD⟩ : ∃ V : World, V = w1.setCells Q 0 (Oc.cs (ox t n k o)) := ⟨_, rfl⟩
  have HFIN := HBS.out
  rw [← hWD] at r0 r1 r2 r3 r4 r5 r6 HFIN ⊢
  clear hWD
  exact bodyPost_ret (v := (ox t n k o).v) (by simp [results, Tryd.results31, go_sem, r0, r1, r2, r3, r4, r5, r6, Oc.cs, Oc.v, ox]) rfl ⟨rfl, HFIN⟩
end Go.Proofs.YtcjlbpndgjapiaaDoor
namespace Go.Proofs.YtcjlbpndgjapiaaDoor
open Go.RowKit
set_option linter.unusedSimpArgs false
set_option linter.unusedVariables false
set_option maxRecDepth 100000

set_option maxHeartbeats 2000000 in
theorem large_any (v u : Value) (ws : List Bd) (l : List Oc) (w : World) (h : RdB w v ws) (h2 : RdO w u l) :
    Calls Tryd.prog 9 #[v, u] w fun e w' => ∃ r, e = .returned (.bool r) ∧ (r = false → ws.length ≤ 205 ∧ l.length ≤ 200) ∧ Below w.heap.size w w' := by
  obtain ⟨a0, n0, rfl⟩ := h.form
  obtain ⟨a1, n1, rfl⟩ := h2.form
  have hmx := h.2.1
  unfold maxLen at hmx
  obtain ⟨N, hN⟩ : ∃ N, ws.length = N := ⟨_, rfl⟩
  obtain ⟨M, hM⟩ : ∃ M, l.length = M := ⟨_, rfl⟩
  rw [hN] at h hmx ⊢
  rw [hM] at h2 ⊢
  have HN := Lib.hid hN
  have HR := Lib.hid h
  clear hN hM h h2
  go_enter Tryd.func9, Tryd.ntmps9
  go_wp2_with fail
  go_loopw [5] (fun i wr => ∃ k : Nat, k ≤ N ∧ k ≤ 206 ∧ i = .int .i64 k ∧ Below w.heap.size w wr) (fun i _ => N - (intOf i).toNat)
  case atStart => exact ⟨0, Nat.zero_le _, by omega, rfl, Below.refl _ _⟩
  case round =>
    obtain ⟨k, hkN, hk6, rfl, hB⟩ := hrel
    by_cases hlt : k < N
    · have d2 : decide ((k : Int) < (N : Int)) = true := yb (by omega)
      by_cases h6 : k < 206
      · have d3 : decide ((k : Int) < 206) = true := yb (by omega)
        obtain ⟨b1, o1, rfl, hc1, hrow⟩ := RdB.at (HR.out.keep hB) HN.out k hlt
        obtain ⟨y, HY⟩ : ∃ y, Hid (gb ws k = y) := ⟨_, Lib.hid rfl⟩
        rw [HY.out] at hrow
        obtain ⟨_, _, _, _, _, _, _, _, g8⟩ := hrow
        have i1 : (0 : Int) ≤ (k : Int) := by omega
        have i2 : (k : Int) < (N : Int) := by omega
        have hwk : IntKind.i64.wrap (k : Int) = (k : Int) := IntWalk.i64_in _ (by omega)
        have hwk1 : IntKind.i64.wrap ((k : Int) + 1) = (k : Int) + 1 := IntWalk.i64_in _ (by omega)
        obtain ⟨z, hz⟩ : ∃ z, y.dat.size = z := ⟨_, rfl⟩
        by_cases hbig : 1010 < z
        · have d4 : decide ((z : Int) > 1010) = true := yb (by omega)
          have d5 : decide (1010 < z) = true := yb hbig
          have HB := Lib.hid hB
          clear hB
          go_wp2_with fail
          go_ret
          exact ⟨true, rfl, (fun h => by cases h), HB.out⟩
        · have d4 : decide ((z : Int) > 1010) = false := nb (by omega)
          have d5 : decide (1010 < z) = false := nb hbig
          clear hbig
          go_wp2_with fail
          go_roundw
          case rel => exact ⟨k + 1, by omega, by omega, by go_num, hB⟩
          case measure => simp [intOf]; omega
      · have d3 : decide ((k : Int) < 206) = false := nb (by omega)
        have HB := Lib.hid hB
        have e1 : decide ((N : Int) > 30) = true := yb (by omega)
        have e1' : decide (30 < N) = true := yb (by omega)
        have e2 : decide ((N : Int) < 199) = false := nb (by omega)
        have e2' : decide (N < 199) = false := nb (by omega)
        have e3 : decide ((N : Int) > 205) = true := yb (by omega)
        have e3' : decide (205 < N) = true := yb (by omega)
        clear hB
        go_wp2_with fail
        go_ret
        exact ⟨true, rfl, (fun h => by cases h), HB.out⟩
    · obtain rfl : k = N := by omega
      have d2 : decide ((k : Int) < (k : Int)) = false := nb (by omega)
      have HB := Lib.hid hB
      clear hB
      by_cases c3 : 205 < k
      · have e1 : decide ((k : Int) > 30) = true := yb (by omega)
        have e1' : decide (30 < k) = true := yb (by omega)
        have e2 : decide ((k : Int) < 199) = false := nb (by omega)
        have e2' : decide (k < 199) = false := nb (by omega)
        have e3 : decide ((k : Int) > 205) = true := yb (by omega)
        have e3' : decide (205 < k) = true := yb (by omega)
        go_wp2_with fail
        go_ret
        exact ⟨true, rfl, (fun h => by cases h), HB.out⟩
      · have e3 : decide ((k : Int) > 205) = false := nb (by omega)
        have e3' : decide (205 < k) = false := nb (by omega)
        obtain ⟨x, hx⟩ : ∃ x, decide ((M : Int) > 200) = x := ⟨_, rfl⟩
        have hx' : decide (200 < M) = x := by rw [← hx]; exact decide_eq_decide.2 (by omega)
        have HX : Hid (x = false → M ≤ 200) := Lib.hid (fun e => by rw [e] at hx'; have := of_decide_eq_false hx'; omega)
        have H3 := Lib.hid c3
        clear c3
        by_cases c1 : 30 < k
        · have e1 : decide ((k : Int) > 30) = true := yb (by omega)
          have e1' : decide (30 < k) = true := yb (by omega)
          by_cases c2 : k < 199
          · have e2 : decide ((k : Int) < 199) = true := yb (by omega)
            have e2' : decide (k < 199) = true := yb (by omega)
            clear c1 c2
            go_wp2_with fail
            go_ret
            exact ⟨true, rfl, (fun h => by cases h), HB.out⟩
          · have e2 : decide ((k : Int) < 199) = false := nb (by omega)
            have e2' : decide (k < 199) = false := nb (by omega)
            clear c1 c2
            go_wp2_with fail
            go_ret
            exact ⟨x, rfl, (fun h => ⟨by have := H3.out; omega, HX.out h⟩), HB.out⟩
        · have e1 : decide ((k : Int) > 30) = false := nb (by omega)
          have e1' : decide (30 < k) = false := nb (by omega)
          clear c1
          go_wp2_with fail
          go_ret
          exact ⟨x, rfl, (fun h => ⟨by have := H3.out; omega, HX.out h⟩), HB.out⟩
end Go.Proofs.YtcjlbpndgjapiaaDoor
namespace Go.Proofs.YtcjlbpndgjapiaaDoor
open Go.RowKit
set_option linter.unusedSimpArgs false
set_option linter.unusedVariables false
set_option maxRecDepth 100000

/-- a literal reads as what it says -/
theorem rdl_new {α : Type} (R : RowT α) (W : World) (T : TypeId) (l : List α) (A : Array Value) (hA : A = (rcs R l).toArray) (n : Nat) (hn : l.length = n) (hm : n ≤ 1000) : RdL R (W.alloc (.cells A T)) (.slice (some ⟨W.heap.size, 0, none⟩) n n) l := by
  subst hA
  subst hn
  refine ⟨by rw [rcs_length], by unfold maxLen; omega, .inr ⟨W.heap.size, 0, l.length, rfl, Nat.le_refl _, fun j u hj => ?_⟩⟩
  have := (BoxN.new W T (rcs R l).toArray).cell j
  rw [Nat.zero_add, this]
  simpa using hj
def wayL : List Oc := [ox 5 1 1 0, ox 6 2 6 1, ox 7 1 7 2, ox 9 3 8 0, ox 9 2 7 3]
set_option maxHeartbeats 2000000 in
theorem way_any (w : World) : Calls Tryd.prog 30 #[] w fun e w' => ∃ g, e = .returned (.slice (some ⟨g, 0, none⟩) 5 5) ∧ RdO w' (.slice (some ⟨g, 0, none⟩) 5 5) wayL ∧ Below w.heap.size w w' := by
  go_enter Tryd.func30, Tryd.ntmps30
  go_wp2_with fail
  refine (out_any 5 1 1 0 _).mono ?_
  rintro e w1 ⟨rfl, hb1⟩
  go_wp2_with fail
  refine (out_any 6 2 6 1 _).mono ?_
  rintro e w2 ⟨rfl, hb2⟩
  have hb2 := Below.next hb1 hb2
  clear hb1
  go_wp2_with fail
  refine (out_any 7 1 7 2 _).mono ?_
  rintro e w3 ⟨rfl, hb3⟩
  have hb3 := Below.next hb2 hb3
  clear hb2
  go_wp2_with fail
  refine (out_any 9 3 8 0 _).mono ?_
  rintro e w4 ⟨rfl, hb4⟩
  have hb4 := Below.next hb3 hb4
  clear hb3
  go_wp2_with fail
  refine (out_any 9 2 7 3 _).mono ?_
  rintro e w5 ⟨rfl, hb5⟩
  have hb5 := Below.next hb4 hb5
  clear hb4
  go_wp2_with fail
  go_ret
  exact ⟨_, rfl, rdl_new ocR w5 _ wayL _ (by kernel_rfl) 5 rfl (by decide), Below.al hb5 _⟩
end Go.Proofs.YtcjlbpndgjapiaaDoor
namespace Go.Proofs.YtcjlbpndgjapiaaDoor
open Go.RowKit
set_option linter.unusedSimpArgs false
set_option linter.unusedVariables false
set_option maxRecDepth 100000

theorem bx_w : ∀ b, b ∈ [bx] → BdW b := fun b hb => by
  simp only [List.mem_cons, List.mem_nil_iff, or_false] at hb
  subst hb
  unfold BdW IdW Ib Ub bx maxLen
  decide
/-- a world of the one bundle, and a trace -/
theorem wd_bx {w w1 : World} {u : Value} {l : List Oc} (hof : ∀ o, o ∈ l → OcW o) (hsd : SD w) (hfc : FC w) (h : RdO w u l) (hb : Below w.heap.size w w1) {v : Value} (hv : RdB w1 v [bx]) : Wd w1 v u [bx] l :=
  ⟨bx_w, hof, hv, h.keep hb, hsd.keep hb, hfc.keep hb⟩
set_option maxHeartbeats 2000000 in
theorem first_any (want : Int) (u : Value) (l : List Oc) (r : Bool) (hr : (decide ((allV [bx] l).2 = 0) && decide ((allV [bx] l).1 = want)) = r) (hof : ∀ o, o ∈ l → OcW o) (w : World) (hsd : SD w) (hfc : FC w) (h : RdO w u l) :
    Calls Tryd.prog 32 #[.int .i64 want, u] w fun e w' => e = .returned (.bool r) ∧ Below w.heap.size w w' := by
  have HX := Lib.hid (x_any w)
  have HA : Hid (∀ w1 v, Below w.heap.size w w1 → RdB w1 v [bx] → Calls Tryd.prog 14 #[v, u] w1 fun e w' => e = .returned (V2 (allV [bx] l).1 (allV [bx] l).2) ∧ Below w1.heap.size w1 w') := Lib.hid (fun w1 v hb hv => allowed_any v u [bx] l w1 (wd_bx hof hsd hfc h hb hv))
  obtain ⟨a, b, hab⟩ : ∃ a b, allV [bx] l = (a, b) := ⟨_, _, rfl⟩
  rw [hab] at HA hr
  have HR := Lib.hid hr
  clear hab hr hof hsd hfc h
  go_enter Tryd.func32, Tryd.ntmps32
  go_wp2_with fail
  refine HX.out.mono ?_
  rintro e w1 ⟨rfl, hb1⟩
  have HB1 := Lib.hid hb1
  clear hb1 HX
  go_wp2_with fail
  refine (HA.out _ _ (Below.al HB1.out _) (rdl_new bdR w1 _ [bx] _ (by kernel_rfl) 1 rfl (by decide))).mono ?_
  rintro e w2 ⟨rfl, hb2⟩
  have HB2 := Lib.hid (Below.next (Below.al HB1.out _) hb2)
  clear hb2 HA
  by_cases h1 : b = 0
  · have d1 : (b == 0) = true := by simp [h1]
    by_cases h2 : a = want
    · have d2 : (a == want) = true := by simp [h2]
      obtain rfl : r = true := by rw [← HR.out]; simp [h1, h2]
      clear h1 h2
      go_wp2_with fail
      go_ret
      exact ⟨rfl, HB2.out⟩
    · have d2 : (a == want) = false := by simpa using h2
      obtain rfl : r = false := by rw [← HR.out]; simp [h2]
      clear h1 h2
      go_wp2_with fail
      go_ret
      exact ⟨rfl, HB2.out⟩
  · have d1 : (b == 0) = false := by simpa using h1
    obtain rfl : r = false := by rw [← HR.out]; simp [h1]
    clear h1
    go_wp2_with fail
    go_ret
    exact ⟨rfl, HB2.out⟩
end Go.Proofs.YtcjlbpndgjapiaaDoor
