


/- Routes: the reference's fewest, Is, Reach. -/
import Derived.Test.YtgmfifilgbbogaaRE
import Derived.Test.YtgmfifilgbbogaaRC
namespace Go.Proofs.Ytgmfifilgbbogaa
open Go.RowKit
set_option linter.unusedSimpArgs false
set_option linter.unusedVariables false
set_option maxRecDepth 100000

theorem rchL_len {cs : List Ct} {n u t : Int} (hp : okP cs) (hn : 1 ≤ n) (hu : 1 ≤ u ∧ u ≤ 16) (ht : 0 ≤ t) (h : Nat) : (rchL cs n u t h).length = 17 := (rch_all hp hn hu ht h).1
/-- the earliest arrival, as both texts find it -/
abbrev arrE (cs : List Ct) (n u t v : Int) : Int := gI (rchL cs n u t 16) v
theorem arr_least {cs : List Ct} {n u t v : Int} (hp : okP cs) (hn : 1 ≤ n) (hu : 1 ≤ u ∧ u ≤ 16) (ht : 0 ≤ t) (hv : 0 ≤ v) : Least cs n u t v (arrE cs n u t v) := rch_least hp hn hu ht 16 (by decide) v hv
theorem arr_neg {cs : List Ct} {n u t v : Int} (hp : okP cs) (hn : 1 ≤ n) (hu : 1 ≤ u ∧ u ≤ 16) (ht : 0 ≤ t) (hv : 0 ≤ v) (h : arrE cs n u t v < 0) : arrE cs n u t v = -1 := by
  rcases arr_least hp hn hu ht hv with ⟨h1, _⟩ | ⟨h1, _⟩
  · exact h1
  · omega
/-- what fewest answers -/
def FewR (cs : List Ct) (n u t v : Int) (x y : Int) : Prop := (arrE cs n u t v < 0 ∧ x = -1 ∧ y = -1) ∨ (∃ h l, BestR cs n u t v (arrE cs n u t v) h l ∧ x = (h : Int) ∧ y = arrE cs n u t v)
theorem few_of {cs : List Ct} {n u t v : Int} (hp : okP cs) (hn : 1 ≤ n) (hu : 1 ≤ u ∧ u ≤ 16) (ht : 0 ≤ t) (hv : 0 ≤ v) : ∃ x y, FewR cs n u t v x y := by
  by_cases h : arrE cs n u t v < 0
  · exact ⟨_, _, .inl ⟨h, rfl, rfl⟩⟩
  · obtain ⟨k, l, hb⟩ := best_ex (arr_least hp hn hu ht hv) (by omega)
    exact ⟨_, _, .inr ⟨k, l, hb, rfl, rfl⟩⟩
set_option maxHeartbeats 2000000 in
theorem rfewest_any (pv : Value) (cs : List Ct) (u v t n x y : Int) (hp : okP cs) (hl : cs.length ≤ 200) (hu : 1 ≤ u ∧ u ≤ 16) (hv : 1 ≤ v ∧ v ≤ 16) (ht : 0 ≤ t) (hn : 1 ≤ n ∧ n ≤ 1200) (hf : FewR cs n u t v x y) (w : World) (hr : RdC w pv cs) :
    Calls Try.prog 59 #[pv, .int .i64 u, .int .i64 v, .int .i64 t, .int .i64 n] w fun e w' => e = .returned (V2 x y) ∧ Below w.heap.size w w' := by
  obtain ⟨a0, n0, rfl⟩ := hr.form
  obtain ⟨V, hV⟩ : ∃ V : Nat, v = (V : Int) := ⟨v.toNat, by omega⟩
  have hV1 : 1 ≤ V ∧ V ≤ 16 := by omega
  have HCALL := Lib.hid (fun (k : Nat) (hk : k ≤ 16) (w' : World) (hb : Below w.heap.size w w') => rreach_any (.slice a0 cs.length n0) cs u t n k hp hl hu ht hn hk w' (hr.keep hb))
  have HLEN := Lib.hid (fun k => rchL_len hp hn.1 hu ht k)
  have hH : arrE cs n u t v < 0 ∨ ∃ H : Nat, H ≤ 15 ∧ x = (H : Int) ∧ y = arrE cs n u t v ∧ 0 ≤ y ∧ ∀ k, gI (rchL cs n u t k) v = y ↔ H ≤ k := by
    rcases hf with ⟨h1, _, _⟩ | ⟨h, l, hb, h1, h2⟩
    · exact .inl h1
    · refine .inr ⟨h, hb.few15 hp hn.1 hu, h1, h2, by rw [h2]; exact hb.nn, fun k => ?_⟩
      rw [h2]
      exact hb.hops hp hn.1 hu ht (by omega) k
  have hneg : arrE cs n u t v < 0 → arrE cs n u t v = -1 := arr_neg hp hn.1 hu ht (by omega)
  have hxy : arrE cs n u t v < 0 → x = -1 ∧ y = -1 := fun h => by
    rcases hf with ⟨_, h1, h2⟩ | ⟨_, _, hb, _, _⟩
    · exact ⟨h1, h2⟩
    · have := hb.nn; omega
  have hat := fun k => gI_at (L := rchL cs n u t k) (d := V) (HLEN.out k) (by omega)
  rw [hV] at hH hneg hxy
  have HH := Lib.hid hH
  have HNEG := Lib.hid hneg
  have HXY := Lib.hid hxy
  have HAT := Lib.hid hat
  rw [hV]
  clear hr hp hf hH hneg hxy hat hV
  have V1 : (0 : Int) ≤ (V : Int) := by omega
  have V2 : (V : Int) < 17 := by omega
  have hwV : IntKind.i64.wrap (V : Int) = (V : Int) := IntWalk.i64_in _ (by omega)
  go_enter Try.func59, Try.ntmps59
  go_wp2_with fail
  refine (HCALL.out 16 (Nat.le_refl _) _ (Below.refl _ _)).mono ?_
  rintro e w1 ⟨⟨q, c, rfl, ho⟩, hb1⟩
  have gV := ho.at V (by omega)
  rw [← HAT.out] at gV
  have HB1 := Lib.hid hb1
  obtain ⟨E, hE⟩ : ∃ E, gI (rchL cs n u t 16) (V : Int) = E := ⟨_, rfl⟩
  have hEE : arrE cs n u t (V : Int) = E := hE
  rw [hE] at gV
  have HH2 := HH.out
  have HNEG2 := HNEG.out
  have HXY2 := HXY.out
  rw [hEE] at HH2 HNEG2 HXY2
  clear ho hb1 hEE hE
  by_cases hneg : E < 0
  · obtain rfl : E = -1 := HNEG2 hneg
    obtain ⟨rfl, rfl⟩ := HXY2 hneg
    clear HH2 HNEG2 HXY2 HH HNEG HXY hneg
    go_wp2_with fail
    go_loopw [13] (fun i wr => i = .int .i64 0 ∧ Below w.heap.size w wr) (fun _ _ => 0)
    case atStart => exact ⟨rfl, HB1.out⟩
    case round =>
      obtain ⟨rfl, hb⟩ := hrel
      go_wp2_with fail
      go_ret2
      exact ⟨rfl, hb⟩
  · have d1 : decide (E ≥ 0) = true := yb (by omega)
    obtain ⟨H, hH15, rfl, hyE, hy0, hiff⟩ := HH2.resolve_left hneg
    subst hyE
    have HIFF := Lib.hid hiff
    clear HH HNEG HXY HNEG2 HXY2 hneg hiff
    go_wp2_with fail
    go_loopw [13] (fun i wr => ∃ k : Nat, k ≤ H ∧ i = .int .i64 k ∧ Below w.heap.size w wr) (fun i _ => H - (intOf i).toNat)
    case atStart => exact ⟨0, Nat.zero_le _, rfl, HB1.out⟩
    case round =>
      obtain ⟨k, hk, rfl, hb⟩ := hrel
      have d2 : decide ((k : Int) ≤ 16) = true := yb (by omega)
      have HCK := Lib.hid (HCALL.out k (by omega) wr hb)
      have hsz := hb.size
      have HB := Lib.hid hb
      have hwk1 : IntKind.i64.wrap ((k : Int) + 1) = (k : Int) + 1 := IntWalk.i64_in _ (by omega)
      clear hb
      go_wp2_with fail
      refine HCK.out.mono ?_
      rintro e w2 ⟨⟨q2, c2, rfl, ho2⟩, hb2⟩
      have gV2 := ho2.at V (by omega)
      rw [← HAT.out] at gV2
      obtain ⟨z, hz⟩ : ∃ z, gI (rchL cs n u t k) (V : Int) = z := ⟨_, rfl⟩
      have hi := HIFF.out k
      rw [hz] at gV2 hi
      have HBk := Lib.hid (Below.next HB.out hb2)
      clear ho2 hb2 hz
      by_cases hkH : k = H
      · subst hkH
        have d3 : (z == y) = true := by simpa using hi.2 (Nat.le_refl _)
        clear hi
        go_wp2_with fail
        go_ret2
        exact ⟨rfl, HBk.out⟩
      · have d3 : (z == y) = false := by
          have : ¬ z = y := fun hh => by have := hi.1 hh; omega
          simpa using this
        clear hi
        go_wp2_with fail
        go_roundw
        case rel => exact ⟨k + 1, by omega, by go_num, HBk.out⟩
        case measure => simp [intOf]; omega
/-- what Is answers -/
def isV (cs : List Ct) (u v t n : Int) : Bool × Int := if chkE cs t n [u, v] ≠ 0 then (false, chkE cs t n [u, v]) else (decide (0 ≤ arrE cs n u t v), 0)
set_option maxHeartbeats 2000000 in
theorem ris_any (pv : Value) (cs : List Ct) (u v t n : Int) (w : World) (hr : RdC w pv cs) :
    Calls Try.prog 16 #[pv, .int .i64 u, .int .i64 v, .int .i64 t, .int .i64 n] w fun e w' => e = .returned (.tuple #[.bool (isV cs u v t n).1, .int .i64 (isV cs u v t n).2]) ∧ Below w.heap.size w w' := by
  obtain ⟨a0, n0, rfl⟩ := hr.form
  have hC := rbetween_any (.slice a0 cs.length n0) cs u v t n w hr
  obtain ⟨b, y, HV⟩ : ∃ b y, Hid (isV cs u v t n = (b, y)) := ⟨_, _, Lib.hid rfl⟩
  rw [HV.out]
  have hv := HV.out
  unfold isV at hv
  obtain ⟨er, her⟩ : ∃ er, chkE cs t n [u, v] = er := ⟨_, rfl⟩
  rw [her] at hv hC
  have HC := Lib.hid hC
  have HE := Lib.hid her
  have HR := Lib.hid hr
  clear hC her hr HV
  go_enter Try.func16, Try.ntmps16
  go_wp2_with fail
  refine HC.out.mono ?_
  rintro e w1 ⟨rfl, hb1⟩
  by_cases h0 : er = 0
  · subst h0
    rw [if_neg (by simp)] at hv
    obtain ⟨hp, hq, hno⟩ := chkE_ok HE.out
    obtain ⟨hpk, hpl⟩ := planOk hp
    have hu := hno u (by simp)
    have hv2 := hno v (by simp)
    obtain ⟨V, hV⟩ : ∃ V : Nat, v = (V : Int) := ⟨v.toNat, by omega⟩
    have HCALL := Lib.hid (rreach_any (.slice a0 cs.length n0) cs u t n 16 hpk hpl hu hq.1 ⟨hq.2.2.1, hq.2.2.2⟩ (Nat.le_refl _) w1 (HR.out.keep hb1))
    have hat := gI_at (L := rchL cs n u t 16) (d := V) (rchL_len hpk hq.2.2.1 hu hq.1 16) (by omega)
    have hwV : IntKind.i64.wrap (V : Int) = (V : Int) := IntWalk.i64_in _ (by omega)
    have V1 : (0 : Int) ≤ (V : Int) := by omega
    have V2 : (V : Int) < 17 := by omega
    subst hV
    have HAT := Lib.hid hat
    have HV2 := Lib.hid hv
    clear hv hat hp hno hpk
    go_wp2_with fail
    refine HCALL.out.mono ?_
    rintro e w2 ⟨⟨q, c, rfl, ho⟩, hb2⟩
    have gV := ho.at V (by omega)
    rw [← HAT.out] at gV
    have hv := HV2.out
    have hB := Below.next hb1 hb2
    obtain ⟨E, hE⟩ : ∃ E, gI (rchL cs n u t 16) (V : Int) = E := ⟨_, rfl⟩
    have hE2 : arrE cs n u t (V : Int) = E := hE
    rw [hE] at gV
    rw [hE2] at hv
    clear hb2 ho hE hE2
    by_cases hn : 0 ≤ E
    · have d1 : decide (E ≥ 0) = true := yb hn
      rw [yb hn] at hv
      cases hv
      clear hn
      go_wp2_with fail
      go_ret2
      exact ⟨rfl, hB⟩
    · have d1 : decide (E ≥ 0) = false := nb hn
      rw [nb hn] at hv
      cases hv
      clear hn
      go_wp2_with fail
      go_ret2
      exact ⟨rfl, hB⟩
  · rw [if_pos (by simpa using h0)] at hv
    have e1 : (er != 0) = true := by simpa using h0
    clear h0
    cases hv
    go_wp2_with fail
    go_ret2
    exact ⟨rfl, hb1⟩
end Go.Proofs.Ytgmfifilgbbogaa
