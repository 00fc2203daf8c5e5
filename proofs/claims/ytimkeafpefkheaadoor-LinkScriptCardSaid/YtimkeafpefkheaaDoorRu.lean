

/- Links: LinkRuns holds of what is computed (walk). -/
import Derived.Test.YtimkeafpefkheaaDoorXA
import Derived.Test.YtimkeafpefkheaaDoorRn
import Derived.Test.YtimkeafpefkheaaDoorSm
import Derived.Test.YtimkeafpefkheaaDoorZ
namespace Go.Proofs.YtimkeafpefkheaaDoor
open Go.RowKit
set_option linter.unusedSimpArgs false
set_option linter.unusedVariables false
set_option maxRecDepth 100000

theorem ETr : ElemOk Tryd.prog 49 36 (.agg #[.int .i64 0, .int .i64 0, .int .i64 0, .int .i64 0]) 4 32 := ⟨Tryd.underlying49, by kernel_rfl, rfl, by decide⟩
def runN (l : List Fr) : Nat → Nat
  | 0 => l.length
  | k + 1 => runN l k + runN l k + 1
theorem runL_one {l : List Fr} {t : Tr} (h : apE l t = 0) : (apL l t).length ≤ l.length + 1 := by
  unfold apE at h
  have hc : ¬ ((chkL l).1 ≠ 0) := by
    intro hc
    rw [if_pos hc] at h
    exact hc h
  rw [if_neg hc] at h
  by_cases h1 : t.k < 1 ∨ 5 < t.k
  · rw [if_pos h1] at h; cases h
  rw [if_neg h1] at h
  by_cases h2 : t.i < 0 ∨ (l.length : Int) ≤ t.i
  · rw [if_pos h2] at h; cases h
  unfold apL
  split
  · unfold lessV; simp; omega
  · split
    · unfold insV; simp; omega
    · split
      · unfold swapV; simp
      · split <;> simp
theorem runL_len {l : List Fr} {ts : List Tr} : ∀ k, (∀ j, j < k → runE l ts j = 0) → (runL l ts k).length ≤ l.length + k
  | 0, _ => by simp [runL]
  | k + 1, h => by
    have h1 := runL_len k fun j hj => h j (by omega)
    have h2 := runL_one (h k (by omega))
    show (apL (runL l ts k) (ts.getD k t0)).length ≤ _
    omega
theorem scanR_ok {l : List Fr} {ts : List Tr} : ∀ k, (scanR l ts k).1 = 0 → ∀ j, j < k → runE l ts j = 0
  | 0, _, j, hj => by omega
  | k + 1, h, j, hj => by
    unfold scanR at h
    by_cases h1 : (scanR l ts k).1 ≠ 0
    · rw [if_pos h1] at h; exact absurd h h1
    · rw [if_neg h1] at h
      by_cases h2 : runE l ts k ≠ 0
      · rw [if_pos h2] at h; exact absurd h h2
      · by_cases hjk : j = k
        · subst hjk; simpa using h2
        · exact scanR_ok k (by simpa using h1) j (by omega)
theorem runV_len (l : List Fr) (ts : List Tr) : (runV l ts).1.length ≤ l.length + ts.length := by
  unfold runV
  split
  · simp
  · split
    · simp
    · rename_i h
      exact runL_len _ (scanR_ok _ (by simpa using h))
theorem light_of (v : Value) (l : List Fr) (hz : Szs l) (w : World) (h : RdT w v l) : Calls Tryd.prog 10 #[v] w (LiB l w) := light_any v l hz w h
set_option maxHeartbeats 4000000 in
theorem runs_any (v v2 sv : Value) (l m : List Fr) (hz : Szs l) (hzm : Szs m) (ts : List Tr) (hto : ∀ t, t ∈ ts → TrOk t) (w : World) (hkd : KD w) (h : RdT w v l) (hm : RdT w v2 m) (hs : RdL trR w sv ts) :
    Calls Tryd.prog 8 #[v, v2, sv] w fun x w' => x = .returned (.bool true) ∧ Below w.heap.size w w' := by
  have HKD := Lib.hid hkd
  have HR := Lib.hid h
  have HM := Lib.hid hm
  have HZ := Lib.hid hz
  have HZM := Lib.hid hzm
  have hmx := hs.2.1
  unfold maxLen at hmx
  obtain ⟨s0, m0, rfl⟩ := hs.form
  obtain ⟨N, hN⟩ : ∃ N, ts.length = N := ⟨_, rfl⟩
  rw [hN] at hs hmx ⊢
  have HN := Lib.hid hN
  have HS := Lib.hid hs
  clear hkd h hz hm hzm hs hN
  go_enter Tryd.func8, Tryd.ntmps8
  go_wp2_with fail
  refine (light_any _ l HZ.out _ HR.out).mono ?_
  rintro x w1 ⟨b, rfl, hb, rfl⟩
  cases b
  · go_wp2_with fail
    refine (awake_any _ HKD.out).mono ?_
    rintro x w2 ⟨rfl, hb2⟩
    go_wp2_with fail
    go_ret
    exact ⟨rfl, hb2⟩
  · have hl := (hb rfl).1
    clear hb
    go_wp2_with fail
    refine (light_any _ m HZM.out _ HM.out).mono ?_
    rintro x w1 ⟨b, rfl, hb, rfl⟩
    cases b
    · go_wp2_with fail
      refine (awake_any _ HKD.out).mono ?_
      rintro x w2 ⟨rfl, hb2⟩
      go_wp2_with fail
      go_ret
      exact ⟨rfl, hb2⟩
    · clear hb
      by_cases h60 : 60 < N
      · have d1 : decide ((60 : Int) < (N : Int)) = true := yb (by omega)
        clear h60
        go_wp2_with fail
        refine (awake_any _ HKD.out).mono ?_
        rintro x w2 ⟨rfl, hb2⟩
        go_wp2_with fail
        go_ret
        exact ⟨rfl, hb2⟩
      · have d1 : decide ((60 : Int) < (N : Int)) = false := nb (by omega)
        go_wp2_with fail
        refine (ownTexts_any _ l (by omega) _ HR.out).mono ?_
        rintro x w2 ⟨a, c, rfl, hown, hb2⟩
        have HV := Lib.hid (RdT.of_owns hown)
        have HL := Lib.hid (HR.out.keep hb2)
        have HM := Lib.hid (HM.out.keep hb2)
        have HS := Lib.hid (HS.out.keep hb2)
        have HK := Lib.hid (HKD.out.keep hb2)
        have hB := hb2
        clear hown hb2 HR HKD
        have hrd0 : RdS (w2.alloc (.cells #[] 36)) 4 (.slice s0 N m0) N (rcs trR ts) := by have := HS.out.keep (Below.al (Below.refl _ w2) (.cells #[] 36)); unfold RdL at this; rw [HN.out] at this; exact this
        have hown0 : (w2.alloc (.cells #[] 36)).ownsRow w2.heap.size 36 4 (.slice (some ⟨w2.heap.size, 0, none⟩) 0 0) 0 [] := owns_block _ _ 36 4 0 [] _ (Nat.le_refl _) (heap_last w2 _) rfl (by decide)
        have HRD := Lib.hid hrd0
        have HO0 := Lib.hid hown0
        clear hrd0 hown0
        go_wp2_with (at_builtin; refine wpList_app rfl (.tmp 32) (.tmp 33) 49 rfl w2.heap.size 36 _ 4 32 ETr _ 0 [] rfl HO0.out _ N (rcs trR ts) rfl HRD.out (rcs_one _ _) ?c1 ?c2 ?c3 ?c4)
        case c1 => unfold maxLen; omega
        case c2 => omega
        case c3 => simp
        case c4 =>
          intro a3 c3 w3 hown3 hg3 hb3
          have hown3 : w3.ownsRow w2.heap.size 36 4 (.slice a3 N c3) N (rcs trR ts) := by first | with_reducible exact hown3 | simpa using hown3
          have hB3 : Below w2.heap.size w2 w3 := Below.trans (Below.al (Below.refl _ _) _) hb3
          have HW : Hid (RdL trR w3 (.slice a3 N c3) ts) := by unfold Hid RdL; rw [HN.out]; exact RdS.of_owns hown3 (by decide)
          have HV := Lib.hid (HV.out.keep hB3)
          have HL := Lib.hid (HL.out.keep hB3)
          have HM := Lib.hid (HM.out.keep hB3)
          have HS := Lib.hid (HS.out.keep hB3)
          have HK := Lib.hid (HK.out.keep hB3)
          have hB := Below.next hB hB3
          clear hown3 hg3 hb3 hB3 HO0 HRD
          obtain ⟨r1, r2, r3, HRV⟩ : ∃ r1 r2 r3, Hid (runV l ts = (r1, r2, r3)) := ⟨_, _, _, rfl⟩
          have hrl := runV_len l ts
          rw [HRV.out] at hrl
          have hrl : r1.length ≤ 1000 := by rw [HN.out] at hrl; dsimp only at hrl; omega
          go_wp2_with fail
          refine (run_any _ _ l HZ.out ts hto (by rw [HN.out]; omega) _ HK.out HV.out HW.out).mono ?_
          rw [HRV.out]
          rintro x w4 ⟨v4, rfl, hr4, hb4⟩
          have HR4 := Lib.hid hr4
          have HV := Lib.hid (HV.out.keep hb4)
          have HL := Lib.hid (HL.out.keep hb4)
          have HM := Lib.hid (HM.out.keep hb4)
          have HS := Lib.hid (HS.out.keep hb4)
          have HW := Lib.hid (HW.out.keep hb4)
          have HK := Lib.hid (HK.out.keep hb4)
          have hB := Below.next hB hb4
          clear hr4 hb4
          go_wp2_with fail
          refine (rrun_any _ _ l HZ.out ts hto (by rw [HN.out]; omega) _ HL.out HS.out).mono ?_
          rw [HRV.out]
          rintro x w5 ⟨v5, rfl, hr5, hb5⟩
          have HR5 := Lib.hid hr5
          have HR4 := Lib.hid (HR4.out.keep hb5)
          have HV := Lib.hid (HV.out.keep hb5)
          have HL := Lib.hid (HL.out.keep hb5)
          have HM := Lib.hid (HM.out.keep hb5)
          have HS := Lib.hid (HS.out.keep hb5)
          have HW := Lib.hid (HW.out.keep hb5)
          have HK := Lib.hid (HK.out.keep hb5)
          have hB := Below.next hB hb5
          clear hr5 hb5
          go_wp2_with fail
          go_loopw [15] (fun i wr => ∃ k : Nat, k ≤ N ∧ i = .int .i64 k ∧ Below w5.heap.size w5 wr) (fun i _ => N - (intOf i).toNat)
          case atStart => exact ⟨0, Nat.zero_le _, rfl, Below.refl _ _⟩
          case round =>
            obtain ⟨k, hk, rfl, hBr⟩ := hrel
            by_cases hlt : k < N
            · have d2 : decide ((k : Int) < (N : Int)) = true := yb (by omega)
              obtain ⟨b1, o1, rfl, hc1, g1⟩ := trs_at (HW.out.keep hBr) HN.out k hlt
              obtain ⟨b2, o2, rfl, hc2, g2⟩ := trs_at (HS.out.keep hBr) HN.out k hlt
              obtain ⟨t, HT⟩ : ∃ t, Hid (ts.getD k t0 = t) := ⟨_, rfl⟩
              rw [HT.out] at g1 g2
              obtain ⟨q0, q1, q2, q3⟩ := g1
              obtain ⟨p0, p1, p2, p3⟩ := g2
              have i1 : (0 : Int) ≤ (k : Int) := by omega
              have i2 : (k : Int) < (N : Int) := by omega
              have hwk : IntKind.i64.wrap (k : Int) = (k : Int) := IntWalk.i64_in _ (by omega)
              go_wp2_with fail
              go_quiet (fail)
              go_wp2_with fail
              go_roundw
              case rel => exact ⟨k + 1, by omega, by go_num, below_drewN hBr _⟩
              case measure => simp [intOf]; omega
            · obtain rfl : k = N := by omega
              have d2 : decide ((k : Int) < (k : Int)) = false := nb (by omega)
              have HR4 := Lib.hid (HR4.out.keep hBr)
              have HR5 := Lib.hid (HR5.out.keep hBr)
              have HV := Lib.hid (HV.out.keep hBr)
              have HL := Lib.hid (HL.out.keep hBr)
              have HM := Lib.hid (HM.out.keep hBr)
              have HK := Lib.hid (HK.out.keep hBr)
              have hB := Below.next hB hBr
              clear hBr HS HW
              go_wp2_with fail
              refine (sameTexts_eq _ _ r1 (by omega) _ HR4.out HR5.out).mono ?_
              rintro x w6 ⟨rfl, hb6⟩
              have HV := Lib.hid (HV.out.keep hb6)
              have HL := Lib.hid (HL.out.keep hb6)
              have HM := Lib.hid (HM.out.keep hb6)
              have HK := Lib.hid (HK.out.keep hb6)
              have hB := Below.next hB hb6
              clear hb6 HR4 HR5
              obtain ⟨bb, HBB⟩ : ∃ b, Hid (decide (l = m) = b) := ⟨_, rfl⟩
              go_wp2_with fail
              refine (same_any _ _ l m _ HL.out HM.out).mono ?_
              rw [HBB.out]
              rintro x w7 ⟨rfl, hb7⟩
              have HV := Lib.hid (HV.out.keep hb7)
              have HL := Lib.hid (HL.out.keep hb7)
              have HM := Lib.hid (HM.out.keep hb7)
              have HK := Lib.hid (HK.out.keep hb7)
              have hB := Below.next hB hb7
              clear hb7
              go_wp2_with fail
              refine (rsame_any _ _ l m _ HL.out HM.out).mono ?_
              rw [HBB.out]
              rintro x w8 ⟨rfl, hb8⟩
              have HV := Lib.hid (HV.out.keep hb8)
              have HL := Lib.hid (HL.out.keep hb8)
              have HK := Lib.hid (HK.out.keep hb8)
              have hB := Below.next hB hb8
              clear hb8
              have dbb : (bb == bb) = true := by simp
              go_wp2_with fail
              refine (same_any _ _ l l _ HV.out HL.out).mono ?_
              rintro x w9 ⟨rfl, hb9⟩
              have dll : decide (l = l) = true := yb rfl
              rw [dll]
              have HK := Lib.hid (HK.out.keep hb9)
              have hB := Below.next hB hb9
              clear hb9
              go_wp2_with fail
              refine (awake_any _ HK.out).mono ?_
              rintro x w10 ⟨rfl, hb10⟩
              have hB := Below.next hB hb10
              go_wp2_with fail
              go_ret
              exact ⟨rfl, hB⟩
end Go.Proofs.YtimkeafpefkheaaDoor
