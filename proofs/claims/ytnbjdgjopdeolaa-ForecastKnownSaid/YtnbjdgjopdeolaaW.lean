

/- VolumeCarries: the walk of the law. -/
import Derived.Test.YtnbjdgjopdeolaaV
namespace Go.Proofs.Ytnbjdgjopdeolaa
open Go.RowKit Go.Shelf
set_option linter.unusedSimpArgs false
set_option linter.unusedVariables false
set_option maxRecDepth 100000

theorem ovL_len (cs : List Ct) (bs : List Int) : (ovL cs bs).length ≤ cs.length := by
  unfold ovL
  split
  · exact overK_len cs bs _
  · simp
theorem Crv_len {cs : List Ct} {bs : List Int} {fr dt t n : Int} {out : List Int} {fin er : Int} (h : Crv cs bs fr dt t n = (out, fin, er)) (hn : bytesB n = true → 0 ≤ n) : out.length ≤ cs.length := by
  unfold Crv at h
  by_cases h1 : bkE cs bs ≠ 0
  · rw [if_pos h1] at h; cases h; simp
  · rw [if_neg h1] at h
    by_cases h2 : (nodeB fr && nodeB dt && tickB t && bytesB n) = false ∨ overK cs bs cs.length ≠ []
    · rw [if_pos h2] at h; cases h; simp
    · rw [if_neg h2] at h
      have hb : bytesB n = true := by
        cases hb : bytesB n
        · exact absurd (.inl (by rw [hb]; simp)) h2
        · rfl
      obtain ⟨_, hl⟩ := bkE_zero (by simpa using h1)
      have := CInv.carK (fr := fr) (dt := dt) (t := t) hl (hn hb) cs.length
      split at h
      · cases h; simp
      · cases h; rw [this.1]; exact Nat.le_refl _

set_option maxHeartbeats 2000000 in
theorem lawCarries (cs : List Ct) (v : Value) (bs : List Int) (u : Value) (fr dt t n : Int) (hwf : ∀ c, c ∈ cs → Wf c) (w : World) (h : RdC w v cs) (hu : RdI .i64 w u bs) :
    Calls Try.prog 7 #[v, u, .int .i64 fr, .int .i64 dt, .int .i64 t, .int .i64 n] w fun e w' => e = .returned (.bool true) ∧ Below w.heap.size w w' := by
  obtain ⟨a0, n0, rfl⟩ := h.form
  obtain ⟨a1, n1, rfl⟩ := hu.form
  have HW := Lib.hid hwf
  have HR := Lib.hid h
  have HU := Lib.hid hu
  clear hwf h hu
  by_cases hbig : 210 < cs.length
  · have d1 : decide (210 < (cs.length : Int)) = true := yb (by omega)
    go_enter Try.func7, Try.ntmps7
    go_wp2_with (go_at_call 26; refine (awake_any _).mono ?_; rintro e w1 ⟨rfl, hb⟩)
    go_ret
    exact ⟨rfl, (by repeat (first | assumption | exact Below.refl _ _ | apply Below.al | apply below_drewN | apply Below.drew | refine Below.next ?_ (by assumption)))⟩
  have d1 : decide (210 < (cs.length : Int)) = false := nb (by omega)
  by_cases hbig2 : 220 < bs.length
  · have d2 : decide (220 < (bs.length : Int)) = true := yb (by omega)
    go_enter Try.func7, Try.ntmps7
    go_wp2_with (go_at_call 26; refine (awake_any _).mono ?_; rintro e w1 ⟨rfl, hb⟩)
    go_ret
    exact ⟨rfl, (by repeat (first | assumption | exact Below.refl _ _ | apply Below.al | apply below_drewN | apply Below.drew | refine Below.next ?_ (by assumption)))⟩
  have d2 : decide (220 < (bs.length : Int)) = false := nb (by omega)
  obtain ⟨bx, be, hbw⟩ : ∃ bx be, Hid (Bwv cs fr dt t n = (bx, be)) := ⟨_, _, rfl⟩
  obtain ⟨oe, hoe⟩ : ∃ oe, Hid (bkE cs bs = oe) := ⟨_, rfl⟩
  obtain ⟨ov, hov⟩ : ∃ ov, Hid (ovL cs bs = ov) := ⟨_, rfl⟩
  obtain ⟨out, fin, er, hcv⟩ : ∃ out fin er, Hid (Crv cs bs fr dt t n = (out, fin, er)) := ⟨_, _, _, rfl⟩
  have hl1 : Hid (ov.length ≤ 1000000) := by have := ovL_len cs bs; rw [hov.out] at this; unfold Hid; omega
  have hl2 : Hid (out.length ≤ 1000000) := by have := Crv_len hcv.out (fun hb => by simp [bytesB] at hb; omega); unfold Hid; omega
  have e1 : (bx != bx) = false := by simp
  have e2 : (be != be) = false := by simp
  have e3 : (oe != oe) = false := by simp
  have e4 : (fin == fin) = true := by simp
  have e5 : (er == er) = true := by simp
  obtain ⟨N, hN⟩ : ∃ N, Hid (cs.length = N) := ⟨_, rfl⟩
  obtain ⟨M, hM⟩ : ∃ M, Hid (bs.length = M) := ⟨_, rfl⟩
  have hl3 : Hid (cs.length ≤ 1000000) := by unfold Hid; omega
  have hl4 : Hid (bs.length ≤ 1000000) := by unfold Hid; omega
  clear hbig hbig2
  have HR0 : Hid (RdC w (.slice a0 cs.length n0) cs) := HR
  go_enter Try.func7, Try.ntmps7
  go_wp2_with fail
  refine (ownPlan_any _ cs hl3.out _ HR.out).mono ?_
  rintro e w1 ⟨v1, rfl, hr1, hb⟩
  have hr0 := HR.out.keep hb
  have hu0 := HU.out.keep hb
  have hB := hb
  clear hb
  go_wp2_with fail
  refine (ownInts_any _ bs hl4.out _ hu0).mono ?_
  rintro e w2 ⟨u1, rfl, hu1, _, hb⟩
  have hr0 := hr0.keep hb
  have hu0 := hu0.keep hb
  have hB := Below.next hB hb
  have hr1 := hr1.keep hb
  clear hb
  go_wp2_with fail
  refine (between_any cs _ fr dt t n bx be HW.out hbw.out _ hr1).mono ?_
  rintro e w3 ⟨rfl, hb⟩
  have hr0 := hr0.keep hb
  have hu0 := hu0.keep hb
  have hB := Below.next hB hb
  have hr1 := hr1.keep hb
  have hu1 := hu1.keep hb
  clear hb
  go_wp2_with fail
  refine (rbetween_any cs _ fr dt t n bx be hbw.out _ hr0).mono ?_
  rintro e w4 ⟨rfl, hb⟩
  have hr0 := hr0.keep hb
  have hu0 := hu0.keep hb
  have hB := Below.next hB hb
  have hr1 := hr1.keep hb
  have hu1 := hu1.keep hb
  clear hb
  go_wp2_with fail
  refine (vOver_any cs _ bs _ HW.out _ hr1 hu1).mono ?_
  rintro e w5 ⟨o1, rfl, ho1, _, hb⟩
  rw [hoe.out]
  have hr0 := hr0.keep hb
  have hu0 := hu0.keep hb
  have hB := Below.next hB hb
  have hr1 := hr1.keep hb
  have hu1 := hu1.keep hb
  clear hb
  go_wp2_with fail
  refine (rOver_any cs _ bs _ _ hr0 hu0).mono ?_
  rintro e w6 ⟨o2, rfl, ho2, _, hb⟩
  rw [hoe.out]
  have hr0 := hr0.keep hb
  have hu0 := hu0.keep hb
  have hB := Below.next hB hb
  have hr1 := hr1.keep hb
  have hu1 := hu1.keep hb
  have ho1 := ho1.keep hb
  rw [hov.out] at ho1 ho2
  clear hb
  go_wp2_with fail
  refine (sameInts_eq _ _ ov hl1.out _ ho1 ho2).mono ?_
  rintro e w7 ⟨rfl, hb⟩
  have hr0 := hr0.keep hb
  have hu0 := hu0.keep hb
  have hB := Below.next hB hb
  have hr1 := hr1.keep hb
  have hu1 := hu1.keep hb
  clear hb ho1 ho2
  go_wp2_with fail
  refine (carry_any cs _ bs _ fr dt t n HW.out er fin out hcv.out _ hr1 hu1).mono ?_
  rintro e w8 ⟨c1, rfl, hc1, hb⟩
  have hr0 := hr0.keep hb
  have hu0 := hu0.keep hb
  have hB := Below.next hB hb
  have hr1 := hr1.keep hb
  have hu1 := hu1.keep hb
  clear hb
  go_wp2_with fail
  refine (rcarry_any cs _ bs _ fr dt t n er fin out hcv.out _ hr0 hu0).mono ?_
  rintro e w9 ⟨c2, rfl, hc2, hb⟩
  have hr0 := hr0.keep hb
  have hu0 := hu0.keep hb
  have hB := Below.next hB hb
  have hr1 := hr1.keep hb
  have hu1 := hu1.keep hb
  have hc1 := hc1.keep hb
  clear hb
  go_wp2_with fail
  refine (sameInts_eq _ _ out hl2.out _ hc1 hc2).mono ?_
  rintro e w10 ⟨rfl, hb⟩
  have hr0 := hr0.keep hb
  have hu0 := hu0.keep hb
  have hB := Below.next hB hb
  have hr1 := hr1.keep hb
  have hu1 := hu1.keep hb
  clear hb hc1 hc2
  go_wp2_with fail
  refine (samePlan_eq _ _ cs hl3.out _ hr1 hr0).mono ?_
  rintro e w11 ⟨rfl, hb⟩
  have hr0 := hr0.keep hb
  have hu0 := hu0.keep hb
  have hB := Below.next hB hb
  have hr1 := hr1.keep hb
  have hu1 := hu1.keep hb
  clear hb
  go_wp2_with fail
  refine (sameInts_eq _ _ bs hl4.out _ hu1 hu0).mono ?_
  rintro e w12 ⟨rfl, hb⟩
  have hr0 := hr0.keep hb
  have hu0 := hu0.keep hb
  have hB := Below.next hB hb
  clear hb
  go_wp2_with fail
  refine (awake_any _).mono ?_
  rintro e w13 ⟨rfl, hb⟩
  have hB := Below.next hB hb
  clear hb
  go_wp2_with fail
  go_ret
  exact ⟨rfl, hB⟩
end Go.Proofs.Ytnbjdgjopdeolaa
