

/- Links: LinkPushes holds of what is computed (walk). -/
import Derived.Test.YtimkeafpefkheaaDoorXA
namespace Go.Proofs.YtimkeafpefkheaaDoor
open Go.RowKit
set_option linter.unusedSimpArgs false
set_option linter.unusedVariables false
set_option maxRecDepth 100000

theorem pushV_len (l : List Fr) (f : Fr) : (pushV l f).1.length ≤ l.length + 1 := by
  unfold pushV; split
  · simp
  · split
    · simp
    · split <;> simp
theorem delV_len (l : List Fr) (i : Int) : (delV l i).1.length ≤ l.length + l.length := by
  unfold delV; split
  · simp
  · split
    · simp
    · simp; omega
set_option maxHeartbeats 4000000 in
theorem pushes_any (v : Value) (l : List Fr) (hz : Szs l) (f : Fr) (hf : f.size ≤ 9223372036854775807) (i : Int) (hi : Ib i) (w : World) (hkd : KD w) (h : RdT w v l) :
    Calls Tryd.prog 3 #[v, .string f, .int .i64 i] w fun x w' => x = .returned (.bool true) ∧ Below w.heap.size w w' := by
  have HKD := Lib.hid hkd
  have HR := Lib.hid h
  have HZ := Lib.hid hz
  clear hkd h hz
  go_enter Tryd.func3, Tryd.ntmps3
  go_wp2_with fail
  refine (light_any _ l HZ.out _ HR.out).mono ?_
  rintro x w1 ⟨b, rfl, hb, rfl⟩
  cases b
  · go_wp2_with fail
    refine (awake_any _ HKD.out).mono ?_
    rintro x w2 ⟨rfl, hb2⟩
    go_wp2_with fail
    go_ret
    exact ⟨rfl, hb2⟩
  · have hl := (hb rfl).1
    clear hb
    by_cases c1 : (1300 : Int) < (f.size : Int)
    · have d1 : decide ((1300 : Int) < (f.size : Int)) = true := yb c1
      clear c1
      go_wp2_with fail
      refine (awake_any _ HKD.out).mono ?_
      rintro x w2 ⟨rfl, hb2⟩
      go_wp2_with fail
      go_ret
      exact ⟨rfl, hb2⟩
    · have d1 : decide ((1300 : Int) < (f.size : Int)) = false := nb c1
      clear c1
      obtain ⟨e, n, hen⟩ : ∃ e n, chkL l = (e, n) := ⟨_, _, rfl⟩
      have HEN := Lib.hid hen
      obtain ⟨p1, p2, p3, hp⟩ : ∃ p1 p2 p3, pushV l f = (p1, p2, p3) := ⟨_, _, _, rfl⟩
      have HP := Lib.hid hp
      obtain ⟨q1, q2, q3, hq⟩ : ∃ q1 q2 q3, delV l i = (q1, q2, q3) := ⟨_, _, _, rfl⟩
      have HQ := Lib.hid hq
      have hpl : p1.length ≤ 1000000 := by have := pushV_len l f; rw [hp] at this; dsimp only at this; omega
      have hql : q1.length ≤ 1000000 := by have := delV_len l i; rw [hq] at this; dsimp only at this; omega
      clear hen hp hq
      go_wp2_with fail
      refine (ownTexts_any _ l (by omega) _ HR.out).mono ?_
      rintro x w2 ⟨a, c, rfl, hown, hb2⟩
      have HV := Lib.hid (RdT.of_owns hown)
      have HR2 := Lib.hid (HR.out.keep hb2)
      clear hown
      go_wp2_with fail
      refine (check_is _ l HZ.out e n HEN.out _ HV.out).mono ?_
      rintro x w3 ⟨rfl, rfl⟩
      go_wp2_with fail
      refine (rcheck_is _ l HZ.out e n HEN.out _ HR2.out).mono ?_
      rintro x w3 ⟨rfl, rfl⟩
      go_wp2_with fail
      refine (push_any _ l HZ.out f hf _ HV.out).mono ?_
      rw [HP.out]
      rintro x w4 ⟨v4, rfl, hr4, hb4⟩
      have HR4 := Lib.hid hr4
      have HV4 := Lib.hid (HV.out.keep hb4)
      have HL4 := Lib.hid (HR2.out.keep hb4)
      have hB4 := Below.next hb2 hb4
      clear hr4 hb4
      go_wp2_with fail
      refine (rpush_any _ l HZ.out f hf _ HL4.out).mono ?_
      rw [HP.out]
      rintro x w5 ⟨v5, rfl, hr5, hb5⟩
      have HR5 := Lib.hid hr5
      have HR45 := Lib.hid (HR4.out.keep hb5)
      have HV5 := Lib.hid (HV4.out.keep hb5)
      have HL5 := Lib.hid (HL4.out.keep hb5)
      have hB5 := Below.next hB4 hb5
      clear hr5 hb5
      go_wp2_with fail
      refine (sameTexts_eq _ _ p1 hpl _ HR45.out HR5.out).mono ?_
      rintro x w6 ⟨rfl, hb6⟩
      have HV6 := Lib.hid (HV5.out.keep hb6)
      have HL6 := Lib.hid (HL5.out.keep hb6)
      have hB6 := Below.next hB5 hb6
      clear hb6
      go_wp2_with fail
      refine (deliver_any _ l HZ.out i hi _ HV6.out).mono ?_
      rw [HQ.out]
      rintro x w7 ⟨v7, rfl, hr7, hb7⟩
      have HR7 := Lib.hid hr7
      have HV7 := Lib.hid (HV6.out.keep hb7)
      have HL7 := Lib.hid (HL6.out.keep hb7)
      have hB7 := Below.next hB6 hb7
      clear hr7 hb7
      go_wp2_with fail
      refine (rdeliver_any _ l HZ.out i hi _ HL7.out).mono ?_
      rw [HQ.out]
      rintro x w8 ⟨v8, rfl, hr8, hb8⟩
      have HR8 := Lib.hid hr8
      have HR78 := Lib.hid (HR7.out.keep hb8)
      have HV8 := Lib.hid (HV7.out.keep hb8)
      have HL8 := Lib.hid (HL7.out.keep hb8)
      have hB8 := Below.next hB7 hb8
      clear hr8 hb8
      go_wp2_with fail
      refine (sameTexts_eq _ _ q1 hql _ HR78.out HR8.out).mono ?_
      rintro x w9 ⟨rfl, hb9⟩
      have HV9 := Lib.hid (HV8.out.keep hb9)
      have HL9 := Lib.hid (HL8.out.keep hb9)
      have hB9 := Below.next hB8 hb9
      clear hb9
      go_wp2_with fail
      refine (sameTexts_eq _ _ l (by omega) _ HV9.out HL9.out).mono ?_
      rintro x w10 ⟨rfl, hb10⟩
      have hB10 := Below.next hB9 hb10
      clear hb10
      go_wp2_with fail
      refine (awake_any _ (HKD.out.keep hB10)).mono ?_
      rintro x w11 ⟨rfl, hb11⟩
      have hB11 := Below.next hB10 hb11
      go_wp2_with fail
      go_ret
      exact ⟨rfl, hB11⟩
end Go.Proofs.YtimkeafpefkheaaDoor
