

/- Links: the laws' witness that the program does something (awake). -/
import Derived.Test.YtimkeafpefkheaaDoorV
namespace Go.Proofs.YtimkeafpefkheaaDoor
open Go.RowKit
set_option linter.unusedSimpArgs false
set_option linter.unusedVariables false
set_option maxRecDepth 100000

def sa : Fr := ⟨#[97]⟩
def sbc : Fr := ⟨#[98, 99]⟩
def sdef : Fr := ⟨#[100, 101, 102]⟩
theorem push3 : pushV [sa, sbc] sdef = (threeL, true, 0) := by decide +kernel
theorem del3 : delV threeL 1 = ([sa, sdef], sbc, 0) := by decide +kernel
theorem apE3 : apE threeL ⟨3, 0, 2, 0⟩ = 0 := by decide +kernel
theorem apL3 : apL threeL ⟨3, 0, 2, 0⟩ = [sdef, sbc, sa] := by decide +kernel
theorem sz2 : Szs [sa, sbc] := by
  intro s hs
  simp at hs
  rcases hs with rfl | rfl <;> decide
/-- a list literal's reading -/
theorem rd_lit (w : World) (T : TypeId) (l : List Fr) (n : Nat) (hn : l.length = n) (hm : n ≤ 1000) : RdT (w.alloc (.cells (tcs l).toArray T)) (.slice (some ⟨w.heap.size, 0, none⟩) n n) l := by
  subst hn
  refine ⟨by simp, by unfold maxLen; omega, .inr ⟨w.heap.size, 0, l.length, rfl, Nat.le_refl _, fun j u hj => ?_⟩⟩
  rw [(BoxN.new w _ _).cell, Nat.zero_add]
  simpa using hj
set_option maxHeartbeats 2000000 in
theorem awake_any (w : World) (hkd : KD w) : Calls Tryd.prog 11 #[] w fun x w' => x = .returned (.bool true) ∧ Below w.heap.size w w' := by
  have HKD := Lib.hid hkd
  clear hkd
  have hsb : ByteArray.toList sbc = [98, 99] := by decide +kernel
  go_enter Tryd.func11, Tryd.ntmps11
  go_wp2_with fail
  refine (push_any _ [sa, sbc] sz2 sdef (by decide) _ (rd_lit w _ [sa, sbc] 2 rfl (by decide))).mono ?_
  rw [push3]
  rintro x w1 ⟨v1, rfl, hr1, hb1⟩
  have hB1 : Below w.heap.size w w1 := Below.next (Below.al (Below.refl _ w) _) hb1
  have HR1 := Lib.hid hr1
  clear hr1 hb1
  go_wp2_with fail
  refine (three_any _).mono ?_
  rintro x w2 ⟨v2, rfl, hr2, hb2⟩
  have HR1b := Lib.hid (HR1.out.keep hb2)
  have hB2 := Below.next hB1 hb2
  have HR2 := Lib.hid hr2
  clear hr2 hb2 HR1
  go_wp2_with fail
  refine (deliver_any _ threeL threeSz 1 (by constructor <;> decide) _ HR2.out).mono ?_
  rw [del3]
  rintro x w3 ⟨v3, rfl, hr3, hb3⟩
  have HR1c := Lib.hid (HR1b.out.keep hb3)
  have hB3 := Below.next hB2 hb3
  have HR3 := Lib.hid hr3
  clear hr3 hb3 HR1b HR2
  go_wp2_with fail
  refine (three_any _).mono ?_
  rintro x w4 ⟨v4, rfl, hr4, hb4⟩
  have HR1d := Lib.hid (HR1c.out.keep hb4)
  have HR3d := Lib.hid (HR3.out.keep hb4)
  have hB4 := Below.next hB3 hb4
  have HR4 := Lib.hid hr4
  clear hr4 hb4
  go_wp2_with fail
  refine (sameTexts_eq _ _ threeL (by decide) _ HR1d.out HR4.out).mono ?_
  rintro x w5 ⟨rfl, hb5⟩
  have HR3e := Lib.hid (HR3d.out.keep hb5)
  have hB5 := Below.next hB4 hb5
  clear hb5
  go_wp2_with fail
  refine (sameTexts_eq _ _ [sa, sdef] (by decide) _ (HR3e.out.keep (Below.al (Below.refl _ _) _)) (rd_lit w5 _ [sa, sdef] 2 rfl (by decide))).mono ?_
  rintro x w6 ⟨rfl, hb6⟩
  have hB6 : Below w.heap.size w w6 := Below.next (Below.al hB5 _) hb6
  clear hb6
  go_wp2_with fail
  refine (makes_any ⟨3, 0, 2, 0⟩ (by constructor <;> decide) (by constructor <;> decide) _ [sdef, sbc, sa] apE3 apL3 (by decide) _ (HKD.out.keep (Below.al hB6 _)) (rd_lit w6 _ [sdef, sbc, sa] 3 rfl (by decide))).mono ?_
  rintro x w7 ⟨rfl, hb7⟩
  have hB7 : Below w.heap.size w w7 := Below.next (Below.al hB6 _) hb7
  clear hb7
  go_wp2_with fail
  go_ret
  exact ⟨rfl, hB7⟩
end Go.Proofs.YtimkeafpefkheaaDoor
