

/- Links: LinkKnown holds of what is computed (walk). -/
import Derived.Test.YtimkeafpefkheaaDoorXA
namespace Go.Proofs.YtimkeafpefkheaaDoor
open Go.RowKit
set_option linter.unusedSimpArgs false
set_option linter.unusedVariables false
set_option maxRecDepth 100000
def l1 : List Fr := [sa, sdef]
def l2 : List Fr := [sa, sa, sbc, sdef]
def l3 : List Fr := [sa, sbc, ⟨#[100, 100, 102]⟩]
def l4 : List Fr := [sa, sbc, ⟨#[100]⟩]
set_option maxHeartbeats 4000000 in
theorem known_any (w : World) (hkd : KD w) : Calls Tryd.prog 5 #[] w fun x w' => x = .returned (.bool true) ∧ Below w.heap.size w w' := by
  have HKD := Lib.hid hkd
  clear hkd
  have hB := Below.refl w.heap.size w
  go_enter Tryd.func5, Tryd.ntmps5
  go_wp2_with fail
  refine (makes_any ⟨1, 1, 0, 0⟩ (by constructor <;> decide) (by constructor <;> decide) _ [sa, sdef] (by decide +kernel) (by decide +kernel) (by decide) _ (HKD.out.keep (Below.al hB _)) (rd_lit _ _ [sa, sdef] 2 rfl (by decide))).mono ?_
  rintro x w1 ⟨rfl, hb⟩
  have hB := Below.next (Below.al hB _) hb
  clear hb
  go_wp2_with fail
  refine (makes_any ⟨2, 0, 0, 0⟩ (by constructor <;> decide) (by constructor <;> decide) _ [sa, sa, sbc, sdef] (by decide +kernel) (by decide +kernel) (by decide) _ (HKD.out.keep (Below.al hB _)) (rd_lit _ _ [sa, sa, sbc, sdef] 4 rfl (by decide))).mono ?_
  rintro x w2 ⟨rfl, hb⟩
  have hB := Below.next (Below.al hB _) hb
  clear hb
  go_wp2_with fail
  refine (makes_any ⟨4, 2, 1, 1⟩ (by constructor <;> decide) (by constructor <;> decide) _ [sa, sbc, ⟨#[100, 100, 102]⟩] (by decide +kernel) (by decide +kernel) (by decide) _ (HKD.out.keep (Below.al hB _)) (rd_lit _ _ [sa, sbc, ⟨#[100, 100, 102]⟩] 3 rfl (by decide))).mono ?_
  rintro x w3 ⟨rfl, hb⟩
  have hB := Below.next (Below.al hB _) hb
  clear hb
  go_wp2_with fail
  refine (makes_any ⟨5, 2, 1, 0⟩ (by constructor <;> decide) (by constructor <;> decide) _ [sa, sbc, ⟨#[100]⟩] (by decide +kernel) (by decide +kernel) (by decide) _ (HKD.out.keep (Below.al hB _)) (rd_lit _ _ [sa, sbc, ⟨#[100]⟩] 3 rfl (by decide))).mono ?_
  rintro x w4 ⟨rfl, hb⟩
  have hB := Below.next (Below.al hB _) hb
  clear hb
  go_wp2_with fail
  refine (three_any _).mono ?_
  rintro x w5 ⟨v, rfl, hr, hb⟩
  have HR := Lib.hid hr
  try have b6 := b6.below hb
  try have b8 := b8.below hb
  have hB := Below.next hB hb
  clear hr hb
  go_wp2_with fail
  refine (undo_any _ threeL threeSz ⟨2, 0, 0, 0⟩ (by constructor <;> decide) (by constructor <;> decide) _ (HKD.out.keep hB) HR.out).mono ?_
  rw [show undoV threeL ⟨2, 0, 0, 0⟩ = (⟨1, 0, 0, 0⟩, true, 0) by unfold undoV; rw [show apE threeL ⟨2, 0, 0, 0⟩ = 0 by decide +kernel]; rfl]
  rintro x w6 ⟨rfl, hb⟩
  have hB := Below.next hB hb
  try have b6 := b6.below hb
  try have b8 := b8.below hb
  dsimp only
  clear HR
  have b6 := BoxN.new w6 36 #[.int .i64 1, .int .i64 0, .int .i64 0, .int .i64 0]
  have hB := Below.al hB (.cells #[.int .i64 1, .int .i64 0, .int .i64 0, .int .i64 0] 36)
  go_wp2_with fail
  refine (three_any _).mono ?_
  rintro x w7 ⟨v, rfl, hr, hb⟩
  have HR := Lib.hid hr
  try have b6 := b6.below hb
  try have b8 := b8.below hb
  have hB := Below.next hB hb
  clear hr hb
  go_wp2_with fail
  refine (undo_any _ threeL threeSz ⟨3, 0, 2, 0⟩ (by constructor <;> decide) (by constructor <;> decide) _ (HKD.out.keep hB) HR.out).mono ?_
  rw [show undoV threeL ⟨3, 0, 2, 0⟩ = (⟨3, 0, 2, 0⟩, true, 0) by unfold undoV; rw [show apE threeL ⟨3, 0, 2, 0⟩ = 0 by decide +kernel]; rfl]
  rintro x w8 ⟨rfl, hb⟩
  have hB := Below.next hB hb
  try have b6 := b6.below hb
  try have b8 := b8.below hb
  dsimp only
  clear HR
  have b6 := b6.below (Below.al (Below.refl _ w8) (.cells #[.int .i64 3, .int .i64 0, .int .i64 2, .int .i64 0] 36))
  have b8 := BoxN.new w8 36 #[.int .i64 3, .int .i64 0, .int .i64 2, .int .i64 0]
  have hB := Below.al hB (.cells #[.int .i64 3, .int .i64 0, .int .i64 2, .int .i64 0] 36)
  go_wp2_with fail
  refine (three_any _).mono ?_
  rintro x w9 ⟨v, rfl, hr, hb⟩
  have HR := Lib.hid hr
  try have b6 := b6.below hb
  try have b8 := b8.below hb
  have hB := Below.next hB hb
  clear hr hb
  go_wp2_with fail
  refine (undo_any _ threeL threeSz ⟨1, 1, 0, 0⟩ (by constructor <;> decide) (by constructor <;> decide) _ (HKD.out.keep hB) HR.out).mono ?_
  rw [show undoV threeL ⟨1, 1, 0, 0⟩ = (⟨0, 0, 0, 0⟩, false, 0) by unfold undoV; rw [show apE threeL ⟨1, 1, 0, 0⟩ = 0 by decide +kernel]; rfl]
  rintro x w10 ⟨rfl, hb⟩
  have hB := Below.next hB hb
  try have b6 := b6.below hb
  try have b8 := b8.below hb
  dsimp only
  clear HR
  have b6 := b6.below (Below.al (Below.refl _ w10) (.cells #[.int .i64 0, .int .i64 0, .int .i64 0, .int .i64 0] 36))
  have b8 := b8.below (Below.al (Below.refl _ w10) (.cells #[.int .i64 0, .int .i64 0, .int .i64 0, .int .i64 0] 36))
  have hB := Below.al hB (.cells #[.int .i64 0, .int .i64 0, .int .i64 0, .int .i64 0] 36)
  go_wp2_with fail
  refine (fails_any ⟨1, 3, 0, 0⟩ (by constructor <;> decide) (by constructor <;> decide) _ (HKD.out.keep hB)).mono ?_
  rw [show apE threeL ⟨1, 3, 0, 0⟩ = 2 by decide +kernel]
  rintro x w11 ⟨rfl, hb⟩
  have hB := Below.next hB hb
  have b6 := b6.below hb
  have b8 := b8.below hb
  go_wp2_with fail
  refine (fails_any ⟨5, 0, 1, 0⟩ (by constructor <;> decide) (by constructor <;> decide) _ (HKD.out.keep hB)).mono ?_
  rw [show apE threeL ⟨5, 0, 1, 0⟩ = 2 by decide +kernel]
  rintro x w12 ⟨rfl, hb⟩
  have hB := Below.next hB hb
  have b6 := b6.below hb
  have b8 := b8.below hb
  go_wp2_with fail
  refine (fails_any ⟨4, 0, 0, 0⟩ (by constructor <;> decide) (by constructor <;> decide) _ (HKD.out.keep hB)).mono ?_
  rw [show apE threeL ⟨4, 0, 0, 0⟩ = 2 by decide +kernel]
  rintro x w13 ⟨rfl, hb⟩
  have hB := Below.next hB hb
  have b6 := b6.below hb
  have b8 := b8.below hb
  go_wp2_with fail
  refine (fails_any ⟨1, 1, 1, 0⟩ (by constructor <;> decide) (by constructor <;> decide) _ (HKD.out.keep hB)).mono ?_
  rw [show apE threeL ⟨1, 1, 1, 0⟩ = 2 by decide +kernel]
  rintro x w14 ⟨rfl, hb⟩
  have hB := Below.next hB hb
  have b6 := b6.below hb
  have b8 := b8.below hb
  go_wp2_with fail
  refine (fails_any ⟨6, 0, 0, 0⟩ (by constructor <;> decide) (by constructor <;> decide) _ (HKD.out.keep hB)).mono ?_
  rw [show apE threeL ⟨6, 0, 0, 0⟩ = 7 by decide +kernel]
  rintro x w15 ⟨rfl, hb⟩
  have hB := Below.next hB hb
  have b6 := b6.below hb
  have b8 := b8.below hb
  go_wp2_with fail
  refine (awake_any _ (HKD.out.keep hB)).mono ?_
  rintro x w16 ⟨rfl, hb⟩
  have hB := Below.next hB hb
  have b6 := b6.below hb
  have b8 := b8.below hb
  have c0 : w16.cell? ⟨w6.heap.size, 0, none⟩ = some (.int .i64 1) := b6.cell 0
  have c1 : w16.cell? ⟨w6.heap.size, 1, none⟩ = some (.int .i64 0) := b6.cell 1
  have c2 : w16.cell? ⟨w6.heap.size, 2, none⟩ = some (.int .i64 0) := b6.cell 2
  have c3 : w16.cell? ⟨w6.heap.size, 3, none⟩ = some (.int .i64 0) := b6.cell 3
  have d0 : w16.cell? ⟨w8.heap.size, 0, none⟩ = some (.int .i64 3) := b8.cell 0
  have d1 : w16.cell? ⟨w8.heap.size, 1, none⟩ = some (.int .i64 0) := b8.cell 1
  have d2 : w16.cell? ⟨w8.heap.size, 2, none⟩ = some (.int .i64 2) := b8.cell 2
  have d3 : w16.cell? ⟨w8.heap.size, 3, none⟩ = some (.int .i64 0) := b8.cell 3
  clear b6 b8 hb
  go_wp2_with fail
  go_ret
  exact ⟨rfl, hB⟩
end Go.Proofs.YtimkeafpefkheaaDoor
