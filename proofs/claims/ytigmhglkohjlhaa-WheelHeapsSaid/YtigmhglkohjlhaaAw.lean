


/- Timers: the chapter's example, which every law asks. -/
import Derived.Test.YtigmhglkohjlhaaV
namespace Go.Proofs.Ytigmhglkohjlhaa
open Go.RowKit
set_option linter.unusedSimpArgs false
set_option linter.unusedVariables false
set_option maxRecDepth 100000

/-- a timer of one bundle -/
def atm (x y : Int) : Tm := ⟨x, y, 1, 1, 0⟩
def exF : List Tm := [atm 3 2, atm 5 1, atm 4 3]
instance : DecidableEq Tm := fun a b => decidable_of_iff (a.tk = b.tk ∧ a.kd = b.kd ∧ a.nd = b.nd ∧ a.sq = b.sq ∧ a.of = b.of) ⟨fun h => tm_ext h.1 h.2.1 h.2.2.1 h.2.2.2.1 h.2.2.2.2, fun h => by cases h; exact ⟨rfl, rfl, rfl, rfl, rfl⟩⟩
theorem ex_mk : mkL [atm 5 1, atm 3 2, atm 4 3] = (exF, 0) := by decide +kernel
theorem ex_due : dueW exF 4 = ([atm 3 2, atm 4 3], [atm 5 1], 0) := by decide +kernel
theorem rd_lit (w : World) (l : List Tm) (hl : l.length ≤ 1000) : RdM (w.alloc (.cells (rcs tmR l).toArray 41)) (.slice (some ⟨w.heap.size, 0, none⟩) l.length l.length) l :=
  RdS.of_owns (owns_block _ 0 41 5 l.length (rcs tmR l) w.heap.size (Nat.zero_le _) (heap_last w _) (rcs_length tmR l) (by unfold maxLen; omega)) (by decide)
theorem at_any (x y : Int) (w : World) : Calls Try.prog 28 #[.int .i64 x, .int .i64 y] w fun e w' => e = .returned (atm x y).v ∧ Below w.heap.size w w' := by
  obtain ⟨W, hW⟩ : ∃ W : World, W = w.alloc (.cells #[.int .i64 x, .int .i64 y, .int .i64 1, .int .u64 1, .int .i64 0] 41) := ⟨_, rfl⟩
  have hB : Below w.heap.size w W := by rw [hW]; exact (by repeat (first | assumption | exact Below.refl _ _ | apply Below.al | apply below_drewN | apply Below.drew | refine Below.next ?_ (by assumption)))
  have bT : BoxN W w.heap.size 41 #[.int .i64 x, .int .i64 y, .int .i64 1, .int .u64 1, .int .i64 0] := by rw [hW]; exact BoxN.new _ _ _
  have c0 : W.cell? ⟨w.heap.size, 0, none⟩ = some (.int .i64 x) := (bT.cell 0).trans rfl
  have c1 : W.cell? ⟨w.heap.size, 1, none⟩ = some (.int .i64 y) := (bT.cell 1).trans rfl
  have c2 : W.cell? ⟨w.heap.size, 2, none⟩ = some (.int .i64 1) := (bT.cell 2).trans rfl
  have c3 : W.cell? ⟨w.heap.size, 3, none⟩ = some (.int .u64 1) := (bT.cell 3).trans rfl
  have c4 : W.cell? ⟨w.heap.size, 4, none⟩ = some (.int .i64 0) := (bT.cell 4).trans rfl
  go_enter Try.func28, Try.ntmps28
  go_wp2_with fail
  rw [← hW]
  clear hW
  exact bodyPost_ret (v := (atm x y).v) (by simp [results, Try.results28, go_sem, c0, c1, c2, c3, c4, atm, Tm.v]) rfl ⟨rfl, hB⟩
theorem first_any (w : World) : Calls Try.prog 27 #[] w fun e w' => ∃ b, e = .returned (.slice (some ⟨b, 0, none⟩) 3 3) ∧ RdM w' (.slice (some ⟨b, 0, none⟩) 3 3) exF ∧ Below w.heap.size w w' := by
  go_enter Try.func27, Try.ntmps27
  go_wp2_with fail
  refine (at_any 3 2 _).mono ?_
  rintro e w1 ⟨rfl, hb1⟩
  go_wp2_with fail
  refine (at_any 5 1 _).mono ?_
  rintro e w2 ⟨rfl, hb2⟩
  go_wp2_with fail
  refine (at_any 4 3 _).mono ?_
  rintro e w3 ⟨rfl, hb3⟩
  have hB3 := Below.next (Below.next hb1 hb2) hb3
  have HL := Lib.hid (rd_lit w3 exF (by decide))
  clear hb1 hb2 hb3
  go_wp2_with fail
  go_ret
  exact ⟨w3.heap.size, rfl, HL.out, Below.al hB3 _⟩
theorem awake_any (w : World) : Calls Try.prog 11 #[] w fun e w' => e = .returned (.bool true) ∧ Below w.heap.size w w' := by
  have HMK := Lib.hid ex_mk
  have HDU := Lib.hid ex_due
  go_enter Try.func11, Try.ntmps11
  go_wp2_with fail
  refine (at_any 5 1 _).mono ?_
  rintro e w1 ⟨rfl, hb1⟩
  go_wp2_with fail
  refine (at_any 3 2 _).mono ?_
  rintro e w2 ⟨rfl, hb2⟩
  go_wp2_with fail
  refine (at_any 4 3 _).mono ?_
  rintro e w3 ⟨rfl, hb3⟩
  have hB3 := Below.next (Below.next hb1 hb2) hb3
  have HL := Lib.hid (rd_lit w3 [atm 5 1, atm 3 2, atm 4 3] (by decide))
  have hB4 := Below.al hB3 (.cells (rcs tmR [atm 5 1, atm 3 2, atm 4 3]).toArray 41)
  clear hb1 hb2 hb3 hB3
  go_wp2_with fail
  refine (make_any _ [atm 5 1, atm 3 2, atm 4 3] (by decide) _ HL.out).mono ?_
  rw [HMK.out]
  rintro e w5 ⟨v5, rfl, h5, hb5⟩
  have hB5 := Below.next hB4 hb5
  obtain ⟨a5, c5, rfl⟩ := h5.form
  rw [show exF.length = 3 from rfl] at h5 ⊢
  have H5 := Lib.hid h5
  clear hB4 hb5 h5
  go_wp2_with fail
  refine (first_any _).mono ?_
  rintro e w6 ⟨b6, rfl, h6, hb6⟩
  have hB6 := Below.next hB5 hb6
  have H5 := Lib.hid (RdL.keep hb6 H5.out)
  have H6 := Lib.hid h6
  clear hB5 hb6 h6
  go_wp2_with fail
  refine (due_any _ exF 4 _ H6.out).mono ?_
  rw [HDU.out]
  rintro e w7 ⟨v7, u7, rfl, h7, g7, hb7⟩
  have hB7 := Below.next hB6 hb7
  have H5 := Lib.hid (RdL.keep hb7 H5.out)
  obtain ⟨a7, c7, rfl⟩ := h7.form
  obtain ⟨i7, j7, rfl⟩ := g7.form
  simp only [List.length_cons, List.length_nil, Nat.reduceAdd] at h7 g7
  have H7 := Lib.hid h7
  have G7 := Lib.hid g7
  clear hB6 hb7 h7 g7
  go_wp2_with fail
  refine (first_any _).mono ?_
  rintro e w8 ⟨b8, rfl, h8, hb8⟩
  have hB8 := Below.next hB7 hb8
  have H5 := Lib.hid (RdL.keep hb8 H5.out)
  have H7 := Lib.hid (RdL.keep hb8 H7.out)
  have G7 := Lib.hid (RdL.keep hb8 G7.out)
  have H8 := Lib.hid h8
  clear hB7 hb8 h8
  go_wp2_with fail
  refine (same_eq _ _ exF _ H5.out H8.out).mono ?_
  rintro e w9 ⟨rfl, hb9⟩
  have hB9 := Below.next hB8 hb9
  have H7 := Lib.hid (RdL.keep hb9 H7.out)
  have G7 := Lib.hid (RdL.keep hb9 G7.out)
  clear hB8 hb9 H5 H8
  go_wp2_with fail
  refine (at_any 3 2 _).mono ?_
  rintro e wa ⟨rfl, hba⟩
  go_wp2_with fail
  refine (at_any 4 3 _).mono ?_
  rintro e wb ⟨rfl, hbb⟩
  have hbab := Below.next hba hbb
  have hbc := Below.al hbab (.cells (rcs tmR [atm 3 2, atm 4 3]).toArray 41)
  have hBc := Below.next hB9 hbc
  have HL := Lib.hid (rd_lit wb [atm 3 2, atm 4 3] (by decide))
  have H7 := Lib.hid (RdL.keep hbc H7.out)
  have G7 := Lib.hid (RdL.keep hbc G7.out)
  clear hB9 hba hbb hbab hbc
  go_wp2_with fail
  refine (same_eq _ _ [atm 3 2, atm 4 3] _ H7.out HL.out).mono ?_
  rintro e wd ⟨rfl, hbd⟩
  have hBd := Below.next hBc hbd
  have G7 := Lib.hid (RdL.keep hbd G7.out)
  clear hBc hbd H7 HL
  go_wp2_with fail
  refine (at_any 5 1 _).mono ?_
  rintro e we ⟨rfl, hbe⟩
  have hbf := Below.al hbe (.cells (rcs tmR [atm 5 1]).toArray 41)
  have hBf := Below.next hBd hbf
  have HL := Lib.hid (rd_lit we [atm 5 1] (by decide))
  have G7 := Lib.hid (RdL.keep hbf G7.out)
  clear hBd hbe hbf
  go_wp2_with fail
  refine (same_eq _ _ [atm 5 1] _ G7.out HL.out).mono ?_
  rintro e wg ⟨rfl, hbg⟩
  have hBg := Below.next hBf hbg
  clear hBf hbg G7 HL
  go_wp2_with fail
  go_ret
  exact ⟨rfl, hBg⟩
end Go.Proofs.Ytigmhglkohjlhaa
