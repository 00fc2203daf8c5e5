


/- RouteKnown: the law's walk; what the later laws ask. -/
import Derived.Test.YtgmfifilgbbogaaRUa
import Derived.Test.YtgmfifilgbbogaaPP
namespace Go.Proofs.Ytgmfifilgbbogaa
open Go.RowKit
set_option linter.unusedSimpArgs false
set_option linter.unusedVariables false
set_option maxRecDepth 100000

theorem lchecked_any (arr : Int) (l : List Int) (lv : Value) (w : World) (h : RdI .i64 w lv l) :
    Calls Try.prog 30 #[.int .i64 arr, lv] w fun e w' => e = .returned (.int .i64 (checkV exP 1 3 0 100 arr l)) ∧ Below w.heap.size w w' := by
  obtain ⟨a, n, rfl⟩ := h.form
  obtain ⟨L, hL⟩ : ∃ L, l.length = L := ⟨_, rfl⟩
  obtain ⟨g, hg⟩ : ∃ g, checkV exP 1 3 0 100 arr l = g := ⟨_, rfl⟩
  rw [hL] at h ⊢
  rw [hg]
  have HR := Lib.hid h
  have HG := Lib.hid hg
  clear h hL hg
  go_enter Try.func30, Try.ntmps30
  go_wp2_with fail
  refine (shown_any w).mono ?_
  rintro e w1 ⟨b, rfl, hrd, hb1⟩
  have HC := Lib.hid (check_any (.slice (some ⟨b, 0, none⟩) 4 4) (.agg #[.slice a L n, .int .i64 arr]) exP 1 3 0 100 arr l exP_wf w1 hrd ⟨_, rfl, HR.out.keep hb1⟩)
  rw [HG.out] at HC
  clear hrd
  go_wp2_with fail
  refine HC.out.mono ?_
  rintro e w2 ⟨rfl, hb2⟩
  go_wp2_with fail
  go_ret
  exact ⟨rfl, Below.next hb1 hb2⟩
set_option maxHeartbeats 4000000 in
theorem known_any (w : World) : Calls Try.prog 5 #[] w fun e w' => e = .returned (.bool true) ∧ Below w.heap.size w w' := by
  go_enter Try.func5, Try.ntmps5
  go_wp2_with fail
  refine (shown_any w).mono ?_
  rintro e w1 ⟨b1, rfl, hrd1, hb1⟩
  have HH := Lib.hid (hopq_any _ exP 0 9 51 exP_wf w1 hrd1)
  rw [ex_hop2] at HH
  go_wp2_with fail
  refine HH.out.mono ?_
  rintro e w2 ⟨rfl, hb2⟩
  have HB := Lib.hid (Below.next hb1 hb2)
  clear hb1 hb2 hrd1 HH
  obtain ⟨V1, hV⟩ : ∃ V : World, V = (w2).alloc (.cells #[.int .i64 1] 3) := ⟨_, rfl⟩
  have hbv : Below (w2).heap.size w2 V1 := by rw [hV]; exact (by repeat (first | assumption | exact Below.refl _ _ | apply Below.al | apply below_drewN | apply Below.drew | refine Below.next ?_ (by assumption)))
  have HK := Lib.hid (lbest_any 1 3 0 20 2 [1] ex_best2 (.slice (some ⟨(w2).heap.size, 0, none⟩) 1 1) V1 (by rw [hV]; exact RdI.one w2 1))
  have HBV := Lib.hid (Below.next HB.out hbv)
  clear hbv HB
  go_wp2_with (go_at_call 28; rw [← hV]; refine HK.out.mono ?_)
  rintro e w3 ⟨rfl, hb⟩
  have HB := Lib.hid (Below.next HBV.out hb)
  clear hV HK HBV hb
  obtain ⟨V2, hV⟩ : ∃ V : World, V = (w3).alloc (.cells #[.int .i64 1] 3) := ⟨_, rfl⟩
  have hbv : Below (w3).heap.size w3 V2 := by rw [hV]; exact (by repeat (first | assumption | exact Below.refl _ _ | apply Below.al | apply below_drewN | apply Below.drew | refine Below.next ?_ (by assumption)))
  have HK := Lib.hid (lbest_any 1 3 9 100 19 [1] ex_best3 (.slice (some ⟨(w3).heap.size, 0, none⟩) 1 1) V2 (by rw [hV]; exact RdI.one w3 1))
  have HBV := Lib.hid (Below.next HB.out hbv)
  clear hbv HB
  go_wp2_with (go_at_call 28; rw [← hV]; refine HK.out.mono ?_)
  rintro e w4 ⟨rfl, hb⟩
  have HB := Lib.hid (Below.next HBV.out hb)
  clear hV HK HBV hb
  go_wp2_with fail
  refine (lbest_any 2 2 7 1 7 [] ex_best4 (.slice none 0 0) w4 (RdI.nil .i64 w4)).mono ?_
  rintro e w5 ⟨rfl, hb5⟩
  replace HB := Lib.hid (Below.next HB.out hb5)
  clear hb5
  go_wp2_with fail
  refine (lfails_any 1 3 25 100 ex_fails w5).mono ?_
  rintro e w6 ⟨rfl, hb6⟩
  replace HB := Lib.hid (Below.next HB.out hb6)
  clear hb6
  go_wp2_with fail
  refine (awake_any w6).mono ?_
  rintro e w7 ⟨rfl, hb7⟩
  replace HB := Lib.hid (Below.next HB.out hb7)
  clear hb7
  obtain ⟨V3, hV⟩ : ∃ V : World, V = (w7).alloc (.cells #[.int .i64 0, .int .i64 3] 3) := ⟨_, rfl⟩
  have hbv : Below (w7).heap.size w7 V3 := by rw [hV]; exact (by repeat (first | assumption | exact Below.refl _ _ | apply Below.al | apply below_drewN | apply Below.drew | refine Below.next ?_ (by assumption)))
  have HK := Lib.hid (lchecked_any 9 _ _ V3 (by rw [hV]; exact RdI.two w7 0 3))
  rw [ex_check2] at HK
  have HBV := Lib.hid (Below.next HB.out hbv)
  clear hbv HB
  go_wp2_with (go_at_call 30; rw [← hV]; refine HK.out.mono ?_)
  rintro e w8 ⟨rfl, hb⟩
  have HB := Lib.hid (Below.next HBV.out hb)
  clear hV HK HBV hb
  obtain ⟨V4, hV⟩ : ∃ V : World, V = (w8).alloc (.cells #[.int .i64 3, .int .i64 0] 3) := ⟨_, rfl⟩
  have hbv : Below (w8).heap.size w8 V4 := by rw [hV]; exact (by repeat (first | assumption | exact Below.refl _ _ | apply Below.al | apply below_drewN | apply Below.drew | refine Below.next ?_ (by assumption)))
  have HK := Lib.hid (lchecked_any 8 _ _ V4 (by rw [hV]; exact RdI.two w8 3 0))
  rw [ex_check3] at HK
  have HBV := Lib.hid (Below.next HB.out hbv)
  clear hbv HB
  go_wp2_with (go_at_call 30; rw [← hV]; refine HK.out.mono ?_)
  rintro e w9 ⟨rfl, hb⟩
  have HB := Lib.hid (Below.next HBV.out hb)
  clear hV HK HBV hb
  obtain ⟨V5, hV⟩ : ∃ V : World, V = (w9).alloc (.cells #[.int .i64 7] 3) := ⟨_, rfl⟩
  have hbv : Below (w9).heap.size w9 V5 := by rw [hV]; exact (by repeat (first | assumption | exact Below.refl _ _ | apply Below.al | apply below_drewN | apply Below.drew | refine Below.next ?_ (by assumption)))
  have HK := Lib.hid (lchecked_any 8 _ _ V5 (by rw [hV]; exact RdI.one w9 7))
  rw [ex_check4] at HK
  have HBV := Lib.hid (Below.next HB.out hbv)
  clear hbv HB
  go_wp2_with (go_at_call 30; rw [← hV]; refine HK.out.mono ?_)
  rintro e w10 ⟨rfl, hb⟩
  have HB := Lib.hid (Below.next HBV.out hb)
  clear hV HK HBV hb
  go_wp2_with fail
  go_ret
  exact ⟨rfl, HB.out⟩
end Go.Proofs.Ytgmfifilgbbogaa
