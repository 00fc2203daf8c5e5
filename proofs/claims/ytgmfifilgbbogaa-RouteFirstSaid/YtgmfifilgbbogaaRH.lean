


/- Routes: the reference's Best. -/
import Derived.Test.YtgmfifilgbbogaaRGm
namespace Go.Proofs.Ytgmfifilgbbogaa
open Go.RowKit
set_option linter.unusedSimpArgs false
set_option linter.unusedVariables false
set_option maxRecDepth 100000

/-- what Best answers -/
def BestQ (cs : List Ct) (u v t n : Int) (er arr : Int) (l : List Nat) : Prop := (chkE cs t n [u, v] ≠ 0 ∧ er = chkE cs t n [u, v] ∧ arr = 0 ∧ l = []) ∨ (chkE cs t n [u, v] = 0 ∧ arrE cs n u t v < 0 ∧ er = 15 ∧ arr = 0 ∧ l = []) ∨ (chkE cs t n [u, v] = 0 ∧ er = 0 ∧ arr = arrE cs n u t v ∧ ∃ h, BestR cs n u t v arr h l)
theorem bestq_ex (cs : List Ct) (u v t n : Int) : ∃ er arr l, BestQ cs u v t n er arr l := by
  by_cases h0 : chkE cs t n [u, v] = 0
  · obtain ⟨hp, hq, hno⟩ := chkE_ok h0
    obtain ⟨hpk, hpl⟩ := planOk hp
    have hu := hno u (by simp)
    have hv := hno v (by simp)
    by_cases hn : arrE cs n u t v < 0
    · exact ⟨_, _, _, .inr (.inl ⟨h0, hn, rfl, rfl, rfl⟩)⟩
    · obtain ⟨k, l, hb⟩ := best_ex (arr_least hpk hq.2.2.1 hu hq.1 (by omega) (v := v)) (by omega)
      exact ⟨_, _, _, .inr (.inr ⟨h0, rfl, rfl, k, hb⟩)⟩
  · exact ⟨_, _, _, .inl ⟨h0, rfl, rfl, rfl⟩⟩
set_option maxHeartbeats 2000000 in
theorem rbest_any (pv : Value) (cs : List Ct) (u v t n er arr : Int) (l : List Nat) (hq : BestQ cs u v t n er arr l) (w : World) (hr : RdC w pv cs) :
    Calls Try.prog 13 #[pv, .int .i64 u, .int .i64 v, .int .i64 t, .int .i64 n] w fun e w' => (∃ rv, e = .returned (.tuple #[rv, .int .i64 er]) ∧ RtF w' (w.heap.size + 1) rv arr (ints l)) ∧ Below w.heap.size w w' := by
  obtain ⟨a0, n0, rfl⟩ := hr.form
  obtain ⟨N, hN⟩ : ∃ N, cs.length = N := ⟨_, rfl⟩
  rw [hN] at hr ⊢
  obtain ⟨W0, hW0⟩ : ∃ W : World, W = w.alloc (.cells #[.slice none 0 0, .int .i64 0] 27) := ⟨_, rfl⟩
  have hB0 : Below w.heap.size w W0 := by rw [hW0]; exact (by repeat (first | assumption | exact Below.refl _ _ | apply Below.al | apply below_drewN | apply Below.drew | refine Below.next ?_ (by assumption)))
  have hs0 : w.heap.size + 1 = W0.heap.size := by rw [hW0]; simp
  have hr0 : BoxN W0 w.heap.size 27 #[.slice none 0 0, .int .i64 0] := by rw [hW0]; exact BoxN.new w _ _
  have hC := rbetween_any (.slice a0 N n0) cs u v t n W0 (hr.keep hB0)
  obtain ⟨ce, hce⟩ : ∃ ce, chkE cs t n [u, v] = ce := ⟨_, rfl⟩
  rw [hce] at hC
  have HC := Lib.hid hC
  have HR := Lib.hid hr
  have HN := Lib.hid hN
  have HS0 := Lib.hid hs0
  have HE := Lib.hid hce
  clear hC hr hN hs0 hce
  go_enter Try.func13, Try.ntmps13
  go_upto_region 1 with fail
  rw [← hW0]
  clear hW0
  go_wp2_with fail
  refine HC.out.mono ?_
  rintro e w1 ⟨rfl, hb1⟩
  have HB1 := Lib.hid (Below.next hB0 hb1)
  have HR1 := Lib.hid (hr0.below hb1)
  have HS1 := Lib.hid hb1.size
  clear hb1 hr0 hB0
  by_cases h0 : ce = 0
  · subst h0
    have hq2 : (arrE cs n u t v < 0 ∧ er = 15 ∧ arr = 0 ∧ l = []) ∨ (er = 0 ∧ arr = arrE cs n u t v ∧ ∃ h, BestR cs n u t v arr h l) := by
      rcases hq with ⟨h1, _⟩ | ⟨_, h1⟩ | ⟨_, h1⟩
      · exact absurd HE.out h1
      · exact .inl h1
      · exact .inr h1
    obtain ⟨hp, hqq, hno⟩ := chkE_ok HE.out
    obtain ⟨hpk, hpl⟩ := planOk hp
    have hmade : ∃ b, MadeR cs n u t v b arr l ∧ ((b = false ∧ er = 15 ∧ arr = 0 ∧ l = []) ∨ (b = true ∧ er = 0)) := by
      rcases hq2 with ⟨h1, h2, h3, h4⟩ | ⟨h1, h2, h, h3⟩
      · exact ⟨false, .inl ⟨h1, rfl, h3, h4⟩, .inl ⟨rfl, h2, h3, h4⟩⟩
      · exact ⟨true, .inr ⟨h, h3, h2, rfl⟩, .inr ⟨rfl, h1⟩⟩
    obtain ⟨b, hm, hb⟩ := hmade
    have HM := Lib.hid (rmade_any (.slice a0 N n0) cs u v t n b arr l hpk hpl (hno u (by simp)) (hno v (by simp)) hqq.1 ⟨hqq.2.2.1, hqq.2.2.2⟩ hm w1 (HR.out.keep HB1.out))
    clear hq2 hq hp hno hpk hm
    go_wp2_with fail
    refine HM.out.mono ?_
    rintro e w2 ⟨⟨rv, rfl, hrt⟩, hb2⟩
    obtain ⟨cv, rfl, hrow⟩ := hrt
    obtain ⟨ca, cc, hcv⟩ := owns_form hrow
    obtain ⟨L, hL⟩ : ∃ L, (ints l).length = L := ⟨_, rfl⟩
    rw [hL] at hcv
    subst hcv
    obtain ⟨W3, hW3⟩ : ∃ W : World, W = w2.alloc (.cells #[.slice ca L cc, .int .i64 arr] 27) := ⟨_, rfl⟩
    have hb3 : Below w2.heap.size w2 W3 := by rw [hW3]; exact (by repeat (first | assumption | exact Below.refl _ _ | apply Below.al | apply below_drewN | apply Below.drew | refine Below.next ?_ (by assumption)))
    have hbx : BoxN W3 w2.heap.size 27 #[.slice ca L cc, .int .i64 arr] := by rw [hW3]; exact BoxN.new w2 _ _
    have hrow3 := own_keep hb3 hrow
    have hres3 := (HR1.out.below hb2).below hb3
    have HB3 := Lib.hid (Below.next (Below.next HB1.out hb2) hb3)
    obtain ⟨Q, HQ⟩ : ∃ Q, Hid (w2.heap.size = Q) := ⟨_, Lib.hid rfl⟩
    rw [HQ.out] at hbx
    have p0 : W3.cell? ⟨Q, 0, none⟩ = some (.slice ca L cc) := hbx.cell 0
    have p1 : W3.cell? ⟨Q, 1, none⟩ = some (.int .i64 arr) := hbx.cell 1
    have z0 := hres3.frozen 0
    have z1 := hres3.frozen 1
    have t0 : W3.cell? ⟨w.heap.size, 0, none⟩ = some (.slice none 0 0) := hres3.cell 0
    have t1 : W3.cell? ⟨w.heap.size, 1, none⟩ = some (.int .i64 0) := hres3.cell 1
    have HROW : Hid (W3.ownsRow (w.heap.size + 1) 3 1 (.slice ca L cc) (ints l).length (ic .i64 (ints l))) := Lib.hid (owns_mono hrow3 (by have := HS0.out; have := HS1.out; omega))
    clear hrow hrow3 hb3 hb2 hbx hres3 hL
    go_upto_region 5 with fail
    rw [← hW3, HQ.out]
    clear hW3
    rcases hb with ⟨rfl, rfl, rfl, rfl⟩ | ⟨rfl, rfl⟩
    · go_wp2_with fail
      refine bodyPost_ret (v := .tuple #[.agg #[.slice none 0 0, .int .i64 0], .int .i64 15]) (by simp [results, Try.results13, go_sem, t0, t1]) rfl ⟨⟨_, rfl, RtF.zero _ _⟩, ?_⟩
      exact (HB3.out.setCell (p := ⟨w.heap.size, 0, none⟩) (Nat.le_refl _) _).setCell (p := ⟨w.heap.size, 1, none⟩) (Nat.le_refl _) _
    · go_wp2_with fail
      refine bodyPost_ret (v := .tuple #[.agg #[.slice ca L cc, .int .i64 arr], .int .i64 0]) (by simp [results, Try.results13, go_sem, t0, t1]) rfl ⟨⟨_, rfl, _, rfl, own_set (own_set HROW.out (Nat.lt_succ_self _) _) (Nat.lt_succ_self _) _⟩, ?_⟩
      exact (HB3.out.setCell (p := ⟨w.heap.size, 0, none⟩) (Nat.le_refl _) _).setCell (p := ⟨w.heap.size, 1, none⟩) (Nat.le_refl _) _
  · have hq2 : er = ce ∧ arr = 0 ∧ l = [] := by
      rcases hq with ⟨_, h1⟩ | ⟨h1, _⟩ | ⟨h1, _⟩
      · rw [HE.out] at h1; exact h1
      · exact absurd (HE.out.symm.trans h1) h0
      · exact absurd (HE.out.symm.trans h1) h0
    obtain ⟨rfl, rfl, rfl⟩ := hq2
    have e1 : (er != 0) = true := by simpa using h0
    have z0 := HR1.out.frozen 0
    have z1 := HR1.out.frozen 1
    have t0 : w1.cell? ⟨w.heap.size, 0, none⟩ = some (.slice none 0 0) := HR1.out.cell 0
    have t1 : w1.cell? ⟨w.heap.size, 1, none⟩ = some (.int .i64 0) := HR1.out.cell 1
    clear h0 hq
    go_wp2_with fail
    refine bodyPost_ret (v := .tuple #[.agg #[.slice none 0 0, .int .i64 0], .int .i64 er]) (by simp [results, Try.results13, go_sem, t0, t1]) rfl ⟨⟨_, rfl, RtF.zero _ _⟩, ?_⟩
    exact (HB1.out.setCell (p := ⟨w.heap.size, 0, none⟩) (Nat.le_refl _) _).setCell (p := ⟨w.heap.size, 1, none⟩) (Nat.le_refl _) _
end Go.Proofs.Ytgmfifilgbbogaa
