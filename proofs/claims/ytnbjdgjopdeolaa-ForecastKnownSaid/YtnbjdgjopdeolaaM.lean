

/- Volume: Between, both texts, at whatever arguments. -/
import Derived.Test.YtnbjdgjopdeolaaK
namespace Go.Proofs.Ytnbjdgjopdeolaa
open Go.RowKit Go.Shelf
set_option linter.unusedSimpArgs false
set_option linter.unusedVariables false
set_option maxRecDepth 100000

/-- what Between answers -/
def Bwv (cs : List Ct) (fr dt t u : Int) : Int × Int :=
  if (planChk cs).1 ≠ 0 then (0, (planChk cs).1) else if (nodeB fr && nodeB dt && tickB t && tickB u) = true then (betw cs fr dt t u cs.length, 0) else (0, 2)

theorem planChk_zero {cs : List Ct} (h : (planChk cs).1 = 0) : planChk cs = (0, 0) := by
  unfold planChk at h ⊢
  by_cases hl : 200 < cs.length
  · rw [if_pos hl] at h; simp at h
  · rw [if_neg hl] at h ⊢
    have key : ∀ n, (scan cs n).1 = 0 → scan cs n = (0, 0) := by
      intro n
      cases n with
      | zero => intro _; rfl
      | succ n =>
        intro h
        unfold scan at h ⊢
        by_cases h1 : (scan cs n).1 ≠ 0
        · rw [if_pos h1] at h; exact absurd h h1
        · rw [if_neg h1] at h ⊢
          by_cases h2 : stepE cs n = 0
          · rw [if_pos h2]
          · rw [if_neg h2] at h; exact absurd h h2
    exact key _ h

set_option maxHeartbeats 1000000 in
theorem between_any (cs : List Ct) (v : Value) (fr dt t u x er : Int) (hwf : ∀ c, c ∈ cs → Wf c) (hv : Bwv cs fr dt t u = (x, er)) (w : World) (h : RdC w v cs) :
    Calls Try.prog 39 #[v, .int .i64 fr, .int .i64 dt, .int .i64 t, .int .i64 u] w fun e w' => e = .returned (.tuple #[.int .i64 x, .int .i64 er]) ∧ Below w.heap.size w w' := by
  unfold Bwv at hv
  have HW := Lib.hid hwf
  have HR := Lib.hid h
  by_cases h0 : (planChk cs).1 ≠ 0
  · rw [if_pos h0] at hv
    obtain ⟨rfl, he⟩ : 0 = x ∧ (planChk cs).1 = er := by simpa using hv
    have HP : Hid (planChk cs = (er, (planChk cs).2)) := by unfold Hid; rw [← he]
    have d1 : (er != 0) = true := by rw [← he]; simpa using h0
    clear hv he h0 h hwf
    obtain ⟨ix, HI⟩ : ∃ ix, Hid ((planChk cs).2 = ix) := ⟨_, rfl⟩
    rw [HI.out] at HP
    go_enter Try.func39, Try.ntmps39
    go_wp2_with fail
    refine (pchk_aux cs _ HW.out er ix HP.out _ (HR.out.keep (by repeat (first | assumption | exact Below.refl _ _ | apply Below.al | apply below_drewN | apply Below.drew | refine Below.next ?_ (by assumption))))).mono ?_
    rintro e w1 ⟨rfl, hb⟩
    go_wp2_with fail
    go_ret2
    exact ⟨rfl, (by repeat (first | assumption | exact Below.refl _ _ | apply Below.al | apply below_drewN | apply Below.drew | refine Below.next ?_ (by assumption)))⟩
  · rw [if_neg h0] at hv
    have hpz := planChk_zero (by simpa using h0)
    have HP := Lib.hid hpz
    by_cases hg : (nodeB fr && nodeB dt && tickB t && tickB u) = true
    · rw [if_pos hg] at hv
      obtain ⟨rfl, rfl⟩ : betw cs fr dt t u cs.length = x ∧ 0 = er := by simpa using hv
      simp only [Bool.and_eq_true] at hg
      exact between_yes cs v fr dt t u hwf hpz hg.1.1.1 hg.1.1.2 hg.1.2 hg.2 w h
    · rw [if_neg hg] at hv
      obtain ⟨rfl, rfl⟩ : 0 = x ∧ 2 = er := by simpa using hv
      clear hv h0 h hwf hpz
      cases h1 : nodeB fr with
      | false =>
        clear hg
        go_enter Try.func39, Try.ntmps39
        go_wp2_with fail
        refine (pchk_aux cs _ HW.out _ _ HP.out _ (HR.out.keep (by repeat (first | assumption | exact Below.refl _ _ | apply Below.al | apply below_drewN | apply Below.drew | refine Below.next ?_ (by assumption))))).mono ?_
        rintro e w1 ⟨rfl, hb⟩
        have cT : w1.cell? ⟨w.heap.size, 0, none⟩ = some (.int .i64 t) := cell_later hb (by simp [go_sem])
        have cU : w1.cell? ⟨w.heap.size + 1, 0, none⟩ = some (.int .i64 u) := cell_later hb (by simp [go_sem])
        go_wp2_with (first
          | (go_at_call 81; refine (node_any _ _).mono ?_; rintro e w2 ⟨rfl, rfl⟩)
          | (go_at_call 67; refine (tick_any _ _).mono ?_; rintro e w2 ⟨rfl, rfl⟩)
          | fail)
        go_ret2
        exact ⟨rfl, (by repeat (first | assumption | exact Below.refl _ _ | apply Below.al | apply below_drewN | apply Below.drew | refine Below.next ?_ (by assumption)))⟩
      | true =>
        cases h2 : nodeB dt with
        | false =>
          clear hg
          go_enter Try.func39, Try.ntmps39
          go_wp2_with fail
          refine (pchk_aux cs _ HW.out _ _ HP.out _ (HR.out.keep (by repeat (first | assumption | exact Below.refl _ _ | apply Below.al | apply below_drewN | apply Below.drew | refine Below.next ?_ (by assumption))))).mono ?_
          rintro e w1 ⟨rfl, hb⟩
          have cT : w1.cell? ⟨w.heap.size, 0, none⟩ = some (.int .i64 t) := cell_later hb (by simp [go_sem])
          have cU : w1.cell? ⟨w.heap.size + 1, 0, none⟩ = some (.int .i64 u) := cell_later hb (by simp [go_sem])
          go_wp2_with (first
            | (go_at_call 81; refine (node_any _ _).mono ?_; rintro e w2 ⟨rfl, rfl⟩)
            | (go_at_call 67; refine (tick_any _ _).mono ?_; rintro e w2 ⟨rfl, rfl⟩)
            | fail)
          go_ret2
          exact ⟨rfl, (by repeat (first | assumption | exact Below.refl _ _ | apply Below.al | apply below_drewN | apply Below.drew | refine Below.next ?_ (by assumption)))⟩
        | true =>
          cases h3 : tickB t with
          | false =>
            clear hg
            go_enter Try.func39, Try.ntmps39
            go_wp2_with fail
            refine (pchk_aux cs _ HW.out _ _ HP.out _ (HR.out.keep (by repeat (first | assumption | exact Below.refl _ _ | apply Below.al | apply below_drewN | apply Below.drew | refine Below.next ?_ (by assumption))))).mono ?_
            rintro e w1 ⟨rfl, hb⟩
            have cT : w1.cell? ⟨w.heap.size, 0, none⟩ = some (.int .i64 t) := cell_later hb (by simp [go_sem])
            have cU : w1.cell? ⟨w.heap.size + 1, 0, none⟩ = some (.int .i64 u) := cell_later hb (by simp [go_sem])
            go_wp2_with (first
              | (go_at_call 81; refine (node_any _ _).mono ?_; rintro e w2 ⟨rfl, rfl⟩)
              | (go_at_call 67; refine (tick_any _ _).mono ?_; rintro e w2 ⟨rfl, rfl⟩)
              | fail)
            go_ret2
            exact ⟨rfl, (by repeat (first | assumption | exact Below.refl _ _ | apply Below.al | apply below_drewN | apply Below.drew | refine Below.next ?_ (by assumption)))⟩
          | true =>
            cases h4 : tickB u with
            | false =>
              clear hg
              go_enter Try.func39, Try.ntmps39
              go_wp2_with fail
              refine (pchk_aux cs _ HW.out _ _ HP.out _ (HR.out.keep (by repeat (first | assumption | exact Below.refl _ _ | apply Below.al | apply below_drewN | apply Below.drew | refine Below.next ?_ (by assumption))))).mono ?_
              rintro e w1 ⟨rfl, hb⟩
              have cT : w1.cell? ⟨w.heap.size, 0, none⟩ = some (.int .i64 t) := cell_later hb (by simp [go_sem])
              have cU : w1.cell? ⟨w.heap.size + 1, 0, none⟩ = some (.int .i64 u) := cell_later hb (by simp [go_sem])
              go_wp2_with (first
                | (go_at_call 81; refine (node_any _ _).mono ?_; rintro e w2 ⟨rfl, rfl⟩)
                | (go_at_call 67; refine (tick_any _ _).mono ?_; rintro e w2 ⟨rfl, rfl⟩)
                | fail)
              go_ret2
              exact ⟨rfl, (by repeat (first | assumption | exact Below.refl _ _ | apply Below.al | apply below_drewN | apply Below.drew | refine Below.next ?_ (by assumption)))⟩
            | true => simp [h1, h2, h3, h4] at hg

theorem rnodes_any (x y : Int) (w : World) : Calls Try.prog 85 #[.int .i64 x, .int .i64 y] w fun e w' => e = .returned (.bool (nodeB x && nodeB y)) ∧ w = w' := by
  unfold nodeB
  by_cases h1 : 1 ≤ x <;> by_cases h2 : x ≤ 16 <;> by_cases h3 : 1 ≤ y <;> by_cases h4 : y ≤ 16
  all_goals
    go_enter Try.func85, Try.ntmps85
    go_wp2
    go_ret
    exact ⟨by simp [*], rfl⟩
end Go.Proofs.Ytnbjdgjopdeolaa
