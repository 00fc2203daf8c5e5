

/- Volume: Over, both texts; what is booked. -/
import Derived.Test.YtnbjdgjopdeolaaOO
namespace Go.Proofs.Ytnbjdgjopdeolaa
open Go.RowKit Go.Shelf
set_option linter.unusedSimpArgs false
set_option linter.unusedVariables false
set_option maxRecDepth 100000

/-- what booked answers -/
def bkE (cs : List Ct) (bs : List Int) : Int := if (planChk cs).1 ≠ 0 then (planChk cs).1 else if bs.length ≠ cs.length then 3 else 0
theorem bkE_zero {cs : List Ct} {bs : List Int} (h : bkE cs bs = 0) : planChk cs = (0, 0) ∧ bs.length = cs.length := by
  unfold bkE at h
  by_cases h1 : (planChk cs).1 ≠ 0
  · rw [if_pos h1] at h; exact absurd h h1
  · rw [if_neg h1] at h
    refine ⟨planChk_zero (by simpa using h1), ?_⟩
    by_cases h2 : bs.length ≠ cs.length
    · rw [if_pos h2] at h; cases h
    · simpa using h2
set_option maxHeartbeats 1000000 in
theorem booked_any (cs : List Ct) (v : Value) (bs : List Int) (u : Value) (hwf : ∀ c, c ∈ cs → Wf c) (er : Int) (he : bkE cs bs = er) (w : World) (h : RdC w v cs) (hu : RdI .i64 w u bs) :
    Calls Try.prog 86 #[v, u] w fun e w' => e = .returned (.int .i64 er) ∧ Below w.heap.size w w' := by
  have HW := Lib.hid hwf
  have HR := Lib.hid h
  unfold bkE at he
  by_cases h0 : (planChk cs).1 ≠ 0
  · rw [if_pos h0] at he
    have HP : Hid (planChk cs = (er, (planChk cs).2)) := by unfold Hid; rw [← he]
    have d1 : (er != 0) = true := by rw [← he]; simpa using h0
    obtain ⟨ix, HI⟩ : ∃ ix, Hid ((planChk cs).2 = ix) := ⟨_, rfl⟩
    rw [HI.out] at HP
    clear he h0 h hwf
    go_enter Try.func86, Try.ntmps86
    go_wp2_with fail
    refine (pchk_aux cs _ HW.out er ix HP.out _ HR.out).mono ?_
    rintro e w1 ⟨rfl, hb⟩
    go_wp2_with fail
    go_ret
    exact ⟨rfl, (by repeat (first | assumption | exact Below.refl _ _ | apply Below.al | apply below_drewN | apply Below.drew | refine Below.next ?_ (by assumption)))⟩
  · rw [if_neg h0] at he
    have HP := Lib.hid (planChk_zero (by simpa using h0))
    obtain ⟨a0, n0, rfl⟩ := h.form
    obtain ⟨a1, n1, rfl⟩ := hu.form
    clear h0 h hwf hu
    by_cases h2 : bs.length ≠ cs.length
    · rw [if_pos h2] at he
      obtain rfl : 3 = er := he
      have d2 : ((bs.length : Int) != (cs.length : Int)) = true := by simp; omega
      clear h2
      go_enter Try.func86, Try.ntmps86
      go_wp2_with fail
      refine (pchk_aux cs _ HW.out _ _ HP.out _ HR.out).mono ?_
      rintro e w1 ⟨rfl, hb⟩
      go_wp2_with fail
      go_ret
      exact ⟨rfl, (by repeat (first | assumption | exact Below.refl _ _ | apply Below.al | apply below_drewN | apply Below.drew | refine Below.next ?_ (by assumption)))⟩
    · rw [if_neg h2] at he
      obtain rfl : 0 = er := he
      have d2 : ((bs.length : Int) != (cs.length : Int)) = false := by simp; omega
      clear h2
      go_enter Try.func86, Try.ntmps86
      go_wp2_with fail
      refine (pchk_aux cs _ HW.out _ _ HP.out _ HR.out).mono ?_
      rintro e w1 ⟨rfl, hb⟩
      go_wp2_with fail
      go_ret
      exact ⟨rfl, (by repeat (first | assumption | exact Below.refl _ _ | apply Below.al | apply below_drewN | apply Below.drew | refine Below.next ?_ (by assumption)))⟩

/-- a call has returned a slice of its own that reads as xs, and an error -/
def OR (w : World) (xs : List Int) (er : Int) (e : Ending) (w' : World) : Prop := ∃ v, e = .returned (.tuple #[v, .int .i64 er]) ∧ RdI .i64 w' v xs ∧ Fresh w.heap.size v ∧ Below w.heap.size w w'
/-- what Over lists -/
def ovL (cs : List Ct) (bs : List Int) : List Int := if bkE cs bs = 0 then overK cs bs cs.length else []
theorem vOver_any (cs : List Ct) (v : Value) (bs : List Int) (u : Value) (hwf : ∀ c, c ∈ cs → Wf c) (w : World) (h : RdC w v cs) (hu : RdI .i64 w u bs) :
    Calls Try.prog 41 #[v, u] w (OR w (ovL cs bs) (bkE cs bs)) := by
  obtain ⟨er, he⟩ : ∃ er, bkE cs bs = er := ⟨_, rfl⟩
  have HW := Lib.hid hwf
  have HR := Lib.hid h
  have HU := Lib.hid hu
  have HE := Lib.hid he
  unfold ovL
  rw [he]
  by_cases h0 : er = 0
  · subst h0
    obtain ⟨hp, hl⟩ := bkE_zero he
    have HP := Lib.hid hp
    have HL := Lib.hid hl
    rw [if_pos rfl]
    clear hp hl he hwf h hu
    go_enter Try.func41, Try.ntmps41
    go_wp2_with fail
    refine (booked_any cs _ bs _ HW.out 0 HE.out _ HR.out HU.out).mono ?_
    rintro e w1 ⟨rfl, hb⟩
    go_wp2_with fail
    refine (over_any cs _ bs _ HP.out HL.out _ (HR.out.keep hb) (HU.out.keep hb)).mono ?_
    rintro e w2 ⟨r, rfl, hr, hf, hb2⟩
    go_wp2_with fail
    go_ret2
    exact ⟨_, rfl, hr, hf.mono hb.size, Below.next hb hb2⟩
  · rw [if_neg h0]
    have d1 : (er != 0) = true := by simpa using h0
    clear h0 he hwf h hu
    go_enter Try.func41, Try.ntmps41
    go_wp2_with fail
    refine (booked_any cs _ bs _ HW.out er HE.out _ HR.out HU.out).mono ?_
    rintro e w1 ⟨rfl, hb⟩
    go_wp2_with fail
    go_ret2
    exact ⟨_, rfl, RdI.nil _ _, Fresh.nil _ _ _, hb⟩

set_option maxHeartbeats 1000000 in
theorem rOver_yes (cs : List Ct) (v : Value) (bs : List Int) (u : Value) (hok : planChk cs = (0, 0)) (hl : bs.length = cs.length) (w : World) (h : RdC w v cs) (hu : RdI .i64 w u bs) :
    Calls Try.prog 42 #[v, u] w (OR w (overK cs bs cs.length) 0) := by
  obtain ⟨a0, n0, rfl⟩ := h.form
  obtain ⟨a1, n1, rfl⟩ := hu.form
  obtain ⟨N, hN⟩ : ∃ N, cs.length = N := ⟨_, rfl⟩
  rw [hN] at h hl ⊢
  rw [hl] at hu ⊢
  have hm : N ≤ 200 := by rw [← hN]; exact (ok_of_planChk hok).1
  have HR := Lib.hid h
  have HU := Lib.hid hu
  have HN := Lib.hid hN
  have HBL := Lib.hid hl
  have HP := Lib.hid hok
  clear h hu hN hok hl
  have d0 : ((N : Int) != (N : Int)) = false := by simp
  go_enter Try.func42, Try.ntmps42
  go_wp2_with fail
  refine (rpchk_aux cs _ _ _ HP.out _ HR.out).mono ?_
  rintro e w1 ⟨rfl, hb⟩
  go_wp2_with fail
  go_loopw [8, 9] (fun v i wr => ∃ k : Nat, k ≤ N ∧ i = .int .i64 k ∧ wr.ownsRow w.heap.size 3 1 v (overK cs bs k).length (ic .i64 (overK cs bs k)) ∧ Below w.heap.size w wr) (fun _ i _ => N - (intOf i).toNat)
  case atStart => exact ⟨0, Nat.zero_le _, rfl, World.ownsRow_nil _ _ _ _, hb⟩
  case round =>
    clear hb
    obtain ⟨k, hk, rfl, hown, hBW⟩ := hrel
    obtain ⟨va, vc, rfl⟩ := owns_form hown
    have HOW := Lib.hid hown
    have HBW := Lib.hid hBW
    have HL := Lib.hid (overK_len cs bs k)
    clear hown
    by_cases hlt : k < N
    · have d2 : decide ((k : Int) < (N : Int)) = true := yb (by omega)
      obtain ⟨b, off, rfl, hcap, hca⟩ := HR.out.at HN.out k hlt
      obtain ⟨b2, off2, rfl, hcap2, hcb⟩ := HU.out.at HBL.out k hlt
      have hok : okC (cs.getD k c0) := okC_of HP.out (by rw [HN.out]; exact hlt)
      obtain ⟨c, HC⟩ : ∃ c, Hid (cs.getD k c0 = c) := ⟨_, rfl⟩
      rw [HC.out] at hca hok
      obtain ⟨x, HX⟩ : ∃ x, Hid (bs.getD k 0 = x) := ⟨_, rfl⟩
      rw [HX.out] at hcb
      have hca := CA.keep hBW hca
      have hcb := cell_later hBW hcb
      have i1 : (0 : Int) ≤ (k : Int) := by omega
      have i2 : (k : Int) < (N : Int) := by omega
      have hwk : IntKind.i64.wrap (k : Int) = (k : Int) := IntWalk.i64_in _ (by omega)
      have hE : overK cs bs (k + 1) = if x < 0 ∨ vol c < x then overK cs bs k ++ [(k : Int)] else overK cs bs k := by rw [← HC.out, ← HX.out]; rfl
      clear hBW
      go_upto_region 10 with fail
      by_cases hb1 : x < 0
      · have d3 : decide (x < 0) = true := yb hb1
        rw [if_pos (.inl hb1)] at hE
        have HE := Lib.hid hE
        clear hE hb1
        refine wp_region_calm (fun w' => Below wr.heap.size wr w') 99 (by kernel_rfl) ((Below.refl _ wr).drew) ?_
        refine cm_run 0 29 (v := ?_) rfl rfl (by kernel_rfl) (by kernel_rfl) (by kernel_rfl) (by kernel_rfl) (by kernel_rfl) (fun _ _ _ h => h) (by rfl) ?_ ?_
        rotate_left
        · (intro wS hS; skip; go_simp; (try with_reducible rfl))
        simp only [List.setIfInBounds_toArray, List.set_cons_zero, List.set_cons_succ]
        refine cm_run 1 30 (v := ?_) rfl rfl (by kernel_rfl) (by kernel_rfl) (by kernel_rfl) (by kernel_rfl) (by kernel_rfl) (fun _ _ _ h => h) (by rfl) ?_ ?_
        rotate_left
        · (intro wS hS; skip; go_simp; (try with_reducible rfl))
        simp only [List.setIfInBounds_toArray, List.set_cons_zero, List.set_cons_succ]
        refine cm_run 2 31 (v := ?_) rfl rfl (by kernel_rfl) (by kernel_rfl) (by kernel_rfl) (by kernel_rfl) (by kernel_rfl) (fun _ _ _ h => h) (by rfl) ?_ ?_
        rotate_left
        · (intro wS hS; skip; go_simp; (try with_reducible rfl))
        simp only [List.setIfInBounds_toArray, List.set_cons_zero, List.set_cons_succ]
        refine cm_run 3 32 (v := ?_) rfl rfl (by kernel_rfl) (by kernel_rfl) (by kernel_rfl) (by kernel_rfl) (by kernel_rfl) (fun _ _ _ h => h) (by rfl) ?_ ?_
        rotate_left
        · (intro wS hS; have g := cell_later hS hcb; go_simp; (try with_reducible rfl))
        simp only [List.setIfInBounds_toArray, List.set_cons_zero, List.set_cons_succ]
        refine cm_run 4 33 (v := ?_) rfl rfl (by kernel_rfl) (by kernel_rfl) (by kernel_rfl) (by kernel_rfl) (by kernel_rfl) (fun _ _ _ h => h) (by rfl) ?_ ?_
        rotate_left
        · (intro wS hS; skip; go_simp; (try with_reducible rfl))
        simp only [List.setIfInBounds_toArray, List.set_cons_zero, List.set_cons_succ]
        refine cm_run 5 34 (v := ?_) rfl rfl (by kernel_rfl) (by kernel_rfl) (by kernel_rfl) (by kernel_rfl) (by kernel_rfl) (fun _ _ _ h => h) (by rfl) ?_ ?_
        rotate_left
        · (intro wS hS; skip; go_simp; (try with_reducible rfl))
        simp only [List.setIfInBounds_toArray, List.set_cons_zero, List.set_cons_succ]
        refine cm_shut 6 35 rfl rfl (by kernel_rfl) (by kernel_rfl) (by kernel_rfl) (by kernel_rfl) (by kernel_rfl) (fun _ _ _ h => h) (by rfl) ?_
        simp only [List.setIfInBounds_toArray, List.set_cons_zero, List.set_cons_succ]
        refine cm_shut 7 36 rfl rfl (by kernel_rfl) (by kernel_rfl) (by kernel_rfl) (by kernel_rfl) (by kernel_rfl) (fun _ _ _ h => h) (by rfl) ?_
        simp only [List.setIfInBounds_toArray, List.set_cons_zero, List.set_cons_succ]
        refine cm_shut 8 37 rfl rfl (by kernel_rfl) (by kernel_rfl) (by kernel_rfl) (by kernel_rfl) (by kernel_rfl) (fun _ _ _ h => h) (by rfl) ?_
        simp only [List.setIfInBounds_toArray, List.set_cons_zero, List.set_cons_succ]
        refine cm_shut 9 38 rfl rfl (by kernel_rfl) (by kernel_rfl) (by kernel_rfl) (by kernel_rfl) (by kernel_rfl) (fun _ _ _ h => h) (by rfl) ?_
        simp only [List.setIfInBounds_toArray, List.set_cons_zero, List.set_cons_succ]
        refine cm_shut 10 39 rfl rfl (by kernel_rfl) (by kernel_rfl) (by kernel_rfl) (by kernel_rfl) (by kernel_rfl) (fun _ _ _ h => h) (by rfl) ?_
        simp only [List.setIfInBounds_toArray, List.set_cons_zero, List.set_cons_succ]
        refine cm_shut 11 40 rfl rfl (by kernel_rfl) (by kernel_rfl) (by kernel_rfl) (by kernel_rfl) (by kernel_rfl) (fun _ _ _ h => h) (by rfl) ?_
        simp only [List.setIfInBounds_toArray, List.set_cons_zero, List.set_cons_succ]
        refine cm_shut 12 41 rfl rfl (by kernel_rfl) (by kernel_rfl) (by kernel_rfl) (by kernel_rfl) (by kernel_rfl) (fun _ _ _ h => h) (by rfl) ?_
        simp only [List.setIfInBounds_toArray, List.set_cons_zero, List.set_cons_succ]
        refine cm_shut 13 42 rfl rfl (by kernel_rfl) (by kernel_rfl) (by kernel_rfl) (by kernel_rfl) (by kernel_rfl) (fun _ _ _ h => h) (by rfl) ?_
        simp only [List.setIfInBounds_toArray, List.set_cons_zero, List.set_cons_succ]
        refine cm_shut 14 43 rfl rfl (by kernel_rfl) (by kernel_rfl) (by kernel_rfl) (by kernel_rfl) (by kernel_rfl) (fun _ _ _ h => h) (by rfl) ?_
        simp only [List.setIfInBounds_toArray, List.set_cons_zero, List.set_cons_succ]
        refine cm_shut 15 44 rfl rfl (by kernel_rfl) (by kernel_rfl) (by kernel_rfl) (by kernel_rfl) (by kernel_rfl) (fun _ _ _ h => h) (by rfl) ?_
        simp only [List.setIfInBounds_toArray, List.set_cons_zero, List.set_cons_succ]
        refine cm_run 16 45 (v := ?_) rfl rfl (by kernel_rfl) (by kernel_rfl) (by kernel_rfl) (by kernel_rfl) (by kernel_rfl) (fun _ _ _ h => h) (by rfl) ?_ ?_
        rotate_left
        · (intro wS hS; skip; go_simp; (try with_reducible rfl))
        simp only [List.setIfInBounds_toArray, List.set_cons_zero, List.set_cons_succ]
        refine cm_done (by kernel_rfl) ?_
        intro wS hS
        refine NoPanic.normal ?_
        have HBW := Lib.hid (Below.next HBW.out hS)
        have HOW : Hid (wS.ownsRow w.heap.size 3 1 (.slice va (overK cs bs k).length vc) (overK cs bs k).length (ic .i64 (overK cs bs k))) := own_keep hS HOW.out
        clear hS
        go_wp2_with (at_builtin; refine wpList_app rfl (.tmp 46) (.tmp 48) 52 rfl w.heap.size 3 (.int .i64 0) 1 8 E52 _ _ _ rfl (HOW.out.alloc _) _ 1 [.int .i64 (k : Int)] rfl (rds_one _ _ _) (by simp [Value.oneCell']) ?c1 ?c2 ?c3 ?_)
        case c1 => have := HL.out; unfold maxLen; omega
        case c2 => have := HL.out; omega
        case c3 => have := HBW.out.size; simp; omega
        intro a3 c3 w3 hown3 hg3 hb3
        have hown3 : w3.ownsRow w.heap.size 3 1 (.slice a3 ((overK cs bs k).length + 1) c3) ((overK cs bs k).length + 1) (ic .i64 (overK cs bs k) ++ [.int .i64 (k : Int)]) := by with_reducible exact hown3
        have hB3 : Below w.heap.size w w3 := (Below.al HBW.out _).trans hb3
        have HOW3 := Lib.hid hown3
        clear hown3 hg3 hb3
        go_wp2_with fail
        go_roundw
        case rel => exact ⟨k + 1, by omega, by go_num, by rw [HE.out]; simpa [ic_append, ic] using HOW3.out, hB3⟩
        case measure => simp [intOf]; omega
      · have d3 : decide (x < 0) = false := nb hb1
        by_cases hb2 : vol c < x
        · have d4 : decide (vol c < x) = true := yb hb2
          rw [if_pos (.inr hb2)] at hE
          have HE := Lib.hid hE
          clear hE hb1 hb2
          refine wp_region_calm (fun w' => Below wr.heap.size wr w') 99 (by kernel_rfl) ((Below.refl _ wr).drew) ?_
          refine cm_run 0 29 (v := ?_) rfl rfl (by kernel_rfl) (by kernel_rfl) (by kernel_rfl) (by kernel_rfl) (by kernel_rfl) (fun _ _ _ h => h) (by rfl) ?_ ?_
          rotate_left
          · (intro wS hS; skip; go_simp; (try with_reducible rfl))
          simp only [List.setIfInBounds_toArray, List.set_cons_zero, List.set_cons_succ]
          refine cm_run 1 30 (v := ?_) rfl rfl (by kernel_rfl) (by kernel_rfl) (by kernel_rfl) (by kernel_rfl) (by kernel_rfl) (fun _ _ _ h => h) (by rfl) ?_ ?_
          rotate_left
          · (intro wS hS; skip; go_simp; (try with_reducible rfl))
          simp only [List.setIfInBounds_toArray, List.set_cons_zero, List.set_cons_succ]
          refine cm_run 2 31 (v := ?_) rfl rfl (by kernel_rfl) (by kernel_rfl) (by kernel_rfl) (by kernel_rfl) (by kernel_rfl) (fun _ _ _ h => h) (by rfl) ?_ ?_
          rotate_left
          · (intro wS hS; skip; go_simp; (try with_reducible rfl))
          simp only [List.setIfInBounds_toArray, List.set_cons_zero, List.set_cons_succ]
          refine cm_run 3 32 (v := ?_) rfl rfl (by kernel_rfl) (by kernel_rfl) (by kernel_rfl) (by kernel_rfl) (by kernel_rfl) (fun _ _ _ h => h) (by rfl) ?_ ?_
          rotate_left
          · (intro wS hS; have g := cell_later hS hcb; go_simp; (try with_reducible rfl))
          simp only [List.setIfInBounds_toArray, List.set_cons_zero, List.set_cons_succ]
          refine cm_run 4 33 (v := ?_) rfl rfl (by kernel_rfl) (by kernel_rfl) (by kernel_rfl) (by kernel_rfl) (by kernel_rfl) (fun _ _ _ h => h) (by rfl) ?_ ?_
          rotate_left
          · (intro wS hS; skip; go_simp; (try with_reducible rfl))
          simp only [List.setIfInBounds_toArray, List.set_cons_zero, List.set_cons_succ]
          refine cm_run 5 34 (v := ?_) rfl rfl (by kernel_rfl) (by kernel_rfl) (by kernel_rfl) (by kernel_rfl) (by kernel_rfl) (fun _ _ _ h => h) (by rfl) ?_ ?_
          rotate_left
          · (intro wS hS; skip; go_simp; (try with_reducible rfl))
          simp only [List.setIfInBounds_toArray, List.set_cons_zero, List.set_cons_succ]
          refine cm_run 6 35 (v := ?_) rfl rfl (by kernel_rfl) (by kernel_rfl) (by kernel_rfl) (by kernel_rfl) (by kernel_rfl) (fun _ _ _ h => h) (by rfl) ?_ ?_
          rotate_left
          · (intro wS hS; skip; go_simp; (try with_reducible rfl))
          simp only [List.setIfInBounds_toArray, List.set_cons_zero, List.set_cons_succ]
          refine cm_run 7 36 (v := ?_) rfl rfl (by kernel_rfl) (by kernel_rfl) (by kernel_rfl) (by kernel_rfl) (by kernel_rfl) (fun _ _ _ h => h) (by rfl) ?_ ?_
          rotate_left
          · (intro wS hS; skip; go_simp; (try with_reducible rfl))
          simp only [List.setIfInBounds_toArray, List.set_cons_zero, List.set_cons_succ]
          refine cm_run 8 37 (v := ?_) rfl rfl (by kernel_rfl) (by kernel_rfl) (by kernel_rfl) (by kernel_rfl) (by kernel_rfl) (fun _ _ _ h => h) (by rfl) ?_ ?_
          rotate_left
          · (intro wS hS; skip; go_simp; (try with_reducible rfl))
          simp only [List.setIfInBounds_toArray, List.set_cons_zero, List.set_cons_succ]
          refine cm_run 9 38 (v := ?_) rfl rfl (by kernel_rfl) (by kernel_rfl) (by kernel_rfl) (by kernel_rfl) (by kernel_rfl) (fun _ _ _ h => h) (by rfl) ?_ ?_
          rotate_left
          · (intro wS hS; have g := cell_later hS hcb; go_simp; (try with_reducible rfl))
          simp only [List.setIfInBounds_toArray, List.set_cons_zero, List.set_cons_succ]
          refine cm_run 10 39 (v := ?_) rfl rfl (by kernel_rfl) (by kernel_rfl) (by kernel_rfl) (by kernel_rfl) (by kernel_rfl) (fun _ _ _ h => h) (by rfl) ?_ ?_
          rotate_left
          · (intro wS hS; skip; go_simp; (try with_reducible rfl))
          simp only [List.setIfInBounds_toArray, List.set_cons_zero, List.set_cons_succ]
          refine cm_run 11 40 (v := ?_) rfl rfl (by kernel_rfl) (by kernel_rfl) (by kernel_rfl) (by kernel_rfl) (by kernel_rfl) (fun _ _ _ h => h) (by rfl) ?_ ?_
          rotate_left
          · (intro wS hS; skip; go_simp; (try with_reducible rfl))
          simp only [List.setIfInBounds_toArray, List.set_cons_zero, List.set_cons_succ]
          refine cm_run 12 41 (v := ?_) rfl rfl (by kernel_rfl) (by kernel_rfl) (by kernel_rfl) (by kernel_rfl) (by kernel_rfl) (fun _ _ _ h => h) (by rfl) ?_ ?_
          rotate_left
          · (intro wS hS; skip; go_simp; (try with_reducible rfl))
          simp only [List.setIfInBounds_toArray, List.set_cons_zero, List.set_cons_succ]
          refine cm_run 13 42 (v := ?_) rfl rfl (by kernel_rfl) (by kernel_rfl) (by kernel_rfl) (by kernel_rfl) (by kernel_rfl) (fun _ _ _ h => h) (by rfl) ?_ ?_
          rotate_left
          · (intro wS hS; have g := CA.keep hS hca; go_simp; (try with_reducible rfl))
          simp only [List.setIfInBounds_toArray, List.set_cons_zero, List.set_cons_succ]
          refine cm_call 14 43 66 (v := .int .i64 (vol c)) (args := ?_) rfl rfl (by kernel_rfl) (by kernel_rfl) (by kernel_rfl) (by kernel_rfl) (by kernel_rfl) (fun _ _ _ h => h) (by rfl) ?_ ?_ ?_
          rotate_left 1
          · (intro wS hS; go_simp; (try with_reducible rfl))
          · (intro wS hS; refine (rvol_any c hok _).mono ?_; (rintro e w2 ⟨rfl, hb⟩; exact ⟨rfl, Below.next hS hb⟩))
          simp only [List.setIfInBounds_toArray, List.set_cons_zero, List.set_cons_succ]
          refine cm_run 15 44 (v := ?_) rfl rfl (by kernel_rfl) (by kernel_rfl) (by kernel_rfl) (by kernel_rfl) (by kernel_rfl) (fun _ _ _ h => h) (by rfl) ?_ ?_
          rotate_left
          · (intro wS hS; skip; go_simp; (try with_reducible rfl))
          simp only [List.setIfInBounds_toArray, List.set_cons_zero, List.set_cons_succ]
          refine cm_run 16 45 (v := ?_) rfl rfl (by kernel_rfl) (by kernel_rfl) (by kernel_rfl) (by kernel_rfl) (by kernel_rfl) (fun _ _ _ h => h) (by rfl) ?_ ?_
          rotate_left
          · (intro wS hS; skip; go_simp; (try with_reducible rfl))
          simp only [List.setIfInBounds_toArray, List.set_cons_zero, List.set_cons_succ]
          refine cm_done (by kernel_rfl) ?_
          intro wS hS
          refine NoPanic.normal ?_
          have HBW := Lib.hid (Below.next HBW.out hS)
          have HOW : Hid (wS.ownsRow w.heap.size 3 1 (.slice va (overK cs bs k).length vc) (overK cs bs k).length (ic .i64 (overK cs bs k))) := own_keep hS HOW.out
          clear hS
          go_wp2_with (at_builtin; refine wpList_app rfl (.tmp 46) (.tmp 48) 52 rfl w.heap.size 3 (.int .i64 0) 1 8 E52 _ _ _ rfl (HOW.out.alloc _) _ 1 [.int .i64 (k : Int)] rfl (rds_one _ _ _) (by simp [Value.oneCell']) ?c1 ?c2 ?c3 ?_)
          case c1 => have := HL.out; unfold maxLen; omega
          case c2 => have := HL.out; omega
          case c3 => have := HBW.out.size; simp; omega
          intro a3 c3 w3 hown3 hg3 hb3
          have hown3 : w3.ownsRow w.heap.size 3 1 (.slice a3 ((overK cs bs k).length + 1) c3) ((overK cs bs k).length + 1) (ic .i64 (overK cs bs k) ++ [.int .i64 (k : Int)]) := by with_reducible exact hown3
          have hB3 : Below w.heap.size w w3 := (Below.al HBW.out _).trans hb3
          have HOW3 := Lib.hid hown3
          clear hown3 hg3 hb3
          go_wp2_with fail
          go_roundw
          case rel => exact ⟨k + 1, by omega, by go_num, by rw [HE.out]; simpa [ic_append, ic] using HOW3.out, hB3⟩
          case measure => simp [intOf]; omega
        · have d4 : decide (vol c < x) = false := nb hb2
          rw [if_neg (by omega)] at hE
          have HE := Lib.hid hE
          clear hE hb1 hb2
          refine wp_region_calm (fun w' => Below wr.heap.size wr w') 99 (by kernel_rfl) ((Below.refl _ wr).drew) ?_
          refine cm_run 0 29 (v := ?_) rfl rfl (by kernel_rfl) (by kernel_rfl) (by kernel_rfl) (by kernel_rfl) (by kernel_rfl) (fun _ _ _ h => h) (by rfl) ?_ ?_
          rotate_left
          · (intro wS hS; skip; go_simp; (try with_reducible rfl))
          simp only [List.setIfInBounds_toArray, List.set_cons_zero, List.set_cons_succ]
          refine cm_run 1 30 (v := ?_) rfl rfl (by kernel_rfl) (by kernel_rfl) (by kernel_rfl) (by kernel_rfl) (by kernel_rfl) (fun _ _ _ h => h) (by rfl) ?_ ?_
          rotate_left
          · (intro wS hS; skip; go_simp; (try with_reducible rfl))
          simp only [List.setIfInBounds_toArray, List.set_cons_zero, List.set_cons_succ]
          refine cm_run 2 31 (v := ?_) rfl rfl (by kernel_rfl) (by kernel_rfl) (by kernel_rfl) (by kernel_rfl) (by kernel_rfl) (fun _ _ _ h => h) (by rfl) ?_ ?_
          rotate_left
          · (intro wS hS; skip; go_simp; (try with_reducible rfl))
          simp only [List.setIfInBounds_toArray, List.set_cons_zero, List.set_cons_succ]
          refine cm_run 3 32 (v := ?_) rfl rfl (by kernel_rfl) (by kernel_rfl) (by kernel_rfl) (by kernel_rfl) (by kernel_rfl) (fun _ _ _ h => h) (by rfl) ?_ ?_
          rotate_left
          · (intro wS hS; have g := cell_later hS hcb; go_simp; (try with_reducible rfl))
          simp only [List.setIfInBounds_toArray, List.set_cons_zero, List.set_cons_succ]
          refine cm_run 4 33 (v := ?_) rfl rfl (by kernel_rfl) (by kernel_rfl) (by kernel_rfl) (by kernel_rfl) (by kernel_rfl) (fun _ _ _ h => h) (by rfl) ?_ ?_
          rotate_left
          · (intro wS hS; skip; go_simp; (try with_reducible rfl))
          simp only [List.setIfInBounds_toArray, List.set_cons_zero, List.set_cons_succ]
          refine cm_run 5 34 (v := ?_) rfl rfl (by kernel_rfl) (by kernel_rfl) (by kernel_rfl) (by kernel_rfl) (by kernel_rfl) (fun _ _ _ h => h) (by rfl) ?_ ?_
          rotate_left
          · (intro wS hS; skip; go_simp; (try with_reducible rfl))
          simp only [List.setIfInBounds_toArray, List.set_cons_zero, List.set_cons_succ]
          refine cm_run 6 35 (v := ?_) rfl rfl (by kernel_rfl) (by kernel_rfl) (by kernel_rfl) (by kernel_rfl) (by kernel_rfl) (fun _ _ _ h => h) (by rfl) ?_ ?_
          rotate_left
          · (intro wS hS; skip; go_simp; (try with_reducible rfl))
          simp only [List.setIfInBounds_toArray, List.set_cons_zero, List.set_cons_succ]
          refine cm_run 7 36 (v := ?_) rfl rfl (by kernel_rfl) (by kernel_rfl) (by kernel_rfl) (by kernel_rfl) (by kernel_rfl) (fun _ _ _ h => h) (by rfl) ?_ ?_
          rotate_left
          · (intro wS hS; skip; go_simp; (try with_reducible rfl))
          simp only [List.setIfInBounds_toArray, List.set_cons_zero, List.set_cons_succ]
          refine cm_run 8 37 (v := ?_) rfl rfl (by kernel_rfl) (by kernel_rfl) (by kernel_rfl) (by kernel_rfl) (by kernel_rfl) (fun _ _ _ h => h) (by rfl) ?_ ?_
          rotate_left
          · (intro wS hS; skip; go_simp; (try with_reducible rfl))
          simp only [List.setIfInBounds_toArray, List.set_cons_zero, List.set_cons_succ]
          refine cm_run 9 38 (v := ?_) rfl rfl (by kernel_rfl) (by kernel_rfl) (by kernel_rfl) (by kernel_rfl) (by kernel_rfl) (fun _ _ _ h => h) (by rfl) ?_ ?_
          rotate_left
          · (intro wS hS; have g := cell_later hS hcb; go_simp; (try with_reducible rfl))
          simp only [List.setIfInBounds_toArray, List.set_cons_zero, List.set_cons_succ]
          refine cm_run 10 39 (v := ?_) rfl rfl (by kernel_rfl) (by kernel_rfl) (by kernel_rfl) (by kernel_rfl) (by kernel_rfl) (fun _ _ _ h => h) (by rfl) ?_ ?_
          rotate_left
          · (intro wS hS; skip; go_simp; (try with_reducible rfl))
          simp only [List.setIfInBounds_toArray, List.set_cons_zero, List.set_cons_succ]
          refine cm_run 11 40 (v := ?_) rfl rfl (by kernel_rfl) (by kernel_rfl) (by kernel_rfl) (by kernel_rfl) (by kernel_rfl) (fun _ _ _ h => h) (by rfl) ?_ ?_
          rotate_left
          · (intro wS hS; skip; go_simp; (try with_reducible rfl))
          simp only [List.setIfInBounds_toArray, List.set_cons_zero, List.set_cons_succ]
          refine cm_run 12 41 (v := ?_) rfl rfl (by kernel_rfl) (by kernel_rfl) (by kernel_rfl) (by kernel_rfl) (by kernel_rfl) (fun _ _ _ h => h) (by rfl) ?_ ?_
          rotate_left
          · (intro wS hS; skip; go_simp; (try with_reducible rfl))
          simp only [List.setIfInBounds_toArray, List.set_cons_zero, List.set_cons_succ]
          refine cm_run 13 42 (v := ?_) rfl rfl (by kernel_rfl) (by kernel_rfl) (by kernel_rfl) (by kernel_rfl) (by kernel_rfl) (fun _ _ _ h => h) (by rfl) ?_ ?_
          rotate_left
          · (intro wS hS; have g := CA.keep hS hca; go_simp; (try with_reducible rfl))
          simp only [List.setIfInBounds_toArray, List.set_cons_zero, List.set_cons_succ]
          refine cm_call 14 43 66 (v := .int .i64 (vol c)) (args := ?_) rfl rfl (by kernel_rfl) (by kernel_rfl) (by kernel_rfl) (by kernel_rfl) (by kernel_rfl) (fun _ _ _ h => h) (by rfl) ?_ ?_ ?_
          rotate_left 1
          · (intro wS hS; go_simp; (try with_reducible rfl))
          · (intro wS hS; refine (rvol_any c hok _).mono ?_; (rintro e w2 ⟨rfl, hb⟩; exact ⟨rfl, Below.next hS hb⟩))
          simp only [List.setIfInBounds_toArray, List.set_cons_zero, List.set_cons_succ]
          refine cm_run 15 44 (v := ?_) rfl rfl (by kernel_rfl) (by kernel_rfl) (by kernel_rfl) (by kernel_rfl) (by kernel_rfl) (fun _ _ _ h => h) (by rfl) ?_ ?_
          rotate_left
          · (intro wS hS; skip; go_simp; (try with_reducible rfl))
          simp only [List.setIfInBounds_toArray, List.set_cons_zero, List.set_cons_succ]
          refine cm_run 16 45 (v := ?_) rfl rfl (by kernel_rfl) (by kernel_rfl) (by kernel_rfl) (by kernel_rfl) (by kernel_rfl) (fun _ _ _ h => h) (by rfl) ?_ ?_
          rotate_left
          · (intro wS hS; skip; go_simp; (try with_reducible rfl))
          simp only [List.setIfInBounds_toArray, List.set_cons_zero, List.set_cons_succ]
          refine cm_done (by kernel_rfl) ?_
          intro wS hS
          refine NoPanic.normal ?_
          have HBW := Lib.hid (Below.next HBW.out hS)
          have HOW : Hid (wS.ownsRow w.heap.size 3 1 (.slice va (overK cs bs k).length vc) (overK cs bs k).length (ic .i64 (overK cs bs k))) := own_keep hS HOW.out
          clear hS
          go_wp2_with fail
          go_roundw
          case rel => exact ⟨k + 1, by omega, by go_num, by rw [HE.out]; exact HOW.out, HBW.out⟩
          case measure => simp [intOf]; omega
    · obtain rfl : k = N := by omega
      have d2 : decide ((k : Int) < (k : Int)) = false := nb (by omega)
      go_wp2_with fail
      go_ret2
      exact ⟨_, rfl, rdi_owns HOW.out, Fresh.of_owns HOW.out, HBW.out⟩
theorem rOver_any (cs : List Ct) (v : Value) (bs : List Int) (u : Value) (w : World) (h : RdC w v cs) (hu : RdI .i64 w u bs) :
    Calls Try.prog 42 #[v, u] w (OR w (ovL cs bs) (bkE cs bs)) := by
  unfold ovL
  by_cases h0 : bkE cs bs = 0
  · obtain ⟨hp, hl⟩ := bkE_zero h0
    rw [if_pos h0, h0]
    exact rOver_yes cs v bs u hp hl w h hu
  · rw [if_neg h0]
    obtain ⟨er, he⟩ : ∃ er, bkE cs bs = er := ⟨_, rfl⟩
    rw [he] at h0 ⊢
    have d1 : (er != 0) = true := by simpa using h0
    have HR := Lib.hid h
    unfold bkE at he
    by_cases h1 : (planChk cs).1 ≠ 0
    · rw [if_pos h1] at he
      have HP : Hid (planChk cs = (er, (planChk cs).2)) := by unfold Hid; rw [← he]
      obtain ⟨ix, HI⟩ : ∃ ix, Hid ((planChk cs).2 = ix) := ⟨_, rfl⟩
      rw [HI.out] at HP
      clear he h0 h h1
      go_enter Try.func42, Try.ntmps42
      go_wp2_with fail
      refine (rpchk_aux cs _ er ix HP.out _ HR.out).mono ?_
      rintro e w1 ⟨rfl, hb⟩
      go_wp2_with fail
      go_ret2
      exact ⟨_, rfl, RdI.nil _ _, Fresh.nil _ _ _, hb⟩
    · rw [if_neg h1] at he
      have HP := Lib.hid (planChk_zero (by simpa using h1))
      obtain ⟨a0, n0, rfl⟩ := h.form
      obtain ⟨a1, n1, rfl⟩ := hu.form
      have h2 : bs.length ≠ cs.length := fun h2 => by rw [if_neg (by simpa using h2)] at he; exact h0 he.symm
      rw [if_pos h2] at he
      have d2 : ((bs.length : Int) != (cs.length : Int)) = true := by simp; omega
      clear h0 h hu h1 h2 d1
      subst he
      go_enter Try.func42, Try.ntmps42
      go_wp2_with fail
      refine (rpchk_aux cs _ _ _ HP.out _ HR.out).mono ?_
      rintro e w1 ⟨rfl, hb⟩
      go_wp2_with fail
      go_ret2
      exact ⟨_, rfl, RdI.nil _ _, Fresh.nil _ _ _, hb⟩
end Go.Proofs.Ytnbjdgjopdeolaa
