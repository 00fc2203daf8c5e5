


/- Custody: a number within bounds; a move made of a number. -/
import Derived.Test.YtnkpjfogjkjcfaaAw
namespace Go.Proofs.Ytnkpjfogjkjcfaa
open Go.RowKit
set_option linter.unusedSimpArgs false
set_option linter.unusedVariables false
set_option maxRecDepth 100000

theorem mod_any (a n : Int) (hn : 1 ≤ n) (h1 : n ≤ 9223372036854775807) (ha : -9223372036854775808 ≤ a ∧ a ≤ 9223372036854775807) (w : World) :
    Calls Try.prog 18 #[.int .i64 a, .int .i64 n] w fun e w' => e = .returned (.int .i64 (a % n)) ∧ w = w' := by
  have hd : decide (n < 1) = false := nb (by omega)
  by_cases h0 : 0 ≤ a
  · have hm := Int.emod_nonneg a (show n ≠ 0 by omega)
    have hm2 := Int.emod_lt_of_pos a (show 0 < n by omega)
    have hd2 : decide (a % n < 0) = false := nb (by omega)
    go_enter Try.func18, Try.ntmps18
    go_wp2
    go_ret
    exact ⟨rfl, rfl⟩
  · have ht : a.tmod n = - ((-a) % n) := by
      rw [show a = -(-a) by omega, Int.neg_tmod, Int.tmod_eq_emod_of_nonneg (by omega)]; simp
    have hm := Int.emod_nonneg (-a) (show n ≠ 0 by omega)
    have hm2 := Int.emod_lt_of_pos (-a) (show 0 < n by omega)
    have he : a % n = if (-a) % n = 0 then 0 else n - (-a) % n := by
      by_cases hz : (-a) % n = 0
      · rw [if_pos hz]
        obtain ⟨c, hc⟩ := Int.dvd_of_emod_eq_zero hz
        exact Int.emod_eq_zero_of_dvd ⟨-c, by rw [Int.mul_neg, ← hc]; omega⟩
      · rw [if_neg hz]
        have e1 := Int.emod_add_mul_ediv (-a) n
        have : a = (n - (-a) % n) + n * (-((-a) / n) - 1) := by rw [Int.mul_sub, Int.mul_neg]; omega
        have e2 := Int.add_mul_emod_self_left (n - (-a) % n) n (-((-a) / n) - 1)
        rw [← this] at e2
        rw [e2]
        exact Int.emod_eq_of_lt (by omega) (by omega)
    obtain ⟨r, hr⟩ : ∃ r, (-a) % n = r := ⟨_, rfl⟩
    rw [hr] at ht hm hm2 he
    have HE := Lib.hid he
    obtain ⟨t, htt⟩ : ∃ t, a.tmod n = t := ⟨_, rfl⟩
    rw [htt] at ht
    have htn := Lib.hid ht
    have hb1 : t ≤ 0 := by omega
    have hb2 : -n < t := by omega
    have ha' : a < 0 := by omega
    clear he ht hr h0
    go_enter Try.func18, Try.ntmps18
    go_wp2
    · go_ret
      refine ⟨?_, rfl⟩
      rw [HE.out, if_neg (by have := htn.out; omega)]
      show Ending.returned (.int .i64 (t + n)) = _
      rw [htn.out, show n - r = -r + n by omega]
    · go_ret
      refine ⟨?_, rfl⟩
      rw [HE.out, if_pos (by have := htn.out; omega)]
      show Ending.returned (.int .i64 t) = _
      rw [show t = 0 by omega]

abbrev Ib (x : Int) : Prop := -9223372036854775808 ≤ x ∧ x ≤ 9223372036854775807
def kindsL : List Int := [1, 2, 2, 1, 2, 3, 2, 4, 1, 5, 2, 6, 2, 1, 2, 1]
/-- the move made of a number within bounds -/
def mkM (X : Wd) (k : Int) : Mv := ⟨kindsL.getD (k % 16).toNat 0, 1 + k / 16 % (X.cs.length : Int), 1 + k / 256 % (X.cs.length : Int), k / 4096 % ((X.fr.length : Int) + 1)⟩
def mkN (X : Wd) (n : Int) : Mv := mkM X (n % 268435456)
set_option maxHeartbeats 1000000 in
theorem lmade_any (w : World) (v : Value) (X : Wd) (n : Int) (hn : Ib n) (hc : 1 ≤ X.cs.length) (hf : X.fr.length ≤ 100000) (h : RdW w v X) :
    Calls Try.prog 20 #[v, .int .i64 n] w fun e w' => e = .returned ((mkN X n).v) ∧ Below w.heap.size w w' := by
  obtain ⟨cv, fv0, q, rfl, hp⟩ := h
  have hlq := hp.len
  have hmx := hp.rows.2.1
  unfold maxLen at hmx
  obtain ⟨a, c, rfl⟩ := hp.rows.form
  obtain ⟨fa, fc, rfl⟩ := hp.frs.form
  obtain ⟨N, hN⟩ : ∃ N, X.cs.length = N := ⟨_, rfl⟩
  obtain ⟨F, hF⟩ : ∃ F, X.fr.length = F := ⟨_, rfl⟩
  obtain ⟨k, HK, k0, k1⟩ : ∃ y, Hid (n % 268435456 = y) ∧ 0 ≤ y ∧ y < 268435456 := ⟨_, rfl, Int.emod_nonneg _ (by omega), Int.emod_lt_of_pos _ (by omega)⟩
  obtain ⟨r, HR⟩ : ∃ r : Nat, Hid (k % 16 = (r : Int)) := ⟨(k % 16).toNat, Lib.hid (by omega)⟩
  have hr16 : r < 16 := by have := HR.out; omega
  obtain ⟨kd, HKD⟩ : ∃ kd, Hid (kindsL.getD r 0 = kd) := ⟨_, Lib.hid rfl⟩
  have HV : Hid (mkN X n = ⟨kd, 1 + k / 16 % (N : Int), 1 + k / 256 % (N : Int), k / 4096 % ((F : Int) + 1)⟩) := by
    unfold Hid mkN mkM
    rw [HK.out, HR.out, hN, hF, ← HKD.out]
    rfl
  rw [HV.out, hlq, hN, hF]
  rw [hN] at hc hlq
  rw [hF] at hf
  rw [hlq] at hmx
  clear hp hlq hN hF
  obtain ⟨W, hW⟩ : ∃ W : World, W = (w.alloc (.cells #[.int .i64 X.ds, .slice a N c, .slice fa F fc] 25)).alloc (.cells #[.int .i64 0, .int .i64 0, .int .i64 0, .int .i64 0] 40) := ⟨_, rfl⟩
  have hB0 : Below w.heap.size w W := by rw [hW]; exact (by repeat (first | assumption | exact Below.refl _ _ | apply Below.al | apply below_drewN | apply Below.drew | refine Below.next ?_ (by assumption)))
  have bX : BoxN W w.heap.size 25 #[.int .i64 X.ds, .slice a N c, .slice fa F fc] := by rw [hW]; exact (BoxN.new w _ _).below (by repeat (first | assumption | exact Below.refl _ _ | apply Below.al | apply below_drewN | apply Below.drew | refine Below.next ?_ (by assumption)))
  have bR : BoxN W (w.heap.size + 1) 40 #[.int .i64 0, .int .i64 0, .int .i64 0, .int .i64 0] := by
    rw [hW]
    have := BoxN.new (w.alloc (.cells #[.int .i64 X.ds, .slice a N c, .slice fa F fc] 25)) 40 #[.int .i64 0, .int .i64 0, .int .i64 0, .int .i64 0]
    simpa using this
  have x1 : W.cell? ⟨w.heap.size, 1, none⟩ = some (.slice a N c) := bX.cell 1
  have x2 : W.cell? ⟨w.heap.size, 2, none⟩ = some (.slice fa F fc) := bX.cell 2
  have HBR := Lib.hid bR
  have HB0 := Lib.hid hB0
  clear bX bR hB0
  have nN : (0 : Int) < (N : Int) := by omega
  have nF : (0 : Int) < (F : Int) + 1 := by omega
  have q1 : k.tdiv 16 = k / 16 := Int.tdiv_eq_ediv_of_nonneg k0
  have q2 : k.tdiv 256 = k / 256 := Int.tdiv_eq_ediv_of_nonneg k0
  have q3 : k.tdiv 4096 = k / 4096 := Int.tdiv_eq_ediv_of_nonneg k0
  have q4 : k.tmod 16 = (r : Int) := (Int.tmod_eq_emod_of_nonneg k0).trans HR.out
  have q5 : (k / 16).tmod (N : Int) = k / 16 % (N : Int) := Int.tmod_eq_emod_of_nonneg (by omega)
  have q6 : (k / 256).tmod (N : Int) = k / 256 % (N : Int) := Int.tmod_eq_emod_of_nonneg (by omega)
  obtain ⟨A, HA, A0, A1⟩ : ∃ y, Hid (k / 16 % (N : Int) = y) ∧ 0 ≤ y ∧ y < (N : Int) := ⟨_, rfl, Int.emod_nonneg _ (by omega), Int.emod_lt_of_pos _ nN⟩
  obtain ⟨B, HB, B0, B1⟩ : ∃ y, Hid (k / 256 % (N : Int) = y) ∧ 0 ≤ y ∧ y < (N : Int) := ⟨_, rfl, Int.emod_nonneg _ (by omega), Int.emod_lt_of_pos _ nN⟩
  obtain ⟨C, HC, C0, C1⟩ : ∃ y, Hid (k / 4096 % ((F : Int) + 1) = y) ∧ 0 ≤ y ∧ y < (F : Int) + 1 := ⟨_, rfl, Int.emod_nonneg _ (by omega), Int.emod_lt_of_pos _ nF⟩
  rw [HA.out] at q5 ⊢
  rw [HB.out] at q6 ⊢
  rw [HC.out]
  have hmod := mod_any (k / 4096) ((F : Int) + 1) (by omega) (by omega) (by constructor <;> omega)
  rw [HC.out] at hmod
  have HM := Lib.hid hmod
  have v1 : IntKind.i64.wrap (k / 16) = k / 16 := IntWalk.i64_in _ (by omega)
  have v2 : IntKind.i64.wrap (k / 256) = k / 256 := IntWalk.i64_in _ (by omega)
  have v3 : IntKind.i64.wrap (k / 4096) = k / 4096 := IntWalk.i64_in _ (by omega)
  have v4 : IntKind.i64.wrap (1 + A) = 1 + A := IntWalk.i64_in _ (by omega)
  have v5 : IntKind.i64.wrap (1 + B) = 1 + B := IntWalk.i64_in _ (by omega)
  have v6 : IntKind.i64.wrap ((F : Int) + 1) = (F : Int) + 1 := IntWalk.i64_in _ (by omega)
  have v7 : IntKind.i64.wrap A = A := IntWalk.i64_in _ (by omega)
  have v8 : IntKind.i64.wrap B = B := IntWalk.i64_in _ (by omega)
  have v9 : IntKind.i64.wrap (r : Int) = (r : Int) := IntWalk.i64_in _ (by omega)
  have z1 : ((N : Int) == 0) = false := by simp; omega
  have z2 : (if 1 < (N : Int) then (N : Int) else 1) = (N : Int) := by split <;> omega
  have z3 : ¬ N = 0 := by omega
  clear hmod A0 A1 B0 B1 C0 C1
  go_enter Try.func20, Try.ntmps20
  go_upto_region 1 with fail
  rw [← hW]
  clear hW
  go_wp2_with fail
  refine (mod_any n 268435456 (by omega) (by omega) hn _).mono ?_
  rw [HK.out]
  rintro e w9 ⟨rfl, rfl⟩
  go_upto_region 3 with fail
  refine wp_region_noPanic ?_
  refine wp_region_held_drew (S := (fun w' => Below W.heap.size W w')) (by kernel_rfl) ((Below.refl _ W).drew) (fun hHeld => ?_)
  refine reg_tk (v := ?_) 0 14 rfl rfl (by kernel_rfl) (by kernel_rfl) (by kernel_rfl) (fun _ _ _ h => h) (by rfl) ?_ (by assumption) ?_
  rotate_left
  · (intro w hSw; (try dsimp only at hSw); go_simp; (try with_reducible rfl))
  simp only [List.setIfInBounds_toArray, List.set_cons_zero, List.set_cons_succ]
  refine reg_tk (v := ?_) 1 15 rfl rfl (by kernel_rfl) (by kernel_rfl) (by kernel_rfl) (fun _ _ _ h => h) (by rfl) ?_ (by assumption) ?_
  rotate_left
  · (intro w hSw; (try dsimp only at hSw); go_simp; (try with_reducible rfl))
  simp only [List.setIfInBounds_toArray, List.set_cons_zero, List.set_cons_succ]
  refine reg_tk (v := ?_) 2 16 rfl rfl (by kernel_rfl) (by kernel_rfl) (by kernel_rfl) (fun _ _ _ h => h) (by rfl) ?_ (by assumption) ?_
  rotate_left
  · (intro w hSw; (try dsimp only at hSw); go_simp; (try with_reducible rfl))
  simp only [List.setIfInBounds_toArray, List.set_cons_zero, List.set_cons_succ]
  refine reg_tk (v := .int .i64 A) 3 17 rfl rfl (by kernel_rfl) (by kernel_rfl) (by kernel_rfl) (fun _ _ _ h => h) (by rfl) (fun w3 hS => by skip; go_simp) (by assumption) ?_
  simp only [List.setIfInBounds_toArray, List.set_cons_zero, List.set_cons_succ]
  refine reg_tk (v := ?_) 4 18 rfl rfl (by kernel_rfl) (by kernel_rfl) (by kernel_rfl) (fun _ _ _ h => h) (by rfl) ?_ (by assumption) ?_
  rotate_left
  · (intro w hSw; (try dsimp only at hSw); go_simp; (try with_reducible rfl))
  simp only [List.setIfInBounds_toArray, List.set_cons_zero, List.set_cons_succ]
  refine reg_tk (v := ?_) 5 19 rfl rfl (by kernel_rfl) (by kernel_rfl) (by kernel_rfl) (fun _ _ _ h => h) (by rfl) ?_ (by assumption) ?_
  rotate_left
  · (intro w hSw; (try dsimp only at hSw); go_simp; (try with_reducible rfl))
  simp only [List.setIfInBounds_toArray, List.set_cons_zero, List.set_cons_succ]
  refine reg_tk (v := ?_) 6 20 rfl rfl (by kernel_rfl) (by kernel_rfl) (by kernel_rfl) (fun _ _ _ h => h) (by rfl) ?_ (by assumption) ?_
  rotate_left
  · (intro w hSw; (try dsimp only at hSw); go_simp; (try with_reducible rfl))
  simp only [List.setIfInBounds_toArray, List.set_cons_zero, List.set_cons_succ]
  refine reg_tk (v := ?_) 7 21 rfl rfl (by kernel_rfl) (by kernel_rfl) (by kernel_rfl) (fun _ _ _ h => h) (by rfl) ?_ (by assumption) ?_
  rotate_left
  · (intro w hSw; (try dsimp only at hSw); go_simp; (try with_reducible rfl))
  simp only [List.setIfInBounds_toArray, List.set_cons_zero, List.set_cons_succ]
  refine reg_tk (v := .int .i64 B) 8 22 rfl rfl (by kernel_rfl) (by kernel_rfl) (by kernel_rfl) (fun _ _ _ h => h) (by rfl) (fun w3 hS => by skip; go_simp) (by assumption) ?_
  simp only [List.setIfInBounds_toArray, List.set_cons_zero, List.set_cons_succ]
  refine reg_tk (v := ?_) 9 23 rfl rfl (by kernel_rfl) (by kernel_rfl) (by kernel_rfl) (fun _ _ _ h => h) (by rfl) ?_ (by assumption) ?_
  rotate_left
  · (intro w hSw; (try dsimp only at hSw); go_simp; (try with_reducible rfl))
  simp only [List.setIfInBounds_toArray, List.set_cons_zero, List.set_cons_succ]
  refine reg_tk (v := ?_) 10 24 rfl rfl (by kernel_rfl) (by kernel_rfl) (by kernel_rfl) (fun _ _ _ h => h) (by rfl) ?_ (by assumption) ?_
  rotate_left
  · (intro w hSw; (try dsimp only at hSw); go_simp; (try with_reducible rfl))
  simp only [List.setIfInBounds_toArray, List.set_cons_zero, List.set_cons_succ]
  refine reg_tk (v := ?_) 11 25 rfl rfl (by kernel_rfl) (by kernel_rfl) (by kernel_rfl) (fun _ _ _ h => h) (by rfl) ?_ (by assumption) ?_
  rotate_left
  · (intro w hSw; (try dsimp only at hSw); go_simp; (try with_reducible rfl))
  simp only [List.setIfInBounds_toArray, List.set_cons_zero, List.set_cons_succ]
  refine reg_tk (v := ?_) 12 26 rfl rfl (by kernel_rfl) (by kernel_rfl) (by kernel_rfl) (fun _ _ _ h => h) (by rfl) ?_ (by assumption) ?_
  rotate_left
  · (intro w hSw; (try dsimp only at hSw); go_simp; (try with_reducible rfl))
  simp only [List.setIfInBounds_toArray, List.set_cons_zero, List.set_cons_succ]
  refine reg_tk (v := .slice fa F fc) 13 27 rfl rfl (by kernel_rfl) (by kernel_rfl) (by kernel_rfl) (fun _ _ _ h => h) (by rfl) (fun w3 hS => by have g := cell_later hS x2; go_simp) (by assumption) ?_
  simp only [List.setIfInBounds_toArray, List.set_cons_zero, List.set_cons_succ]
  refine reg_tk (v := ?_) 14 28 rfl rfl (by kernel_rfl) (by kernel_rfl) (by kernel_rfl) (fun _ _ _ h => h) (by rfl) ?_ (by assumption) ?_
  rotate_left
  · (intro w hSw; (try dsimp only at hSw); go_simp; (try with_reducible rfl))
  simp only [List.setIfInBounds_toArray, List.set_cons_zero, List.set_cons_succ]
  refine reg_tk (v := ?_) 15 29 rfl rfl (by kernel_rfl) (by kernel_rfl) (by kernel_rfl) (fun _ _ _ h => h) (by rfl) ?_ (by assumption) ?_
  rotate_left
  · (intro w hSw; (try dsimp only at hSw); go_simp; (try with_reducible rfl))
  simp only [List.setIfInBounds_toArray, List.set_cons_zero, List.set_cons_succ]
  refine reg_call 16 30 18 (v := .int .i64 C) (args := #[.int .i64 (k / 4096), .int .i64 ((F : Int) + 1)]) rfl rfl (by kernel_rfl) (by kernel_rfl) (by kernel_rfl) (fun _ _ _ h => h) (by rfl) (fun w3 hS => by go_simp) (fun w3 hS => (HM.out _).mono (by rintro e w4 ⟨rfl, rfl⟩; exact ⟨rfl, rfl⟩)) (by assumption) ?_
  simp only [List.setIfInBounds_toArray, List.set_cons_zero, List.set_cons_succ]
  refine reg_tk (v := ?_) 17 31 rfl rfl (by kernel_rfl) (by kernel_rfl) (by kernel_rfl) (fun _ _ _ h => h) (by rfl) ?_ (by assumption) ?_
  rotate_left
  · (intro w hSw; (try dsimp only at hSw); go_simp; (try with_reducible rfl))
  simp only [List.setIfInBounds_toArray, List.set_cons_zero, List.set_cons_succ]
  refine wpAnyH_ready (rs := [18]) (by kernel_rfl) (by simp) ?_
  refine AllReadyH.cons rfl (fun K hK => ?_) AllReadyH.nil
  go_simp
  refine hK.out _ _ (Below.al (Below.refl _ W).drew _) (fun hHeld2 => ?_)
  clear hK K hHeld
  have hHeld := hHeld2
  clear hHeld2
  try simp only [Act.put, List.setIfInBounds_toArray, List.set_cons_zero, List.set_cons_succ]
  refine wpAnyH_ready (rs := [19]) (by kernel_rfl) (by simp) ?_
  refine AllReadyH.cons rfl (fun K hK => ?_) AllReadyH.nil
  go_simp
  obtain ⟨W3, hW3⟩ : ∃ W3 : World, W3 = (W.alloc (.cells #[.int .i64 0, .int .i64 (1 + A), .int .i64 (1 + B), .int .i64 C] 40)).drew := ⟨_, rfl⟩
  have hb3 : Below W.heap.size W W3 := by rw [hW3]; exact (Below.al (Below.refl _ W) _).drew
  have b3 : BoxN W3 W.heap.size 40 #[.int .i64 0, .int .i64 (1 + A), .int .i64 (1 + B), .int .i64 C] := by rw [hW3]; exact (BoxN.new _ _ _).below ((Below.refl _ _).drew)
  rw [← hW3]
  clear hW3
  refine hK.out _ _ hb3 (fun hHeld2 => ?_)
  clear hK K hHeld
  have hHeld := hHeld2
  clear hHeld2
  try simp only [Act.put, List.setIfInBounds_toArray, List.set_cons_zero, List.set_cons_succ]
  refine wpAnyH_done (by kernel_rfl) ?_ _
  refine NoPanic.normal ?_
  clear hHeld
  obtain ⟨p3, hp3⟩ : ∃ p, W.heap.size = p := ⟨_, rfl⟩
  rw [hp3] at b3
  have HB3 := Lib.hid (Below.next HB0.out hb3)
  have HBR3 := Lib.hid (HBR.out.below hb3)
  have hzr : w.heap.size + 1 < p3 := by rw [← hp3]; exact HBR.out.lt
  have hz3 := b3.lt
  have HB33 := Lib.hid b3
  clear b3 hb3
  rw [hp3]
  clear hp3
  have hgk : ([.int .i64 1, .int .i64 2, .int .i64 2, .int .i64 1, .int .i64 2, .int .i64 3, .int .i64 2, .int .i64 4, .int .i64 1, .int .i64 5, .int .i64 2, .int .i64 6, .int .i64 2, .int .i64 1, .int .i64 2, .int .i64 1] : List Value)[r]'(by simpa using hr16) = .int .i64 kd := by
    have e := ic_get .i64 kindsL r hr16
    rw [HKD.out] at e
    have e2 := List.getElem?_eq_getElem (l := ([.int .i64 1, .int .i64 2, .int .i64 2, .int .i64 1, .int .i64 2, .int .i64 3, .int .i64 2, .int .i64 4, .int .i64 1, .int .i64 5, .int .i64 2, .int .i64 6, .int .i64 2, .int .i64 1, .int .i64 2, .int .i64 1] : List Value)) (i := r) (by simpa using hr16)
    exact Option.some.inj (e2.symm.trans e)
  obtain ⟨W4, hW4⟩ : ∃ W4 : World, Hid (W4 = W3.alloc (.cells #[.int .i64 1, .int .i64 2, .int .i64 2, .int .i64 1, .int .i64 2, .int .i64 3, .int .i64 2, .int .i64 4, .int .i64 1, .int .i64 5, .int .i64 2, .int .i64 6, .int .i64 2, .int .i64 1, .int .i64 2, .int .i64 1] 3)) := ⟨_, Lib.hid rfl⟩
  have hb4 : Below W3.heap.size W3 W4 := by rw [hW4.out]; exact (by repeat (first | assumption | exact Below.refl _ _ | apply Below.al | apply below_drewN | apply Below.drew | refine Below.next ?_ (by assumption)))
  have b4 := HB33.out.below hb4
  have m0 : (W3.alloc (.cells #[.int .i64 1, .int .i64 2, .int .i64 2, .int .i64 1, .int .i64 2, .int .i64 3, .int .i64 2, .int .i64 4, .int .i64 1, .int .i64 5, .int .i64 2, .int .i64 6, .int .i64 2, .int .i64 1, .int .i64 2, .int .i64 1] 3)).cell? ⟨p3, 0, none⟩ = some (.int .i64 0) := by rw [← hW4.out]; exact b4.cell 0
  have f0 : (W3.alloc (.cells #[.int .i64 1, .int .i64 2, .int .i64 2, .int .i64 1, .int .i64 2, .int .i64 3, .int .i64 2, .int .i64 4, .int .i64 1, .int .i64 5, .int .i64 2, .int .i64 6, .int .i64 2, .int .i64 1, .int .i64 2, .int .i64 1] 3)).frozen? ⟨p3, 0, none⟩ = false := by rw [← hW4.out]; exact b4.frozen 0
  have HB4 := Lib.hid b4
  have HBB := Lib.hid hb4
  have n1 : (0 : Int) ≤ (r : Int) := by omega
  have n2 : (r : Int) < (16 : Int) := by omega
  clear b4 hb4
  go_upto_region 4 with fail
  go_upto_region 5 with fail
  obtain ⟨W5, hW5⟩ : ∃ W5 : World, Hid (W5 = (W3.setCell ⟨p3, 0, none⟩ (.int .i64 kd)).alloc (.cells #[.int .i64 1, .int .i64 2, .int .i64 2, .int .i64 1, .int .i64 2, .int .i64 3, .int .i64 2, .int .i64 4, .int .i64 1, .int .i64 5, .int .i64 2, .int .i64 6, .int .i64 2, .int .i64 1, .int .i64 2, .int .i64 1] 3)) := ⟨_, Lib.hid rfl⟩
  rw [← hW5.out]
  have b5 : BoxN W5 p3 40 #[.int .i64 kd, .int .i64 (1 + A), .int .i64 (1 + B), .int .i64 C] := by rw [hW5.out]; exact (HB33.out.setc 0 _).alloc _
  have hk5 : Kx (fun k => k = p3) W3 W5 := by rw [hW5.out]; exact (kx_cell _ _ _ _).alloc _
  have r5 := hk5.box (by omega) HBR3.out
  have s0 : W5.cell? ⟨p3, 0, none⟩ = some (.int .i64 kd) := b5.cell 0
  have s1 : W5.cell? ⟨p3, 1, none⟩ = some (.int .i64 (1 + A)) := b5.cell 1
  have s2 : W5.cell? ⟨p3, 2, none⟩ = some (.int .i64 (1 + B)) := b5.cell 2
  have s3 : W5.cell? ⟨p3, 3, none⟩ = some (.int .i64 C) := b5.cell 3
  have t0 : W5.cell? ⟨w.heap.size + 1, 0, none⟩ = some (.int .i64 0) := r5.cell 0
  have t1 : W5.cell? ⟨w.heap.size + 1, 1, none⟩ = some (.int .i64 0) := r5.cell 1
  have t2 : W5.cell? ⟨w.heap.size + 1, 2, none⟩ = some (.int .i64 0) := r5.cell 2
  have t3 : W5.cell? ⟨w.heap.size + 1, 3, none⟩ = some (.int .i64 0) := r5.cell 3
  have y0 := r5.frozen 0
  have y1 := r5.frozen 1
  have y2 := r5.frozen 2
  have y3 := r5.frozen 3
  have hB5 : Below w.heap.size w W5 := by rw [hW5.out]; exact Below.al (HB3.out.setCell (p := ⟨p3, 0, none⟩) (by show w.heap.size ≤ p3; omega) _) _
  clear hW5 b5 hk5 r5
  go_wp2_with fail
  refine bodyPost_ret (v := .agg #[.int .i64 kd, .int .i64 (1 + A), .int .i64 (1 + B), .int .i64 C]) (by simp [results, Try.results20, go_sem, t0, t1, t2, t3]) rfl ⟨rfl, ?_⟩
  exact (((hB5.setCell (p := ⟨w.heap.size + 1, 0, none⟩) (Nat.le_succ _) _).setCell (p := ⟨w.heap.size + 1, 1, none⟩) (Nat.le_succ _) _).setCell (p := ⟨w.heap.size + 1, 2, none⟩) (Nat.le_succ _) _).setCell (p := ⟨w.heap.size + 1, 3, none⟩) (Nat.le_succ _) _
end Go.Proofs.Ytnkpjfogjkjcfaa
