


/- RouteRest: the law's walk. -/
import Derived.Test.YtgmfifilgbbogaaRXk
import Derived.Test.YtgmfifilgbbogaaRYa
import Derived.Test.YtgmfifilgbbogaaTBp
import Derived.Test.YtgmfifilgbbogaaFIp
import Derived.Test.YtgmfifilgbbogaaQU
namespace Go.Proofs.Ytgmfifilgbbogaa
open Go.RowKit
set_option linter.unusedSimpArgs false
set_option linter.unusedVariables false
set_option maxRecDepth 100000

set_option maxHeartbeats 8000000 in
theorem lrest_any (nv : Value) (nums : List Int) (n hops : Int) (hb : ∀ x ∈ nums, Ib x) (hn : Ib n) (hh : Ib hops) (w : World) (h : RdI .i64 w nv nums) :
    Calls Try.prog 9 #[nv, .int .i64 n, .int .i64 hops] w fun e w' => e = .returned (.bool true) ∧ Below w.heap.size w w' := by
  obtain ⟨a, c, rfl⟩ := h.form
  have HAK := Lib.hid (fun w' (hb' : Below w.heap.size w w') => asked_any (.slice a nums.length c) nums n hb hn w' (h.keep hb'))
  have hq := ask_ok nums n
  have hsm := ask_small nums n
  obtain ⟨q, hqe⟩ : ∃ q, askV nums n = q := ⟨_, rfl⟩
  rw [hqe] at HAK hq hsm
  obtain ⟨N, hN⟩ : ∃ N, nums.length = N := ⟨_, rfl⟩
  rw [hN] at HAK ⊢
  clear h hb hn hN hqe
  have c2 := hq.chk
  have hfr := hq.fr
  have hto := hq.nd
  have htk := hq.tk
  have hsz := hq.sz
  have hokp := hq.okp
  have hln := hq.len
  have hwf := hq.wf
  have hpv := hq.pv
  clear hq
  obtain ⟨cs, u, v, t, s⟩ := q
  dsimp only at HAK c2 hfr hto htk hsz hokp hln hwf hsm hpv
  have hbq := bestq_V cs u v t s
  obtain ⟨⟨er, arr, l⟩, he⟩ : ∃ x, bestV cs u v t s = x := ⟨_, rfl⟩
  rw [he] at hbq
  dsimp only at hbq
  clear he
  have HQ := Lib.hid hbq
  obtain ⟨NP, hNP⟩ : ∃ k, cs.length = k := ⟨_, rfl⟩
  have HNP := Lib.hid hNP
  obtain ⟨L, hL⟩ : ∃ k, (ints l).length = k := ⟨_, rfl⟩
  have HL := Lib.hid hL
  have HWF := Lib.hid hwf
  rcases hbq with ⟨h1, _⟩ | ⟨_, hneg, rfl, rfl, rfl⟩ | ⟨_, rfl, harr, kk, hB⟩
  · exact absurd c2 h1
  · clear hneg hNP hL hwf hfr hto htk hsz hokp hln c2 hsm hpv
    go_enter Try.func9, Try.ntmps9
    go_wp2_with fail
    refine (known_any w).mono ?_
    rintro e w1 ⟨rfl, hb1⟩
    have HAK1 := Lib.hid (HAK.out w1 hb1)
    go_wp2_with fail
    refine HAK1.out.mono ?_
    rintro e w2 ⟨pv, rfl, hrd, hb2⟩
    obtain ⟨pa, pc, rfl⟩ := hrd.form
    rw [HNP.out] at hrd ⊢
    have HRD := Lib.hid hrd
    have HBW := Lib.hid (Below.next hb1 hb2)
    have HB1 := Lib.hid (best_any (.slice pa NP pc) cs u v t s 15 0 [] HWF.out HQ.out w2 hrd)
    clear hrd hb1 hb2 HAK1
    go_wp2_with fail
    refine HB1.out.mono ?_
    rintro e w3 ⟨⟨rv, rfl, hrt⟩, hb3⟩
    obtain ⟨cv, rfl, hrow⟩ := hrt.rd
    obtain ⟨ca, cc, rfl⟩ := hrow.form
    rw [HL.out] at hrow ⊢
    have HROW := Lib.hid hrow
    clear hrt hrow
    obtain ⟨Q4, HQ9⟩ : ∃ Q, Hid ((w3).heap.size = Q) := ⟨_, Lib.hid rfl⟩
    obtain ⟨W4, HW9⟩ : ∃ V : World, Hid (V = (w3).alloc (.cells #[.slice ca L cc, .int .i64 0] 27)) := ⟨_, Lib.hid rfl⟩
    have hb4 : Below (w3).heap.size w3 W4 := by rw [HW9.out]; exact (by repeat (first | assumption | exact Below.refl _ _ | apply Below.al | apply below_drewN | apply Below.drew | refine Below.next ?_ (by assumption)))
    have hx4 : BoxN W4 Q4 27 #[.slice ca L cc, .int .i64 0] := by rw [HW9.out, ← HQ9.out]; exact BoxN.new _ _ _
    go_upto_region 4 with fail
    rw [← HW9.out, HQ9.out]
    clear HW9 HQ9
    replace HROW := Lib.hid (HROW.out.keep hb4)
    replace HRD := Lib.hid ((HRD.out.keep hb3).keep hb4)
    replace HBW := Lib.hid (Below.next (Below.next HBW.out hb3) hb4)
    have HX := Lib.hid hx4
    clear hb3 hb4 hx4 HB1
    go_wp2_with fail
    go_ret
    exact ⟨rfl, HBW.out⟩
  · have h15 := hB.few15 hokp hsz.1 (by omega)
    have hlen := hB.len
    have hNl : l.length = L := by rw [← hL]; simp [ints]
    have hw0 : walkP cs s (l.drop 0) u t = some (v, arr) := hB.walk
    have HW0 := Lib.hid hw0
    have HNL := Lib.hid hNl
    have HLL := Lib.hid (show (ints l).length = L from hL)
    have HOKP := Lib.hid hokp
    have HSM := Lib.hid hsm
    have HS1 : Hid (1 ≤ s ∧ s ≤ 400) := Lib.hid hsz
    have HV1 : Hid (1 ≤ v ∧ v ≤ 5) := Lib.hid hto
    have HCK := Lib.hid (fun (x r : Int) (hx : 1 ≤ x ∧ x ≤ 16) (hr : 0 ≤ r ∧ r ≤ 1048646) => (pv_ok hpv (by omega) (by omega) (by omega) (fun y hy => by
      simp only [List.mem_cons, List.mem_nil_iff, or_false] at hy
      rcases hy with rfl | rfl <;> omega) : chkE cs r s [x, v] = 0))
    have HAS := Lib.hid (fun (r : Int) (hr : 0 ≤ r ∧ r ≤ 1048646) => (by rw [← chk_nil]; exact pv_ok hpv (by omega) (by omega) (by omega) (fun y hy => by cases hy) : askE cs r s = 0))
    have hLm : L < 16 := by omega
    have hNPm : NP ≤ 12 := by omega
    have hu16 : 1 ≤ u ∧ u ≤ 16 := by omega
    have ht0 : 0 ≤ t ∧ t ≤ 1048646 := by omega
    have HU := Lib.hid (And.intro hu16 ht0)
    have HMD := Lib.hid (fun w' => mod_any hops ((L : Int) + 1) (by omega) (by omega) hh w')
    obtain ⟨K, hK⟩ : ∃ K, hops % ((L : Int) + 1) = K := ⟨_, rfl⟩
    have hK0 : 0 ≤ K := by rw [← hK]; exact Int.emod_nonneg _ (by omega)
    have hK1 : K < (L : Int) + 1 := by rw [← hK]; exact Int.emod_lt_of_pos _ (by omega)
    rw [hK] at HMD
    obtain ⟨k, rfl⟩ : ∃ k : Nat, K = (k : Int) := ⟨K.toNat, by omega⟩
    have hkL : k ≤ L := by omega
    have hwL : IntKind.i64.wrap ((L : Int) + 1) = (L : Int) + 1 := IntWalk.i64_in _ (by omega)
    clear harr h15 hlen hB hNP hL hwf hfr hto htk hsz hokp hln c2 hNl hsm hpv hw0 hK hK0 hK1 hu16 ht0 hh
    go_enter Try.func9, Try.ntmps9
    go_wp2_with fail
    refine (known_any w).mono ?_
    rintro e w1 ⟨rfl, hb1⟩
    have HAK1 := Lib.hid (HAK.out w1 hb1)
    go_wp2_with fail
    refine HAK1.out.mono ?_
    rintro e w2 ⟨pv, rfl, hrd, hb2⟩
    obtain ⟨pa, pc, rfl⟩ := hrd.form
    rw [HNP.out] at hrd ⊢
    have HRD := Lib.hid hrd
    have HBW := Lib.hid (Below.next hb1 hb2)
    have HB1 := Lib.hid (best_any (.slice pa NP pc) cs u v t s 0 arr l HWF.out HQ.out w2 hrd)
    clear hrd hb1 hb2 HAK1
    go_wp2_with fail
    refine HB1.out.mono ?_
    rintro e w3 ⟨⟨rv, rfl, hrt⟩, hb3⟩
    obtain ⟨cv, rfl, hrow⟩ := hrt.rd
    obtain ⟨ca, cc, rfl⟩ := hrow.form
    rw [HL.out] at hrow ⊢
    have HROW := Lib.hid hrow
    clear hrt hrow
    obtain ⟨Q4, HQ9⟩ : ∃ Q, Hid ((w3).heap.size = Q) := ⟨_, Lib.hid rfl⟩
    obtain ⟨W4, HW9⟩ : ∃ V : World, Hid (V = (w3).alloc (.cells #[.slice ca L cc, .int .i64 arr] 27)) := ⟨_, Lib.hid rfl⟩
    have hb4 : Below (w3).heap.size w3 W4 := by rw [HW9.out]; exact (by repeat (first | assumption | exact Below.refl _ _ | apply Below.al | apply below_drewN | apply Below.drew | refine Below.next ?_ (by assumption)))
    have hx4 : BoxN W4 Q4 27 #[.slice ca L cc, .int .i64 arr] := by rw [HW9.out, ← HQ9.out]; exact BoxN.new _ _ _
    go_upto_region 4 with fail
    rw [← HW9.out, HQ9.out]
    clear HW9 HQ9
    replace HROW := Lib.hid (HROW.out.keep hb4)
    replace HRD := Lib.hid ((HRD.out.keep hb3).keep hb4)
    replace HBW := Lib.hid (Below.next (Below.next HBW.out hb3) hb4)
    have HX := Lib.hid hx4
    clear hb3 hb4 hx4 HB1
    have x0 : W4.cell? ⟨Q4, 0, none⟩ = some (.slice ca L cc) := HX.out.cell 0
    have x1 : W4.cell? ⟨Q4, 1, none⟩ = some (.int .i64 arr) := HX.out.cell 1
    have HMD4 := Lib.hid (HMD.out W4)
    go_wp2_with fail
    refine HMD4.out.mono ?_
    rintro e w5 ⟨rfl, h9⟩
    subst h9
    clear x0 x1 HMD4
    go_wp2_with fail
    go_loopw [9, 11, 15] (fun xv tv iv wr => ∃ (i : Nat) (x r : Int), i ≤ k ∧ iv = .int .i64 i ∧ xv = .int .i64 x ∧ tv = .int .i64 r ∧ Hid (walkP cs s (l.drop i) x r = some (v, arr)) ∧ Hid ((1 ≤ x ∧ x ≤ 16) ∧ (0 ≤ r ∧ r ≤ 1048646)) ∧ Below W4.heap.size W4 wr) (fun _ _ iv _ => k - (intOf iv).toNat)
    case atStart => exact ⟨0, u, t, Nat.zero_le _, rfl, rfl, rfl, HW0, HU, Below.refl _ _⟩
    case round =>
      obtain ⟨i, x, r, hik, rfl, rfl, rfl, HWI, HXR, hbr⟩ := hrel
      have hxr := HX.out.below hbr
      have x0 : wr.cell? ⟨Q4, 0, none⟩ = some (.slice ca L cc) := hxr.cell 0
      have x1 : wr.cell? ⟨Q4, 1, none⟩ = some (.int .i64 arr) := hxr.cell 1
      by_cases hlt : i < k
      · have d2 : decide ((i : Int) < (k : Int)) = true := yb (by omega)
        obtain ⟨b2, o2, hab2, hc2, f0⟩ := RdI.at (HROW.out.keep hbr) HLL.out i (by omega)
        subst hab2
        rw [ints_get] at f0
        obtain ⟨hci, r2, hho, hw2⟩ := rest_step (by rw [HNL.out]; omega) HWI.out
        obtain ⟨ci, HCI⟩ : ∃ k, Hid (l.getD i 0 = k) := ⟨_, Lib.hid rfl⟩
        rw [HCI.out] at f0 hci hho hw2
        have hok : okC (cs.getD ci c0) := HOKP.out _ (by rw [List.getD_eq_getElem?_getD, List.getElem?_eq_getElem hci]; exact List.getElem_mem _)
        have hsc : smallC (cs.getD ci c0) := HSM.out _ (by rw [List.getD_eq_getElem?_getD, List.getElem?_eq_getElem hci]; exact List.getElem_mem _)
        have hgt := hop_gt hok HS1.out.1 hho
        have hle := hop_small hok hsc hho
        have hhv := hop_at (HAS.out r HXR.out.2) hci hho
        have hh1 := hopq_any (.slice pa NP pc) cs (ci : Int) r s HWF.out wr (HRD.out.keep hbr)
        rw [hhv] at hh1
        have HH := Lib.hid hh1
        have HW2 := Lib.hid hw2
        rw [HNP.out] at hci
        obtain ⟨b3, o3, hab3, hc3, ca0, ca1, ca2, ca3, ca4, ca5⟩ := RdC.at (HRD.out.keep hbr) HNP.out ci hci
        subst hab3
        have hdt := hok.2.1
        obtain ⟨y, HYY⟩ : ∃ y, Hid ((cs.getD ci c0).dt = y) := ⟨_, Lib.hid rfl⟩
        rw [HYY.out] at ca1 hdt
        replace HW2 : Hid (walkP cs s (l.drop (i + 1)) y r2 = some (v, arr)) := by rw [HYY.out] at HW2; exact HW2
        have HXR2 : Hid ((1 ≤ y ∧ y ≤ 16) ∧ (0 ≤ r2 ∧ r2 ≤ 1048646)) := Lib.hid ⟨hdt, by have := HXR.out.2; omega, hle⟩
        have n1 : (0 : Int) ≤ (i : Int) := by omega
        have n2 : (i : Int) < (L : Int) := by omega
        have n5 : (0 : Int) ≤ (ci : Int) := by omega
        have n6 : (ci : Int) < (NP : Int) := by omega
        have d3 : decide (r2 < r) = false := nb (by omega)
        have hwk : IntKind.i64.wrap (i : Int) = (i : Int) := IntWalk.i64_in _ (by omega)
        have hwk1 : IntKind.i64.wrap ((i : Int) + 1) = (i : Int) + 1 := IntWalk.i64_in _ (by omega)
        have hwc : IntKind.i64.wrap (ci : Int) = (ci : Int) := IntWalk.i64_in _ (by omega)
        clear hh1 hhv hok hsc hgt hle hho hw2 hdt ca0 ca2 ca3 ca4 ca5 hci hxr
        go_wp2_with fail
        refine HH.out.mono ?_
        rintro e w6 ⟨rfl, hb6⟩
        have y0 := cell_later hb6 x0
        have f1 := cell_later hb6 f0
        have ca1' := cell_later hb6 ca1
        have hbr6 := Below.next hbr hb6
        clear x0 x1 f0 ca1 hb6 hbr HH
        go_wp2_with fail
        go_roundw
        case rel => exact ⟨i + 1, y, r2, by omega, by go_num, rfl, rfl, HW2, HXR2, hbr6⟩
        case measure => simp [intOf]; omega
      · obtain rfl : i = k := by omega
        have d2 : decide ((i : Int) < (i : Int)) = false := nb (by omega)
        obtain ⟨sv, hsl, hrd⟩ := cut_lo (HROW.out.keep hbr) HLL.out i hkL
        have hck := rest_check (HCK.out x r HXR.out.1 HXR.out.2) HWI.out
        have he : ints (l.drop i) = (ints l).drop i := by unfold ints; rw [List.map_drop]
        rw [he] at hck
        obtain ⟨LR, hLR⟩ : ∃ k, ((ints l).drop i) = k := ⟨_, rfl⟩
        rw [hLR] at hck hrd
        obtain ⟨za, zc, rfl⟩ := hrd.form
        obtain ⟨LD, hLD⟩ : ∃ k, LR.length = k := ⟨_, rfl⟩
        rw [hLD] at hrd hsl
        have HCE := Lib.hid hck
        have HSL := Lib.hid hrd
        clear he hck hrd hlt hLR hLD
        go_upto_region 14 with fail
        refine wp_region_noPanic ?_
        refine wp_region_held_drew (S := (fun w' => Below wr.heap.size wr w')) (by kernel_rfl) ((Below.refl _ wr).drew) (fun hHeld => ?_)
        refine reg_tk (v := ?_) 0 85 rfl rfl (by kernel_rfl) (by kernel_rfl) (by kernel_rfl) (fun _ _ _ h => h) (by rfl) ?_ (by assumption) ?_
        rotate_left
        · (intro w hSw; (try dsimp only at hSw); go_simp; (try with_reducible rfl))
        simp only [List.setIfInBounds_toArray, List.set_cons_zero, List.set_cons_succ]
        refine reg_tk (v := .slice ca L cc) 1 86 rfl rfl (by kernel_rfl) (by kernel_rfl) (by kernel_rfl) (fun _ _ _ h => h) (by rfl) (fun w3 hS => by have g := cell_later hS x0; go_simp) (by assumption) ?_
        simp only [List.setIfInBounds_toArray, List.set_cons_zero, List.set_cons_succ]
        refine reg_tk (v := ?_) 2 87 rfl rfl (by kernel_rfl) (by kernel_rfl) (by kernel_rfl) (fun _ _ _ h => h) (by rfl) ?_ (by assumption) ?_
        rotate_left
        · (intro w hSw; (try dsimp only at hSw); go_simp; (try with_reducible rfl))
        simp only [List.setIfInBounds_toArray, List.set_cons_zero, List.set_cons_succ]
        refine reg_tk (v := .slice za LD zc) 3 88 rfl rfl (by kernel_rfl) (by kernel_rfl) (by kernel_rfl) (fun _ _ _ h => h) (by rfl) (fun w3 hS => by have g := hsl; go_simp) (by assumption) ?_
        simp only [List.setIfInBounds_toArray, List.set_cons_zero, List.set_cons_succ]
        refine reg_tk (v := ?_) 4 89 rfl rfl (by kernel_rfl) (by kernel_rfl) (by kernel_rfl) (fun _ _ _ h => h) (by rfl) ?_ (by assumption) ?_
        rotate_left
        · (intro w hSw; (try dsimp only at hSw); go_simp; (try with_reducible rfl))
        simp only [List.setIfInBounds_toArray, List.set_cons_zero, List.set_cons_succ]
        refine reg_tk (v := .int .i64 arr) 5 90 rfl rfl (by kernel_rfl) (by kernel_rfl) (by kernel_rfl) (fun _ _ _ h => h) (by rfl) (fun w3 hS => by have g := cell_later hS x1; go_simp) (by assumption) ?_
        simp only [List.setIfInBounds_toArray, List.set_cons_zero, List.set_cons_succ]
        refine reg_tk (v := ?_) 6 91 rfl rfl (by kernel_rfl) (by kernel_rfl) (by kernel_rfl) (fun _ _ _ h => h) (by rfl) ?_ (by assumption) ?_
        rotate_left
        · (intro w hSw; (try dsimp only at hSw); go_simp; (try with_reducible rfl))
        simp only [List.setIfInBounds_toArray, List.set_cons_zero, List.set_cons_succ]
        refine wpAnyH_ready (rs := [7]) (by kernel_rfl) (by simp) ?_
        refine AllReadyH.cons rfl (fun K hK => ?_) AllReadyH.nil
        go_simp
        obtain ⟨X1, hX1⟩ : ∃ X : World, X = (wr.alloc (.cells #[.slice none 0 0, .int .i64 0] 27)).drew := ⟨_, rfl⟩
        have hb1 : BoxN X1 wr.heap.size 27 #[.slice none 0 0, .int .i64 0] := by rw [hX1]; exact (BoxN.new wr _ _).below (Below.refl _ _).drew
        have hBX1 : Below wr.heap.size wr X1 := by rw [hX1]; exact (Below.al (Below.refl _ wr) _).drew
        obtain ⟨X2, hX2⟩ : ∃ X : World, X = X1.setCells wr.heap.size 0 [.slice za LD zc, .int .i64 arr] := ⟨_, rfl⟩
        have hb2 : BoxN X2 wr.heap.size 27 #[.slice za LD zc, .int .i64 arr] := by rw [hX2]; exact hb1.sets [.slice za LD zc, .int .i64 arr] rfl
        have hBX2 : Below wr.heap.size wr X2 := by
          rw [hX2]
          exact (Kx.setCells (X := fun k => k = wr.heap.size) (Kx.of_below hBX1) (.inl rfl) _ _).below (Nat.le_refl _) (fun k hk => by have hk : k = wr.heap.size := hk; omega)
        rw [← hX1]
        refine hK.out _ _ hBX1 (fun hHeld2 => ?_)
        clear hK K hHeld
        have hHeld := hHeld2
        clear hHeld2
        try simp only [Act.put, List.setIfInBounds_toArray, List.set_cons_zero, List.set_cons_succ]
        refine wpAnyH_ready (rs := [8]) (by kernel_rfl) (by simp) ?_
        refine AllReadyH.cons rfl (fun K hK => ?_) AllReadyH.nil
        rw [if_pos (by rfl)]
        refine wp_store_mid 27 (.tmp 18) (.tmp 91) rfl wr.heap.size 0 #[.slice za LD zc, .int .i64 arr] rfl rfl (hb1.there 2 rfl) (by kernel_rfl) (by simp [Value.oneCell']) ?_
        rw [← hX2]
        refine hK.out _ _ hBX2 (fun hHeld2 => ?_)
        clear hK K hHeld
        have hHeld := hHeld2
        clear hHeld2
        try simp only [Act.put, List.setIfInBounds_toArray, List.set_cons_zero, List.set_cons_succ]
        simp only [List.getElem_toArray, List.getElem_cons_succ, List.getElem_cons_zero, List.setIfInBounds_toArray, List.set_cons_zero, List.set_cons_succ]
        refine wpAnyH_done (by kernel_rfl) ?_ _
        refine NoPanic.normal ?_
        clear hHeld hX1 hX2 hb1 hBX1 x0 x1
        have HCX := check_any (.slice pa NP pc) (.agg #[.slice za LD zc, .int .i64 arr]) cs x v r s arr LR HWF.out X2 ((HRD.out.keep hbr).keep hBX2) ⟨_, rfl, HSL.out.keep hBX2⟩
        rw [HCE.out] at HCX
        have HCY := Lib.hid HCX
        have z0 := hb2.cell 0
        have z1 := hb2.cell 1
        have HBX := Lib.hid (Below.next HBW.out (Below.next hbr hBX2))
        clear HCX hBX2 hbr
        obtain ⟨QS, HQS⟩ : ∃ q, Hid (wr.heap.size = q) := ⟨_, Lib.hid rfl⟩
        rw [HQS.out] at hb2 z0 z1 ⊢
        replace z0 : X2.cell? ⟨QS, 0, none⟩ = some (.slice za LD zc) := z0
        replace z1 : X2.cell? ⟨QS, 1, none⟩ = some (.int .i64 arr) := z1
        go_wp2_with fail
        refine HCY.out.mono ?_
        rintro e w9 ⟨rfl, hb9⟩
        go_wp2_with fail
        go_ret
        exact ⟨rfl, Below.next HBX.out hb9⟩
end Go.Proofs.Ytgmfifilgbbogaa
