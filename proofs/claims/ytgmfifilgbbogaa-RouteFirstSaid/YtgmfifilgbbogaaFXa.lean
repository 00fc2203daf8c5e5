


/- RouteFirst: the law's walk, whole. -/
import Derived.Test.YtgmfifilgbbogaaFWa
namespace Go.Proofs.Ytgmfifilgbbogaa
open Go.RowKit
set_option linter.unusedSimpArgs false
set_option linter.unusedVariables false
set_option maxRecDepth 100000

set_option maxHeartbeats 8000000 in
theorem lfirst_any (nv kv : Value) (nums claim : List Int) (n which : Int) (hb : ∀ x ∈ nums, Ib x) (hn : Ib n) (hcb : ∀ x ∈ claim, Ib x) (hwh : Ib which) (w : World) (h : RdI .i64 w nv nums) (hkr : RdI .i64 w kv claim) :
    Calls Try.prog 7 #[nv, .int .i64 n, kv, .int .i64 which] w fun e w' => e = .returned (.bool true) ∧ Below w.heap.size w w' := by
  obtain ⟨a, c, rfl⟩ := h.form
  have HAK := Lib.hid (fun w' (hb' : Below w.heap.size w w') => asked_any (.slice a nums.length c) nums n hb hn w' (h.keep hb'))
  have hq := ask_ok nums n
  obtain ⟨q, hqe⟩ : ∃ q, askV nums n = q := ⟨_, rfl⟩
  rw [hqe] at HAK hq
  obtain ⟨N, hN⟩ : ∃ N, nums.length = N := ⟨_, rfl⟩
  rw [hN] at HAK ⊢
  clear h hb hn hN hqe
  obtain ⟨ka, kc, rfl⟩ := hkr.form
  have hmx := hkr.2.1
  unfold maxLen at hmx
  obtain ⟨M, hM⟩ : ∃ M, claim.length = M := ⟨_, rfl⟩
  rw [hM] at hkr hmx ⊢
  have HM := Lib.hid hM
  have HKR := Lib.hid hkr
  have HCB := Lib.hid hcb
  clear hM hkr hcb
  have c2 := hq.chk
  have hfr := hq.fr
  have hto := hq.nd
  have htk := hq.tk
  have hsz := hq.sz
  have hokp := hq.okp
  have hln := hq.len
  have hwf := hq.wf
  have hpv := hq.pv
  clear hq
  obtain ⟨cs, u, v, t, s⟩ := q
  dsimp only at HAK c2 hfr hto htk hsz hokp hln hwf hpv
  have hlst := arr_least (cs := cs) (n := s) (u := u) (t := t) (v := v) hokp hsz.1 (by omega) htk.1 (by omega)
  have hbq := bestq_V cs u v t s
  obtain ⟨⟨er, arr, l⟩, he⟩ : ∃ x, bestV cs u v t s = x := ⟨_, rfl⟩
  rw [he] at hbq
  dsimp only at hbq
  clear he
  have HQ := Lib.hid hbq
  obtain ⟨NP, hNP⟩ : ∃ k, cs.length = k := ⟨_, rfl⟩
  have HNP := Lib.hid hNP
  obtain ⟨L, hL⟩ : ∃ k, (ints l).length = k := ⟨_, rfl⟩
  have HL := Lib.hid hL
  have HWF := Lib.hid hwf
  have hNPm : NP ≤ 12 := by omega
  rcases hbq with ⟨h1, _⟩ | ⟨_, hneg, rfl, rfl, rfl⟩ | ⟨_, rfl, harr, kk, hB⟩
  · exact absurd c2 h1
  · have hna : ∀ r, ¬ Arr cs s u t v r := by
      rcases hlst with ⟨_, h2⟩ | ⟨h2, _⟩
      · exact h2
      · omega
    have HNA := Lib.hid hna
    by_cases hz : NP = 0
    · have hcs : cs = [] := List.length_eq_zero_iff.1 (by omega)
      have huv : u ≠ v := by
        intro e
        subst e
        rw [hcs] at hna
        exact hna t arr_here
      have d1 : ((NP : Int) == 0) = true := by simp [hz]
      have d2 : (u != v) = true := by simpa using huv
      clear hneg hna hlst huv hcs hz hNP hL hwf hfr hto htk hsz hokp hln c2 hpv
      go_enter Try.func7, Try.ntmps7
      go_wp2_with fail
      refine (known_any w).mono ?_
      rintro e w1 ⟨rfl, hb1⟩
      have HAK1 := Lib.hid (HAK.out w1 hb1)
      go_wp2_with fail
      refine HAK1.out.mono ?_
      rintro e w2 ⟨pv, rfl, hrd, hb2⟩
      obtain ⟨pa, pc, rfl⟩ := hrd.form
      rw [HNP.out] at hrd ⊢
      have HRD := Lib.hid hrd
      have HBW := Lib.hid (Below.next hb1 hb2)
      have HB1 := Lib.hid (best_any (.slice pa NP pc) cs u v t s 15 0 [] HWF.out HQ.out w2 hrd)
      clear hrd hb1 hb2 HAK1
      go_wp2_with fail
      refine HB1.out.mono ?_
      rintro e w3 ⟨⟨rv, rfl, hrt⟩, hb3⟩
      obtain ⟨cv, rfl, hrow⟩ := hrt.rd
      obtain ⟨ca, cc, rfl⟩ := hrow.form
      rw [HL.out] at hrow ⊢
      have HROW := Lib.hid hrow
      clear hrt hrow
      obtain ⟨Q4, HQ9⟩ : ∃ Q, Hid ((w3).heap.size = Q) := ⟨_, Lib.hid rfl⟩
      obtain ⟨W4, HW9⟩ : ∃ V : World, Hid (V = (w3).alloc (.cells #[.slice ca L cc, .int .i64 0] 27)) := ⟨_, Lib.hid rfl⟩
      have hb4 : Below (w3).heap.size w3 W4 := by rw [HW9.out]; exact (by repeat (first | assumption | exact Below.refl _ _ | apply Below.al | apply below_drewN | apply Below.drew | refine Below.next ?_ (by assumption)))
      have hx4 : BoxN W4 Q4 27 #[.slice ca L cc, .int .i64 0] := by rw [HW9.out, ← HQ9.out]; exact BoxN.new _ _ _
      go_upto_region 4 with fail
      rw [← HW9.out, HQ9.out]
      clear HW9 HQ9
      replace HROW := Lib.hid (HROW.out.keep hb4)
      replace HRD := Lib.hid ((HRD.out.keep hb3).keep hb4)
      replace HBW := Lib.hid (Below.next (Below.next HBW.out hb3) hb4)
      replace HKR := Lib.hid (HKR.out.keep HBW.out)
      have HX := Lib.hid hx4
      clear hb3 hb4 hx4 HB1
      go_wp2_with fail
      go_ret
      exact ⟨rfl, HBW.out⟩
    · have d1 : ((NP : Int) == 0) = false := by simp; omega
      clear hneg hna hlst hNP hL hwf hfr hto htk hsz hokp hln c2 hpv
      go_enter Try.func7, Try.ntmps7
      go_wp2_with fail
      refine (known_any w).mono ?_
      rintro e w1 ⟨rfl, hb1⟩
      have HAK1 := Lib.hid (HAK.out w1 hb1)
      go_wp2_with fail
      refine HAK1.out.mono ?_
      rintro e w2 ⟨pv, rfl, hrd, hb2⟩
      obtain ⟨pa, pc, rfl⟩ := hrd.form
      rw [HNP.out] at hrd ⊢
      have HRD := Lib.hid hrd
      have HBW := Lib.hid (Below.next hb1 hb2)
      have HB1 := Lib.hid (best_any (.slice pa NP pc) cs u v t s 15 0 [] HWF.out HQ.out w2 hrd)
      clear hrd hb1 hb2 HAK1
      go_wp2_with fail
      refine HB1.out.mono ?_
      rintro e w3 ⟨⟨rv, rfl, hrt⟩, hb3⟩
      obtain ⟨cv, rfl, hrow⟩ := hrt.rd
      obtain ⟨ca, cc, rfl⟩ := hrow.form
      rw [HL.out] at hrow ⊢
      have HROW := Lib.hid hrow
      clear hrt hrow
      obtain ⟨Q4, HQ9⟩ : ∃ Q, Hid ((w3).heap.size = Q) := ⟨_, Lib.hid rfl⟩
      obtain ⟨W4, HW9⟩ : ∃ V : World, Hid (V = (w3).alloc (.cells #[.slice ca L cc, .int .i64 0] 27)) := ⟨_, Lib.hid rfl⟩
      have hb4 : Below (w3).heap.size w3 W4 := by rw [HW9.out]; exact (by repeat (first | assumption | exact Below.refl _ _ | apply Below.al | apply below_drewN | apply Below.drew | refine Below.next ?_ (by assumption)))
      have hx4 : BoxN W4 Q4 27 #[.slice ca L cc, .int .i64 0] := by rw [HW9.out, ← HQ9.out]; exact BoxN.new _ _ _
      go_upto_region 4 with fail
      rw [← HW9.out, HQ9.out]
      clear HW9 HQ9
      replace HROW := Lib.hid (HROW.out.keep hb4)
      replace HRD := Lib.hid ((HRD.out.keep hb3).keep hb4)
      replace HBW := Lib.hid (Below.next (Below.next HBW.out hb3) hb4)
      replace HKR := Lib.hid (HKR.out.keep HBW.out)
      have HX := Lib.hid hx4
      clear hb3 hb4 hx4 HB1
      obtain ⟨Q5, HQ5⟩ : ∃ Q, Hid (W4.heap.size = Q) := ⟨_, Lib.hid rfl⟩
      obtain ⟨W5, hW5⟩ : ∃ V : World, V = W4.alloc (.cells #[.slice none 0 0, .int .i64 0] 27) := ⟨_, rfl⟩
      have hO5 : OB W4 W5 Q5 0 (.slice none 0 0) [] := ⟨by rw [hW5, ← HQ5.out]; exact BoxN.new _ _ _, ⟨rfl, .inl ⟨rfl, rfl⟩⟩, by rw [hW5]; exact (by repeat (first | assumption | exact Below.refl _ _ | apply Below.al | apply below_drewN | apply Below.drew | refine Below.next ?_ (by assumption))), by rw [← HQ5.out]; exact Nat.le_refl _⟩
      go_upto_region 7 with fail
      rw [← hW5, HQ5.out]
      clear hW5
      have z1 := hO5.box.frozen 1
      have y1 : W5.cell? ⟨Q5, 1, none⟩ = some (.int .i64 0) := hO5.box.cell 1
      obtain ⟨W6, hW6⟩ : ∃ V : World, V = W5.setCell ⟨Q5, 1, none⟩ (.int .i64 t) := ⟨_, rfl⟩
      have hO6 : OB W4 W6 Q5 t (.slice none 0 0) [] := by rw [hW6]; exact hO5.arr t
      go_upto_region 8 with fail
      rw [← hW6]
      clear hW6 z1 y1 hO5
      have HO6 := Lib.hid hO6
      clear hO6
      go_wp2_with fail
      go_loopw [18] (fun iv wr => ∃ (i : Nat) (A : Int) (m : List Int) (ov : Value), i ≤ M ∧ i ≤ 6 ∧ iv = .int .i64 i ∧ m.length ≤ i ∧ OB W4 wr Q5 A ov m) (fun iv _ => 6 - (intOf iv).toNat)
      case atStart => exact ⟨0, t, [], _, Nat.zero_le _, Nat.zero_le _, rfl, Nat.le_refl _, HO6.out⟩
      case round =>
        obtain ⟨i, A, m, ov, hiM, hi6, rfl, hmi, hOB⟩ := hrel
        obtain ⟨oa, oc, rfl⟩ := owns_form hOB.row
        obtain ⟨LM, hLM⟩ : ∃ k, m.length = k := ⟨_, rfl⟩
        have HLM := Lib.hid hLM
        have HOB := Lib.hid hOB
        rw [hLM] at HOB hmi
        clear hOB hLM
        obtain ⟨bt, hbt⟩ : ∃ b, decide (i < M ∧ i < 6) = b := ⟨_, rfl⟩
        go_upto_region 9 with fail
        go_cut [81] (fun c wx => c = .bool bt ∧ wr = wx)
        case first =>
          by_cases g1 : i < M
          · have d1 : decide ((i : Int) < (M : Int)) = true := yb (by omega)
            by_cases g2 : i < 6
            · have d2 : decide ((i : Int) < 6) = true := yb (by omega)
              obtain rfl : bt = true := by rw [← hbt]; exact yb ⟨g1, g2⟩
              clear hbt
              go_wp2_with fail
              go_meet
              exact ⟨rfl, rfl⟩
            · have d2 : decide ((i : Int) < 6) = false := nb (by omega)
              obtain rfl : bt = false := by rw [← hbt]; exact nb (fun h => g2 h.2)
              clear hbt
              go_wp2_with fail
              go_meet
              exact ⟨rfl, rfl⟩
          · have d1 : decide ((i : Int) < (M : Int)) = false := nb (by omega)
            obtain rfl : bt = false := by rw [← hbt]; exact nb (fun h => g1 h.1)
            clear hbt
            go_wp2_with fail
            go_meet
            exact ⟨rfl, rfl⟩
        case rest =>
          obtain ⟨rfl, rfl⟩ := hcut
          cases bt with
          | true =>
            obtain ⟨g1, g2⟩ := of_decide_eq_true hbt
            clear hbt
            obtain ⟨b2, o2, hab2, hc2, f0⟩ := RdI.at (HKR.out.keep HOB.out.bel) HM.out i g1
            subst hab2
            obtain ⟨x, HXx⟩ : ∃ x, Hid (claim.getD i 0 = x) := ⟨_, rfl⟩
            rw [HXx.out] at f0
            have hxb : Ib x := by
              rw [← HXx.out, List.getD_eq_getElem?_getD, List.getElem?_eq_getElem (by rw [HM.out]; exact g1)]
              exact HCB.out _ (List.getElem_mem _)
            have HMD := Lib.hid (mod_any x NP (by omega) (by omega) hxb wr)
            obtain ⟨K, hK⟩ : ∃ K, x % (NP : Int) = K := ⟨_, rfl⟩
            have hK0 : 0 ≤ K := by rw [← hK]; exact Int.emod_nonneg _ (by omega)
            have hK1 : K < NP := by rw [← hK]; exact Int.emod_lt_of_pos _ (by omega)
            rw [hK] at HMD
            have n1 : (0 : Int) ≤ (i : Int) := by omega
            have n2 : (i : Int) < (M : Int) := by omega
            have hwk : IntKind.i64.wrap (i : Int) = (i : Int) := IntWalk.i64_in _ (by omega)
            have hwk1 : IntKind.i64.wrap ((i : Int) + 1) = (i : Int) + 1 := IntWalk.i64_in _ (by omega)
            have x1 : wr.cell? ⟨Q5, 1, none⟩ = some (.int .i64 A) := HOB.out.box.cell 1
            have hh := hopq_any (.slice pa NP pc) cs K A s HWF.out wr (HRD.out.keep HOB.out.bel)
            obtain ⟨y, z, hyz⟩ : ∃ y z, hopV cs K A s = (y, z) := ⟨_, _, rfl⟩
            rw [hyz] at hh
            have HH := Lib.hid hh
            clear hK hxb hh hyz
            go_wp2_with fail
            refine HMD.out.mono ?_
            rintro e w7 ⟨rfl, h9⟩
            subst h9
            go_wp2_with fail
            refine HH.out.mono ?_
            rintro e w8 ⟨rfl, hb8⟩
            have hO8 := HOB.out.keep hb8
            clear x1 f0 HH HMD
            by_cases hz : z = 0
            · have d3 : (z == 0) = true := by simp [hz]
              clear hz hb8
              have hbx8 : BoxN w8 Q5 27 #[.slice oa LM oc, .int .i64 A] := hO8.box
              have r0 : w8.cell? ⟨Q5, 0, none⟩ = some (.slice oa LM oc) := hbx8.cell 0
              have hone : RdS (w8.alloc (.cells #[.int .i64 K] 3)) 1 (.slice (some ⟨w8.heap.size, 0, none⟩) 1 1) 1 [.int .i64 K] := RdI.one w8 K
              have hrow : (w8.alloc (.cells #[.int .i64 K] 3)).ownsRow (Q5 + 1) 3 1 (.slice oa LM oc) LM (ic .i64 m) := by
                have := own_keep ((by repeat (first | assumption | exact Below.refl _ _ | apply Below.al | apply below_drewN | apply Below.drew | refine Below.next ?_ (by assumption))) : Below w8.heap.size w8 (w8.alloc (.cells #[.int .i64 K] 3))) hO8.row
                rwa [HLM.out] at this
              have hsz8 : Q5 < w8.heap.size := hbx8.lt
              have HO8 := Lib.hid hO8
              clear hO8
              go_upto_region 15 with (at_builtin; refine wpList_app rfl (.tmp 103) (.tmp 105) 25 rfl (Q5 + 1) 3 (.int .i64 0) 1 8 E25 (.slice oa LM oc) LM (ic .i64 m) rfl hrow _ 1 [.int .i64 K] rfl hone (ic_one .i64 [K]) ?c1 ?c2 ?c3 ?c4)
              case c1 => unfold maxLen; omega
              case c2 => omega
              case c3 => simp; omega
              case c4 =>
                intro a' c' w9 hown9 hg9 hb9
                have hln : (m ++ [K]).length = LM + 1 := by rw [List.length_append, HLM.out]; rfl
                have hown10 : w9.ownsRow (Q5 + 1) 3 1 (.slice a' (LM + 1) c') (m ++ [K]).length (ic .i64 (m ++ [K])) := by
                  rw [hln, ic_append]
                  exact hown9
                have hMa := HO8.out.keep ((by repeat (first | assumption | exact Below.refl _ _ | apply Below.al | apply below_drewN | apply Below.drew | refine Below.next ?_ (by assumption))) : Below w8.heap.size w8 (w8.alloc (.cells #[.int .i64 K] 3)))
                have hbx9 : BoxN w9 Q5 27 #[.slice oa LM oc, .int .i64 A] := (hb9.block Q5 (by omega)).trans hMa.box
                have z9 := hbx9.frozen 0
                have r9 : w9.cell? ⟨Q5, 0, none⟩ = some (.slice oa LM oc) := hbx9.cell 0
                obtain ⟨W10, hW10⟩ : ∃ V : World, V = w9.setCell ⟨Q5, 0, none⟩ (.slice a' (LM + 1) c') := ⟨_, rfl⟩
                have HM10 : Hid (OB W4 W10 Q5 A (.slice a' (LM + 1) c') (m ++ [K])) := Lib.hid (by rw [hW10]; exact hMa.app hb9 hown10)
                have f10 := HM10.out.box.frozen 1
                have c10 : W10.cell? ⟨Q5, 1, none⟩ = some (.int .i64 A) := HM10.out.box.cell 1
                obtain ⟨W11, hW11⟩ : ∃ V : World, V = W10.setCell ⟨Q5, 1, none⟩ (.int .i64 y) := ⟨_, rfl⟩
                have HM11 : Hid (OB W4 W11 Q5 y (.slice a' (LM + 1) c') (m ++ [K])) := Lib.hid (by rw [hW11]; exact HM10.out.arr y)
                have HLN := Lib.hid hln
                clear hown9 hown10 hg9 hb9 hbx9 hMa hone hrow hbx8 r0 hln
                go_upto_region 15 with fail
                rw [← hW10]
                clear hW10 z9 r9
                go_upto_region 10 with fail
                rw [← hW11]
                clear hW11 f10 c10
                go_wp2_with fail
                go_roundw
                case rel => exact ⟨i + 1, y, m ++ [K], _, by omega, by omega, by go_num, by rw [HLN.out]; omega, HM11.out⟩
                case measure => simp [intOf]; omega
            · have d3 : (z == 0) = false := by simp [hz]
              clear hz hb8
              have HO8 := Lib.hid hO8
              clear hO8
              go_wp2_with fail
              go_roundw
              case rel => exact ⟨i + 1, A, m, _, by omega, by omega, by go_num, by rw [HLM.out]; omega, by have := HO8.out; exact this⟩
              case measure => simp [intOf]; omega
          | false =>
            clear hbt
            have x0 : wr.cell? ⟨Q5, 0, none⟩ = some (.slice oa LM oc) := HOB.out.box.cell 0
            have x1 : wr.cell? ⟨Q5, 1, none⟩ = some (.int .i64 A) := HOB.out.box.cell 1
            have hrdo : RdI .i64 wr (.slice oa LM oc) m := by
              have := RdS.of_owns HOB.out.row (by decide)
              exact this
            have hck := check_any (.slice pa NP pc) (.agg #[.slice oa LM oc, .int .i64 A]) cs u v t s A m HWF.out wr (HRD.out.keep HOB.out.bel) ⟨_, rfl, hrdo⟩
            obtain ⟨ck, hckv⟩ : ∃ ck, checkV cs u v t s A m = ck := ⟨_, rfl⟩
            rw [hckv] at hck
            have HCK := Lib.hid hck
            have HRDO := Lib.hid hrdo
            clear hck hrdo
            have dk : (ck == 0) = false := by
              have : ck ≠ 0 := fun e => by
                rw [e] at hckv
                exact HNA.out A ⟨_, (check_arr hckv).1⟩
              simpa using this
            clear hckv
            go_wp2_with fail
            refine HCK.out.mono ?_
            rintro e w9 ⟨rfl, hb9⟩
            have HBX := Lib.hid (Below.next HBW.out (Below.next HOB.out.bel hb9))
            clear x0 x1 HCK hb9 HOB
            have HMW := Lib.hid (mod_any which NP (by omega) (by omega) hwh w9)
            go_wp2_with fail
            refine HMW.out.mono ?_
            rintro e w10 ⟨rfl, h9⟩
            subst h9
            go_wp2_with fail
            go_ret
            exact ⟨rfl, HBX.out⟩
  · by_cases hz : NP = 0
    · have hcs : cs = [] := List.length_eq_zero_iff.1 (by omega)
      have huv : u = v := by
        have := hB.walk
        rw [hcs] at this
        exact arr_nil ⟨_, this⟩
      have d1 : ((NP : Int) == 0) = true := by simp [hz]
      have d2 : (u != v) = false := by simpa using huv
      clear harr hB hlst huv hcs hz hNP hL hwf hfr hto htk hsz hokp hln c2 hpv
      go_enter Try.func7, Try.ntmps7
      go_wp2_with fail
      refine (known_any w).mono ?_
      rintro e w1 ⟨rfl, hb1⟩
      have HAK1 := Lib.hid (HAK.out w1 hb1)
      go_wp2_with fail
      refine HAK1.out.mono ?_
      rintro e w2 ⟨pv, rfl, hrd, hb2⟩
      obtain ⟨pa, pc, rfl⟩ := hrd.form
      rw [HNP.out] at hrd ⊢
      have HRD := Lib.hid hrd
      have HBW := Lib.hid (Below.next hb1 hb2)
      have HB1 := Lib.hid (best_any (.slice pa NP pc) cs u v t s 0 arr l HWF.out HQ.out w2 hrd)
      clear hrd hb1 hb2 HAK1
      go_wp2_with fail
      refine HB1.out.mono ?_
      rintro e w3 ⟨⟨rv, rfl, hrt⟩, hb3⟩
      obtain ⟨cv, rfl, hrow⟩ := hrt.rd
      obtain ⟨ca, cc, rfl⟩ := hrow.form
      rw [HL.out] at hrow ⊢
      have HROW := Lib.hid hrow
      clear hrt hrow
      obtain ⟨Q4, HQ9⟩ : ∃ Q, Hid ((w3).heap.size = Q) := ⟨_, Lib.hid rfl⟩
      obtain ⟨W4, HW9⟩ : ∃ V : World, Hid (V = (w3).alloc (.cells #[.slice ca L cc, .int .i64 arr] 27)) := ⟨_, Lib.hid rfl⟩
      have hb4 : Below (w3).heap.size w3 W4 := by rw [HW9.out]; exact (by repeat (first | assumption | exact Below.refl _ _ | apply Below.al | apply below_drewN | apply Below.drew | refine Below.next ?_ (by assumption)))
      have hx4 : BoxN W4 Q4 27 #[.slice ca L cc, .int .i64 arr] := by rw [HW9.out, ← HQ9.out]; exact BoxN.new _ _ _
      go_upto_region 4 with fail
      rw [← HW9.out, HQ9.out]
      clear HW9 HQ9
      replace HROW := Lib.hid (HROW.out.keep hb4)
      replace HRD := Lib.hid ((HRD.out.keep hb3).keep hb4)
      replace HBW := Lib.hid (Below.next (Below.next HBW.out hb3) hb4)
      replace HKR := Lib.hid (HKR.out.keep HBW.out)
      have HX := Lib.hid hx4
      clear hb3 hb4 hx4 HB1
      go_wp2_with fail
      go_ret
      exact ⟨rfl, HBW.out⟩
    · have d1 : ((NP : Int) == 0) = false := by simp; omega
      have HBE := Lib.hid hB
      have HLL := Lib.hid (show (ints l).length = L from hL)
      have hlen := hB.few15 hokp hsz.1 (by omega)
      rw [← hB.len] at hlen
      have hLm : L < 16 := by rw [← hL]; simp [ints]; omega
      have HPV := Lib.hid hpv
      have HLS := Lib.hid (And.intro hfr (And.intro hto (And.intro htk hsz)))
      have HLN := Lib.hid hln
      clear harr hB hlst hNP hL hwf hfr hto htk hsz hokp hln c2 hpv hlen
      go_enter Try.func7, Try.ntmps7
      go_wp2_with fail
      refine (known_any w).mono ?_
      rintro e w1 ⟨rfl, hb1⟩
      have HAK1 := Lib.hid (HAK.out w1 hb1)
      go_wp2_with fail
      refine HAK1.out.mono ?_
      rintro e w2 ⟨pv, rfl, hrd, hb2⟩
      obtain ⟨pa, pc, rfl⟩ := hrd.form
      rw [HNP.out] at hrd ⊢
      have HRD := Lib.hid hrd
      have HBW := Lib.hid (Below.next hb1 hb2)
      have HB1 := Lib.hid (best_any (.slice pa NP pc) cs u v t s 0 arr l HWF.out HQ.out w2 hrd)
      clear hrd hb1 hb2 HAK1
      go_wp2_with fail
      refine HB1.out.mono ?_
      rintro e w3 ⟨⟨rv, rfl, hrt⟩, hb3⟩
      obtain ⟨cv, rfl, hrow⟩ := hrt.rd
      obtain ⟨ca, cc, rfl⟩ := hrow.form
      rw [HL.out] at hrow ⊢
      have HROW := Lib.hid hrow
      clear hrt hrow
      obtain ⟨Q4, HQ9⟩ : ∃ Q, Hid ((w3).heap.size = Q) := ⟨_, Lib.hid rfl⟩
      obtain ⟨W4, HW9⟩ : ∃ V : World, Hid (V = (w3).alloc (.cells #[.slice ca L cc, .int .i64 arr] 27)) := ⟨_, Lib.hid rfl⟩
      have hb4 : Below (w3).heap.size w3 W4 := by rw [HW9.out]; exact (by repeat (first | assumption | exact Below.refl _ _ | apply Below.al | apply below_drewN | apply Below.drew | refine Below.next ?_ (by assumption)))
      have hx4 : BoxN W4 Q4 27 #[.slice ca L cc, .int .i64 arr] := by rw [HW9.out, ← HQ9.out]; exact BoxN.new _ _ _
      go_upto_region 4 with fail
      rw [← HW9.out, HQ9.out]
      clear HW9 HQ9
      replace HROW := Lib.hid (HROW.out.keep hb4)
      replace HRD := Lib.hid ((HRD.out.keep hb3).keep hb4)
      replace HBW := Lib.hid (Below.next (Below.next HBW.out hb3) hb4)
      replace HKR := Lib.hid (HKR.out.keep HBW.out)
      have HX := Lib.hid hx4
      clear hb3 hb4 hx4 HB1
      obtain ⟨Q5, HQ5⟩ : ∃ Q, Hid (W4.heap.size = Q) := ⟨_, Lib.hid rfl⟩
      obtain ⟨W5, hW5⟩ : ∃ V : World, V = W4.alloc (.cells #[.slice none 0 0, .int .i64 0] 27) := ⟨_, rfl⟩
      have hO5 : OB W4 W5 Q5 0 (.slice none 0 0) [] := ⟨by rw [hW5, ← HQ5.out]; exact BoxN.new _ _ _, ⟨rfl, .inl ⟨rfl, rfl⟩⟩, by rw [hW5]; exact (by repeat (first | assumption | exact Below.refl _ _ | apply Below.al | apply below_drewN | apply Below.drew | refine Below.next ?_ (by assumption))), by rw [← HQ5.out]; exact Nat.le_refl _⟩
      go_upto_region 7 with fail
      rw [← hW5, HQ5.out]
      clear hW5
      have z1 := hO5.box.frozen 1
      have y1 : W5.cell? ⟨Q5, 1, none⟩ = some (.int .i64 0) := hO5.box.cell 1
      obtain ⟨W6, hW6⟩ : ∃ V : World, V = W5.setCell ⟨Q5, 1, none⟩ (.int .i64 t) := ⟨_, rfl⟩
      have hO6 : OB W4 W6 Q5 t (.slice none 0 0) [] := by rw [hW6]; exact hO5.arr t
      go_upto_region 8 with fail
      rw [← hW6]
      clear hW6 z1 y1 hO5
      have HO6 := Lib.hid hO6
      clear hO6
      go_wp2_with fail
      go_loopw [18] (fun iv wr => ∃ (i : Nat) (A : Int) (m : List Int) (ov : Value), i ≤ M ∧ i ≤ 6 ∧ iv = .int .i64 i ∧ m.length ≤ i ∧ OB W4 wr Q5 A ov m) (fun iv _ => 6 - (intOf iv).toNat)
      case atStart => exact ⟨0, t, [], _, Nat.zero_le _, Nat.zero_le _, rfl, Nat.le_refl _, HO6.out⟩
      case round =>
        obtain ⟨i, A, m, ov, hiM, hi6, rfl, hmi, hOB⟩ := hrel
        obtain ⟨oa, oc, rfl⟩ := owns_form hOB.row
        obtain ⟨LM, hLM⟩ : ∃ k, m.length = k := ⟨_, rfl⟩
        have HLM := Lib.hid hLM
        have HOB := Lib.hid hOB
        rw [hLM] at HOB hmi
        clear hOB hLM
        obtain ⟨bt, hbt⟩ : ∃ b, decide (i < M ∧ i < 6) = b := ⟨_, rfl⟩
        go_upto_region 9 with fail
        go_cut [81] (fun c wx => c = .bool bt ∧ wr = wx)
        case first =>
          by_cases g1 : i < M
          · have d1 : decide ((i : Int) < (M : Int)) = true := yb (by omega)
            by_cases g2 : i < 6
            · have d2 : decide ((i : Int) < 6) = true := yb (by omega)
              obtain rfl : bt = true := by rw [← hbt]; exact yb ⟨g1, g2⟩
              clear hbt
              go_wp2_with fail
              go_meet
              exact ⟨rfl, rfl⟩
            · have d2 : decide ((i : Int) < 6) = false := nb (by omega)
              obtain rfl : bt = false := by rw [← hbt]; exact nb (fun h => g2 h.2)
              clear hbt
              go_wp2_with fail
              go_meet
              exact ⟨rfl, rfl⟩
          · have d1 : decide ((i : Int) < (M : Int)) = false := nb (by omega)
            obtain rfl : bt = false := by rw [← hbt]; exact nb (fun h => g1 h.1)
            clear hbt
            go_wp2_with fail
            go_meet
            exact ⟨rfl, rfl⟩
        case rest =>
          obtain ⟨rfl, rfl⟩ := hcut
          cases bt with
          | true =>
            obtain ⟨g1, g2⟩ := of_decide_eq_true hbt
            clear hbt
            obtain ⟨b2, o2, hab2, hc2, f0⟩ := RdI.at (HKR.out.keep HOB.out.bel) HM.out i g1
            subst hab2
            obtain ⟨x, HXx⟩ : ∃ x, Hid (claim.getD i 0 = x) := ⟨_, rfl⟩
            rw [HXx.out] at f0
            have hxb : Ib x := by
              rw [← HXx.out, List.getD_eq_getElem?_getD, List.getElem?_eq_getElem (by rw [HM.out]; exact g1)]
              exact HCB.out _ (List.getElem_mem _)
            have HMD := Lib.hid (mod_any x NP (by omega) (by omega) hxb wr)
            obtain ⟨K, hK⟩ : ∃ K, x % (NP : Int) = K := ⟨_, rfl⟩
            have hK0 : 0 ≤ K := by rw [← hK]; exact Int.emod_nonneg _ (by omega)
            have hK1 : K < NP := by rw [← hK]; exact Int.emod_lt_of_pos _ (by omega)
            rw [hK] at HMD
            have n1 : (0 : Int) ≤ (i : Int) := by omega
            have n2 : (i : Int) < (M : Int) := by omega
            have hwk : IntKind.i64.wrap (i : Int) = (i : Int) := IntWalk.i64_in _ (by omega)
            have hwk1 : IntKind.i64.wrap ((i : Int) + 1) = (i : Int) + 1 := IntWalk.i64_in _ (by omega)
            have x1 : wr.cell? ⟨Q5, 1, none⟩ = some (.int .i64 A) := HOB.out.box.cell 1
            have hh := hopq_any (.slice pa NP pc) cs K A s HWF.out wr (HRD.out.keep HOB.out.bel)
            obtain ⟨y, z, hyz⟩ : ∃ y z, hopV cs K A s = (y, z) := ⟨_, _, rfl⟩
            rw [hyz] at hh
            have HH := Lib.hid hh
            clear hK hxb hh hyz
            go_wp2_with fail
            refine HMD.out.mono ?_
            rintro e w7 ⟨rfl, h9⟩
            subst h9
            go_wp2_with fail
            refine HH.out.mono ?_
            rintro e w8 ⟨rfl, hb8⟩
            have hO8 := HOB.out.keep hb8
            clear x1 f0 HH HMD
            by_cases hz : z = 0
            · have d3 : (z == 0) = true := by simp [hz]
              clear hz hb8
              have hbx8 : BoxN w8 Q5 27 #[.slice oa LM oc, .int .i64 A] := hO8.box
              have r0 : w8.cell? ⟨Q5, 0, none⟩ = some (.slice oa LM oc) := hbx8.cell 0
              have hone : RdS (w8.alloc (.cells #[.int .i64 K] 3)) 1 (.slice (some ⟨w8.heap.size, 0, none⟩) 1 1) 1 [.int .i64 K] := RdI.one w8 K
              have hrow : (w8.alloc (.cells #[.int .i64 K] 3)).ownsRow (Q5 + 1) 3 1 (.slice oa LM oc) LM (ic .i64 m) := by
                have := own_keep ((by repeat (first | assumption | exact Below.refl _ _ | apply Below.al | apply below_drewN | apply Below.drew | refine Below.next ?_ (by assumption))) : Below w8.heap.size w8 (w8.alloc (.cells #[.int .i64 K] 3))) hO8.row
                rwa [HLM.out] at this
              have hsz8 : Q5 < w8.heap.size := hbx8.lt
              have HO8 := Lib.hid hO8
              clear hO8
              go_upto_region 15 with (at_builtin; refine wpList_app rfl (.tmp 103) (.tmp 105) 25 rfl (Q5 + 1) 3 (.int .i64 0) 1 8 E25 (.slice oa LM oc) LM (ic .i64 m) rfl hrow _ 1 [.int .i64 K] rfl hone (ic_one .i64 [K]) ?c1 ?c2 ?c3 ?c4)
              case c1 => unfold maxLen; omega
              case c2 => omega
              case c3 => simp; omega
              case c4 =>
                intro a' c' w9 hown9 hg9 hb9
                have hln : (m ++ [K]).length = LM + 1 := by rw [List.length_append, HLM.out]; rfl
                have hown10 : w9.ownsRow (Q5 + 1) 3 1 (.slice a' (LM + 1) c') (m ++ [K]).length (ic .i64 (m ++ [K])) := by
                  rw [hln, ic_append]
                  exact hown9
                have hMa := HO8.out.keep ((by repeat (first | assumption | exact Below.refl _ _ | apply Below.al | apply below_drewN | apply Below.drew | refine Below.next ?_ (by assumption))) : Below w8.heap.size w8 (w8.alloc (.cells #[.int .i64 K] 3)))
                have hbx9 : BoxN w9 Q5 27 #[.slice oa LM oc, .int .i64 A] := (hb9.block Q5 (by omega)).trans hMa.box
                have z9 := hbx9.frozen 0
                have r9 : w9.cell? ⟨Q5, 0, none⟩ = some (.slice oa LM oc) := hbx9.cell 0
                obtain ⟨W10, hW10⟩ : ∃ V : World, V = w9.setCell ⟨Q5, 0, none⟩ (.slice a' (LM + 1) c') := ⟨_, rfl⟩
                have HM10 : Hid (OB W4 W10 Q5 A (.slice a' (LM + 1) c') (m ++ [K])) := Lib.hid (by rw [hW10]; exact hMa.app hb9 hown10)
                have f10 := HM10.out.box.frozen 1
                have c10 : W10.cell? ⟨Q5, 1, none⟩ = some (.int .i64 A) := HM10.out.box.cell 1
                obtain ⟨W11, hW11⟩ : ∃ V : World, V = W10.setCell ⟨Q5, 1, none⟩ (.int .i64 y) := ⟨_, rfl⟩
                have HM11 : Hid (OB W4 W11 Q5 y (.slice a' (LM + 1) c') (m ++ [K])) := Lib.hid (by rw [hW11]; exact HM10.out.arr y)
                have HLN := Lib.hid hln
                clear hown9 hown10 hg9 hb9 hbx9 hMa hone hrow hbx8 r0 hln
                go_upto_region 15 with fail
                rw [← hW10]
                clear hW10 z9 r9
                go_upto_region 10 with fail
                rw [← hW11]
                clear hW11 f10 c10
                go_wp2_with fail
                go_roundw
                case rel => exact ⟨i + 1, y, m ++ [K], _, by omega, by omega, by go_num, by rw [HLN.out]; omega, HM11.out⟩
                case measure => simp [intOf]; omega
            · have d3 : (z == 0) = false := by simp [hz]
              clear hz hb8
              have HO8 := Lib.hid hO8
              clear hO8
              go_wp2_with fail
              go_roundw
              case rel => exact ⟨i + 1, A, m, _, by omega, by omega, by go_num, by rw [HLM.out]; omega, by have := HO8.out; exact this⟩
              case measure => simp [intOf]; omega
          | false =>
            clear hbt
            have x0 : wr.cell? ⟨Q5, 0, none⟩ = some (.slice oa LM oc) := HOB.out.box.cell 0
            have x1 : wr.cell? ⟨Q5, 1, none⟩ = some (.int .i64 A) := HOB.out.box.cell 1
            have hrdo : RdI .i64 wr (.slice oa LM oc) m := by
              have := RdS.of_owns HOB.out.row (by decide)
              exact this
            have hck := check_any (.slice pa NP pc) (.agg #[.slice oa LM oc, .int .i64 A]) cs u v t s A m HWF.out wr (HRD.out.keep HOB.out.bel) ⟨_, rfl, hrdo⟩
            obtain ⟨ck, hckv⟩ : ∃ ck, checkV cs u v t s A m = ck := ⟨_, rfl⟩
            rw [hckv] at hck
            have HCK := Lib.hid hck
            have HRDO := Lib.hid hrdo
            clear hck hrdo
            have y0 : wr.cell? ⟨Q4, 0, none⟩ = some (.slice ca L cc) := (HX.out.below HOB.out.bel).cell 0
            have y1 : wr.cell? ⟨Q4, 1, none⟩ = some (.int .i64 arr) := (HX.out.below HOB.out.bel).cell 1
            obtain ⟨WH, hWH⟩ : ∃ V : World, V = wr := ⟨_, rfl⟩
            have HRW := Lib.hid (HROW.out.keep HOB.out.bel)
            have HRP := Lib.hid (HRD.out.keep HOB.out.bel)
            have HBR := Lib.hid (Below.next HBW.out HOB.out.bel)
            have HXR := Lib.hid (HX.out.below HOB.out.bel)
            clear HROW HRD HBW HX HOB
            go_upto_region 16 with fail
            go_cut [127] (fun c wx => c = .bool false ∧ Below wr.heap.size wr wx)
            case first =>
              by_cases hk : ck = 0
              · have dk : (ck == 0) = true := by simp [hk]
                rw [hk] at hckv
                have hcm := first_ok HBE.out hckv
                have HCMP := Lib.hid (fun w' (hb : Below wr.heap.size wr w') => cmpr_any (.agg #[.slice ca L cc, .int .i64 arr]) (.agg #[.slice oa LM oc, .int .i64 A]) arr A (ints l) m w' ⟨_, rfl, HRW.out.keep hb⟩ ⟨_, rfl, HRDO.out.keep hb⟩)
                obtain ⟨cm, hcme⟩ : ∃ cm, cmpR arr (ints l) A m = cm := ⟨_, rfl⟩
                rw [hcme] at HCMP hcm
                have dc : decide (cm > 0) = false := nb (by omega)
                clear hcm hcme hckv hk
                go_wp2_with fail
                refine HCK.out.mono ?_
                rintro e w9 ⟨rfl, hb9⟩
                replace x0 := cell_later hb9 x0
                replace x1 := cell_later hb9 x1
                replace y0 := cell_later hb9 y0
                replace y1 := cell_later hb9 y1
                have HC9 := Lib.hid (HCMP.out w9 hb9)
                have HB9 := Lib.hid hb9
                clear HCMP HCK hb9
                go_wp2_with fail
                refine HC9.out.mono ?_
                rintro e w10 ⟨rfl, hb10⟩
                have HB10 := Lib.hid (Below.next HB9.out hb10)
                clear x0 x1 y0 y1 HC9 hb10
                go_wp2_with fail
                go_meet
                exact ⟨rfl, HB10.out⟩
              · have dk : (ck == 0) = false := by simpa using hk
                clear hckv hk
                go_wp2_with fail
                refine HCK.out.mono ?_
                rintro e w9 ⟨rfl, hb9⟩
                have HB9 := Lib.hid hb9
                clear x0 x1 y0 y1 HCK hb9
                go_wp2_with fail
                go_meet
                exact ⟨rfl, HB9.out⟩
            case rest =>
              rename World => wx
              obtain ⟨rfl, hbx⟩ := hcut
              clear hckv hWH WH
              replace HRW := Lib.hid (HRW.out.keep hbx)
              replace HRP := Lib.hid (HRP.out.keep hbx)
              replace HBR := Lib.hid (Below.next HBR.out hbx)
              replace HXR := Lib.hid (HXR.out.below hbx)
              clear x0 x1 y0 y1 hbx HCK HRDO
              have HMW := Lib.hid (mod_any which NP (by omega) (by omega) hwh wx)
              obtain ⟨K, hK⟩ : ∃ K, which % (NP : Int) = K := ⟨_, rfl⟩
              have hK0 : 0 ≤ K := by rw [← hK]; exact Int.emod_nonneg _ (by omega)
              have hK1 : K < NP := by rw [← hK]; exact Int.emod_lt_of_pos _ (by omega)
              rw [hK] at HMW
              obtain ⟨k, rfl⟩ : ∃ k : Nat, K = (k : Int) := ⟨K.toNat, by omega⟩
              clear hK
              go_wp2_with fail
              refine HMW.out.mono ?_
              rintro e w10 ⟨rfl, h9⟩
              subst h9
              have y0 : wx.cell? ⟨Q4, 0, none⟩ = some (.slice ca L cc) := HXR.out.cell 0
              have HHA := Lib.hid (has_any (.slice ca L cc) (ints l) (k : Int) wx HRW.out)
              obtain ⟨bh, hbh⟩ : ∃ b, decide ((k : Int) ∈ ints l) = b := ⟨_, rfl⟩
              rw [hbh] at HHA
              clear HMW
              go_wp2_with fail
              refine HHA.out.mono ?_
              rintro e w11 ⟨rfl, h9⟩
              subst h9
              clear HHA y0
              cases bh with
              | true =>
                go_wp2_with fail
                go_ret
                exact ⟨rfl, HBR.out⟩
              | false =>
                have hnk : k ∉ l := fun hm => (of_decide_eq_false hbh) (by
                  unfold ints
                  exact List.mem_map.2 ⟨k, hm, rfl⟩)
                have hk : k < NP := by omega
                have hk2 : k < cs.length := by rw [HNP.out]; exact hk
                obtain ⟨hfr, hto, htk, hsz⟩ := HLS.out
                have hlp := less_pv (k := k) HPV.out
                have hll := less_len hk2
                have hln := HLN.out
                have hcl : chkE (lessP cs k) t s [u, v] = 0 := pv_ok hlp (by omega) (by omega) (by omega) (fun x hx => by
                  simp only [List.mem_cons, List.mem_nil_iff, or_false] at hx
                  rcases hx with rfl | rfl <;> omega)
                have hlw : ∀ c, c ∈ lessP cs k → Wf c := fun c hc => wf_of_ok (hlp.1 c hc)
                have hlD := arr_least (cs := lessP cs k) (n := s) (u := u) (t := t) (v := v) hlp.1 hsz.1 (by omega) htk.1 (by omega)
                have hex := less_ex hk2 HBE.out hnk
                have hbq2 := bestq_V (lessP cs k) u v t s
                obtain ⟨⟨er2, arr2, l2⟩, he2⟩ : ∃ x, bestV (lessP cs k) u v t s = x := ⟨_, rfl⟩
                rw [he2] at hbq2
                dsimp only at hbq2
                clear he2
                have HQ2 := Lib.hid hbq2
                have hfin : er2 = 0 ∧ arr2 = arr ∧ l2.map (upK k) = l ∧ (∀ x, x ∈ l2 → x < 12) := by
                  rcases hbq2 with ⟨h1, _⟩ | ⟨_, hneg, _⟩ | ⟨_, h1, h2, h3, hB2⟩
                  · exact absurd hcl h1
                  · rcases hlD with ⟨_, h2⟩ | ⟨h2, _⟩
                    · exact absurd hex (h2 _)
                    · omega
                  · have h5 := best_less hk2 HBE.out hnk hB2
                    exact ⟨h1, h5.1, h5.2, fun x hx => by have := walk_in _ _ _ _ hB2.walk x hx; omega⟩
                obtain ⟨rfl, rfl, hmap, hsm2⟩ := hfin
                have hlen2 : (ints l2).length = L := by rw [← HLL.out, ← hmap]; simp [ints]
                have HMAP := Lib.hid hmap
                have HL2 := Lib.hid hlen2
                have HWL := Lib.hid hlw
                have HSM2 : Hid (∀ x, x ∈ l2 → x < 12) := Lib.hid hsm2
                clear hbq2 hcl hlp hll hln hlw hlD hex hfr hto htk hsz hmap hlen2 hnk hbh
                obtain ⟨v1, hs1, hr1⟩ := pcut_take HRP.out HNP.out k (by omega)
                obtain ⟨v2, hs2, hr2⟩ := pcut_drop HRP.out HNP.out (k + 1) (by omega)
                rw [show ((k + 1 : Nat) : Int) = (k : Int) + 1 by push_cast; rfl] at hs2
                have HR1 := Lib.hid hr1
                have HR2 := Lib.hid hr2
                have hwk1 : IntKind.i64.wrap ((k : Int) + 1) = (k : Int) + 1 := IntWalk.i64_in _ (by omega)
                have HT : Hid ((cs.take k).length = k) := by unfold Hid; rw [List.length_take]; omega
                have HDL : Hid ((cs.drop (k + 1)).length = NP - (k + 1)) := by unfold Hid; rw [List.length_drop, HNP.out]
                clear hr1 hr2 hk2 hK0 hK1
                go_upto_region 21 with fail
                refine wp_region_noPanic ?_
                refine wp_region_held_drew (S := (fun w' => Below wx.heap.size wx w')) (by kernel_rfl) ((Below.refl _ wx).drew) (fun hHeld => ?_)
                refine reg_tk (v := ?_) 0 141 rfl rfl (by kernel_rfl) (by kernel_rfl) (by kernel_rfl) (fun _ _ _ h => h) (by rfl) ?_ (by assumption) ?_
                rotate_left
                · (intro w hSw; (try dsimp only at hSw); go_simp; (try with_reducible rfl))
                simp only [List.setIfInBounds_toArray, List.set_cons_zero, List.set_cons_succ]
                refine reg_tk (v := ?_) 1 142 rfl rfl (by kernel_rfl) (by kernel_rfl) (by kernel_rfl) (fun _ _ _ h => h) (by rfl) ?_ (by assumption) ?_
                rotate_left
                · (intro w hSw; (try dsimp only at hSw); go_simp; (try with_reducible rfl))
                simp only [List.setIfInBounds_toArray, List.set_cons_zero, List.set_cons_succ]
                refine reg_tk (v := v1) 2 143 rfl rfl (by kernel_rfl) (by kernel_rfl) (by kernel_rfl) (fun _ _ _ h => h) (by rfl) (fun w3 hS => by have g := hs1; go_simp) (by assumption) ?_
                simp only [List.setIfInBounds_toArray, List.set_cons_zero, List.set_cons_succ]
                refine reg_tk (v := ?_) 4 145 rfl rfl (by kernel_rfl) (by kernel_rfl) (by kernel_rfl) (fun _ _ _ h => h) (by rfl) ?_ (by assumption) ?_
                rotate_left
                · (intro w hSw; (try dsimp only at hSw); go_simp; (try with_reducible rfl))
                simp only [List.setIfInBounds_toArray, List.set_cons_zero, List.set_cons_succ]
                refine reg_tk (v := ?_) 5 146 rfl rfl (by kernel_rfl) (by kernel_rfl) (by kernel_rfl) (fun _ _ _ h => h) (by rfl) ?_ (by assumption) ?_
                rotate_left
                · (intro w hSw; (try dsimp only at hSw); go_simp; (try with_reducible rfl))
                simp only [List.setIfInBounds_toArray, List.set_cons_zero, List.set_cons_succ]
                refine reg_tk (v := ?_) 6 147 rfl rfl (by kernel_rfl) (by kernel_rfl) (by kernel_rfl) (fun _ _ _ h => h) (by rfl) ?_ (by assumption) ?_
                rotate_left
                · (intro w hSw; (try dsimp only at hSw); go_simp; (try with_reducible rfl))
                simp only [List.setIfInBounds_toArray, List.set_cons_zero, List.set_cons_succ]
                refine reg_tk (v := v2) 7 148 rfl rfl (by kernel_rfl) (by kernel_rfl) (by kernel_rfl) (fun _ _ _ h => h) (by rfl) (fun w3 hS => by have g := hs2; go_simp) (by assumption) ?_
                simp only [List.setIfInBounds_toArray, List.set_cons_zero, List.set_cons_succ]
                refine wpAnyH_ready (rs := [3]) (by kernel_rfl) (by simp) ?_
                refine AllReadyH.cons rfl (fun K hK => ?_) AllReadyH.nil
                go_simp
                refine (ownPlan_own v1 (cs.take k) (by rw [HT.out]; omega) _ (HR1.out.keep (Below.refl _ wx).drew)).mono ?_
                rintro x w10 ⟨a, c, rfl, hown, hb⟩
                rw [HT.out] at hown ⊢
                have hB := Below.next (Below.refl _ wx).drew hb
                have HOWN := Lib.hid hown
                have HR3 := Lib.hid (HR2.out.keep hB)
                clear hown
                refine hK.out _ _ hB (fun hHeld2 => ?_)
                clear hK K hHeld
                have hHeld := hHeld2
                clear hHeld2
                try simp only [Act.put, List.setIfInBounds_toArray, List.set_cons_zero, List.set_cons_succ]
                refine wpAnyH_ready (rs := [8]) (by kernel_rfl) (by simp) ?_
                refine AllReadyH.cons rfl (fun K hK => ?_) AllReadyH.nil
                refine wp_app (.tmp 144) (.tmp 148) 22 rfl wx.heap.size 52 _ 6 48 ECt _ k (ccs (cs.take k)) rfl HOWN.out _ (NP - (k + 1)) (ccs (cs.drop (k + 1))) rfl (by have := HR3.out; unfold RdC at this; rwa [HDL.out] at this) (ccs_one _) (by unfold maxLen; omega) (by omega) (by have := hB.size; omega) ?_
                intro a' c' w11 hown3 hg3 hb3
                have hB3 : Below wx.heap.size wx w11 := hB.trans hb3
                have hrd : RdC w11 (.slice a' (k + (NP - (k + 1))) c') (lessP cs k) := by
                  have := RdS.of_owns hown3 (by decide)
                  unfold RdC lessP
                  rw [ccs_app, List.length_append, HT.out, HDL.out]
                  exact this
                obtain ⟨M2, hM2⟩ : ∃ M, k + (NP - (k + 1)) = M := ⟨_, rfl⟩
                rw [hM2] at hrd ⊢
                have HB2 := Lib.hid (best_any (.slice a' M2 c') (lessP cs k) u v t s 0 arr2 l2 HWL.out HQ2.out w11 hrd)
                clear hown3 hg3 hrd hM2
                show K (Act.put _ (some 149) _) _
                refine hK.out _ _ hB3 (fun hHeld2 => ?_)
                clear hK K hHeld
                have hHeld := hHeld2
                clear hHeld2
                try simp only [Act.put, List.setIfInBounds_toArray, List.set_cons_zero, List.set_cons_succ]
                refine reg_tk (v := ?_) 9 23 rfl rfl (by kernel_rfl) (by kernel_rfl) (by kernel_rfl) (fun _ _ _ h => h) (by rfl) ?_ (by assumption) ?_
                rotate_left
                · (intro w hSw; (try dsimp only at hSw); go_simp; (try with_reducible rfl))
                simp only [List.setIfInBounds_toArray, List.set_cons_zero, List.set_cons_succ]
                refine wpAnyH_done (by kernel_rfl) ?_ _
                refine NoPanic.normal ?_
                replace HRW := Lib.hid (HRW.out.keep hB3)
                replace HBR := Lib.hid (Below.next HBR.out hB3)
                replace HXR := Lib.hid (HXR.out.below hB3)
                clear hHeld hB hB3 hb hb3 HRP HOWN HR1 HR2 HR3 HDL HT hs1 hs2
                go_wp2_with fail
                refine HB2.out.mono ?_
                rintro e w12 ⟨⟨rv, rfl, hrt⟩, hb12⟩
                obtain ⟨cv, rfl, hrow⟩ := hrt.rd
                obtain ⟨ca2, cc2, rfl⟩ := hrow.form
                rw [HL2.out] at hrow ⊢
                have HROW2 := Lib.hid hrow
                clear hrt hrow HB2
                obtain ⟨Q13, HQ9⟩ : ∃ Q, Hid ((w12).heap.size = Q) := ⟨_, Lib.hid rfl⟩
                obtain ⟨W13, HW9⟩ : ∃ V : World, Hid (V = (w12).alloc (.cells #[.slice ca2 L cc2, .int .i64 arr2] 27)) := ⟨_, Lib.hid rfl⟩
                have hb13 : Below (w12).heap.size w12 W13 := by rw [HW9.out]; exact (by repeat (first | assumption | exact Below.refl _ _ | apply Below.al | apply below_drewN | apply Below.drew | refine Below.next ?_ (by assumption)))
                have hx13 : BoxN W13 Q13 27 #[.slice ca2 L cc2, .int .i64 arr2] := by rw [HW9.out, ← HQ9.out]; exact BoxN.new _ _ _
                go_upto_region 23 with fail
                rw [← HW9.out, HQ9.out]
                clear HW9 HQ9
                have hbb := Below.next hb12 hb13
                replace HROW2 := Lib.hid (HROW2.out.keep hb13)
                replace HRW := Lib.hid (HRW.out.keep hbb)
                replace HBR := Lib.hid (Below.next HBR.out hbb)
                have hxr := HXR.out.below hbb
                have p0 : W13.cell? ⟨Q4, 0, none⟩ = some (.slice ca L cc) := hxr.cell 0
                have p1 : W13.cell? ⟨Q4, 1, none⟩ = some (.int .i64 arr2) := hxr.cell 1
                have q0 : W13.cell? ⟨Q13, 0, none⟩ = some (.slice ca2 L cc2) := hx13.cell 0
                have q1 : W13.cell? ⟨Q13, 1, none⟩ = some (.int .i64 arr2) := hx13.cell 1
                have dA : (arr2 != arr2) = false := by simp
                have dL : ((L : Int) != (L : Int)) = false := by simp
                clear hbb hb12 hb13 hxr hx13 HXR
                go_wp2_with fail
                go_loopw [26] (fun iv wy => ∃ i : Nat, i ≤ L ∧ iv = .int .i64 i ∧ W13 = wy) (fun iv _ => L - (intOf iv).toNat)
                case atStart => exact ⟨0, Nat.zero_le _, rfl, rfl⟩
                case round =>
                  obtain ⟨i, hiL, rfl, rfl⟩ := hrel
                  by_cases hlt : i < L
                  · have d2 : decide ((i : Int) < (L : Int)) = true := yb (by omega)
                    obtain ⟨b2, o2, hab2, hc2, f0⟩ := RdI.at HRW.out HLL.out i hlt
                    subst hab2
                    obtain ⟨b3, o3, hab3, hc3, f1⟩ := RdI.at HROW2.out HL2.out i hlt
                    subst hab3
                    rw [ints_get] at f0 f1
                    have hup : l.getD i 0 = upK k (l2.getD i 0) := by
                      have h1 : i < l2.length := by have := HL2.out; simp [ints] at this; omega
                      rw [← HMAP.out, List.getD_eq_getElem?_getD, List.getElem?_map, List.getD_eq_getElem?_getD, List.getElem?_eq_getElem h1]
                      rfl
                    rw [hup] at f0
                    have hsm : l2.getD i 0 < 1000000 := by
                      have h1 : i < l2.length := by have := HL2.out; simp [ints] at this; omega
                      have h2 := HSM2.out (l2.getD i 0) (by rw [List.getD_eq_getElem?_getD, List.getElem?_eq_getElem h1]; exact List.getElem_mem _)
                      omega
                    obtain ⟨x, HXx⟩ : ∃ x, Hid (l2.getD i 0 = x) := ⟨_, Lib.hid rfl⟩
                    rw [HXx.out] at f0 f1 hsm
                    clear hup
                    have n1 : (0 : Int) ≤ (i : Int) := by omega
                    have n2 : (i : Int) < (L : Int) := by omega
                    have hwk : IntKind.i64.wrap (i : Int) = (i : Int) := IntWalk.i64_in _ (by omega)
                    have hwk2 : IntKind.i64.wrap ((i : Int) + 1) = (i : Int) + 1 := IntWalk.i64_in _ (by omega)
                    by_cases hge : k ≤ x
                    · have d3 : decide ((x : Int) ≥ (k : Int)) = true := yb (by omega)
                      have d3' : decide ((k : Int) ≤ (x : Int)) = true := yb (by omega)
                      have hwx : IntKind.i64.wrap ((x : Int) + 1) = (x : Int) + 1 := IntWalk.i64_in _ (by omega)
                      rw [show upK k x = x + 1 by unfold upK; rw [if_pos hge], show ((x + 1 : Nat) : Int) = (x : Int) + 1 by push_cast; rfl] at f0
                      have dx : ((x : Int) + 1 != (x : Int) + 1) = false := by simp
                      have d3n : decide (k ≤ x) = true := by simp [hge]
                      go_wp2_with fail
                      go_roundw
                      case rel => exact ⟨i + 1, by omega, by go_num, by first | trivial | rfl⟩
                      case measure => simp [intOf]; omega
                    · have d3 : decide ((x : Int) ≥ (k : Int)) = false := nb (by omega)
                      have d3' : decide ((k : Int) ≤ (x : Int)) = false := nb (by omega)
                      rw [show upK k x = x by unfold upK; rw [if_neg hge]] at f0
                      have dx : ((x : Int) != (x : Int)) = false := by simp
                      have d3n : decide (k ≤ x) = false := by simp [hge]
                      go_wp2_with fail
                      go_roundw
                      case rel => exact ⟨i + 1, by omega, by go_num, by first | trivial | rfl⟩
                      case measure => simp [intOf]; omega
                  · obtain rfl : i = L := by omega
                    have d2 : decide ((i : Int) < (i : Int)) = false := nb (by omega)
                    go_wp2_with fail
                    go_ret
                    exact ⟨rfl, HBR.out⟩
end Go.Proofs.Ytgmfifilgbbogaa
