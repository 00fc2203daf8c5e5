



/- Timers: the law's walk: what is made, cancelled and due are heaps with the timers that are expected. -/
import Derived.Test.YtigmhglkohjlhaaLa
import Derived.Test.YtigmhglkohjlhaaPl
import Derived.Test.YtigmhglkohjlhaaWi
namespace Go.Proofs.Ytigmhglkohjlhaa
open Go.RowKit
set_option linter.unusedSimpArgs false
set_option linter.unusedVariables false
set_option maxRecDepth 100000

theorem mx_nn2 (x n : Int) (h : 0 < n) : 0 ≤ x % n ∧ x % n < n := ⟨Int.emod_nonneg _ (by omega), Int.emod_lt_of_pos _ h⟩
theorem good_nodup {l : List Tm} (h : Good l) : l.Nodup := h.2.1.2.imp fun {a b} hab he => hab (by rw [he]; exact ⟨rfl, rfl, rfl, rfl⟩)
set_option maxHeartbeats 4000000 in
theorem lheaps_any (v : Value) (xs : List Int) (a b : Int) (hbx : ∀ x ∈ xs, Ib x) (ha : Ib a) (hbb : Ib b) (w : World) (h : RdI .i64 w v xs) : Calls Try.prog 4 #[v, .int .i64 a, .int .i64 b] w fun e w' => e = .returned (.bool true) ∧ Below w.heap.size w w' := by
  have hB := Below.refl w.heap.size w
  have HX := Lib.hid h
  obtain ⟨l, hmk, hg, hperm⟩ := made_mk xs
  have hlen : (madeW xs).length ≤ 30 := made_len xs
  obtain ⟨m, hm⟩ : ∃ m, madeW xs = m := ⟨_, rfl⟩
  rw [hm] at hmk hperm hlen
  obtain ⟨q, HQ, q0, q1⟩ : ∃ q, Hid (b % 22 = q) ∧ 0 ≤ q ∧ q < 22 := ⟨_, rfl, mx_nn2 b 22 (by omega)⟩
  have hd := due_good hg q (by omega) (by omega)
  have hgr := pops_good q _ l rfl hg
  obtain ⟨hh1, hh2, hh3, hh4, hh5⟩ := pops_hp q _ l rfl hg.2.2
  have hpl := pops_len q _ l rfl
  obtain ⟨D, hD⟩ : ∃ D, (pops q l).1 = D := ⟨_, rfl⟩
  obtain ⟨S, hS⟩ : ∃ S, (pops q l).2 = S := ⟨_, rfl⟩
  rw [hD, hS] at hd hh2 hpl
  rw [hD] at hh3 hh5
  rw [hS] at hh4 hgr
  obtain ⟨N, hN⟩ : ∃ N, m.length = N := ⟨_, rfl⟩
  obtain ⟨K, hK⟩ : ∃ K, D.length = K := ⟨_, rfl⟩
  obtain ⟨M, hM⟩ : ∃ M, S.length = M := ⟨_, rfl⟩
  have hlN : l.length = N := by rw [hperm.length_eq, hN]
  rw [hN] at hlen
  rw [hK, hM, hlN] at hpl
  have HM := Lib.hid hm
  have HMK := Lib.hid hmk
  have HCH : Hid (chkW l = (0, 0)) := chk_good hg
  have HCS : Hid (chkW S = (0, 0)) := chk_good hgr
  have HDU := Lib.hid hd
  have HNM := Lib.hid hN
  have HNL := Lib.hid hlN
  have HND := Lib.hid hK
  have HNS := Lib.hid hM
  have HW1 : Hid (inL m l = true) := (inL_iff _ _).2 fun x hx => hperm.mem_iff.2 hx
  have HW2 : Hid (inL D m = true) := (inL_iff _ _).2 fun x hx => hperm.mem_iff.1 (hh2.mem_iff.1 (List.mem_append_left _ hx))
  have HW3 : Hid (inL S m = true) := (inL_iff _ _).2 fun x hx => hperm.mem_iff.1 (hh2.mem_iff.1 (List.mem_append_right _ hx))
  have HTD : Hid (∀ i, i < K → (g D i).tk ≤ q) := fun i hi => hh3 _ (g_mem (by rw [hK]; exact hi))
  have HTO : Hid (∀ i, 0 < i → i < K → (g D (i - 1)).tk ≤ (g D i).tk) := fun i h0 hi => by
    have h5 := List.pairwise_iff_getElem.1 hh5 (i - 1) i (by omega) (by omega) (by omega)
    rw [← g_at (show i - 1 < D.length by omega), ← g_at (show i < D.length by omega)] at h5
    unfold ltT at h5
    omega
  have HTS : Hid (∀ i, i < M → q < (g S i).tk) := fun i hi => hh4 _ (g_mem (by rw [hM]; exact hi))
  have HCAN : Hid (∀ i, i < N → ∃ r, canW l (g m i) = (r, 0) ∧ chkW r = (0, 0) ∧ r.length = N - 1 ∧ inL r m = true ∧ inL [g m i] r = false) := fun i hi => by
    obtain ⟨r, h1, h2, h3⟩ := can_good hg (x := g m i) (hperm.mem_iff.2 (g_mem (by rw [hN]; exact hi)))
    refine ⟨r, h1, chk_good h2, ?_, (inL_iff _ _).2 fun x hx => hperm.mem_iff.1 (h3.mem_iff.1 (List.mem_cons_of_mem _ hx)), ?_⟩
    · have := h3.length_eq
      rw [List.length_cons, hlN] at this
      omega
    · have hnd : (g m i :: r).Nodup := h3.nodup_iff.2 (good_nodup hg)
      rw [Bool.eq_false_iff]
      intro h5
      exact (List.nodup_cons.1 hnd).1 ((inL_iff _ _).1 h5 _ (by simp))
  have hml : m.length ≤ 1000000 := by omega
  have hwK : IntKind.i64.wrap ((K : Int) + (M : Int)) = (N : Int) := by rw [show (K : Int) + (M : Int) = (N : Int) by omega]; exact IntWalk.i64_in _ (by omega)
  have q1' : ((N : Int) != (N : Int)) = false := by simp
  have hKN : K ≤ 30 := by omega
  have hMN : M ≤ 30 := by omega
  clear h hmk hg hperm hd hgr hh1 hh2 hh3 hh4 hh5 hpl hD hS hN hK hM hlN hm
  go_enter Try.func4, Try.ntmps4
  go_wp2_with fail
  refine (made_any _ xs hbx _ HX.out).mono ?_
  rw [HM.out, HNM.out]
  rintro e w1' ⟨a0, c0, rfl, ho, hb⟩
  have hB := Below.next hB hb
  have HO := Lib.hid (RdM.own ho HNM.out)
  clear ho hb
  go_wp2_with fail
  refine (make_any _ m hml _ HO.out).mono ?_
  rw [HMK.out]
  rintro e w2 ⟨v1, rfl, h1, hb⟩
  have hB := Below.next hB hb
  obtain ⟨a1, c1, rfl⟩ := h1.form
  have HL := Lib.hid h1
  clear h1
  rw [HNL.out] at HL ⊢
  have HO := Lib.hid (RdL.keep hb HO.out)
  clear hb
  go_wp2_with fail
  refine (check_is _ l 0 0 HCH.out _ HL.out).mono ?_
  rintro e w3 ⟨rfl, hb⟩
  have hB := Below.next hB hb
  have HO := Lib.hid (RdL.keep hb HO.out)
  have HL := Lib.hid (RdL.keep hb HL.out)
  clear hb
  go_wp2_with fail
  refine (wthn_any _ _ _ _ _ HO.out HL.out).mono ?_
  rw [HW1.out]
  rintro e w4 ⟨rfl, hb⟩
  have hB := Below.next hB hb
  have HO := Lib.hid (RdL.keep hb HO.out)
  have HL := Lib.hid (RdL.keep hb HL.out)
  clear hb
  go_wp2_with fail
  refine (mod_any b 22 (by omega) (by omega) hbb _).mono ?_
  rw [HQ.out]
  rintro e w9 ⟨rfl, rfl⟩
  go_wp2_with fail
  refine (due_any _ l q _ HL.out).mono ?_
  rw [HDU.out]
  rintro e w5 ⟨v1, v2, rfl, h1, h2, hb⟩
  have hB := Below.next hB hb
  obtain ⟨a1, c1, rfl⟩ := h1.form
  obtain ⟨a2, c2, rfl⟩ := h2.form
  have HA := Lib.hid h1
  have HS := Lib.hid h2
  clear h1 h2
  rw [HND.out] at HA ⊢
  rw [HNS.out] at HS ⊢
  have HO := Lib.hid (RdL.keep hb HO.out)
  have HL := Lib.hid (RdL.keep hb HL.out)
  clear hb
  go_wp2_with fail
  refine (check_is _ S 0 0 HCS.out _ HS.out).mono ?_
  rintro e w6 ⟨rfl, hb⟩
  have hB := Below.next hB hb
  have HO := Lib.hid (RdL.keep hb HO.out)
  have HL := Lib.hid (RdL.keep hb HL.out)
  have HA := Lib.hid (RdL.keep hb HA.out)
  have HS := Lib.hid (RdL.keep hb HS.out)
  clear hb
  go_wp2_with fail
  refine (wthn_any _ _ _ _ _ HA.out HO.out).mono ?_
  rw [HW2.out]
  rintro e w7 ⟨rfl, hb⟩
  have hB := Below.next hB hb
  have HO := Lib.hid (RdL.keep hb HO.out)
  have HL := Lib.hid (RdL.keep hb HL.out)
  have HA := Lib.hid (RdL.keep hb HA.out)
  have HS := Lib.hid (RdL.keep hb HS.out)
  clear hb
  go_wp2_with fail
  refine (wthn_any _ _ _ _ _ HS.out HO.out).mono ?_
  rw [HW3.out]
  rintro e w8 ⟨rfl, hb⟩
  have hB := Below.next hB hb
  have HO := Lib.hid (RdL.keep hb HO.out)
  have HL := Lib.hid (RdL.keep hb HL.out)
  have HA := Lib.hid (RdL.keep hb HA.out)
  have HS := Lib.hid (RdL.keep hb HS.out)
  have HB := Lib.hid hB
  clear hb hB
  go_wp2_with fail
  go_loopw [17] (fun ix wr => ∃ k : Nat, k ≤ K ∧ ix = .int .i64 (k : Int) ∧ Below w8.heap.size w8 wr) (fun ix _ => K - (intOf ix).toNat)
  case atStart => exact ⟨0, by omega, rfl, Below.refl _ _⟩
  case round =>
    obtain ⟨k, hk, rfl, hbr⟩ := hrel
    by_cases hlt : k < K
    · have d1 : decide ((k : Int) < (K : Int)) = true := yb (by omega)
      obtain ⟨b1, o1, rfl, hc1, g0, _, _, _, _⟩ := RdM.at (RdL.keep hbr HA.out) HND.out k hlt
      obtain ⟨t, ht⟩ : ∃ t, (g D k).tk = t := ⟨_, rfl⟩
      have htd : t ≤ q := by rw [← ht]; exact HTD.out k hlt
      rw [ht] at g0
      have n1 : (0 : Int) ≤ (k : Int) := by omega
      have n2 : (k : Int) < (K : Int) := by omega
      have hwk : IntKind.i64.wrap (k : Int) = (k : Int) := IntWalk.i64_in _ (by omega)
      have hwk1 : IntKind.i64.wrap ((k : Int) + 1) = (k : Int) + 1 := IntWalk.i64_in _ (by omega)
      have d2 : decide (q < t) = false := nb (by omega)
      by_cases h0 : 0 < k
      · have d3 : decide ((0 : Int) < (k : Int)) = true := yb (by omega)
        have d3' : decide (0 < k) = true := yb h0
        obtain ⟨b1', o1', he, _, p0, _, _, _, _⟩ := RdM.at (RdL.keep hbr HA.out) HND.out (k - 1) (by omega)
        simp only [Option.some.injEq, Addr.mk.injEq, and_true] at he
        obtain ⟨rfl, rfl⟩ := he
        obtain ⟨s, hs⟩ : ∃ s, (g D (k - 1)).tk = s := ⟨_, rfl⟩
        have hst : s ≤ t := by rw [← hs, ← ht]; exact HTO.out k h0 hlt
        rw [hs] at p0
        obtain ⟨j, hj⟩ : ∃ j, k - 1 = j := ⟨_, rfl⟩
        rw [hj] at p0
        have hwj : IntKind.i64.wrap ((k : Int) - 1) = (j : Int) := by rw [show (k : Int) - 1 = (j : Int) by omega]; exact IntWalk.i64_in _ (by omega)
        have j1 : (0 : Int) ≤ (j : Int) := by omega
        have j2 : (j : Int) < (K : Int) := by omega
        have hwjj : IntKind.i64.wrap (j : Int) = (j : Int) := IntWalk.i64_in _ (by omega)
        have d4 : decide (t < s) = false := nb (by omega)
        clear ht hs hj h0 htd hst
        go_wp2_with fail
        go_quiet (fail)
        go_wp2_with fail
        go_roundw
        case rel => exact ⟨k + 1, by omega, by go_num, below_drewN hbr _⟩
        case measure => simp [intOf]; omega
      · have d3 : decide ((0 : Int) < (k : Int)) = false := nb (by omega)
        have d3' : decide (0 < k) = false := nb h0
        clear ht h0 htd
        go_wp2_with fail
        go_quiet (fail)
        go_wp2_with fail
        go_roundw
        case rel => exact ⟨k + 1, by omega, by go_num, below_drewN hbr _⟩
        case measure => simp [intOf]; omega
    · obtain rfl : k = K := by omega
      have d1 : decide ((k : Int) < (k : Int)) = false := nb (by omega)
      have HO := Lib.hid (RdL.keep hbr HO.out)
      have HL := Lib.hid (RdL.keep hbr HL.out)
      have HS := Lib.hid (RdL.keep hbr HS.out)
      have HB := Lib.hid (Below.next HB.out hbr)
      clear hbr HA
      go_wp2_with fail
      go_loopw [18] (fun ix ws => ∃ j : Nat, j ≤ M ∧ ix = .int .i64 (j : Int) ∧ Below wr.heap.size wr ws) (fun ix _ => M - (intOf ix).toNat)
      case atStart => exact ⟨0, by omega, rfl, Below.refl _ _⟩
      case round =>
        obtain ⟨j, hj, rfl, hbs⟩ := hrel
        by_cases hjl : j < M
        · have d2 : decide ((j : Int) < (M : Int)) = true := yb (by omega)
          obtain ⟨b1, o1, rfl, hc1, g0, _, _, _, _⟩ := RdM.at (RdL.keep hbs HS.out) HNS.out j hjl
          obtain ⟨t, ht⟩ : ∃ t, (g S j).tk = t := ⟨_, rfl⟩
          have htd : q < t := by rw [← ht]; exact HTS.out j hjl
          rw [ht] at g0
          have n1 : (0 : Int) ≤ (j : Int) := by omega
          have n2 : (j : Int) < (M : Int) := by omega
          have hwj : IntKind.i64.wrap (j : Int) = (j : Int) := IntWalk.i64_in _ (by omega)
          have hwj1 : IntKind.i64.wrap ((j : Int) + 1) = (j : Int) + 1 := IntWalk.i64_in _ (by omega)
          have d3 : decide (t ≤ q) = false := nb (by omega)
          clear ht htd
          go_wp2_with fail
          go_roundw
          case rel => exact ⟨j + 1, by omega, by go_num, hbs⟩
          case measure => simp [intOf]; omega
        · obtain rfl : j = M := by omega
          have d2 : decide ((j : Int) < (j : Int)) = false := nb (by omega)
          have HO := Lib.hid (RdL.keep hbs HO.out)
          have HL := Lib.hid (RdL.keep hbs HL.out)
          have hB := Below.next HB.out hbs
          clear hbs HS HB
          by_cases hN0 : N = 0
          · have d3 : ((N : Int) == 0) = true := by simp [hN0]
            have d3' : (N == 0) = true := by simp [hN0]
            clear hN0
            go_wp2_with fail
            refine (awake_any _).mono ?_
            rintro e wa ⟨rfl, hb⟩
            have hB := Below.next hB hb
            clear hb
            go_wp2_with fail
            go_ret
            exact ⟨rfl, hB⟩
          · have d3 : ((N : Int) == 0) = false := by simp [hN0]
            have d3' : (N == 0) = false := by simp [hN0]
            obtain ⟨p, HP, p0, p1⟩ : ∃ p, Hid (a % (N : Int) = p) ∧ 0 ≤ p ∧ p < (N : Int) := ⟨_, rfl, mx_nn2 a (N : Int) (by omega)⟩
            obtain ⟨i, rfl⟩ : ∃ i : Nat, p = (i : Int) := ⟨p.toNat, by omega⟩
            have hiN : i < N := by omega
            obtain ⟨r, hcan, hchr, hrl, hrm, hrx⟩ := HCAN.out i hiN
            obtain ⟨t, HT⟩ : ∃ t, Hid (g m i = t) := ⟨_, rfl⟩
            rw [HT.out] at hcan hrx
            have HC2 := Lib.hid hcan
            have HC3 := Lib.hid hchr
            have HRL := Lib.hid hrl
            have HRM := Lib.hid hrm
            have HRX := Lib.hid hrx
            clear hN0 hcan hchr hrl hrm hrx
            have hN1 : 1 ≤ N := by omega
            obtain ⟨N1, hN1'⟩ : ∃ N1, N - 1 = N1 := ⟨_, rfl⟩
            have hwN : IntKind.i64.wrap ((N : Int) - 1) = (N1 : Int) := by rw [show (N : Int) - 1 = (N1 : Int) by omega]; exact IntWalk.i64_in _ (by omega)
            have q2 : ((N1 : Int) == (N1 : Int)) = true := by simp
            rw [hN1'] at HRL
            clear hN1'
            have i1 : (0 : Int) ≤ (i : Int) := by omega
            have hwi : IntKind.i64.wrap (i : Int) = (i : Int) := IntWalk.i64_in _ (by omega)
            obtain ⟨b1, o1, rfl, hc1, g0, g1, g2, g3, g4⟩ := RdM.at HO.out HNM.out i hiN
            rw [HT.out] at g0 g1 g2 g3 g4
            have i2 : (i : Int) < (N : Int) := by omega
            go_wp2_with fail
            refine (mod_any a (N : Int) (by omega) (by omega) ha _).mono ?_
            rw [HP.out]
            rintro e w9 ⟨rfl, rfl⟩
            obtain ⟨W3, hW3⟩ : ∃ W : World, W = wr.alloc (.cells #[.int .i64 t.tk, .int .i64 t.kd, .int .i64 t.nd, .int .u64 t.sq, .int .i64 t.of] 41) := ⟨_, rfl⟩
            have hb : Below wr.heap.size wr W3 := by rw [hW3]; exact (by repeat (first | assumption | exact Below.refl _ _ | apply Below.al | apply below_drewN | apply Below.drew | refine Below.next ?_ (by assumption)))
            have bA : BoxN W3 wr.heap.size 41 #[.int .i64 t.tk, .int .i64 t.kd, .int .i64 t.nd, .int .u64 t.sq, .int .i64 t.of] := by rw [hW3]; exact BoxN.new _ _ _
            have hB := Below.next hB hb
            have HO := Lib.hid (RdL.keep hb HO.out)
            have HL := Lib.hid (RdL.keep hb HL.out)
            have x0 : W3.cell? ⟨wr.heap.size, 0, none⟩ = some (.int .i64 t.tk) := (bA.cell 0).trans rfl
            have x1 : W3.cell? ⟨wr.heap.size, 1, none⟩ = some (.int .i64 t.kd) := (bA.cell 1).trans rfl
            have x2 : W3.cell? ⟨wr.heap.size, 2, none⟩ = some (.int .i64 t.nd) := (bA.cell 2).trans rfl
            have x3 : W3.cell? ⟨wr.heap.size, 3, none⟩ = some (.int .u64 t.sq) := (bA.cell 3).trans rfl
            have x4 : W3.cell? ⟨wr.heap.size, 4, none⟩ = some (.int .i64 t.of) := (bA.cell 4).trans rfl
            clear hb bA
            go_upto_region 24 with fail
            rw [← hW3]
            clear hW3
            go_wp2_with fail
            refine (cancel_any _ l t _ HL.out).mono ?_
            rw [HC2.out]
            rintro e wa ⟨v1, rfl, h1, hb⟩
            have hB := Below.next hB hb
            obtain ⟨a1, c1, rfl⟩ := h1.form
            have HR2 := Lib.hid h1
            clear h1
            rw [HRL.out] at HR2 ⊢
            have HO := Lib.hid (RdL.keep hb HO.out)
            have x0 := cell_later hb x0
            have x1 := cell_later hb x1
            have x2 := cell_later hb x2
            have x3 := cell_later hb x3
            have x4 := cell_later hb x4
            clear hb HL g0 g1 g2 g3 g4
            go_wp2_with fail
            refine (check_is _ r 0 0 HC3.out _ HR2.out).mono ?_
            rintro e wb ⟨rfl, hb⟩
            have hB := Below.next hB hb
            have HO := Lib.hid (RdL.keep hb HO.out)
            have HR2 := Lib.hid (RdL.keep hb HR2.out)
            have x0 := cell_later hb x0
            have x1 := cell_later hb x1
            have x2 := cell_later hb x2
            have x3 := cell_later hb x3
            have x4 := cell_later hb x4
            clear hb
            go_wp2_with fail
            refine (wthn_any _ _ _ _ _ HR2.out HO.out).mono ?_
            rw [HRM.out]
            rintro e wc ⟨rfl, hb⟩
            have hB := Below.next hB hb
            have HR2 := Lib.hid (RdL.keep hb HR2.out)
            have x0 := cell_later hb x0
            have x1 := cell_later hb x1
            have x2 := cell_later hb x2
            have x3 := cell_later hb x3
            have x4 := cell_later hb x4
            have H1 := Lib.hid (rd_lit wc [t] (by simp))
            have hb := Below.al (Below.refl _ wc) (.cells (rcs tmR [t]).toArray 41)
            have hB := Below.next hB hb
            have HR2 := Lib.hid (RdL.keep hb HR2.out)
            clear hb HO
            go_wp2_with fail
            refine (wthn_any _ _ _ _ _ H1.out HR2.out).mono ?_
            rw [HRX.out]
            rintro e wd ⟨rfl, hb⟩
            have hB := Below.next hB hb
            clear hb x0 x1 x2 x3 x4 H1 HR2
            go_wp2_with fail
            refine (awake_any _).mono ?_
            rintro e we ⟨rfl, hb⟩
            have hB := Below.next hB hb
            clear hb
            go_wp2_with fail
            go_ret
            exact ⟨rfl, hB⟩
end Go.Proofs.Ytigmhglkohjlhaa
