


/- Routes: the program's Best. -/
import Derived.Test.YtgmfifilgbbogaaROq
import Derived.WalkMore
namespace Go.Proofs.Ytgmfifilgbbogaa
open Go.RowKit
set_option linter.unusedSimpArgs false
set_option linter.unusedVariables false
set_option maxRecDepth 100000

theorem walk_bd {cs : List Ct} {n : Int} (hp : okP cs) : ∀ (l : List Nat) (u t v s : Int), t ≤ 1099512676352 → walkP cs n l u t = some (v, s) → s ≤ 1099512676352 := by
  intro l
  induction l with
  | nil =>
    intro u t v s ht h
    simp only [walkP, Option.some.injEq, Prod.mk.injEq] at h
    omega
  | cons i l ih =>
    intro u t v s ht h
    obtain ⟨hi, hu, r, hr, hw⟩ := walk_cons h
    exact ih _ _ _ _ (hop_bd (hp.at hi) hr) hw
theorem list17 {L : List Int} (h : L.length = 17) : ∃ a0 a1 a2 a3 a4 a5 a6 a7 a8 a9 a10 a11 a12 a13 a14 a15 a16, L = [a0, a1, a2, a3, a4, a5, a6, a7, a8, a9, a10, a11, a12, a13, a14, a15, a16] := by
  match L, h with
  | [a0, a1, a2, a3, a4, a5, a6, a7, a8, a9, a10, a11, a12, a13, a14, a15, a16], _ => exact ⟨a0, a1, a2, a3, a4, a5, a6, a7, a8, a9, a10, a11, a12, a13, a14, a15, a16, rfl⟩
theorem bk_le {cs : List Ct} {n v E : Int} {k : Nat} {l : List Int} (hp : okP cs) (hn : 1 ≤ n) (hE : 0 ≤ E) (h : Bk0 cs n v E k l) {x : Int} (hx : 0 ≤ x) : gI l x ≤ E := by
  by_cases h0 : 0 ≤ gI l x
  · obtain ⟨m, s, _, hw, hs⟩ := (h.2.2 x _ hx h0).1 (Int.le_refl _)
    have := walk_le hp hn _ _ _ _ _ hw
    omega
  · omega
theorem own_lt {w w' : World} {P base n : Nat} {v : Value} {xs : List Value} {e : TypeId} {size : Nat} (h : w.ownsRow base e size v n xs) (hb : Below P w w') (hlt : ∀ k, v.ownBlock = some k → k < P) : w'.ownsRow base e size v n xs :=
  Kx.owns (X := fun k => P ≤ k) ⟨hb.mono (Nat.zero_le _), fun k _ hk => hb.block k (by omega)⟩ (fun k hk he => by have := hlt k hk; omega) h
def lenOf : Value → Nat
  | .slice _ n _ => n
  | _ => 0
theorem rep17 : (List.replicate 17 (0 : Int)).length = 17 := by simp
set_option maxHeartbeats 20000000 in
theorem best_any (pv : Value) (cs : List Ct) (u v t n er arr : Int) (l : List Nat) (hwf : ∀ c, c ∈ cs → Wf c) (hq : BestQ cs u v t n er arr l) (w : World) (hr : RdC w pv cs) :
    Calls Try.prog 12 #[pv, .int .i64 u, .int .i64 v, .int .i64 t, .int .i64 n] w fun e w' => (∃ rv, e = .returned (.tuple #[rv, .int .i64 er]) ∧ RtF w' (w.heap.size + 1) rv arr (ints l)) ∧ Below w.heap.size w w' := by
  obtain ⟨a0, n0, rfl⟩ := hr.form
  obtain ⟨N, hN⟩ : ∃ N, cs.length = N := ⟨_, rfl⟩
  rw [hN] at hr ⊢
  obtain ⟨W0, hW0⟩ : ∃ W : World, W = w.alloc (.cells #[.slice none 0 0, .int .i64 0] 27) := ⟨_, rfl⟩
  have hB0 : Below w.heap.size w W0 := by rw [hW0]; exact (by repeat (first | assumption | exact Below.refl _ _ | apply Below.al | apply below_drewN | apply Below.drew | refine Below.next ?_ (by assumption)))
  have hs0 : w.heap.size + 1 = W0.heap.size := by rw [hW0]; simp
  have hr0 : BoxN W0 w.heap.size 27 #[.slice none 0 0, .int .i64 0] := by rw [hW0]; exact BoxN.new w _ _
  obtain ⟨W2, hW2⟩ : ∃ V : World, V = W0.alloc (.cells #[.int .i64 u, .int .i64 v] 3) := ⟨_, rfl⟩
  have hb2 : Below W0.heap.size W0 W2 := by rw [hW2]; exact (by repeat (first | assumption | exact Below.refl _ _ | apply Below.al | apply below_drewN | apply Below.drew | refine Below.next ?_ (by assumption)))
  have hri : RdI .i64 W2 (.slice (some ⟨W0.heap.size, 0, none⟩) 2 2) [u, v] := by rw [hW2]; exact RdI.two W0 u v
  have hC := checked_any (.slice a0 N n0) (.slice (some ⟨W0.heap.size, 0, none⟩) 2 2) cs t n [u, v] hwf W2 ((hr.keep hB0).keep hb2) hri
  obtain ⟨ce, hce⟩ : ∃ ce, chkE cs t n [u, v] = ce := ⟨_, rfl⟩
  rw [hce] at hC
  have HC := Lib.hid hC
  have HR := Lib.hid hr
  have HN := Lib.hid hN
  have HE := Lib.hid hce
  have HB2 := Lib.hid (Below.next hB0 hb2)
  have HR2 := Lib.hid (hr0.below hb2)
  clear hC hr hN hce hri hwf hs0 hB0 hb2 hr0
  go_enter Try.func12, Try.ntmps12
  go_upto_region 1 with fail
  rw [← hW0]
  clear hW0
  go_step3
  go_wp2_with (go_at_call 36; rw [← hW2]; refine HC.out.mono ?_)
  rintro e w1 ⟨rfl, hb1⟩
  have HB1 := Lib.hid (Below.next HB2.out hb1)
  have HR1 := Lib.hid (HR2.out.below hb1)
  clear hb1 hW2 HB2 HR2 HC
  by_cases h0 : ce = 0
  · subst h0
    have hq2 : (arrE cs n u t v < 0 ∧ er = 15 ∧ arr = 0 ∧ l = []) ∨ (er = 0 ∧ arr = arrE cs n u t v ∧ ∃ h, BestR cs n u t v arr h l) := by
      rcases hq with ⟨h1, _⟩ | ⟨_, h1⟩ | ⟨_, h1⟩
      · exact absurd HE.out h1
      · exact .inl h1
      · exact .inr h1
    obtain ⟨hp, hqq, hno⟩ := chkE_ok HE.out
    obtain ⟨hpk, hpl⟩ := planOk hp
    have hu := hno u (by simp)
    have hv := hno v (by simp)
    have hn : 1 ≤ n ∧ n ≤ 1200 := ⟨hqq.2.2.1, hqq.2.2.2⟩
    have ht := hqq.1
    have ht2 := hqq.2.1
    have HP := Lib.hid hpk
    have HCALL := Lib.hid (reached_any (.slice a0 N n0) cs u t n hpk hpl hu ht hn w1 (HR.out.keep HB1.out))
    have hlen := rchL_len hpk hn.1 hu ht 16
    obtain ⟨RL, HRL⟩ : ∃ RL, Hid (rchL cs n u t 16 = RL) := ⟨_, Lib.hid rfl⟩
    have hat := gI_to (L := rchL cs n u t 16) (v := v) hlen (by omega) (by omega)
    obtain ⟨E, hE⟩ : ∃ E, gI (rchL cs n u t 16) v = E := ⟨_, rfl⟩
    have hE2 : arrE cs n u t v = E := hE
    rw [hE2] at hq2
    rw [hE, HRL.out] at hat
    rw [HRL.out] at hlen HCALL
    have hix : ∀ w : World, (Instr.index 63 (.agg (ic .i64 RL).toArray) (.int .i64 v)).run Try.prog w = .ok (.int .i64 E) w := fun w => by rw [run_index_ar w RL v hlen (by omega) (by omega), ← hat]
    have HM1 : E < 0 → E = -1 := fun h => by rw [← hE2]; exact arr_neg hpk hn.1 hu ht (by omega) (by rw [hE2]; exact h)
    have HM := Lib.hid HM1
    have HQ2 := Lib.hid hq2
    clear hq2 hq hp hno hpk hE hE2 hlen hat HM1 hqq
    go_wp2_with fail
    refine HCALL.out.mono ?_
    rintro e w2 ⟨rfl, hb2⟩
    have HB2 := Lib.hid (Below.next HB1.out hb2)
    have HR2 := Lib.hid (HR1.out.below hb2)
    clear hb2 HCALL
    by_cases hneg : E < 0
    · have hE1 := HM.out hneg
      have d1 : (E == -1) = true := by simp [hE1]
      have hq3 : er = 15 ∧ arr = 0 ∧ l = [] := by
        rcases HQ2.out with ⟨_, h⟩ | ⟨_, h2, _, hb⟩
        · exact h
        · have := hb.nn; omega
      obtain ⟨rfl, rfl, rfl⟩ := hq3
      have z0 := HR2.out.frozen 0
      have z1 := HR2.out.frozen 1
      have t0 : w2.cell? ⟨w.heap.size, 0, none⟩ = some (.slice none 0 0) := HR2.out.cell 0
      have t1 : w2.cell? ⟨w.heap.size, 1, none⟩ = some (.int .i64 0) := HR2.out.cell 1
      clear hneg hE1
      go_wp2_with fail
      rw [Exit.noGoto_ret]
      refine bodyPost_ret (v := .tuple #[.agg #[.slice none 0 0, .int .i64 0], .int .i64 15]) (by simp [results, Try.results12, go_sem, t0, t1]) rfl ⟨⟨_, rfl, RtF.zero _ _⟩, ?_⟩
      exact (HB2.out.setCell (p := ⟨w.heap.size, 0, none⟩) (Nat.le_refl _) _).setCell (p := ⟨w.heap.size, 1, none⟩) (Nat.le_refl _) _
    · have d1 : (E == -1) = false := by simp; omega
      have hE0 : 0 ≤ E := by omega
      obtain ⟨rfl, harr, h, hbest⟩ : er = 0 ∧ arr = E ∧ ∃ h, BestR cs n u t v arr h l := by
        rcases HQ2.out with ⟨h1, _⟩ | h1
        · exact absurd h1 hneg
        · exact h1
      rw [harr] at hbest
      have h15 := hbest.few15 HP.out hn.1 hu
      have HBEST := Lib.hid hbest
      have HARR := Lib.hid harr
      have HBK := Lib.hid (fun k => bk_all HP.out hn.1 hv hE0 k (cs := cs) (n := n))
      have HEB : Hid (E ≤ 1099512676352) := Lib.hid (by
        exact walk_bd HP.out _ _ _ _ _ (by omega) hbest.walk)
      clear hbest hneg harr HQ2 HM
      obtain ⟨Q, HQ⟩ : ∃ Q, Hid (w2.heap.size = Q) := ⟨_, Lib.hid rfl⟩
      obtain ⟨W3, hW3⟩ : ∃ V : World, V = w2.alloc (.cells #[.int .i64 0, .int .i64 0, .int .i64 0, .int .i64 0, .int .i64 0, .int .i64 0, .int .i64 0, .int .i64 0, .int .i64 0, .int .i64 0, .int .i64 0, .int .i64 0, .int .i64 0, .int .i64 0, .int .i64 0, .int .i64 0, .int .i64 0] 63) := ⟨_, rfl⟩
      have hb3 : Below w2.heap.size w2 W3 := by rw [hW3]; exact (by repeat (first | assumption | exact Below.refl _ _ | apply Below.al | apply below_drewN | apply Below.drew | refine Below.next ?_ (by assumption)))
      have HA3 : Hid (ArrB W3 Q (List.replicate 17 0)) := Lib.hid (by rw [hW3, ← HQ.out]; exact ArrB.new w2)
      have HB3 := Lib.hid (Below.next HB2.out hb3)
      have HR3 := Lib.hid (HR2.out.below hb3)
      have hQw : w.heap.size < Q := by rw [← HQ.out]; exact HR2.out.lt
      clear hb3
      go_upto_region 8 with fail
      rw [← hW3, HQ.out]
      clear hW3 hix HQ HB2 HR2 HB1 HR1
      go_wp2_with fail
      go_loopw [51] (fun i wr => ∃ (j : Nat) (L : List Int), j ≤ 17 ∧ i = .int .i64 j ∧ ArrB wr Q L ∧ L.length = 17 ∧ (∀ k, k < j → L.getD k 0 = -1) ∧ BoxN wr w.heap.size 27 #[.slice none 0 0, .int .i64 0] ∧ Below w.heap.size w wr) (fun i _ => 17 - (intOf i).toNat)
      case atStart => exact ⟨0, _, Nat.zero_le _, rfl, HA3.out, by simp, (fun k hk => absurd hk (Nat.not_lt_zero _)), HR3.out, HB3.out⟩
      case round =>
        clear HA3 HB3 HR3
        obtain ⟨j, L, hj, rfl, ho, hll, hz, hs, hb⟩ := hrel
        have HO := Lib.hid ho
        have HZ := Lib.hid hz
        have HB := Lib.hid hb
        have HS := Lib.hid hs
        have HLL := Lib.hid hll
        clear ho hz hb hs hll
        by_cases hlt : j < 17
        · have d2 : decide ((j : Int) < 17) = true := yb (by omega)
          have g0 := HO.out.at j (by rw [HLL.out]; exact hlt)
          have f0 := HO.out.fz j
          have n1 : (0 : Int) ≤ (j : Int) := by omega
          have n2 : (j : Int) < 17 := by omega
          have hwk : IntKind.i64.wrap (j : Int) = (j : Int) := IntWalk.i64_in _ (by omega)
          have hwk1 : IntKind.i64.wrap ((j : Int) + 1) = (j : Int) + 1 := IntWalk.i64_in _ (by omega)
          obtain ⟨W2, hW2⟩ : ∃ W2 : World, W2 = wr.setCell ⟨Q, j, none⟩ (.int .i64 (-1)) := ⟨_, rfl⟩
          have hk2 : Kx (fun k => k = Q) wr W2 := by rw [hW2]; exact Kx.setCell (X := fun k => k = Q) (Kx.refl _ wr) (.inl rfl) _
          have HF : Hid (ArrB W2 Q (L.set j (-1)) ∧ (L.set j (-1)).length = 17 ∧ (∀ k, k < j + 1 → (L.set j (-1)).getD k 0 = -1) ∧ BoxN W2 w.heap.size 27 #[.slice none 0 0, .int .i64 0] ∧ Below w.heap.size w W2) := Lib.hid ⟨by rw [hW2]; exact HO.out.set j _, by rw [List.length_set]; exact HLL.out, fun k hk => by
            rw [getD_set _ _ _ _ (by rw [HLL.out]; exact hlt)]
            split
            · rfl
            · exact HZ.out k (by omega), hk2.box (by omega) HS.out, by rw [hW2]; exact HB.out.setCell (p := ⟨Q, j, none⟩) (by show w.heap.size ≤ Q; omega) _⟩
          go_upto_region 12 with fail
          rw [← hW2]
          clear hW2 g0 f0 hk2
          go_wp2_with fail
          go_roundw
          case rel => exact ⟨j + 1, _, by omega, by go_num, HF.out.1, HF.out.2.1, HF.out.2.2.1, HF.out.2.2.2.1, HF.out.2.2.2.2⟩
          case measure => simp [intOf]; omega
        · have d2 : decide ((j : Int) < 17) = false := nb (by omega)
          have hL := all_rep HLL.out (fun k hk => HZ.out k (by omega))
          clear hlt hj
          subst hL
          have g0 := HO.out.at v.toNat (by rw [List.length_replicate]; omega)
          have f0 := HO.out.fz v.toNat
          have n1 : (0 : Int) ≤ v := by omega
          have n2 : v < 17 := by omega
          have hwv : IntKind.i64.wrap v = v := IntWalk.i64_in _ (by omega)
          obtain ⟨W2, hW2⟩ : ∃ W2 : World, W2 = wr.setCell ⟨Q, v.toNat, none⟩ (.int .i64 E) := ⟨_, rfl⟩
          have hk2 : Kx (fun k => k = Q) wr W2 := by rw [hW2]; exact Kx.setCell (X := fun k => k = Q) (Kx.refl _ wr) (.inl rfl) _
          have HF : Hid (OwA W2 (w.heap.size + 1) Q 1 1 (bsL cs n v E 1) ∧ BoxN W2 w.heap.size 27 #[.slice none 0 0, .int .i64 0] ∧ Below w.heap.size w W2) := Lib.hid ⟨by
            have ha : ArrB W2 Q (ini v E) := by rw [hW2]; exact HO.out.set v.toNat _
            exact owns_mono (OwA.one ha (ini_len v E)) (by omega), hk2.box (by omega) HS.out, by rw [hW2]; exact HB.out.setCell (p := ⟨Q, v.toNat, none⟩) (by show w.heap.size ≤ Q; omega) _⟩
          go_upto_region 14 with fail
          rw [← hW2]
          clear hW2 g0 f0 hk2 HO HZ HB HS HLL
          go_loopw [14] (fun bv wr => ∃ (m q c : Nat), 1 ≤ m ∧ m ≤ h + 1 ∧ bv = .slice (some ⟨q, 0, none⟩) m c ∧ OwA wr (w.heap.size + 1) q m c (bsL cs n v E m) ∧ BoxN wr w.heap.size 27 #[.slice none 0 0, .int .i64 0] ∧ Below w.heap.size w wr) (fun bv _ => h + 1 - lenOf bv)
          case atStart => exact ⟨1, Q, 1, Nat.le_refl _, by omega, rfl, HF.out.1, HF.out.2.1, HF.out.2.2⟩
          case round =>
            clear HF
            rename World => wq
            obtain ⟨m, q, c, hm1, hmh, rfl, ho, hs, hb⟩ := hrel
            have HO := Lib.hid ho
            have HS := Lib.hid hs
            have HB := Lib.hid hb
            clear ho hs hb
            obtain ⟨k, rfl⟩ : ∃ k, m = k + 1 := ⟨m - 1, by omega⟩
            obtain ⟨LK, HLK⟩ : ∃ LK, Hid (bkL cs n v E k = LK) := ⟨_, Lib.hid rfl⟩
            have hbk := HBK.out k
            rw [HLK.out] at hbk
            have HBK1 := Lib.hid hbk
            have hat := HO.out.at k u.toNat (Nat.lt_succ_self k) (by omega) (L := LK) (by rw [bsL_at _ _ _ _ (Nat.lt_succ_self k), HLK.out]) hbk.1
            obtain ⟨z, hz⟩ : ∃ z, gI LK u = z := ⟨_, rfl⟩
            rw [← gI_to hbk.1 (by omega) (by omega), hz] at hat
            have hziff : t ≤ z ↔ gdP cs n v E k u t := by rw [← hz]; exact hbk.2.2 u t (by omega) ht
            have HZI := Lib.hid hziff
            have HZ := Lib.hid hz
            have n1 : (0 : Int) ≤ u := by omega
            have n2 : u < 17 := by omega
            have hwu : IntKind.i64.wrap u = u := IntWalk.i64_in _ (by omega)
            have hwm : IntKind.i64.wrap (((k + 1 : Nat) : Int) - 1) = (k : Int) := by rw [show ((k + 1 : Nat) : Int) - 1 = (k : Int) by omega]; exact IntWalk.i64_in _ (by omega)
            have k1 : (0 : Int) ≤ (k : Int) := by omega
            have k2 : (k : Int) < ((k + 1 : Nat) : Int) := by omega
            have hwk0 : IntKind.i64.wrap (k : Int) = (k : Int) := IntWalk.i64_in _ (by omega)
            clear hbk hz hziff
            by_cases hlt : z < t
            · have d3 : decide (z < t) = true := yb hlt
              have hkh : k < h := by
                refine Decidable.byContradiction fun hh => ?_
                have hk : k = h := by omega
                have := HZI.out.2 (by rw [hk]; exact HBEST.out.good)
                omega
              clear hlt
              have hLKl := HBK1.out.1
              have HI := Lib.hid (ar_info hLKl)
              have HRNG := Lib.hid (HO.out.range k (Nat.lt_succ_self k) (L := LK) (by rw [bsL_at _ _ _ _ (Nat.lt_succ_self k), HLK.out]) hLKl)
              obtain ⟨P1, HP1⟩ : ∃ P, Hid (wq.heap.size = P) := ⟨_, Lib.hid rfl⟩
              obtain ⟨W3, hW3⟩ : ∃ V : World, V = wq.alloc (.cells #[.int .i64 0, .int .i64 0, .int .i64 0, .int .i64 0, .int .i64 0, .int .i64 0, .int .i64 0, .int .i64 0, .int .i64 0, .int .i64 0, .int .i64 0, .int .i64 0, .int .i64 0, .int .i64 0, .int .i64 0, .int .i64 0, .int .i64 0] 63) := ⟨_, rfl⟩
              have ha3 : ArrB W3 P1 (List.replicate 17 0) := by rw [hW3, ← HP1.out]; exact ArrB.new wq
              have hb3 : Below wq.heap.size wq W3 := by rw [hW3]; exact (by repeat (first | assumption | exact Below.refl _ _ | apply Below.al | apply below_drewN | apply Below.drew | refine Below.next ?_ (by assumption)))
              have HTH := Lib.hid (ha3.there rep17 hLKl)
              obtain ⟨W4, hW4⟩ : ∃ V : World, V = W3.setCells P1 0 (ic .i64 LK) := ⟨_, rfl⟩
              have ha4 : ArrB W4 P1 LK := by rw [hW4]; exact ha3.all rep17 hLKl
              have hb4 : Below wq.heap.size wq W4 := by
                rw [hW4]
                have hk := Kx.setCells (X := fun k => k = P1) (Kx.of_below (Below.refl W3.heap.size W3)) (.inl rfl) 0 (ic .i64 LK)
                exact hb3.trans (hk.below hb3.size (fun k hk => by have hk : k = P1 := hk; have := HP1.out; omega))
              obtain ⟨P2, HP2⟩ : ∃ P, Hid (W4.heap.size = P) := ⟨_, Lib.hid rfl⟩
              obtain ⟨W5, hW5⟩ : ∃ V : World, V = W4.alloc (.cells #[.int .i64 0, .int .i64 0, .int .i64 0, .int .i64 0, .int .i64 0, .int .i64 0, .int .i64 0, .int .i64 0, .int .i64 0, .int .i64 0, .int .i64 0, .int .i64 0, .int .i64 0, .int .i64 0, .int .i64 0, .int .i64 0, .int .i64 0] 63) := ⟨_, rfl⟩
              have hb5 : Below W4.heap.size W4 W5 := by rw [hW5]; exact (by repeat (first | assumption | exact Below.refl _ _ | apply Below.al | apply below_drewN | apply Below.drew | refine Below.next ?_ (by assumption)))
              have HA1 := Lib.hid (ha4.below hb5)
              have HA2 : Hid (ArrB W5 P2 (List.replicate 17 0)) := Lib.hid (by rw [hW5, ← HP2.out]; exact ArrB.new W4)
              have HB5 := Lib.hid (Below.next hb4 hb5)
              have hP12 : P1 < P2 := by rw [← HP2.out]; exact ha4.lt
              have hP1w : wq.heap.size ≤ P1 := by rw [HP1.out]; exact Nat.le_refl _
              clear ha3 hb3 ha4 hb4 hb5
              go_upto_region 16 with (first | (refine wpList_load_mid rfl 63 (.tmp 78) rfl q (k * 17) rfl (ic .i64 LK) _ HRNG.out Try.underlying63 rfl HI.out ?_) | (refine wpList_plain rfl (fun K hK => ?_); rw [← hW3, HP1.out]; refine wp_store_mid 63 (.tmp 16) (.tmp 79) rfl P1 0 (ic .i64 LK).toArray rfl rfl HTH.out HI.out (ar_one LK) ?_; refine hK _ _ ?_) | fail)
              rw [← hW4]
              clear hW3 hW4 HTH HRNG hat
              go_upto_region 17 with fail
              rw [← hW5, HP2.out]
              clear hW5 HP2 HP1
              go_wp2_with fail
              go_loopw [80] (fun i wr => ∃ (j : Nat) (L : List Int), j ≤ 17 ∧ i = .int .i64 j ∧ ArrB wr P2 L ∧ L.length = 17 ∧ (∀ k, k < j → L.getD k 0 = -1) ∧ ArrB wr P1 LK ∧ Below wq.heap.size wq wr) (fun i _ => 17 - (intOf i).toNat)
              case atStart => exact ⟨0, _, Nat.zero_le _, rfl, HA2.out, rep17, (fun k hk => absurd hk (Nat.not_lt_zero _)), HA1.out, HB5.out⟩
              case round =>
                clear HA2 HA1 HB5
                rename World => wf
                obtain ⟨j2, L, hj, rfl, ho, hll, hz, hs, hb⟩ := hrel
                have HO3 := Lib.hid ho
                have HZ3 := Lib.hid hz
                have HB3 := Lib.hid hb
                have HS3 := Lib.hid hs
                have HLL := Lib.hid hll
                clear ho hz hb hs hll
                by_cases hlt : j2 < 17
                · have d4 : decide ((j2 : Int) < 17) = true := yb (by omega)
                  have g0 := HO3.out.at j2 (by rw [HLL.out]; exact hlt)
                  have f0 := HO3.out.fz j2
                  have m1 : (0 : Int) ≤ (j2 : Int) := by omega
                  have m2 : (j2 : Int) < 17 := by omega
                  have hwj : IntKind.i64.wrap (j2 : Int) = (j2 : Int) := IntWalk.i64_in _ (by omega)
                  have hwj1 : IntKind.i64.wrap ((j2 : Int) + 1) = (j2 : Int) + 1 := IntWalk.i64_in _ (by omega)
                  obtain ⟨W2, hW2⟩ : ∃ W2 : World, W2 = wf.setCell ⟨P2, j2, none⟩ (.int .i64 (-1)) := ⟨_, rfl⟩
                  have hk2 : Kx (fun k => k = P2) wf W2 := by rw [hW2]; exact Kx.setCell (X := fun k => k = P2) (Kx.refl _ wf) (.inl rfl) _
                  have HF : Hid (ArrB W2 P2 (L.set j2 (-1)) ∧ (L.set j2 (-1)).length = 17 ∧ (∀ k, k < j2 + 1 → (L.set j2 (-1)).getD k 0 = -1) ∧ ArrB W2 P1 LK ∧ Below wq.heap.size wq W2) := Lib.hid ⟨by rw [hW2]; exact HO3.out.set j2 _, by rw [List.length_set]; exact HLL.out, fun k hk => by
                    rw [getD_set _ _ _ _ (by rw [HLL.out]; exact hlt)]
                    split
                    · rfl
                    · exact HZ3.out k (by omega), HS3.out.kx hk2 (by omega), by rw [hW2]; exact HB3.out.setCell (p := ⟨P2, j2, none⟩) (by show wq.heap.size ≤ P2; omega) _⟩
                  go_upto_region 21 with fail
                  rw [← hW2]
                  clear hW2 g0 f0 hk2
                  go_wp2_with fail
                  go_roundw
                  case rel => exact ⟨j2 + 1, _, by omega, by go_num, HF.out.1, HF.out.2.1, HF.out.2.2.1, HF.out.2.2.2.1, HF.out.2.2.2.2⟩
                  case measure => simp [intOf]; omega
                · have d4 : decide ((j2 : Int) < 17) = false := nb (by omega)
                  have hL := all_rep HLL.out (fun k hk => HZ3.out k (by omega))
                  clear hlt hj
                  subst hL
                  clear HZ3 HLL
                  go_wp2_with fail
                  go_loopw [88] (fun iv wx => ∃ (i : Nat) (L : List Int), i ≤ N ∧ iv = .int .i64 i ∧ ArrB wx P2 L ∧ ArrB wx P1 LK ∧ Bin cs n v E k L i ∧ L = (cs.take i).foldl (bkR n LK) (List.replicate 17 (-1)) ∧ Below wq.heap.size wq wx) (fun iv _ => N - (intOf iv).toNat)
                  case atStart => exact ⟨0, _, Nat.zero_le _, rfl, HO3.out, HS3.out, bin_zero, rfl, HB3.out⟩
                  case round =>
                    clear HO3 HS3 HB3
                    rename World => wx
                    obtain ⟨i, L, hi, rfl, ho2, ho1, hbin, hfold, hb⟩ := hrel
                    have HO2 := Lib.hid ho2
                    have HO1 := Lib.hid ho1
                    have HBIN := Lib.hid hbin
                    have HFO := Lib.hid hfold
                    have HBX := Lib.hid hb
                    clear ho2 ho1 hbin hfold
                    by_cases hin : i < N
                    · have d5 : decide ((i : Int) < (N : Int)) = true := yb (by omega)
                      obtain ⟨bb, off, rfl, hc2, ca0, ca1, ca2, ca3, ca4, ca5⟩ := RdC.at ((HR.out.keep HB.out).keep hb) HN.out i hin
                      have hokj := HP.out.at (i := i) (by rw [HN.out]; exact hin)
                      have hbs := bin_step HP.out hn.1 HBK1.out HBIN.out (by rw [HN.out]; exact hin)
                      have hfs : bkR n LK L (cs.getD i c0) = (cs.take (i + 1)).foldl (bkR n LK) (List.replicate 17 (-1)) := by
                        rw [List.take_succ_eq_append_getElem (by rw [HN.out]; exact hin), List.foldl_append, ← HFO.out]
                        rw [List.getD_eq_getElem?_getD, List.getElem?_eq_getElem (by rw [HN.out]; exact hin)]
                        rfl
                      obtain ⟨cc, HCC⟩ : ∃ cc, Hid (cs.getD i c0 = cc) := ⟨_, Lib.hid rfl⟩
                      rw [HCC.out] at ca0 ca1 ca2 ca3 ca4 ca5 hokj hbs hfs
                      have hfr := hokj.1
                      have hdt := hokj.2.1
                      obtain ⟨zF, hzF⟩ : ∃ z, gI L cc.fr = z := ⟨_, rfl⟩
                      obtain ⟨zD, hzD⟩ : ∃ z, gI LK cc.dt = z := ⟨_, rfl⟩
                      have gF := HO2.out.at cc.fr.toNat (by rw [HBIN.out.len]; omega)
                      have gD := HO1.out.at cc.dt.toNat (by rw [HBK1.out.1]; omega)
                      have fF := HO2.out.fz cc.fr.toNat
                      rw [← gI_to HBIN.out.len (by omega) (by omega), hzF] at gF
                      rw [← gI_to HBK1.out.1 (by omega) (by omega), hzD] at gD
                      have hzDE : zD ≤ E := by rw [← hzD]; exact bk_le HP.out hn.1 hE0 HBK1.out (by omega)
                      have hzDm : -1 ≤ zD := by rw [← hzD]; exact HBK1.out.2.1 _ (by omega)
                      have HLAT := Lib.hid (fun w' => latest_any cc n zD hokj hn hzDm (by have := HEB.out; omega) w')
                      obtain ⟨lt, hltt⟩ : ∃ lt, lateT cc n zD = lt := ⟨_, rfl⟩
                      simp only [hltt] at HLAT
                      have hdef : bkR n LK L cc = L.set cc.fr.toNat (if zF < lt then lt else zF) := by
                        unfold bkR
                        rw [hzF, hzD, hltt]
                        congr 1
                        split <;> omega
                      rw [hdef] at hbs hfs
                      have HBS := Lib.hid hbs
                      have HFS := Lib.hid hfs
                      obtain ⟨W7, hW7⟩ : ∃ V : World, V = wx.alloc (.cells #[.int .i64 cc.fr, .int .i64 cc.dt, .int .i64 cc.st, .int .i64 cc.en, .int .i64 cc.rt, .int .i64 cc.dl] 52) := ⟨_, rfl⟩
                      have hb7 : Below wx.heap.size wx W7 := by rw [hW7]; exact (by repeat (first | assumption | exact Below.refl _ _ | apply Below.al | apply below_drewN | apply Below.drew | refine Below.next ?_ (by assumption)))
                      have hA7 : BC W7 wx.heap.size cc := by rw [hW7]; simp [BC, go_sem]
                      obtain ⟨e0, e1, e2, e3, e4, e5⟩ := hA7
                      have q1 : (0 : Int) ≤ (i : Int) := by omega
                      have q2 : (i : Int) < (N : Int) := by omega
                      have hwi : IntKind.i64.wrap (i : Int) = (i : Int) := IntWalk.i64_in _ (by have := HN.out; omega)
                      have hwi1 : IntKind.i64.wrap ((i : Int) + 1) = (i : Int) + 1 := IntWalk.i64_in _ (by have := HN.out; omega)
                      have F1 : (0 : Int) ≤ cc.fr := by omega
                      have F2 : cc.fr < 17 := by omega
                      have hwF : IntKind.i64.wrap cc.fr = cc.fr := IntWalk.i64_in _ (by omega)
                      have D1 : (0 : Int) ≤ cc.dt := by omega
                      have D2 : cc.dt < 17 := by omega
                      have hwD : IntKind.i64.wrap cc.dt = cc.dt := IntWalk.i64_in _ (by omega)
                      have gF7 := cell_later hb7 gF
                      have gD7 := cell_later hb7 gD
                      have HO27 := Lib.hid (HO2.out.below hb7)
                      have fF7 := HO27.out.fz cc.fr.toNat
                      have hP27 := cell_lt gF7
                      have HB7 := Lib.hid (Below.next hb hb7)
                      have HO17 := Lib.hid (HO1.out.below hb7)
                      clear hokj hbs hfs hdef hzF hzD hltt hb hb7 gF gD fF
                      go_upto_region 25 with fail
                      rw [← hW7]
                      clear hW7 ca0 ca1 ca2 ca3 ca4 ca5
                      refine wp_region_calm (fun w' => Below W7.heap.size W7 w') 15 (by kernel_rfl) ((Below.refl _ W7).drew) ?_
                      refine cm_run 0 92 (v := ?_) rfl rfl (by kernel_rfl) (by kernel_rfl) (by kernel_rfl) (by kernel_rfl) (by kernel_rfl) (fun _ _ _ h => h) (by rfl) ?_ ?_
                      rotate_left
                      · (intro wS hS; skip; go_simp; (try with_reducible rfl))
                      simp only [List.setIfInBounds_toArray, List.set_cons_zero, List.set_cons_succ]
                      refine cm_run 1 93 (v := ?_) rfl rfl (by kernel_rfl) (by kernel_rfl) (by kernel_rfl) (by kernel_rfl) (by kernel_rfl) (fun _ _ _ h => h) (by rfl) ?_ ?_
                      rotate_left
                      · (intro wS hS; have j0 := cell_later hS e0; go_simp; (try with_reducible rfl))
                      simp only [List.setIfInBounds_toArray, List.set_cons_zero, List.set_cons_succ]
                      refine cm_run 2 94 (v := ?_) rfl rfl (by kernel_rfl) (by kernel_rfl) (by kernel_rfl) (by kernel_rfl) (by kernel_rfl) (fun _ _ _ h => h) (by rfl) ?_ ?_
                      rotate_left
                      · (intro wS hS; skip; go_simp; (try with_reducible rfl))
                      simp only [List.setIfInBounds_toArray, List.set_cons_zero, List.set_cons_succ]
                      refine cm_run 3 95 (v := ?_) rfl rfl (by kernel_rfl) (by kernel_rfl) (by kernel_rfl) (by kernel_rfl) (by kernel_rfl) (fun _ _ _ h => h) (by rfl) ?_ ?_
                      rotate_left
                      · (intro wS hS; have j0 := cell_later hS e0; go_simp; (try with_reducible rfl))
                      simp only [List.setIfInBounds_toArray, List.set_cons_zero, List.set_cons_succ]
                      refine cm_run 4 96 (v := ?_) rfl rfl (by kernel_rfl) (by kernel_rfl) (by kernel_rfl) (by kernel_rfl) (by kernel_rfl) (fun _ _ _ h => h) (by rfl) ?_ ?_
                      rotate_left
                      · (intro wS hS; skip; go_simp; (try with_reducible rfl))
                      simp only [List.setIfInBounds_toArray, List.set_cons_zero, List.set_cons_succ]
                      refine cm_run 5 97 (v := ?_) rfl rfl (by kernel_rfl) (by kernel_rfl) (by kernel_rfl) (by kernel_rfl) (by kernel_rfl) (fun _ _ _ h => h) (by rfl) ?_ ?_
                      rotate_left
                      · (intro wS hS; have j0 := cell_later hS gF7; go_simp; (try with_reducible rfl))
                      simp only [List.setIfInBounds_toArray, List.set_cons_zero, List.set_cons_succ]
                      refine cm_run 6 98 (v := .agg #[.int .i64 cc.fr, .int .i64 cc.dt, .int .i64 cc.st, .int .i64 cc.en, .int .i64 cc.rt, .int .i64 cc.dl]) rfl rfl (by kernel_rfl) (by kernel_rfl) (by kernel_rfl) (by kernel_rfl) (by kernel_rfl) (fun _ _ _ h => h) (by rfl) ?_ ?_
                      · (intro wS hS; (have j0 := cell_later hS e0; have j1 := cell_later hS e1; have j2 := cell_later hS e2; have j3 := cell_later hS e3; have j4 := cell_later hS e4; have j5 := cell_later hS e5); go_simp; (try with_reducible rfl))
                      simp only [List.setIfInBounds_toArray, List.set_cons_zero, List.set_cons_succ]
                      refine cm_run 7 99 (v := ?_) rfl rfl (by kernel_rfl) (by kernel_rfl) (by kernel_rfl) (by kernel_rfl) (by kernel_rfl) (fun _ _ _ h => h) (by rfl) ?_ ?_
                      rotate_left
                      · (intro wS hS; skip; go_simp; (try with_reducible rfl))
                      simp only [List.setIfInBounds_toArray, List.set_cons_zero, List.set_cons_succ]
                      refine cm_run 8 100 (v := ?_) rfl rfl (by kernel_rfl) (by kernel_rfl) (by kernel_rfl) (by kernel_rfl) (by kernel_rfl) (fun _ _ _ h => h) (by rfl) ?_ ?_
                      rotate_left
                      · (intro wS hS; skip; go_simp; (try with_reducible rfl))
                      simp only [List.setIfInBounds_toArray, List.set_cons_zero, List.set_cons_succ]
                      refine cm_run 9 101 (v := ?_) rfl rfl (by kernel_rfl) (by kernel_rfl) (by kernel_rfl) (by kernel_rfl) (by kernel_rfl) (fun _ _ _ h => h) (by rfl) ?_ ?_
                      rotate_left
                      · (intro wS hS; have j0 := cell_later hS e1; go_simp; (try with_reducible rfl))
                      simp only [List.setIfInBounds_toArray, List.set_cons_zero, List.set_cons_succ]
                      refine cm_run 10 102 (v := ?_) rfl rfl (by kernel_rfl) (by kernel_rfl) (by kernel_rfl) (by kernel_rfl) (by kernel_rfl) (fun _ _ _ h => h) (by rfl) ?_ ?_
                      rotate_left
                      · (intro wS hS; skip; go_simp; (try with_reducible rfl))
                      simp only [List.setIfInBounds_toArray, List.set_cons_zero, List.set_cons_succ]
                      refine cm_run 11 103 (v := ?_) rfl rfl (by kernel_rfl) (by kernel_rfl) (by kernel_rfl) (by kernel_rfl) (by kernel_rfl) (fun _ _ _ h => h) (by rfl) ?_ ?_
                      rotate_left
                      · (intro wS hS; have j0 := cell_later hS gD7; go_simp; (try with_reducible rfl))
                      simp only [List.setIfInBounds_toArray, List.set_cons_zero, List.set_cons_succ]
                      refine cm_call 12 104 38 (v := .int .i64 lt) (args := ?_) rfl rfl (by kernel_rfl) (by kernel_rfl) (by kernel_rfl) (by kernel_rfl) (by kernel_rfl) (fun _ _ _ h => h) (by rfl) ?_ ?_ ?_
                      rotate_left 1
                      · (intro wS hS; go_simp; (try with_reducible rfl))
                      · (intro wS hS; refine (HLAT.out _).mono ?_; (rintro e w2 ⟨rfl, hb⟩; exact ⟨rfl, Below.next hS hb⟩))
                      simp only [List.setIfInBounds_toArray, List.set_cons_zero, List.set_cons_succ]
                      refine cm_run 13 105 (v := ?_) rfl rfl (by kernel_rfl) (by kernel_rfl) (by kernel_rfl) (by kernel_rfl) (by kernel_rfl) (fun _ _ _ h => h) (by rfl) ?_ ?_
                      rotate_left
                      · (intro wS hS; skip; go_simp; (try with_reducible rfl))
                      simp only [List.setIfInBounds_toArray, List.set_cons_zero, List.set_cons_succ]
                      refine cm_run 14 106 (v := ?_) rfl rfl (by kernel_rfl) (by kernel_rfl) (by kernel_rfl) (by kernel_rfl) (by kernel_rfl) (fun _ _ _ h => h) (by rfl) ?_ ?_
                      rotate_left
                      · (intro wS hS; skip; go_simp; (try with_reducible rfl))
                      simp only [List.setIfInBounds_toArray, List.set_cons_zero, List.set_cons_succ]
                      refine cm_tail 15 rfl (by kernel_rfl) (by kernel_rfl) (by kernel_rfl) (by rfl) ?_
                      intro wS hS K hK
                      have gx := cell_later hS gF7; have fx := fz_later hS hP27 fF7
                      go_simp
                      refine hK _ _ ?_
                      clear hK K
                      refine NoPanic.normal ?_
                      obtain ⟨W8, hW8⟩ : ∃ V : World, V = wS.setCell ⟨P2, cc.fr.toNat, none⟩ (.int .i64 (if zF < lt then lt else zF)) := ⟨_, rfl⟩
                      have hk8 : Kx (fun k => k = P2) wS W8 := by rw [hW8]; exact Kx.setCell (X := fun k => k = P2) (Kx.refl _ wS) (.inl rfl) _
                      have HF8 : Hid (ArrB W8 P2 (L.set cc.fr.toNat (if zF < lt then lt else zF)) ∧ ArrB W8 P1 LK ∧ Below wq.heap.size wq W8) := Lib.hid ⟨by rw [hW8]; exact (HO27.out.below hS).set _ _, (HO17.out.below hS).kx hk8 (by omega), by rw [hW8]; exact (Below.next HB7.out hS).setCell (p := ⟨P2, cc.fr.toNat, none⟩) (by show wq.heap.size ≤ P2; omega) _⟩
                      rw [← hW8]
                      clear hW8 hk8 hS gx fx gF7 gD7 fF7 e0 e1 e2 e3 e4 e5 HLAT hP27
                      go_wp2_with fail
                      go_roundw
                      case rel => exact ⟨i + 1, _, by omega, by go_num, HF8.out.1, HF8.out.2.1, HBS.out, HFS.out, HF8.out.2.2⟩
                      case measure => simp [intOf]; omega
                    · obtain rfl : i = N := by omega
                      have d5 : decide ((i : Int) < (i : Int)) = false := nb (by omega)
                      have hLN : L = bkL cs n v E (k + 1) := by
                        rw [HFO.out, List.take_of_length_le (by rw [HN.out]; exact Nat.le_refl _)]
                        show _ = cs.foldl (bkR n (bkL cs n v E k)) (List.replicate 17 (-1))
                        rw [HLK.out]
                      have hLl : L.length = 17 := HBIN.out.len
                      obtain ⟨a0, a1, a2, a3, a4, a5, a6, a7, a8, a9, a10, a11, a12, a13, a14, a15, a16, rfl⟩ := list17 hLl
                      have HLN := Lib.hid hLN
                      clear hLN
                      have HI2 := Lib.hid (ar_info hLl)
                      have HRNG := Lib.hid HO2.out.range
                      obtain ⟨W9, hW9⟩ : ∃ V : World, V = wx.alloc (.cells #[.int .i64 a0, .int .i64 a1, .int .i64 a2, .int .i64 a3, .int .i64 a4, .int .i64 a5, .int .i64 a6, .int .i64 a7, .int .i64 a8, .int .i64 a9, .int .i64 a10, .int .i64 a11, .int .i64 a12, .int .i64 a13, .int .i64 a14, .int .i64 a15, .int .i64 a16] 63) := ⟨_, rfl⟩
                      have hb9 : Below wx.heap.size wx W9 := by rw [hW9]; exact (by repeat (first | assumption | exact Below.refl _ _ | apply Below.al | apply below_drewN | apply Below.drew | refine Below.next ?_ (by assumption)))
                      have HO9 := Lib.hid (own_keep (Below.next hb hb9) HO.out)
                      have hone : RdS W9 17 (.slice (some ⟨wx.heap.size, 0, none⟩) 1 1) 1 (ic .i64 [a0, a1, a2, a3, a4, a5, a6, a7, a8, a9, a10, a11, a12, a13, a14, a15, a16]) := by
                        rw [hW9]
                        have := OwA.one (w := wx.alloc (.cells (ic .i64 [a0, a1, a2, a3, a4, a5, a6, a7, a8, a9, a10, a11, a12, a13, a14, a15, a16]).toArray 63)) (q := wx.heap.size) (L := [a0, a1, a2, a3, a4, a5, a6, a7, a8, a9, a10, a11, a12, a13, a14, a15, a16]) (heap_last wx _) rfl
                        have := RdS.of_owns this (by decide)
                        rw [show rcs arR [[a0, a1, a2, a3, a4, a5, a6, a7, a8, a9, a10, a11, a12, a13, a14, a15, a16]] = ic .i64 [a0, a1, a2, a3, a4, a5, a6, a7, a8, a9, a10, a11, a12, a13, a14, a15, a16] by simp [rcs, arR_ic (L := [a0, a1, a2, a3, a4, a5, a6, a7, a8, a9, a10, a11, a12, a13, a14, a15, a16]) rfl]] at this
                        exact this
                      have HONE := Lib.hid hone
                      have HB9 := Lib.hid (Below.next (Below.next HB.out hb) hb9)
                      have HS9 := Lib.hid ((HS.out.below hb).below hb9)
                      clear hb hb9 hone
                      go_upto_region 27 with fail
                      go_upto_region 14 with (first | (refine wpList_load_mid rfl 63 (.tmp 17) rfl P2 0 rfl [.int .i64 a0, .int .i64 a1, .int .i64 a2, .int .i64 a3, .int .i64 a4, .int .i64 a5, .int .i64 a6, .int .i64 a7, .int .i64 a8, .int .i64 a9, .int .i64 a10, .int .i64 a11, .int .i64 a12, .int .i64 a13, .int .i64 a14, .int .i64 a15, .int .i64 a16] _ HRNG.out Try.underlying63 rfl HI2.out ?_) | (at_builtin; rw [← hW9]; refine wpList_app rfl (.tmp 108) (.tmp 110) 65 rfl (w.heap.size + 1) 63 (.agg #[.int .i64 0, .int .i64 0, .int .i64 0, .int .i64 0, .int .i64 0, .int .i64 0, .int .i64 0, .int .i64 0, .int .i64 0, .int .i64 0, .int .i64 0, .int .i64 0, .int .i64 0, .int .i64 0, .int .i64 0, .int .i64 0, .int .i64 0]) 17 136 E65 _ (k + 1) (rcs arR (bsL cs n v E (k + 1))) rfl HO9.out _ 1 (ic .i64 [a0, a1, a2, a3, a4, a5, a6, a7, a8, a9, a10, a11, a12, a13, a14, a15, a16]) rfl HONE.out (ic_one _ _) ?c1 ?c2 ?c3 ?c4) | fail)
                      case c1 => unfold maxLen; omega
                      case c2 => omega
                      case c3 => have := HB9.out.size; have := HS9.out.lt; omega
                      case c4 =>
                        intro a' c' w10 hown10 hg10 hb10
                        obtain ⟨q', rfl⟩ := own_addr hown10 (by omega)
                        try rw [← hW9] at hb10
                        have hrc : rcs arR (bsL cs n v E (k + 1 + 1)) = rcs arR (bsL cs n v E (k + 1)) ++ ic .i64 [a0, a1, a2, a3, a4, a5, a6, a7, a8, a9, a10, a11, a12, a13, a14, a15, a16] := by
                          rw [bsL_succ, rcs_append, ← HLN.out]
                          congr 1
                          try simp [rcs, arR_ic (L := [a0, a1, a2, a3, a4, a5, a6, a7, a8, a9, a10, a11, a12, a13, a14, a15, a16]) rfl]
                        have HF10 : Hid (OwA w10 (w.heap.size + 1) q' (k + 1 + 1) c' (bsL cs n v E (k + 1 + 1)) ∧ BoxN w10 w.heap.size 27 #[.slice none 0 0, .int .i64 0] ∧ Below w.heap.size w w10) := Lib.hid ⟨by
                          unfold OwA
                          rw [hrc]
                          exact hown10, (hb10.block w.heap.size (Nat.lt_succ_self _)).trans HS9.out, HB9.out.trans (hb10.mono (Nat.le_succ _))⟩
                        clear hown10 hg10 hb10 hrc hW9 hLl
                        go_wp2_with fail
                        go_roundw
                        case rel => exact ⟨k + 1 + 1, q', c', by omega, by omega, rfl, HF10.out.1, HF10.out.2.1, HF10.out.2.2⟩
                        case measure => simp [lenOf]; omega
            · have d3 : decide (z < t) = false := nb hlt
              have hkh : k = h := by
                have hg := HZI.out.1 (by omega)
                refine Decidable.byContradiction fun hh => HBEST.out.few k (by omega) hg
              clear hlt
              have HKH := Lib.hid hkh
              obtain ⟨P, HPp⟩ : ∃ P, Hid (wq.heap.size = P) := ⟨_, Lib.hid rfl⟩
              obtain ⟨W6, hW6⟩ : ∃ V : World, V = wq.alloc (.cells #[.slice none 0 0, .int .i64 t] 27) := ⟨_, rfl⟩
              have hb6 : Below wq.heap.size wq W6 := by rw [hW6]; exact (by repeat (first | assumption | exact Below.refl _ _ | apply Below.al | apply below_drewN | apply Below.drew | refine Below.next ?_ (by assumption)))
              have HM6 : Hid (MdB w W6 P t (.slice none 0 0) []) := Lib.hid ⟨by rw [hW6, ← HPp.out]; exact BoxN.new wq _ _, ⟨rfl, .inl ⟨rfl, rfl⟩⟩, HS.out.below hb6, Below.next HB.out hb6, by rw [← HPp.out]; exact HS.out.lt⟩
              have HO6 := Lib.hid (HO.out.keep hb6)
              have hqP : ∀ kk, (Value.slice (some ⟨q, 0, none⟩) (k + 1) c).ownBlock = some kk → kk < P := fun kk hk => by
                have := (World.ownsRow.lt HO.out kk hk).2
                rw [← HPp.out]; exact this
              have HQP := Lib.hid hqP
              have hwk2 : IntKind.i64.wrap (((k + 1 : Nat) : Int) - 2) = (k : Int) - 1 := by rw [show ((k + 1 : Nat) : Int) - 2 = (k : Int) - 1 by omega]; exact IntWalk.i64_in _ (by omega)
              clear hb6 hqP hkh
              go_upto_region 29 with fail
              rw [← hW6, HPp.out]
              clear hW6 HPp
              go_wp2_with fail
              go_step3
              go_upto_region 31 with fail
              go_loopw [22, 23] (fun xv kv wr => ∃ (j : Nat) (x s kz : Int) (m' rest : List Nat) (cv : Value), kv = .int .i64 kz ∧ kz = (j : Int) - 1 ∧ xv = .int .i64 x ∧ m'.length + j = h ∧ l = m' ++ rest ∧ walkP cs n m' u t = some (x, s) ∧ gdP cs n v E j x s ∧ Grd cs n v E j x s rest ∧ MdB w wr P s cv (ints m') ∧ Below P W6 wr) (fun _ kv _ => (intOf kv + 1).toNat)
              case atStart => exact ⟨h, u, t, _, [], l, _, rfl, by have := HKH.out; omega, rfl, by simp, rfl, rfl, HBEST.out.good, HBEST.out.grd, HM6.out, Below.refl _ _⟩
              case round =>
                clear HM6
                rename World => wr
                obtain ⟨j, x, s, kz, m', rest, cv, rfl, hkz, rfl, hmk, hlm, hwm, hgd, hgr, hmd, hbl⟩ := hrel
                have HMD := Lib.hid hmd
                have HLM := Lib.hid hlm
                have HWM := Lib.hid hwm
                have HBL := Lib.hid hbl
                have hx : 1 ≤ x ∧ x ≤ 16 := walk_node HP.out _ _ _ _ _ hu hwm
                have hs0 : 0 ≤ s := by have := walk_le HP.out hn.1 _ _ _ _ _ hwm; omega
                clear hmd hlm hwm hbl
                cases j with
                | zero =>
                  have hre : rest = [] := hgr
                  subst hre
                  have hlm2 : l = m' := by have := HLM.out; simpa using this
                  have hsE : s = E := by
                    have h1 := HBEST.out.walk
                    rw [hlm2, HWM.out] at h1
                    simp only [Option.some.injEq, Prod.mk.injEq] at h1
                    exact h1.2
                  obtain rfl : kz = -1 := by omega
                  subst hsE
                  obtain ⟨ca9, cc9, hcv⟩ := owns_form HMD.out.row
                  obtain ⟨ML, hML⟩ : ∃ ML, (ints m').length = ML := ⟨_, rfl⟩
                  rw [hML] at hcv
                  subst hcv
                  clear hML
                  have HRES := Lib.hid HMD.out.res
                  have HBOX := Lib.hid HMD.out.box
                  have z0 := HRES.out.frozen 0
                  have z1 := HRES.out.frozen 1
                  have t0 : wr.cell? ⟨w.heap.size, 0, none⟩ = some (.slice none 0 0) := HRES.out.cell 0
                  have t1 : wr.cell? ⟨w.heap.size, 1, none⟩ = some (.int .i64 0) := HRES.out.cell 1
                  have r0 : wr.cell? ⟨P, 0, none⟩ = some (.slice ca9 ML cc9) := HBOX.out.cell 0
                  have r1 : wr.cell? ⟨P, 1, none⟩ = some (.int .i64 s) := HBOX.out.cell 1
                  have hge := HMD.out.ge
                  have HFIN : Hid (RtF ((wr.setCell ⟨w.heap.size, 0, none⟩ (.slice ca9 ML cc9)).setCell ⟨w.heap.size, 1, none⟩ (.int .i64 s)) (w.heap.size + 1) (.agg #[.slice ca9 ML cc9, .int .i64 s]) arr (ints l) ∧ Below w.heap.size w ((wr.setCell ⟨w.heap.size, 0, none⟩ (.slice ca9 ML cc9)).setCell ⟨w.heap.size, 1, none⟩ (.int .i64 s))) := Lib.hid ⟨⟨_, by rw [HARR.out], by
                    rw [hlm2]
                    exact own_set (own_set (owns_mono HMD.out.row (by omega)) (Nat.lt_succ_self _) _) (Nat.lt_succ_self _) _⟩, (HMD.out.bel.setCell (p := ⟨w.heap.size, 0, none⟩) (Nat.le_refl _) _).setCell (p := ⟨w.heap.size, 1, none⟩) (Nat.le_refl _) _⟩
                  clear hgd hgr hmk hlm2 hx hs0 hkz
                  go_wp2_with fail
                  rw [Exit.noGoto_ret]
                  refine bodyPost_ret (v := .tuple #[.agg #[.slice ca9 ML cc9, .int .i64 s], .int .i64 0]) (by simp [results, Try.results12, go_sem, t0, t1]) rfl ⟨⟨_, rfl, HFIN.out.1⟩, HFIN.out.2⟩
                | succ j =>
                  obtain rfl : kz = (j : Int) := by omega
                  obtain ⟨i0, rest', s1, hre, hi0, hf0, hh0, hg0, hfirst, hgr'⟩ := hgr
                  subst hre
                  have d4 : decide ((j : Int) ≥ 0) = true := yb (by omega)
                  have hwj1 : IntKind.i64.wrap ((j : Int) - 1) = (j : Int) - 1 := IntWalk.i64_in _ (by omega)
                  have HFST := Lib.hid hfirst
                  have HFIT : Hid (gdP cs n v E j (cs.getD i0 c0).dt s1 ∧ Grd cs n v E j (cs.getD i0 c0).dt s1 rest' ∧ hopO (cs.getD i0 c0) s n = some s1 ∧ (cs.getD i0 c0).fr = x) := Lib.hid ⟨hg0, hgr', hh0, hf0⟩
                  have hi0N : i0 < N := by rw [← HN.out]; exact hi0
                  have HMK := Lib.hid hmk
                  have hjk : j < k + 1 := by have := HKH.out; omega
                  obtain ⟨LJ, HLJ⟩ : ∃ LJ, Hid (bkL cs n v E j = LJ) := ⟨_, Lib.hid rfl⟩
                  have hbj := HBK.out j
                  rw [HLJ.out] at hbj
                  have HBJ := Lib.hid hbj
                  have j1 : (0 : Int) ≤ (j : Int) := by omega
                  have j2 : (j : Int) < ((k + 1 : Nat) : Int) := by omega
                  have hwj : IntKind.i64.wrap (j : Int) = (j : Int) := IntWalk.i64_in _ (by omega)
                  clear hgd hfirst hg0 hgr' hh0 hf0 hi0 hmk hkz hbj
                  go_wp2_with fail
                  go_loopw [22, 124] (fun xv iv wx => ∃ i : Nat, i ≤ i0 ∧ xv = .int .i64 x ∧ iv = .int .i64 i ∧ Below wr.heap.size wr wx) (fun _ iv _ => i0 + 1 - (intOf iv).toNat)
                  case atStart => exact ⟨0, Nat.zero_le _, rfl, rfl, Below.refl _ _⟩
                  case round =>
                    rename World => wx
                    obtain ⟨i, hi, rfl, rfl, hb⟩ := hrel
                    have HBX := Lib.hid hb
                    have d5 : decide ((i : Int) < (N : Int)) = true := yb (by omega)
                    obtain ⟨bb, off, rfl, hc2, ca0, ca1, ca2, ca3, ca4, ca5⟩ := RdC.at ((HR.out.keep HMD.out.bel).keep hb) HN.out i (by omega)
                    have hokj := HP.out.at (i := i) (by rw [HN.out]; omega)
                    obtain ⟨cc, HCC⟩ : ∃ cc, Hid (cs.getD i c0 = cc) := ⟨_, Lib.hid rfl⟩
                    rw [HCC.out] at ca0 ca1 ca2 ca3 ca4 ca5 hokj
                    have HOV := Lib.hid (fun w' => hop_any cc s n hokj hs0 hn w')
                    obtain ⟨r, HRr⟩ : ∃ r, Hid (hopO cc s n = r) := ⟨_, Lib.hid rfl⟩
                    have hdt := hokj.2.1
                    have q1 : (0 : Int) ≤ (i : Int) := by omega
                    have q2 : (i : Int) < (N : Int) := by omega
                    have hwi : IntKind.i64.wrap (i : Int) = (i : Int) := IntWalk.i64_in _ (by have := HN.out; omega)
                    have hwi1 : IntKind.i64.wrap ((i : Int) + 1) = (i : Int) + 1 := IntWalk.i64_in _ (by have := HN.out; omega)
                    have hpos := fun s' (hs' : hopO cc s n = some s') => (hop_gt hokj hn.1 hs').2
                    rw [HRr.out] at hpos
                    obtain ⟨W7, hW7⟩ : ∃ V : World, V = wx.alloc (.cells #[.int .i64 cc.fr, .int .i64 cc.dt, .int .i64 cc.st, .int .i64 cc.en, .int .i64 cc.rt, .int .i64 cc.dl] 52) := ⟨_, rfl⟩
                    have hb7 : Below wx.heap.size wx W7 := by rw [hW7]; exact (by repeat (first | assumption | exact Below.refl _ _ | apply Below.al | apply below_drewN | apply Below.drew | refine Below.next ?_ (by assumption)))
                    have hA7 : BC W7 wx.heap.size cc := by rw [hW7]; simp [BC, go_sem]
                    have HB7 := Lib.hid (Below.next hb hb7)
                    have hM7 := HMD.out.keep HB7.out
                    have r1 : W7.cell? ⟨P, 1, none⟩ = some (.int .i64 s) := hM7.box.cell 1
                    clear hokj hb hb7 hM7
                    go_upto_region 36 with fail
                    rw [← hW7]
                    clear hW7 ca0 ca1 ca2 ca3 ca4 ca5
                    by_cases hfr : cc.fr = x
                    · have d6 : (cc.fr != x) = false := by simp [hfr]
                      have HFR := Lib.hid hfr
                      clear hfr
                      go_wp2_with fail
                      refine (HOV.out _).mono ?_
                      rintro e w8 ⟨x9, rfl, hx9, hb8⟩
                      rw [HRr.out] at hx9 ⊢
                      have HB8 := Lib.hid (Below.next HB7.out hb8)
                      have e1 := cell_later hb8 hA7.2.1
                      clear hb8 hA7 r1
                      cases r with
                      | none =>
                        have hne : i ≠ i0 := fun hh => by
                          subst hh
                          have h2 := HFIT.out.2.2.1
                          rw [HCC.out, HRr.out] at h2
                          cases h2
                        clear hx9 hpos
                        go_upto_region 38 with fail
                        go_quiet (fail)
                        go_upto_region 41 with fail
                        refine wp_drewN ?_
                        intro wS hS
                        have HBS := Lib.hid (Below.next HB8.out hS)
                        clear hS e1
                        go_wp2_with fail
                        go_roundw
                        case rel => exact ⟨i + 1, by omega, rfl, by go_num, HBS.out⟩
                        case measure => simp [intOf]; omega
                      | some s2 =>
                        obtain rfl := hx9 s2 rfl
                        have hs2 := hpos x9 rfl
                        obtain ⟨z9, HZ9⟩ : ∃ z9, Hid (gI LJ cc.dt = z9) := ⟨_, Lib.hid rfl⟩
                        have hO8 := own_lt HO6.out (HBL.out.trans (HB8.out.mono (Nat.le_of_lt HMD.out.box.lt))) HQP.out
                        have gD := OwA.at hO8 j cc.dt.toNat hjk (by omega) (L := LJ) (by rw [bsL_at _ _ _ _ hjk, HLJ.out]) HBJ.out.1
                        rw [← gI_to HBJ.out.1 (by omega) (by omega), HZ9.out] at gD
                        have hiff : x9 ≤ z9 ↔ gdP cs n v E j cc.dt x9 := by rw [← HZ9.out]; exact HBJ.out.2.2 _ _ (by omega) (by omega)
                        have D1 : (0 : Int) ≤ cc.dt := by omega
                        have D2 : cc.dt < 17 := by omega
                        have hwD : IntKind.i64.wrap cc.dt = cc.dt := IntWalk.i64_in _ (by omega)
                        clear hx9 hpos hO8
                        by_cases hle : x9 ≤ z9
                        · have d7 : decide (x9 ≤ z9) = true := yb hle
                          have hgo := hiff.1 hle
                          have hio : i = i0 := by
                            refine Decidable.byContradiction fun hne => HFST.out i (by omega) ⟨by rw [HCC.out]; exact HFR.out, x9, by rw [HCC.out]; exact HRr.out, by rw [HCC.out]; exact hgo⟩
                          have hse : s1 = x9 := by
                            have h2 := HFIT.out.2.2.1
                            rw [← hio, HCC.out, HRr.out] at h2
                            simpa using h2.symm
                          have hfin : Grd cs n v E j cc.dt x9 rest' := by
                            have h2 := HFIT.out.2.1
                            rw [← hio, HCC.out, hse] at h2
                            exact h2
                          have hwf : walkP cs n (m' ++ [i]) u t = some (cc.dt, x9) := by
                            have := walk_snoc HWM.out (i := i) (by rw [HN.out]; omega) (by rw [HCC.out]; exact HFR.out) (by rw [HCC.out]; exact HRr.out)
                            rwa [HCC.out] at this
                          have HGO := Lib.hid hgo
                          have HFIN := Lib.hid hfin
                          have HWF := Lib.hid hwf
                          have HLF : Hid (l = (m' ++ [i]) ++ rest') := Lib.hid (by rw [HLM.out, ← hio]; simp)
                          clear hle hgo hio hse hfin hwf hiff
                          go_upto_region 38 with fail
                          go_quiet (fail)
                          go_upto_region 39 with fail
                          refine wp_drewN ?_
                          intro wS hS
                          have HBS := Lib.hid (Below.next HB8.out hS)
                          have e1 := cell_later hS e1
                          clear hS gD
                          have HM6 := Lib.hid (HMD.out.keep HBS.out)
                          have hbx6 : BoxN wS P 27 #[cv, .int .i64 s] := HM6.out.box
                          have r0 : wS.cell? ⟨P, 0, none⟩ = some cv := hbx6.cell 0
                          have hone : RdS (wS.alloc (.cells #[.int .i64 (i : Int)] 3)) 1 (.slice (some ⟨wS.heap.size, 0, none⟩) 1 1) 1 [.int .i64 (i : Int)] := RdI.one wS (i : Int)
                          have hrow : (wS.alloc (.cells #[.int .i64 (i : Int)] 3)).ownsRow (P + 1) 3 1 cv m'.length (ic .i64 (ints m')) := by
                            have := own_keep ((by repeat (first | assumption | exact Below.refl _ _ | apply Below.al | apply below_drewN | apply Below.drew | refine Below.next ?_ (by assumption))) : Below wS.heap.size wS (wS.alloc (.cells #[.int .i64 (i : Int)] 3))) HM6.out.row
                            rwa [show (ints m').length = m'.length by simp [ints]] at this
                          have hml : m'.length ≤ 16 := by have := HMK.out; omega
                          have hsz6 : P < wS.heap.size := hbx6.lt
                          have HBLS := Lib.hid (HBL.out.trans (HBS.out.mono (Nat.le_of_lt HMD.out.box.lt)))
                          go_upto_region 40 with (at_builtin; refine wpList_app rfl (.tmp 154) (.tmp 156) 25 rfl (P + 1) 3 (.int .i64 0) 1 8 E25 cv m'.length (ic .i64 (ints m')) rfl hrow _ 1 [.int .i64 (i : Int)] rfl hone (ic_one .i64 [(i : Int)]) ?c1 ?c2 ?c3 ?c4)
                          case c1 => unfold maxLen; omega
                          case c2 => omega
                          case c3 => simp; omega
                          case c4 =>
                            intro a' c' w9 hown9 hg9 hb9
                            have hln : (ints (m' ++ [i])).length = m'.length + 1 := by simp [ints]
                            have hown10 : w9.ownsRow (P + 1) 3 1 (.slice a' (m'.length + 1) c') (ints (m' ++ [i])).length (ic .i64 (ints (m' ++ [i]))) := by
                              rw [hln, ints_app, ic_append]
                              exact hown9
                            have hMa := HM6.out.keep ((by repeat (first | assumption | exact Below.refl _ _ | apply Below.al | apply below_drewN | apply Below.drew | refine Below.next ?_ (by assumption))) : Below wS.heap.size wS (wS.alloc (.cells #[.int .i64 (i : Int)] 3)))
                            have hbx9 : BoxN w9 P 27 #[cv, .int .i64 s] := (hb9.block P (by omega)).trans hMa.box
                            have z9' := hbx9.frozen 0
                            have r9 : w9.cell? ⟨P, 0, none⟩ = some cv := hbx9.cell 0
                            obtain ⟨W10, hW10⟩ : ∃ V : World, V = w9.setCell ⟨P, 0, none⟩ (.slice a' (m'.length + 1) c') := ⟨_, rfl⟩
                            have HM10 : Hid (MdB w W10 P s (.slice a' (m'.length + 1) c') (ints (m' ++ [i]))) := Lib.hid (by rw [hW10]; exact hMa.app hb9 hown10)
                            have HBL10 : Hid (Below P W6 W10) := Lib.hid (by
                              rw [hW10]
                              have h1 : Below P W6 (wS.alloc (.cells #[.int .i64 (i : Int)] 3)) := HBLS.out.trans (((by repeat (first | assumption | exact Below.refl _ _ | apply Below.al | apply below_drewN | apply Below.drew | refine Below.next ?_ (by assumption))) : Below wS.heap.size wS (wS.alloc (.cells #[.int .i64 (i : Int)] 3))).mono (by omega))
                              exact (h1.trans (hb9.mono (Nat.le_succ _))).setCell (p := ⟨P, 0, none⟩) (Nat.le_refl _) _)
                            have hrow10 := HM10.out.row
                            have hk10 : Kx (fun k => k = P) w9 W10 := by rw [hW10]; exact Kx.setCell (X := fun k => k = P) (Kx.refl _ w9) (.inl rfl) _
                            have e10 : W10.cell? ⟨wx.heap.size, 1, none⟩ = some (.int .i64 cc.dt) := by
                              have hne9 : some wx.heap.size ≠ cv.ownBlock := fun he => by
                                have h1 := (HMD.out.row.lt _ he.symm).2
                                have h2 := HBX.out.size
                                omega
                              have hl1 : wx.heap.size < wS.heap.size := cell_lt e1
                              have hx9 := hg9.block wx.heap.size (by simp; omega) hne9
                              have e9 := (World.cell?_of_block (a := ⟨wx.heap.size, 1, none⟩) hx9).trans (cell_al _ e1)
                              exact hk10.cell (p := ⟨wx.heap.size, 1, none⟩) (by have h1 := HMD.out.box.lt; have h2 := HBX.out.size; show ¬ wx.heap.size = P; omega) e9
                            have f10 := HM10.out.box.frozen 1
                            have c10 : W10.cell? ⟨P, 1, none⟩ = some (.int .i64 s) := HM10.out.box.cell 1
                            have hP10 := HM10.out.box.lt
                            clear hown9 hown10 hg9 hb9 hbx9 hMa hone hrow hbx6 r0 hrow10 hk10 e1
                            go_upto_region 40 with fail
                            rw [← hW10]
                            clear hW10 z9' r9
                            obtain ⟨WD, hWD⟩ : ∃ V : World, V = W10.drew := ⟨_, rfl⟩
                            have hbD : Below W10.heap.size W10 WD := by rw [hWD]; exact (Below.refl _ W10).drew
                            have HMD10 := Lib.hid (HM10.out.keep hbD)
                            have eD : WD.cell? ⟨wx.heap.size, 1, none⟩ = some (.int .i64 cc.dt) := cell_later hbD e10
                            have cD : WD.cell? ⟨P, 1, none⟩ = some (.int .i64 s) := HMD10.out.box.cell 1
                            have fD := HMD10.out.box.frozen 1
                            obtain ⟨W11, hW11⟩ : ∃ V : World, V = WD.setCell ⟨P, 1, none⟩ (.int .i64 x9) := ⟨_, rfl⟩
                            have HM11 : Hid (MdB w W11 P x9 (.slice a' (m'.length + 1) c') (ints (m' ++ [i]))) := Lib.hid (by rw [hW11]; exact HMD10.out.arr x9)
                            have HBL11 : Hid (Below P W6 W11) := Lib.hid (by rw [hW11]; exact (HBL10.out.trans (hbD.mono (Nat.le_of_lt hP10))).setCell (p := ⟨P, 1, none⟩) (Nat.le_refl _) _)
                            have hPw : ¬ wx.heap.size = P := by have h1 := HMD.out.box.lt; have h2 := HBX.out.size; omega
                            have e11 : W11.cell? ⟨wx.heap.size, 1, none⟩ = some (.int .i64 cc.dt) := by rw [hW11]; exact cell_set _ hPw eD
                            clear e10 f10 c10 hP10 hbD
                            refine wp_region_noPanic ?_
                            refine wp_region_held_drew (S := (fun w' => w'.cell? ⟨wx.heap.size, 1, none⟩ = some (.int .i64 cc.dt))) (by kernel_rfl) (by rw [← hWD]; exact eD) (fun hHeld => ?_)
                            rw [← hWD] at hHeld ⊢
                            clear hWD
                            refine reg_tk (v := ?_) 0 159 rfl rfl (by kernel_rfl) (by kernel_rfl) (by kernel_rfl) (fun _ _ _ h => h) (by rfl) ?_ (by assumption) ?_
                            rotate_left
                            · (intro w hSw; (try dsimp only at hSw); go_simp; (try with_reducible rfl))
                            simp only [List.setIfInBounds_toArray, List.set_cons_zero, List.set_cons_succ]
                            refine reg_tk (v := ?_) 1 160 rfl rfl (by kernel_rfl) (by kernel_rfl) (by kernel_rfl) (fun _ _ _ h => h) (by rfl) ?_ (by assumption) ?_
                            rotate_left
                            · (intro w hSw; (try dsimp only at hSw); go_simp; (try with_reducible rfl))
                            simp only [List.setIfInBounds_toArray, List.set_cons_zero, List.set_cons_succ]
                            refine reg_tk (v := .int .i64 cc.dt) 2 161 rfl rfl (by kernel_rfl) (by kernel_rfl) (by kernel_rfl) (fun _ _ _ h => h) (by rfl) (fun w3 hS => by have j0 := hS; go_simp) (by assumption) ?_
                            simp only [List.setIfInBounds_toArray, List.set_cons_zero, List.set_cons_succ]
                            refine reg_tk (v := ?_) 3 162 rfl rfl (by kernel_rfl) (by kernel_rfl) (by kernel_rfl) (fun _ _ _ h => h) (by rfl) ?_ (by assumption) ?_
                            rotate_left
                            · (intro w hSw; (try dsimp only at hSw); go_simp; (try with_reducible rfl))
                            simp only [List.setIfInBounds_toArray, List.set_cons_zero, List.set_cons_succ]
                            refine wpAnyH_ready (rs := [4]) (by kernel_rfl) (by simp) ?_
                            refine AllReadyH.cons rfl (fun K hK => ?_) AllReadyH.nil
                            go_simp
                            rw [← hW11]
                            refine hK.out _ _ e11 (fun hHeld2 => ?_)
                            clear hK K hHeld
                            have hHeld := hHeld2
                            clear hHeld2
                            try simp only [Act.put, List.setIfInBounds_toArray, List.set_cons_zero, List.set_cons_succ]
                            refine reg_tk (v := ?_) 5 22 rfl rfl (by kernel_rfl) (by kernel_rfl) (by kernel_rfl) (fun _ _ _ h => h) (by rfl) ?_ (by assumption) ?_
                            rotate_left
                            · (intro w hSw; (try dsimp only at hSw); go_simp; (try with_reducible rfl))
                            simp only [List.setIfInBounds_toArray, List.set_cons_zero, List.set_cons_succ]
                            refine wpAnyH_done (by kernel_rfl) ?_ _
                            refine NoPanic.normal ?_
                            clear hW11 eD cD fD e11 hHeld
                            go_wp2_with fail
                            go_roundw
                            case rel => exact ⟨j, cc.dt, x9, _, m' ++ [i], rest', _, rfl, rfl, rfl, by rw [List.length_append]; have := HMK.out; simp; omega, HLF.out, HWF.out, HGO.out, HFIN.out, HM11.out, HBL11.out⟩
                            case measure => (first | (simp [intOf]; done) | (simp [intOf]; omega))
                        · have d7 : decide (x9 ≤ z9) = false := nb hle
                          have hne : i ≠ i0 := fun hh => by
                            have h1 := HFIT.out.1
                            have h2 := HFIT.out.2.2.1
                            rw [← hh, HCC.out, HRr.out] at h2
                            rw [← hh, HCC.out] at h1
                            have h3 : x9 = s1 := by simpa using h2
                            rw [← h3] at h1
                            exact hle (hiff.2 h1)
                          clear hle hiff
                          go_upto_region 38 with fail
                          go_quiet (fail)
                          go_upto_region 41 with fail
                          refine wp_drewN ?_
                          intro wS hS
                          have HBS := Lib.hid (Below.next HB8.out hS)
                          clear hS e1 gD
                          go_wp2_with fail
                          go_roundw
                          case rel => exact ⟨i + 1, by omega, rfl, by go_num, HBS.out⟩
                          case measure => simp [intOf]; omega
                    · have d6 : (cc.fr != x) = true := by simp [hfr]
                      have hne : i ≠ i0 := fun hh => by
                        subst hh
                        have h2 := HFIT.out.2.2.2
                        rw [HCC.out] at h2
                        exact hfr h2
                      have e0 := hA7.1
                      clear hfr hA7 r1 hpos
                      go_wp2_with fail
                      go_roundw
                      case rel => exact ⟨i + 1, by omega, rfl, by go_num, HB7.out⟩
                      case measure => simp [intOf]; omega
  · have hq2 : er = ce ∧ arr = 0 ∧ l = [] := by
      rcases hq with ⟨_, h1⟩ | ⟨h1, _⟩ | ⟨h1, _⟩
      · rw [HE.out] at h1; exact h1
      · exact absurd (HE.out.symm.trans h1) h0
      · exact absurd (HE.out.symm.trans h1) h0
    obtain ⟨rfl, rfl, rfl⟩ := hq2
    have e1 : (er != 0) = true := by simpa using h0
    have z0 := HR1.out.frozen 0
    have z1 := HR1.out.frozen 1
    have t0 : w1.cell? ⟨w.heap.size, 0, none⟩ = some (.slice none 0 0) := HR1.out.cell 0
    have t1 : w1.cell? ⟨w.heap.size, 1, none⟩ = some (.int .i64 0) := HR1.out.cell 1
    clear h0 hq
    go_wp2_with fail
    rw [Exit.noGoto_ret]
    refine bodyPost_ret (v := .tuple #[.agg #[.slice none 0 0, .int .i64 0], .int .i64 er]) (by simp [results, Try.results12, go_sem, t0, t1]) rfl ⟨⟨_, rfl, RtF.zero _ _⟩, ?_⟩
    exact (HB1.out.setCell (p := ⟨w.heap.size, 0, none⟩) (Nat.le_refl _) _).setCell (p := ⟨w.heap.size, 1, none⟩) (Nat.le_refl _) _
end Go.Proofs.Ytgmfifilgbbogaa
