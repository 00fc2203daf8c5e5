

/- VolumeSums: the walk of the law. -/
import Derived.Test.YtnbjdgjopdeolaaSU
import Derived.Test.YtnbjdgjopdeolaaPP
namespace Go.Proofs.Ytnbjdgjopdeolaa
open Go.RowKit Go.Shelf
set_option linter.unusedSimpArgs false
set_option linter.unusedVariables false
set_option maxRecDepth 100000

theorem lf0 {c : Ct} (h : okC c) {b t : Int} (ht : tickB t = true) (hb : b = 0 ∨ (pos c t < b ∧ b ≤ vol c)) : Lf c b t (if b = 0 then vol c - pos c t else vol c - b) 0 := by
  have hp := pos_nn c h t
  have hl := pos_le c h t
  have := Lf.fine (c := c) (b := b) (t := t) h ht (by omega) (by omega)
  split
  · rwa [show max b (pos c t) = pos c t by omega] at this
  · rwa [show max b (pos c t) = b by omega] at this
theorem rep_snoc (k : Nat) : ic .i64 (List.replicate (k + 1) 0) = ic .i64 (List.replicate k 0) ++ [.int .i64 0] := by
  rw [List.replicate_succ', ic_append]; rfl

theorem okC_wf {c : Ct} (h : okC c) (hs : smallC c) : Wf c := by
  obtain ⟨h1, h2, h3, h4, h5, h6, h7, h8, h9, h10⟩ := h
  obtain ⟨s1, s2⟩ := hs
  unfold Wf
  refine ⟨?_, ?_, ?_, ?_, ?_, ?_⟩ <;> exact WalkArith.wf_i64 (by omega)

theorem vol_small {c : Ct} (h : okC c) (hs : smallC c) : vol c ≤ 70000 := by
  have h6 := h.2.2.2.2.2.2.1
  have h8 := h.2.2.2.2.1
  have h9 := h.2.2.2.1
  have h7 := mul_bd (a := c.rt) (b := c.en - c.st) (A := 1000) (B := 70) (by omega) hs.2 (by omega) (by have := hs.1; omega)
  unfold vol; omega
/-- what a sending may have booked -/
def fits (cs : List Ct) (t : Int) (af : List Int) (N : Nat) : Prop := ∀ j, j < N → af.getD j 0 = 0 ∨ (pos (cs.getD j c0) t < af.getD j 0 ∧ af.getD j 0 ≤ vol (cs.getD j c0))
theorem sentK_bd {cs : List Ct} {t : Int} {af : List Int} {N : Nat} (hok : ∀ k, k < N → okC (cs.getD k c0) ∧ smallC (cs.getD k c0)) (hf : fits cs t af N) : ∀ k, k ≤ N → 0 ≤ sentK cs t af k ∧ sentK cs t af k ≤ 70000 * k
  | 0, _ => ⟨Int.le_refl _, Int.le_refl _⟩
  | k + 1, hk => by
    have ih := sentK_bd hok hf k (by omega)
    obtain ⟨h1, h2⟩ := hok k (by omega)
    have h3 := vol_small h1 h2
    have h4 := pos_nn _ h1 t
    have h5 := hf k (by omega)
    unfold sentK
    split
    · refine ⟨ih.1, ?_⟩
      push_cast
      omega
    · rcases h5 with h5 | h5
      · exact absurd h5 (by assumption)
      · refine ⟨by omega, ?_⟩
        push_cast
        omega

set_option maxHeartbeats 4000000 in
theorem lawSums (v : Value) (nums : List Int) (t u n : Int) (hnb : ∀ x ∈ nums, Ib x) (ht0 : Ib t) (hu0 : Ib u) (hn0 : Ib n) (w : World) (h : RdI .i64 w v nums) :
    Calls Try.prog 11 #[v, .int .i64 t, .int .i64 u, .int .i64 n] w fun e w' => e = .returned (.bool true) ∧ Below w.heap.size w w' := by
  obtain ⟨a0, n0, rfl⟩ := h.form
  have HNB := Lib.hid hnb
  have HR0 := Lib.hid h
  clear hnb h
  obtain ⟨cs, hcs⟩ : ∃ cs, plK nums 6 nums.length = cs := ⟨_, rfl⟩
  obtain ⟨hPV, hsmall, hlen⟩ := plK_ok nums 6 nums.length
  rw [hcs] at hPV hsmall hlen
  have HCS := Lib.hid hcs
  have hchk := hPV.chk (by omega)
  have hok : ∀ k, k < cs.length → okC (cs.getD k c0) ∧ smallC (cs.getD k c0) := fun k hk => by
    have hm : cs.getD k c0 ∈ cs := by rw [List.getD_eq_getElem?_getD, List.getElem?_eq_getElem hk]; exact List.getElem_mem hk
    exact ⟨hPV.1 _ hm, hsmall _ hm⟩
  have hwf : ∀ c, c ∈ cs → Wf c := fun c hc => okC_wf (hPV.1 c hc) (hsmall c hc)
  obtain ⟨t', htt⟩ : ∃ x, t % 60 = x := ⟨_, rfl⟩
  obtain ⟨du, hdu⟩ : ∃ x, u % 40 = x := ⟨_, rfl⟩
  obtain ⟨dn, hdn⟩ : ∃ x, n % 400 = x := ⟨_, rfl⟩
  have ht1 : 0 ≤ t' ∧ t' < 60 := by omega
  have hu1 : 0 ≤ du ∧ du < 40 := by omega
  have hn1 : 0 ≤ dn ∧ dn < 400 := by omega
  obtain ⟨u', hu'⟩ : ∃ x, t' + du = x := ⟨_, rfl⟩
  obtain ⟨n', hn'⟩ : ∃ x, 1 + dn = x := ⟨_, rfl⟩
  have hwu : IntKind.i64.wrap (t' + du) = u' := by rw [hu']; exact IntWalk.i64_in _ (by omega)
  have hwn : IntKind.i64.wrap (1 + dn) = n' := by rw [hn']; exact IntWalk.i64_in _ (by omega)
  have hu2 : t' ≤ u' ∧ u' ≤ 100 := by omega
  have hn2 : 1 ≤ n' ∧ n' ≤ 400 := by omega
  have HT := Lib.hid htt
  have HU := Lib.hid hdu
  have HN := Lib.hid hdn
  obtain ⟨L, hL⟩ : ∃ L, cs.length = L := ⟨_, rfl⟩
  rw [hL] at hlen hok
  have HL := Lib.hid hL
  have HOK := Lib.hid hok
  have HWF := Lib.hid hwf
  have HCHK := Lib.hid hchk
  clear hL hok hwf hchk hPV hsmall hcs htt hdu hdn hu' hn'
  go_enter Try.func11, Try.ntmps11
  go_wp2_with fail
  refine (known_any _).mono ?_
  rintro e w1 ⟨rfl, hB1⟩
  go_wp2_with fail
  refine (plan_any _ nums 6 (by omega) HNB.out _ (HR0.out.keep hB1)).mono ?_
  rintro e w6 ⟨v6, rfl, hr6, hb6⟩
  rw [HCS.out] at hr6
  obtain ⟨a6, c6, rfl⟩ := hr6.form
  rw [HL.out] at hr6 ⊢
  have HR := Lib.hid hr6
  have hB0 := Below.next hB1 hb6
  clear hr6 hb6 hB1 HR0
  go_wp2_with fail
  refine (mod_any t 60 (by omega) (by omega) ht0 _).mono ?_
  rw [HT.out]
  rintro e w1 ⟨rfl, rfl⟩
  go_wp2_with fail
  refine (mod_any u 40 (by omega) (by omega) hu0 _).mono ?_
  rw [HU.out]
  rintro e w1 ⟨rfl, rfl⟩
  go_wp2_with fail
  refine (mod_any n 400 (by omega) (by omega) hn0 _).mono ?_
  rw [HN.out]
  rintro e w1 ⟨rfl, rfl⟩
  go_wp2_with fail
  go_loopw [11, 12, 13, 14] (fun wa wh v i wr => ∃ k : Nat, k ≤ L ∧ i = .int .i64 k ∧ wa = .int .i64 (wantK cs t' u' k) ∧ wh = .int .i64 (wholeK cs t' k) ∧ wr.ownsRow w6.heap.size 3 1 v k (ic .i64 (List.replicate k 0)) ∧ Below w6.heap.size w6 wr) (fun _ _ _ i _ => L - (intOf i).toNat)
  case atStart => exact ⟨0, Nat.zero_le _, rfl, rfl, rfl, World.ownsRow_nil _ _ _ _, Below.refl _ _⟩
  case round =>
    obtain ⟨k, hk, rfl, rfl, rfl, hown, hBW⟩ := hrel
    obtain ⟨va, vc, rfl⟩ := owns_form hown
    have HOW := Lib.hid hown
    have HBW := Lib.hid hBW
    clear hown hBW
    by_cases hlt : k < L
    · have d2 : decide ((k : Int) < (L : Int)) = true := yb (by omega)
      obtain ⟨b, off, rfl, hcap, hca⟩ := HR.out.at HL.out k hlt
      obtain ⟨hok, hsm⟩ := HOK.out k hlt
      have hwa := wantK_bd (cs := cs) (by rw [HL.out]; exact HOK.out) (show t' ≤ u' by omega) k (by rw [HL.out]; omega)
      have hwh1 := whole_nn (cs := cs) (fun j hj => (HOK.out j (by rw [← HL.out]; exact hj)).1) t' k (by rw [HL.out]; omega)
      have hwh2 := whole_bd (cs := cs) (by rw [HL.out]; exact HOK.out) t' k (by rw [HL.out]; omega)
      obtain ⟨c, HC⟩ : ∃ c, Hid (cs.getD k c0 = c) := ⟨_, rfl⟩
      rw [HC.out] at hca hok hsm
      have hwak : wantK cs t' u' (k + 1) = if mine c then wantK cs t' u' k + c.rt * (del c u' - del c t') else wantK cs t' u' k := by rw [← HC.out]; rfl
      have hwhk : wholeK cs t' (k + 1) = if mine c then wholeK cs t' k + (vol c - pos c t') else wholeK cs t' k := by rw [← HC.out]; rfl
      obtain ⟨wa, hwae⟩ : ∃ x, wantK cs t' u' k = x := ⟨_, rfl⟩
      obtain ⟨wh, hwhe⟩ : ∃ x, wholeK cs t' k = x := ⟨_, rfl⟩
      rw [hwae] at hwak hwa ⊢
      rw [hwhe] at hwhk hwh1 hwh2 ⊢
      clear hwae hwhe
      have i1 : (0 : Int) ≤ (k : Int) := by omega
      have i2 : (k : Int) < (L : Int) := by omega
      have hwk : IntKind.i64.wrap (k : Int) = (k : Int) := IntWalk.i64_in _ (by omega)
      have hwk1 : IntKind.i64.wrap ((k : Int) + 1) = (k : Int) + 1 := IntWalk.i64_in _ (by omega)
      have HCA := Lib.hid hca
      clear hca
      go_wp2_with (at_builtin; refine wpList_app rfl (.tmp 49) (.tmp 50) 52 rfl w6.heap.size 3 (.int .i64 0) 1 8 E52 _ k _ rfl (HOW.out.alloc _) _ 1 [.int .i64 0] rfl (rds_one _ _ _) (by simp [Value.oneCell']) ?c1 ?c2 ?c3 ?c4)
      case c1 => unfold maxLen; omega
      case c2 => omega
      case c3 => have := HBW.out.size; simp; omega
      case c4 =>
        intro a3 c3 w3 hown3 hg3 hb3
        have hB3 : Below w6.heap.size w6 w3 := (Below.al HBW.out _).trans hb3
        have hown3 : w3.ownsRow w6.heap.size 3 1 (.slice a3 (k + 1) c3) (k + 1) (ic .i64 (List.replicate k 0) ++ [.int .i64 0]) := by with_reducible exact hown3
        have HOW3 := Lib.hid hown3
        have hca := CA.keep hB3 HCA.out
        clear hown3 hg3 hb3
        by_cases hm : mine c
        · rw [if_pos hm] at hwak hwhk
          have HWA := Lib.hid hwak
          have HWH := Lib.hid hwhk
          clear hwak hwhk
          have e1 : (c.fr != 1) = false := by simp [hm.1]
          have e2 : (c.dt != 2) = false := by simp [hm.2]
          clear hm
          obtain ⟨M, hM⟩ : ∃ M, (u' - t').toNat = M := ⟨_, rfl⟩
          have hM2 : (M : Int) = u' - t' := by omega
          go_wp2_with fail
          go_loopw [11, 15] (fun x now wy => ∃ m : Nat, m ≤ M ∧ now = .int .i64 (t' + m) ∧ x = .int .i64 (wa + c.rt * (del c (t' + m) - del c t')) ∧ wy = w3) (fun _ now _ => M - (intOf now - t').toNat)
          case atStart => exact ⟨0, Nat.zero_le _, by simp, by simp, rfl⟩
          case round =>
            obtain ⟨m, hmM, rfl, rfl, rfl⟩ := hrel
            by_cases hml : m < M
            · have d5 : decide (t' + (m : Int) < u') = true := yb (by omega)
              have hst := del_step c hok (t' + m)
              have hbd1 := del_bd hok hsm (t' + m)
              have hbd2 := del_mono hok (show t' ≤ t' + (m : Int) by omega)
              have hbd3 := del_bd hok hsm t'
              have hrt1 := hok.2.2.2.2.2.2.1
              have hmb := mul_bd (a := c.rt) (b := del c (t' + m) - del c t') (A := 1000) (B := 70) (by omega) hsm.2 (by omega) (by omega)
              obtain ⟨d, hd⟩ : ∃ d, del c (t' + m) - del c t' = d := ⟨_, rfl⟩
              rw [hd] at hmb ⊢
              have hwn1 : IntKind.i64.wrap (t' + (m : Int) + 1) = t' + (m : Int) + 1 := IntWalk.i64_in _ (by omega)
              by_cases g1 : c.st ≤ t' + m
              · have d6 : decide (c.st ≤ t' + (m : Int)) = true := yb g1
                by_cases g2 : t' + m < c.en
                · have d7 : decide (t' + (m : Int) < c.en) = true := yb g2
                  have hwr : IntKind.i64.wrap (wa + c.rt * d + c.rt) = wa + c.rt * d + c.rt := IntWalk.i64_in _ (by have := hsm.2; omega)
                  have hst2 : wa + c.rt * (del c (t' + m + 1) - del c t') = wa + c.rt * d + c.rt := by
                    rw [hst, if_pos ⟨g1, g2⟩, show del c (t' + m) + 1 - del c t' = d + 1 by omega, Int.mul_add, Int.mul_one]; omega
                  have HST := Lib.hid hst2
                  clear hst hst2 g1 g2 hmb hd
                  go_wp2_with fail
                  go_roundw
                  case rel => exact ⟨m + 1, by omega, by push_cast; rw [show t' + ((m : Int) + 1) = t' + (m : Int) + 1 by omega], by push_cast; rw [show t' + ((m : Int) + 1) = t' + (m : Int) + 1 by omega, HST.out], by first | trivial | rfl⟩
                  case measure => simp [intOf]; omega
                · have d7 : decide (t' + (m : Int) < c.en) = false := nb g2
                  have hst2 : wa + c.rt * (del c (t' + m + 1) - del c t') = wa + c.rt * d := by
                    rw [hst, if_neg (by omega), show del c (t' + m) + 0 - del c t' = d by omega]
                  have HST := Lib.hid hst2
                  clear hst hst2 g1 g2 hmb hd
                  go_wp2_with fail
                  go_roundw
                  case rel => exact ⟨m + 1, by omega, by push_cast; rw [show t' + ((m : Int) + 1) = t' + (m : Int) + 1 by omega], by push_cast; rw [show t' + ((m : Int) + 1) = t' + (m : Int) + 1 by omega, HST.out], by first | trivial | rfl⟩
                  case measure => simp [intOf]; omega
              · have d6 : decide (c.st ≤ t' + (m : Int)) = false := nb g1
                have hst2 : wa + c.rt * (del c (t' + m + 1) - del c t') = wa + c.rt * d := by
                  rw [hst, if_neg (by omega), show del c (t' + m) + 0 - del c t' = d by omega]
                have HST := Lib.hid hst2
                clear hst hst2 g1 hmb hd
                go_wp2_with fail
                go_roundw
                case rel => exact ⟨m + 1, by omega, by push_cast; rw [show t' + ((m : Int) + 1) = t' + (m : Int) + 1 by omega], by push_cast; rw [show t' + ((m : Int) + 1) = t' + (m : Int) + 1 by omega, HST.out], by first | trivial | rfl⟩
                case measure => simp [intOf]; omega
            · obtain rfl : m = M := by omega
              have d5 : decide (t' + (m : Int) < u') = false := nb (by omega)
              have htm : t' + (m : Int) = u' := by omega
              rw [htm] at d5 ⊢
              have hp := pos_le c hok t'
              have hpn := pos_nn c hok t'
              have HLF : Hid (Lf c 0 t' (vol c - pos c t') 0) := lf0 hok (by simp [tickB]; omega) (.inl rfl)
              have hvb : vol c ≤ 70000 := by
                have h6 := hok.2.2.2.2.2.2.1
                have h8 := hok.2.2.2.2.1
                have h9 := hok.2.2.2.1
                have h7 := mul_bd (a := c.rt) (b := c.en - c.st) (A := 1000) (B := 70) (by omega) hsm.2 (by omega) (by have := hsm.1; omega)
                unfold vol; omega
              obtain ⟨lf, hlf⟩ : ∃ x, vol c - pos c t' = x := ⟨_, rfl⟩
              rw [hlf] at HLF HWH
              have hww : IntKind.i64.wrap (wh + lf) = wh + lf := IntWalk.i64_in _ (by omega)
              clear hlf hp hpn hvb
              go_wp2_with fail
              refine (left_any c 0 t' lf 0 HLF.out _).mono ?_
              rintro e w4 ⟨rfl, hb4⟩
              have hB4 := Below.trans hB3 (hb4.mono hB3.size)
              have HOW4 : Hid (w4.ownsRow w6.heap.size 3 1 (.slice a3 (k + 1) c3) (k + 1) (ic .i64 (List.replicate k 0) ++ [.int .i64 0])) := own_keep hb4 HOW3.out
              clear hb4 hca
              go_wp2_with fail
              go_roundw
              case rel => exact ⟨k + 1, by omega, by go_num, by rw [HWA.out], by rw [HWH.out], by rw [rep_snoc]; exact HOW4.out, hB4⟩
              case measure => simp [intOf]; omega
        · rw [if_neg hm] at hwak hwhk
          have HWA := Lib.hid hwak
          have HWH := Lib.hid hwhk
          clear hwak hwhk
          by_cases h1 : c.fr = 1
          · have e1 : (c.fr != 1) = false := by simp [h1]
            have e2 : (c.dt != 2) = true := by simp; exact fun h2 => hm ⟨h1, h2⟩
            clear hm h1
            go_wp2_with fail
            go_roundw
            case rel => exact ⟨k + 1, by omega, by go_num, by rw [HWA.out], by rw [HWH.out], by rw [rep_snoc]; exact HOW3.out, hB3⟩
            case measure => simp [intOf]; omega
          · have e1 : (c.fr != 1) = true := by simp [h1]
            clear hm h1
            go_wp2_with fail
            go_roundw
            case rel => exact ⟨k + 1, by omega, by go_num, by rw [HWA.out], by rw [HWH.out], by rw [rep_snoc]; exact HOW3.out, hB3⟩
            case measure => simp [intOf]; omega
    · obtain rfl : k = L := by omega
      have d2 : decide ((k : Int) < (k : Int)) = false := nb (by omega)
      have hbw : Bwv cs 1 2 t' u' = (wantK cs t' u' k, 0) := by
        have e : Bwv cs 1 2 t' u' = (betw cs 1 2 t' u' cs.length, 0) := by
          unfold Bwv
          rw [HCHK.out, if_neg (by simp), if_pos (by simp [nodeB, tickB]; omega)]
        rw [e, betw_want (by rw [HL.out]; exact HOK.out) (by rw [HL.out]; omega) (by omega) _ (Nat.le_refl _), HL.out]
      have hok1 : ∀ j, j < cs.length → okC (cs.getD j c0) := fun j hj => (HOK.out j (by rw [← HL.out]; exact hj)).1
      have hbk0 : bkE cs (List.replicate k 0) = 0 := by unfold bkE; rw [HCHK.out, if_neg (by simp), if_neg (by simp [HL.out])]
      have hov0 : overK cs (List.replicate k 0) cs.length = [] := overK_none (fun j hj => by
        rw [zeros_get]
        have := pos_nn _ (hok1 j hj) t'
        have := pos_le _ (hok1 j hj) t'
        omega) _ (Nat.le_refl _)
      obtain ⟨z1, z2, z3, z4⟩ := carK_zeros hok1 (t := t') (n := n') (by omega) cs.length (Nat.le_refl _)
      have zs := sent_left hok1 (t := t') (n := n') (by omega) cs.length (Nat.le_refl _)
      rw [HL.out] at z1 z2 z3 z4 zs
      obtain ⟨s, hs⟩ : ∃ s, carK cs (List.replicate k 0) 1 2 t' n' k = s := ⟨_, rfl⟩
      rw [hs] at z1 z2 z3 z4 zs
      have hcrv : Crv cs (List.replicate k 0) 1 2 t' n' = if 0 < s.2.2 then ([], 0, 16) else (s.1, s.2.1, 0) := by
        unfold Crv
        rw [if_neg (by rw [hbk0]; simp), if_neg (by rw [hov0]; simp [nodeB, tickB, bytesB]; omega), HL.out, hs]
      have hrz : RdI .i64 wr (.slice va k vc) (List.replicate k 0) := by
        unfold RdI
        rw [List.length_replicate]
        exact RdS.of_owns HOW.out (by decide)
      have HRZ := Lib.hid hrz
      obtain ⟨wa, HWA⟩ : ∃ x, Hid (wantK cs t' u' k = x) := ⟨_, rfl⟩
      rw [HWA.out] at hbw ⊢
      have HBWV := Lib.hid hbw
      obtain ⟨wh, HWH⟩ : ∃ x, Hid (wholeK cs t' k = x) := ⟨_, rfl⟩
      rw [HWH.out] at z1 ⊢
      have hne : (wa != wa) = false := by simp
      clear hbw hbk0 hov0 hrz hs
      by_cases hlate : n' ≤ wh
      · have d8 : decide (n' ≤ wh) = true := yb hlate
        rw [if_pos hlate] at z1
        rw [if_neg (by omega)] at hcrv
        rw [z1, Int.sub_zero] at zs
        obtain ⟨af, fin, lft⟩ := s
        dsimp only at z1 z2 z3 z4 zs hcrv
        have HCV := Lib.hid hcrv
        have HFT : Hid (fits cs t' af k) := z4
        have HSE := Lib.hid zs
        have HAF := Lib.hid z2
        have hbk1 : bkE cs af = 0 := by unfold bkE; rw [HCHK.out, if_neg (by simp), if_neg (by rw [z2, HL.out]; simp)]
        have hov1 : ovL cs af = [] := by
          unfold ovL
          rw [if_pos hbk1]
          exact overK_none (fun j hj => by
            have h1 := pos_nn _ (hok1 j hj) t'
            have h2 := pos_le _ (hok1 j hj) t'
            have h3 := z4 j (by rw [← HL.out]; exact hj)
            omega) _ (Nat.le_refl _)
        have HBK := Lib.hid hbk1
        have HOV := Lib.hid hov1
        clear hcrv z1 z2 z3 z4 zs hbk1 hov1 hlate hok1
        go_wp2_with fail
        refine (between_any cs _ 1 2 t' u' wa 0 HWF.out HBWV.out _ (HR.out.keep HBW.out)).mono ?_
        rintro e w5 ⟨rfl, hb5⟩
        have HBX := Lib.hid (Below.next HBW.out hb5)
        have HRZ2 := Lib.hid (HRZ.out.keep hb5)
        clear hb5
        go_wp2_with fail
        refine (carry_any cs _ (List.replicate k 0) _ 1 2 t' n' HWF.out 0 fin af HCV.out _ (HR.out.keep HBX.out) HRZ2.out).mono ?_
        rintro e w7 ⟨v7, rfl, hr7, hb7⟩
        have hB7 := Below.next HBX.out hb7
        have hB := Below.next hB0 hB7
        obtain ⟨a7, c7, rfl⟩ := hr7.form
        clear hb7
        rw [HAF.out] at hr7 ⊢
        have hne2 : (n' != n') = false := by simp
        have HR7 := Lib.hid hr7
        clear hr7
        go_wp2_with fail
        go_loopw [23, 24] (fun sn i wy => ∃ j : Nat, j ≤ k ∧ i = .int .i64 j ∧ sn = .int .i64 (sentK cs t' af j) ∧ Below w7.heap.size w7 wy) (fun _ i _ => k - (intOf i).toNat)
        case atStart => exact ⟨0, Nat.zero_le _, rfl, rfl, Below.refl _ _⟩
        case round =>
          obtain ⟨j, hj, rfl, rfl, hBY⟩ := hrel
          by_cases hlt : j < k
          · have d3 : decide ((j : Int) < (k : Int)) = true := yb (by omega)
            obtain ⟨b, off, rfl, hcap, hca⟩ := HR.out.at HL.out j hlt
            obtain ⟨b2, off2, rfl, hcap2, hcb⟩ := HR7.out.at HAF.out j hlt
            have hca := CA.keep hBY (CA.keep hB7 hca)
            have hcb := cell_later hBY hcb
            obtain ⟨hok, hsm⟩ := HOK.out j hlt
            have hft := HFT.out j hlt
            have hsb := sentK_bd HOK.out HFT.out j (by omega)
            have hse : sentK cs t' af (j + 1) = if af.getD j 0 = 0 then sentK cs t' af j else sentK cs t' af j + (af.getD j 0 - pos (cs.getD j c0) t') := rfl
            obtain ⟨c, HC⟩ : ∃ c, Hid (cs.getD j c0 = c) := ⟨_, rfl⟩
            rw [HC.out] at hca hok hsm hft hse
            obtain ⟨x, HX⟩ : ∃ x, Hid (af.getD j 0 = x) := ⟨_, rfl⟩
            rw [HX.out] at hcb hft hse
            obtain ⟨sn, hsn⟩ : ∃ x, sentK cs t' af j = x := ⟨_, rfl⟩
            rw [hsn] at hse hsb ⊢
            clear hsn
            have i1 : (0 : Int) ≤ (j : Int) := by omega
            have i2 : (j : Int) < (k : Int) := by omega
            have hwk : IntKind.i64.wrap (j : Int) = (j : Int) := IntWalk.i64_in _ (by omega)
            have hwk1 : IntKind.i64.wrap ((j : Int) + 1) = (j : Int) + 1 := IntWalk.i64_in _ (by omega)
            by_cases hx : x = 0
            · have e1 : (x == 0) = true := by simp [hx]
              rw [if_pos hx] at hse
              have HSJ := Lib.hid hse
              clear hse hx hft
              go_wp2_with fail
              go_roundw
              case rel => exact ⟨j + 1, by omega, by go_num, by rw [HSJ.out], hBY⟩
              case measure => simp [intOf]; omega
            · have e1 : (x == 0) = false := by simp [hx]
              rw [if_neg hx] at hse
              have htk : tickB t' = true := by simp [tickB]; omega
              have hf1 : Hid (Lf c 0 t' (vol c - pos c t') 0) := lf0 hok htk (.inl rfl)
              have hf2 : Hid (Lf c x t' (vol c - x) 0) := by
                have := lf0 hok htk (b := x) (by rcases hft with h | h; exact .inl h; exact .inr h)
                rwa [if_neg hx] at this
              have hvs := vol_small hok hsm
              have hp0 := pos_nn c hok t'
              have hp1 := pos_le c hok t'
              obtain ⟨p1, hp1e⟩ : ∃ y, vol c - pos c t' = y := ⟨_, rfl⟩
              obtain ⟨p2, hp2e⟩ : ∃ y, vol c - x = y := ⟨_, rfl⟩
              rw [hp1e] at hf1
              rw [hp2e] at hf2
              have hw1 : IntKind.i64.wrap (sn + p1) = sn + p1 := IntWalk.i64_in _ (by omega)
              have hw2 : IntKind.i64.wrap (sn + p1 - p2) = sn + p1 - p2 := IntWalk.i64_in _ (by omega)
              have hse2 : sentK cs t' af (j + 1) = sn + p1 - p2 := by rw [hse]; omega
              have HSJ := Lib.hid hse2
              clear hse hse2 hx hft htk hvs hp0 hp1 hp1e hp2e
              go_wp2_with fail
              refine (left_any c 0 t' p1 0 hf1.out _).mono ?_
              rintro e w8 ⟨rfl, hb8⟩
              have hca := CA.keep hb8 hca
              have hcb := cell_later hb8 hcb
              have hBY := Below.next hBY hb8
              obtain ⟨wn, rfl⟩ : ∃ wn, wn = w8 := ⟨_, rfl⟩
              clear hb8
              go_wp2_with fail
              refine wp_region_calm (fun w' => Below wn.heap.size wn w') 99 (by kernel_rfl) ((Below.refl _ wn).drew) ?_
              refine cm_run 0 183 (v := ?_) rfl rfl (by kernel_rfl) (by kernel_rfl) (by kernel_rfl) (by kernel_rfl) (by kernel_rfl) (fun _ _ _ h => h) (by rfl) ?_ ?_
              rotate_left
              · (intro wS hS; skip; go_simp; (try with_reducible rfl))
              simp only [List.setIfInBounds_toArray, List.set_cons_zero, List.set_cons_succ]
              refine cm_run 1 184 (v := ?_) rfl rfl (by kernel_rfl) (by kernel_rfl) (by kernel_rfl) (by kernel_rfl) (by kernel_rfl) (fun _ _ _ h => h) (by rfl) ?_ ?_
              rotate_left
              · (intro wS hS; skip; go_simp; (try with_reducible rfl))
              simp only [List.setIfInBounds_toArray, List.set_cons_zero, List.set_cons_succ]
              refine cm_run 2 185 (v := ?_) rfl rfl (by kernel_rfl) (by kernel_rfl) (by kernel_rfl) (by kernel_rfl) (by kernel_rfl) (fun _ _ _ h => h) (by rfl) ?_ ?_
              rotate_left
              · (intro wS hS; skip; go_simp; (try with_reducible rfl))
              simp only [List.setIfInBounds_toArray, List.set_cons_zero, List.set_cons_succ]
              refine cm_run 3 186 (v := ?_) rfl rfl (by kernel_rfl) (by kernel_rfl) (by kernel_rfl) (by kernel_rfl) (by kernel_rfl) (fun _ _ _ h => h) (by rfl) ?_ ?_
              rotate_left
              · (intro wS hS; have g := CA.keep hS hca; go_simp; (try with_reducible rfl))
              simp only [List.setIfInBounds_toArray, List.set_cons_zero, List.set_cons_succ]
              refine cm_run 4 187 (v := ?_) rfl rfl (by kernel_rfl) (by kernel_rfl) (by kernel_rfl) (by kernel_rfl) (by kernel_rfl) (fun _ _ _ h => h) (by rfl) ?_ ?_
              rotate_left
              · (intro wS hS; skip; go_simp; (try with_reducible rfl))
              simp only [List.setIfInBounds_toArray, List.set_cons_zero, List.set_cons_succ]
              refine cm_run 5 188 (v := ?_) rfl rfl (by kernel_rfl) (by kernel_rfl) (by kernel_rfl) (by kernel_rfl) (by kernel_rfl) (fun _ _ _ h => h) (by rfl) ?_ ?_
              rotate_left
              · (intro wS hS; skip; go_simp; (try with_reducible rfl))
              simp only [List.setIfInBounds_toArray, List.set_cons_zero, List.set_cons_succ]
              refine cm_run 6 189 (v := ?_) rfl rfl (by kernel_rfl) (by kernel_rfl) (by kernel_rfl) (by kernel_rfl) (by kernel_rfl) (fun _ _ _ h => h) (by rfl) ?_ ?_
              rotate_left
              · (intro wS hS; skip; go_simp; (try with_reducible rfl))
              simp only [List.setIfInBounds_toArray, List.set_cons_zero, List.set_cons_succ]
              refine cm_run 7 190 (v := ?_) rfl rfl (by kernel_rfl) (by kernel_rfl) (by kernel_rfl) (by kernel_rfl) (by kernel_rfl) (fun _ _ _ h => h) (by rfl) ?_ ?_
              rotate_left
              · (intro wS hS; have g := cell_later hS hcb; go_simp; (try with_reducible rfl))
              simp only [List.setIfInBounds_toArray, List.set_cons_zero, List.set_cons_succ]
              refine cm_run 8 191 (v := ?_) rfl rfl (by kernel_rfl) (by kernel_rfl) (by kernel_rfl) (by kernel_rfl) (by kernel_rfl) (fun _ _ _ h => h) (by rfl) ?_ ?_
              rotate_left
              · (intro wS hS; skip; go_simp; (try with_reducible rfl))
              simp only [List.setIfInBounds_toArray, List.set_cons_zero, List.set_cons_succ]
              refine cm_call 9 192 24 (v := (V2 p2 0)) (args := ?_) rfl rfl (by kernel_rfl) (by kernel_rfl) (by kernel_rfl) (by kernel_rfl) (by kernel_rfl) (fun _ _ _ h => h) (by rfl) ?_ ?_ ?_
              rotate_left 1
              · (intro wS hS; go_simp; (try with_reducible rfl))
              · (intro wS hS; refine (left_any c x t' p2 0 hf2.out _).mono ?_; (rintro e w2 ⟨rfl, hb⟩; exact ⟨rfl, Below.next hS hb⟩))
              simp only [List.setIfInBounds_toArray, List.set_cons_zero, List.set_cons_succ]
              refine cm_run 10 182 (v := ?_) rfl rfl (by kernel_rfl) (by kernel_rfl) (by kernel_rfl) (by kernel_rfl) (by kernel_rfl) (fun _ _ _ h => h) (by rfl) ?_ ?_
              rotate_left
              · (intro wS hS; skip; go_simp; (try with_reducible rfl))
              simp only [List.setIfInBounds_toArray, List.set_cons_zero, List.set_cons_succ]
              refine cm_run 11 193 (v := ?_) rfl rfl (by kernel_rfl) (by kernel_rfl) (by kernel_rfl) (by kernel_rfl) (by kernel_rfl) (fun _ _ _ h => h) (by rfl) ?_ ?_
              rotate_left
              · (intro wS hS; skip; go_simp; (try with_reducible rfl))
              simp only [List.setIfInBounds_toArray, List.set_cons_zero, List.set_cons_succ]
              refine cm_run 12 194 (v := ?_) rfl rfl (by kernel_rfl) (by kernel_rfl) (by kernel_rfl) (by kernel_rfl) (by kernel_rfl) (fun _ _ _ h => h) (by rfl) ?_ ?_
              rotate_left
              · (intro wS hS; skip; go_simp; (try with_reducible rfl))
              simp only [List.setIfInBounds_toArray, List.set_cons_zero, List.set_cons_succ]
              refine cm_run 13 27 (v := ?_) rfl rfl (by kernel_rfl) (by kernel_rfl) (by kernel_rfl) (by kernel_rfl) (by kernel_rfl) (fun _ _ _ h => h) (by rfl) ?_ ?_
              rotate_left
              · (intro wS hS; skip; go_simp; (try with_reducible rfl))
              simp only [List.setIfInBounds_toArray, List.set_cons_zero, List.set_cons_succ]
              refine cm_run 14 28 (v := ?_) rfl rfl (by kernel_rfl) (by kernel_rfl) (by kernel_rfl) (by kernel_rfl) (by kernel_rfl) (fun _ _ _ h => h) (by rfl) ?_ ?_
              rotate_left
              · (intro wS hS; skip; go_simp; (try with_reducible rfl))
              simp only [List.setIfInBounds_toArray, List.set_cons_zero, List.set_cons_succ]
              refine cm_done (by kernel_rfl) ?_
              intro wS hS
              refine NoPanic.normal ?_
              have hBY := Below.next hBY hS
              clear hca hcb hS
              go_wp2_with fail
              go_roundw
              case rel => exact ⟨j + 1, by omega, by go_num, by rw [HSJ.out], hBY⟩
              case measure => simp [intOf]; omega
          · obtain rfl : j = k := by omega
            have d3 : decide ((j : Int) < (j : Int)) = false := nb (by omega)
            rw [HSE.out]
            go_wp2_with fail
            refine (vOver_any cs _ af _ HWF.out _ ((HR.out.keep hB7).keep hBY) (HR7.out.keep hBY)).mono ?_
            rw [HBK.out, HOV.out]
            rintro e w9 ⟨v9, rfl, hr9, _, hb9⟩
            obtain ⟨a9, c9, rfl⟩ := hr9.form
            rw [show ([] : List Int).length = 0 from rfl]
            have hBf := Below.next (Below.next hB hBY) hb9
            clear hr9 hb9
            go_wp2_with fail
            go_ret
            exact ⟨rfl, hBf⟩
      · have d8 : decide (n' ≤ wh) = false := nb hlate
        rw [if_neg hlate] at z1
        rw [if_pos (by omega)] at hcrv
        have HCV := Lib.hid hcrv
        clear hcrv z1 z2 z3 z4 zs hlate hok1
        go_wp2_with fail
        refine (between_any cs _ 1 2 t' u' wa 0 HWF.out HBWV.out _ (HR.out.keep HBW.out)).mono ?_
        rintro e w5 ⟨rfl, hb5⟩
        have HBX := Lib.hid (Below.next HBW.out hb5)
        have HRZ2 := Lib.hid (HRZ.out.keep hb5)
        clear hb5
        go_wp2_with fail
        refine (carry_any cs _ (List.replicate k 0) _ 1 2 t' n' HWF.out 16 0 [] HCV.out _ (HR.out.keep HBX.out) HRZ2.out).mono ?_
        rintro e w7 ⟨v7, rfl, hr7, hb7⟩
        have hB7 := Below.next HBX.out hb7
        have hB := Below.next hB0 hB7
        obtain ⟨a7, c7, rfl⟩ := hr7.form
        clear hb7
        rw [show ([] : List Int).length = 0 from rfl]
        clear hr7
        go_wp2_with fail
        go_ret
        exact ⟨rfl, hB⟩
end Go.Proofs.Ytnbjdgjopdeolaa
