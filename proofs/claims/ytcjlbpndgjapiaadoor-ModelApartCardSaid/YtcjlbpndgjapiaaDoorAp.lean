





/- ModelApart, in the law. -/
import Derived.Test.YtcjlbpndgjapiaaDoorBg
namespace Go.Proofs.YtcjlbpndgjapiaaDoor
open Go.RowKit
set_option linter.unusedSimpArgs false
set_option linter.unusedVariables false
set_option maxRecDepth 100000

theorem bd_one {w : World} {a : Option Addr} {N c : Nat} {ws : List Bd} (h : RdB w (.slice a N c) ws) (hN : ws.length = N) (k : Nat) (hk : k < N) : ∃ a1 c1, (∀ w', (Instr.slice 22 (.slice a N c) (some (.int .i64 (k : Int))) (some (.int .i64 ((k : Int) + 1))) none).run Tryd.prog w' = .ok (.slice a1 1 c1) w') ∧ RdB w (.slice a1 1 c1) [gb ws k] := by
  have hs : ∀ w : World, (sizeOf (Tryd.prog.elem 22)).run Tryd.prog w = .ok 9 w := fun w => by kernel_rfl
  have hun : Tryd.prog.underlying 22 = some (.slice (Tryd.prog.elem 22)) := by kernel_rfl
  obtain ⟨b, off, rfl, hc, ra⟩ := RdL.at h hN k hk
  refine ⟨some (Addr.add ⟨b, off, none⟩ (k * 9)), c - k, fun w' => ?_, ?_⟩
  · rw [run_slice_lh _ _ _ _ _ hun _ _ _ _ (by omega) (by omega) (by omega), hs]
    simp only [Result.andThen, sliced, Int.toNat_natCast]
    rw [if_neg (by omega), show ((k : Int) + 1).toNat = k + 1 by omega, show k + 1 - k = 1 by omega]
    rfl
  · have e : Addr.add ⟨b, off, none⟩ (k * 9) = ⟨b, off + k * 9, none⟩ := Addr.add_mid _ _ _
    rw [e]
    refine ⟨by rw [rcs_length], by unfold maxLen; simp, .inr ⟨b, off + k * 9, c - k, rfl, by show 1 ≤ _; omega, fun j u hj => ra j u ?_⟩⟩
    have e2 : rcs bdR [gb ws k] = bdR.cells (gb ws k) := by simp [rcs]
    rw [e2] at hj
    exact hj
/-- are the outcomes of each of the first k bundles allowed alone? -/
def apR (ws : List Bd) (l : List Oc) : Nat → Bool
  | 0 => true
  | k + 1 => apR ws l k && decide ((folW [gb ws k] (fl (gb ws k).id l)).2 = (fl (gb ws k).id l).length)
theorem apR_iff {ws : List Bd} {l : List Oc} : ∀ k, apR ws l k = true ↔ ∀ j, j < k → (folW [gb ws j] (fl (gb ws j).id l)).2 = (fl (gb ws j).id l).length
  | 0 => ⟨fun _ j hj => absurd hj (Nat.not_lt_zero _), fun _ => rfl⟩
  | k + 1 => by
    unfold apR
    rw [Bool.and_eq_true, apR_iff k, decide_eq_true_eq]
    constructor
    · rintro ⟨h1, h2⟩ j hj
      rcases Nat.lt_succ_iff_lt_or_eq.1 hj with hj | rfl
      · exact h1 j hj
      · exact h2
    · exact fun h => ⟨fun j hj => h j (by omega), h k (Nat.lt_succ_self _)⟩
set_option maxHeartbeats 8000000 in
theorem apart_any (n more : Int) (hn : Ib n) (hmo : Ib more) (nv : Value) (nums : List Int) (hnb : ∀ x, x ∈ nums → Ib x) (w : World) (hnr : RdI .i64 w nv nums) (hsd : SD w) (hfc : FC w) :
    Calls Tryd.prog 8 #[.int .i64 n, nv, .int .i64 more] w fun e w' => e = .returned (.bool true) ∧ Below w.heap.size w w' := by
  obtain ⟨an, cn, rfl⟩ := hnr.form
  obtain ⟨MN, hMN⟩ : ∃ MN, nums.length = MN := ⟨_, rfl⟩
  rw [hMN] at hnr ⊢
  clear hMN
  have HSD := Lib.hid hsd
  have HFC := Lib.hid hfc
  have HNR := Lib.hid hnr
  have HNB := Lib.hid hnb
  have HT := tn_of n nums
  obtain ⟨ws, hws⟩ : ∃ ws, mkW (n % 1048576) = ws := ⟨_, rfl⟩
  have HWD := Lib.hid (mkworld_any n hn)
  rw [hws] at HT HWD
  have hal : alw ws nums (mn nums) = alw ws nums (mn nums) := rfl
  obtain ⟨l, hl⟩ : ∃ l, alw ws nums (mn nums) = l := ⟨_, rfl⟩
  rw [hl] at HT
  obtain ⟨N, hN⟩ : ∃ N, ws.length = N := ⟨_, rfl⟩
  obtain ⟨L, hL⟩ : ∃ L, l.length = L := ⟨_, rfl⟩
  have HLE := Lib.hid hl
  have HN := Lib.hid hN
  have HL := Lib.hid hL
  have HTN := Lib.hid HT
  have hL40 := HT.len
  rw [hL] at hL40
  rw [hN] at HWD
  clear hsd hfc hnr hnb hws hal hl hN hL HT
  go_enter Tryd.func8, Tryd.ntmps8
  go_wp2_with fail
  refine (known_any w HSD.out HFC.out).mono ?_
  rintro e w1 ⟨rfl, hb⟩
  have HB := Lib.hid hb
  replace HNR := Lib.hid (HNR.out.keep hb)
  clear hb
  go_wp2_with fail
  refine (HWD.out w1).mono ?_
  rintro e w2 ⟨va, vc, rfl, hr, hb⟩
  replace HB := Lib.hid (Below.next HB.out hb)
  replace HNR := Lib.hid (HNR.out.keep hb)
  have HRB := Lib.hid hr
  have HB2 := HB
  clear hb hr HWD
  have HAL := Lib.hid (allowedN_any ws HTN.out.sm HTN.out.wf _ _ nums HNB.out w2 HRB.out HNR.out (HSD.out.keep HB.out) (HFC.out.keep HB.out))
  rw [HLE.out, HL.out] at HAL
  go_wp2_with fail
  refine HAL.out.mono ?_
  rintro e w3 ⟨la, lc, rfl, ho, hb⟩
  have HRB2 := HRB
  have HB23 := Lib.hid hb
  have HBW2 := HB
  replace HB := Lib.hid (Below.next HB.out hb)
  replace HRB := Lib.hid (HRB.out.keep hb)
  have HOW := Lib.hid ho
  have HRO := Lib.hid (oc_own ho HL.out)
  have HBASE : Hid (w.heap.size ≤ w2.heap.size ∧ w2.heap.size ≤ w3.heap.size) := Lib.hid ⟨HB2.out.size, hb.size⟩
  clear hb ho HAL HNR HB2
  have HLG := Lib.hid (HTN.out.lg more)
  have HOCW := Lib.hid (HTN.out.ocw more)
  have htk := HTN.out.tick
  obtain ⟨tk, hteq⟩ : ∃ tk, tkL l = tk := ⟨_, rfl⟩
  have HTK := Lib.hid hteq
  have HOC := Lib.hid (fun W' (hb : Below w3.heap.size w3 W') => outcome_any ws (.slice va N vc) more tk hmo (by rw [← hteq]; omega) HTN.out.sm.pos (by have := HTN.out.sm.len; omega) W' (HRB.out.keep hb))
  rw [hteq] at HLG HOCW htk
  obtain ⟨o, hoe⟩ : ∃ o, ocN ws (more % 1073741824) tk = o := ⟨_, rfl⟩
  rw [hoe] at HLG HOCW HOC
  clear hteq hoe
  have HAP := Lib.hid HLG.out.apart
  have HCT := Lib.hid (chkE_parts HLG.out.chk).2
  obtain ⟨d, hd⟩ : ∃ d, (folW ws (l ++ [o])).2 = d := ⟨_, rfl⟩
  have HDN := Lib.hid hd
  have hdd := allV_ok HLG.out.chk
  rw [hd] at hdd
  have HDD := Lib.hid hdd
  have HL40 := Lib.hid hL40
  have hLw : IntKind.i64.wrap ((L : Int) - 1) = (L : Int) - 1 := IntWalk.i64_in _ (by omega)
  clear hd hdd htk HB HRB
  by_cases h0 : L = 0
  · have ht0 : tk = 0 := by have := HTK.out; unfold tkL at this; rw [HL.out, if_pos h0] at this; omega
    subst ht0
    have d1 : decide ((L : Int) > 0) = false := nb (by omega)
    have d1' : decide (0 < L) = false := nb (by omega)
    clear h0
    go_upto_region 9 with fail
    go_wp2_with fail
    refine (HOC.out w3 (Below.refl _ _)).mono ?_
    rintro e w5 ⟨rfl, hb⟩
    replace HOW := Lib.hid (own_keepB hb HOW.out)
    have HB25 := Lib.hid (Below.next HB23.out hb)
    have HRD : Hid (∀ A T, A = (rcs ocR [o]).toArray → RdS (w5.alloc (.cells A T)) 7 (.slice (some ⟨w5.heap.size, 0, none⟩) 1 1) 1 (rcs ocR [o])) := Lib.hid fun A T hA => rdl_new ocR w5 T [o] A hA 1 rfl (by decide)
    clear hb HB23
    go_wp2_with (first | (at_builtin; refine wpList_app rfl (.tmp 41) (.tmp 46) 23 rfl w2.heap.size 28 _ 7 56 EOc _ _ _ rfl (HOW.out.alloc _) _ 1 (rcs ocR [o]) rfl (HRD.out _ _ rfl) (rcs_one _ _) ?c1 ?c2 ?c3 ?_) | fail)
    case c1 => have := HL40.out; unfold maxLen; omega
    case c2 => have := HL40.out; omega
    case c3 => have := HB25.out.size; simp; omega
    intro a7 c7 w7 hown7 hg7 hb7
    have hlo : (l ++ [o]).length = L + 1 := by rw [List.length_append, HL.out]; rfl
    have HRL : Hid (RdO w7 (.slice a7 (L + 1) c7) (l ++ [o])) := Lib.hid (oc_own (base := w2.heap.size) (by rw [rcs_append]; with_reducible exact hown7) hlo)
    have HLO := Lib.hid hlo
    have HB2 : Hid (Below w2.heap.size w2 w7) := Lib.hid ((Below.al HB25.out _).trans hb7)
    have HB := Lib.hid (HBW2.out.trans (HB2.out.mono HBW2.out.size))
    have HRB := Lib.hid (HRB2.out.keep HB2.out)
    clear hown7 hg7 hb7 HOW HRD hlo HB25
    have HC := Lib.hid (allowed_any _ _ ws (l ++ [o]) w7 ⟨HTN.out.wf, of_snoc HTN.out.of HOCW.out, HRB.out, HRL.out, HSD.out.keep HB.out, HFC.out.keep HB.out⟩)
    rw [HDD.out] at HC
    go_wp2_with fail
    refine HC.out.mono ?_
    rintro e w8 ⟨rfl, hb⟩
    replace HRL := Lib.hid (HRL.out.keep hb)
    replace HRB := Lib.hid (HRB.out.keep hb)
    replace HB := Lib.hid (Below.next HB.out hb)
    clear hb HC HB2
    go_wp2_with fail
    go_loopw [14, 15] (fun ev iv wr => ∃ k : Nat, k ≤ N ∧ iv = .int .i64 k ∧ ev = .bool (apR ws (l ++ [o]) k) ∧ Below w8.heap.size w8 wr) (fun _ iv _ => N - (intOf iv).toNat)
    case atStart => exact ⟨0, Nat.zero_le _, rfl, rfl, Below.refl _ _⟩
    case round =>
      obtain ⟨k, hk, rfl, rfl, hB⟩ := hrel
      have HBr := Lib.hid hB
      by_cases hlt : k < N
      · have d2 : decide ((k : Int) < (N : Int)) = true := yb (by omega)
        have hb1 := HTN.out.sm.len
        have i1 : (0 : Int) ≤ (k : Int) := by omega
        have i2 : (k : Int) < (N : Int) := by omega
        have hwk : IntKind.i64.wrap (k : Int) = (k : Int) := IntWalk.i64_in _ (by have := HN.out; omega)
        have hwk1 : IntKind.i64.wrap ((k : Int) + 1) = (k : Int) + 1 := IntWalk.i64_in _ (by have := HN.out; omega)
        have hbB := HB.out.trans (hB.mono HB.out.size)
        obtain ⟨b6, o6, he6, hc6, g0, g1, g2, _⟩ := RdB.at (HRB.out.keep hB) HN.out k hlt
        obtain ⟨a1, c1, hsl, hsr⟩ := bd_one (HRB.out.keep hB) HN.out k hlt
        subst he6
        have hmem : gb ws k ∈ ws := getD_mem (by have := HN.out; omega)
        obtain ⟨hci, hal⟩ := HAP.out.1 k (by have := HN.out; omega)
        have hci : chkI (gb ws k).id = 0 := hci
        have hal : allV [gb ws k] (fl (gb ws k).id (l ++ [o])) = (((folW [gb ws k] (fl (gb ws k).id (l ++ [o]))).2 : Int), 0) := hal
        have happ : apR ws (l ++ [o]) (k + 1) = (apR ws (l ++ [o]) k && decide ((folW [gb ws k] (fl (gb ws k).id (l ++ [o]))).2 = (fl (gb ws k).id (l ++ [o])).length)) := rfl
        obtain ⟨y, hy⟩ : ∃ y, gb ws k = y := ⟨_, rfl⟩
        rw [hy] at g0 g1 g2 hsr hmem hci hal happ
        have HOF := Lib.hid (of_any (.slice a7 (L + 1) c7) (l ++ [o]) y.id HCT.out hci wr (HFC.out.keep hbB) (HRL.out.keep hB))
        obtain ⟨lf, hlf⟩ : ∃ lf, fl y.id (l ++ [o]) = lf := ⟨_, rfl⟩
        have hofw : ∀ x, x ∈ lf → OcW x := fun x hx => of_snoc HTN.out.of HOCW.out x (by rw [← hlf] at hx; exact (List.mem_filter.1 hx).1)
        rw [hlf] at HOF hal happ
        obtain ⟨f, hf⟩ : ∃ f, (folW [y] lf).2 = f := ⟨_, rfl⟩
        obtain ⟨m, hm⟩ : ∃ m, lf.length = m := ⟨_, rfl⟩
        rw [hf] at hal happ
        rw [hm] at HOF happ
        obtain ⟨E, hE⟩ : ∃ E, apR ws (l ++ [o]) k = E := ⟨_, rfl⟩
        rw [hE] at happ ⊢
        have HAPP := Lib.hid happ
        have HAV := Lib.hid hal
        have HSR := Lib.hid hsr
        have HOFW := Lib.hid hofw
        have HYW := Lib.hid (HTN.out.wf y hmem)
        have HBB := Lib.hid hbB
        have HK := Lib.hid hlt
        clear hb1 hbB hsr hmem hci hal happ hy hlf hofw hf hm hE hlt hk hB
        go_wp2_with fail
        refine HOF.out.mono ?_
        rintro e w9 ⟨a8, c8, rfl, hr, hb⟩
        have HBB9 := Lib.hid (Below.next HBB.out hb)
        have HC := Lib.hid (allowed_any (.slice a1 1 c1) (.slice a8 m c8) [y] lf w9 ⟨fun b hbm => by rw [List.mem_singleton.1 hbm]; exact HYW.out, HOFW.out, HSR.out.keep hb, hr, HSD.out.keep HBB9.out, HFC.out.keep HBB9.out⟩)
        rw [HAV.out] at HC
        replace HBr := Lib.hid (Below.next HBr.out hb)
        clear hb hr HOF HSR g0 g1 g2
        go_wp2_with fail
        refine HC.out.mono ?_
        rintro e w10 ⟨rfl, hb⟩
        replace HBr := Lib.hid (Below.next HBr.out hb)
        clear hb HC HBB HBB9
        by_cases hfm : f = m
        · have e1 : ((f : Int) == (m : Int)) = true := by simp; omega
          rw [yb hfm] at HAPP
          clear hfm
          cases E with
          | true =>
            go_wp2_with fail
            go_roundw
            case rel => exact ⟨k + 1, by have := HK.out; omega, by go_num, by rw [HAPP.out]; rfl, HBr.out⟩
            case measure => simp [intOf]; have := HK.out; omega
          | false =>
            go_wp2_with fail
            go_roundw
            case rel => exact ⟨k + 1, by have := HK.out; omega, by go_num, by rw [HAPP.out]; rfl, HBr.out⟩
            case measure => simp [intOf]; have := HK.out; omega
        · have e1 : ((f : Int) == (m : Int)) = false := by simp; omega
          rw [nb hfm] at HAPP
          clear hfm
          cases E with
          | true =>
            go_wp2_with fail
            go_roundw
            case rel => exact ⟨k + 1, by have := HK.out; omega, by go_num, by rw [HAPP.out]; rfl, HBr.out⟩
            case measure => simp [intOf]; have := HK.out; omega
          | false =>
            go_wp2_with fail
            go_roundw
            case rel => exact ⟨k + 1, by have := HK.out; omega, by go_num, by rw [HAPP.out]; rfl, HBr.out⟩
            case measure => simp [intOf]; have := HK.out; omega
      · obtain rfl : k = N := by omega
        have d2 : decide ((k : Int) < (k : Int)) = false := nb (by omega)
        replace HB := Lib.hid (Below.next HB.out hB)
        have hAR : apR ws (l ++ [o]) k = decide (d = L + 1) := by
          rw [Bool.eq_iff_iff, apR_iff, decide_eq_true_eq]
          have h9 := HAP.out.2
          rw [HLO.out, HDN.out, HN.out] at h9
          exact h9.symm
        obtain ⟨E, hE⟩ : ∃ E, apR ws (l ++ [o]) k = E := ⟨_, rfl⟩
        rw [hE] at hAR ⊢
        clear hB hlt hk hE
        by_cases hd : d = L + 1
        · rw [yb hd] at hAR
          subst hAR
          have e1 : ((d : Int) == ((L + 1 : Nat) : Int)) = true := by simp; omega
          have e1' : ((d : Int) == (L : Int) + 1) = true := by simp; omega
          clear hd
          go_wp2_with fail
          go_ret
          exact ⟨rfl, HB.out⟩
        · rw [nb hd] at hAR
          subst hAR
          have e1 : ((d : Int) == ((L + 1 : Nat) : Int)) = false := by simp; omega
          have e1' : ((d : Int) == (L : Int) + 1) = false := by simp; omega
          clear hd
          go_wp2_with fail
          go_ret
          exact ⟨rfl, HB.out⟩
  · obtain ⟨p, hp⟩ : ∃ p, L = p + 1 := ⟨L - 1, by omega⟩
    have d1 : decide ((L : Int) > 0) = true := yb (by omega)
    have d1' : decide (0 < L) = true := yb (by omega)
    obtain ⟨b4, o4, he4, hc4, g0, _⟩ := RdO.at HRO.out HL.out p (by omega)
    subst he4
    have hgt : (gx l p).tk = tk := by have := HTK.out; unfold tkL at this; rw [HL.out, if_neg h0] at this; rw [← this, hp]; rfl
    rw [hgt] at g0
    have hLp : (L : Int) - 1 = (p : Int) := by omega
    have hLw2 : IntKind.i64.wrap ((L : Int) - 1) = (p : Int) := by rw [hLw]; exact hLp
    have j1 : (0 : Int) ≤ (p : Int) := by omega
    have j2 : (p : Int) < (L : Int) := by omega
    clear h0 hp hgt hLp hLw
    go_upto_region 9 with fail
    clear g0 hLw2 j1 j2
    go_wp2_with fail
    refine (HOC.out w3 (Below.refl _ _)).mono ?_
    rintro e w5 ⟨rfl, hb⟩
    replace HOW := Lib.hid (own_keepB hb HOW.out)
    have HB25 := Lib.hid (Below.next HB23.out hb)
    have HRD : Hid (∀ A T, A = (rcs ocR [o]).toArray → RdS (w5.alloc (.cells A T)) 7 (.slice (some ⟨w5.heap.size, 0, none⟩) 1 1) 1 (rcs ocR [o])) := Lib.hid fun A T hA => rdl_new ocR w5 T [o] A hA 1 rfl (by decide)
    clear hb HB23
    go_wp2_with (first | (at_builtin; refine wpList_app rfl (.tmp 41) (.tmp 46) 23 rfl w2.heap.size 28 _ 7 56 EOc _ _ _ rfl (HOW.out.alloc _) _ 1 (rcs ocR [o]) rfl (HRD.out _ _ rfl) (rcs_one _ _) ?c1 ?c2 ?c3 ?_) | fail)
    case c1 => have := HL40.out; unfold maxLen; omega
    case c2 => have := HL40.out; omega
    case c3 => have := HB25.out.size; simp; omega
    intro a7 c7 w7 hown7 hg7 hb7
    have hlo : (l ++ [o]).length = L + 1 := by rw [List.length_append, HL.out]; rfl
    have HRL : Hid (RdO w7 (.slice a7 (L + 1) c7) (l ++ [o])) := Lib.hid (oc_own (base := w2.heap.size) (by rw [rcs_append]; with_reducible exact hown7) hlo)
    have HLO := Lib.hid hlo
    have HB2 : Hid (Below w2.heap.size w2 w7) := Lib.hid ((Below.al HB25.out _).trans hb7)
    have HB := Lib.hid (HBW2.out.trans (HB2.out.mono HBW2.out.size))
    have HRB := Lib.hid (HRB2.out.keep HB2.out)
    clear hown7 hg7 hb7 HOW HRD hlo HB25
    have HC := Lib.hid (allowed_any _ _ ws (l ++ [o]) w7 ⟨HTN.out.wf, of_snoc HTN.out.of HOCW.out, HRB.out, HRL.out, HSD.out.keep HB.out, HFC.out.keep HB.out⟩)
    rw [HDD.out] at HC
    go_wp2_with fail
    refine HC.out.mono ?_
    rintro e w8 ⟨rfl, hb⟩
    replace HRL := Lib.hid (HRL.out.keep hb)
    replace HRB := Lib.hid (HRB.out.keep hb)
    replace HB := Lib.hid (Below.next HB.out hb)
    clear hb HC HB2
    go_wp2_with fail
    go_loopw [14, 15] (fun ev iv wr => ∃ k : Nat, k ≤ N ∧ iv = .int .i64 k ∧ ev = .bool (apR ws (l ++ [o]) k) ∧ Below w8.heap.size w8 wr) (fun _ iv _ => N - (intOf iv).toNat)
    case atStart => exact ⟨0, Nat.zero_le _, rfl, rfl, Below.refl _ _⟩
    case round =>
      obtain ⟨k, hk, rfl, rfl, hB⟩ := hrel
      have HBr := Lib.hid hB
      by_cases hlt : k < N
      · have d2 : decide ((k : Int) < (N : Int)) = true := yb (by omega)
        have hb1 := HTN.out.sm.len
        have i1 : (0 : Int) ≤ (k : Int) := by omega
        have i2 : (k : Int) < (N : Int) := by omega
        have hwk : IntKind.i64.wrap (k : Int) = (k : Int) := IntWalk.i64_in _ (by have := HN.out; omega)
        have hwk1 : IntKind.i64.wrap ((k : Int) + 1) = (k : Int) + 1 := IntWalk.i64_in _ (by have := HN.out; omega)
        have hbB := HB.out.trans (hB.mono HB.out.size)
        obtain ⟨b6, o6, he6, hc6, g0, g1, g2, _⟩ := RdB.at (HRB.out.keep hB) HN.out k hlt
        obtain ⟨a1, c1, hsl, hsr⟩ := bd_one (HRB.out.keep hB) HN.out k hlt
        subst he6
        have hmem : gb ws k ∈ ws := getD_mem (by have := HN.out; omega)
        obtain ⟨hci, hal⟩ := HAP.out.1 k (by have := HN.out; omega)
        have hci : chkI (gb ws k).id = 0 := hci
        have hal : allV [gb ws k] (fl (gb ws k).id (l ++ [o])) = (((folW [gb ws k] (fl (gb ws k).id (l ++ [o]))).2 : Int), 0) := hal
        have happ : apR ws (l ++ [o]) (k + 1) = (apR ws (l ++ [o]) k && decide ((folW [gb ws k] (fl (gb ws k).id (l ++ [o]))).2 = (fl (gb ws k).id (l ++ [o])).length)) := rfl
        obtain ⟨y, hy⟩ : ∃ y, gb ws k = y := ⟨_, rfl⟩
        rw [hy] at g0 g1 g2 hsr hmem hci hal happ
        have HOF := Lib.hid (of_any (.slice a7 (L + 1) c7) (l ++ [o]) y.id HCT.out hci wr (HFC.out.keep hbB) (HRL.out.keep hB))
        obtain ⟨lf, hlf⟩ : ∃ lf, fl y.id (l ++ [o]) = lf := ⟨_, rfl⟩
        have hofw : ∀ x, x ∈ lf → OcW x := fun x hx => of_snoc HTN.out.of HOCW.out x (by rw [← hlf] at hx; exact (List.mem_filter.1 hx).1)
        rw [hlf] at HOF hal happ
        obtain ⟨f, hf⟩ : ∃ f, (folW [y] lf).2 = f := ⟨_, rfl⟩
        obtain ⟨m, hm⟩ : ∃ m, lf.length = m := ⟨_, rfl⟩
        rw [hf] at hal happ
        rw [hm] at HOF happ
        obtain ⟨E, hE⟩ : ∃ E, apR ws (l ++ [o]) k = E := ⟨_, rfl⟩
        rw [hE] at happ ⊢
        have HAPP := Lib.hid happ
        have HAV := Lib.hid hal
        have HSR := Lib.hid hsr
        have HOFW := Lib.hid hofw
        have HYW := Lib.hid (HTN.out.wf y hmem)
        have HBB := Lib.hid hbB
        have HK := Lib.hid hlt
        clear hb1 hbB hsr hmem hci hal happ hy hlf hofw hf hm hE hlt hk hB
        go_wp2_with fail
        refine HOF.out.mono ?_
        rintro e w9 ⟨a8, c8, rfl, hr, hb⟩
        have HBB9 := Lib.hid (Below.next HBB.out hb)
        have HC := Lib.hid (allowed_any (.slice a1 1 c1) (.slice a8 m c8) [y] lf w9 ⟨fun b hbm => by rw [List.mem_singleton.1 hbm]; exact HYW.out, HOFW.out, HSR.out.keep hb, hr, HSD.out.keep HBB9.out, HFC.out.keep HBB9.out⟩)
        rw [HAV.out] at HC
        replace HBr := Lib.hid (Below.next HBr.out hb)
        clear hb hr HOF HSR g0 g1 g2
        go_wp2_with fail
        refine HC.out.mono ?_
        rintro e w10 ⟨rfl, hb⟩
        replace HBr := Lib.hid (Below.next HBr.out hb)
        clear hb HC HBB HBB9
        by_cases hfm : f = m
        · have e1 : ((f : Int) == (m : Int)) = true := by simp; omega
          rw [yb hfm] at HAPP
          clear hfm
          cases E with
          | true =>
            go_wp2_with fail
            go_roundw
            case rel => exact ⟨k + 1, by have := HK.out; omega, by go_num, by rw [HAPP.out]; rfl, HBr.out⟩
            case measure => simp [intOf]; have := HK.out; omega
          | false =>
            go_wp2_with fail
            go_roundw
            case rel => exact ⟨k + 1, by have := HK.out; omega, by go_num, by rw [HAPP.out]; rfl, HBr.out⟩
            case measure => simp [intOf]; have := HK.out; omega
        · have e1 : ((f : Int) == (m : Int)) = false := by simp; omega
          rw [nb hfm] at HAPP
          clear hfm
          cases E with
          | true =>
            go_wp2_with fail
            go_roundw
            case rel => exact ⟨k + 1, by have := HK.out; omega, by go_num, by rw [HAPP.out]; rfl, HBr.out⟩
            case measure => simp [intOf]; have := HK.out; omega
          | false =>
            go_wp2_with fail
            go_roundw
            case rel => exact ⟨k + 1, by have := HK.out; omega, by go_num, by rw [HAPP.out]; rfl, HBr.out⟩
            case measure => simp [intOf]; have := HK.out; omega
      · obtain rfl : k = N := by omega
        have d2 : decide ((k : Int) < (k : Int)) = false := nb (by omega)
        replace HB := Lib.hid (Below.next HB.out hB)
        have hAR : apR ws (l ++ [o]) k = decide (d = L + 1) := by
          rw [Bool.eq_iff_iff, apR_iff, decide_eq_true_eq]
          have h9 := HAP.out.2
          rw [HLO.out, HDN.out, HN.out] at h9
          exact h9.symm
        obtain ⟨E, hE⟩ : ∃ E, apR ws (l ++ [o]) k = E := ⟨_, rfl⟩
        rw [hE] at hAR ⊢
        clear hB hlt hk hE
        by_cases hd : d = L + 1
        · rw [yb hd] at hAR
          subst hAR
          have e1 : ((d : Int) == ((L + 1 : Nat) : Int)) = true := by simp; omega
          have e1' : ((d : Int) == (L : Int) + 1) = true := by simp; omega
          clear hd
          go_wp2_with fail
          go_ret
          exact ⟨rfl, HB.out⟩
        · rw [nb hd] at hAR
          subst hAR
          have e1 : ((d : Int) == ((L + 1 : Nat) : Int)) = false := by simp; omega
          have e1' : ((d : Int) == (L : Int) + 1) = false := by simp; omega
          clear hd
          go_wp2_with fail
          go_ret
          exact ⟨rfl, HB.out⟩
end Go.Proofs.YtcjlbpndgjapiaaDoor
