





/- ModelBegins, in the law. -/
import Derived.Test.YtcjlbpndgjapiaaDoorTw
namespace Go.Proofs.YtcjlbpndgjapiaaDoor
open Go.RowKit
set_option linter.unusedSimpArgs false
set_option linter.unusedVariables false
set_option maxRecDepth 100000

theorem oc_take {w : World} {a : Option Addr} {N c : Nat} {l : List Oc} (h : RdO w (.slice a N c) l) (hN : l.length = N) (k : Nat) (hk : k ≤ N) : ∃ v, (∀ w', (Instr.slice 23 (.slice a N c) none (some (.int .i64 (k : Int))) none).run Tryd.prog w' = .ok v w') ∧ RdO w v (l.take k) := by
  have hs : ∀ w : World, (sizeOf (Tryd.prog.elem 23)).run Tryd.prog w = .ok 7 w := fun w => by kernel_rfl
  have hun : Tryd.prog.underlying 23 = some (.slice (Tryd.prog.elem 23)) := by kernel_rfl
  have hc : N ≤ c ∨ (N = 0) := by
    obtain ⟨_, _, ⟨h0, _⟩ | ⟨b, off, cap, hv, hc, _⟩⟩ := h
    · exact .inr (by omega)
    · simp only [Value.slice.injEq] at hv; exact .inl (by omega)
  exact ⟨sliced a 0 k c 7, fun w' => by rw [run_slice_h _ _ _ _ _ hun _ _ (by omega) (by omega), hs]; simp, rdl_take h hN k hk⟩
/-- what all three laws on traces made of numbers know -/
structure Tn (ws : List Bd) (nums : List Int) (l : List Oc) : Prop where
  sm : SmW ws
  wf : ∀ b, b ∈ ws → BdW b
  of : ∀ o, o ∈ l → OcW o
  al : l = alw ws nums (mn nums)
theorem tn_of (n : Int) (nums : List Int) : Tn (mkW (n % 1048576)) nums (alw (mkW (n % 1048576)) nums (mn nums)) := by
  have h0 := Int.emod_nonneg n (show (1048576 : Int) ≠ 0 by omega)
  have hs := mkW_sm h0
  exact ⟨hs, mkW_w h0, alw_w hs nums _ (by unfold mn; omega), rfl⟩
theorem Tn.lg {ws : List Bd} {nums : List Int} {l : List Oc} (h : Tn ws nums l) (m : Int) : Lg ws l (ocN ws (m % 1073741824) (tkL l)) := by
  have := lg_of h.sm nums (mn nums) (by unfold mn; omega) m
  rw [← h.al] at this
  exact this
theorem Tn.ocw {ws : List Bd} {nums : List Int} {l : List Oc} (h : Tn ws nums l) (m : Int) : OcW (ocN ws (m % 1073741824) (tkL l)) := by
  have := ocw_of h.sm nums (mn nums) (by unfold mn; omega) m
  rw [← h.al] at this
  exact this
theorem Tn.tick {ws : List Bd} {nums : List Int} {l : List Oc} (h : Tn ws nums l) : 0 ≤ tkL l ∧ tkL l ≤ 10000 := by
  have := (alw_ok h.sm nums (mn nums) (by unfold mn; omega)).tr.last
  rw [← h.al] at this
  unfold mn at this
  omega
theorem Tn.len {ws : List Bd} {nums : List Int} {l : List Oc} (h : Tn ws nums l) : l.length ≤ 40 := by
  have := (alw_ok h.sm nums (mn nums) (by unfold mn; omega)).len
  rw [← h.al] at this
  unfold mn at this
  omega
theorem of_snoc {l : List Oc} {o : Oc} (h : ∀ x, x ∈ l → OcW x) (ho : OcW o) : ∀ x, x ∈ l ++ [o] → OcW x := fun x hx => by
  rcases List.mem_append.1 hx with hx | hx
  · exact h x hx
  · rw [List.mem_singleton.1 hx]; exact ho
set_option maxHeartbeats 8000000 in
theorem begins_any (n more cut : Int) (hn : Ib n) (hmo : Ib more) (hcu : Ib cut) (nv : Value) (nums : List Int) (hnb : ∀ x, x ∈ nums → Ib x) (w : World) (hnr : RdI .i64 w nv nums) (hsd : SD w) (hfc : FC w) :
    Calls Tryd.prog 6 #[.int .i64 n, nv, .int .i64 more, .int .i64 cut] w fun e w' => e = .returned (.bool true) ∧ Below w.heap.size w w' := by
  obtain ⟨an, cn, rfl⟩ := hnr.form
  obtain ⟨MN, hMN⟩ : ∃ MN, nums.length = MN := ⟨_, rfl⟩
  rw [hMN] at hnr ⊢
  clear hMN
  have HSD := Lib.hid hsd
  have HFC := Lib.hid hfc
  have HNR := Lib.hid hnr
  have HNB := Lib.hid hnb
  have HT := tn_of n nums
  obtain ⟨ws, hws⟩ : ∃ ws, mkW (n % 1048576) = ws := ⟨_, rfl⟩
  have HWD := Lib.hid (mkworld_any n hn)
  rw [hws] at HT HWD
  have hal : alw ws nums (mn nums) = alw ws nums (mn nums) := rfl
  obtain ⟨l, hl⟩ : ∃ l, alw ws nums (mn nums) = l := ⟨_, rfl⟩
  rw [hl] at HT
  obtain ⟨N, hN⟩ : ∃ N, ws.length = N := ⟨_, rfl⟩
  obtain ⟨L, hL⟩ : ∃ L, l.length = L := ⟨_, rfl⟩
  have HLE := Lib.hid hl
  have HN := Lib.hid hN
  have HL := Lib.hid hL
  have HTN := Lib.hid HT
  have hL40 := HT.len
  rw [hL] at hL40
  rw [hN] at HWD
  clear hsd hfc hnr hnb hws hal hl hN hL HT
  go_enter Tryd.func6, Tryd.ntmps6
  go_wp2_with fail
  refine (known_any w HSD.out HFC.out).mono ?_
  rintro e w1 ⟨rfl, hb⟩
  have HB := Lib.hid hb
  replace HNR := Lib.hid (HNR.out.keep hb)
  clear hb
  go_wp2_with fail
  refine (HWD.out w1).mono ?_
  rintro e w2 ⟨va, vc, rfl, hr, hb⟩
  replace HB := Lib.hid (Below.next HB.out hb)
  replace HNR := Lib.hid (HNR.out.keep hb)
  have HRB := Lib.hid hr
  have HB2 := HB
  clear hb hr HWD
  have HAL := Lib.hid (allowedN_any ws HTN.out.sm HTN.out.wf _ _ nums HNB.out w2 HRB.out HNR.out (HSD.out.keep HB.out) (HFC.out.keep HB.out))
  rw [HLE.out, HL.out] at HAL
  go_wp2_with fail
  refine HAL.out.mono ?_
  rintro e w3 ⟨la, lc, rfl, ho, hb⟩
  have HRB2 := HRB
  have HB23 := Lib.hid hb
  have HBW2 := HB
  replace HB := Lib.hid (Below.next HB.out hb)
  replace HRB := Lib.hid (HRB.out.keep hb)
  have HOW := Lib.hid ho
  have HRO := Lib.hid (oc_own ho HL.out)
  have HBASE : Hid (w.heap.size ≤ w2.heap.size ∧ w2.heap.size ≤ w3.heap.size) := Lib.hid ⟨HB2.out.size, hb.size⟩
  clear hb ho HAL HNR HB2
  have HLG := Lib.hid (HTN.out.lg more)
  have HOCW := Lib.hid (HTN.out.ocw more)
  have htk := HTN.out.tick
  obtain ⟨tk, hteq⟩ : ∃ tk, tkL l = tk := ⟨_, rfl⟩
  have HTK := Lib.hid hteq
  have HOC := Lib.hid (fun W' (hb : Below w3.heap.size w3 W') => outcome_any ws (.slice va N vc) more tk hmo (by rw [← hteq]; omega) HTN.out.sm.pos (by have := HTN.out.sm.len; omega) W' (HRB.out.keep hb))
  rw [hteq] at HLG HOCW htk
  obtain ⟨o, hoe⟩ : ∃ o, ocN ws (more % 1073741824) tk = o := ⟨_, rfl⟩
  rw [hoe] at HLG HOCW HOC
  clear hteq hoe
  have hLw : IntKind.i64.wrap ((L : Int) - 1) = (L : Int) - 1 := IntWalk.i64_in _ (by omega)
  have hLw1 : IntKind.i64.wrap ((L : Int) + 1) = (L : Int) + 1 := IntWalk.i64_in _ (by omega)
  obtain ⟨c, HCU, hcL⟩ : ∃ c : Nat, Hid (cut % ((L : Int) + 1) = (c : Int)) ∧ c ≤ L := ⟨(cut % ((L : Int) + 1)).toNat, Lib.hid (by have := Int.emod_nonneg cut (show (L : Int) + 1 ≠ 0 by omega); omega), by have := Int.emod_lt_of_pos cut (show (0 : Int) < (L : Int) + 1 by omega); omega⟩
  have HMC := Lib.hid (mod_any cut ((L : Int) + 1) (by omega) (by omega) hcu)
  rw [HCU.out] at HMC
  obtain ⟨hA1, hA2, d, hA3, hA4, hA5⟩ := HLG.out.begins c (by have := HL.out; omega)
  rw [HL.out] at hA2 hA4 hA5
  have HA1 := Lib.hid hA1
  have HA2 := Lib.hid hA2
  have HA3 := Lib.hid hA3
  have HA4 := Lib.hid hA4
  have HA5 := Lib.hid hA5
  obtain ⟨sv, hsl, hst⟩ := oc_take HRO.out HL.out c hcL
  have HST := Lib.hid hst
  have HL40 := Lib.hid hL40
  clear hA1 hA2 hA3 hA4 hA5 hst hcL
  by_cases h0 : L = 0
  · have ht0 : tk = 0 := by have := HTK.out; unfold tkL at this; rw [HL.out, if_pos h0] at this; omega
    subst ht0
    have d1 : decide ((L : Int) > 0) = false := nb (by omega)
    have d1' : decide (0 < L) = false := nb (by omega)
    clear h0
    go_upto_region 9 with fail
    go_wp2_with fail
    refine (own_any _ l (by have := HL.out; have := HL40.out; omega) w3 HRO.out).mono ?_
    rintro e w4 ⟨a4, c4, rfl, ho, hb⟩
    rw [HL.out] at ho ⊢
    have HOW4 := Lib.hid ho
    have HB3 := Lib.hid hb
    clear ho hb
    go_wp2_with fail
    refine (HOC.out w4 HB3.out).mono ?_
    rintro e w5 ⟨rfl, hb⟩
    replace HOW4 := Lib.hid (own_keepB hb HOW4.out)
    replace HB3 := Lib.hid (Below.next HB3.out hb)
    have HRD : Hid (∀ A T, A = (rcs ocR [o]).toArray → RdS (w5.alloc (.cells A T)) 7 (.slice (some ⟨w5.heap.size, 0, none⟩) 1 1) 1 (rcs ocR [o])) := Lib.hid fun A T hA => rdl_new ocR w5 T [o] A hA 1 rfl (by decide)
    clear hb
    go_wp2_with (first | (at_builtin; refine wpList_app rfl (.tmp 45) (.tmp 50) 23 rfl w3.heap.size 28 _ 7 56 EOc _ _ _ rfl (HOW4.out.alloc _) _ 1 (rcs ocR [o]) rfl (HRD.out _ _ rfl) (rcs_one _ _) ?c1 ?c2 ?c3 ?_) | fail)
    case c1 => have := HL40.out; unfold maxLen; omega
    case c2 => have := HL40.out; omega
    case c3 => have := HB3.out.size; simp; omega
    intro a7 c7 w7 hown7 hg7 hb7
    have hlo : (l ++ [o]).length = L + 1 := by rw [List.length_append, HL.out]; rfl
    have HRL : Hid (RdO w7 (.slice a7 (L + 1) c7) (l ++ [o])) := Lib.hid (oc_own (base := w3.heap.size) (by rw [rcs_append]; with_reducible exact hown7) hlo)
    have HLO := Lib.hid hlo
    replace HB3 : Hid (Below w3.heap.size w3 w7) := Lib.hid ((Below.al HB3.out _).trans hb7)
    replace HB := Lib.hid (HB.out.trans (HB3.out.mono HB.out.size))
    clear hown7 hg7 hb7 HOW4 HRD hlo
    go_wp2_with fail
    refine (HMC.out w7).mono ?_
    rintro e w8 ⟨rfl, rfl⟩
    have HC := Lib.hid (allowed_any (.slice va N vc) sv ws (l.take c) w7 ⟨HTN.out.wf, fun x hx => HTN.out.of x (List.mem_of_mem_take hx), HRB.out.keep HB3.out, HST.out.keep HB3.out, HSD.out.keep HB.out, HFC.out.keep HB.out⟩)
    rw [HA1.out] at HC
    go_wp2_with fail
    refine HC.out.mono ?_
    rintro e w8 ⟨rfl, hb⟩
    replace HRL := Lib.hid (HRL.out.keep hb)
    replace HB := Lib.hid (Below.next HB.out hb)
    replace HB3 := Lib.hid (Below.next HB3.out hb)
    clear hb HC
    have HC := Lib.hid (allowed_any _ _ ws l w8 ⟨HTN.out.wf, HTN.out.of, HRB.out.keep HB3.out, HRO.out.keep HB3.out, HSD.out.keep HB.out, HFC.out.keep HB.out⟩)
    rw [HA2.out] at HC
    go_wp2_with fail
    refine HC.out.mono ?_
    rintro e w9 ⟨rfl, hb⟩
    replace HRL := Lib.hid (HRL.out.keep hb)
    replace HB := Lib.hid (Below.next HB.out hb)
    replace HB3 := Lib.hid (Below.next HB3.out hb)
    clear hb HC
    have HC := Lib.hid (allowed_any (.slice va N vc) (.slice a7 (L + 1) c7) ws (l ++ [o]) w9 ⟨HTN.out.wf, of_snoc HTN.out.of HOCW.out, HRB.out.keep HB3.out, HRL.out, HSD.out.keep HB.out, HFC.out.keep HB.out⟩)
    rw [HA3.out] at HC
    go_wp2_with fail
    refine HC.out.mono ?_
    rintro e w10 ⟨rfl, hb⟩
    replace HRL := Lib.hid (HRL.out.keep hb)
    replace HB := Lib.hid (Below.next HB.out hb)
    replace HB3 := Lib.hid (Below.next HB3.out hb)
    clear hb HC
    obtain ⟨b5, o5, he5, hc5, p0, p1, p2, p3, p4, p5, p6⟩ := RdO.at HRL.out HLO.out L (by omega)
    subst he5
    have hgo : gx (l ++ [o]) L = o := by have := HL.out; rw [← this]; exact getD_app2
    rw [hgo] at p0 p1 p2 p3 p4 p5 p6
    have k1 : (0 : Int) ≤ (L : Int) := by omega
    have k2 : (L : Int) < ((L + 1 : Nat) : Int) := by omega
    have k3 : (L : Int) < (L : Int) + 1 := by omega
    have k4 : IntKind.i64.wrap (L : Int) = (L : Int) := IntWalk.i64_in _ (by have := HL40.out; omega)
    have HC := Lib.hid (next_any _ _ ws l o HOCW.out w10 ⟨HTN.out.wf, HTN.out.of, HRB.out.keep HB3.out, HRO.out.keep HB3.out, HSD.out.keep HB.out, HFC.out.keep HB.out⟩)
    unfold NxR at HC
    rw [HA5.out] at HC
    clear hgo
    by_cases hd : d = L + 1
    · have HD := Lib.hid hd
      rw [yb hd] at HC
      have e1 : ((d : Int) == ((L + 1 : Nat) : Int)) = true := by simp; omega
      have e1' : ((d : Int) == (L : Int) + 1) = true := by simp; omega
      have e2 : decide ((d : Int) ≥ (L : Int)) = true := yb (by omega)
      have e2' : decide (L ≤ d) = true := yb (by omega)
      clear hd
      go_wp2_with fail
      refine HC.out.mono ?_
      rintro e w11 ⟨rfl, hb⟩
      replace HB := Lib.hid (Below.next HB.out hb)
      clear hb HC p0 p1 p2 p3 p4 p5 p6
      go_wp2_with fail
      go_ret
      exact ⟨rfl, HB.out⟩
    · rw [nb hd] at HC
      have e1 : ((d : Int) == ((L + 1 : Nat) : Int)) = false := by simp; omega
      have e1' : ((d : Int) == (L : Int) + 1) = false := by simp; omega
      have e2 : decide ((d : Int) ≥ (L : Int)) = true := yb (by have := HA4.out; omega)
      have e2' : decide (L ≤ d) = true := yb (by have := HA4.out; omega)
      clear hd
      go_wp2_with fail
      refine HC.out.mono ?_
      rintro e w11 ⟨rfl, hb⟩
      replace HB := Lib.hid (Below.next HB.out hb)
      clear hb HC p0 p1 p2 p3 p4 p5 p6
      go_wp2_with fail
      go_ret
      exact ⟨rfl, HB.out⟩
  · obtain ⟨p, hp⟩ : ∃ p, L = p + 1 := ⟨L - 1, by omega⟩
    have d1 : decide ((L : Int) > 0) = true := yb (by omega)
    have d1' : decide (0 < L) = true := yb (by omega)
    obtain ⟨b4, o4, he4, hc4, g0, _⟩ := RdO.at HRO.out HL.out p (by omega)
    subst he4
    have hgt : (gx l p).tk = tk := by have := HTK.out; unfold tkL at this; rw [HL.out, if_neg h0] at this; rw [← this, hp]; rfl
    rw [hgt] at g0
    have hLp : (L : Int) - 1 = (p : Int) := by omega
    have hLw2 : IntKind.i64.wrap ((L : Int) - 1) = (p : Int) := by rw [hLw]; exact hLp
    have j1 : (0 : Int) ≤ (p : Int) := by omega
    have j2 : (p : Int) < (L : Int) := by omega
    clear h0 hp hgt hLp hLw
    go_upto_region 9 with fail
    go_wp2_with fail
    refine (own_any _ l (by have := HL.out; have := HL40.out; omega) w3 HRO.out).mono ?_
    rintro e w4 ⟨a4, c4, rfl, ho, hb⟩
    rw [HL.out] at ho ⊢
    have HOW4 := Lib.hid ho
    have HB3 := Lib.hid hb
    clear ho hb
    go_wp2_with fail
    refine (HOC.out w4 HB3.out).mono ?_
    rintro e w5 ⟨rfl, hb⟩
    replace HOW4 := Lib.hid (own_keepB hb HOW4.out)
    replace HB3 := Lib.hid (Below.next HB3.out hb)
    have HRD : Hid (∀ A T, A = (rcs ocR [o]).toArray → RdS (w5.alloc (.cells A T)) 7 (.slice (some ⟨w5.heap.size, 0, none⟩) 1 1) 1 (rcs ocR [o])) := Lib.hid fun A T hA => rdl_new ocR w5 T [o] A hA 1 rfl (by decide)
    clear hb
    go_wp2_with (first | (at_builtin; refine wpList_app rfl (.tmp 45) (.tmp 50) 23 rfl w3.heap.size 28 _ 7 56 EOc _ _ _ rfl (HOW4.out.alloc _) _ 1 (rcs ocR [o]) rfl (HRD.out _ _ rfl) (rcs_one _ _) ?c1 ?c2 ?c3 ?_) | fail)
    case c1 => have := HL40.out; unfold maxLen; omega
    case c2 => have := HL40.out; omega
    case c3 => have := HB3.out.size; simp; omega
    intro a7 c7 w7 hown7 hg7 hb7
    have hlo : (l ++ [o]).length = L + 1 := by rw [List.length_append, HL.out]; rfl
    have HRL : Hid (RdO w7 (.slice a7 (L + 1) c7) (l ++ [o])) := Lib.hid (oc_own (base := w3.heap.size) (by rw [rcs_append]; with_reducible exact hown7) hlo)
    have HLO := Lib.hid hlo
    replace HB3 : Hid (Below w3.heap.size w3 w7) := Lib.hid ((Below.al HB3.out _).trans hb7)
    replace HB := Lib.hid (HB.out.trans (HB3.out.mono HB.out.size))
    clear hown7 hg7 hb7 HOW4 HRD hlo
    go_wp2_with fail
    refine (HMC.out w7).mono ?_
    rintro e w8 ⟨rfl, rfl⟩
    have HC := Lib.hid (allowed_any (.slice va N vc) sv ws (l.take c) w7 ⟨HTN.out.wf, fun x hx => HTN.out.of x (List.mem_of_mem_take hx), HRB.out.keep HB3.out, HST.out.keep HB3.out, HSD.out.keep HB.out, HFC.out.keep HB.out⟩)
    rw [HA1.out] at HC
    go_wp2_with fail
    refine HC.out.mono ?_
    rintro e w8 ⟨rfl, hb⟩
    replace HRL := Lib.hid (HRL.out.keep hb)
    replace HB := Lib.hid (Below.next HB.out hb)
    replace HB3 := Lib.hid (Below.next HB3.out hb)
    clear hb HC
    have HC := Lib.hid (allowed_any _ _ ws l w8 ⟨HTN.out.wf, HTN.out.of, HRB.out.keep HB3.out, HRO.out.keep HB3.out, HSD.out.keep HB.out, HFC.out.keep HB.out⟩)
    rw [HA2.out] at HC
    go_wp2_with fail
    refine HC.out.mono ?_
    rintro e w9 ⟨rfl, hb⟩
    replace HRL := Lib.hid (HRL.out.keep hb)
    replace HB := Lib.hid (Below.next HB.out hb)
    replace HB3 := Lib.hid (Below.next HB3.out hb)
    clear hb HC
    have HC := Lib.hid (allowed_any (.slice va N vc) (.slice a7 (L + 1) c7) ws (l ++ [o]) w9 ⟨HTN.out.wf, of_snoc HTN.out.of HOCW.out, HRB.out.keep HB3.out, HRL.out, HSD.out.keep HB.out, HFC.out.keep HB.out⟩)
    rw [HA3.out] at HC
    go_wp2_with fail
    refine HC.out.mono ?_
    rintro e w10 ⟨rfl, hb⟩
    replace HRL := Lib.hid (HRL.out.keep hb)
    replace HB := Lib.hid (Below.next HB.out hb)
    replace HB3 := Lib.hid (Below.next HB3.out hb)
    clear hb HC
    obtain ⟨b5, o5, he5, hc5, p0, p1, p2, p3, p4, p5, p6⟩ := RdO.at HRL.out HLO.out L (by omega)
    subst he5
    have hgo : gx (l ++ [o]) L = o := by have := HL.out; rw [← this]; exact getD_app2
    rw [hgo] at p0 p1 p2 p3 p4 p5 p6
    have k1 : (0 : Int) ≤ (L : Int) := by omega
    have k2 : (L : Int) < ((L + 1 : Nat) : Int) := by omega
    have k3 : (L : Int) < (L : Int) + 1 := by omega
    have k4 : IntKind.i64.wrap (L : Int) = (L : Int) := IntWalk.i64_in _ (by have := HL40.out; omega)
    have HC := Lib.hid (next_any _ _ ws l o HOCW.out w10 ⟨HTN.out.wf, HTN.out.of, HRB.out.keep HB3.out, HRO.out.keep HB3.out, HSD.out.keep HB.out, HFC.out.keep HB.out⟩)
    unfold NxR at HC
    rw [HA5.out] at HC
    clear hgo
    by_cases hd : d = L + 1
    · have HD := Lib.hid hd
      rw [yb hd] at HC
      have e1 : ((d : Int) == ((L + 1 : Nat) : Int)) = true := by simp; omega
      have e1' : ((d : Int) == (L : Int) + 1) = true := by simp; omega
      have e2 : decide ((d : Int) ≥ (L : Int)) = true := yb (by omega)
      have e2' : decide (L ≤ d) = true := yb (by omega)
      clear hd
      go_wp2_with fail
      refine HC.out.mono ?_
      rintro e w11 ⟨rfl, hb⟩
      replace HB := Lib.hid (Below.next HB.out hb)
      clear hb HC p0 p1 p2 p3 p4 p5 p6
      go_wp2_with fail
      go_ret
      exact ⟨rfl, HB.out⟩
    · rw [nb hd] at HC
      have e1 : ((d : Int) == ((L + 1 : Nat) : Int)) = false := by simp; omega
      have e1' : ((d : Int) == (L : Int) + 1) = false := by simp; omega
      have e2 : decide ((d : Int) ≥ (L : Int)) = true := yb (by have := HA4.out; omega)
      have e2' : decide (L ≤ d) = true := yb (by have := HA4.out; omega)
      clear hd
      go_wp2_with fail
      refine HC.out.mono ?_
      rintro e w11 ⟨rfl, hb⟩
      replace HB := Lib.hid (Below.next HB.out hb)
      clear hb HC p0 p1 p2 p3 p4 p5 p6
      go_wp2_with fail
      go_ret
      exact ⟨rfl, HB.out⟩
end Go.Proofs.YtcjlbpndgjapiaaDoor
