




/- The law's allowed traces made of numbers. -/
import Derived.Test.YtcjlbpndgjapiaaDoorOc
namespace Go.Proofs.YtcjlbpndgjapiaaDoor
open Go.RowKit
set_option linter.unusedSimpArgs false
set_option linter.unusedVariables false
set_option maxRecDepth 100000

theorem smo_w {ws : List Bd} {o : Oc} {t : Int} (h : SmO ws o t) (ht : 0 ≤ t ∧ t ≤ 10000) : OcW o := by
  obtain ⟨h1, h2, h3, _, b1, b2, b3, b4, b5, b6, b7, b8⟩ := h
  have hid : 0 ≤ o.id.nd := by
    unfold oneE at h1
    split at h1
    · cases h1
    · split at h1
      · cases h1
      · rename_i hc
        have hi : okI o = true := by cases hx : okI o with | true => rfl | false => exact absurd (.inr (.inr (.inr (.inr (.inl hx))))) hc
        unfold okI at hi
        split at hi
        · have := of_decide_eq_true hi
          unfold chkI at this
          split at this
          · cases this
          · omega
        · have := of_decide_eq_true hi
          rw [this]; decide
  refine ⟨?_, ?_, ?_, ⟨?_, ?_, ?_⟩, ?_⟩
  · unfold Ib; omega
  · unfold Ib; omega
  · unfold Ib; omega
  · unfold Ib; omega
  · unfold Ub; omega
  · unfold Ib; omega
  · unfold Ib; omega
theorem alw_w {ws : List Bd} (hw : SmW ws) (nums : List Int) : ∀ k, k ≤ 1000 → ∀ o, o ∈ alw ws nums k → OcW o
  | 0, _, o, ho => by cases ho
  | k + 1, hk, o, ho => by
    have ih := alw_w hw nums k (by omega)
    have ha := alw_ok hw nums k (by omega)
    rw [alw] at ho
    split at ho
    · rcases List.mem_append.1 ho with h | h
      · exact ih o h
      · rw [List.mem_singleton.1 h]
        exact smo_w (oc_sm hw (by omega) (by have := ha.tr.last; omega)) (by have := ha.tr.last; omega)
    · exact ih o ho
theorem ocw_of {ws : List Bd} (hw : SmW ws) (nums : List Int) (k : Nat) (hk : k ≤ 40) (m : Int) : OcW (ocN ws (m % 1073741824) (tkL (alw ws nums k))) := by
  have ha := alw_ok hw nums k (by omega)
  exact smo_w (oc_sm hw (by omega) (by have := ha.tr.last; omega)) (by have := ha.tr.last; omega)
theorem oc_own {W : World} {base n c : Nat} {a : Option Addr} {l : List Oc} (h : W.ownsRow base 28 7 (.slice a n c) n (rcs ocR l)) (hn : l.length = n) : RdO W (.slice a n c) l := by
  subst hn
  exact RdL.of_owns h
theorem own_keepB {A B : World} {base : Nat} {e : TypeId} {size : Nat} {v : Value} {n : Nat} {xs : List Value} (hb : Below A.heap.size A B) (h : A.ownsRow base e size v n xs) : B.ownsRow base e size v n xs :=
  own_keepO h (below_grown hb) (fun r e => by cases e)
def mn (nums : List Int) : Nat := min nums.length 40
set_option maxHeartbeats 8000000 in
theorem allowedN_any (ws : List Bd) (hw : SmW ws) (hwf : ∀ b, b ∈ ws → BdW b) (v nv : Value) (nums : List Int) (hnb : ∀ n, n ∈ nums → Ib n) (w : World) (h : RdB w v ws) (hnr : RdI .i64 w nv nums) (hsd : SD w) (hfc : FC w) :
    Calls Tryd.prog 34 #[v, nv] w fun e w' => ∃ a c, e = .returned (.tuple #[.slice a (alw ws nums (mn nums)).length c, .bool true]) ∧ w'.ownsRow w.heap.size 28 7 (.slice a (alw ws nums (mn nums)).length c) (alw ws nums (mn nums)).length (rcs ocR (alw ws nums (mn nums))) ∧ Below w.heap.size w w' := by
  obtain ⟨an, cn, rfl⟩ := hnr.form
  obtain ⟨vb, vbn, hvb⟩ := h.form
  obtain ⟨NB, hNB⟩ : ∃ NB, ws.length = NB := ⟨_, rfl⟩
  rw [hNB] at hvb
  clear hNB
  obtain ⟨M, hM⟩ : ∃ M, nums.length = M := ⟨_, rfl⟩
  obtain ⟨E, hE⟩ : ∃ E, mn nums = E := ⟨_, rfl⟩
  have hE2 : E ≤ M ∧ E ≤ 40 ∧ (E = M ∨ E = 40) := by unfold mn at hE; omega
  have hmx := hnr.2.1
  unfold maxLen at hmx
  rw [hM] at hnr hmx ⊢
  rw [hE]
  have HSM := Lib.hid hw
  have HWF := Lib.hid hwf
  have HNB := Lib.hid hnb
  have HRB := Lib.hid h
  have HNR := Lib.hid hnr
  have HSD := Lib.hid hsd
  have HFC := Lib.hid hfc
  have HM := Lib.hid hM
  have HEE := Lib.hid hE2
  clear hw hwf hnb h hnr hsd hfc hM hE hE2
  subst hvb
  go_enter Tryd.func34, Tryd.ntmps34
  go_wp2_with fail
  go_loopw [6, 7, 8] (fun sv tv iv wr => ∃ (k L : Nat) (a : Option Addr) (cp : Nat), k ≤ E ∧ iv = .int .i64 k ∧ tv = .int .i64 (tkL (alw ws nums k)) ∧ sv = .slice a L cp ∧ (alw ws nums k).length = L ∧ wr.ownsRow w.heap.size 28 7 (.slice a L cp) L (rcs ocR (alw ws nums k)) ∧ Below w.heap.size w wr) (fun _ _ iv _ => E - (intOf iv).toNat)
  case atStart => exact ⟨0, 0, none, 0, Nat.zero_le _, rfl, rfl, rfl, rfl, ⟨rfl, .inl ⟨rfl, rfl⟩⟩, Below.refl _ _⟩
  case round =>
    obtain ⟨k, L, a, cp, hk, rfl, rfl, rfl, hL, hOW, hB⟩ := hrel
    have HOW := Lib.hid hOW
    have HB := Lib.hid hB
    have HL := Lib.hid hL
    have HK := Lib.hid hk
    clear hOW hB hL
    by_cases hlt : k < E
    · have d2 : decide ((k : Int) < (M : Int)) = true := yb (by have := HEE.out; omega)
      have d2' : decide (k < M) = true := yb (by have := HEE.out; omega)
      have d3 : decide ((k : Int) < 40) = true := yb (by have := HEE.out; omega)
      have d3' : decide (k < 40) = true := yb (by have := HEE.out; omega)
      obtain ⟨b1, o1, rfl, hc1, g0⟩ := RdI.at' (HNR.out.keep HB.out) HM.out k (by have := HEE.out; omega)
      have HLT := Lib.hid hlt
      have hA := alw_ok HSM.out nums k (by have := HEE.out; omega)
      have hAW := alw_w HSM.out nums k (by have := HEE.out; omega)
      have hfE := alw_fatE HSM.out (by have := HEE.out; omega) hA
      have htb : 0 ≤ tkL (alw ws nums k) ∧ tkL (alw ws nums k) ≤ 10000 := by have := hA.tr.last; have := HEE.out; omega
      have hoc := ocw_of HSM.out nums k (by have := HEE.out; omega) (nums.getD k 0)
      have hnk : Ib (nums.getD k 0) := HNB.out _ (getD_mem (by have := HEE.out; have := HM.out; omega))
      have hll := hA.len
      have hstep : alw ws nums (k + 1) = if (nxtV ws (alw ws nums k) (ocN ws (nums.getD k 0 % 1073741824) (tkL (alw ws nums k)))).1 = true then alw ws nums k ++ [ocN ws (nums.getD k 0 % 1073741824) (tkL (alw ws nums k))] else alw ws nums k := rfl
      obtain ⟨l, hl⟩ : ∃ l, alw ws nums k = l := ⟨_, rfl⟩
      have HLE := Lib.hid hl
      obtain ⟨o, ho⟩ : ∃ o, ocN ws (nums.getD k 0 % 1073741824) (tkL l) = o := ⟨_, rfl⟩
      obtain ⟨tk, htk⟩ : ∃ tk, tkL l = tk := ⟨_, rfl⟩
      rw [hl] at hA hAW hfE htb hoc hll hstep HOW HL
      rw [ho] at hoc hstep
      have hY : nxtV ws l o = ((nxtV ws l o).1, 0) := by unfold nxtV; rw [if_neg (by rw [hfE.2]; simp)]
      obtain ⟨X, hX⟩ : ∃ X, (nxtV ws l o).1 = X := ⟨_, rfl⟩
      rw [hX] at hY hstep
      have HY := Lib.hid hY
      have HST := Lib.hid hstep
      have HTK : Hid (tkL l = tk ∧ ∀ o', tkL (l ++ [o']) = o'.tk) := Lib.hid ⟨htk, fun o' => tkL_snoc l o'⟩
      have HOC := Lib.hid (outcome_any ws (.slice vb NB vbn) (nums.getD k 0) tk hnk (by omega) HSM.out.pos (by have := HSM.out.len; omega) wr (HRB.out.keep HB.out))
      rw [← htk, ho, htk] at HOC
      obtain ⟨m, hm⟩ : ∃ m, nums.getD k 0 = m := ⟨_, rfl⟩
      rw [hm] at g0 HOC
      rw [hl, htk]
      have HOCW := Lib.hid hoc
      have HAW := Lib.hid hAW
      have HLL : Hid (L ≤ 40) := Lib.hid (by have := HL.out; have := HEE.out; omega)
      have i1 : (0 : Int) ≤ (k : Int) := by omega
      have i2 : (k : Int) < (M : Int) := by have := HEE.out; omega
      have hwk : IntKind.i64.wrap (k : Int) = (k : Int) := IntWalk.i64_in _ (by omega)
      have hwk1 : IntKind.i64.wrap ((k : Int) + 1) = (k : Int) + 1 := IntWalk.i64_in _ (by omega)
      clear hA hAW hfE htb hoc hll hstep hl ho htk hY hX hm hnk hlt hk
      go_wp2_with fail
      refine HOC.out.mono ?_
      rintro e w2 ⟨rfl, hb2⟩
      clear HOC g0
      go_upto_region 7 with fail
      refine wp_name ?_
      intro W3 hW3
      have o9 : BoxN W3 w2.heap.size 28 #[.int .i64 o.tk, .int .i64 o.nd, .int .i64 o.kd, .int .i64 o.id.nd, .int .u64 o.id.sq, .int .i64 o.id.off, .int .i64 o.ot] := by rw [hW3]; exact BoxN.new _ _ _
      have hb3 : Below wr.heap.size wr W3 := by rw [hW3]; exact Below.next hb2 (Below.al (Below.refl _ _) _)
      obtain ⟨q, hq⟩ : ∃ q, w2.heap.size = q := ⟨_, rfl⟩
      rw [hq] at o9 ⊢
      have HQL : Hid (∀ z, (Value.slice a L cp).ownBlock = some z → z < q) := Lib.hid (fun z hz => by have := (World.ownsRow.lt HOW.out z hz).2; have := hb2.size; omega)
      have HO9 := Lib.hid o9
      have c0 : W3.cell? ⟨q, 0, none⟩ = some (.int .i64 o.tk) := o9.cell 0
      have c1 : W3.cell? ⟨q, 1, none⟩ = some (.int .i64 o.nd) := o9.cell 1
      have c2 : W3.cell? ⟨q, 2, none⟩ = some (.int .i64 o.kd) := o9.cell 2
      have c3 : W3.cell? ⟨q, 3, none⟩ = some (.int .i64 o.id.nd) := o9.cell 3
      have c4 : W3.cell? ⟨q, 4, none⟩ = some (.int .u64 o.id.sq) := o9.cell 4
      have c5 : W3.cell? ⟨q, 5, none⟩ = some (.int .i64 o.id.off) := o9.cell 5
      have c6 : W3.cell? ⟨q, 6, none⟩ = some (.int .i64 o.ot) := o9.cell 6
      replace HOW := Lib.hid (own_keepB hb3 HOW.out)
      replace HB := Lib.hid (HB.out.trans (hb3.mono HB.out.size))
      clear hW3 hq o9 hb2 hb3
      have HC := Lib.hid (next_any (.slice vb NB vbn) (.slice a L cp) ws l o HOCW.out W3 ⟨HWF.out, HAW.out, HRB.out.keep HB.out, oc_own HOW.out HL.out, HSD.out.keep HB.out, HFC.out.keep HB.out⟩)
      unfold NxR at HC
      rw [HY.out] at HC
      go_wp2_with fail
      refine HC.out.mono ?_
      rintro e w4 ⟨rfl, hb⟩
      have c0 := cell_later hb c0
      have c1 := cell_later hb c1
      have c2 := cell_later hb c2
      have c3 := cell_later hb c3
      have c4 := cell_later hb c4
      have c5 := cell_later hb c5
      have c6 := cell_later hb c6
      replace HO9 := Lib.hid (HO9.out.below hb)
      replace HOW := Lib.hid (own_keepB hb HOW.out)
      replace HB := Lib.hid (HB.out.trans (hb.mono HB.out.size))
      clear hb HC
      cases X with
      | true =>
        have HE2 : Hid (alw ws nums (k + 1) = l ++ [o]) := Lib.hid (by rw [HST.out, if_pos rfl])
        have HRD : Hid (∀ A T, A = (rcs ocR [o]).toArray → RdS (w4.alloc (.cells A T)) 7 (.slice (some ⟨w4.heap.size, 0, none⟩) 1 1) 1 (rcs ocR [o])) := Lib.hid fun A T hA => rdl_new ocR w4 T [o] A hA 1 rfl (by decide)
        clear HST
        have c7 := c0
        clear c7
        go_wp2_with (first | (at_builtin; refine wpList_app rfl (.tmp 39) (.tmp 41) 23 rfl w.heap.size 28 _ 7 56 EOc _ _ _ rfl (HOW.out.alloc _) _ 1 (rcs ocR [o]) rfl (HRD.out _ _ rfl) (rcs_one _ _) ?c1 ?c2 ?c3 ?_) | fail)
        case c1 => have := HLL.out; unfold maxLen; omega
        case c2 => have := HLL.out; omega
        case c3 => have := HB.out.size; simp; omega
        intro a3 c3' w5 hown3 hg3 hb3
        have HOW3 : Hid (w5.ownsRow w.heap.size 28 7 (.slice a3 (L + 1) c3') (L + 1) (rcs ocR (alw ws nums (k + 1)))) := Lib.hid (by rw [HE2.out, rcs_append]; with_reducible exact hown3)
        have HB5 : Hid (Below w.heap.size w w5) := Lib.hid ((Below.al HB.out _).trans hb3)
        have hq5 := HQL.out
        have ho5 : BoxN w5 q 28 #[.int .i64 o.tk, .int .i64 o.nd, .int .i64 o.kd, .int .i64 o.id.nd, .int .u64 o.id.sq, .int .i64 o.id.off, .int .i64 o.ot] := BoxN.kept ((HO9.out).alloc _) hg3 (fun e => by have := hq5 q e.symm; omega)
        have c0 : w5.cell? ⟨q, 0, none⟩ = some (.int .i64 o.tk) := ho5.cell 0
        clear hown3 hg3 hb3 HOW HB HRD hq5 ho5 HO9
        go_wp2_with fail
        go_roundw
        case rel => exact ⟨k + 1, L + 1, a3, c3', by have := HLT.out; omega, by go_num, by rw [HE2.out, HTK.out.2], rfl, by rw [HE2.out, List.length_append, HL.out]; rfl, HOW3.out, HB5.out⟩
        case measure => simp [intOf]; have := HLT.out; omega
      | false =>
        have HE2 : Hid (alw ws nums (k + 1) = l) := Lib.hid (by rw [HST.out, if_neg (by simp)])
        clear HST c0 c1 c2 c3 c4 c5 c6 HO9 HQL
        go_wp2_with fail
        go_roundw
        case rel => exact ⟨k + 1, L, a, cp, by have := HLT.out; omega, by go_num, by rw [HE2.out, HTK.out.1], rfl, by rw [HE2.out, HL.out], by rw [HE2.out]; exact HOW.out, HB.out⟩
        case measure => simp [intOf]; have := HLT.out; omega
    · obtain rfl : k = E := by have := HK.out; omega
      by_cases h5 : k < M
      · have d2 : decide ((k : Int) < (M : Int)) = true := yb (by omega)
        have d2' : decide (k < M) = true := yb h5
        have d3 : decide ((k : Int) < 40) = false := nb (by have := HEE.out; omega)
        have d3' : decide (k < 40) = false := nb (by have := HEE.out; omega)
        clear hlt hk h5
        go_wp2_with fail
        go_ret2
        exact ⟨a, cp, by rw [HL.out]; rfl, by rw [HL.out]; exact HOW.out, HB.out⟩
      · have d2 : decide ((k : Int) < (M : Int)) = false := nb (by omega)
        have d2' : decide (k < M) = false := nb h5
        clear hlt hk h5
        go_wp2_with fail
        go_ret2
        exact ⟨a, cp, by rw [HL.out]; rfl, by rw [HL.out]; exact HOW.out, HB.out⟩
end Go.Proofs.YtcjlbpndgjapiaaDoor
