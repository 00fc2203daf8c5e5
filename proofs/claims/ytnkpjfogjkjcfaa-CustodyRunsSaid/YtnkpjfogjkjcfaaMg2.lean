




/- Custody: the reference: one text out of: re rf rm rm2 rm3 rm4 rst rz ru. -/
import Derived.Test.YtnkpjfogjkjcfaaRp
import Derived.Test.YtnkpjfogjkjcfaaQ
import Derived.Test.YtnkpjfogjkjcfaaCv
import Derived.Test.YtnkpjfogjkjcfaaRo
import Derived.Test.YtnkpjfogjkjcfaaV
import Derived.Test.YtnkpjfogjkjcfaaW
import Derived.Test.YtnkpjfogjkjcfaaZ
import Derived.Test.YtnkpjfogjkjcfaaLt
import Derived.Test.YtnkpjfogjkjcfaaLo
import Derived.Test.YtnkpjfogjkjcfaaSa
import Derived.Test.YtnkpjfogjkjcfaaAw
namespace Go.Proofs.Ytnkpjfogjkjcfaa
open Go.RowKit
set_option linter.unusedSimpArgs false
set_option linter.unusedVariables false
set_option maxRecDepth 100000

/-- the frames kept, the first k looked through -/
def fK (n : Int) (l : List Ps) (k : Nat) : List Ps := (l.take k).filter (fun f => !dlP n f)
theorem fK_yes (n : Int) (l : List Ps) {k : Nat} (hk : k < l.length) (h : dlP n (gp l k) = false) : fK n l (k + 1) = fK n l k ++ [gp l k] := by
  have h1 : gp l k = l[k] := by unfold gp; rw [List.getD_eq_getElem?_getD, List.getElem?_eq_getElem hk]; rfl
  unfold fK
  rw [List.take_succ_eq_append_getElem hk, List.filter_append, ← h1, List.filter_cons, h]
  rfl
theorem fK_no (n : Int) (l : List Ps) {k : Nat} (hk : k < l.length) (h : dlP n (gp l k) = true) : fK n l (k + 1) = fK n l k := by
  have h1 : gp l k = l[k] := by unfold gp; rw [List.getD_eq_getElem?_getD, List.getElem?_eq_getElem hk]; rfl
  unfold fK
  rw [List.take_succ_eq_append_getElem hk, List.filter_append, ← h1, List.filter_cons, h]
  exact List.append_nil _
theorem fK_le (n : Int) (l : List Ps) (k : Nat) : (fK n l k).length ≤ k := by
  unfold fK
  exact Nat.le_trans (List.length_filter_le _ _) (by rw [List.length_take]; omega)
set_option maxHeartbeats 4000000 in
theorem rrestart_any (w : World) (B g cap : Nat) (fv : Value) (q : List Cq) (X : Wd) (n : Int) (hn : isN X n) (hs : Sml X) (hB : B ≤ w.heap.size) (h : OR w B g cap fv q X) :
    Calls Try.prog 63 #[wV X (.slice (some ⟨g, 0, none⟩) X.cs.length cap) fv, .int .i64 n] w (ROut w B g cap fv q (rstW X n)) := by
  obtain ⟨i, hi, hfi, hat0⟩ := atC_get hn
  obtain ⟨fa, fc, rfl⟩ := owns_form h.frs
  obtain ⟨XE, HXE⟩ : ∃ XE, Hid (rstW X n = XE) := ⟨_, Lib.hid rfl⟩
  rw [HXE.out]
  obtain ⟨F, hF⟩ : ∃ F, X.fr.length = F := ⟨_, rfl⟩
  obtain ⟨N, hN⟩ : ∃ N, X.cs.length = N := ⟨_, rfl⟩
  have hFs : F ≤ 100000 := by rw [← hF]; exact hs.fr
  have hNs : N ≤ 100000 := by rw [← hN]; exact hs.cs
  obtain ⟨c, HC⟩ : ∃ c, Hid (gc X.cs i = c) := ⟨_, Lib.hid rfl⟩
  obtain ⟨y, HY⟩ : ∃ y, Hid (gq q i = y) := ⟨_, Lib.hid rfl⟩
  -- the copies behind the two stores
  obtain ⟨X1, HX1⟩ : ∃ X1, Hid (setI X i (hld { c with tk := [], kp := [] }) = X1) := ⟨_, Lib.hid rfl⟩
  have hend : XE = { X1 with cs := X1.cs.map (Fh n), fr := X.fr.filter (fun f => !dlP n f) } := by
    rw [← HXE.out, ← HX1.out]
    unfold rstW
    rw [hat0, HC.out]
    have e0 : hld { c with tk := [], kp := [] } = { hld c with tk := [], kp := [] } := by unfold hld; split <;> rename_i e <;> simp [e] at * <;> split <;> simp_all
    have e1 : setC X n { hld c with tk := [], kp := [] } = setI X i { hld c with tk := [], kp := [] } := by unfold setC setI; rw [show (n - 1).toNat = i by omega]
    have efn : (fun f : Ps => decide (¬ (f.fr = n ∨ f.tt = n))) = (fun f => !dlP n f) := by
      funext f
      unfold dlP
      by_cases hx : f.fr = n ∨ f.tt = n
      · rw [yb hx]; exact nb (fun h => h hx)
      · rw [nb hx]; exact yb hx
    rw [e1, efn, e0]
    rfl
  have HEND := Lib.hid hend
  have HN1 : Hid (X1.cs.length = N) := Lib.hid (by rw [← HX1.out, setI_len]; exact hN)
  have HF1 : Hid (X1.fr = X.fr) := Lib.hid (by rw [← HX1.out]; rfl)
  have HD1 : Hid (X1.ds = X.ds) := Lib.hid (by rw [← HX1.out]; rfl)
  have hgw : g < w.heap.size := (h.gt_lt (.inl rfl)).2
  have hiN : i < N := by rw [← hN]; exact hi
  have hql : i < q.length := by rw [h.len]; exact hi
  have HF := Lib.hid hF
  have HN := Lib.hid hN
  rw [hF, hN]
  obtain ⟨W, hW⟩ : ∃ W : World, W = (w.alloc (.cells #[.int .i64 X.ds, .slice (some ⟨g, 0, none⟩) N cap, .slice fa F fc] 25)).alloc (.cells #[.int .i64 0, .slice none 0 0, .slice none 0 0] 25) := ⟨_, rfl⟩
  have hB0 : Below w.heap.size w W := by rw [hW]; exact (by repeat (first | assumption | exact Below.refl _ _ | apply Below.al | apply below_drewN | apply Below.drew | refine Below.next ?_ (by assumption)))
  have hWs : w.heap.size + 2 ≤ W.heap.size := by rw [hW]; simp
  have b3 : BoxN W w.heap.size 25 #[.int .i64 X.ds, .slice (some ⟨g, 0, none⟩) N cap, .slice fa F fc] := by rw [hW]; exact (BoxN.new w _ _).below (by repeat (first | assumption | exact Below.refl _ _ | apply Below.al | apply below_drewN | apply Below.drew | refine Below.next ?_ (by assumption)))
  have b6 : BoxN W (w.heap.size + 1) 25 #[.int .i64 0, .slice none 0 0, .slice none 0 0] := by
    rw [hW]
    have := BoxN.new (w.alloc (.cells #[.int .i64 X.ds, .slice (some ⟨g, 0, none⟩) N cap, .slice fa F fc] 25)) 25 #[.int .i64 0, .slice none 0 0, .slice none 0 0]
    simpa using this
  have hO := h.below hB0
  have hOf : OR W B g cap (.slice fa F fc) q X := by rw [hF] at hO; exact hO
  obtain ⟨h2, hk2⟩ := hOf.tag hi (a := none) (c := 0) (l := []) (Kx.refl _ _) ⟨rfl, .inl ⟨rfl, rfl⟩⟩ (fun k e => by simp [Value.ownBlock] at e)
  rw [HY.out, HC.out] at h2
  have hi2 : i < (setI X i { c with tk := [] }).cs.length := by rw [setI_len]; exact hi
  have hq2 : gq (q.set i { y with ta := none, tn := [].length (α := Tg), tc := 0 }) i = { y with ta := none, tn := [].length (α := Tg), tc := 0 } := by rw [gq_set hql, if_pos rfl]
  have hc2 : gc (setI X i { c with tk := [] }).cs i = { c with tk := [] } := by show gc (X.cs.set i _) i = _; rw [gc_set hi, if_pos rfl]
  obtain ⟨h3, hk3⟩ := h2.kept hi2 (a := none) (c := 0) (l := []) (Kx.refl _ _) ⟨rfl, .inl ⟨rfl, rfl⟩⟩ (fun k e => by simp [Value.ownBlock] at e)
  rw [hq2] at h3
  rw [hc2] at h3
  rw [List.set_set, setI_setI] at h3
  obtain ⟨w3, hw3⟩ : ∃ w3 : World, w3 = ((W.setCell ⟨g, i * 6 + 4, none⟩ (.slice none 0 0)).setCell ⟨g, i * 6 + 5, none⟩ (.slice none 0 0)).drew := ⟨_, rfl⟩
  have hkk : Kx (fun k => k = g) W w3 := by rw [hw3]; exact ((kx_cell W g _ _).setCell (.inl rfl) _).drew
  obtain ⟨y0, HY0⟩ : ∃ z : Cq, Hid ({ y with ta := none, tn := 0, tc := 0, ka := none, kn := 0, kc := 0 } = z) := ⟨_, Lib.hid rfl⟩
  have h3 : OR w3 B g cap (.slice fa F fc) (q.set i y0) (setI X i { c with tk := [], kp := [] }) := by
    rw [hw3, ← HY0.out]
    exact OR.below h3 (Below.refl _ _).drew
  have hi3 : i < (setI X i { c with tk := [], kp := [] }).cs.length := by rw [setI_len]; exact hi
  have hheld := held_any w3 B g cap (.slice fa F fc) (q.set i y0) _ i hi3 h3
  rw [gq_set hql, if_pos rfl, List.set_set, setI_setI] at hheld
  rw [show gc (setI X i { c with tk := [], kp := [] }).cs i = { c with tk := [], kp := [] } by show gc (X.cs.set i _) i = _; rw [gc_set hi, if_pos rfl], HX1.out] at hheld
  obtain ⟨q1, HQ1⟩ : ∃ z, Hid (q.set i (hldq y0) = z) := ⟨_, Lib.hid rfl⟩
  rw [HQ1.out] at hheld
  have hmn1 : ∀ k, Mn g (.slice fa F fc) q1 k → Mn g (.slice fa F fc) q k := fun k hk => by
    rw [← HQ1.out] at hk
    rcases mn_set hql hk with e | e | e
    · exact e
    · rw [hldq_tv, ← HY0.out] at e; simp [Cq.tv, Value.ownBlock] at e
    · rw [hldq_kv, ← HY0.out] at e; simp [Cq.kv, Value.ownBlock] at e
  have HHD := Lib.hid hheld
  have HM1 := Lib.hid hmn1
  have HKK := Lib.hid hkk
  have HB0 := Lib.hid hB0
  have HW3 := Lib.hid (hkk.box (by omega) b3)
  have HR3 := Lib.hid (hkk.box (by omega) b6)
  have hrow := hOf.at i hi
  rw [HY.out] at hrow
  have v4 : W.cell? ⟨g, i * 6 + 4, none⟩ = some (.slice y.ta y.tn y.tc) := hrow.2.2.2.2.1
  have v5 : W.cell? ⟨g, i * 6 + 5, none⟩ = some (.slice y.ka y.kn y.kc) := hrow.2.2.2.2.2
  have f4 := hOf.there (i * 6 + 4)
  have f5 := hOf.there (i * 6 + 5)
  have x1 : W.cell? ⟨w.heap.size, 1, none⟩ = some (.slice (some ⟨g, 0, none⟩) N cap) := b3.cell 1
  have hws : IntKind.i64.wrap (n - 1) = (i : Int) := by
    rw [show n - 1 = (i : Int) by omega]
    exact IntWalk.i64_in _ (by omega)
  have i3 : (0 : Int) ≤ (i : Int) := by omega
  have i4 : (i : Int) < (N : Int) := by omega
  have hwi : IntKind.i64.wrap (i : Int) = (i : Int) := IntWalk.i64_in _ (by omega)
  have hx1 : (W.setCell ⟨g, i * 6 + 4, none⟩ (.slice none 0 0)).cell? ⟨w.heap.size, 1, none⟩ = some (.slice (some ⟨g, 0, none⟩) N cap) := ((kx_cell W g _ _).box (by omega) b3).cell 1
  clear h hO hOf h2 hk2 h3 hk3 hi2 hq2 hc2 hi3 hheld hmn1 hkk hB0 b3 b6 hrow hend hat0 hfi hn hs hF hN hi
  go_enter Try.func63, Try.ntmps63
  go_upto_region 1 with fail
  rw [← hW]
  clear hW
  refine wp_region_noPanic ?_
  refine wp_region_late (fun _ => True) (fun w' => w'.cell? ⟨w.heap.size, 1, none⟩ = some (.slice (some ⟨g, 0, none⟩) N cap)) [13] (by kernel_rfl) trivial x1 (fun hHeld0 hHeld => ?_)
  refine reg0_tk (v := ?_) 0 8 rfl rfl (by kernel_rfl) (by kernel_rfl) (by kernel_rfl) (by kernel_rfl) (by kernel_rfl) (fun _ _ _ h => h) (by rfl) ?_ (by assumption) (by assumption) ?_
  rotate_left
  · (intro w3 hS; (try dsimp only at hS); skip; go_simp; (try with_reducible rfl))
  simp only [List.setIfInBounds_toArray, List.set_cons_zero, List.set_cons_succ]
  refine regG_tk (v := ?_) 1 9 rfl rfl (by kernel_rfl) (by kernel_rfl) (by kernel_rfl) (by kernel_rfl) (by kernel_rfl) (fun _ _ _ h => h) (by rfl) ?_ (by assumption) (by assumption) ?_
  rotate_left
  · (intro w3 hS; (try dsimp only at hS); skip; go_simp; (try with_reducible rfl))
  simp only [List.setIfInBounds_toArray, List.set_cons_zero, List.set_cons_succ]
  refine reg0_tk (v := ?_) 2 10 rfl rfl (by kernel_rfl) (by kernel_rfl) (by kernel_rfl) (by kernel_rfl) (by kernel_rfl) (fun _ _ _ h => h) (by rfl) ?_ (by assumption) (by assumption) ?_
  rotate_left
  · (intro w3 hS; (try dsimp only at hS); skip; go_simp; (try with_reducible rfl))
  simp only [List.setIfInBounds_toArray, List.set_cons_zero, List.set_cons_succ]
  refine reg0_tk (v := ?_) 3 11 rfl rfl (by kernel_rfl) (by kernel_rfl) (by kernel_rfl) (by kernel_rfl) (by kernel_rfl) (fun _ _ _ h => h) (by rfl) ?_ (by assumption) (by assumption) ?_
  rotate_left
  · (intro w3 hS; (try dsimp only at hS); skip; go_simp; (try with_reducible rfl))
  simp only [List.setIfInBounds_toArray, List.set_cons_zero, List.set_cons_succ]
  refine reg0_tk (v := ?_) 4 12 rfl rfl (by kernel_rfl) (by kernel_rfl) (by kernel_rfl) (by kernel_rfl) (by kernel_rfl) (fun _ _ _ h => h) (by rfl) ?_ (by assumption) (by assumption) ?_
  rotate_left
  · (intro w3 hS; (try dsimp only at hS); skip; go_simp; (try with_reducible rfl))
  simp only [List.setIfInBounds_toArray, List.set_cons_zero, List.set_cons_succ]
  refine regG_tk (v := ?_) 5 13 rfl rfl (by kernel_rfl) (by kernel_rfl) (by kernel_rfl) (by kernel_rfl) (by kernel_rfl) (fun _ _ _ h => h) (by rfl) ?_ (by assumption) (by assumption) ?_
  rotate_left
  · (intro w3 hS; (try dsimp only at hS); skip; go_simp; (try with_reducible rfl))
  simp only [List.setIfInBounds_toArray, List.set_cons_zero, List.set_cons_succ]
  refine reg0_tk (v := ?_) 6 14 rfl rfl (by kernel_rfl) (by kernel_rfl) (by kernel_rfl) (by kernel_rfl) (by kernel_rfl) (fun _ _ _ h => h) (by rfl) ?_ (by assumption) (by assumption) ?_
  rotate_left
  · (intro w3 hS; (try dsimp only at hS); skip; go_simp; (try with_reducible rfl))
  simp only [List.setIfInBounds_toArray, List.set_cons_zero, List.set_cons_succ]
  refine reg0_tk (v := ?_) 7 15 rfl rfl (by kernel_rfl) (by kernel_rfl) (by kernel_rfl) (by kernel_rfl) (by kernel_rfl) (fun _ _ _ h => h) (by rfl) ?_ (by assumption) (by assumption) ?_
  rotate_left
  · (intro w3 hS; (try dsimp only at hS); skip; go_simp; (try with_reducible rfl))
  simp only [List.setIfInBounds_toArray, List.set_cons_zero, List.set_cons_succ]
  refine reg0_tk (v := ?_) 8 16 rfl rfl (by kernel_rfl) (by kernel_rfl) (by kernel_rfl) (by kernel_rfl) (by kernel_rfl) (fun _ _ _ h => h) (by rfl) ?_ (by assumption) (by assumption) ?_
  rotate_left
  · (intro w3 hS; (try dsimp only at hS); skip; go_simp; (try with_reducible rfl))
  simp only [List.setIfInBounds_toArray, List.set_cons_zero, List.set_cons_succ]
  refine reg0_tk (v := ?_) 9 17 rfl rfl (by kernel_rfl) (by kernel_rfl) (by kernel_rfl) (by kernel_rfl) (by kernel_rfl) (fun _ _ _ h => h) (by rfl) ?_ (by assumption) (by assumption) ?_
  rotate_left
  · (intro w3 hS; (try dsimp only at hS); skip; go_simp; (try with_reducible rfl))
  simp only [List.setIfInBounds_toArray, List.set_cons_zero, List.set_cons_succ]
  refine wpAnyG_oneS (i := 10) (by kernel_rfl) rfl (by rfl) (fun K hK => ?_)
  go_simp
  refine hK _ _ trivial hx1 ?_
  clear hK K
  try simp only [Act.put, List.setIfInBounds_toArray, List.set_cons_zero, List.set_cons_succ]
  refine reg0_tk (v := ?_) 11 18 rfl rfl (by kernel_rfl) (by kernel_rfl) (by kernel_rfl) (by kernel_rfl) (by kernel_rfl) (fun _ _ _ h => h) (by rfl) ?_ (by assumption) (by assumption) ?_
  rotate_left
  · (intro w3 hS; (try dsimp only at hS); skip; go_simp; (try with_reducible rfl))
  simp only [List.setIfInBounds_toArray, List.set_cons_zero, List.set_cons_succ]
  refine reg0_tk (v := ?_) 12 19 rfl rfl (by kernel_rfl) (by kernel_rfl) (by kernel_rfl) (by kernel_rfl) (by kernel_rfl) (fun _ _ _ h => h) (by rfl) ?_ (by assumption) (by assumption) ?_
  rotate_left
  · (intro w3 hS; (try dsimp only at hS); skip; go_simp; (try with_reducible rfl))
  simp only [List.setIfInBounds_toArray, List.set_cons_zero, List.set_cons_succ]
  refine wpAnyG_one (i := 13) (by kernel_rfl) rfl (by rfl) (by kernel_rfl) (fun K hK => ?_)
  go_simp
  refine hK _ _ trivial ?_
  clear hK K
  try simp only [Act.put, List.setIfInBounds_toArray, List.set_cons_zero, List.set_cons_succ]
  refine wpAnyG_done (by kernel_rfl) ?_ _
  refine NoPanic.normal ?_
  rw [← hw3]
  clear hw3 v4 v5 f4 f5 x1 hx1
  have x1 : w3.cell? ⟨w.heap.size, 1, none⟩ = some (.slice (some ⟨g, 0, none⟩) N cap) := HW3.out.cell 1
  go_wp2_with fail
  refine HHD.out.mono ?_
  rintro e w4 ⟨rfl, h4, hk4⟩
  have HKW : Hid (Kx (Mn g (.slice fa F fc) q) w w4) := Lib.hid (((Kx.of_below (X := Mn g (.slice fa F fc) q) HB0.out).trans HKK.out (fun k _ e => .inl e)).trans hk4 (fun k _ e => .inl e))
  have HW4 := Lib.hid (hk4.box (by omega) HW3.out)
  have HR4 := Lib.hid (hk4.box (by omega) HR3.out)
  have HO4 := Lib.hid h4
  clear h4 hk4 x1 HHD HKK HB0 HW3 HR3
  have x1 : w4.cell? ⟨w.heap.size, 1, none⟩ = some (.slice (some ⟨g, 0, none⟩) N cap) := HW4.out.cell 1
  go_wp2_with fail
  clear x1
  go_loopw [5] (fun j wr => ∃ (k : Nat) (qk : List Cq), k ≤ N ∧ j = .int .i64 k ∧ OR wr B g cap (.slice fa F fc) qk { X1 with cs := cK n X1.cs k } ∧ Kx (Mn g (.slice fa F fc) q) w wr ∧ (∀ b, Mn g (.slice fa F fc) qk b → Mn g (.slice fa F fc) q b) ∧ BoxN wr w.heap.size 25 #[.int .i64 X.ds, .slice (some ⟨g, 0, none⟩) N cap, .slice fa F fc] ∧ BoxN wr (w.heap.size + 1) 25 #[.int .i64 0, .slice none 0 0, .slice none 0 0]) (fun j _ => N - (intOf j).toNat)
  case atStart => exact ⟨0, q1, Nat.zero_le _, rfl, by rw [cK_zero]; exact HO4.out, HKW.out, HM1.out, HW4.out, HR4.out⟩
  case round =>
    clear HO4 HKW HM1 HW4 HR4
    obtain ⟨k, qk, hk, rfl, hor, hkx, hmk, hbx, hbr⟩ := hrel
    have HOR := Lib.hid hor
    have HKX := Lib.hid hkx
    have HMK := Lib.hid hmk
    have HBX := Lib.hid hbx
    have HBR := Lib.hid hbr
    have hlk : (cK n X1.cs k).length = N := by rw [cK_len]; exact HN1.out
    have c1 : wr.cell? ⟨w.heap.size, 1, none⟩ = some (.slice (some ⟨g, 0, none⟩) N cap) := HBX.out.cell 1
    clear hor hkx hmk hbx hbr
    by_cases hlt : k < N
    · have d2 : decide ((k : Int) < (N : Int)) = true := yb (by omega)
      have hkl : k < (cK n X1.cs k).length := by omega
      have hrow := HOR.out.at k hkl
      have hck := cK_at n X1.cs (Nat.le_refl k) (by rw [HN1.out]; exact hlt)
      have htt := (HOR.out.cop k).tt
      have hck' : gc ({ X1 with cs := cK n X1.cs k } : Wd).cs k = gc X1.cs k := hck
      obtain ⟨z, HZ⟩ : ∃ z, Hid (gq qk k = z) := ⟨_, Lib.hid rfl⟩
      obtain ⟨e, HE⟩ : ∃ e, Hid (gc X1.cs k = e) := ⟨_, Lib.hid rfl⟩
      rw [HE.out] at hck'
      rw [HZ.out, hck'] at htt
      rw [HZ.out] at hrow
      obtain ⟨r0, r1, r2, r3, r4, r5⟩ := hrow
      have hst := cK_step n X1.cs (k := k) (by rw [HN1.out]; exact hlt)
      rw [HE.out] at hst
      have HST := Lib.hid hst
      have HCK := Lib.hid hck'
      have i5 : (0 : Int) ≤ (k : Int) := by omega
      have i6 : (k : Int) < (N : Int) := by omega
      have hwk : IntKind.i64.wrap (k : Int) = (k : Int) := IntWalk.i64_in _ (by omega)
      have hwk1 : IntKind.i64.wrap ((k : Int) + 1) = (k : Int) + 1 := IntWalk.i64_in _ (by omega)
      clear hst hck hck' hkl hlk
      by_cases he : e.tt = n
      · have d3 : (z.tt == n) = true := by simp [htt, he]
        have HFh : Hid (Fh n e = hld e) := Lib.hid (by unfold Fh; rw [if_pos he])
        have HHH := Lib.hid (held_any wr B g cap (.slice fa F fc) qk _ k (by rw [cK_len, HN1.out]; exact hlt) HOR.out)
        clear htt he
        go_wp2_with fail
        refine HHH.out.mono ?_
        rintro e5 w5 ⟨rfl, h5, hk5⟩
        have hlq : k < qk.length := by rw [HOR.out.len, cK_len, HN1.out]; exact hlt
        rw [HCK.out] at h5
        have hX : setI ({ X1 with cs := cK n X1.cs k } : Wd) k (hld e) = { X1 with cs := cK n X1.cs (k + 1) } := by
          unfold setI
          rw [← HST.out, HFh.out]
        rw [hX] at h5
        have HR : Hid (OR w5 B g cap (.slice fa F fc) (qk.set k (hldq (gq qk k))) { X1 with cs := cK n X1.cs (k + 1) } ∧ Kx (Mn g (.slice fa F fc) q) w w5 ∧ (∀ b, Mn g (.slice fa F fc) (qk.set k (hldq (gq qk k))) b → Mn g (.slice fa F fc) q b)) := Lib.hid (by
          refine ⟨h5, HKX.out.trans hk5 (fun b _ e => .inl e), fun b hb => ?_⟩
          rcases mn_set hlq hb with e | e | e
          · exact HMK.out b e
          · rw [hldq_tv] at e
            exact HMK.out b (.inr (.inr ⟨k, .inl e⟩))
          · rw [hldq_kv] at e
            exact HMK.out b (.inr (.inr ⟨k, .inr e⟩)))
        have HRX := Lib.hid (hk5.box (by omega) HBX.out)
        have HRR := Lib.hid (hk5.box (by omega) HBR.out)
        clear h5 hk5 hX r0 r1 r2 r3 r4 r5 c1
        go_wp2_with fail
        go_roundw
        case rel => exact ⟨k + 1, _, by omega, by go_num, HR.out.1, HR.out.2.1, HR.out.2.2, HRX.out, HRR.out⟩
        case measure => simp [intOf]; omega
      · have d3 : (z.tt == n) = false := by simp [htt, he]
        have hX : cK n X1.cs (k + 1) = cK n X1.cs k := by
          rw [← HST.out]
          unfold Fh
          rw [if_neg he, ← HE.out]
          have h1 := cK_at n X1.cs (Nat.le_refl k) (by rw [HN1.out]; exact hlt)
          have hk1 : k < (cK n X1.cs k).length := by rw [cK_len, HN1.out]; exact hlt
          rw [← h1]
          apply List.ext_getElem?
          intro j
          rw [List.getElem?_set]
          split
          · rename_i e; subst e
            (try rw [if_pos hk1])
            unfold gc
            rw [List.getD_eq_getElem?_getD, List.getElem?_eq_getElem hk1]
            rfl
          · rfl
        have HX := Lib.hid hX
        clear htt he hX
        go_wp2_with fail
        go_roundw
        case rel => exact ⟨k + 1, qk, by omega, by go_num, by rw [HX.out]; exact HOR.out, HKX.out, HMK.out, HBX.out, HBR.out⟩
        case measure => simp [intOf]; omega
    · obtain rfl : N = k := by omega
      have d2 : decide ((N : Int) < (N : Int)) = false := nb (by omega)
      have hcs : cK n X1.cs N = X1.cs.map (Fh n) := by rw [← HN1.out]; exact cK_end n X1.cs
      have hop := HOR.out
      rw [hcs] at hop
      have HOP := Lib.hid hop
      clear hop hcs hlk hlt
      rename World => w6
      have hrf : RdP w6 (.slice fa F fc) X.fr := by
        have e := HOP.out.pt.frs
        have e2 : ({ X1 with cs := X1.cs.map (Fh n) } : Wd).fr = X.fr := HF1.out
        rw [e2] at e
        exact e
      have HRF := Lib.hid hrf
      have c2 : w6.cell? ⟨w.heap.size, 2, none⟩ = some (.slice fa F fc) := HBX.out.cell 2
      clear hrf
      go_wp2_with fail
      clear c1
      go_loopw [6, 7] (fun s j wl => ∃ (k : Nat) (a : Option Addr) (cc : Nat), k ≤ F ∧ j = .int .i64 k ∧ s = .slice a (fK n X.fr k).length cc ∧ wl.ownsRow w6.heap.size 47 4 (.slice a (fK n X.fr k).length cc) (fK n X.fr k).length (rcs psR (fK n X.fr k)) ∧ Below w6.heap.size w6 wl) (fun _ j _ => F - (intOf j).toNat)
      case atStart => exact ⟨0, none, 0, Nat.zero_le _, rfl, rfl, ⟨rfl, .inl ⟨rfl, rfl⟩⟩, Below.refl _ _⟩
      case round =>
        clear c2
        obtain ⟨k, a, cc, hk, rfl, rfl, hown, hbl⟩ := hrel
        have HOW := Lib.hid hown
        have HBL := Lib.hid hbl
        have c2 : wr.cell? ⟨w.heap.size, 2, none⟩ = some (.slice fa F fc) := (HBX.out.below hbl).cell 2
        clear hown hbl
        by_cases hlt : k < F
        · have d4 : decide ((k : Int) < (F : Int)) = true := yb (by omega)
          obtain ⟨rb, ro, hra, hrc, g0, g1, g2, g3⟩ := RdP.at (HRF.out.keep HBL.out) HF.out k hlt
          subst hra
          obtain ⟨x, HX⟩ : ∃ x, Hid (gp X.fr k = x) := ⟨_, Lib.hid rfl⟩
          rw [HX.out] at g0 g1 g2 g3
          have i5 : (0 : Int) ≤ (k : Int) := by omega
          have i6 : (k : Int) < (F : Int) := by omega
          have hwk : IntKind.i64.wrap (k : Int) = (k : Int) := IntWalk.i64_in _ (by omega)
          have hwk1 : IntKind.i64.wrap ((k : Int) + 1) = (k : Int) + 1 := IntWalk.i64_in _ (by omega)
          have hkF : k < X.fr.length := by rw [HF.out]; exact hlt
          by_cases e1 : x.fr = n
          · have d5 : (x.fr != n) = false := by simp [e1]
            have hfk := fK_no n X.fr hkF (by rw [HX.out]; unfold dlP; exact yb (.inl e1))
            have HFK := Lib.hid hfk
            clear e1 hfk hkF
            go_wp2_with fail
            go_roundw
            case rel => exact ⟨k + 1, a, cc, by omega, by go_num, by rw [HFK.out], by rw [HFK.out]; exact HOW.out, HBL.out⟩
            case measure => simp [intOf]; omega
          · have d5 : (x.fr != n) = true := by simp [e1]
            by_cases e2 : x.tt = n
            · have d6 : (x.tt != n) = false := by simp [e2]
              have hfk := fK_no n X.fr hkF (by rw [HX.out]; unfold dlP; exact yb (.inr e2))
              have HFK := Lib.hid hfk
              clear e1 e2 hfk hkF
              go_wp2_with fail
              go_roundw
              case rel => exact ⟨k + 1, a, cc, by omega, by go_num, by rw [HFK.out], by rw [HFK.out]; exact HOW.out, HBL.out⟩
              case measure => simp [intOf]; omega
            · have d6 : (x.tt != n) = true := by simp [e2]
              have hfk := fK_yes n X.fr hkF (by rw [HX.out]; unfold dlP; exact nb (fun h => by rcases h with h | h; exact e1 h; exact e2 h))
              rw [HX.out] at hfk
              have HFK := Lib.hid hfk
              have hle := fK_le n X.fr k
              obtain ⟨L, HL⟩ : ∃ L, Hid ((fK n X.fr k).length = L) := ⟨_, Lib.hid rfl⟩
              rw [HL.out] at HOW hle ⊢
              have hV : Below wr.heap.size wr (wr.alloc (.cells #[.int .i64 x.kd, .int .i64 x.fr, .int .i64 x.tt, .int .i64 x.of] 47)) := Below.al (Below.refl _ _) _
              have HVO := Lib.hid (Own.keep HOW.out hV)
              have HVN := Lib.hid (RdS.boxP wr 47 x)
              have HVB := Lib.hid (Below.next HBL.out hV)
              have hws := HBL.out.size
              clear e1 e2 hfk hkF hV
              go_wp2_with (at_builtin; refine wpList_app rfl (.tmp 71) (.tmp 77) 23 rfl w6.heap.size 47 _ 4 32 EPs _ L (rcs psR (fK n X.fr k)) rfl HVO.out _ 1 (rcs psR [x]) rfl HVN.out (rcs_one _ _) ?_ ?_ ?_ ?_)
              · unfold maxLen; omega
              · omega
              · simp; omega
              intro a5 c5 w5 hown5 hg5 hb5
              have hB5 : Below w6.heap.size w6 w5 := HVB.out.trans hb5
              have HO5 : Hid (w5.ownsRow w6.heap.size 47 4 (.slice a5 (fK n X.fr (k + 1)).length c5) (fK n X.fr (k + 1)).length (rcs psR (fK n X.fr (k + 1)))) := Lib.hid (by
                rw [HFK.out, List.length_append, HL.out, rcs_append]
                exact hown5)
              have HL5 : Hid ((fK n X.fr (k + 1)).length = L + 1) := Lib.hid (by rw [HFK.out, List.length_append, HL.out]; rfl)
              clear hown5 hg5 hb5 HVO HVN HVB g0 g1 g2 g3
              go_wp2_with fail
              go_roundw
              case rel => exact ⟨k + 1, a5, c5, by omega, by go_num, by rw [HL5.out], HO5.out, hB5⟩
              case measure => simp [intOf]; omega
        · obtain rfl : F = k := by omega
          have d4 : decide ((F : Int) < (F : Int)) = false := nb (by omega)
          have hfe : fK n X.fr F = X.fr.filter (fun f => !dlP n f) := by unfold fK; rw [List.take_of_length_le (by rw [HF.out]; exact Nat.le_refl _)]
          obtain ⟨L, HL⟩ : ∃ L, Hid ((fK n X.fr F).length = L) := ⟨_, Lib.hid rfl⟩
          have how := HOW.out
          rw [HL.out] at how ⊢
          have h6w := HKX.out.size
          have or3 : OR wr B g cap (.slice a L cc) qk XE := by
            have e := (HOP.out.below HBL.out).frames (F := fK n X.fr F) (Kx.refl _ wr) (own_mono (show OwP wr w6.heap.size (.slice a L cc) (fK n X.fr F) by unfold OwP; rw [HL.out]; exact how) (by omega))
            have e2 : ({ ({ X1 with cs := X1.cs.map (Fh n) } : Wd) with fr := fK n X.fr F } : Wd) = XE := by rw [HEND.out, hfe]
            rw [e2] at e
            exact e
          have hb3 := HBX.out.below HBL.out
          have hr3 := HBR.out.below HBL.out
          obtain ⟨w9, hw9⟩ : ∃ V : World, V = wr.setCell ⟨w.heap.size, 2, none⟩ (.slice a L cc) := ⟨_, rfl⟩
          have hk9 : Kx (fun k => k = w.heap.size) wr w9 := by rw [hw9]; exact kx_cell _ _ _ _
          have HOZ := Lib.hid (or3.kx hk9 (fun k e e2 => or3.nbox hb3 (by decide) (by decide) (by decide) (by rw [e2] at e; exact e)))
          have HWZ : Hid (BoxN w9 w.heap.size 25 #[.int .i64 X.ds, .slice (some ⟨g, 0, none⟩) N cap, .slice a L cc]) := Lib.hid (by rw [hw9]; exact hb3.setc 2 _)
          have HRZ := Lib.hid (hk9.box (by omega) hr3)
          have HKZ := Lib.hid ((HKX.out.next HBL.out).trans hk9 (fun k hlt e => by omega))
          have HMZ : Hid (∀ k, Mn g (.slice a L cc) qk k → Mn g (.slice fa F fc) q k ∨ w.heap.size ≤ k) := Lib.hid (fun k hk => by
            rcases hk with e | e | e
            · exact .inl (.inl e)
            · have := (how.lt k e).1
              exact .inr (by omega)
            · exact .inl (HMK.out k (.inr (.inr e))))
          have HDZ : Hid (XE.ds = X.ds) := Lib.hid (by rw [HEND.out]; exact HD1.out)
          have HNZ : Hid (XE.cs.length = N) := Lib.hid (by rw [HEND.out]; show (X1.cs.map (Fh n)).length = N; rw [List.length_map]; exact HN1.out)
          have v2 : wr.cell? ⟨w.heap.size, 2, none⟩ = some (.slice fa F fc) := hb3.cell 2
          have y2 := hb3.frozen 2
          clear how or3 hb3 hr3 hk9 hfe
          go_upto_region 15 with fail
          rw [← hw9]
          clear hw9 v2 y2 c2
          have m0 : World.cell? w9 ⟨w.heap.size, 0, none⟩ = some (.int .i64 X.ds) := HWZ.out.cell 0
          have m1 : World.cell? w9 ⟨w.heap.size, 1, none⟩ = some (.slice (some ⟨g, 0, none⟩) N cap) := HWZ.out.cell 1
          have m2 : World.cell? w9 ⟨w.heap.size, 2, none⟩ = some (.slice a L cc) := HWZ.out.cell 2
          have l0 : World.cell? w9 ⟨w.heap.size + 1, 0, none⟩ = some (.int .i64 0) := HRZ.out.cell 0
          have l1 : World.cell? w9 ⟨w.heap.size + 1, 1, none⟩ = some (.slice none 0 0) := HRZ.out.cell 1
          have l2 : World.cell? w9 ⟨w.heap.size + 1, 2, none⟩ = some (.slice none 0 0) := HRZ.out.cell 2
          have k0 := HRZ.out.frozen 0
          have k1 := HRZ.out.frozen 1
          have k2 := HRZ.out.frozen 2
          obtain ⟨wE, hwE⟩ : ∃ V : World, V = ((World.setCell w9 ⟨w.heap.size + 1, 0, none⟩ (.int .i64 X.ds)).setCell ⟨w.heap.size + 1, 1, none⟩ (.slice (some ⟨g, 0, none⟩) N cap)).setCell ⟨w.heap.size + 1, 2, none⟩ (.slice a L cc) := ⟨_, rfl⟩
          have hkr : Kx (fun k => k = w.heap.size + 1) w9 wE := by rw [hwE]; exact (((Kx.refl (fun k => k = w.heap.size + 1) w9).setCell (.inl rfl) _).setCell (.inl rfl) _).setCell (.inl rfl) _
          have hbE : BoxN wE (w.heap.size + 1) 25 #[.int .i64 X.ds, .slice (some ⟨g, 0, none⟩) N cap, (.slice a L cc)] := by rw [hwE]; exact ((HRZ.out.setc 0 _).setc 1 _).setc 2 _
          have HFIN : Hid (ROut w B g cap (.slice fa F fc) q XE (.returned (.agg #[.int .i64 X.ds, .slice (some ⟨g, 0, none⟩) N cap, (.slice a L cc)])) wE) := Lib.hid ⟨(.slice a L cc), qk, by rw [HNZ.out, ← HDZ.out], HOZ.out.kx hkr (fun k e e2 => HOZ.out.nbox HRZ.out (by decide) (by decide) (by decide) (by rw [e2] at e; exact e)), HKZ.out.trans hkr (fun k hlt e => by omega), HMZ.out⟩
          have r0 : wE.cell? ⟨w.heap.size + 1, 0, none⟩ = some (.int .i64 X.ds) := hbE.cell 0
          have r1 : wE.cell? ⟨w.heap.size + 1, 1, none⟩ = some (.slice (some ⟨g, 0, none⟩) N cap) := hbE.cell 1
          have r2 : wE.cell? ⟨w.heap.size + 1, 2, none⟩ = some (.slice a L cc) := hbE.cell 2
          clear hkr hbE
          go_wp2_with fail
          rw [← hwE]
          exact bodyPost_ret (v := .agg #[.int .i64 X.ds, .slice (some ⟨g, 0, none⟩) N cap, (.slice a L cc)]) (by simp [results, Try.results63, go_sem, r0, r1, r2]) rfl HFIN.out


set_option maxHeartbeats 1500000 in
theorem rfault_any (w : World) (cv fv : Value) (q : List Cq) (X : Wd) (m : Mv) (er : Int) (her : ftE X m = er) (hF64 : X.fr.length ≤ 64) (h : PtW w cv fv q X) :
    Calls Try.prog 60 #[wV X cv fv, m.v] w fun e w' => e = .returned (.int .i64 er) ∧ Below w.heap.size w w' := by
  obtain ⟨k, nd, ot, n⟩ := m
  show Calls Try.prog 60 #[wV X cv fv, .agg #[.int .i64 k, .int .i64 nd, .int .i64 ot, .int .i64 n]] w _
  obtain ⟨a, c, rfl⟩ := h.rows.form
  obtain ⟨fa, fc, rfl⟩ := h.frs.form
  have hl := h.len
  obtain ⟨N, hN⟩ : ∃ N, q.length = N := ⟨_, rfl⟩
  obtain ⟨F, hF⟩ : ∃ F, X.fr.length = F := ⟨_, rfl⟩
  rw [hN, hF] at h ⊢
  rw [hN] at hl
  have hFs : F ≤ 64 := by rw [← hF]; exact hF64
  obtain ⟨W, hW⟩ : ∃ W : World, W = (w.alloc (.cells #[.int .i64 X.ds, .slice a N c, .slice fa F fc] 25)).alloc (.cells #[.int .i64 k, .int .i64 nd, .int .i64 ot, .int .i64 n] 40) := ⟨_, rfl⟩
  have hB0 : Below w.heap.size w W := by rw [hW]; exact (by repeat (first | assumption | exact Below.refl _ _ | apply Below.al | apply below_drewN | apply Below.drew | refine Below.next ?_ (by assumption)))
  have bW : BoxN W w.heap.size 25 #[.int .i64 X.ds, .slice a N c, .slice fa F fc] := by rw [hW]; exact (BoxN.new w _ _).below (by repeat (first | assumption | exact Below.refl _ _ | apply Below.al | apply below_drewN | apply Below.drew | refine Below.next ?_ (by assumption)))
  have bM : BoxN W (w.heap.size + 1) 40 #[.int .i64 k, .int .i64 nd, .int .i64 ot, .int .i64 n] := by
    rw [hW]
    have := BoxN.new (w.alloc (.cells #[.int .i64 X.ds, .slice a N c, .slice fa F fc] 25)) 40 #[.int .i64 k, .int .i64 nd, .int .i64 ot, .int .i64 n]
    simpa using this
  have s0 : W.cell? ⟨w.heap.size, 0, none⟩ = some (.int .i64 X.ds) := bW.cell 0
  have s1 : W.cell? ⟨w.heap.size, 1, none⟩ = some (.slice a N c) := bW.cell 1
  have s2 : W.cell? ⟨w.heap.size, 2, none⟩ = some (.slice fa F fc) := bW.cell 2
  have m0 : W.cell? ⟨w.heap.size + 1, 0, none⟩ = some (.int .i64 k) := bM.cell 0
  have m1 : W.cell? ⟨w.heap.size + 1, 1, none⟩ = some (.int .i64 nd) := bM.cell 1
  have m2 : W.cell? ⟨w.heap.size + 1, 2, none⟩ = some (.int .i64 ot) := bM.cell 2
  have m3 : W.cell? ⟨w.heap.size + 1, 3, none⟩ = some (.int .i64 n) := bM.cell 3
  have hh := h.keep hB0
  have HI1 := Lib.hid (fun w' (hb : Below W.heap.size W w') => rnode_any w' _ _ q X nd (hh.keep hb))
  have HI2 := Lib.hid (fun w' (hb : Below W.heap.size W w') => rnode_any w' _ _ q X ot (hh.keep hb))
  have HHH := Lib.hid hh
  have HB := Lib.hid hB0
  have key : ∀ x : Int, ftE X ⟨k, nd, ot, n⟩ = x → er = x := fun x hx => her.symm.trans hx
  have HL := Lib.hid hl
  clear bM bW h hh her hF64 hB0 hl
  go_enter Try.func60, Try.ntmps60
  go_upto_region 1 with fail
  rw [← hW]
  clear hW
  by_cases hk : k = 1
  · subst hk
    by_cases c1 : isN X nd
    · have e1 := yb c1
      rw [e1] at HI1
      by_cases c2 : isN X ot
      · have e2 := yb c2
        rw [e2] at HI2
        by_cases c3 : ot = nd
        · have r3 : (ot == nd) = true := by simp [c3]
          obtain rfl := key 2 (by simp [ftE, c1, c2, c3])
          clear key c1 c2 c3 e1 e2
          go_wp2_with fail
          refine (HI1.out W (Below.refl _ _)).mono ?_
          rintro e w1 ⟨rfl, hb1⟩
          replace s0 := cell_later hb1 s0
          replace s1 := cell_later hb1 s1
          replace s2 := cell_later hb1 s2
          replace m0 := cell_later hb1 m0
          replace m1 := cell_later hb1 m1
          replace m2 := cell_later hb1 m2
          replace m3 := cell_later hb1 m3
          go_wp2_with fail
          refine (HI2.out w1 hb1).mono ?_
          rintro e w2 ⟨rfl, hb2⟩
          replace s0 := cell_later hb2 s0
          replace s1 := cell_later hb2 s1
          replace s2 := cell_later hb2 s2
          replace m0 := cell_later hb2 m0
          replace m1 := cell_later hb2 m1
          replace m2 := cell_later hb2 m2
          replace m3 := cell_later hb2 m3
          go_wp2_with fail
          go_ret
          exact ⟨rfl, Below.next (Below.next HB.out hb1) hb2⟩
        · have r3 : (ot == nd) = false := by simp [c3]
          have hl := HL.out
          obtain ⟨i, hi, hti, he⟩ := atC_get c1
          obtain ⟨g, o, rfl, _, hrow⟩ := RdC.at HHH.out.rows hN i (by omega)
          have hnx := (HHH.out.cop i).nx
          have hst := (HHH.out.cop i).st
          obtain ⟨y, HY⟩ : ∃ y, Hid (gq q i = y) := ⟨_, Lib.hid rfl⟩
          obtain ⟨cc, HC⟩ : ∃ cc, Hid (gc X.cs i = cc) := ⟨_, Lib.hid rfl⟩
          rw [HY.out, HC.out] at hnx hst
          rw [HY.out] at hrow
          rw [HC.out] at he
          have g0 := hrow.1
          have g3 := hrow.2.2.2.1
          have hNm := HHH.out.rows.2.1
          rw [hN] at hNm
          unfold maxLen at hNm
          have i1 : (0 : Int) ≤ (i : Int) := by omega
          have i2 : (i : Int) < (N : Int) := by omega
          have hwi : IntKind.i64.wrap (i : Int) = (i : Int) := IntWalk.i64_in _ (by omega)
          have hwn : IntKind.i64.wrap (nd - 1) = (i : Int) := by rw [show nd - 1 = (i : Int) by omega]; exact hwi
          clear hrow hl hi
          by_cases c4 : cc.st = 1
          · have r4 : (y.st != 1) = false := by simp [hst, c4]
            by_cases c5 : F = 64
            · have r5 : ((F : Int) == 64) = true := by simp [c5]
              obtain rfl := key 5 (by simp [ftE, c1, c2, c3, he, c4, hF, c5])
              clear key c1 c2 c3 c4 c5 e1 e2 hst hnx he hti
              go_wp2_with fail
              refine (HI1.out W (Below.refl _ _)).mono ?_
              rintro e w1 ⟨rfl, hb1⟩
              replace s0 := cell_later hb1 s0
              replace s1 := cell_later hb1 s1
              replace s2 := cell_later hb1 s2
              replace m0 := cell_later hb1 m0
              replace m1 := cell_later hb1 m1
              replace m2 := cell_later hb1 m2
              replace m3 := cell_later hb1 m3
              go_wp2_with fail
              refine (HI2.out w1 hb1).mono ?_
              rintro e w2 ⟨rfl, hb2⟩
              replace s0 := cell_later hb2 s0
              replace s1 := cell_later hb2 s1
              replace s2 := cell_later hb2 s2
              replace m0 := cell_later hb2 m0
              replace m1 := cell_later hb2 m1
              replace m2 := cell_later hb2 m2
              replace m3 := cell_later hb2 m3
              replace g0 := cell_later hb2 (cell_later hb1 g0)
              replace g3 := cell_later hb2 (cell_later hb1 g3)
              go_wp2_with fail
              go_ret
              exact ⟨rfl, Below.next (Below.next HB.out hb1) hb2⟩
            · have r5 : ((F : Int) == 64) = false := by rw [beq_eq_false_iff_ne]; omega
              by_cases c6 : cc.nx = 1099511627776
              · have r6 : (y.nx == 1099511627776) = true := by simp [hnx, c6]
                obtain rfl := key 5 (by simp [ftE, c1, c2, c3, he, c4, hF, show ¬ 64 ≤ F by omega, c6])
                clear key c1 c2 c3 c4 c5 c6 e1 e2 hst hnx he hti
                go_wp2_with fail
                refine (HI1.out W (Below.refl _ _)).mono ?_
                rintro e w1 ⟨rfl, hb1⟩
                replace s0 := cell_later hb1 s0
                replace s1 := cell_later hb1 s1
                replace s2 := cell_later hb1 s2
                replace m0 := cell_later hb1 m0
                replace m1 := cell_later hb1 m1
                replace m2 := cell_later hb1 m2
                replace m3 := cell_later hb1 m3
                go_wp2_with fail
                refine (HI2.out w1 hb1).mono ?_
                rintro e w2 ⟨rfl, hb2⟩
                replace s0 := cell_later hb2 s0
                replace s1 := cell_later hb2 s1
                replace s2 := cell_later hb2 s2
                replace m0 := cell_later hb2 m0
                replace m1 := cell_later hb2 m1
                replace m2 := cell_later hb2 m2
                replace m3 := cell_later hb2 m3
                replace g0 := cell_later hb2 (cell_later hb1 g0)
                replace g3 := cell_later hb2 (cell_later hb1 g3)
                go_wp2_with fail
                go_ret
                exact ⟨rfl, Below.next (Below.next HB.out hb1) hb2⟩
              · have r6 : (y.nx == 1099511627776) = false := by simp [hnx, c6]
                obtain rfl := key 0 (by simp [ftE, c1, c2, c3, he, c4, hF, show ¬ 64 ≤ F by omega, c6])
                clear key c1 c2 c3 c4 c5 c6 e1 e2 hst hnx he hti
                go_wp2_with fail
                refine (HI1.out W (Below.refl _ _)).mono ?_
                rintro e w1 ⟨rfl, hb1⟩
                replace s0 := cell_later hb1 s0
                replace s1 := cell_later hb1 s1
                replace s2 := cell_later hb1 s2
                replace m0 := cell_later hb1 m0
                replace m1 := cell_later hb1 m1
                replace m2 := cell_later hb1 m2
                replace m3 := cell_later hb1 m3
                go_wp2_with fail
                refine (HI2.out w1 hb1).mono ?_
                rintro e w2 ⟨rfl, hb2⟩
                replace s0 := cell_later hb2 s0
                replace s1 := cell_later hb2 s1
                replace s2 := cell_later hb2 s2
                replace m0 := cell_later hb2 m0
                replace m1 := cell_later hb2 m1
                replace m2 := cell_later hb2 m2
                replace m3 := cell_later hb2 m3
                replace g0 := cell_later hb2 (cell_later hb1 g0)
                replace g3 := cell_later hb2 (cell_later hb1 g3)
                go_wp2_with fail
                go_ret
                exact ⟨rfl, Below.next (Below.next HB.out hb1) hb2⟩
          · have r4 : (y.st != 1) = true := by simp [hst, c4]
            obtain rfl := key 12 (by simp [ftE, c1, c2, c3, he, c4])
            clear key c1 c2 c3 c4 e1 e2 hst hnx he hti
            go_wp2_with fail
            refine (HI1.out W (Below.refl _ _)).mono ?_
            rintro e w1 ⟨rfl, hb1⟩
            replace s0 := cell_later hb1 s0
            replace s1 := cell_later hb1 s1
            replace s2 := cell_later hb1 s2
            replace m0 := cell_later hb1 m0
            replace m1 := cell_later hb1 m1
            replace m2 := cell_later hb1 m2
            replace m3 := cell_later hb1 m3
            go_wp2_with fail
            refine (HI2.out w1 hb1).mono ?_
            rintro e w2 ⟨rfl, hb2⟩
            replace s0 := cell_later hb2 s0
            replace s1 := cell_later hb2 s1
            replace s2 := cell_later hb2 s2
            replace m0 := cell_later hb2 m0
            replace m1 := cell_later hb2 m1
            replace m2 := cell_later hb2 m2
            replace m3 := cell_later hb2 m3
            replace g0 := cell_later hb2 (cell_later hb1 g0)
            replace g3 := cell_later hb2 (cell_later hb1 g3)
            go_wp2_with fail
            go_ret
            exact ⟨rfl, Below.next (Below.next HB.out hb1) hb2⟩
      · have e2 := nb c2
        rw [e2] at HI2
        obtain rfl := key 2 (by simp [ftE, c1, c2])
        clear key c1 c2 e1 e2
        go_wp2_with fail
        refine (HI1.out W (Below.refl _ _)).mono ?_
        rintro e w1 ⟨rfl, hb1⟩
        replace s0 := cell_later hb1 s0
        replace s1 := cell_later hb1 s1
        replace s2 := cell_later hb1 s2
        replace m0 := cell_later hb1 m0
        replace m1 := cell_later hb1 m1
        replace m2 := cell_later hb1 m2
        replace m3 := cell_later hb1 m3
        go_wp2_with fail
        refine (HI2.out w1 hb1).mono ?_
        rintro e w2 ⟨rfl, hb2⟩
        replace s0 := cell_later hb2 s0
        replace s1 := cell_later hb2 s1
        replace s2 := cell_later hb2 s2
        replace m0 := cell_later hb2 m0
        replace m1 := cell_later hb2 m1
        replace m2 := cell_later hb2 m2
        replace m3 := cell_later hb2 m3
        go_wp2_with fail
        go_ret
        exact ⟨rfl, Below.next (Below.next HB.out hb1) hb2⟩
    · have e1 := nb c1
      rw [e1] at HI1
      obtain rfl := key 2 (by simp [ftE, c1])
      clear key c1 e1
      go_wp2_with fail
      refine (HI1.out W (Below.refl _ _)).mono ?_
      rintro e w1 ⟨rfl, hb1⟩
      replace s0 := cell_later hb1 s0
      replace s1 := cell_later hb1 s1
      replace s2 := cell_later hb1 s2
      replace m0 := cell_later hb1 m0
      replace m1 := cell_later hb1 m1
      replace m2 := cell_later hb1 m2
      replace m3 := cell_later hb1 m3
      go_wp2_with fail
      go_ret
      exact ⟨rfl, Below.next HB.out hb1⟩
  by_cases hk : k = 5
  · subst hk
    by_cases c1 : isN X nd
    · have e1 := yb c1
      rw [e1] at HI1
      obtain rfl := key 0 (by simp [ftE, c1])
      clear key c1 e1
      go_wp2_with fail
      refine (HI1.out W (Below.refl _ _)).mono ?_
      rintro e w1 ⟨rfl, hb1⟩
      replace s0 := cell_later hb1 s0
      replace s1 := cell_later hb1 s1
      replace s2 := cell_later hb1 s2
      replace m0 := cell_later hb1 m0
      replace m1 := cell_later hb1 m1
      replace m2 := cell_later hb1 m2
      replace m3 := cell_later hb1 m3
      go_wp2_with fail
      go_ret
      exact ⟨rfl, Below.next HB.out hb1⟩
    · have e1 := nb c1
      rw [e1] at HI1
      obtain rfl := key 2 (by simp [ftE, c1])
      clear key c1 e1
      go_wp2_with fail
      refine (HI1.out W (Below.refl _ _)).mono ?_
      rintro e w1 ⟨rfl, hb1⟩
      replace s0 := cell_later hb1 s0
      replace s1 := cell_later hb1 s1
      replace s2 := cell_later hb1 s2
      replace m0 := cell_later hb1 m0
      replace m1 := cell_later hb1 m1
      replace m2 := cell_later hb1 m2
      replace m3 := cell_later hb1 m3
      go_wp2_with fail
      go_ret
      exact ⟨rfl, Below.next HB.out hb1⟩
  by_cases hk : k = 6
  · subst hk
    by_cases c1 : isN X nd
    · have e1 := yb c1
      rw [e1] at HI1
      obtain rfl := key 0 (by simp [ftE, c1])
      clear key c1 e1
      go_wp2_with fail
      refine (HI1.out W (Below.refl _ _)).mono ?_
      rintro e w1 ⟨rfl, hb1⟩
      replace s0 := cell_later hb1 s0
      replace s1 := cell_later hb1 s1
      replace s2 := cell_later hb1 s2
      replace m0 := cell_later hb1 m0
      replace m1 := cell_later hb1 m1
      replace m2 := cell_later hb1 m2
      replace m3 := cell_later hb1 m3
      go_wp2_with fail
      go_ret
      exact ⟨rfl, Below.next HB.out hb1⟩
    · have e1 := nb c1
      rw [e1] at HI1
      obtain rfl := key 2 (by simp [ftE, c1])
      clear key c1 e1
      go_wp2_with fail
      refine (HI1.out W (Below.refl _ _)).mono ?_
      rintro e w1 ⟨rfl, hb1⟩
      replace s0 := cell_later hb1 s0
      replace s1 := cell_later hb1 s1
      replace s2 := cell_later hb1 s2
      replace m0 := cell_later hb1 m0
      replace m1 := cell_later hb1 m1
      replace m2 := cell_later hb1 m2
      replace m3 := cell_later hb1 m3
      go_wp2_with fail
      go_ret
      exact ⟨rfl, Below.next HB.out hb1⟩
  by_cases hk : k = 2
  · subst hk
    by_cases c1 : n < 0
    · have r1 := yb c1
      obtain rfl := key 8 (by simp [ftE, c1])
      clear key c1
      go_wp2_with fail
      go_ret
      exact ⟨rfl, HB.out⟩
    · have r1 := nb c1
      by_cases c2 : (F : Int) ≤ n
      · have r2 := yb c2
        obtain rfl := key 8 (by simp [ftE, hF, c1, c2])
        clear key c1 c2
        go_wp2_with fail
        go_ret
        exact ⟨rfl, HB.out⟩
      · have r2 := nb c2
        obtain rfl := key 0 (by simp [ftE, hF, c1, c2])
        clear key c1 c2
        go_wp2_with fail
        go_ret
        exact ⟨rfl, HB.out⟩
  by_cases hk : k = 3
  · subst hk
    by_cases c1 : n < 0
    · have r1 := yb c1
      obtain rfl := key 8 (by simp [ftE, c1])
      clear key c1
      go_wp2_with fail
      go_ret
      exact ⟨rfl, HB.out⟩
    · have r1 := nb c1
      by_cases c2 : (F : Int) ≤ n
      · have r2 := yb c2
        obtain rfl := key 8 (by simp [ftE, hF, c1, c2])
        clear key c1 c2
        go_wp2_with fail
        go_ret
        exact ⟨rfl, HB.out⟩
      · have r2 := nb c2
        obtain rfl := key 0 (by simp [ftE, hF, c1, c2])
        clear key c1 c2
        go_wp2_with fail
        go_ret
        exact ⟨rfl, HB.out⟩
  by_cases hk4 : k = 4
  · subst hk4
    by_cases c1 : n < 0
    · have r1 := yb c1
      obtain rfl := key 8 (by simp [ftE, c1])
      clear key c1
      go_wp2_with fail
      go_ret
      exact ⟨rfl, HB.out⟩
    · have r1 := nb c1
      by_cases c2 : (F : Int) ≤ n
      · have r2 := yb c2
        obtain rfl := key 8 (by simp [ftE, hF, c1, c2])
        clear key c1 c2
        go_wp2_with fail
        go_ret
        exact ⟨rfl, HB.out⟩
      · have r2 := nb c2
        by_cases c5 : F = 64
        · have r5 : ((F : Int) == 64) = true := by simp [c5]
          obtain rfl := key 5 (by simp [ftE, c1, hF, c2, show 64 ≤ F by omega])
          clear key c1 c2 c5
          go_wp2_with fail
          go_ret
          exact ⟨rfl, HB.out⟩
        · have r5 : ((F : Int) == 64) = false := by rw [beq_eq_false_iff_ne]; omega
          obtain rfl := key 0 (by simp [ftE, c1, hF, c2, show ¬ 64 ≤ F by omega])
          clear key c1 c2 c5
          go_wp2_with fail
          go_ret
          exact ⟨rfl, HB.out⟩
  obtain rfl := key 7 (by unfold ftE; exact if_pos (by show k < 1 ∨ 6 < k; omega))
  have q1 : (k == 1) = false := by rw [beq_eq_false_iff_ne]; omega
  have q5 : (k == 5) = false := by rw [beq_eq_false_iff_ne]; omega
  have q6 : (k == 6) = false := by rw [beq_eq_false_iff_ne]; omega
  clear key
  by_cases c1 : k < 1
  · have r1 := yb c1
    go_wp2_with fail
    go_ret
    exact ⟨rfl, HB.out⟩
  · have r1 := nb c1
    have r2 : decide (6 < k) = true := yb (by omega)
    go_wp2_with fail
    go_ret
    exact ⟨rfl, HB.out⟩


theorem OR.mono {w : World} {B B' g cap : Nat} {fv : Value} {q : List Cq} {X : Wd} (h : OR w B g cap fv q X) (hB : B' ≤ B) : OR w B' g cap fv q X :=
  ⟨own_mono h.rows hB, own_mono h.frs hB, h.len, fun i => ⟨(h.cop i).st, (h.cop i).tt, (h.cop i).of, (h.cop i).nx, own_mono (h.cop i).tk hB, own_mono (h.cop i).kp hB⟩, h.ap⟩
/-- a world of one's own in the reference's move -/
structure RW (w0 w : World) (g cap : Nat) (fv : Value) (q : List Cq) (X : Wd) : Prop where
  box : BoxN w w0.heap.size 25 #[.int .i64 X.ds, .slice (some ⟨g, 0, none⟩) X.cs.length cap, fv]
  ret : BoxN w (w0.heap.size + 2) 25 #[.int .i64 0, .slice none 0 0, .slice none 0 0]
  or : OR w w0.heap.size g cap fv q X
  bel : Below w0.heap.size w0 w
theorem RW.nb {w0 w : World} {g cap : Nat} {fv : Value} {q : List Cq} {X : Wd} (h : RW w0 w g cap fv q X) : ¬ Mn g fv q w0.heap.size := h.or.nbox h.box (by decide) (by decide) (by decide)
theorem RW.nr {w0 w : World} {g cap : Nat} {fv : Value} {q : List Cq} {X : Wd} (h : RW w0 w g cap fv q X) : ¬ Mn g fv q (w0.heap.size + 2) := h.or.nbox h.ret (by decide) (by decide) (by decide)
theorem RW.below {w0 w w' : World} {g cap : Nat} {fv : Value} {q : List Cq} {X : Wd} (h : RW w0 w g cap fv q X) (hb : Below w.heap.size w w') : RW w0 w' g cap fv q X :=
  ⟨h.box.below hb, h.ret.below hb, h.or.below hb, Below.next h.bel hb⟩
/-- the copies changed, the frames' row stays -/
theorem RW.put {w0 w w' : World} {g cap : Nat} {fv : Value} {q q' : List Cq} {X X1 : Wd} (h : RW w0 w g cap fv q X) (hk : Kx (Mn g fv q) w w') (ho : OR w' w0.heap.size g cap fv q' X1) (hd : X1.ds = X.ds) (hl : X1.cs.length = X.cs.length) : RW w0 w' g cap fv q' X1 :=
  ⟨by rw [hd, hl]; exact hk.box h.nb h.box, hk.box h.nr h.ret, ho, h.bel.trans (hk.below h.bel.size (fun k e => (h.or.gt_lt e).1))⟩
/-- a changed world, stored into the box -/
theorem RW.store {w0 w w' : World} {g cap : Nat} {fv fv' : Value} {q q' : List Cq} {X X1 : Wd} (h : RW w0 w g cap fv q X) (hk : Kx (Mn g fv q) w w') (ho : OR w' w0.heap.size g cap fv' q' X1) :
    RW w0 (((w'.setCell ⟨w0.heap.size, 0, none⟩ (.int .i64 X1.ds)).setCell ⟨w0.heap.size, 1, none⟩ (.slice (some ⟨g, 0, none⟩) X1.cs.length cap)).setCell ⟨w0.heap.size, 2, none⟩ fv') g cap fv' q' X1 := by
  have hb := hk.box h.nb h.box
  have hr := hk.box h.nr h.ret
  have hkb : Kx (fun k => k = w0.heap.size) w' (((w'.setCell ⟨w0.heap.size, 0, none⟩ (.int .i64 X1.ds)).setCell ⟨w0.heap.size, 1, none⟩ (.slice (some ⟨g, 0, none⟩) X1.cs.length cap)).setCell ⟨w0.heap.size, 2, none⟩ fv') := (((Kx.refl (fun k => k = w0.heap.size) w').setCell (.inl rfl) _).setCell (.inl rfl) _).setCell (.inl rfl) _
  have hb1 := h.bel.trans (hk.below h.bel.size (fun k e => (h.or.gt_lt e).1))
  refine ⟨((hb.setc 0 _).setc 1 _).setc 2 _, hkb.box (by omega) hr, ho.kx hkb (fun k e e2 => ho.nbox hb (by decide) (by decide) (by decide) (by rw [e2] at e; exact e)), hb1.trans (hkb.below hb1.size (fun k e => by omega))⟩
set_option maxHeartbeats 1000000 in
theorem rmove_bad (w : World) (v : Value) (X : Wd) (k nd ot n : Int) (rash : Bool) (h : RdW w v X) (ho : ¬ Okw X) :
    Calls Try.prog 45 #[v, .agg #[.int .i64 k, .int .i64 nd, .int .i64 ot, .int .i64 n], .bool rash] w (MvR w W0 3) := by
  obtain ⟨cv, fv0, q0, rfl, hp⟩ := h
  obtain ⟨a, c, rfl⟩ := hp.rows.form
  obtain ⟨fa, fc, rfl⟩ := hp.frs.form
  obtain ⟨N, hN⟩ : ∃ N, q0.length = N := ⟨_, rfl⟩
  obtain ⟨F, hF⟩ : ∃ F, X.fr.length = F := ⟨_, rfl⟩
  rw [hN] at hp ⊢
  rw [hF] at hp ⊢
  clear hN hF
  obtain ⟨W, hW⟩ : ∃ W : World, W = ((w.alloc (.cells #[.int .i64 X.ds, .slice a N c, .slice fa F fc] 25)).alloc (.cells #[.int .i64 (k), .int .i64 nd, .int .i64 ot, .int .i64 (n)] 40)).alloc (.cells #[.int .i64 0, .slice none 0 0, .slice none 0 0] 25) := ⟨_, rfl⟩
  have hB0 : Below w.heap.size w W := by rw [hW]; exact (by repeat (first | assumption | exact Below.refl _ _ | apply Below.al | apply below_drewN | apply Below.drew | refine Below.next ?_ (by assumption)))
  have hWs : w.heap.size + 3 ≤ W.heap.size := by rw [hW]; simp
  have bX : BoxN W w.heap.size 25 #[.int .i64 X.ds, .slice a N c, .slice fa F fc] := by rw [hW]; exact (BoxN.new w _ _).below (by repeat (first | assumption | exact Below.refl _ _ | apply Below.al | apply below_drewN | apply Below.drew | refine Below.next ?_ (by assumption)))
  have bM : BoxN W (w.heap.size + 1) 40 #[.int .i64 (k), .int .i64 nd, .int .i64 ot, .int .i64 (n)] := by
    rw [hW]
    have := BoxN.new (w.alloc (.cells #[.int .i64 X.ds, .slice a N c, .slice fa F fc] 25)) 40 #[.int .i64 (k), .int .i64 nd, .int .i64 ot, .int .i64 (n)]
    have e2 := this.below (Below.al (Below.refl _ _) (.cells #[.int .i64 0, .slice none 0 0, .slice none 0 0] 25))
    simpa using e2
  have bT : BoxN W (w.heap.size + 2) 25 #[.int .i64 0, .slice none 0 0, .slice none 0 0] := by
    rw [hW]
    have := BoxN.new ((w.alloc (.cells #[.int .i64 X.ds, .slice a N c, .slice fa F fc] 25)).alloc (.cells #[.int .i64 (k), .int .i64 nd, .int .i64 ot, .int .i64 (n)] 40)) 25 #[.int .i64 0, .slice none 0 0, .slice none 0 0]
    simpa using this
  have HRD : Hid (RdW W (wV X (.slice a N c) (.slice fa F fc)) X) := Lib.hid ⟨_, _, _, rfl, hp.keep hB0⟩
  have HPW := Lib.hid (hp.keep hB0)
  have HBX := Lib.hid bX
  have HBM := Lib.hid bM
  have HBT := Lib.hid bT
  have x0 : W.cell? ⟨w.heap.size, 0, none⟩ = some (.int .i64 X.ds) := bX.cell 0
  have x1 : W.cell? ⟨w.heap.size, 1, none⟩ = some (.slice a N c) := bX.cell 1
  have x2 : W.cell? ⟨w.heap.size, 2, none⟩ = some (.slice fa F fc) := bX.cell 2
  have m0 : W.cell? ⟨w.heap.size + 1, 0, none⟩ = some (.int .i64 (k)) := bM.cell 0
  have m1 : W.cell? ⟨w.heap.size + 1, 1, none⟩ = some (.int .i64 nd) := bM.cell 1
  have m2 : W.cell? ⟨w.heap.size + 1, 2, none⟩ = some (.int .i64 ot) := bM.cell 2
  have m3 : W.cell? ⟨w.heap.size + 1, 3, none⟩ = some (.int .i64 (n)) := bM.cell 3
  clear bX bM bT hp
  go_enter Try.func45, Try.ntmps45
  go_upto_region 1 with fail
  rw [← hW]
  clear hW
  have HCK := Lib.hid (rcheck_any W _ X 3 (by unfold chkE; exact if_neg ho) HRD.out)
  clear ho
  go_wp2_with fail
  refine HCK.out.mono ?_
  rintro e w1 ⟨rfl, hb1⟩
  have hB1 := Below.next hB0 hb1
  have e3 := HBT.out.below hb1
  have t0 : World.cell? w1 ⟨w.heap.size + 2, 0, none⟩ = some (.int .i64 0) := (e3).cell 0
  have t1 : World.cell? w1 ⟨w.heap.size + 2, 1, none⟩ = some (.slice none 0 0) := (e3).cell 1
  have t2 : World.cell? w1 ⟨w.heap.size + 2, 2, none⟩ = some (.slice none 0 0) := (e3).cell 2
  have z0 := (e3).frozen 0
  have z1 := (e3).frozen 1
  have z2 := (e3).frozen 2
  go_wp2_with fail
  refine bodyPost_ret (v := .tuple #[.agg #[.int .i64 0, .slice none 0 0, .slice none 0 0], .int .i64 3]) (by simp [results, Try.results45, go_sem, t0, t1, t2]) rfl ⟨_, rfl, ?_, RdF.zero _ _⟩
  exact (((hB1).setCell (p := ⟨w.heap.size + 2, 0, none⟩) (by show w.heap.size ≤ w.heap.size + 2; omega) _).setCell (p := ⟨w.heap.size + 2, 1, none⟩) (by show w.heap.size ≤ w.heap.size + 2; omega) _).setCell (p := ⟨w.heap.size + 2, 2, none⟩) (by show w.heap.size ≤ w.heap.size + 2; omega) _
set_option maxHeartbeats 1000000 in
theorem rmove_wrong (w : World) (v : Value) (X : Wd) (k nd ot n : Int) (rash : Bool) (er : Int) (hs : Sml X) (h : RdW w v X) (ho : Okw X) (hf : ftE X ⟨k, nd, ot, n⟩ = er) (hz : er ≠ 0) :
    Calls Try.prog 45 #[v, .agg #[.int .i64 k, .int .i64 nd, .int .i64 ot, .int .i64 n], .bool rash] w (MvR w W0 er) := by
  have d1 : (er != 0) = true := by simpa using hz
  clear hz
  obtain ⟨cv, fv0, q0, rfl, hp⟩ := h
  obtain ⟨a, c, rfl⟩ := hp.rows.form
  obtain ⟨fa, fc, rfl⟩ := hp.frs.form
  obtain ⟨N, hN⟩ : ∃ N, q0.length = N := ⟨_, rfl⟩
  obtain ⟨F, hF⟩ : ∃ F, X.fr.length = F := ⟨_, rfl⟩
  rw [hN] at hp ⊢
  rw [hF] at hp ⊢
  clear hN hF
  obtain ⟨W, hW⟩ : ∃ W : World, W = ((w.alloc (.cells #[.int .i64 X.ds, .slice a N c, .slice fa F fc] 25)).alloc (.cells #[.int .i64 (k), .int .i64 nd, .int .i64 ot, .int .i64 (n)] 40)).alloc (.cells #[.int .i64 0, .slice none 0 0, .slice none 0 0] 25) := ⟨_, rfl⟩
  have hB0 : Below w.heap.size w W := by rw [hW]; exact (by repeat (first | assumption | exact Below.refl _ _ | apply Below.al | apply below_drewN | apply Below.drew | refine Below.next ?_ (by assumption)))
  have hWs : w.heap.size + 3 ≤ W.heap.size := by rw [hW]; simp
  have bX : BoxN W w.heap.size 25 #[.int .i64 X.ds, .slice a N c, .slice fa F fc] := by rw [hW]; exact (BoxN.new w _ _).below (by repeat (first | assumption | exact Below.refl _ _ | apply Below.al | apply below_drewN | apply Below.drew | refine Below.next ?_ (by assumption)))
  have bM : BoxN W (w.heap.size + 1) 40 #[.int .i64 (k), .int .i64 nd, .int .i64 ot, .int .i64 (n)] := by
    rw [hW]
    have := BoxN.new (w.alloc (.cells #[.int .i64 X.ds, .slice a N c, .slice fa F fc] 25)) 40 #[.int .i64 (k), .int .i64 nd, .int .i64 ot, .int .i64 (n)]
    have e2 := this.below (Below.al (Below.refl _ _) (.cells #[.int .i64 0, .slice none 0 0, .slice none 0 0] 25))
    simpa using e2
  have bT : BoxN W (w.heap.size + 2) 25 #[.int .i64 0, .slice none 0 0, .slice none 0 0] := by
    rw [hW]
    have := BoxN.new ((w.alloc (.cells #[.int .i64 X.ds, .slice a N c, .slice fa F fc] 25)).alloc (.cells #[.int .i64 (k), .int .i64 nd, .int .i64 ot, .int .i64 (n)] 40)) 25 #[.int .i64 0, .slice none 0 0, .slice none 0 0]
    simpa using this
  have HRD : Hid (RdW W (wV X (.slice a N c) (.slice fa F fc)) X) := Lib.hid ⟨_, _, _, rfl, hp.keep hB0⟩
  have HPW := Lib.hid (hp.keep hB0)
  have HBX := Lib.hid bX
  have HBM := Lib.hid bM
  have HBT := Lib.hid bT
  have x0 : W.cell? ⟨w.heap.size, 0, none⟩ = some (.int .i64 X.ds) := bX.cell 0
  have x1 : W.cell? ⟨w.heap.size, 1, none⟩ = some (.slice a N c) := bX.cell 1
  have x2 : W.cell? ⟨w.heap.size, 2, none⟩ = some (.slice fa F fc) := bX.cell 2
  have m0 : W.cell? ⟨w.heap.size + 1, 0, none⟩ = some (.int .i64 (k)) := bM.cell 0
  have m1 : W.cell? ⟨w.heap.size + 1, 1, none⟩ = some (.int .i64 nd) := bM.cell 1
  have m2 : W.cell? ⟨w.heap.size + 1, 2, none⟩ = some (.int .i64 ot) := bM.cell 2
  have m3 : W.cell? ⟨w.heap.size + 1, 3, none⟩ = some (.int .i64 (n)) := bM.cell 3
  clear bX bM bT hp
  go_enter Try.func45, Try.ntmps45
  go_upto_region 1 with fail
  rw [← hW]
  clear hW
  have HCK := Lib.hid (rcheck_any W _ X 0 (by unfold chkE; exact if_pos ho) HRD.out)
  have HFT := Lib.hid (fun w' (hb : Below W.heap.size W w') => rfault_any w' _ _ q0 X ⟨k, nd, ot, n⟩ _ hf ho.2.2.2.1 (HPW.out.keep hb))
  have HO := Lib.hid ho
  have HS := Lib.hid hs
  clear ho hf hs
  go_wp2_with fail
  refine HCK.out.mono ?_
  rintro e w1 ⟨rfl, hb1⟩
  have x0 := cell_later hb1 x0
  have x1 := cell_later hb1 x1
  have x2 := cell_later hb1 x2
  have m0 := cell_later hb1 m0
  have m1 := cell_later hb1 m1
  have m2 := cell_later hb1 m2
  have m3 := cell_later hb1 m3
  go_wp2_with fail
  refine (HFT.out w1 hb1).mono ?_
  rintro e w2 ⟨rfl, hb2⟩
  have hb12 := Below.next hb1 hb2
  have x0 := cell_later hb2 x0
  have x1 := cell_later hb2 x1
  have x2 := cell_later hb2 x2
  have m0 := cell_later hb2 m0
  have m1 := cell_later hb2 m1
  have m2 := cell_later hb2 m2
  have m3 := cell_later hb2 m3
  have hB1 := Below.next hB0 hb12
  have e3 := HBT.out.below hb12
  have t0 : World.cell? w2 ⟨w.heap.size + 2, 0, none⟩ = some (.int .i64 0) := (e3).cell 0
  have t1 : World.cell? w2 ⟨w.heap.size + 2, 1, none⟩ = some (.slice none 0 0) := (e3).cell 1
  have t2 : World.cell? w2 ⟨w.heap.size + 2, 2, none⟩ = some (.slice none 0 0) := (e3).cell 2
  have z0 := (e3).frozen 0
  have z1 := (e3).frozen 1
  have z2 := (e3).frozen 2
  go_wp2_with fail
  refine bodyPost_ret (v := .tuple #[.agg #[.int .i64 0, .slice none 0 0, .slice none 0 0], .int .i64 er]) (by simp [results, Try.results45, go_sem, t0, t1, t2]) rfl ⟨_, rfl, ?_, RdF.zero _ _⟩
  exact (((hB1).setCell (p := ⟨w.heap.size + 2, 0, none⟩) (by show w.heap.size ≤ w.heap.size + 2; omega) _).setCell (p := ⟨w.heap.size + 2, 1, none⟩) (by show w.heap.size ≤ w.heap.size + 2; omega) _).setCell (p := ⟨w.heap.size + 2, 2, none⟩) (by show w.heap.size ≤ w.heap.size + 2; omega) _
set_option maxHeartbeats 1000000 in
theorem rmove_6 (w : World) (v : Value) (X : Wd) (nd ot n : Int) (rash : Bool) (hs : Sml X) (h : RdW w v X) (ho : Okw X) (hf : ftE X ⟨6, nd, ot, n⟩ = 0) :
    Calls Try.prog 45 #[v, .agg #[.int .i64 6, .int .i64 nd, .int .i64 ot, .int .i64 n], .bool rash] w (MvR w (mvW rash X ⟨6, nd, ot, n⟩) 0) := by
  have HND := Lib.hid ((ftE_zero hf).nd (.inr (.inr rfl)))
  obtain ⟨XE, HXE⟩ : ∃ XE, Hid (mvW rash X ⟨6, nd, ot, n⟩ = XE) := ⟨_, Lib.hid rfl⟩
  rw [HXE.out]
  obtain ⟨cv, fv0, q0, rfl, hp⟩ := h
  obtain ⟨a, c, rfl⟩ := hp.rows.form
  obtain ⟨fa, fc, rfl⟩ := hp.frs.form
  obtain ⟨N, hN⟩ : ∃ N, q0.length = N := ⟨_, rfl⟩
  obtain ⟨F, hF⟩ : ∃ F, X.fr.length = F := ⟨_, rfl⟩
  rw [hN] at hp ⊢
  rw [hF] at hp ⊢
  clear hN hF
  obtain ⟨W, hW⟩ : ∃ W : World, W = ((w.alloc (.cells #[.int .i64 X.ds, .slice a N c, .slice fa F fc] 25)).alloc (.cells #[.int .i64 (6), .int .i64 nd, .int .i64 ot, .int .i64 (n)] 40)).alloc (.cells #[.int .i64 0, .slice none 0 0, .slice none 0 0] 25) := ⟨_, rfl⟩
  have hB0 : Below w.heap.size w W := by rw [hW]; exact (by repeat (first | assumption | exact Below.refl _ _ | apply Below.al | apply below_drewN | apply Below.drew | refine Below.next ?_ (by assumption)))
  have hWs : w.heap.size + 3 ≤ W.heap.size := by rw [hW]; simp
  have bX : BoxN W w.heap.size 25 #[.int .i64 X.ds, .slice a N c, .slice fa F fc] := by rw [hW]; exact (BoxN.new w _ _).below (by repeat (first | assumption | exact Below.refl _ _ | apply Below.al | apply below_drewN | apply Below.drew | refine Below.next ?_ (by assumption)))
  have bM : BoxN W (w.heap.size + 1) 40 #[.int .i64 (6), .int .i64 nd, .int .i64 ot, .int .i64 (n)] := by
    rw [hW]
    have := BoxN.new (w.alloc (.cells #[.int .i64 X.ds, .slice a N c, .slice fa F fc] 25)) 40 #[.int .i64 (6), .int .i64 nd, .int .i64 ot, .int .i64 (n)]
    have e2 := this.below (Below.al (Below.refl _ _) (.cells #[.int .i64 0, .slice none 0 0, .slice none 0 0] 25))
    simpa using e2
  have bT : BoxN W (w.heap.size + 2) 25 #[.int .i64 0, .slice none 0 0, .slice none 0 0] := by
    rw [hW]
    have := BoxN.new ((w.alloc (.cells #[.int .i64 X.ds, .slice a N c, .slice fa F fc] 25)).alloc (.cells #[.int .i64 (6), .int .i64 nd, .int .i64 ot, .int .i64 (n)] 40)) 25 #[.int .i64 0, .slice none 0 0, .slice none 0 0]
    simpa using this
  have HRD : Hid (RdW W (wV X (.slice a N c) (.slice fa F fc)) X) := Lib.hid ⟨_, _, _, rfl, hp.keep hB0⟩
  have HPW := Lib.hid (hp.keep hB0)
  have HBX := Lib.hid bX
  have HBM := Lib.hid bM
  have HBT := Lib.hid bT
  have x0 : W.cell? ⟨w.heap.size, 0, none⟩ = some (.int .i64 X.ds) := bX.cell 0
  have x1 : W.cell? ⟨w.heap.size, 1, none⟩ = some (.slice a N c) := bX.cell 1
  have x2 : W.cell? ⟨w.heap.size, 2, none⟩ = some (.slice fa F fc) := bX.cell 2
  have m0 : W.cell? ⟨w.heap.size + 1, 0, none⟩ = some (.int .i64 (6)) := bM.cell 0
  have m1 : W.cell? ⟨w.heap.size + 1, 1, none⟩ = some (.int .i64 nd) := bM.cell 1
  have m2 : W.cell? ⟨w.heap.size + 1, 2, none⟩ = some (.int .i64 ot) := bM.cell 2
  have m3 : W.cell? ⟨w.heap.size + 1, 3, none⟩ = some (.int .i64 (n)) := bM.cell 3
  clear bX bM bT hp
  go_enter Try.func45, Try.ntmps45
  go_upto_region 1 with fail
  rw [← hW]
  clear hW
  have HCK := Lib.hid (rcheck_any W _ X 0 (by unfold chkE; exact if_pos ho) HRD.out)
  have HFT := Lib.hid (fun w' (hb : Below W.heap.size W w') => rfault_any w' _ _ q0 X ⟨6, nd, ot, n⟩ _ hf ho.2.2.2.1 (HPW.out.keep hb))
  have HO := Lib.hid ho
  have HS := Lib.hid hs
  clear ho hf hs
  go_wp2_with fail
  refine HCK.out.mono ?_
  rintro e w1 ⟨rfl, hb1⟩
  have x0 := cell_later hb1 x0
  have x1 := cell_later hb1 x1
  have x2 := cell_later hb1 x2
  have m0 := cell_later hb1 m0
  have m1 := cell_later hb1 m1
  have m2 := cell_later hb1 m2
  have m3 := cell_later hb1 m3
  go_wp2_with fail
  refine (HFT.out w1 hb1).mono ?_
  rintro e w2 ⟨rfl, hb2⟩
  have hb12 := Below.next hb1 hb2
  have x0 := cell_later hb2 x0
  have x1 := cell_later hb2 x1
  have x2 := cell_later hb2 x2
  have m0 := cell_later hb2 m0
  have m1 := cell_later hb2 m1
  have m2 := cell_later hb2 m2
  have m3 := cell_later hb2 m3
  have HOWN := Lib.hid (rown_any w2 _ X (HRD.out.keep hb12) HS.out (by have := HO.out.1; omega))
  have hs2 := hb12.size
  have HB2 := Lib.hid (Below.next hB0 hb12)
  have HX2 := Lib.hid (HBX.out.below hb12)
  have HM2 := Lib.hid (HBM.out.below hb12)
  have HT2 := Lib.hid (HBT.out.below hb12)
  clear hb1 hb2 hb12 hB0
  go_wp2_with fail
  refine HOWN.out.mono ?_
  rintro e w3 ⟨g, cap, fv, q, rfl, hor3, hb3⟩
  obtain ⟨fra, frc, hfrv⟩ := owns_form hor3.frs
  subst hfrv
  have f0 := (HX2.out.below hb3).frozen 0
  have f1 := (HX2.out.below hb3).frozen 1
  have f2 := (HX2.out.below hb3).frozen 2
  have y0 : w3.cell? ⟨w.heap.size, 0, none⟩ = some (.int .i64 X.ds) := (HX2.out.below hb3).cell 0
  have y1 : w3.cell? ⟨w.heap.size, 1, none⟩ = some (.slice a N c) := (HX2.out.below hb3).cell 1
  have y2 : w3.cell? ⟨w.heap.size, 2, none⟩ = some (.slice fa F fc) := (HX2.out.below hb3).cell 2
  obtain ⟨w4, hw4⟩ : ∃ V : World, V = ((w3.setCell ⟨w.heap.size, 0, none⟩ (.int .i64 X.ds)).setCell ⟨w.heap.size, 1, none⟩ (.slice (some ⟨g, 0, none⟩) X.cs.length cap)).setCell ⟨w.heap.size, 2, none⟩ (.slice fra X.fr.length frc) := ⟨_, rfl⟩
  have hk4 : Kx (fun k => k = w.heap.size) w3 w4 := by rw [hw4]; exact (((Kx.refl (fun k => k = w.heap.size) w3).setCell (.inl rfl) _).setCell (.inl rfl) _).setCell (.inl rfl) _
  have HRW : Hid (RW w w4 g cap (.slice fra X.fr.length frc) q X) := Lib.hid (by
    have e1 := Below.next HB2.out hb3
    exact ⟨by rw [hw4]; exact (((HX2.out.below hb3).setc 0 _).setc 1 _).setc 2 _, hk4.box (by omega) (HT2.out.below hb3), (hor3.kx hk4 (fun k e e2 => hor3.nbox (HX2.out.below hb3) (by decide) (by decide) (by decide) (by rw [e2] at e; exact e))).mono (by omega), e1.trans (hk4.below e1.size (fun k e => by omega))⟩)
  have HM4 := Lib.hid (hk4.box (by omega) (HM2.out.below hb3))
  go_upto_region 7 with fail
  rw [← hw4]
  have hw4s : w3.heap.size ≤ w4.heap.size := by rw [hw4]; simp
  have hw34 : w.heap.size ≤ w4.heap.size := HRW.out.bel.size
  clear hw4 hk4 hor3 hb3 f0 f1 f2 y0 y1 y2 x0 x1 x2 m0 m1 m2 m3 HX2 HM2 HT2 HB2 HOWN HFT HCK HBX HBM HBT
  have m0 : w4.cell? ⟨w.heap.size + 1, 0, none⟩ = some (.int .i64 (6)) := HM4.out.cell 0
  have m1 : w4.cell? ⟨w.heap.size + 1, 1, none⟩ = some (.int .i64 nd) := HM4.out.cell 1
  have m2 : w4.cell? ⟨w.heap.size + 1, 2, none⟩ = some (.int .i64 ot) := HM4.out.cell 2
  have m3 : w4.cell? ⟨w.heap.size + 1, 3, none⟩ = some (.int .i64 (n)) := HM4.out.cell 3
  have x0 : w4.cell? ⟨w.heap.size, 0, none⟩ = some (.int .i64 X.ds) := HRW.out.box.cell 0
  have x1 : w4.cell? ⟨w.heap.size, 1, none⟩ = some (.slice (some ⟨g, 0, none⟩) X.cs.length cap) := HRW.out.box.cell 1
  have x2 : w4.cell? ⟨w.heap.size, 2, none⟩ = some (.slice fra X.fr.length frc) := HRW.out.box.cell 2
  have hrs := rrestart_any w4 w.heap.size g cap (.slice fra X.fr.length frc) q X nd HND.out HS.out hw34 HRW.out.or
  have hxe : rstW X nd = XE := HXE.out
  rw [hxe] at hrs
  have HRS := Lib.hid hrs
  clear hrs hxe
  go_wp2_with fail
  refine HRS.out.mono ?_
  rintro e w5 ⟨fv5, q5, rfl, ho5, hk5, hm5⟩
  obtain ⟨fb, fd, hfv5⟩ := owns_form ho5.frs
  subst hfv5
  have hb5 := hk5.box HRW.out.nb HRW.out.box
  have f0 := hb5.frozen 0
  have f1 := hb5.frozen 1
  have f2 := hb5.frozen 2
  have y0 : w5.cell? ⟨w.heap.size, 0, none⟩ = some (.int .i64 X.ds) := hb5.cell 0
  have y1 : w5.cell? ⟨w.heap.size, 1, none⟩ = some (.slice (some ⟨g, 0, none⟩) X.cs.length cap) := hb5.cell 1
  have y2 : w5.cell? ⟨w.heap.size, 2, none⟩ = some (.slice fra X.fr.length frc) := hb5.cell 2
  have hst := HRW.out.store hk5 ho5
  obtain ⟨w6, hw6⟩ : ∃ V : World, V = ((w5.setCell ⟨w.heap.size, 0, none⟩ (.int .i64 XE.ds)).setCell ⟨w.heap.size, 1, none⟩ (.slice (some ⟨g, 0, none⟩) XE.cs.length cap)).setCell ⟨w.heap.size, 2, none⟩ (.slice fb XE.fr.length fd) := ⟨_, rfl⟩
  rw [← hw6] at hst
  clear hb5 ho5 hk5 hm5 m0 m1 m2 m3 x0 x1 x2
  go_upto_region 22 with fail
  rw [← hw6]
  clear hw6 f0 f1 f2 y0 y1 y2
  have hrw : ∃ g cap fv q, RW w w6 g cap fv q XE := ⟨_, _, _, _, hst⟩
  clear hst
  obtain ⟨g9, cap9, fv9, q9, ho9⟩ := hrw
  obtain ⟨fa9, fc9, hfv9⟩ := owns_form ho9.or.frs
  subst hfv9
  have t0 : World.cell? w6 ⟨w.heap.size + 2, 0, none⟩ = some (.int .i64 0) := ho9.ret.cell 0
  have t1 : World.cell? w6 ⟨w.heap.size + 2, 1, none⟩ = some (.slice none 0 0) := ho9.ret.cell 1
  have t2 : World.cell? w6 ⟨w.heap.size + 2, 2, none⟩ = some (.slice none 0 0) := ho9.ret.cell 2
  have z0 := ho9.ret.frozen 0
  have z1 := ho9.ret.frozen 1
  have z2 := ho9.ret.frozen 2
  have p0 : World.cell? w6 ⟨w.heap.size, 0, none⟩ = some (.int .i64 (XE).ds) := ho9.box.cell 0
  have p1 : World.cell? w6 ⟨w.heap.size, 1, none⟩ = some (.slice (some ⟨g9, 0, none⟩) (XE).cs.length cap9) := ho9.box.cell 1
  have p2 : World.cell? w6 ⟨w.heap.size, 2, none⟩ = some (.slice fa9 (XE).fr.length fc9) := ho9.box.cell 2
  have HO9 := Lib.hid ho9
  clear ho9
  go_wp2_with fail
  refine bodyPost_ret (v := .tuple #[.agg #[.int .i64 (XE).ds, .slice (some ⟨g9, 0, none⟩) (XE).cs.length cap9, .slice fa9 (XE).fr.length fc9], .int .i64 0]) (by simp [results, Try.results45, go_sem, t0, t1, t2]) rfl ⟨_, rfl, ?_, ⟨_, _, q9, rfl, ?_⟩⟩
  · exact ((HO9.out.bel.setCell (p := ⟨w.heap.size + 2, 0, none⟩) (by show w.heap.size ≤ w.heap.size + 2; omega) _).setCell (p := ⟨w.heap.size + 2, 1, none⟩) (by show w.heap.size ≤ w.heap.size + 2; omega) _).setCell (p := ⟨w.heap.size + 2, 2, none⟩) (by show w.heap.size ≤ w.heap.size + 2; omega) _
  · exact PtF.of_or (HO9.out.or.kx (S := fun k => k = w.heap.size + 2) (((kx_cell w6 (w.heap.size + 2) 0 _).setCell (.inl rfl) _).setCell (.inl rfl) _) (fun k hk e => by rw [e] at hk; exact HO9.out.nr hk))


set_option maxHeartbeats 1000000 in
theorem rmove_5 (w : World) (v : Value) (X : Wd) (nd ot n : Int) (rash : Bool) (hs : Sml X) (h : RdW w v X) (ho : Okw X) (hf : ftE X ⟨5, nd, ot, n⟩ = 0) :
    Calls Try.prog 45 #[v, .agg #[.int .i64 5, .int .i64 nd, .int .i64 ot, .int .i64 n], .bool rash] w (MvR w (mvW rash X ⟨5, nd, ot, n⟩) 0) := by
  have hnd : isN X nd := (ftE_zero hf).nd (.inr (.inl rfl))
  obtain ⟨i, hi, hfi, hat0⟩ := atC_get hnd
  clear hnd
  obtain ⟨XE, HXE⟩ : ∃ XE, Hid (mvW rash X ⟨5, nd, ot, n⟩ = XE) := ⟨_, Lib.hid rfl⟩
  have hx : setI X i (hld (gc X.cs i)) = XE := by
    rw [← HXE.out, ← hat0]
    show setI X i _ = setC X nd _
    unfold setC setI
    rw [show (nd - 1).toNat = i by omega]
  have HX := Lib.hid hx
  have HFI := Lib.hid hfi
  rw [HXE.out]
  clear hx hat0 hfi
  obtain ⟨cv, fv0, q0, rfl, hp⟩ := h
  obtain ⟨a, c, rfl⟩ := hp.rows.form
  obtain ⟨fa, fc, rfl⟩ := hp.frs.form
  obtain ⟨N, hN⟩ : ∃ N, q0.length = N := ⟨_, rfl⟩
  obtain ⟨F, hF⟩ : ∃ F, X.fr.length = F := ⟨_, rfl⟩
  rw [hN] at hp ⊢
  rw [hF] at hp ⊢
  clear hN hF
  obtain ⟨W, hW⟩ : ∃ W : World, W = ((w.alloc (.cells #[.int .i64 X.ds, .slice a N c, .slice fa F fc] 25)).alloc (.cells #[.int .i64 (5), .int .i64 nd, .int .i64 ot, .int .i64 (n)] 40)).alloc (.cells #[.int .i64 0, .slice none 0 0, .slice none 0 0] 25) := ⟨_, rfl⟩
  have hB0 : Below w.heap.size w W := by rw [hW]; exact (by repeat (first | assumption | exact Below.refl _ _ | apply Below.al | apply below_drewN | apply Below.drew | refine Below.next ?_ (by assumption)))
  have hWs : w.heap.size + 3 ≤ W.heap.size := by rw [hW]; simp
  have bX : BoxN W w.heap.size 25 #[.int .i64 X.ds, .slice a N c, .slice fa F fc] := by rw [hW]; exact (BoxN.new w _ _).below (by repeat (first | assumption | exact Below.refl _ _ | apply Below.al | apply below_drewN | apply Below.drew | refine Below.next ?_ (by assumption)))
  have bM : BoxN W (w.heap.size + 1) 40 #[.int .i64 (5), .int .i64 nd, .int .i64 ot, .int .i64 (n)] := by
    rw [hW]
    have := BoxN.new (w.alloc (.cells #[.int .i64 X.ds, .slice a N c, .slice fa F fc] 25)) 40 #[.int .i64 (5), .int .i64 nd, .int .i64 ot, .int .i64 (n)]
    have e2 := this.below (Below.al (Below.refl _ _) (.cells #[.int .i64 0, .slice none 0 0, .slice none 0 0] 25))
    simpa using e2
  have bT : BoxN W (w.heap.size + 2) 25 #[.int .i64 0, .slice none 0 0, .slice none 0 0] := by
    rw [hW]
    have := BoxN.new ((w.alloc (.cells #[.int .i64 X.ds, .slice a N c, .slice fa F fc] 25)).alloc (.cells #[.int .i64 (5), .int .i64 nd, .int .i64 ot, .int .i64 (n)] 40)) 25 #[.int .i64 0, .slice none 0 0, .slice none 0 0]
    simpa using this
  have HRD : Hid (RdW W (wV X (.slice a N c) (.slice fa F fc)) X) := Lib.hid ⟨_, _, _, rfl, hp.keep hB0⟩
  have HPW := Lib.hid (hp.keep hB0)
  have HBX := Lib.hid bX
  have HBM := Lib.hid bM
  have HBT := Lib.hid bT
  have x0 : W.cell? ⟨w.heap.size, 0, none⟩ = some (.int .i64 X.ds) := bX.cell 0
  have x1 : W.cell? ⟨w.heap.size, 1, none⟩ = some (.slice a N c) := bX.cell 1
  have x2 : W.cell? ⟨w.heap.size, 2, none⟩ = some (.slice fa F fc) := bX.cell 2
  have m0 : W.cell? ⟨w.heap.size + 1, 0, none⟩ = some (.int .i64 (5)) := bM.cell 0
  have m1 : W.cell? ⟨w.heap.size + 1, 1, none⟩ = some (.int .i64 nd) := bM.cell 1
  have m2 : W.cell? ⟨w.heap.size + 1, 2, none⟩ = some (.int .i64 ot) := bM.cell 2
  have m3 : W.cell? ⟨w.heap.size + 1, 3, none⟩ = some (.int .i64 (n)) := bM.cell 3
  clear bX bM bT hp
  go_enter Try.func45, Try.ntmps45
  go_upto_region 1 with fail
  rw [← hW]
  clear hW
  have HCK := Lib.hid (rcheck_any W _ X 0 (by unfold chkE; exact if_pos ho) HRD.out)
  have HFT := Lib.hid (fun w' (hb : Below W.heap.size W w') => rfault_any w' _ _ q0 X ⟨5, nd, ot, n⟩ _ hf ho.2.2.2.1 (HPW.out.keep hb))
  have HO := Lib.hid ho
  have HS := Lib.hid hs
  clear ho hf hs
  go_wp2_with fail
  refine HCK.out.mono ?_
  rintro e w1 ⟨rfl, hb1⟩
  have x0 := cell_later hb1 x0
  have x1 := cell_later hb1 x1
  have x2 := cell_later hb1 x2
  have m0 := cell_later hb1 m0
  have m1 := cell_later hb1 m1
  have m2 := cell_later hb1 m2
  have m3 := cell_later hb1 m3
  go_wp2_with fail
  refine (HFT.out w1 hb1).mono ?_
  rintro e w2 ⟨rfl, hb2⟩
  have hb12 := Below.next hb1 hb2
  have x0 := cell_later hb2 x0
  have x1 := cell_later hb2 x1
  have x2 := cell_later hb2 x2
  have m0 := cell_later hb2 m0
  have m1 := cell_later hb2 m1
  have m2 := cell_later hb2 m2
  have m3 := cell_later hb2 m3
  have HOWN := Lib.hid (rown_any w2 _ X (HRD.out.keep hb12) HS.out (by have := HO.out.1; omega))
  have hs2 := hb12.size
  have HB2 := Lib.hid (Below.next hB0 hb12)
  have HX2 := Lib.hid (HBX.out.below hb12)
  have HM2 := Lib.hid (HBM.out.below hb12)
  have HT2 := Lib.hid (HBT.out.below hb12)
  clear hb1 hb2 hb12 hB0
  go_wp2_with fail
  refine HOWN.out.mono ?_
  rintro e w3 ⟨g, cap, fv, q, rfl, hor3, hb3⟩
  obtain ⟨fra, frc, hfrv⟩ := owns_form hor3.frs
  subst hfrv
  have f0 := (HX2.out.below hb3).frozen 0
  have f1 := (HX2.out.below hb3).frozen 1
  have f2 := (HX2.out.below hb3).frozen 2
  have y0 : w3.cell? ⟨w.heap.size, 0, none⟩ = some (.int .i64 X.ds) := (HX2.out.below hb3).cell 0
  have y1 : w3.cell? ⟨w.heap.size, 1, none⟩ = some (.slice a N c) := (HX2.out.below hb3).cell 1
  have y2 : w3.cell? ⟨w.heap.size, 2, none⟩ = some (.slice fa F fc) := (HX2.out.below hb3).cell 2
  obtain ⟨w4, hw4⟩ : ∃ V : World, V = ((w3.setCell ⟨w.heap.size, 0, none⟩ (.int .i64 X.ds)).setCell ⟨w.heap.size, 1, none⟩ (.slice (some ⟨g, 0, none⟩) X.cs.length cap)).setCell ⟨w.heap.size, 2, none⟩ (.slice fra X.fr.length frc) := ⟨_, rfl⟩
  have hk4 : Kx (fun k => k = w.heap.size) w3 w4 := by rw [hw4]; exact (((Kx.refl (fun k => k = w.heap.size) w3).setCell (.inl rfl) _).setCell (.inl rfl) _).setCell (.inl rfl) _
  have HRW : Hid (RW w w4 g cap (.slice fra X.fr.length frc) q X) := Lib.hid (by
    have e1 := Below.next HB2.out hb3
    exact ⟨by rw [hw4]; exact (((HX2.out.below hb3).setc 0 _).setc 1 _).setc 2 _, hk4.box (by omega) (HT2.out.below hb3), (hor3.kx hk4 (fun k e e2 => hor3.nbox (HX2.out.below hb3) (by decide) (by decide) (by decide) (by rw [e2] at e; exact e))).mono (by omega), e1.trans (hk4.below e1.size (fun k e => by omega))⟩)
  have HM4 := Lib.hid (hk4.box (by omega) (HM2.out.below hb3))
  go_upto_region 7 with fail
  rw [← hw4]
  have hw4s : w3.heap.size ≤ w4.heap.size := by rw [hw4]; simp
  have hw34 : w.heap.size ≤ w4.heap.size := HRW.out.bel.size
  clear hw4 hk4 hor3 hb3 f0 f1 f2 y0 y1 y2 x0 x1 x2 m0 m1 m2 m3 HX2 HM2 HT2 HB2 HOWN HFT HCK HBX HBM HBT
  have m0 : w4.cell? ⟨w.heap.size + 1, 0, none⟩ = some (.int .i64 (5)) := HM4.out.cell 0
  have m1 : w4.cell? ⟨w.heap.size + 1, 1, none⟩ = some (.int .i64 nd) := HM4.out.cell 1
  have m2 : w4.cell? ⟨w.heap.size + 1, 2, none⟩ = some (.int .i64 ot) := HM4.out.cell 2
  have m3 : w4.cell? ⟨w.heap.size + 1, 3, none⟩ = some (.int .i64 (n)) := HM4.out.cell 3
  have x0 : w4.cell? ⟨w.heap.size, 0, none⟩ = some (.int .i64 X.ds) := HRW.out.box.cell 0
  have x1 : w4.cell? ⟨w.heap.size, 1, none⟩ = some (.slice (some ⟨g, 0, none⟩) X.cs.length cap) := HRW.out.box.cell 1
  have x2 : w4.cell? ⟨w.heap.size, 2, none⟩ = some (.slice fra X.fr.length frc) := HRW.out.box.cell 2
  have hsc := HS.out.cs
  have hws : IntKind.i64.wrap (nd - 1) = (i : Int) := by
    have e := HFI.out
    rw [show nd - 1 = (i : Int) by omega]
    exact IntWalk.i64_in _ (by omega)
  have i3 : (0 : Int) ≤ (i : Int) := by omega
  have i4 : (i : Int) < (X.cs.length : Int) := by omega
  have hwi : IntKind.i64.wrap (i : Int) = (i : Int) := IntWalk.i64_in _ (by omega)
  have HHD := Lib.hid (held_any w4 w.heap.size g cap (.slice fra X.fr.length frc) q X i hi HRW.out.or)
  go_wp2_with fail
  refine HHD.out.mono ?_
  rintro e w6 ⟨rfl, h4, hk4⟩
  have hst := HRW.out.put (hk4.mono (fun k e => .inl e)) h4 rfl (setI_len _ _ _)
  rw [HX.out] at hst
  have hrw : ∃ g cap fv q, RW w w6 g cap fv q XE := ⟨_, _, _, _, hst⟩
  have HMZ := Lib.hid (hk4.box (by have := (HRW.out.or.nbox HM4.out (by decide) (by decide) (by decide)); intro e; exact this (.inl e)) HM4.out)
  clear hst h4 hk4 m0 m1 m2 m3 x0 x1 x2
  obtain ⟨g9, cap9, fv9, q9, ho9⟩ := hrw
  obtain ⟨fa9, fc9, hfv9⟩ := owns_form ho9.or.frs
  subst hfv9
  have t0 : World.cell? w6 ⟨w.heap.size + 2, 0, none⟩ = some (.int .i64 0) := ho9.ret.cell 0
  have t1 : World.cell? w6 ⟨w.heap.size + 2, 1, none⟩ = some (.slice none 0 0) := ho9.ret.cell 1
  have t2 : World.cell? w6 ⟨w.heap.size + 2, 2, none⟩ = some (.slice none 0 0) := ho9.ret.cell 2
  have z0 := ho9.ret.frozen 0
  have z1 := ho9.ret.frozen 1
  have z2 := ho9.ret.frozen 2
  have p0 : World.cell? w6 ⟨w.heap.size, 0, none⟩ = some (.int .i64 (XE).ds) := ho9.box.cell 0
  have p1 : World.cell? w6 ⟨w.heap.size, 1, none⟩ = some (.slice (some ⟨g9, 0, none⟩) (XE).cs.length cap9) := ho9.box.cell 1
  have p2 : World.cell? w6 ⟨w.heap.size, 2, none⟩ = some (.slice fa9 (XE).fr.length fc9) := ho9.box.cell 2
  have HO9 := Lib.hid ho9
  clear ho9
  go_wp2_with fail
  refine bodyPost_ret (v := .tuple #[.agg #[.int .i64 (XE).ds, .slice (some ⟨g9, 0, none⟩) (XE).cs.length cap9, .slice fa9 (XE).fr.length fc9], .int .i64 0]) (by simp [results, Try.results45, go_sem, t0, t1, t2]) rfl ⟨_, rfl, ?_, ⟨_, _, q9, rfl, ?_⟩⟩
  · exact ((HO9.out.bel.setCell (p := ⟨w.heap.size + 2, 0, none⟩) (by show w.heap.size ≤ w.heap.size + 2; omega) _).setCell (p := ⟨w.heap.size + 2, 1, none⟩) (by show w.heap.size ≤ w.heap.size + 2; omega) _).setCell (p := ⟨w.heap.size + 2, 2, none⟩) (by show w.heap.size ≤ w.heap.size + 2; omega) _
  · exact PtF.of_or (HO9.out.or.kx (S := fun k => k = w.heap.size + 2) (((kx_cell w6 (w.heap.size + 2) 0 _).setCell (.inl rfl) _).setCell (.inl rfl) _) (fun k hk e => by rw [e] at hk; exact HO9.out.nr hk))
set_option maxHeartbeats 1000000 in
theorem rmove_2 (w : World) (v : Value) (X : Wd) (nd ot : Int) (j : Nat) (rash : Bool) (hs : Sml X) (hs2 : ∀ i, (gc X.cs i).tk.length ≤ 90000 ∧ (gc X.cs i).kp.length ≤ 90000) (h : RdW w v X) (ho : Okw X) (hf : ftE X ⟨2, nd, ot, j⟩ = 0) :
    Calls Try.prog 45 #[v, .agg #[.int .i64 2, .int .i64 nd, .int .i64 ot, .int .i64 (j : Int)], .bool rash] w (MvR w (mvW rash X ⟨2, nd, ot, j⟩) 0) := by
  have hj : j < X.fr.length := by
    have : (j : Int) < (X.fr.length : Int) := ((ftE_zero hf).n (.inl rfl)).2
    omega
  have HS2 := Lib.hid hs2
  clear hs2
  obtain ⟨XE, HXE⟩ : ∃ XE, Hid (mvW rash X ⟨2, nd, ot, j⟩ = XE) := ⟨_, Lib.hid rfl⟩
  rw [HXE.out]
  obtain ⟨cv, fv0, q0, rfl, hp⟩ := h
  obtain ⟨a, c, rfl⟩ := hp.rows.form
  obtain ⟨fa, fc, rfl⟩ := hp.frs.form
  obtain ⟨N, hN⟩ : ∃ N, q0.length = N := ⟨_, rfl⟩
  obtain ⟨F, hF⟩ : ∃ F, X.fr.length = F := ⟨_, rfl⟩
  rw [hN] at hp ⊢
  rw [hF] at hp ⊢
  clear hN hF
  obtain ⟨W, hW⟩ : ∃ W : World, W = ((w.alloc (.cells #[.int .i64 X.ds, .slice a N c, .slice fa F fc] 25)).alloc (.cells #[.int .i64 (2), .int .i64 nd, .int .i64 ot, .int .i64 ((j : Int))] 40)).alloc (.cells #[.int .i64 0, .slice none 0 0, .slice none 0 0] 25) := ⟨_, rfl⟩
  have hB0 : Below w.heap.size w W := by rw [hW]; exact (by repeat (first | assumption | exact Below.refl _ _ | apply Below.al | apply below_drewN | apply Below.drew | refine Below.next ?_ (by assumption)))
  have hWs : w.heap.size + 3 ≤ W.heap.size := by rw [hW]; simp
  have bX : BoxN W w.heap.size 25 #[.int .i64 X.ds, .slice a N c, .slice fa F fc] := by rw [hW]; exact (BoxN.new w _ _).below (by repeat (first | assumption | exact Below.refl _ _ | apply Below.al | apply below_drewN | apply Below.drew | refine Below.next ?_ (by assumption)))
  have bM : BoxN W (w.heap.size + 1) 40 #[.int .i64 (2), .int .i64 nd, .int .i64 ot, .int .i64 ((j : Int))] := by
    rw [hW]
    have := BoxN.new (w.alloc (.cells #[.int .i64 X.ds, .slice a N c, .slice fa F fc] 25)) 40 #[.int .i64 (2), .int .i64 nd, .int .i64 ot, .int .i64 ((j : Int))]
    have e2 := this.below (Below.al (Below.refl _ _) (.cells #[.int .i64 0, .slice none 0 0, .slice none 0 0] 25))
    simpa using e2
  have bT : BoxN W (w.heap.size + 2) 25 #[.int .i64 0, .slice none 0 0, .slice none 0 0] := by
    rw [hW]
    have := BoxN.new ((w.alloc (.cells #[.int .i64 X.ds, .slice a N c, .slice fa F fc] 25)).alloc (.cells #[.int .i64 (2), .int .i64 nd, .int .i64 ot, .int .i64 ((j : Int))] 40)) 25 #[.int .i64 0, .slice none 0 0, .slice none 0 0]
    simpa using this
  have HRD : Hid (RdW W (wV X (.slice a N c) (.slice fa F fc)) X) := Lib.hid ⟨_, _, _, rfl, hp.keep hB0⟩
  have HPW := Lib.hid (hp.keep hB0)
  have HBX := Lib.hid bX
  have HBM := Lib.hid bM
  have HBT := Lib.hid bT
  have x0 : W.cell? ⟨w.heap.size, 0, none⟩ = some (.int .i64 X.ds) := bX.cell 0
  have x1 : W.cell? ⟨w.heap.size, 1, none⟩ = some (.slice a N c) := bX.cell 1
  have x2 : W.cell? ⟨w.heap.size, 2, none⟩ = some (.slice fa F fc) := bX.cell 2
  have m0 : W.cell? ⟨w.heap.size + 1, 0, none⟩ = some (.int .i64 (2)) := bM.cell 0
  have m1 : W.cell? ⟨w.heap.size + 1, 1, none⟩ = some (.int .i64 nd) := bM.cell 1
  have m2 : W.cell? ⟨w.heap.size + 1, 2, none⟩ = some (.int .i64 ot) := bM.cell 2
  have m3 : W.cell? ⟨w.heap.size + 1, 3, none⟩ = some (.int .i64 ((j : Int))) := bM.cell 3
  clear bX bM bT hp
  go_enter Try.func45, Try.ntmps45
  go_upto_region 1 with fail
  rw [← hW]
  clear hW
  have HCK := Lib.hid (rcheck_any W _ X 0 (by unfold chkE; exact if_pos ho) HRD.out)
  have HFT := Lib.hid (fun w' (hb : Below W.heap.size W w') => rfault_any w' _ _ q0 X ⟨2, nd, ot, (j : Int)⟩ _ hf ho.2.2.2.1 (HPW.out.keep hb))
  have HO := Lib.hid ho
  have HS := Lib.hid hs
  clear ho hf hs
  go_wp2_with fail
  refine HCK.out.mono ?_
  rintro e w1 ⟨rfl, hb1⟩
  have x0 := cell_later hb1 x0
  have x1 := cell_later hb1 x1
  have x2 := cell_later hb1 x2
  have m0 := cell_later hb1 m0
  have m1 := cell_later hb1 m1
  have m2 := cell_later hb1 m2
  have m3 := cell_later hb1 m3
  go_wp2_with fail
  refine (HFT.out w1 hb1).mono ?_
  rintro e w2 ⟨rfl, hb2⟩
  have hb12 := Below.next hb1 hb2
  have x0 := cell_later hb2 x0
  have x1 := cell_later hb2 x1
  have x2 := cell_later hb2 x2
  have m0 := cell_later hb2 m0
  have m1 := cell_later hb2 m1
  have m2 := cell_later hb2 m2
  have m3 := cell_later hb2 m3
  have HOWN := Lib.hid (rown_any w2 _ X (HRD.out.keep hb12) HS.out (by have := HO.out.1; omega))
  have hs2 := hb12.size
  have HB2 := Lib.hid (Below.next hB0 hb12)
  have HX2 := Lib.hid (HBX.out.below hb12)
  have HM2 := Lib.hid (HBM.out.below hb12)
  have HT2 := Lib.hid (HBT.out.below hb12)
  clear hb1 hb2 hb12 hB0
  go_wp2_with fail
  refine HOWN.out.mono ?_
  rintro e w3 ⟨g, cap, fv, q, rfl, hor3, hb3⟩
  obtain ⟨fra, frc, hfrv⟩ := owns_form hor3.frs
  subst hfrv
  have f0 := (HX2.out.below hb3).frozen 0
  have f1 := (HX2.out.below hb3).frozen 1
  have f2 := (HX2.out.below hb3).frozen 2
  have y0 : w3.cell? ⟨w.heap.size, 0, none⟩ = some (.int .i64 X.ds) := (HX2.out.below hb3).cell 0
  have y1 : w3.cell? ⟨w.heap.size, 1, none⟩ = some (.slice a N c) := (HX2.out.below hb3).cell 1
  have y2 : w3.cell? ⟨w.heap.size, 2, none⟩ = some (.slice fa F fc) := (HX2.out.below hb3).cell 2
  obtain ⟨w4, hw4⟩ : ∃ V : World, V = ((w3.setCell ⟨w.heap.size, 0, none⟩ (.int .i64 X.ds)).setCell ⟨w.heap.size, 1, none⟩ (.slice (some ⟨g, 0, none⟩) X.cs.length cap)).setCell ⟨w.heap.size, 2, none⟩ (.slice fra X.fr.length frc) := ⟨_, rfl⟩
  have hk4 : Kx (fun k => k = w.heap.size) w3 w4 := by rw [hw4]; exact (((Kx.refl (fun k => k = w.heap.size) w3).setCell (.inl rfl) _).setCell (.inl rfl) _).setCell (.inl rfl) _
  have HRW : Hid (RW w w4 g cap (.slice fra X.fr.length frc) q X) := Lib.hid (by
    have e1 := Below.next HB2.out hb3
    exact ⟨by rw [hw4]; exact (((HX2.out.below hb3).setc 0 _).setc 1 _).setc 2 _, hk4.box (by omega) (HT2.out.below hb3), (hor3.kx hk4 (fun k e e2 => hor3.nbox (HX2.out.below hb3) (by decide) (by decide) (by decide) (by rw [e2] at e; exact e))).mono (by omega), e1.trans (hk4.below e1.size (fun k e => by omega))⟩)
  have HM4 := Lib.hid (hk4.box (by omega) (HM2.out.below hb3))
  go_upto_region 7 with fail
  rw [← hw4]
  have hw4s : w3.heap.size ≤ w4.heap.size := by rw [hw4]; simp
  have hw34 : w.heap.size ≤ w4.heap.size := HRW.out.bel.size
  clear hw4 hk4 hor3 hb3 f0 f1 f2 y0 y1 y2 x0 x1 x2 m0 m1 m2 m3 HX2 HM2 HT2 HB2 HOWN HFT HCK HBX HBM HBT
  have m0 : w4.cell? ⟨w.heap.size + 1, 0, none⟩ = some (.int .i64 (2)) := HM4.out.cell 0
  have m1 : w4.cell? ⟨w.heap.size + 1, 1, none⟩ = some (.int .i64 nd) := HM4.out.cell 1
  have m2 : w4.cell? ⟨w.heap.size + 1, 2, none⟩ = some (.int .i64 ot) := HM4.out.cell 2
  have m3 : w4.cell? ⟨w.heap.size + 1, 3, none⟩ = some (.int .i64 ((j : Int))) := HM4.out.cell 3
  have x0 : w4.cell? ⟨w.heap.size, 0, none⟩ = some (.int .i64 X.ds) := HRW.out.box.cell 0
  have x1 : w4.cell? ⟨w.heap.size, 1, none⟩ = some (.slice (some ⟨g, 0, none⟩) X.cs.length cap) := HRW.out.box.cell 1
  have x2 : w4.cell? ⟨w.heap.size, 2, none⟩ = some (.slice fra X.fr.length frc) := HRW.out.box.cell 2
  have hrs := rpass_any w4 w.heap.size g cap (.slice fra X.fr.length frc) q X j rash hj (okw_frm HO.out (gp_mem hj)) HS.out HS2.out hw34 HO.out.2.2.2.2.1 HRW.out.or
  have hxe : pasW rash (outF X j) (gp X.fr j) = XE := HXE.out
  rw [hxe] at hrs
  have HRS := Lib.hid hrs
  clear hrs hxe
  go_wp2_with fail
  refine HRS.out.mono ?_
  rintro e w5 ⟨fv5, q5, rfl, ho5, hk5, hm5⟩
  obtain ⟨fb, fd, hfv5⟩ := owns_form ho5.frs
  subst hfv5
  have hb5 := hk5.box HRW.out.nb HRW.out.box
  have f0 := hb5.frozen 0
  have f1 := hb5.frozen 1
  have f2 := hb5.frozen 2
  have y0 : w5.cell? ⟨w.heap.size, 0, none⟩ = some (.int .i64 X.ds) := hb5.cell 0
  have y1 : w5.cell? ⟨w.heap.size, 1, none⟩ = some (.slice (some ⟨g, 0, none⟩) X.cs.length cap) := hb5.cell 1
  have y2 : w5.cell? ⟨w.heap.size, 2, none⟩ = some (.slice fra X.fr.length frc) := hb5.cell 2
  have hst := HRW.out.store hk5 ho5
  obtain ⟨w6, hw6⟩ : ∃ V : World, V = ((w5.setCell ⟨w.heap.size, 0, none⟩ (.int .i64 XE.ds)).setCell ⟨w.heap.size, 1, none⟩ (.slice (some ⟨g, 0, none⟩) XE.cs.length cap)).setCell ⟨w.heap.size, 2, none⟩ (.slice fb XE.fr.length fd) := ⟨_, rfl⟩
  rw [← hw6] at hst
  clear hb5 ho5 hk5 hm5 m0 m1 m2 m3 x0 x1 x2
  go_upto_region 22 with fail
  rw [← hw6]
  clear hw6 f0 f1 f2 y0 y1 y2
  have hrw : ∃ g cap fv q, RW w w6 g cap fv q XE := ⟨_, _, _, _, hst⟩
  clear hst
  obtain ⟨g9, cap9, fv9, q9, ho9⟩ := hrw
  obtain ⟨fa9, fc9, hfv9⟩ := owns_form ho9.or.frs
  subst hfv9
  have t0 : World.cell? w6 ⟨w.heap.size + 2, 0, none⟩ = some (.int .i64 0) := ho9.ret.cell 0
  have t1 : World.cell? w6 ⟨w.heap.size + 2, 1, none⟩ = some (.slice none 0 0) := ho9.ret.cell 1
  have t2 : World.cell? w6 ⟨w.heap.size + 2, 2, none⟩ = some (.slice none 0 0) := ho9.ret.cell 2
  have z0 := ho9.ret.frozen 0
  have z1 := ho9.ret.frozen 1
  have z2 := ho9.ret.frozen 2
  have p0 : World.cell? w6 ⟨w.heap.size, 0, none⟩ = some (.int .i64 (XE).ds) := ho9.box.cell 0
  have p1 : World.cell? w6 ⟨w.heap.size, 1, none⟩ = some (.slice (some ⟨g9, 0, none⟩) (XE).cs.length cap9) := ho9.box.cell 1
  have p2 : World.cell? w6 ⟨w.heap.size, 2, none⟩ = some (.slice fa9 (XE).fr.length fc9) := ho9.box.cell 2
  have HO9 := Lib.hid ho9
  clear ho9
  go_wp2_with fail
  refine bodyPost_ret (v := .tuple #[.agg #[.int .i64 (XE).ds, .slice (some ⟨g9, 0, none⟩) (XE).cs.length cap9, .slice fa9 (XE).fr.length fc9], .int .i64 0]) (by simp [results, Try.results45, go_sem, t0, t1, t2]) rfl ⟨_, rfl, ?_, ⟨_, _, q9, rfl, ?_⟩⟩
  · exact ((HO9.out.bel.setCell (p := ⟨w.heap.size + 2, 0, none⟩) (by show w.heap.size ≤ w.heap.size + 2; omega) _).setCell (p := ⟨w.heap.size + 2, 1, none⟩) (by show w.heap.size ≤ w.heap.size + 2; omega) _).setCell (p := ⟨w.heap.size + 2, 2, none⟩) (by show w.heap.size ≤ w.heap.size + 2; omega) _
  · exact PtF.of_or (HO9.out.or.kx (S := fun k => k = w.heap.size + 2) (((kx_cell w6 (w.heap.size + 2) 0 _).setCell (.inl rfl) _).setCell (.inl rfl) _) (fun k hk e => by rw [e] at hk; exact HO9.out.nr hk))


/-- the frames put anew, and the row stored -/
theorem RW.frs {w0 w w1 : World} {g cap : Nat} {fv fv' : Value} {q : List Cq} {X : Wd} {L : List Ps} (h : RW w0 w g cap fv q X) (hk : Kx (fun k => fv.ownBlock = some k) w w1) (hown : OwP w1 w0.heap.size fv' L) :
    RW w0 (w1.setCell ⟨w0.heap.size, 2, none⟩ fv') g cap fv' q { X with fr := L } ∧ BoxN w1 w0.heap.size 25 #[.int .i64 X.ds, .slice (some ⟨g, 0, none⟩) X.cs.length cap, fv] := by
  have hb1 := hk.box (fun e => h.nb (.inr (.inl e))) h.box
  have hr1 := hk.box (fun e => h.nr (.inr (.inl e))) h.ret
  have or1 := h.or.frames hk hown
  have hkb : Kx (fun k => k = w0.heap.size) w1 (w1.setCell ⟨w0.heap.size, 2, none⟩ fv') := kx_cell _ _ _ _
  have hbe := h.bel.trans (hk.below h.bel.size (fun k e => (h.or.gt_lt (.inr (.inl e))).1))
  exact ⟨⟨hb1.setc 2 _, hkb.box (by omega) hr1, or1.kx hkb (fun k e e2 => or1.nbox hb1 (by decide) (by decide) (by decide) (by rw [e2] at e; exact e)), hbe.trans (hkb.below hbe.size (fun k e => by omega))⟩, hb1⟩
set_option maxHeartbeats 1000000 in
theorem rmove_3 (w : World) (v : Value) (X : Wd) (nd ot : Int) (j : Nat) (rash : Bool) (hs : Sml X) (h : RdW w v X) (ho : Okw X) (hf : ftE X ⟨3, nd, ot, j⟩ = 0) :
    Calls Try.prog 45 #[v, .agg #[.int .i64 3, .int .i64 nd, .int .i64 ot, .int .i64 (j : Int)], .bool rash] w (MvR w (mvW rash X ⟨3, nd, ot, j⟩) 0) := by
  have hj : j < X.fr.length := by
    have : (j : Int) < (X.fr.length : Int) := ((ftE_zero hf).n (.inr (.inl rfl))).2
    omega
  obtain ⟨XE, HXE⟩ : ∃ XE, Hid (mvW rash X ⟨3, nd, ot, j⟩ = XE) := ⟨_, Lib.hid rfl⟩
  rw [HXE.out]
  obtain ⟨cv, fv0, q0, rfl, hp⟩ := h
  obtain ⟨a, c, rfl⟩ := hp.rows.form
  obtain ⟨fa, fc, rfl⟩ := hp.frs.form
  obtain ⟨N, hN⟩ : ∃ N, q0.length = N := ⟨_, rfl⟩
  obtain ⟨F, hF⟩ : ∃ F, X.fr.length = F := ⟨_, rfl⟩
  rw [hN] at hp ⊢
  rw [hF] at hp ⊢
  clear hN hF
  obtain ⟨W, hW⟩ : ∃ W : World, W = ((w.alloc (.cells #[.int .i64 X.ds, .slice a N c, .slice fa F fc] 25)).alloc (.cells #[.int .i64 (3), .int .i64 nd, .int .i64 ot, .int .i64 ((j : Int))] 40)).alloc (.cells #[.int .i64 0, .slice none 0 0, .slice none 0 0] 25) := ⟨_, rfl⟩
  have hB0 : Below w.heap.size w W := by rw [hW]; exact (by repeat (first | assumption | exact Below.refl _ _ | apply Below.al | apply below_drewN | apply Below.drew | refine Below.next ?_ (by assumption)))
  have hWs : w.heap.size + 3 ≤ W.heap.size := by rw [hW]; simp
  have bX : BoxN W w.heap.size 25 #[.int .i64 X.ds, .slice a N c, .slice fa F fc] := by rw [hW]; exact (BoxN.new w _ _).below (by repeat (first | assumption | exact Below.refl _ _ | apply Below.al | apply below_drewN | apply Below.drew | refine Below.next ?_ (by assumption)))
  have bM : BoxN W (w.heap.size + 1) 40 #[.int .i64 (3), .int .i64 nd, .int .i64 ot, .int .i64 ((j : Int))] := by
    rw [hW]
    have := BoxN.new (w.alloc (.cells #[.int .i64 X.ds, .slice a N c, .slice fa F fc] 25)) 40 #[.int .i64 (3), .int .i64 nd, .int .i64 ot, .int .i64 ((j : Int))]
    have e2 := this.below (Below.al (Below.refl _ _) (.cells #[.int .i64 0, .slice none 0 0, .slice none 0 0] 25))
    simpa using e2
  have bT : BoxN W (w.heap.size + 2) 25 #[.int .i64 0, .slice none 0 0, .slice none 0 0] := by
    rw [hW]
    have := BoxN.new ((w.alloc (.cells #[.int .i64 X.ds, .slice a N c, .slice fa F fc] 25)).alloc (.cells #[.int .i64 (3), .int .i64 nd, .int .i64 ot, .int .i64 ((j : Int))] 40)) 25 #[.int .i64 0, .slice none 0 0, .slice none 0 0]
    simpa using this
  have HRD : Hid (RdW W (wV X (.slice a N c) (.slice fa F fc)) X) := Lib.hid ⟨_, _, _, rfl, hp.keep hB0⟩
  have HPW := Lib.hid (hp.keep hB0)
  have HBX := Lib.hid bX
  have HBM := Lib.hid bM
  have HBT := Lib.hid bT
  have x0 : W.cell? ⟨w.heap.size, 0, none⟩ = some (.int .i64 X.ds) := bX.cell 0
  have x1 : W.cell? ⟨w.heap.size, 1, none⟩ = some (.slice a N c) := bX.cell 1
  have x2 : W.cell? ⟨w.heap.size, 2, none⟩ = some (.slice fa F fc) := bX.cell 2
  have m0 : W.cell? ⟨w.heap.size + 1, 0, none⟩ = some (.int .i64 (3)) := bM.cell 0
  have m1 : W.cell? ⟨w.heap.size + 1, 1, none⟩ = some (.int .i64 nd) := bM.cell 1
  have m2 : W.cell? ⟨w.heap.size + 1, 2, none⟩ = some (.int .i64 ot) := bM.cell 2
  have m3 : W.cell? ⟨w.heap.size + 1, 3, none⟩ = some (.int .i64 ((j : Int))) := bM.cell 3
  clear bX bM bT hp
  go_enter Try.func45, Try.ntmps45
  go_upto_region 1 with fail
  rw [← hW]
  clear hW
  have HCK := Lib.hid (rcheck_any W _ X 0 (by unfold chkE; exact if_pos ho) HRD.out)
  have HFT := Lib.hid (fun w' (hb : Below W.heap.size W w') => rfault_any w' _ _ q0 X ⟨3, nd, ot, (j : Int)⟩ _ hf ho.2.2.2.1 (HPW.out.keep hb))
  have HO := Lib.hid ho
  have HS := Lib.hid hs
  clear ho hf hs
  go_wp2_with fail
  refine HCK.out.mono ?_
  rintro e w1 ⟨rfl, hb1⟩
  have x0 := cell_later hb1 x0
  have x1 := cell_later hb1 x1
  have x2 := cell_later hb1 x2
  have m0 := cell_later hb1 m0
  have m1 := cell_later hb1 m1
  have m2 := cell_later hb1 m2
  have m3 := cell_later hb1 m3
  go_wp2_with fail
  refine (HFT.out w1 hb1).mono ?_
  rintro e w2 ⟨rfl, hb2⟩
  have hb12 := Below.next hb1 hb2
  have x0 := cell_later hb2 x0
  have x1 := cell_later hb2 x1
  have x2 := cell_later hb2 x2
  have m0 := cell_later hb2 m0
  have m1 := cell_later hb2 m1
  have m2 := cell_later hb2 m2
  have m3 := cell_later hb2 m3
  have HOWN := Lib.hid (rown_any w2 _ X (HRD.out.keep hb12) HS.out (by have := HO.out.1; omega))
  have hs2 := hb12.size
  have HB2 := Lib.hid (Below.next hB0 hb12)
  have HX2 := Lib.hid (HBX.out.below hb12)
  have HM2 := Lib.hid (HBM.out.below hb12)
  have HT2 := Lib.hid (HBT.out.below hb12)
  clear hb1 hb2 hb12 hB0
  go_wp2_with fail
  refine HOWN.out.mono ?_
  rintro e w3 ⟨g, cap, fv, q, rfl, hor3, hb3⟩
  obtain ⟨fra, frc, hfrv⟩ := owns_form hor3.frs
  subst hfrv
  have f0 := (HX2.out.below hb3).frozen 0
  have f1 := (HX2.out.below hb3).frozen 1
  have f2 := (HX2.out.below hb3).frozen 2
  have y0 : w3.cell? ⟨w.heap.size, 0, none⟩ = some (.int .i64 X.ds) := (HX2.out.below hb3).cell 0
  have y1 : w3.cell? ⟨w.heap.size, 1, none⟩ = some (.slice a N c) := (HX2.out.below hb3).cell 1
  have y2 : w3.cell? ⟨w.heap.size, 2, none⟩ = some (.slice fa F fc) := (HX2.out.below hb3).cell 2
  obtain ⟨w4, hw4⟩ : ∃ V : World, V = ((w3.setCell ⟨w.heap.size, 0, none⟩ (.int .i64 X.ds)).setCell ⟨w.heap.size, 1, none⟩ (.slice (some ⟨g, 0, none⟩) X.cs.length cap)).setCell ⟨w.heap.size, 2, none⟩ (.slice fra X.fr.length frc) := ⟨_, rfl⟩
  have hk4 : Kx (fun k => k = w.heap.size) w3 w4 := by rw [hw4]; exact (((Kx.refl (fun k => k = w.heap.size) w3).setCell (.inl rfl) _).setCell (.inl rfl) _).setCell (.inl rfl) _
  have HRW : Hid (RW w w4 g cap (.slice fra X.fr.length frc) q X) := Lib.hid (by
    have e1 := Below.next HB2.out hb3
    exact ⟨by rw [hw4]; exact (((HX2.out.below hb3).setc 0 _).setc 1 _).setc 2 _, hk4.box (by omega) (HT2.out.below hb3), (hor3.kx hk4 (fun k e e2 => hor3.nbox (HX2.out.below hb3) (by decide) (by decide) (by decide) (by rw [e2] at e; exact e))).mono (by omega), e1.trans (hk4.below e1.size (fun k e => by omega))⟩)
  have HM4 := Lib.hid (hk4.box (by omega) (HM2.out.below hb3))
  go_upto_region 7 with fail
  rw [← hw4]
  have hw4s : w3.heap.size ≤ w4.heap.size := by rw [hw4]; simp
  have hw34 : w.heap.size ≤ w4.heap.size := HRW.out.bel.size
  clear hw4 hk4 hor3 hb3 f0 f1 f2 y0 y1 y2 x0 x1 x2 m0 m1 m2 m3 HX2 HM2 HT2 HB2 HOWN HFT HCK HBX HBM HBT
  have m0 : w4.cell? ⟨w.heap.size + 1, 0, none⟩ = some (.int .i64 (3)) := HM4.out.cell 0
  have m1 : w4.cell? ⟨w.heap.size + 1, 1, none⟩ = some (.int .i64 nd) := HM4.out.cell 1
  have m2 : w4.cell? ⟨w.heap.size + 1, 2, none⟩ = some (.int .i64 ot) := HM4.out.cell 2
  have m3 : w4.cell? ⟨w.heap.size + 1, 3, none⟩ = some (.int .i64 ((j : Int))) := HM4.out.cell 3
  have x0 : w4.cell? ⟨w.heap.size, 0, none⟩ = some (.int .i64 X.ds) := HRW.out.box.cell 0
  have x1 : w4.cell? ⟨w.heap.size, 1, none⟩ = some (.slice (some ⟨g, 0, none⟩) X.cs.length cap) := HRW.out.box.cell 1
  have x2 : w4.cell? ⟨w.heap.size, 2, none⟩ = some (.slice fra X.fr.length frc) := HRW.out.box.cell 2
  obtain ⟨rb, ro, hra, hrc, _⟩ := RdP.at HRW.out.or.pt.frs rfl j hj
  subst hra
  have hrf := HRW.out.or.pt.frs
  have hsf := HS.out.fr
  obtain ⟨v1, hv1, hr1⟩ := cutS_take hrf rfl j (by omega) 23 (by kernel_rfl) (fun w => by kernel_rfl)
  obtain ⟨v2, hv2, hr2⟩ := cutS_drop hrf rfl (j + 1) (by omega) 23 (by kernel_rfl) (fun w => by kernel_rfl)
  rw [show (((j + 1 : Nat) : Int)) = (j : Int) + 1 by omega] at hv2
  have i1 : (0 : Int) ≤ (j : Int) := by omega
  have hwj : IntKind.i64.wrap ((j : Int) + 1) = (j : Int) + 1 := IntWalk.i64_in _ (by omega)
  have hwj0 : IntKind.i64.wrap (j : Int) = (j : Int) := IntWalk.i64_in _ (by omega)
  obtain ⟨F, hF⟩ : ∃ F, X.fr.length = F := ⟨_, rfl⟩
  have HF := Lib.hid hF
  rw [hF] at x2 hv1 hv2 hr2 hj hsf
  have HR1 : Hid (∀ w', Below w4.heap.size w4 w' → RdS w' 4 v1 j (rcs psR (X.fr.take j))) := Lib.hid (fun w' hb => hr1.keep hb)
  have HR2 : Hid (∀ w', Below w4.heap.size w4 w' → RdS w' 4 v2 (F - (j + 1)) (rcs psR (X.fr.drop (j + 1)))) := Lib.hid (fun w' hb => hr2.keep hb)
  clear hrf hr1 hr2 hF
  go_upto_region 15 with fail
  refine wp_region_noPanic ?_
  refine wp_region_late (fun _ => True) (fun w' => Below w4.heap.size w4 w') [15] (by kernel_rfl) trivial ((Below.refl _ w4).drew) (fun hHeld0 hHeld => ?_)
  refine reg0_tk (v := ?_) 1 80 rfl rfl (by kernel_rfl) (by kernel_rfl) (by kernel_rfl) (by kernel_rfl) (by kernel_rfl) (fun _ _ _ h => h) (by rfl) ?_ (by assumption) (by assumption) ?_
  rotate_left
  · (intro w3 hS; (try dsimp only at hS); skip; go_simp; (try with_reducible rfl))
  simp only [List.setIfInBounds_toArray, List.set_cons_zero, List.set_cons_succ]
  refine regG_tk (v := ?_) 2 81 rfl rfl (by kernel_rfl) (by kernel_rfl) (by kernel_rfl) (by kernel_rfl) (by kernel_rfl) (fun _ _ _ h => h) (by rfl) ?_ (by assumption) (by assumption) ?_
  rotate_left
  · (intro w3 hS; (try dsimp only at hS); have j0 := cell_later hS x2; go_simp; (try with_reducible rfl))
  simp only [List.setIfInBounds_toArray, List.set_cons_zero, List.set_cons_succ]
  refine reg0_tk (v := ?_) 3 82 rfl rfl (by kernel_rfl) (by kernel_rfl) (by kernel_rfl) (by kernel_rfl) (by kernel_rfl) (fun _ _ _ h => h) (by rfl) ?_ (by assumption) (by assumption) ?_
  rotate_left
  · (intro w3 hS; (try dsimp only at hS); skip; go_simp; (try with_reducible rfl))
  simp only [List.setIfInBounds_toArray, List.set_cons_zero, List.set_cons_succ]
  refine regG_tk (v := ?_) 4 83 rfl rfl (by kernel_rfl) (by kernel_rfl) (by kernel_rfl) (by kernel_rfl) (by kernel_rfl) (fun _ _ _ h => h) (by rfl) ?_ (by assumption) (by assumption) ?_
  rotate_left
  · (intro w3 hS; (try dsimp only at hS); have j0 := cell_later hS m3; go_simp; (try with_reducible rfl))
  simp only [List.setIfInBounds_toArray, List.set_cons_zero, List.set_cons_succ]
  refine regG_tk (v := ?_) 5 84 rfl rfl (by kernel_rfl) (by kernel_rfl) (by kernel_rfl) (by kernel_rfl) (by kernel_rfl) (fun _ _ _ h => h) (by rfl) ?_ (by assumption) (by assumption) ?_
  rotate_left
  · (intro w3 hS; (try dsimp only at hS); have j0 := hv1; go_simp; (try with_reducible rfl))
  simp only [List.setIfInBounds_toArray, List.set_cons_zero, List.set_cons_succ]
  refine reg0_tk (v := ?_) 7 86 rfl rfl (by kernel_rfl) (by kernel_rfl) (by kernel_rfl) (by kernel_rfl) (by kernel_rfl) (fun _ _ _ h => h) (by rfl) ?_ (by assumption) (by assumption) ?_
  rotate_left
  · (intro w3 hS; (try dsimp only at hS); skip; go_simp; (try with_reducible rfl))
  simp only [List.setIfInBounds_toArray, List.set_cons_zero, List.set_cons_succ]
  refine regG_tk (v := ?_) 8 87 rfl rfl (by kernel_rfl) (by kernel_rfl) (by kernel_rfl) (by kernel_rfl) (by kernel_rfl) (fun _ _ _ h => h) (by rfl) ?_ (by assumption) (by assumption) ?_
  rotate_left
  · (intro w3 hS; (try dsimp only at hS); have j0 := cell_later hS x2; go_simp; (try with_reducible rfl))
  simp only [List.setIfInBounds_toArray, List.set_cons_zero, List.set_cons_succ]
  refine reg0_tk (v := ?_) 9 88 rfl rfl (by kernel_rfl) (by kernel_rfl) (by kernel_rfl) (by kernel_rfl) (by kernel_rfl) (fun _ _ _ h => h) (by rfl) ?_ (by assumption) (by assumption) ?_
  rotate_left
  · (intro w3 hS; (try dsimp only at hS); skip; go_simp; (try with_reducible rfl))
  simp only [List.setIfInBounds_toArray, List.set_cons_zero, List.set_cons_succ]
  refine regG_tk (v := ?_) 10 89 rfl rfl (by kernel_rfl) (by kernel_rfl) (by kernel_rfl) (by kernel_rfl) (by kernel_rfl) (fun _ _ _ h => h) (by rfl) ?_ (by assumption) (by assumption) ?_
  rotate_left
  · (intro w3 hS; (try dsimp only at hS); have j0 := cell_later hS m3; go_simp; (try with_reducible rfl))
  simp only [List.setIfInBounds_toArray, List.set_cons_zero, List.set_cons_succ]
  refine reg0_tk (v := ?_) 11 90 rfl rfl (by kernel_rfl) (by kernel_rfl) (by kernel_rfl) (by kernel_rfl) (by kernel_rfl) (fun _ _ _ h => h) (by rfl) ?_ (by assumption) (by assumption) ?_
  rotate_left
  · (intro w3 hS; (try dsimp only at hS); skip; go_simp; (try with_reducible rfl))
  simp only [List.setIfInBounds_toArray, List.set_cons_zero, List.set_cons_succ]
  refine regG_tk (v := ?_) 12 91 rfl rfl (by kernel_rfl) (by kernel_rfl) (by kernel_rfl) (by kernel_rfl) (by kernel_rfl) (fun _ _ _ h => h) (by rfl) ?_ (by assumption) (by assumption) ?_
  rotate_left
  · (intro w3 hS; (try dsimp only at hS); have j0 := hv2; go_simp; (try with_reducible rfl))
  simp only [List.setIfInBounds_toArray, List.set_cons_zero, List.set_cons_succ]
  refine wpAnyG_oneS (i := 0) (by kernel_rfl) rfl (by rfl) (fun K hK => ?_)
  go_simp
  obtain ⟨wa, hwa⟩ : ∃ V : World, V = (World.alloc w4 (.cells #[] 47)).drew := ⟨_, rfl⟩
  have hba : Below w4.heap.size w4 wa := by rw [hwa]; exact (Below.al (Below.refl _ _) _).drew
  have oA : wa.ownsRow w4.heap.size 47 4 (.slice (some ⟨w4.heap.size, 0, none⟩) 0 0) 0 [] := by rw [hwa]; exact owns_block _ _ 47 4 0 [] _ (Nat.le_refl _) (heap_last _ _) rfl (by decide)
  rw [← hwa]
  clear hwa
  refine hK _ _ trivial hba ?_
  clear hK K
  try simp only [Act.put, List.setIfInBounds_toArray, List.set_cons_zero, List.set_cons_succ]
  refine wpAnyG_oneS (i := 6) (by kernel_rfl) rfl (by rfl) (fun K hK => ?_)
  refine wp_app_new (.tmp 79) (.tmp 84) 23 rfl w4.heap.size 47 _ 4 32 EPs _ rfl oA v1 j _ rfl (HR1.out _ hba) (rcs_one _ _) (by unfold maxLen; omega) (by omega) hba.size ?_
  intro aA cA w5 oA1 hb1
  go_simp
  have hB1 := Below.next hba hb1
  refine hK _ _ trivial hB1 ?_
  clear hK K
  try simp only [Act.put, List.setIfInBounds_toArray, List.set_cons_zero, List.set_cons_succ]
  refine wpAnyG_oneS (i := 13) (by kernel_rfl) rfl (by rfl) (fun K hK => ?_)
  refine wp_app (.tmp 85) (.tmp 91) 23 rfl w4.heap.size 47 _ 4 32 EPs _ j (rcs psR (X.fr.take j)) rfl oA1 v2 (F - (j + 1)) _ rfl (HR2.out _ hB1) (rcs_one _ _) (by unfold maxLen; omega) (by omega) hB1.size ?_
  intro aB cB w6 oB hg2 hb2
  obtain ⟨M, hM⟩ : ∃ M, j + (F - (j + 1)) = M := ⟨_, rfl⟩
  rw [hM] at oB ⊢
  go_simp
  have hB2 := hB1.trans hb2
  have hfl2 : (dlF X.fr j).length = M := by unfold dlF; rw [List.length_append, List.length_take, List.length_drop, HF.out]; omega
  have oB2 : OwP w6 w.heap.size (.slice aB M cB) (dlF X.fr j) := by
    unfold OwP
    rw [hfl2]
    unfold dlF
    rw [rcs_append]
    exact own_mono oB hw34
  obtain ⟨hrw0, hb6⟩ := HRW.out.frs (Kx.of_below (X := fun k => (Value.slice (some ⟨rb, ro, none⟩) X.fr.length frc).ownBlock = some k) hB2) oB2
  have hxe : ({ X with fr := dlF X.fr j } : Wd) = XE := HXE.out
  rw [hxe] at hrw0
  obtain ⟨w8, hw8⟩ : ∃ V : World, V = w6.setCell ⟨w.heap.size, 2, none⟩ (.slice aB M cB) := ⟨_, rfl⟩
  rw [← hw8] at hrw0
  have hrw : ∃ g cap fv q, RW w w8 g cap fv q XE := ⟨_, _, _, _, hrw0⟩
  have q2 := hb6.frozen 2
  have q1 := cell_later hB2 x2
  have hM6 := HM4.out.below hB2
  have hk8 : Kx (fun k => k = w.heap.size) w6 w8 := by rw [hw8]; exact kx_cell _ _ _ _
  have HM8 := Lib.hid (hk8.box (by omega) hM6)
  clear hrw0 hxe hb6 hM6 hk8
  refine hK _ _ trivial hB2 ?_
  clear hK K
  try simp only [Act.put, List.setIfInBounds_toArray, List.set_cons_zero, List.set_cons_succ]
  refine reg0_tk (v := ?_) 14 93 rfl rfl (by kernel_rfl) (by kernel_rfl) (by kernel_rfl) (by kernel_rfl) (by kernel_rfl) (fun _ _ _ h => h) (by rfl) ?_ (by assumption) (by assumption) ?_
  rotate_left
  · (intro w3 hS; (try dsimp only at hS); skip; go_simp; (try with_reducible rfl))
  simp only [List.setIfInBounds_toArray, List.set_cons_zero, List.set_cons_succ]
  refine wpAnyG_one (i := 15) (by kernel_rfl) rfl (by rfl) (by kernel_rfl) (fun K hK => ?_)
  go_simp
  refine hK _ _ trivial ?_
  clear hK K
  try simp only [Act.put, List.setIfInBounds_toArray, List.set_cons_zero, List.set_cons_succ]
  refine wpAnyG_done (by kernel_rfl) ?_ _
  refine NoPanic.normal ?_
  rw [← hw8]
  clear hw8 oB oB2 oA oA1 hg2 hb2 hb1 hba hB1 hB2 q1 q2 x0 x1 x2 m0 m1 m2 m3 hM hv1 hv2
  obtain ⟨g9, cap9, fv9, q9, ho9⟩ := hrw
  obtain ⟨fa9, fc9, hfv9⟩ := owns_form ho9.or.frs
  subst hfv9
  have t0 : World.cell? w8 ⟨w.heap.size + 2, 0, none⟩ = some (.int .i64 0) := ho9.ret.cell 0
  have t1 : World.cell? w8 ⟨w.heap.size + 2, 1, none⟩ = some (.slice none 0 0) := ho9.ret.cell 1
  have t2 : World.cell? w8 ⟨w.heap.size + 2, 2, none⟩ = some (.slice none 0 0) := ho9.ret.cell 2
  have z0 := ho9.ret.frozen 0
  have z1 := ho9.ret.frozen 1
  have z2 := ho9.ret.frozen 2
  have p0 : World.cell? w8 ⟨w.heap.size, 0, none⟩ = some (.int .i64 (XE).ds) := ho9.box.cell 0
  have p1 : World.cell? w8 ⟨w.heap.size, 1, none⟩ = some (.slice (some ⟨g9, 0, none⟩) (XE).cs.length cap9) := ho9.box.cell 1
  have p2 : World.cell? w8 ⟨w.heap.size, 2, none⟩ = some (.slice fa9 (XE).fr.length fc9) := ho9.box.cell 2
  have HO9 := Lib.hid ho9
  clear ho9
  go_wp2_with fail
  refine bodyPost_ret (v := .tuple #[.agg #[.int .i64 (XE).ds, .slice (some ⟨g9, 0, none⟩) (XE).cs.length cap9, .slice fa9 (XE).fr.length fc9], .int .i64 0]) (by simp [results, Try.results45, go_sem, t0, t1, t2]) rfl ⟨_, rfl, ?_, ⟨_, _, q9, rfl, ?_⟩⟩
  · exact ((HO9.out.bel.setCell (p := ⟨w.heap.size + 2, 0, none⟩) (by show w.heap.size ≤ w.heap.size + 2; omega) _).setCell (p := ⟨w.heap.size + 2, 1, none⟩) (by show w.heap.size ≤ w.heap.size + 2; omega) _).setCell (p := ⟨w.heap.size + 2, 2, none⟩) (by show w.heap.size ≤ w.heap.size + 2; omega) _
  · exact PtF.of_or (HO9.out.or.kx (S := fun k => k = w.heap.size + 2) (((kx_cell w8 (w.heap.size + 2) 0 _).setCell (.inl rfl) _).setCell (.inl rfl) _) (fun k hk e => by rw [e] at hk; exact HO9.out.nr hk))
set_option maxHeartbeats 1000000 in
theorem rmove_4 (w : World) (v : Value) (X : Wd) (nd ot : Int) (j : Nat) (rash : Bool) (hs : Sml X) (h : RdW w v X) (ho : Okw X) (hf : ftE X ⟨4, nd, ot, j⟩ = 0) :
    Calls Try.prog 45 #[v, .agg #[.int .i64 4, .int .i64 nd, .int .i64 ot, .int .i64 (j : Int)], .bool rash] w (MvR w (mvW rash X ⟨4, nd, ot, j⟩) 0) := by
  have hj : j < X.fr.length := by
    have : (j : Int) < (X.fr.length : Int) := ((ftE_zero hf).n (.inr (.inr rfl))).2
    omega
  obtain ⟨XE, HXE⟩ : ∃ XE, Hid (mvW rash X ⟨4, nd, ot, j⟩ = XE) := ⟨_, Lib.hid rfl⟩
  rw [HXE.out]
  obtain ⟨cv, fv0, q0, rfl, hp⟩ := h
  obtain ⟨a, c, rfl⟩ := hp.rows.form
  obtain ⟨fa, fc, rfl⟩ := hp.frs.form
  obtain ⟨N, hN⟩ : ∃ N, q0.length = N := ⟨_, rfl⟩
  obtain ⟨F, hF⟩ : ∃ F, X.fr.length = F := ⟨_, rfl⟩
  rw [hN] at hp ⊢
  rw [hF] at hp ⊢
  clear hN hF
  obtain ⟨W, hW⟩ : ∃ W : World, W = ((w.alloc (.cells #[.int .i64 X.ds, .slice a N c, .slice fa F fc] 25)).alloc (.cells #[.int .i64 (4), .int .i64 nd, .int .i64 ot, .int .i64 ((j : Int))] 40)).alloc (.cells #[.int .i64 0, .slice none 0 0, .slice none 0 0] 25) := ⟨_, rfl⟩
  have hB0 : Below w.heap.size w W := by rw [hW]; exact (by repeat (first | assumption | exact Below.refl _ _ | apply Below.al | apply below_drewN | apply Below.drew | refine Below.next ?_ (by assumption)))
  have hWs : w.heap.size + 3 ≤ W.heap.size := by rw [hW]; simp
  have bX : BoxN W w.heap.size 25 #[.int .i64 X.ds, .slice a N c, .slice fa F fc] := by rw [hW]; exact (BoxN.new w _ _).below (by repeat (first | assumption | exact Below.refl _ _ | apply Below.al | apply below_drewN | apply Below.drew | refine Below.next ?_ (by assumption)))
  have bM : BoxN W (w.heap.size + 1) 40 #[.int .i64 (4), .int .i64 nd, .int .i64 ot, .int .i64 ((j : Int))] := by
    rw [hW]
    have := BoxN.new (w.alloc (.cells #[.int .i64 X.ds, .slice a N c, .slice fa F fc] 25)) 40 #[.int .i64 (4), .int .i64 nd, .int .i64 ot, .int .i64 ((j : Int))]
    have e2 := this.below (Below.al (Below.refl _ _) (.cells #[.int .i64 0, .slice none 0 0, .slice none 0 0] 25))
    simpa using e2
  have bT : BoxN W (w.heap.size + 2) 25 #[.int .i64 0, .slice none 0 0, .slice none 0 0] := by
    rw [hW]
    have := BoxN.new ((w.alloc (.cells #[.int .i64 X.ds, .slice a N c, .slice fa F fc] 25)).alloc (.cells #[.int .i64 (4), .int .i64 nd, .int .i64 ot, .int .i64 ((j : Int))] 40)) 25 #[.int .i64 0, .slice none 0 0, .slice none 0 0]
    simpa using this
  have HRD : Hid (RdW W (wV X (.slice a N c) (.slice fa F fc)) X) := Lib.hid ⟨_, _, _, rfl, hp.keep hB0⟩
  have HPW := Lib.hid (hp.keep hB0)
  have HBX := Lib.hid bX
  have HBM := Lib.hid bM
  have HBT := Lib.hid bT
  have x0 : W.cell? ⟨w.heap.size, 0, none⟩ = some (.int .i64 X.ds) := bX.cell 0
  have x1 : W.cell? ⟨w.heap.size, 1, none⟩ = some (.slice a N c) := bX.cell 1
  have x2 : W.cell? ⟨w.heap.size, 2, none⟩ = some (.slice fa F fc) := bX.cell 2
  have m0 : W.cell? ⟨w.heap.size + 1, 0, none⟩ = some (.int .i64 (4)) := bM.cell 0
  have m1 : W.cell? ⟨w.heap.size + 1, 1, none⟩ = some (.int .i64 nd) := bM.cell 1
  have m2 : W.cell? ⟨w.heap.size + 1, 2, none⟩ = some (.int .i64 ot) := bM.cell 2
  have m3 : W.cell? ⟨w.heap.size + 1, 3, none⟩ = some (.int .i64 ((j : Int))) := bM.cell 3
  clear bX bM bT hp
  go_enter Try.func45, Try.ntmps45
  go_upto_region 1 with fail
  rw [← hW]
  clear hW
  have HCK := Lib.hid (rcheck_any W _ X 0 (by unfold chkE; exact if_pos ho) HRD.out)
  have HFT := Lib.hid (fun w' (hb : Below W.heap.size W w') => rfault_any w' _ _ q0 X ⟨4, nd, ot, (j : Int)⟩ _ hf ho.2.2.2.1 (HPW.out.keep hb))
  have HO := Lib.hid ho
  have HS := Lib.hid hs
  clear ho hf hs
  go_wp2_with fail
  refine HCK.out.mono ?_
  rintro e w1 ⟨rfl, hb1⟩
  have x0 := cell_later hb1 x0
  have x1 := cell_later hb1 x1
  have x2 := cell_later hb1 x2
  have m0 := cell_later hb1 m0
  have m1 := cell_later hb1 m1
  have m2 := cell_later hb1 m2
  have m3 := cell_later hb1 m3
  go_wp2_with fail
  refine (HFT.out w1 hb1).mono ?_
  rintro e w2 ⟨rfl, hb2⟩
  have hb12 := Below.next hb1 hb2
  have x0 := cell_later hb2 x0
  have x1 := cell_later hb2 x1
  have x2 := cell_later hb2 x2
  have m0 := cell_later hb2 m0
  have m1 := cell_later hb2 m1
  have m2 := cell_later hb2 m2
  have m3 := cell_later hb2 m3
  have HOWN := Lib.hid (rown_any w2 _ X (HRD.out.keep hb12) HS.out (by have := HO.out.1; omega))
  have hs2 := hb12.size
  have HB2 := Lib.hid (Below.next hB0 hb12)
  have HX2 := Lib.hid (HBX.out.below hb12)
  have HM2 := Lib.hid (HBM.out.below hb12)
  have HT2 := Lib.hid (HBT.out.below hb12)
  clear hb1 hb2 hb12 hB0
  go_wp2_with fail
  refine HOWN.out.mono ?_
  rintro e w3 ⟨g, cap, fv, q, rfl, hor3, hb3⟩
  obtain ⟨fra, frc, hfrv⟩ := owns_form hor3.frs
  subst hfrv
  have f0 := (HX2.out.below hb3).frozen 0
  have f1 := (HX2.out.below hb3).frozen 1
  have f2 := (HX2.out.below hb3).frozen 2
  have y0 : w3.cell? ⟨w.heap.size, 0, none⟩ = some (.int .i64 X.ds) := (HX2.out.below hb3).cell 0
  have y1 : w3.cell? ⟨w.heap.size, 1, none⟩ = some (.slice a N c) := (HX2.out.below hb3).cell 1
  have y2 : w3.cell? ⟨w.heap.size, 2, none⟩ = some (.slice fa F fc) := (HX2.out.below hb3).cell 2
  obtain ⟨w4, hw4⟩ : ∃ V : World, V = ((w3.setCell ⟨w.heap.size, 0, none⟩ (.int .i64 X.ds)).setCell ⟨w.heap.size, 1, none⟩ (.slice (some ⟨g, 0, none⟩) X.cs.length cap)).setCell ⟨w.heap.size, 2, none⟩ (.slice fra X.fr.length frc) := ⟨_, rfl⟩
  have hk4 : Kx (fun k => k = w.heap.size) w3 w4 := by rw [hw4]; exact (((Kx.refl (fun k => k = w.heap.size) w3).setCell (.inl rfl) _).setCell (.inl rfl) _).setCell (.inl rfl) _
  have HRW : Hid (RW w w4 g cap (.slice fra X.fr.length frc) q X) := Lib.hid (by
    have e1 := Below.next HB2.out hb3
    exact ⟨by rw [hw4]; exact (((HX2.out.below hb3).setc 0 _).setc 1 _).setc 2 _, hk4.box (by omega) (HT2.out.below hb3), (hor3.kx hk4 (fun k e e2 => hor3.nbox (HX2.out.below hb3) (by decide) (by decide) (by decide) (by rw [e2] at e; exact e))).mono (by omega), e1.trans (hk4.below e1.size (fun k e => by omega))⟩)
  have HM4 := Lib.hid (hk4.box (by omega) (HM2.out.below hb3))
  go_upto_region 7 with fail
  rw [← hw4]
  have hw4s : w3.heap.size ≤ w4.heap.size := by rw [hw4]; simp
  have hw34 : w.heap.size ≤ w4.heap.size := HRW.out.bel.size
  clear hw4 hk4 hor3 hb3 f0 f1 f2 y0 y1 y2 x0 x1 x2 m0 m1 m2 m3 HX2 HM2 HT2 HB2 HOWN HFT HCK HBX HBM HBT
  have m0 : w4.cell? ⟨w.heap.size + 1, 0, none⟩ = some (.int .i64 (4)) := HM4.out.cell 0
  have m1 : w4.cell? ⟨w.heap.size + 1, 1, none⟩ = some (.int .i64 nd) := HM4.out.cell 1
  have m2 : w4.cell? ⟨w.heap.size + 1, 2, none⟩ = some (.int .i64 ot) := HM4.out.cell 2
  have m3 : w4.cell? ⟨w.heap.size + 1, 3, none⟩ = some (.int .i64 ((j : Int))) := HM4.out.cell 3
  have x0 : w4.cell? ⟨w.heap.size, 0, none⟩ = some (.int .i64 X.ds) := HRW.out.box.cell 0
  have x1 : w4.cell? ⟨w.heap.size, 1, none⟩ = some (.slice (some ⟨g, 0, none⟩) X.cs.length cap) := HRW.out.box.cell 1
  have x2 : w4.cell? ⟨w.heap.size, 2, none⟩ = some (.slice fra X.fr.length frc) := HRW.out.box.cell 2
  obtain ⟨rb, ro, hra, hrc, g0, g1, g2, g3⟩ := RdP.at HRW.out.or.pt.frs rfl j hj
  subst hra
  obtain ⟨f, HFf⟩ : ∃ f, Hid (gp X.fr j = f) := ⟨_, Lib.hid rfl⟩
  rw [HFf.out] at g0 g1 g2 g3
  have hsf := HS.out.fr
  have i1 : (0 : Int) ≤ (j : Int) := by omega
  have i2 : (j : Int) < (X.fr.length : Int) := by omega
  have hwj0 : IntKind.i64.wrap (j : Int) = (j : Int) := IntWalk.i64_in _ (by omega)
  go_upto_region 17 with fail
  refine wp_region_noPanic ?_
  refine wp_region_late (fun _ => True) (fun w' => w'.cell? ⟨w.heap.size, 2, none⟩ = some (.slice (some ⟨rb, ro, none⟩) X.fr.length frc) ∧ w'.cell? ⟨w.heap.size + 1, 3, none⟩ = some (.int .i64 (j : Int))) [11] (by kernel_rfl) trivial ⟨x2, m3⟩ (fun hHeld0 hHeld => ?_)
  refine reg0_tk (v := ?_) 0 96 rfl rfl (by kernel_rfl) (by kernel_rfl) (by kernel_rfl) (by kernel_rfl) (by kernel_rfl) (fun _ _ _ h => h) (by rfl) ?_ (by assumption) (by assumption) ?_
  rotate_left
  · (intro w3 hS; (try dsimp only at hS); skip; go_simp; (try with_reducible rfl))
  simp only [List.setIfInBounds_toArray, List.set_cons_zero, List.set_cons_succ]
  refine regG_tk (v := ?_) 1 97 rfl rfl (by kernel_rfl) (by kernel_rfl) (by kernel_rfl) (by kernel_rfl) (by kernel_rfl) (fun _ _ _ h => h) (by rfl) ?_ (by assumption) (by assumption) ?_
  rotate_left
  · (intro w3 hS; (try dsimp only at hS); obtain ⟨y0, y1⟩ := hS; go_simp; (try with_reducible rfl))
  simp only [List.setIfInBounds_toArray, List.set_cons_zero, List.set_cons_succ]
  refine reg0_tk (v := ?_) 2 98 rfl rfl (by kernel_rfl) (by kernel_rfl) (by kernel_rfl) (by kernel_rfl) (by kernel_rfl) (fun _ _ _ h => h) (by rfl) ?_ (by assumption) (by assumption) ?_
  rotate_left
  · (intro w3 hS; (try dsimp only at hS); skip; go_simp; (try with_reducible rfl))
  simp only [List.setIfInBounds_toArray, List.set_cons_zero, List.set_cons_succ]
  refine regG_tk (v := ?_) 3 99 rfl rfl (by kernel_rfl) (by kernel_rfl) (by kernel_rfl) (by kernel_rfl) (by kernel_rfl) (fun _ _ _ h => h) (by rfl) ?_ (by assumption) (by assumption) ?_
  rotate_left
  · (intro w3 hS; (try dsimp only at hS); obtain ⟨y0, y1⟩ := hS; go_simp; (try with_reducible rfl))
  simp only [List.setIfInBounds_toArray, List.set_cons_zero, List.set_cons_succ]
  refine reg0_tk (v := ?_) 4 100 rfl rfl (by kernel_rfl) (by kernel_rfl) (by kernel_rfl) (by kernel_rfl) (by kernel_rfl) (fun _ _ _ h => h) (by rfl) ?_ (by assumption) (by assumption) ?_
  rotate_left
  · (intro w3 hS; (try dsimp only at hS); skip; go_simp; (try with_reducible rfl))
  simp only [List.setIfInBounds_toArray, List.set_cons_zero, List.set_cons_succ]
  refine regG_tk (v := ?_) 5 101 rfl rfl (by kernel_rfl) (by kernel_rfl) (by kernel_rfl) (by kernel_rfl) (by kernel_rfl) (fun _ _ _ h => h) (by rfl) ?_ (by assumption) (by assumption) ?_
  rotate_left
  · (intro w3 hS; (try dsimp only at hS); obtain ⟨y0, y1⟩ := hS; go_simp; (try with_reducible rfl))
  simp only [List.setIfInBounds_toArray, List.set_cons_zero, List.set_cons_succ]
  refine reg0_tk (v := ?_) 6 102 rfl rfl (by kernel_rfl) (by kernel_rfl) (by kernel_rfl) (by kernel_rfl) (by kernel_rfl) (fun _ _ _ h => h) (by rfl) ?_ (by assumption) (by assumption) ?_
  rotate_left
  · (intro w3 hS; (try dsimp only at hS); skip; go_simp; (try with_reducible rfl))
  simp only [List.setIfInBounds_toArray, List.set_cons_zero, List.set_cons_succ]
  refine wpAnyG_oneS (i := 7) (by kernel_rfl) rfl (by rfl) (fun K hK => ?_)
  go_simp
  refine hK _ _ trivial ⟨x2, m3⟩ ?_
  clear hK K
  try simp only [Act.put, List.setIfInBounds_toArray, List.set_cons_zero, List.set_cons_succ]
  obtain ⟨V, hV⟩ : ∃ V : World, V = (World.alloc w4 (.cells #[.int .i64 f.kd, .int .i64 f.fr, .int .i64 f.tt, .int .i64 f.of] 47)).drew := ⟨_, rfl⟩
  have hVb : Below w4.heap.size w4 V := by rw [hV]; exact (Below.al (Below.refl _ w4) _).drew
  have hVn : RdS V 4 (.slice (some ⟨w4.heap.size, 0, none⟩) 1 1) 1 (rcs psR [f]) := by rw [hV]; exact (RdS.boxP w4 47 f).keep ((Below.refl _ _).drew)
  have hRV := HRW.out.below hVb
  have hVo := hRV.or.frs
  have hVz := hVb.size
  refine wpAnyG_oneS (i := 8) (by kernel_rfl) rfl (by rfl) (fun K hK => ?_)
  go_simp
  rw [← hV]
  clear hV
  refine hK _ _ trivial ⟨cell_later hVb x2, cell_later hVb m3⟩ ?_
  clear hK K
  try simp only [Act.put, List.setIfInBounds_toArray, List.set_cons_zero, List.set_cons_succ]
  refine wpAnyG_oneS (i := 9) (by kernel_rfl) rfl (by rfl) (fun K hK => ?_)
  refine wp_app_at (.tmp 97) (.tmp 104) 23 rfl w.heap.size 47 _ 4 32 EPs _ X.fr.length (rcs psR X.fr) rfl hVo _ 1 (rcs psR [f]) (by decide) rfl hVn (rcs_one _ _) (by unfold maxLen; omega) (by omega) (by omega) ?_
  intro a' c' w6 hown hg hwh
  go_simp
  have hkk : Kx (fun k => (Value.slice (some ⟨rb, ro, none⟩) X.fr.length frc).ownBlock = some k) V w6 := (Kx.refl (fun k => (Value.slice (some ⟨rb, ro, none⟩) X.fr.length frc).ownBlock = some k) V).grown hg (fun k e => .inl e)
  obtain ⟨hrw0, hb6⟩ := hRV.frs (L := X.fr ++ [f]) hkk (by unfold OwP; rw [List.length_append, rcs_append]; exact hown)
  have hxe : ({ X with fr := X.fr ++ [f] } : Wd) = XE := by rw [← HFf.out]; exact HXE.out
  rw [hxe] at hrw0
  have hMV := HM4.out.below hVb
  have hM6 := hkk.box (fun e => hRV.or.nbox hMV (by decide) (by decide) (by decide) (.inr (.inl e))) hMV
  have hS6 : w6.cell? ⟨w.heap.size, 2, none⟩ = some (.slice (some ⟨rb, ro, none⟩) X.fr.length frc) ∧ w6.cell? ⟨w.heap.size + 1, 3, none⟩ = some (.int .i64 (j : Int)) := ⟨hb6.cell 2, hM6.cell 3⟩
  obtain ⟨w8, hw8⟩ : ∃ V : World, V = w6.setCell ⟨w.heap.size, 2, none⟩ (.slice a' (X.fr.length + 1) c') := ⟨_, rfl⟩
  rw [← hw8] at hrw0
  have hrw : ∃ g cap fv q, RW w w8 g cap fv q XE := ⟨_, _, _, _, hrw0⟩
  have hk8 : Kx (fun k => k = w.heap.size) w6 w8 := by rw [hw8]; exact kx_cell _ _ _ _
  have HM8 := Lib.hid (hk8.box (by omega) hM6)
  have q1 := hS6.1
  have q2 := hb6.frozen 2
  clear hrw0 hxe hb6 hM6 hMV hk8 hown hg hwh hVo hVn hRV hkk
  refine hK _ _ trivial hS6 ?_
  clear hK K
  try simp only [Act.put, List.setIfInBounds_toArray, List.set_cons_zero, List.set_cons_succ]
  refine reg0_tk (v := ?_) 10 106 rfl rfl (by kernel_rfl) (by kernel_rfl) (by kernel_rfl) (by kernel_rfl) (by kernel_rfl) (fun _ _ _ h => h) (by rfl) ?_ (by assumption) (by assumption) ?_
  rotate_left
  · (intro w3 hS; (try dsimp only at hS); skip; go_simp; (try with_reducible rfl))
  simp only [List.setIfInBounds_toArray, List.set_cons_zero, List.set_cons_succ]
  refine wpAnyG_one (i := 11) (by kernel_rfl) rfl (by rfl) (by kernel_rfl) (fun K hK => ?_)
  go_simp
  refine hK _ _ trivial ?_
  clear hK K
  try simp only [Act.put, List.setIfInBounds_toArray, List.set_cons_zero, List.set_cons_succ]
  refine wpAnyG_done (by kernel_rfl) ?_ _
  refine NoPanic.normal ?_
  rw [← hw8]
  clear hw8 q1 q2 x0 x1 x2 m0 m1 m2 m3 g0 g1 g2 g3 hS6 hVb
  obtain ⟨g9, cap9, fv9, q9, ho9⟩ := hrw
  obtain ⟨fa9, fc9, hfv9⟩ := owns_form ho9.or.frs
  subst hfv9
  have t0 : World.cell? w8 ⟨w.heap.size + 2, 0, none⟩ = some (.int .i64 0) := ho9.ret.cell 0
  have t1 : World.cell? w8 ⟨w.heap.size + 2, 1, none⟩ = some (.slice none 0 0) := ho9.ret.cell 1
  have t2 : World.cell? w8 ⟨w.heap.size + 2, 2, none⟩ = some (.slice none 0 0) := ho9.ret.cell 2
  have z0 := ho9.ret.frozen 0
  have z1 := ho9.ret.frozen 1
  have z2 := ho9.ret.frozen 2
  have p0 : World.cell? w8 ⟨w.heap.size, 0, none⟩ = some (.int .i64 (XE).ds) := ho9.box.cell 0
  have p1 : World.cell? w8 ⟨w.heap.size, 1, none⟩ = some (.slice (some ⟨g9, 0, none⟩) (XE).cs.length cap9) := ho9.box.cell 1
  have p2 : World.cell? w8 ⟨w.heap.size, 2, none⟩ = some (.slice fa9 (XE).fr.length fc9) := ho9.box.cell 2
  have HO9 := Lib.hid ho9
  clear ho9
  go_wp2_with fail
  refine bodyPost_ret (v := .tuple #[.agg #[.int .i64 (XE).ds, .slice (some ⟨g9, 0, none⟩) (XE).cs.length cap9, .slice fa9 (XE).fr.length fc9], .int .i64 0]) (by simp [results, Try.results45, go_sem, t0, t1, t2]) rfl ⟨_, rfl, ?_, ⟨_, _, q9, rfl, ?_⟩⟩
  · exact ((HO9.out.bel.setCell (p := ⟨w.heap.size + 2, 0, none⟩) (by show w.heap.size ≤ w.heap.size + 2; omega) _).setCell (p := ⟨w.heap.size + 2, 1, none⟩) (by show w.heap.size ≤ w.heap.size + 2; omega) _).setCell (p := ⟨w.heap.size + 2, 2, none⟩) (by show w.heap.size ≤ w.heap.size + 2; omega) _
  · exact PtF.of_or (HO9.out.or.kx (S := fun k => k = w.heap.size + 2) (((kx_cell w8 (w.heap.size + 2) 0 _).setCell (.inl rfl) _).setCell (.inl rfl) _) (fun k hk e => by rw [e] at hk; exact HO9.out.nr hk))


set_option maxHeartbeats 1000000 in
theorem rmove_1 (w : World) (v : Value) (X : Wd) (nd ot n : Int) (rash : Bool) (hs : Sml X) (h : RdW w v X) (ho : Okw X) (hf : ftE X ⟨1, nd, ot, n⟩ = 0) :
    Calls Try.prog 45 #[v, .agg #[.int .i64 1, .int .i64 nd, .int .i64 ot, .int .i64 n], .bool rash] w (MvR w (mvW rash X ⟨1, nd, ot, n⟩) 0) := by
  have hnd : isN X nd := (ftE_zero hf).nd (.inl rfl)
  obtain ⟨i, hi, hfi, hat0⟩ := atC_get hnd
  have hcp := okw_cop ho hnd
  rw [hat0] at hcp
  obtain ⟨⟨_, _, _, hx0, hx1⟩, _⟩ := hcp
  clear hnd
  obtain ⟨cz, HC⟩ : ∃ cz, Hid (gc X.cs i = cz) := ⟨_, Lib.hid rfl⟩
  rw [HC.out] at hx0 hx1 hat0
  obtain ⟨XE, HXE⟩ : ∃ XE, Hid (mvW rash X ⟨1, nd, ot, n⟩ = XE) := ⟨_, Lib.hid rfl⟩
  have hx : { setI X i { cz with st := 2, tt := ot, of := cz.nx, nx := cz.nx + 1 } with fr := X.fr ++ [⟨3, nd, ot, cz.nx⟩] } = XE := by
    have e : ∀ z, setI X i z = setC X nd z := fun z => by unfold setI setC; rw [show (nd - 1).toNat = i by omega]
    rw [← HXE.out, ← hat0, e]
    rfl
  have HX := Lib.hid hx
  have HFI := Lib.hid hfi
  rw [HXE.out]
  have hwx : IntKind.i64.wrap (cz.nx + 1) = cz.nx + 1 := IntWalk.i64_in _ (by omega)
  clear hx hat0 hfi hx0 hx1
  obtain ⟨cv, fv0, q0, rfl, hp⟩ := h
  obtain ⟨a, c, rfl⟩ := hp.rows.form
  obtain ⟨fa, fc, rfl⟩ := hp.frs.form
  obtain ⟨N, hN⟩ : ∃ N, q0.length = N := ⟨_, rfl⟩
  obtain ⟨F, hF⟩ : ∃ F, X.fr.length = F := ⟨_, rfl⟩
  rw [hN] at hp ⊢
  rw [hF] at hp ⊢
  clear hN hF
  obtain ⟨W, hW⟩ : ∃ W : World, W = ((w.alloc (.cells #[.int .i64 X.ds, .slice a N c, .slice fa F fc] 25)).alloc (.cells #[.int .i64 (1), .int .i64 nd, .int .i64 ot, .int .i64 (n)] 40)).alloc (.cells #[.int .i64 0, .slice none 0 0, .slice none 0 0] 25) := ⟨_, rfl⟩
  have hB0 : Below w.heap.size w W := by rw [hW]; exact (by repeat (first | assumption | exact Below.refl _ _ | apply Below.al | apply below_drewN | apply Below.drew | refine Below.next ?_ (by assumption)))
  have hWs : w.heap.size + 3 ≤ W.heap.size := by rw [hW]; simp
  have bX : BoxN W w.heap.size 25 #[.int .i64 X.ds, .slice a N c, .slice fa F fc] := by rw [hW]; exact (BoxN.new w _ _).below (by repeat (first | assumption | exact Below.refl _ _ | apply Below.al | apply below_drewN | apply Below.drew | refine Below.next ?_ (by assumption)))
  have bM : BoxN W (w.heap.size + 1) 40 #[.int .i64 (1), .int .i64 nd, .int .i64 ot, .int .i64 (n)] := by
    rw [hW]
    have := BoxN.new (w.alloc (.cells #[.int .i64 X.ds, .slice a N c, .slice fa F fc] 25)) 40 #[.int .i64 (1), .int .i64 nd, .int .i64 ot, .int .i64 (n)]
    have e2 := this.below (Below.al (Below.refl _ _) (.cells #[.int .i64 0, .slice none 0 0, .slice none 0 0] 25))
    simpa using e2
  have bT : BoxN W (w.heap.size + 2) 25 #[.int .i64 0, .slice none 0 0, .slice none 0 0] := by
    rw [hW]
    have := BoxN.new ((w.alloc (.cells #[.int .i64 X.ds, .slice a N c, .slice fa F fc] 25)).alloc (.cells #[.int .i64 (1), .int .i64 nd, .int .i64 ot, .int .i64 (n)] 40)) 25 #[.int .i64 0, .slice none 0 0, .slice none 0 0]
    simpa using this
  have HRD : Hid (RdW W (wV X (.slice a N c) (.slice fa F fc)) X) := Lib.hid ⟨_, _, _, rfl, hp.keep hB0⟩
  have HPW := Lib.hid (hp.keep hB0)
  have HBX := Lib.hid bX
  have HBM := Lib.hid bM
  have HBT := Lib.hid bT
  have x0 : W.cell? ⟨w.heap.size, 0, none⟩ = some (.int .i64 X.ds) := bX.cell 0
  have x1 : W.cell? ⟨w.heap.size, 1, none⟩ = some (.slice a N c) := bX.cell 1
  have x2 : W.cell? ⟨w.heap.size, 2, none⟩ = some (.slice fa F fc) := bX.cell 2
  have m0 : W.cell? ⟨w.heap.size + 1, 0, none⟩ = some (.int .i64 (1)) := bM.cell 0
  have m1 : W.cell? ⟨w.heap.size + 1, 1, none⟩ = some (.int .i64 nd) := bM.cell 1
  have m2 : W.cell? ⟨w.heap.size + 1, 2, none⟩ = some (.int .i64 ot) := bM.cell 2
  have m3 : W.cell? ⟨w.heap.size + 1, 3, none⟩ = some (.int .i64 (n)) := bM.cell 3
  clear bX bM bT hp
  go_enter Try.func45, Try.ntmps45
  go_upto_region 1 with fail
  rw [← hW]
  clear hW
  have HCK := Lib.hid (rcheck_any W _ X 0 (by unfold chkE; exact if_pos ho) HRD.out)
  have HFT := Lib.hid (fun w' (hb : Below W.heap.size W w') => rfault_any w' _ _ q0 X ⟨1, nd, ot, n⟩ _ hf ho.2.2.2.1 (HPW.out.keep hb))
  have HO := Lib.hid ho
  have HS := Lib.hid hs
  clear ho hf hs
  go_wp2_with fail
  refine HCK.out.mono ?_
  rintro e w1 ⟨rfl, hb1⟩
  have x0 := cell_later hb1 x0
  have x1 := cell_later hb1 x1
  have x2 := cell_later hb1 x2
  have m0 := cell_later hb1 m0
  have m1 := cell_later hb1 m1
  have m2 := cell_later hb1 m2
  have m3 := cell_later hb1 m3
  go_wp2_with fail
  refine (HFT.out w1 hb1).mono ?_
  rintro e w2 ⟨rfl, hb2⟩
  have hb12 := Below.next hb1 hb2
  have x0 := cell_later hb2 x0
  have x1 := cell_later hb2 x1
  have x2 := cell_later hb2 x2
  have m0 := cell_later hb2 m0
  have m1 := cell_later hb2 m1
  have m2 := cell_later hb2 m2
  have m3 := cell_later hb2 m3
  have HOWN := Lib.hid (rown_any w2 _ X (HRD.out.keep hb12) HS.out (by have := HO.out.1; omega))
  have hs2 := hb12.size
  have HB2 := Lib.hid (Below.next hB0 hb12)
  have HX2 := Lib.hid (HBX.out.below hb12)
  have HM2 := Lib.hid (HBM.out.below hb12)
  have HT2 := Lib.hid (HBT.out.below hb12)
  clear hb1 hb2 hb12 hB0
  go_wp2_with fail
  refine HOWN.out.mono ?_
  rintro e w3 ⟨g, cap, fv, q, rfl, hor3, hb3⟩
  obtain ⟨fra, frc, hfrv⟩ := owns_form hor3.frs
  subst hfrv
  have f0 := (HX2.out.below hb3).frozen 0
  have f1 := (HX2.out.below hb3).frozen 1
  have f2 := (HX2.out.below hb3).frozen 2
  have y0 : w3.cell? ⟨w.heap.size, 0, none⟩ = some (.int .i64 X.ds) := (HX2.out.below hb3).cell 0
  have y1 : w3.cell? ⟨w.heap.size, 1, none⟩ = some (.slice a N c) := (HX2.out.below hb3).cell 1
  have y2 : w3.cell? ⟨w.heap.size, 2, none⟩ = some (.slice fa F fc) := (HX2.out.below hb3).cell 2
  obtain ⟨w4, hw4⟩ : ∃ V : World, V = ((w3.setCell ⟨w.heap.size, 0, none⟩ (.int .i64 X.ds)).setCell ⟨w.heap.size, 1, none⟩ (.slice (some ⟨g, 0, none⟩) X.cs.length cap)).setCell ⟨w.heap.size, 2, none⟩ (.slice fra X.fr.length frc) := ⟨_, rfl⟩
  have hk4 : Kx (fun k => k = w.heap.size) w3 w4 := by rw [hw4]; exact (((Kx.refl (fun k => k = w.heap.size) w3).setCell (.inl rfl) _).setCell (.inl rfl) _).setCell (.inl rfl) _
  have HRW : Hid (RW w w4 g cap (.slice fra X.fr.length frc) q X) := Lib.hid (by
    have e1 := Below.next HB2.out hb3
    exact ⟨by rw [hw4]; exact (((HX2.out.below hb3).setc 0 _).setc 1 _).setc 2 _, hk4.box (by omega) (HT2.out.below hb3), (hor3.kx hk4 (fun k e e2 => hor3.nbox (HX2.out.below hb3) (by decide) (by decide) (by decide) (by rw [e2] at e; exact e))).mono (by omega), e1.trans (hk4.below e1.size (fun k e => by omega))⟩)
  have HM4 := Lib.hid (hk4.box (by omega) (HM2.out.below hb3))
  go_upto_region 7 with fail
  rw [← hw4]
  have hw4s : w3.heap.size ≤ w4.heap.size := by rw [hw4]; simp
  have hw34 : w.heap.size ≤ w4.heap.size := HRW.out.bel.size
  clear hw4 hk4 hor3 hb3 f0 f1 f2 y0 y1 y2 x0 x1 x2 m0 m1 m2 m3 HX2 HM2 HT2 HB2 HOWN HFT HCK HBX HBM HBT
  have m0 : w4.cell? ⟨w.heap.size + 1, 0, none⟩ = some (.int .i64 (1)) := HM4.out.cell 0
  have m1 : w4.cell? ⟨w.heap.size + 1, 1, none⟩ = some (.int .i64 nd) := HM4.out.cell 1
  have m2 : w4.cell? ⟨w.heap.size + 1, 2, none⟩ = some (.int .i64 ot) := HM4.out.cell 2
  have m3 : w4.cell? ⟨w.heap.size + 1, 3, none⟩ = some (.int .i64 (n)) := HM4.out.cell 3
  have x0 : w4.cell? ⟨w.heap.size, 0, none⟩ = some (.int .i64 X.ds) := HRW.out.box.cell 0
  have x1 : w4.cell? ⟨w.heap.size, 1, none⟩ = some (.slice (some ⟨g, 0, none⟩) X.cs.length cap) := HRW.out.box.cell 1
  have x2 : w4.cell? ⟨w.heap.size, 2, none⟩ = some (.slice fra X.fr.length frc) := HRW.out.box.cell 2
  have hsc := HS.out.cs
  have hws : IntKind.i64.wrap (nd - 1) = (i : Int) := by
    have e := HFI.out
    rw [show nd - 1 = (i : Int) by omega]
    exact IntWalk.i64_in _ (by omega)
  have i3 : (0 : Int) ≤ (i : Int) := by omega
  have i4 : (i : Int) < (X.cs.length : Int) := by omega
  have hwi : IntKind.i64.wrap (i : Int) = (i : Int) := IntWalk.i64_in _ (by omega)
  obtain ⟨y, HY⟩ : ∃ y, Hid (gq q i = y) := ⟨_, Lib.hid rfl⟩
  have hco := HRW.out.or.cop i
  obtain ⟨a0, a1, a2, a3, a4, a5⟩ := HRW.out.or.at i hi
  have h3 := HRW.out.or.three hi 2 ot cz.nx
  rw [HC.out, HY.out] at hco h3
  rw [HY.out] at a0 a1 a2 a3 a4 a5
  have f0 := HRW.out.or.there (i * 6)
  have f1 := HRW.out.or.there (i * 6 + 1)
  have f2 := HRW.out.or.there (i * 6 + 2)
  replace a3 : w4.cell? ⟨g, i * 6 + 3, none⟩ = some (.int .i64 cz.nx) := by rw [← hco.nx]; exact a3
  have H3 := Lib.hid h3
  have hng : ¬ (w.heap.size + 1 = g) := fun e => HRW.out.or.nbox HM4.out (by decide) (by decide) (by decide) (.inl e)
  clear hco h3 a4 a5
  go_upto_region 10 with fail
  have st1 : (w4.setCell ⟨g, i * 6, none⟩ (.int .i64 2)).cell? ⟨w.heap.size + 1, 2, none⟩ = some (.int .i64 ot) ∧ (w4.setCell ⟨g, i * 6, none⟩ (.int .i64 2)).cell? ⟨g, i * 6 + 3, none⟩ = some (.int .i64 cz.nx) := ⟨cell_set _ (by simp; omega) m2, by go_simp⟩
  have st2 : ((w4.setCell ⟨g, i * 6, none⟩ (.int .i64 2)).setCell ⟨g, i * 6 + 1, none⟩ (.int .i64 ot)).cell? ⟨w.heap.size + 1, 2, none⟩ = some (.int .i64 ot) ∧ ((w4.setCell ⟨g, i * 6, none⟩ (.int .i64 2)).setCell ⟨g, i * 6 + 1, none⟩ (.int .i64 ot)).cell? ⟨g, i * 6 + 3, none⟩ = some (.int .i64 cz.nx) := ⟨cell_set _ (by simp; omega) st1.1, by go_simp⟩
  have st3 : (((w4.setCell ⟨g, i * 6, none⟩ (.int .i64 2)).setCell ⟨g, i * 6 + 1, none⟩ (.int .i64 ot)).setCell ⟨g, i * 6 + 2, none⟩ (.int .i64 cz.nx)).cell? ⟨w.heap.size + 1, 2, none⟩ = some (.int .i64 ot) ∧ (((w4.setCell ⟨g, i * 6, none⟩ (.int .i64 2)).setCell ⟨g, i * 6 + 1, none⟩ (.int .i64 ot)).setCell ⟨g, i * 6 + 2, none⟩ (.int .i64 cz.nx)).cell? ⟨g, i * 6 + 3, none⟩ = some (.int .i64 cz.nx) := ⟨cell_set _ (by simp; omega) st2.1, by go_simp⟩
  have hk4 := H3.out.2
  have h4 := H3.out.1
  have hql : i < q.length := by rw [HRW.out.or.len]; exact hi
  have h4c : CopO (((w4.setCell ⟨g, i * 6, none⟩ (.int .i64 2)).setCell ⟨g, i * 6 + 1, none⟩ (.int .i64 ot)).setCell ⟨g, i * 6 + 2, none⟩ (.int .i64 cz.nx)) w.heap.size { y with st := 2, tt := ot, of := cz.nx } { cz with st := 2, tt := ot, of := cz.nx } := by
    have := h4.cop i
    rw [gq_set hql, if_pos rfl] at this
    have e : gc (setI X i { cz with st := 2, tt := ot, of := cz.nx }).cs i = { cz with st := 2, tt := ot, of := cz.nx } := by show gc (X.cs.set i _) i = _; rw [gc_set hi, if_pos rfl]
    rw [e] at this
    exact this
  have h5 := h4.num' (y' := { y with st := 2, tt := ot, of := cz.nx, nx := cz.nx + 1 }) (c' := { cz with st := 2, tt := ot, of := cz.nx, nx := cz.nx + 1 }) hi hql 3 (.int .i64 (cz.nx + 1)) (by decide) rfl (h4c.num rfl rfl rfl rfl rfl rfl rfl rfl) rfl rfl
  have k3 := st3.2
  have f3 := h4.there (i * 6 + 3)
  obtain ⟨w5, hw5⟩ : ∃ w5 : World, w5 = ((((w4.setCell ⟨g, i * 6, none⟩ (.int .i64 2)).setCell ⟨g, i * 6 + 1, none⟩ (.int .i64 ot)).setCell ⟨g, i * 6 + 2, none⟩ (.int .i64 cz.nx)).setCell ⟨g, i * 6 + 3, none⟩ (.int .i64 (cz.nx + 1))).drew := ⟨_, rfl⟩
  have hk5 : Kx (fun k => k = g) w4 w5 := by rw [hw5]; exact (hk4.setCell (.inl rfl) _).drew
  have h5d : OR w5 w.heap.size g cap (.slice fra X.fr.length frc) (q.set i { y with st := 2, tt := ot, of := cz.nx, nx := cz.nx + 1 }) (setI X i { cz with st := 2, tt := ot, of := cz.nx, nx := cz.nx + 1 }) := by
    rw [hw5]
    exact h5.below ((Below.refl _ _).drew)
  have hrw5 := HRW.out.put (hk5.mono (fun k e => .inl e)) h5d rfl (setI_len _ _ _)
  have hq5 : gq (q.set i { y with st := 2, tt := ot, of := cz.nx, nx := cz.nx + 1 }) i = { y with st := 2, tt := ot, of := cz.nx, nx := cz.nx + 1 } := by rw [gq_set hql, if_pos rfl]
  have k2 := (h5d.at i (by rw [setI_len]; exact hi)).2.2.1
  rw [hq5] at k2
  replace k2 : w5.cell? ⟨g, i * 6 + 2, none⟩ = some (.int .i64 cz.nx) := k2
  obtain ⟨X5, HX5⟩ : ∃ X5, Hid (setI X i { cz with st := 2, tt := ot, of := cz.nx, nx := cz.nx + 1 } = X5) := ⟨_, Lib.hid rfl⟩
  obtain ⟨q5, HQ5⟩ : ∃ q5, Hid (q.set i { y with st := 2, tt := ot, of := cz.nx, nx := cz.nx + 1 } = q5) := ⟨_, Lib.hid rfl⟩
  rw [HX5.out, HQ5.out] at hrw5
  have HR5 := Lib.hid hrw5
  have HM5 := Lib.hid (hk5.box hng HM4.out)
  have hfl5 : X5.fr = X.fr := by rw [← HX5.out]; rfl
  have HFL5 := Lib.hid hfl5
  clear hk4 h4 h4c h5 hk5 h5d hrw5 hq5 hfl5 H3
  refine wp_region_noPanic ?_
  refine wp_region_late (fun _ => True) (fun w' => w'.cell? ⟨w.heap.size + 1, 2, none⟩ = some (.int .i64 ot) ∧ w'.cell? ⟨g, i * 6 + 3, none⟩ = some (.int .i64 cz.nx)) [26] (by kernel_rfl) trivial ⟨m2, a3⟩ (fun hHeld0 hHeld => ?_)
  refine reg0_tk (v := ?_) 0 33 rfl rfl (by kernel_rfl) (by kernel_rfl) (by kernel_rfl) (by kernel_rfl) (by kernel_rfl) (fun _ _ _ h => h) (by rfl) ?_ (by assumption) (by assumption) ?_
  rotate_left
  · (intro w3 hS; (try dsimp only at hS); skip; go_simp; (try with_reducible rfl))
  simp only [List.setIfInBounds_toArray, List.set_cons_zero, List.set_cons_succ]
  refine reg0_tk (v := ?_) 1 34 rfl rfl (by kernel_rfl) (by kernel_rfl) (by kernel_rfl) (by kernel_rfl) (by kernel_rfl) (fun _ _ _ h => h) (by rfl) ?_ (by assumption) (by assumption) ?_
  rotate_left
  · (intro w3 hS; (try dsimp only at hS); skip; go_simp; (try with_reducible rfl))
  simp only [List.setIfInBounds_toArray, List.set_cons_zero, List.set_cons_succ]
  refine reg0_tk (v := ?_) 2 35 rfl rfl (by kernel_rfl) (by kernel_rfl) (by kernel_rfl) (by kernel_rfl) (by kernel_rfl) (fun _ _ _ h => h) (by rfl) ?_ (by assumption) (by assumption) ?_
  rotate_left
  · (intro w3 hS; (try dsimp only at hS); skip; go_simp; (try with_reducible rfl))
  simp only [List.setIfInBounds_toArray, List.set_cons_zero, List.set_cons_succ]
  refine reg0_tk (v := ?_) 3 36 rfl rfl (by kernel_rfl) (by kernel_rfl) (by kernel_rfl) (by kernel_rfl) (by kernel_rfl) (fun _ _ _ h => h) (by rfl) ?_ (by assumption) (by assumption) ?_
  rotate_left
  · (intro w3 hS; (try dsimp only at hS); skip; go_simp; (try with_reducible rfl))
  simp only [List.setIfInBounds_toArray, List.set_cons_zero, List.set_cons_succ]
  refine reg0_tk (v := ?_) 4 37 rfl rfl (by kernel_rfl) (by kernel_rfl) (by kernel_rfl) (by kernel_rfl) (by kernel_rfl) (fun _ _ _ h => h) (by rfl) ?_ (by assumption) (by assumption) ?_
  rotate_left
  · (intro w3 hS; (try dsimp only at hS); skip; go_simp; (try with_reducible rfl))
  simp only [List.setIfInBounds_toArray, List.set_cons_zero, List.set_cons_succ]
  refine regG_tk (v := ?_) 5 38 rfl rfl (by kernel_rfl) (by kernel_rfl) (by kernel_rfl) (by kernel_rfl) (by kernel_rfl) (fun _ _ _ h => h) (by rfl) ?_ (by assumption) (by assumption) ?_
  rotate_left
  · (intro w3 hS; (try dsimp only at hS); obtain ⟨y1, y2⟩ := hS; go_simp; (try with_reducible rfl))
  simp only [List.setIfInBounds_toArray, List.set_cons_zero, List.set_cons_succ]
  refine reg0_tk (v := ?_) 6 39 rfl rfl (by kernel_rfl) (by kernel_rfl) (by kernel_rfl) (by kernel_rfl) (by kernel_rfl) (fun _ _ _ h => h) (by rfl) ?_ (by assumption) (by assumption) ?_
  rotate_left
  · (intro w3 hS; (try dsimp only at hS); skip; go_simp; (try with_reducible rfl))
  simp only [List.setIfInBounds_toArray, List.set_cons_zero, List.set_cons_succ]
  refine reg0_tk (v := ?_) 7 40 rfl rfl (by kernel_rfl) (by kernel_rfl) (by kernel_rfl) (by kernel_rfl) (by kernel_rfl) (fun _ _ _ h => h) (by rfl) ?_ (by assumption) (by assumption) ?_
  rotate_left
  · (intro w3 hS; (try dsimp only at hS); skip; go_simp; (try with_reducible rfl))
  simp only [List.setIfInBounds_toArray, List.set_cons_zero, List.set_cons_succ]
  refine reg0_tk (v := ?_) 8 41 rfl rfl (by kernel_rfl) (by kernel_rfl) (by kernel_rfl) (by kernel_rfl) (by kernel_rfl) (fun _ _ _ h => h) (by rfl) ?_ (by assumption) (by assumption) ?_
  rotate_left
  · (intro w3 hS; (try dsimp only at hS); skip; go_simp; (try with_reducible rfl))
  simp only [List.setIfInBounds_toArray, List.set_cons_zero, List.set_cons_succ]
  refine regG_tk (v := ?_) 9 42 rfl rfl (by kernel_rfl) (by kernel_rfl) (by kernel_rfl) (by kernel_rfl) (by kernel_rfl) (fun _ _ _ h => h) (by rfl) ?_ (by assumption) (by assumption) ?_
  rotate_left
  · (intro w3 hS; (try dsimp only at hS); obtain ⟨y1, y2⟩ := hS; go_simp; (try with_reducible rfl))
  simp only [List.setIfInBounds_toArray, List.set_cons_zero, List.set_cons_succ]
  refine reg0_tk (v := ?_) 10 43 rfl rfl (by kernel_rfl) (by kernel_rfl) (by kernel_rfl) (by kernel_rfl) (by kernel_rfl) (fun _ _ _ h => h) (by rfl) ?_ (by assumption) (by assumption) ?_
  rotate_left
  · (intro w3 hS; (try dsimp only at hS); skip; go_simp; (try with_reducible rfl))
  simp only [List.setIfInBounds_toArray, List.set_cons_zero, List.set_cons_succ]
  refine reg0_tk (v := ?_) 11 44 rfl rfl (by kernel_rfl) (by kernel_rfl) (by kernel_rfl) (by kernel_rfl) (by kernel_rfl) (fun _ _ _ h => h) (by rfl) ?_ (by assumption) (by assumption) ?_
  rotate_left
  · (intro w3 hS; (try dsimp only at hS); skip; go_simp; (try with_reducible rfl))
  simp only [List.setIfInBounds_toArray, List.set_cons_zero, List.set_cons_succ]
  refine reg0_tk (v := ?_) 12 45 rfl rfl (by kernel_rfl) (by kernel_rfl) (by kernel_rfl) (by kernel_rfl) (by kernel_rfl) (fun _ _ _ h => h) (by rfl) ?_ (by assumption) (by assumption) ?_
  rotate_left
  · (intro w3 hS; (try dsimp only at hS); skip; go_simp; (try with_reducible rfl))
  simp only [List.setIfInBounds_toArray, List.set_cons_zero, List.set_cons_succ]
  refine regG_tk (v := ?_) 13 46 rfl rfl (by kernel_rfl) (by kernel_rfl) (by kernel_rfl) (by kernel_rfl) (by kernel_rfl) (fun _ _ _ h => h) (by rfl) ?_ (by assumption) (by assumption) ?_
  rotate_left
  · (intro w3 hS; (try dsimp only at hS); obtain ⟨y1, y2⟩ := hS; go_simp; (try with_reducible rfl))
  simp only [List.setIfInBounds_toArray, List.set_cons_zero, List.set_cons_succ]
  refine reg0_tk (v := ?_) 14 47 rfl rfl (by kernel_rfl) (by kernel_rfl) (by kernel_rfl) (by kernel_rfl) (by kernel_rfl) (fun _ _ _ h => h) (by rfl) ?_ (by assumption) (by assumption) ?_
  rotate_left
  · (intro w3 hS; (try dsimp only at hS); skip; go_simp; (try with_reducible rfl))
  simp only [List.setIfInBounds_toArray, List.set_cons_zero, List.set_cons_succ]
  refine reg0_tk (v := ?_) 15 48 rfl rfl (by kernel_rfl) (by kernel_rfl) (by kernel_rfl) (by kernel_rfl) (by kernel_rfl) (fun _ _ _ h => h) (by rfl) ?_ (by assumption) (by assumption) ?_
  rotate_left
  · (intro w3 hS; (try dsimp only at hS); skip; go_simp; (try with_reducible rfl))
  simp only [List.setIfInBounds_toArray, List.set_cons_zero, List.set_cons_succ]
  refine reg0_tk (v := ?_) 16 49 rfl rfl (by kernel_rfl) (by kernel_rfl) (by kernel_rfl) (by kernel_rfl) (by kernel_rfl) (fun _ _ _ h => h) (by rfl) ?_ (by assumption) (by assumption) ?_
  rotate_left
  · (intro w3 hS; (try dsimp only at hS); skip; go_simp; (try with_reducible rfl))
  simp only [List.setIfInBounds_toArray, List.set_cons_zero, List.set_cons_succ]
  refine wpAnyG_oneS (i := 17) (by kernel_rfl) rfl (by rfl) (fun K hK => ?_)
  go_simp
  refine hK _ _ trivial st1 ?_
  clear hK K
  try simp only [Act.put, List.setIfInBounds_toArray, List.set_cons_zero, List.set_cons_succ]
  refine reg0_tk (v := ?_) 18 50 rfl rfl (by kernel_rfl) (by kernel_rfl) (by kernel_rfl) (by kernel_rfl) (by kernel_rfl) (fun _ _ _ h => h) (by rfl) ?_ (by assumption) (by assumption) ?_
  rotate_left
  · (intro w3 hS; (try dsimp only at hS); skip; go_simp; (try with_reducible rfl))
  simp only [List.setIfInBounds_toArray, List.set_cons_zero, List.set_cons_succ]
  refine reg0_tk (v := ?_) 19 51 rfl rfl (by kernel_rfl) (by kernel_rfl) (by kernel_rfl) (by kernel_rfl) (by kernel_rfl) (fun _ _ _ h => h) (by rfl) ?_ (by assumption) (by assumption) ?_
  rotate_left
  · (intro w3 hS; (try dsimp only at hS); skip; go_simp; (try with_reducible rfl))
  simp only [List.setIfInBounds_toArray, List.set_cons_zero, List.set_cons_succ]
  refine wpAnyG_oneS (i := 20) (by kernel_rfl) rfl (by rfl) (fun K hK => ?_)
  go_simp
  refine hK _ _ trivial st2 ?_
  clear hK K
  try simp only [Act.put, List.setIfInBounds_toArray, List.set_cons_zero, List.set_cons_succ]
  refine reg0_tk (v := ?_) 21 52 rfl rfl (by kernel_rfl) (by kernel_rfl) (by kernel_rfl) (by kernel_rfl) (by kernel_rfl) (fun _ _ _ h => h) (by rfl) ?_ (by assumption) (by assumption) ?_
  rotate_left
  · (intro w3 hS; (try dsimp only at hS); skip; go_simp; (try with_reducible rfl))
  simp only [List.setIfInBounds_toArray, List.set_cons_zero, List.set_cons_succ]
  refine reg0_tk (v := ?_) 22 53 rfl rfl (by kernel_rfl) (by kernel_rfl) (by kernel_rfl) (by kernel_rfl) (by kernel_rfl) (fun _ _ _ h => h) (by rfl) ?_ (by assumption) (by assumption) ?_
  rotate_left
  · (intro w3 hS; (try dsimp only at hS); skip; go_simp; (try with_reducible rfl))
  simp only [List.setIfInBounds_toArray, List.set_cons_zero, List.set_cons_succ]
  refine wpAnyG_oneS (i := 23) (by kernel_rfl) rfl (by rfl) (fun K hK => ?_)
  go_simp
  refine hK _ _ trivial st3 ?_
  clear hK K
  try simp only [Act.put, List.setIfInBounds_toArray, List.set_cons_zero, List.set_cons_succ]
  refine reg0_tk (v := ?_) 24 54 rfl rfl (by kernel_rfl) (by kernel_rfl) (by kernel_rfl) (by kernel_rfl) (by kernel_rfl) (fun _ _ _ h => h) (by rfl) ?_ (by assumption) (by assumption) ?_
  rotate_left
  · (intro w3 hS; (try dsimp only at hS); skip; go_simp; (try with_reducible rfl))
  simp only [List.setIfInBounds_toArray, List.set_cons_zero, List.set_cons_succ]
  refine reg0_tk (v := ?_) 25 55 rfl rfl (by kernel_rfl) (by kernel_rfl) (by kernel_rfl) (by kernel_rfl) (by kernel_rfl) (fun _ _ _ h => h) (by rfl) ?_ (by assumption) (by assumption) ?_
  rotate_left
  · (intro w3 hS; (try dsimp only at hS); skip; go_simp; (try with_reducible rfl))
  simp only [List.setIfInBounds_toArray, List.set_cons_zero, List.set_cons_succ]
  refine wpAnyG_one (i := 26) (by kernel_rfl) rfl (by rfl) (by kernel_rfl) (fun K hK => ?_)
  go_simp
  refine hK _ _ trivial ?_
  clear hK K
  try simp only [Act.put, List.setIfInBounds_toArray, List.set_cons_zero, List.set_cons_succ]
  refine wpAnyG_done (by kernel_rfl) ?_ _
  refine NoPanic.normal ?_
  rw [← hw5]
  clear hw5 st1 st2 st3 a0 a1 a2 a3 f0 f1 f2 f3 k3 x0 x1 x2 m0 m1 m2 m3
  have hsf : X5.fr.length ≤ 100000 := by rw [HFL5.out]; exact HS.out.fr
  obtain ⟨ra, rc, hfv⟩ := owns_form HR5.out.or.frs
  rw [hfv] at HR5
  have x2 : w5.cell? ⟨w.heap.size, 2, none⟩ = some (.slice ra X5.fr.length rc) := HR5.out.box.cell 2
  have m1 : w5.cell? ⟨w.heap.size + 1, 1, none⟩ = some (.int .i64 nd) := HM5.out.cell 1
  have m2 : w5.cell? ⟨w.heap.size + 1, 2, none⟩ = some (.int .i64 ot) := HM5.out.cell 2
  have hnog : ¬ (Value.slice ra X5.fr.length rc).ownBlock = some g := fun e => own_apart HR5.out.or.rows HR5.out.or.frs (by decide) g rfl e
  clear hfv
  have hw5s : w.heap.size ≤ w5.heap.size := HR5.out.bel.size
  go_upto_region 11 with fail
  refine wp_region_noPanic ?_
  refine wp_region_late (fun _ => True) (fun w' => w'.cell? ⟨w.heap.size, 2, none⟩ = some (.slice ra X5.fr.length rc) ∧ w'.cell? ⟨w.heap.size + 1, 1, none⟩ = some (.int .i64 nd) ∧ w'.cell? ⟨w.heap.size + 1, 2, none⟩ = some (.int .i64 ot) ∧ w'.cell? ⟨g, i * 6 + 2, none⟩ = some (.int .i64 cz.nx)) [14] (by kernel_rfl) trivial ⟨x2, m1, m2, k2⟩ (fun hHeld0 hHeld => ?_)
  refine reg0_tk (v := ?_) 0 56 rfl rfl (by kernel_rfl) (by kernel_rfl) (by kernel_rfl) (by kernel_rfl) (by kernel_rfl) (fun _ _ _ h => h) (by rfl) ?_ (by assumption) (by assumption) ?_
  rotate_left
  · (intro w3 hS; (try dsimp only at hS); skip; go_simp; (try with_reducible rfl))
  simp only [List.setIfInBounds_toArray, List.set_cons_zero, List.set_cons_succ]
  refine regG_tk (v := ?_) 1 57 rfl rfl (by kernel_rfl) (by kernel_rfl) (by kernel_rfl) (by kernel_rfl) (by kernel_rfl) (fun _ _ _ h => h) (by rfl) ?_ (by assumption) (by assumption) ?_
  rotate_left
  · (intro w3 hS; (try dsimp only at hS); obtain ⟨y0, y1, y2, y3⟩ := hS; go_simp; (try with_reducible rfl))
  simp only [List.setIfInBounds_toArray, List.set_cons_zero, List.set_cons_succ]
  refine reg0_tk (v := ?_) 2 58 rfl rfl (by kernel_rfl) (by kernel_rfl) (by kernel_rfl) (by kernel_rfl) (by kernel_rfl) (fun _ _ _ h => h) (by rfl) ?_ (by assumption) (by assumption) ?_
  rotate_left
  · (intro w3 hS; (try dsimp only at hS); skip; go_simp; (try with_reducible rfl))
  simp only [List.setIfInBounds_toArray, List.set_cons_zero, List.set_cons_succ]
  refine regG_tk (v := ?_) 3 59 rfl rfl (by kernel_rfl) (by kernel_rfl) (by kernel_rfl) (by kernel_rfl) (by kernel_rfl) (fun _ _ _ h => h) (by rfl) ?_ (by assumption) (by assumption) ?_
  rotate_left
  · (intro w3 hS; (try dsimp only at hS); obtain ⟨y0, y1, y2, y3⟩ := hS; go_simp; (try with_reducible rfl))
  simp only [List.setIfInBounds_toArray, List.set_cons_zero, List.set_cons_succ]
  refine reg0_tk (v := ?_) 4 60 rfl rfl (by kernel_rfl) (by kernel_rfl) (by kernel_rfl) (by kernel_rfl) (by kernel_rfl) (fun _ _ _ h => h) (by rfl) ?_ (by assumption) (by assumption) ?_
  rotate_left
  · (intro w3 hS; (try dsimp only at hS); skip; go_simp; (try with_reducible rfl))
  simp only [List.setIfInBounds_toArray, List.set_cons_zero, List.set_cons_succ]
  refine regG_tk (v := ?_) 5 61 rfl rfl (by kernel_rfl) (by kernel_rfl) (by kernel_rfl) (by kernel_rfl) (by kernel_rfl) (fun _ _ _ h => h) (by rfl) ?_ (by assumption) (by assumption) ?_
  rotate_left
  · (intro w3 hS; (try dsimp only at hS); obtain ⟨y0, y1, y2, y3⟩ := hS; go_simp; (try with_reducible rfl))
  simp only [List.setIfInBounds_toArray, List.set_cons_zero, List.set_cons_succ]
  refine reg0_tk (v := ?_) 6 62 rfl rfl (by kernel_rfl) (by kernel_rfl) (by kernel_rfl) (by kernel_rfl) (by kernel_rfl) (fun _ _ _ h => h) (by rfl) ?_ (by assumption) (by assumption) ?_
  rotate_left
  · (intro w3 hS; (try dsimp only at hS); skip; go_simp; (try with_reducible rfl))
  simp only [List.setIfInBounds_toArray, List.set_cons_zero, List.set_cons_succ]
  refine reg0_tk (v := ?_) 7 63 rfl rfl (by kernel_rfl) (by kernel_rfl) (by kernel_rfl) (by kernel_rfl) (by kernel_rfl) (fun _ _ _ h => h) (by rfl) ?_ (by assumption) (by assumption) ?_
  rotate_left
  · (intro w3 hS; (try dsimp only at hS); skip; go_simp; (try with_reducible rfl))
  simp only [List.setIfInBounds_toArray, List.set_cons_zero, List.set_cons_succ]
  refine reg0_tk (v := ?_) 8 64 rfl rfl (by kernel_rfl) (by kernel_rfl) (by kernel_rfl) (by kernel_rfl) (by kernel_rfl) (fun _ _ _ h => h) (by rfl) ?_ (by assumption) (by assumption) ?_
  rotate_left
  · (intro w3 hS; (try dsimp only at hS); skip; go_simp; (try with_reducible rfl))
  simp only [List.setIfInBounds_toArray, List.set_cons_zero, List.set_cons_succ]
  refine regG_tk (v := ?_) 9 65 rfl rfl (by kernel_rfl) (by kernel_rfl) (by kernel_rfl) (by kernel_rfl) (by kernel_rfl) (fun _ _ _ h => h) (by rfl) ?_ (by assumption) (by assumption) ?_
  rotate_left
  · (intro w3 hS; (try dsimp only at hS); obtain ⟨y0, y1, y2, y3⟩ := hS; go_simp; (try with_reducible rfl))
  simp only [List.setIfInBounds_toArray, List.set_cons_zero, List.set_cons_succ]
  refine reg0_tk (v := ?_) 10 66 rfl rfl (by kernel_rfl) (by kernel_rfl) (by kernel_rfl) (by kernel_rfl) (by kernel_rfl) (fun _ _ _ h => h) (by rfl) ?_ (by assumption) (by assumption) ?_
  rotate_left
  · (intro w3 hS; (try dsimp only at hS); skip; go_simp; (try with_reducible rfl))
  simp only [List.setIfInBounds_toArray, List.set_cons_zero, List.set_cons_succ]
  obtain ⟨f, HFF⟩ : ∃ f : Ps, Hid (f = ⟨3, nd, ot, cz.nx⟩) := ⟨_, Lib.hid rfl⟩
  obtain ⟨V, hV⟩ : ∃ V : World, V = (World.alloc w5 (.cells #[.int .i64 3, .int .i64 nd, .int .i64 ot, .int .i64 cz.nx] 47)).drew := ⟨_, rfl⟩
  have hVb : Below w5.heap.size w5 V := by rw [hV]; exact (Below.al (Below.refl _ w5) _).drew
  have hVn : RdS V 4 (.slice (some ⟨w5.heap.size, 0, none⟩) 1 1) 1 (rcs psR [f]) := by rw [hV, HFF.out]; exact (RdS.boxP w5 47 ⟨3, nd, ot, cz.nx⟩).keep ((Below.refl _ _).drew)
  have hRV := HR5.out.below hVb
  have hVo := hRV.or.frs
  have hVz := hVb.size
  refine wpAnyG_oneS (i := 11) (by kernel_rfl) rfl (by rfl) (fun K hK => ?_)
  go_simp
  rw [← hV]
  clear hV
  refine hK _ _ trivial ⟨cell_later hVb x2, cell_later hVb m1, cell_later hVb m2, cell_later hVb k2⟩ ?_
  clear hK K
  try simp only [Act.put, List.setIfInBounds_toArray, List.set_cons_zero, List.set_cons_succ]
  refine wpAnyG_oneS (i := 12) (by kernel_rfl) rfl (by rfl) (fun K hK => ?_)
  refine wp_app_at (.tmp 57) (.tmp 67) 23 rfl w.heap.size 47 _ 4 32 EPs _ X5.fr.length (rcs psR X5.fr) rfl hVo _ 1 (rcs psR [f]) (by decide) rfl hVn (rcs_one _ _) (by unfold maxLen; omega) (by omega) (by omega) ?_
  intro a' c' w6 hown hg hwh
  go_simp
  have hkk : Kx (fun k => (Value.slice ra X5.fr.length rc).ownBlock = some k) V w6 := (Kx.refl (fun k => (Value.slice ra X5.fr.length rc).ownBlock = some k) V).grown hg (fun k e => .inl e)
  obtain ⟨hrw0, hb6⟩ := hRV.frs (L := X5.fr ++ [f]) hkk (by unfold OwP; rw [List.length_append, rcs_append]; exact hown)
  have hxe : ({ X5 with fr := X5.fr ++ [f] } : Wd) = XE := by rw [HFF.out, HFL5.out, ← HX5.out]; exact HX.out
  rw [hxe] at hrw0
  have hMV := HM5.out.below hVb
  have hM6 := hkk.box (fun e => hRV.or.nbox hMV (by decide) (by decide) (by decide) (.inr (.inl e))) hMV
  have hS6 : w6.cell? ⟨w.heap.size, 2, none⟩ = some (.slice ra X5.fr.length rc) ∧ w6.cell? ⟨w.heap.size + 1, 1, none⟩ = some (.int .i64 nd) ∧ w6.cell? ⟨w.heap.size + 1, 2, none⟩ = some (.int .i64 ot) ∧ w6.cell? ⟨g, i * 6 + 2, none⟩ = some (.int .i64 cz.nx) := ⟨hb6.cell 2, hM6.cell 1, hM6.cell 2, hkk.cell (p := ⟨g, i * 6 + 2, none⟩) hnog (cell_later hVb k2)⟩
  obtain ⟨w8, hw8⟩ : ∃ V : World, V = w6.setCell ⟨w.heap.size, 2, none⟩ (.slice a' (X5.fr.length + 1) c') := ⟨_, rfl⟩
  rw [← hw8] at hrw0
  have hrw : ∃ g cap fv q, RW w w8 g cap fv q XE := ⟨_, _, _, _, hrw0⟩
  have q1 := hS6.1
  have q2 := hb6.frozen 2
  clear hrw0 hxe hb6 hM6 hMV hown hg hwh hVo hVn hRV hkk
  refine hK _ _ trivial hS6 ?_
  clear hK K
  try simp only [Act.put, List.setIfInBounds_toArray, List.set_cons_zero, List.set_cons_succ]
  refine reg0_tk (v := ?_) 13 69 rfl rfl (by kernel_rfl) (by kernel_rfl) (by kernel_rfl) (by kernel_rfl) (by kernel_rfl) (fun _ _ _ h => h) (by rfl) ?_ (by assumption) (by assumption) ?_
  rotate_left
  · (intro w3 hS; (try dsimp only at hS); skip; go_simp; (try with_reducible rfl))
  simp only [List.setIfInBounds_toArray, List.set_cons_zero, List.set_cons_succ]
  refine wpAnyG_one (i := 14) (by kernel_rfl) rfl (by rfl) (by kernel_rfl) (fun K hK => ?_)
  go_simp
  refine hK _ _ trivial ?_
  clear hK K
  try simp only [Act.put, List.setIfInBounds_toArray, List.set_cons_zero, List.set_cons_succ]
  refine wpAnyG_done (by kernel_rfl) ?_ _
  refine NoPanic.normal ?_
  rw [← hw8]
  clear hw8 q1 q2 x2 m1 m2 k2 hS6 hVb hnog
  obtain ⟨g9, cap9, fv9, q9, ho9⟩ := hrw
  obtain ⟨fa9, fc9, hfv9⟩ := owns_form ho9.or.frs
  subst hfv9
  have t0 : World.cell? w8 ⟨w.heap.size + 2, 0, none⟩ = some (.int .i64 0) := ho9.ret.cell 0
  have t1 : World.cell? w8 ⟨w.heap.size + 2, 1, none⟩ = some (.slice none 0 0) := ho9.ret.cell 1
  have t2 : World.cell? w8 ⟨w.heap.size + 2, 2, none⟩ = some (.slice none 0 0) := ho9.ret.cell 2
  have z0 := ho9.ret.frozen 0
  have z1 := ho9.ret.frozen 1
  have z2 := ho9.ret.frozen 2
  have p0 : World.cell? w8 ⟨w.heap.size, 0, none⟩ = some (.int .i64 (XE).ds) := ho9.box.cell 0
  have p1 : World.cell? w8 ⟨w.heap.size, 1, none⟩ = some (.slice (some ⟨g9, 0, none⟩) (XE).cs.length cap9) := ho9.box.cell 1
  have p2 : World.cell? w8 ⟨w.heap.size, 2, none⟩ = some (.slice fa9 (XE).fr.length fc9) := ho9.box.cell 2
  have HO9 := Lib.hid ho9
  clear ho9
  go_wp2_with fail
  refine bodyPost_ret (v := .tuple #[.agg #[.int .i64 (XE).ds, .slice (some ⟨g9, 0, none⟩) (XE).cs.length cap9, .slice fa9 (XE).fr.length fc9], .int .i64 0]) (by simp [results, Try.results45, go_sem, t0, t1, t2]) rfl ⟨_, rfl, ?_, ⟨_, _, q9, rfl, ?_⟩⟩
  · exact ((HO9.out.bel.setCell (p := ⟨w.heap.size + 2, 0, none⟩) (by show w.heap.size ≤ w.heap.size + 2; omega) _).setCell (p := ⟨w.heap.size + 2, 1, none⟩) (by show w.heap.size ≤ w.heap.size + 2; omega) _).setCell (p := ⟨w.heap.size + 2, 2, none⟩) (by show w.heap.size ≤ w.heap.size + 2; omega) _
  · exact PtF.of_or (HO9.out.or.kx (S := fun k => k = w.heap.size + 2) (((kx_cell w8 (w.heap.size + 2) 0 _).setCell (.inl rfl) _).setCell (.inl rfl) _) (fun k hk e => by rw [e] at hk; exact HO9.out.nr hk))
theorem rmove_any (w : World) (v : Value) (X : Wd) (m : Mv) (rash : Bool) (hs : Sml X) (hs2 : ∀ i, (gc X.cs i).tk.length ≤ 90000 ∧ (gc X.cs i).kp.length ≤ 90000) (h : RdW w v X) :
    Calls Try.prog 45 #[v, m.v, .bool rash] w (MvR w (stpW rash X m) (stpE X m)) := by
  obtain ⟨k, nd, ot, n⟩ := m
  show Calls Try.prog 45 #[v, .agg #[.int .i64 k, .int .i64 nd, .int .i64 ot, .int .i64 n], .bool rash] w _
  by_cases ho : Okw X
  · have e1 : stpE X ⟨k, nd, ot, n⟩ = ftE X ⟨k, nd, ot, n⟩ := by unfold stpE; rw [if_pos ho]
    by_cases hf : ftE X ⟨k, nd, ot, n⟩ = 0
    · have e2 : stpW rash X ⟨k, nd, ot, n⟩ = mvW rash X ⟨k, nd, ot, n⟩ := by unfold stpW; rw [if_pos (e1.trans hf)]
      rw [e2, e1, hf]
      have hm := ftE_zero hf
      have hk := hm.k
      have hn := hm.n
      simp only at hk hn
      by_cases k1 : k = 1
      · subst k1; exact rmove_1 w v X nd ot n rash hs h ho hf
      by_cases k5 : k = 5
      · subst k5; exact rmove_5 w v X nd ot n rash hs h ho hf
      by_cases k6 : k = 6
      · subst k6; exact rmove_6 w v X nd ot n rash hs h ho hf
      have hn2 := (hn (by omega)).1
      obtain ⟨j, rfl⟩ : ∃ j : Nat, n = (j : Int) := ⟨n.toNat, by omega⟩
      by_cases k2 : k = 2
      · subst k2; exact rmove_2 w v X nd ot j rash hs hs2 h ho hf
      by_cases k3 : k = 3
      · subst k3; exact rmove_3 w v X nd ot j rash hs h ho hf
      obtain rfl : k = 4 := by omega
      exact rmove_4 w v X nd ot j rash hs h ho hf
    · have e2 : stpW rash X ⟨k, nd, ot, n⟩ = W0 := by unfold stpW; rw [if_neg (by rw [e1]; exact hf)]
      rw [e2, e1]
      exact rmove_wrong w v X k nd ot n rash _ hs h ho rfl hf
  · have e1 : stpE X ⟨k, nd, ot, n⟩ = 3 := by unfold stpE; rw [if_neg ho]
    have e2 : stpW rash X ⟨k, nd, ot, n⟩ = W0 := by unfold stpW; rw [if_neg (by rw [e1]; decide)]
    rw [e2, e1]
    exact rmove_bad w v X k nd ot n rash h ho


set_option maxHeartbeats 1000000 in
theorem rstep_any (w : World) (v : Value) (X : Wd) (m : Mv) (hs : Sml X) (hs2 : ∀ i, (gc X.cs i).tk.length ≤ 90000 ∧ (gc X.cs i).kp.length ≤ 90000) (h : RdW w v X) :
    Calls Try.prog 22 #[v, m.v] w (MvR w (stpW false X m) (stpE X m)) := by
  obtain ⟨k, nd, ot, n⟩ := m
  show Calls Try.prog 22 #[v, .agg #[.int .i64 k, .int .i64 nd, .int .i64 ot, .int .i64 n]] w _
  obtain ⟨XE, HXE⟩ : ∃ XE, Hid (stpW false X ⟨k, nd, ot, n⟩ = XE) := ⟨_, Lib.hid rfl⟩
  obtain ⟨er, HER⟩ : ∃ er, Hid (stpE X ⟨k, nd, ot, n⟩ = er) := ⟨_, Lib.hid rfl⟩
  rw [HXE.out, HER.out]
  obtain ⟨cv, fv0, q0, rfl, hp⟩ := h
  obtain ⟨a, c, rfl⟩ := hp.rows.form
  obtain ⟨fa, fc, rfl⟩ := hp.frs.form
  obtain ⟨N, hN⟩ : ∃ N, q0.length = N := ⟨_, rfl⟩
  obtain ⟨F, hF⟩ : ∃ F, X.fr.length = F := ⟨_, rfl⟩
  rw [hN] at hp ⊢
  rw [hF] at hp ⊢
  clear hN hF
  obtain ⟨W, hW⟩ : ∃ W : World, W = ((w.alloc (.cells #[.int .i64 X.ds, .slice a N c, .slice fa F fc] 25)).alloc (.cells #[.int .i64 k, .int .i64 nd, .int .i64 ot, .int .i64 n] 40)).alloc (.cells #[.int .i64 0, .slice none 0 0, .slice none 0 0] 25) := ⟨_, rfl⟩
  have hB0 : Below w.heap.size w W := by rw [hW]; exact (by repeat (first | assumption | exact Below.refl _ _ | apply Below.al | apply below_drewN | apply Below.drew | refine Below.next ?_ (by assumption)))
  have hWs : w.heap.size + 3 ≤ W.heap.size := by rw [hW]; simp
  have bX : BoxN W w.heap.size 25 #[.int .i64 X.ds, .slice a N c, .slice fa F fc] := by rw [hW]; exact (BoxN.new w _ _).below (by repeat (first | assumption | exact Below.refl _ _ | apply Below.al | apply below_drewN | apply Below.drew | refine Below.next ?_ (by assumption)))
  have bM : BoxN W (w.heap.size + 1) 40 #[.int .i64 k, .int .i64 nd, .int .i64 ot, .int .i64 n] := by
    rw [hW]
    have := BoxN.new (w.alloc (.cells #[.int .i64 X.ds, .slice a N c, .slice fa F fc] 25)) 40 #[.int .i64 k, .int .i64 nd, .int .i64 ot, .int .i64 n]
    have e2 := this.below (Below.al (Below.refl _ _) (.cells #[.int .i64 0, .slice none 0 0, .slice none 0 0] 25))
    simpa using e2
  have bT : BoxN W (w.heap.size + 2) 25 #[.int .i64 0, .slice none 0 0, .slice none 0 0] := by
    rw [hW]
    have := BoxN.new ((w.alloc (.cells #[.int .i64 X.ds, .slice a N c, .slice fa F fc] 25)).alloc (.cells #[.int .i64 k, .int .i64 nd, .int .i64 ot, .int .i64 n] 40)) 25 #[.int .i64 0, .slice none 0 0, .slice none 0 0]
    simpa using this
  have HRD : Hid (RdW W (wV X (.slice a N c) (.slice fa F fc)) X) := Lib.hid ⟨_, _, _, rfl, hp.keep hB0⟩
  have HBM := Lib.hid bM
  have HBT := Lib.hid bT
  have x0 : W.cell? ⟨w.heap.size, 0, none⟩ = some (.int .i64 X.ds) := bX.cell 0
  have x1 : W.cell? ⟨w.heap.size, 1, none⟩ = some (.slice a N c) := bX.cell 1
  have x2 : W.cell? ⟨w.heap.size, 2, none⟩ = some (.slice fa F fc) := bX.cell 2
  clear bX bM bT hp
  go_enter Try.func22, Try.ntmps22
  go_upto_region 1 with fail
  rw [← hW]
  clear hW
  have hmv := rmove_any W _ X ⟨k, nd, ot, n⟩ false hs hs2 HRD.out
  rw [HXE.out, HER.out] at hmv
  have HMV := Lib.hid hmv
  have m0 : W.cell? ⟨w.heap.size + 1, 0, none⟩ = some (.int .i64 k) := HBM.out.cell 0
  have m1 : W.cell? ⟨w.heap.size + 1, 1, none⟩ = some (.int .i64 nd) := HBM.out.cell 1
  have m2 : W.cell? ⟨w.heap.size + 1, 2, none⟩ = some (.int .i64 ot) := HBM.out.cell 2
  have m3 : W.cell? ⟨w.heap.size + 1, 3, none⟩ = some (.int .i64 n) := HBM.out.cell 3
  clear hmv
  go_wp2_with fail
  refine HMV.out.mono ?_
  rintro e w1 ⟨u, rfl, hb1, hu⟩
  obtain ⟨cv1, fv1, q1, rfl, hp1⟩ := hu
  obtain ⟨a1, c1, rfl⟩ := hp1.pt.rows.form
  obtain ⟨fa1, fc1, rfl⟩ := hp1.pt.frs.form
  have hB1 := Below.next hB0 hb1
  have e1 := HBT.out.below hb1
  have t0 : w1.cell? ⟨w.heap.size + 2, 0, none⟩ = some (.int .i64 0) := e1.cell 0
  have t1 : w1.cell? ⟨w.heap.size + 2, 1, none⟩ = some (.slice none 0 0) := e1.cell 1
  have t2 : w1.cell? ⟨w.heap.size + 2, 2, none⟩ = some (.slice none 0 0) := e1.cell 2
  have z0 := e1.frozen 0
  have z1 := e1.frozen 1
  have z2 := e1.frozen 2
  have HB1 := Lib.hid hB1
  have HP1 := Lib.hid hp1
  clear hb1 hp1 hB1 e1
  go_wp2_with fail
  refine bodyPost_ret (v := .tuple #[.agg #[.int .i64 XE.ds, .slice a1 q1.length c1, .slice fa1 XE.fr.length fc1], .int .i64 er]) (by simp [results, Try.results22, go_sem, t0, t1, t2]) rfl ⟨_, rfl, ?_, ⟨_, _, q1, rfl, ?_⟩⟩
  · exact ((HB1.out.setCell (p := ⟨w.heap.size + 2, 0, none⟩) (by show w.heap.size ≤ w.heap.size + 2; omega) _).setCell (p := ⟨w.heap.size + 2, 1, none⟩) (by show w.heap.size ≤ w.heap.size + 2; omega) _).setCell (p := ⟨w.heap.size + 2, 2, none⟩) (by show w.heap.size ≤ w.heap.size + 2; omega) _
  · exact (((HP1.out.set (p := ⟨w.heap.size + 2, 0, none⟩) _ (by show w.heap.size + 2 < W.heap.size; omega)).set (p := ⟨w.heap.size + 2, 1, none⟩) _ (by show w.heap.size + 2 < W.heap.size; omega)).set (p := ⟨w.heap.size + 2, 2, none⟩) _ (by show w.heap.size + 2 < W.heap.size; omega)).mono (by omega)
set_option maxHeartbeats 1000000 in
theorem rrash_any (w : World) (v : Value) (X : Wd) (m : Mv) (hs : Sml X) (hs2 : ∀ i, (gc X.cs i).tk.length ≤ 90000 ∧ (gc X.cs i).kp.length ≤ 90000) (h : RdW w v X) :
    Calls Try.prog 24 #[v, m.v] w (MvR w (stpW true X m) (stpE X m)) := by
  obtain ⟨k, nd, ot, n⟩ := m
  show Calls Try.prog 24 #[v, .agg #[.int .i64 k, .int .i64 nd, .int .i64 ot, .int .i64 n]] w _
  obtain ⟨XE, HXE⟩ : ∃ XE, Hid (stpW true X ⟨k, nd, ot, n⟩ = XE) := ⟨_, Lib.hid rfl⟩
  obtain ⟨er, HER⟩ : ∃ er, Hid (stpE X ⟨k, nd, ot, n⟩ = er) := ⟨_, Lib.hid rfl⟩
  rw [HXE.out, HER.out]
  obtain ⟨cv, fv0, q0, rfl, hp⟩ := h
  obtain ⟨a, c, rfl⟩ := hp.rows.form
  obtain ⟨fa, fc, rfl⟩ := hp.frs.form
  obtain ⟨N, hN⟩ : ∃ N, q0.length = N := ⟨_, rfl⟩
  obtain ⟨F, hF⟩ : ∃ F, X.fr.length = F := ⟨_, rfl⟩
  rw [hN] at hp ⊢
  rw [hF] at hp ⊢
  clear hN hF
  obtain ⟨W, hW⟩ : ∃ W : World, W = ((w.alloc (.cells #[.int .i64 X.ds, .slice a N c, .slice fa F fc] 25)).alloc (.cells #[.int .i64 k, .int .i64 nd, .int .i64 ot, .int .i64 n] 40)).alloc (.cells #[.int .i64 0, .slice none 0 0, .slice none 0 0] 25) := ⟨_, rfl⟩
  have hB0 : Below w.heap.size w W := by rw [hW]; exact (by repeat (first | assumption | exact Below.refl _ _ | apply Below.al | apply below_drewN | apply Below.drew | refine Below.next ?_ (by assumption)))
  have hWs : w.heap.size + 3 ≤ W.heap.size := by rw [hW]; simp
  have bX : BoxN W w.heap.size 25 #[.int .i64 X.ds, .slice a N c, .slice fa F fc] := by rw [hW]; exact (BoxN.new w _ _).below (by repeat (first | assumption | exact Below.refl _ _ | apply Below.al | apply below_drewN | apply Below.drew | refine Below.next ?_ (by assumption)))
  have bM : BoxN W (w.heap.size + 1) 40 #[.int .i64 k, .int .i64 nd, .int .i64 ot, .int .i64 n] := by
    rw [hW]
    have := BoxN.new (w.alloc (.cells #[.int .i64 X.ds, .slice a N c, .slice fa F fc] 25)) 40 #[.int .i64 k, .int .i64 nd, .int .i64 ot, .int .i64 n]
    have e2 := this.below (Below.al (Below.refl _ _) (.cells #[.int .i64 0, .slice none 0 0, .slice none 0 0] 25))
    simpa using e2
  have bT : BoxN W (w.heap.size + 2) 25 #[.int .i64 0, .slice none 0 0, .slice none 0 0] := by
    rw [hW]
    have := BoxN.new ((w.alloc (.cells #[.int .i64 X.ds, .slice a N c, .slice fa F fc] 25)).alloc (.cells #[.int .i64 k, .int .i64 nd, .int .i64 ot, .int .i64 n] 40)) 25 #[.int .i64 0, .slice none 0 0, .slice none 0 0]
    simpa using this
  have HRD : Hid (RdW W (wV X (.slice a N c) (.slice fa F fc)) X) := Lib.hid ⟨_, _, _, rfl, hp.keep hB0⟩
  have HBM := Lib.hid bM
  have HBT := Lib.hid bT
  have x0 : W.cell? ⟨w.heap.size, 0, none⟩ = some (.int .i64 X.ds) := bX.cell 0
  have x1 : W.cell? ⟨w.heap.size, 1, none⟩ = some (.slice a N c) := bX.cell 1
  have x2 : W.cell? ⟨w.heap.size, 2, none⟩ = some (.slice fa F fc) := bX.cell 2
  clear bX bM bT hp
  go_enter Try.func24, Try.ntmps24
  go_upto_region 1 with fail
  rw [← hW]
  clear hW
  have hmv := rmove_any W _ X ⟨k, nd, ot, n⟩ true hs hs2 HRD.out
  rw [HXE.out, HER.out] at hmv
  have HMV := Lib.hid hmv
  have m0 : W.cell? ⟨w.heap.size + 1, 0, none⟩ = some (.int .i64 k) := HBM.out.cell 0
  have m1 : W.cell? ⟨w.heap.size + 1, 1, none⟩ = some (.int .i64 nd) := HBM.out.cell 1
  have m2 : W.cell? ⟨w.heap.size + 1, 2, none⟩ = some (.int .i64 ot) := HBM.out.cell 2
  have m3 : W.cell? ⟨w.heap.size + 1, 3, none⟩ = some (.int .i64 n) := HBM.out.cell 3
  clear hmv
  go_wp2_with fail
  refine HMV.out.mono ?_
  rintro e w1 ⟨u, rfl, hb1, hu⟩
  obtain ⟨cv1, fv1, q1, rfl, hp1⟩ := hu
  obtain ⟨a1, c1, rfl⟩ := hp1.pt.rows.form
  obtain ⟨fa1, fc1, rfl⟩ := hp1.pt.frs.form
  have hB1 := Below.next hB0 hb1
  have e1 := HBT.out.below hb1
  have t0 : w1.cell? ⟨w.heap.size + 2, 0, none⟩ = some (.int .i64 0) := e1.cell 0
  have t1 : w1.cell? ⟨w.heap.size + 2, 1, none⟩ = some (.slice none 0 0) := e1.cell 1
  have t2 : w1.cell? ⟨w.heap.size + 2, 2, none⟩ = some (.slice none 0 0) := e1.cell 2
  have z0 := e1.frozen 0
  have z1 := e1.frozen 1
  have z2 := e1.frozen 2
  have HB1 := Lib.hid hB1
  have HP1 := Lib.hid hp1
  clear hb1 hp1 hB1 e1
  go_wp2_with fail
  refine bodyPost_ret (v := .tuple #[.agg #[.int .i64 XE.ds, .slice a1 q1.length c1, .slice fa1 XE.fr.length fc1], .int .i64 er]) (by simp [results, Try.results24, go_sem, t0, t1, t2]) rfl ⟨_, rfl, ?_, ⟨_, _, q1, rfl, ?_⟩⟩
  · exact ((HB1.out.setCell (p := ⟨w.heap.size + 2, 0, none⟩) (by show w.heap.size ≤ w.heap.size + 2; omega) _).setCell (p := ⟨w.heap.size + 2, 1, none⟩) (by show w.heap.size ≤ w.heap.size + 2; omega) _).setCell (p := ⟨w.heap.size + 2, 2, none⟩) (by show w.heap.size ≤ w.heap.size + 2; omega) _
  · exact (((HP1.out.set (p := ⟨w.heap.size + 2, 0, none⟩) _ (by show w.heap.size + 2 < W.heap.size; omega)).set (p := ⟨w.heap.size + 2, 1, none⟩) _ (by show w.heap.size + 2 < W.heap.size; omega)).set (p := ⟨w.heap.size + 2, 2, none⟩) _ (by show w.heap.size + 2 < W.heap.size; omega)).mono (by omega)


set_option maxHeartbeats 1000000 in
theorem rrun_any (w : World) (v mv : Value) (X : Wd) (l : List Mv) (k0 : Nat) (hk0 : k0 + l.length ≤ 90000) (htg : TgB k0 X) (h : RdW w v X) (hm : RdL mvR w mv l) :
    Calls Try.prog 16 #[v, mv] w (RnR w (ruW X l)) := by
  obtain ⟨cv, fv0, q0, rfl, hp⟩ := h
  obtain ⟨a, c, rfl⟩ := hp.rows.form
  obtain ⟨fa, fc, rfl⟩ := hp.frs.form
  obtain ⟨ma, mc, rfl⟩ := hm.form
  obtain ⟨L, hL⟩ : ∃ L, l.length = L := ⟨_, rfl⟩
  have HL := Lib.hid hL
  rw [hL] at hm hk0 ⊢
  have HM := Lib.hid hm
  clear hL hm
  obtain ⟨N, hN⟩ : ∃ N, q0.length = N := ⟨_, rfl⟩
  obtain ⟨F, hF⟩ : ∃ F, X.fr.length = F := ⟨_, rfl⟩
  rw [hN] at hp ⊢
  rw [hF] at hp ⊢
  clear hN hF
  obtain ⟨rr, HRR⟩ : ∃ rr, Hid (ruW X l = rr) := ⟨_, Lib.hid rfl⟩
  rw [HRR.out]
  obtain ⟨W, hW⟩ : ∃ W : World, W = (w.alloc (.cells #[.int .i64 X.ds, .slice a N c, .slice fa F fc] 25)).alloc (.cells #[.int .i64 0, .slice none 0 0, .slice none 0 0] 25) := ⟨_, rfl⟩
  have hB0 : Below w.heap.size w W := by rw [hW]; exact (by repeat (first | assumption | exact Below.refl _ _ | apply Below.al | apply below_drewN | apply Below.drew | refine Below.next ?_ (by assumption)))
  have hWs : w.heap.size + 2 = W.heap.size := by rw [hW]; simp
  have hWs : w.heap.size + 2 ≤ W.heap.size := by omega
  have bX : BoxN W w.heap.size 25 #[.int .i64 X.ds, .slice a N c, .slice fa F fc] := by rw [hW]; exact (BoxN.new w _ _).below (by repeat (first | assumption | exact Below.refl _ _ | apply Below.al | apply below_drewN | apply Below.drew | refine Below.next ?_ (by assumption)))
  have bT : BoxN W (w.heap.size + 1) 25 #[.int .i64 0, .slice none 0 0, .slice none 0 0] := by
    rw [hW]
    have := BoxN.new (w.alloc (.cells #[.int .i64 X.ds, .slice a N c, .slice fa F fc] 25)) 25 #[.int .i64 0, .slice none 0 0, .slice none 0 0]
    simpa using this
  have HRD : Hid (RdW W (wV X (.slice a N c) (.slice fa F fc)) X) := Lib.hid ⟨_, _, _, rfl, hp.keep hB0⟩
  have HBX := Lib.hid bX
  have HBT := Lib.hid bT
  have HTG := Lib.hid htg
  have x0 : W.cell? ⟨w.heap.size, 0, none⟩ = some (.int .i64 X.ds) := bX.cell 0
  have x1 : W.cell? ⟨w.heap.size, 1, none⟩ = some (.slice a N c) := bX.cell 1
  have x2 : W.cell? ⟨w.heap.size, 2, none⟩ = some (.slice fa F fc) := bX.cell 2
  clear bX bT hp htg
  go_enter Try.func16, Try.ntmps16
  go_upto_region 1 with fail
  rw [← hW]
  clear hW
  by_cases ho : Okw X
  · have HCK := Lib.hid (rcheck_any W _ X 0 (by unfold chkE; exact if_pos ho) HRD.out)
    have HO := Lib.hid ho
    have hrun : rr = runW X l 0 := by rw [← HRR.out]; unfold ruW; rw [if_pos ho]
    have HRN := Lib.hid hrun
    clear ho hrun
    go_wp2_with fail
    refine HCK.out.mono ?_
    rintro e w1 ⟨rfl, hb1⟩
    have hB1 := Below.next hB0 hb1
    have x0 := cell_later hb1 x0
    have x1 := cell_later hb1 x1
    have x2 := cell_later hb1 x2
    have hw1 := hb1.size
    have HB1 := Lib.hid hb1
    have HOWN := Lib.hid (rown_any w1 _ X (HRD.out.keep hb1) (HTG.out.sml HO.out (by omega)) (by have := HO.out.1; omega))
    clear hb1
    go_wp2_with fail
    refine HOWN.out.mono ?_
    rintro e w2 ⟨g, cap, fv, q, rfl, hop2, hb2⟩
    obtain ⟨fa2, fc2, hfv⟩ := owns_form hop2.frs
    subst hfv
    have hlen := hop2.len
    rw [← hlen]
    have hbW := HB1.out.trans (hb2.mono hw1)
    have e2 := HBX.out.below hbW
    have e4 := HBT.out.below hbW
    have y0 : w2.cell? ⟨w.heap.size, 0, none⟩ = some (.int .i64 X.ds) := e2.cell 0
    have y1 : w2.cell? ⟨w.heap.size, 1, none⟩ = some (.slice a N c) := e2.cell 1
    have y2 : w2.cell? ⟨w.heap.size, 2, none⟩ = some (.slice fa F fc) := e2.cell 2
    have z0 := e2.frozen 0
    have z1 := e2.frozen 1
    have z2 := e2.frozen 2
    have hw2 := hb2.size
    have hpf := PtF.of_or hop2
    rw [← hlen] at hpf
    obtain ⟨w3, hw3⟩ : ∃ w3 : World, w3 = ((w2.setCell ⟨w.heap.size, 0, none⟩ (.int .i64 X.ds)).setCell ⟨w.heap.size, 1, none⟩ (.slice (some ⟨g, 0, none⟩) q.length cap)).setCell ⟨w.heap.size, 2, none⟩ (.slice fa2 X.fr.length fc2) := ⟨_, rfl⟩
    have HI0 : Hid (RnI w l X k0 0 X (some ⟨g, 0, none⟩) cap fa2 fc2 q w3) := Lib.hid (by
      rw [hw3]
      refine ⟨((e2.setc 0 _).setc 1 _).setc 2 _, ?_, ?_, ?_, HO.out, HTG.out, by rw [List.drop_zero], by simp; omega⟩
      · exact (((hpf.set (p := ⟨w.heap.size, 0, none⟩) _ (by show w.heap.size < w1.heap.size; omega)).set (p := ⟨w.heap.size, 1, none⟩) _ (by show w.heap.size < w1.heap.size; omega)).set (p := ⟨w.heap.size, 2, none⟩) _ (by show w.heap.size < w1.heap.size; omega)).mono (by omega)
      · exact (((kx_cell w2 w.heap.size 0 _).setCell (.inl rfl) _).setCell (.inl rfl) _).box (by omega) e4
      · exact (((Below.next hB1 hb2).setCell (p := ⟨w.heap.size, 0, none⟩) (Nat.le_refl _) _).setCell (p := ⟨w.heap.size, 1, none⟩) (Nat.le_refl _) _).setCell (p := ⟨w.heap.size, 2, none⟩) (Nat.le_refl _) _)
    clear hpf e2 e4 hbW hb2 hB1 hop2 hlen x0 x1 x2
    go_upto_region 5 with fail
    rw [← hw3]
    clear hw3 y0 y1 y2 z0 z1 z2
    go_wp2_with fail
    go_loopw [8] (fun jv wr => ∃ (j : Nat) (Xj : Wd) (a : Option Addr) (c : Nat) (fa : Option Addr) (fc : Nat) (q : List Cq), j ≤ L ∧ jv = .int .i64 j ∧ RnI w l X k0 j Xj a c fa fc q wr) (fun jv _ => L - (intOf jv).toNat)
    case atStart => exact ⟨0, _, _, _, _, _, _, Nat.zero_le _, rfl, HI0.out⟩
    case round =>
      obtain ⟨j, Xj, a9, c9, fa9, fc9, q9, hj, rfl, hI⟩ := hrel
      have HI := Lib.hid hI
      clear hI
      have x0 : wr.cell? ⟨w.heap.size, 0, none⟩ = some (.int .i64 Xj.ds) := HI.out.box.cell 0
      have x1 : wr.cell? ⟨w.heap.size, 1, none⟩ = some (.slice a9 q9.length c9) := HI.out.box.cell 1
      have x2 : wr.cell? ⟨w.heap.size, 2, none⟩ = some (.slice fa9 Xj.fr.length fc9) := HI.out.box.cell 2
      have hwr := HI.out.sz
      by_cases hlt : j < L
      · have d2 : decide ((j : Int) < (L : Int)) = true := yb (by omega)
        obtain ⟨mb, mo, rfl, hmc, g0, g1, g2, g3⟩ := RdM.at (HM.out.keep HI.out.bel) HL.out j hlt
        obtain ⟨y, HY⟩ : ∃ y, Hid (gm l j = y) := ⟨_, Lib.hid rfl⟩
        rw [HY.out] at g0 g1 g2 g3
        have n1 : (0 : Int) ≤ (j : Int) := by omega
        have n2 : (j : Int) < (L : Int) := by omega
        have hwk : IntKind.i64.wrap ((j : Int) + 1) = (j : Int) + 1 := IntWalk.i64_in _ (by omega)
        have hds : ∀ w', Below wr.heap.size wr w' → Calls Try.prog 22 #[wV Xj (.slice a9 q9.length c9) (.slice fa9 Xj.fr.length fc9), .agg #[.int .i64 y.kd, .int .i64 y.nd, .int .i64 y.ot, .int .i64 y.n]] w' (MvR w' (stpW false Xj y) (stpE Xj y)) := fun w' hb =>
          rstep_any w' _ Xj y (HI.out.tg.sml HI.out.ok (by omega)) (fun i => ⟨Nat.le_trans (HI.out.tg.gc i).1 (by omega), Nat.le_trans (HI.out.tg.gc i).2 (by omega)⟩) ⟨_, _, _, rfl, HI.out.rd.pt.keep hb⟩
        have hrs := runW_step (X := Xj) (l := l) (k := j) (by rw [HL.out]; exact hlt)
        rw [HY.out] at hrs
        obtain ⟨er, her⟩ : ∃ er, stpE Xj y = er := ⟨_, rfl⟩
        obtain ⟨XE, hXE⟩ : ∃ XE, stpW false Xj y = XE := ⟨_, rfl⟩
        have hok := fun h0 : er = 0 => okw_mv (r := false) (her.trans h0)
        rw [her] at hrs
        simp only [her, hXE] at hds
        have HST : Hid (∀ w', Below wr.heap.size wr w' → Calls Try.prog 22 #[wV Xj (.slice a9 q9.length c9) (.slice fa9 Xj.fr.length fc9), .agg #[.int .i64 y.kd, .int .i64 y.nd, .int .i64 y.ot, .int .i64 y.n]] w' (MvR w' XE er)) := Lib.hid hds
        have HRS := Lib.hid hrs
        have HXE := Lib.hid hXE
        have HER := Lib.hid her
        have HOK := Lib.hid hok
        clear hds hrs hXE her hok
        go_upto_region 8 with fail
        go_cut [9, 10] (fun s9 s10 wy => ∃ (p9 : Nat) (a' : Option Addr) (c' : Nat) (fa' : Option Addr) (fc' : Nat) (q' : List Cq), s9 = ptr p9 ∧ s10 = .int .i64 er ∧ BoxN wy p9 25 #[.int .i64 XE.ds, .slice a' q'.length c', .slice fa' XE.fr.length fc'] ∧ PtF wy wr.heap.size (.slice a' q'.length c') (.slice fa' XE.fr.length fc') q' XE ∧ Below wr.heap.size wr wy)
        case first =>
          as_aux_lemma =>
          refine wp_region_noPanic ?_
          refine wp_region_held_drew (S := (fun w' => Below wr.heap.size wr w')) (by kernel_rfl) ((Below.refl _ wr).drew) (fun hHeld => ?_)
          refine reg_tk (v := wV Xj (.slice a9 q9.length c9) (.slice fa9 Xj.fr.length fc9)) 0 26 rfl rfl (by kernel_rfl) (by kernel_rfl) (by kernel_rfl) (fun _ _ _ h => h) (by rfl) (fun w3 hS => by (have j0 := cell_later hS x0; have j1 := cell_later hS x1; have j2 := cell_later hS x2); go_simp) (by assumption) ?_
          simp only [List.setIfInBounds_toArray, List.set_cons_zero, List.set_cons_succ]
          refine reg_tk (v := ?_) 1 27 rfl rfl (by kernel_rfl) (by kernel_rfl) (by kernel_rfl) (fun _ _ _ h => h) (by rfl) ?_ (by assumption) ?_
          rotate_left
          · (intro w hSw; (try dsimp only at hSw); go_simp; (try with_reducible rfl))
          simp only [List.setIfInBounds_toArray, List.set_cons_zero, List.set_cons_succ]
          refine reg_tk (v := ?_) 2 28 rfl rfl (by kernel_rfl) (by kernel_rfl) (by kernel_rfl) (fun _ _ _ h => h) (by rfl) ?_ (by assumption) ?_
          rotate_left
          · (intro w hSw; (try dsimp only at hSw); go_simp; (try with_reducible rfl))
          simp only [List.setIfInBounds_toArray, List.set_cons_zero, List.set_cons_succ]
          refine reg_tk (v := .pointer (some ⟨mb, mo + j * 4, none⟩)) 3 29 rfl rfl (by kernel_rfl) (by kernel_rfl) (by kernel_rfl) (fun _ _ _ h => h) (by rfl) (fun w3 hS => by skip; go_simp) (by assumption) ?_
          simp only [List.setIfInBounds_toArray, List.set_cons_zero, List.set_cons_succ]
          refine reg_tk (v := .agg #[.int .i64 y.kd, .int .i64 y.nd, .int .i64 y.ot, .int .i64 y.n]) 4 30 rfl rfl (by kernel_rfl) (by kernel_rfl) (by kernel_rfl) (fun _ _ _ h => h) (by rfl) (fun w3 hS => by (have j0 := cell_later hS g0; have j1 := cell_later hS g1; have j2 := cell_later hS g2; have j3 := cell_later hS g3); go_simp) (by assumption) ?_
          simp only [List.setIfInBounds_toArray, List.set_cons_zero, List.set_cons_succ]
          have hB0 : Below wr.heap.size wr wr.drew := (Below.refl _ wr).drew
          refine wpAnyH_ready (rs := [5, 9]) (by kernel_rfl) (by simp) ?_
          refine AllReadyH.cons rfl (fun K hK => ?_) (AllReadyH.cons rfl (fun K hK => ?_) AllReadyH.nil)
          · have hle := (hB0).size
            go_simp
            refine (HST.out _ hB0).mono ?_
            rintro e v1 ⟨u, rfl, hb1, hu⟩
            obtain ⟨cv2, fv2, q2, rfl, hpt⟩ := hu
            obtain ⟨a2, c2, rfl⟩ := hpt.pt.rows.form
            obtain ⟨fa2, fc2, rfl⟩ := hpt.pt.frs.form
            have hB1 : Below wr.heap.size wr v1 := Below.next hB0 hb1
            refine hK.out _ _ hB1 (fun hHeld2 => ?_)
            clear hK K hHeld
            have hHeld := hHeld2
            clear hHeld2
            try simp only [Act.put, List.setIfInBounds_toArray, List.set_cons_zero, List.set_cons_succ]
            refine reg_tk (v := ?_) 6 25 rfl rfl (by kernel_rfl) (by kernel_rfl) (by kernel_rfl) (fun _ _ _ h => h) (by rfl) ?_ (by assumption) ?_
            rotate_left
            · (intro w hSw; (try dsimp only at hSw); go_simp; (try with_reducible rfl))
            simp only [List.setIfInBounds_toArray, List.set_cons_zero, List.set_cons_succ]
            refine reg_tk (v := ?_) 7 32 rfl rfl (by kernel_rfl) (by kernel_rfl) (by kernel_rfl) (fun _ _ _ h => h) (by rfl) ?_ (by assumption) ?_
            rotate_left
            · (intro w hSw; (try dsimp only at hSw); go_simp; (try with_reducible rfl))
            simp only [List.setIfInBounds_toArray, List.set_cons_zero, List.set_cons_succ]
            refine reg_tk (v := ?_) 8 33 rfl rfl (by kernel_rfl) (by kernel_rfl) (by kernel_rfl) (fun _ _ _ h => h) (by rfl) ?_ (by assumption) ?_
            rotate_left
            · (intro w hSw; (try dsimp only at hSw); go_simp; (try with_reducible rfl))
            simp only [List.setIfInBounds_toArray, List.set_cons_zero, List.set_cons_succ]
            refine wpAnyH_ready (rs := [9]) (by kernel_rfl) (by simp) ?_
            refine AllReadyH.cons rfl (fun K hK => ?_) AllReadyH.nil
            go_simp
            refine hK.out _ _ (Below.al hB1 _) (fun hHeld2 => ?_)
            clear hK K hHeld
            have hHeld := hHeld2
            clear hHeld2
            try simp only [Act.put, List.setIfInBounds_toArray, List.set_cons_zero, List.set_cons_succ]
            refine wpAnyH_ready (rs := [10]) (by kernel_rfl) (by simp) ?_
            refine AllReadyH.cons rfl (fun K hK => ?_) AllReadyH.nil
            go_simp
            obtain ⟨W3, hW3⟩ : ∃ V : World, V = World.alloc v1 (.cells #[.int .i64 XE.ds, .slice a2 q2.length c2, .slice fa2 XE.fr.length fc2] 25) := ⟨_, rfl⟩
            have b3 : BoxN W3 (v1.heap.size) 25 #[.int .i64 XE.ds, .slice a2 q2.length c2, .slice fa2 XE.fr.length fc2] := by rw [hW3]; exact BoxN.new _ _ _
            have hb3 : Below (World.heap v1).size v1 W3 := by rw [hW3]; exact (by repeat (first | assumption | exact Below.refl _ _ | apply Below.al | apply below_drewN | apply Below.drew | refine Below.next ?_ (by assumption)))
            have hB3 := Below.next hB1 hb3
            have hz3 := (hB1).size
            have hp3 : PtF W3 wr.heap.size (.slice a2 q2.length c2) (.slice fa2 XE.fr.length fc2) q2 XE := (hpt.keep hb3).mono hle
            rw [← hW3]
            refine hK.out _ _ hB3 (fun hHeld2 => ?_)
            clear hK K hHeld
            have hHeld := hHeld2
            clear hHeld2
            try simp only [Act.put, List.setIfInBounds_toArray, List.set_cons_zero, List.set_cons_succ]
            refine reg_tk (v := ?_) 11 10 rfl rfl (by kernel_rfl) (by kernel_rfl) (by kernel_rfl) (fun _ _ _ h => h) (by rfl) ?_ (by assumption) ?_
            rotate_left
            · (intro w hSw; (try dsimp only at hSw); go_simp; (try with_reducible rfl))
            simp only [List.setIfInBounds_toArray, List.set_cons_zero, List.set_cons_succ]
            refine wpAnyH_done (by kernel_rfl) ?_ _
            refine NoPanic.normal ?_
            clear hHeld hW3 hb3
            go_wp2_with fail
            go_meet
            exact ⟨_, _, _, _, _, _, rfl, rfl, b3, hp3, hB3⟩
          · go_simp
            have hal := Below.al hB0 (.cells #[.int .i64 0, .slice none 0 0, .slice none 0 0] 25)
            refine hK.out _ _ hal (fun hHeld2 => ?_)
            clear hK K hHeld
            have hHeld := hHeld2
            clear hHeld2
            try simp only [Act.put, List.setIfInBounds_toArray, List.set_cons_zero, List.set_cons_succ]
            have bzA : BoxN (World.alloc wr.drew (.cells #[.int .i64 0, .slice none 0 0, .slice none 0 0] 25)) (wr.heap.size) 25 #[.int .i64 0, .slice none 0 0, .slice none 0 0] := BoxN.new _ _ _
            have hza : wr.heap.size ≤ wr.heap.size := (hB0).size
            refine wpAnyH_ready (rs := [5]) (by kernel_rfl) (by simp) ?_
            refine AllReadyH.cons rfl (fun K hK => ?_) AllReadyH.nil
            have hle := (hal).size
            have hzl := bzA.lt
            go_simp
            refine (HST.out _ hal).mono ?_
            rintro e v1 ⟨u, rfl, hb1, hu⟩
            obtain ⟨cv2, fv2, q2, rfl, hpt⟩ := hu
            obtain ⟨a2, c2, rfl⟩ := hpt.pt.rows.form
            obtain ⟨fa2, fc2, rfl⟩ := hpt.pt.frs.form
            have hB1 : Below wr.heap.size wr v1 := Below.next hal hb1
            have bz1 : BoxN v1 (wr.heap.size) 25 #[.int .i64 0, .slice none 0 0, .slice none 0 0] := bzA.below hb1
            refine hK.out _ _ hB1 (fun hHeld2 => ?_)
            clear hK K hHeld
            have hHeld := hHeld2
            clear hHeld2
            try simp only [Act.put, List.setIfInBounds_toArray, List.set_cons_zero, List.set_cons_succ]
            refine reg_tk (v := ?_) 6 25 rfl rfl (by kernel_rfl) (by kernel_rfl) (by kernel_rfl) (fun _ _ _ h => h) (by rfl) ?_ (by assumption) ?_
            rotate_left
            · (intro w hSw; (try dsimp only at hSw); go_simp; (try with_reducible rfl))
            simp only [List.setIfInBounds_toArray, List.set_cons_zero, List.set_cons_succ]
            refine reg_tk (v := ?_) 7 32 rfl rfl (by kernel_rfl) (by kernel_rfl) (by kernel_rfl) (fun _ _ _ h => h) (by rfl) ?_ (by assumption) ?_
            rotate_left
            · (intro w hSw; (try dsimp only at hSw); go_simp; (try with_reducible rfl))
            simp only [List.setIfInBounds_toArray, List.set_cons_zero, List.set_cons_succ]
            refine reg_tk (v := ?_) 8 33 rfl rfl (by kernel_rfl) (by kernel_rfl) (by kernel_rfl) (fun _ _ _ h => h) (by rfl) ?_ (by assumption) ?_
            rotate_left
            · (intro w hSw; (try dsimp only at hSw); go_simp; (try with_reducible rfl))
            simp only [List.setIfInBounds_toArray, List.set_cons_zero, List.set_cons_succ]
            have t0 : World.cell? v1 ⟨wr.heap.size, 0, none⟩ = some (.int .i64 0) := bz1.cell 0
            have y0 := bz1.frozen 0
            have t1 : World.cell? v1 ⟨wr.heap.size, 1, none⟩ = some (.slice none 0 0) := bz1.cell 1
            have y1 := bz1.frozen 1
            have t2 : World.cell? v1 ⟨wr.heap.size, 2, none⟩ = some (.slice none 0 0) := bz1.cell 2
            have y2 := bz1.frozen 2
            refine wpAnyH_ready (rs := [10]) (by kernel_rfl) (by simp) ?_
            refine AllReadyH.cons rfl (fun K hK => ?_) AllReadyH.nil
            go_simp
            obtain ⟨W3, hW3⟩ : ∃ V : World, V = ((World.setCell v1 ⟨wr.heap.size, 0, none⟩ (.int .i64 XE.ds)).setCell ⟨wr.heap.size, 1, none⟩ (.slice a2 q2.length c2)).setCell ⟨wr.heap.size, 2, none⟩ (.slice fa2 XE.fr.length fc2) := ⟨_, rfl⟩
            have b3 : BoxN W3 (wr.heap.size) 25 #[.int .i64 XE.ds, .slice a2 q2.length c2, .slice fa2 XE.fr.length fc2] := by rw [hW3]; exact (((bz1).setc 0 _).setc 1 _).setc 2 _
            have hB3 : Below wr.heap.size wr W3 := by rw [hW3]; exact ((hB1.setCell (p := ⟨wr.heap.size, 0, none⟩) hza _).setCell (p := ⟨wr.heap.size, 1, none⟩) hza _).setCell (p := ⟨wr.heap.size, 2, none⟩) hza _
            have hp3 : PtF W3 wr.heap.size (.slice a2 q2.length c2) (.slice fa2 XE.fr.length fc2) q2 XE := by rw [hW3]; exact (((hpt.set (p := ⟨wr.heap.size, 0, none⟩) _ hzl).set (p := ⟨wr.heap.size, 1, none⟩) _ hzl).set (p := ⟨wr.heap.size, 2, none⟩) _ hzl).mono hle
            rw [← hW3]
            refine hK.out _ _ hB3 (fun hHeld2 => ?_)
            clear hK K hHeld
            have hHeld := hHeld2
            clear hHeld2
            try simp only [Act.put, List.setIfInBounds_toArray, List.set_cons_zero, List.set_cons_succ]
            refine reg_tk (v := ?_) 11 10 rfl rfl (by kernel_rfl) (by kernel_rfl) (by kernel_rfl) (fun _ _ _ h => h) (by rfl) ?_ (by assumption) ?_
            rotate_left
            · (intro w hSw; (try dsimp only at hSw); go_simp; (try with_reducible rfl))
            simp only [List.setIfInBounds_toArray, List.set_cons_zero, List.set_cons_succ]
            refine wpAnyH_done (by kernel_rfl) ?_ _
            refine NoPanic.normal ?_
            clear hHeld hW3 t0 y0 t1 y1 t2 y2
            go_wp2_with fail
            go_meet
            exact ⟨_, _, _, _, _, _, rfl, rfl, b3, hp3, hB3⟩
        case rest =>
          clear HST x0 x1 x2 g0 g1 g2 g3
          obtain ⟨p9, a4, c4, fa4, fc4, q4, rfl, rfl, b9, hp5, hb5⟩ := hcut
          rename World => W5
          have hs5 : wr.heap.size ≤ W5.heap.size := hb5.size
          by_cases he : er = 0
          · have e1 : (er != 0) = false := by simp [he]
            subst he
            have bx := HI.out.box.below hb5
            have x0 : W5.cell? ⟨w.heap.size, 0, none⟩ = some (.int .i64 Xj.ds) := bx.cell 0
            have x1 : W5.cell? ⟨w.heap.size, 1, none⟩ = some (.slice a9 q9.length c9) := bx.cell 1
            have x2 : W5.cell? ⟨w.heap.size, 2, none⟩ = some (.slice fa9 Xj.fr.length fc9) := bx.cell 2
            have z0 := bx.frozen 0
            have z1 := bx.frozen 1
            have z2 := bx.frozen 2
            have r0 : W5.cell? ⟨p9, 0, none⟩ = some (.int .i64 XE.ds) := b9.cell 0
            have r1 : W5.cell? ⟨p9, 1, none⟩ = some (.slice a4 q4.length c4) := b9.cell 1
            have r2 : W5.cell? ⟨p9, 2, none⟩ = some (.slice fa4 XE.fr.length fc4) := b9.cell 2
            obtain ⟨w6, hw6⟩ : ∃ w6 : World, w6 = ((W5.setCell ⟨w.heap.size, 0, none⟩ (.int .i64 XE.ds)).setCell ⟨w.heap.size, 1, none⟩ (.slice a4 q4.length c4)).setCell ⟨w.heap.size, 2, none⟩ (.slice fa4 XE.fr.length fc4) := ⟨_, rfl⟩
            have HIn : Hid (RnI w l X k0 (j + 1) XE a4 c4 fa4 fc4 q4 w6) := Lib.hid (by
              have hxm : XE = mvW false Xj y := by rw [← HXE.out]; unfold stpW; rw [if_pos HER.out]
              rw [hw6]
              refine ⟨((bx.setc 0 _).setc 1 _).setc 2 _, ?_, ?_, ?_, by rw [hxm]; first | exact HOK.out rfl | exact HOK.out trivial, by rw [hxm]; exact HI.out.tg.mv false y, ?_, by simp; omega⟩
              · exact (((hp5.set (p := ⟨w.heap.size, 0, none⟩) _ (by show w.heap.size < wr.heap.size; omega)).set (p := ⟨w.heap.size, 1, none⟩) _ (by show w.heap.size < wr.heap.size; omega)).set (p := ⟨w.heap.size, 2, none⟩) _ (by show w.heap.size < wr.heap.size; omega)).mono (by omega)
              · exact (((kx_cell W5 w.heap.size 0 _).setCell (.inl rfl) _).setCell (.inl rfl) _).box (by omega) (HI.out.res.below hb5)
              · exact (((Below.next HI.out.bel hb5).setCell (p := ⟨w.heap.size, 0, none⟩) (Nat.le_refl _) _).setCell (p := ⟨w.heap.size, 1, none⟩) (Nat.le_refl _) _).setCell (p := ⟨w.heap.size, 2, none⟩) (Nat.le_refl _) _
              · rw [HI.out.run, HRS.out, if_pos (by trivial), hxm])
            clear hb5 hp5 b9 bx
            go_upto_region 11 with fail
            go_upto_region 7 with fail
            rw [← hw6]
            clear hw6 x0 x1 x2 z0 z1 z2 r0 r1 r2
            go_wp2_with fail
            go_roundw
            case rel => exact ⟨j + 1, XE, a4, c4, fa4, fc4, q4, by omega, by go_num, HIn.out⟩
            case measure => simp [intOf]; omega
          · have e1 : (er != 0) = true := by simpa using he
            have hrs := HRS.out
            rw [if_neg he] at hrs
            have HEND : Hid (rr = (Xj, j, er)) := Lib.hid (by rw [HRN.out, HI.out.run]; exact hrs)
            clear he hrs hp5 b9
            have HRES := Lib.hid (HI.out.res.below hb5)
            have HBE := Lib.hid (Below.next HI.out.bel hb5)
            have HPF := Lib.hid (HI.out.rd.keep hb5)
            have x0 := cell_later hb5 (HI.out.box.cell 0)
            have x1 := cell_later hb5 (HI.out.box.cell 1)
            have x2 := cell_later hb5 (HI.out.box.cell 2)
            have x0 : W5.cell? ⟨w.heap.size, 0, none⟩ = some (.int .i64 Xj.ds) := x0
            have x1 : W5.cell? ⟨w.heap.size, 1, none⟩ = some (.slice a9 q9.length c9) := x1
            have x2 : W5.cell? ⟨w.heap.size, 2, none⟩ = some (.slice fa9 Xj.fr.length fc9) := x2
            clear hb5
            go_upto_region 10 with fail
            have t0 : World.cell? W5 ⟨w.heap.size + 1, 0, none⟩ = some (.int .i64 0) := HRES.out.cell 0
            have t1 : World.cell? W5 ⟨w.heap.size + 1, 1, none⟩ = some (.slice none 0 0) := HRES.out.cell 1
            have t2 : World.cell? W5 ⟨w.heap.size + 1, 2, none⟩ = some (.slice none 0 0) := HRES.out.cell 2
            have z0 := HRES.out.frozen 0
            have z1 := HRES.out.frozen 1
            have z2 := HRES.out.frozen 2
            go_wp2_with fail
            rw [HEND.out]
            refine bodyPost_ret (v := .tuple #[.agg #[.int .i64 (Xj).ds, .slice a9 (q9).length c9, .slice fa9 (Xj).fr.length fc9], .int .i64 (j : Int), .int .i64 er]) (by simp [results, Try.results16, go_sem, t0, t1, t2]) rfl ⟨_, rfl, ?_, ⟨_, _, q9, rfl, ?_⟩⟩
            · exact ((HBE.out.setCell (p := ⟨w.heap.size + 1, 0, none⟩) (Nat.le_succ _) _).setCell (p := ⟨w.heap.size + 1, 1, none⟩) (Nat.le_succ _) _).setCell (p := ⟨w.heap.size + 1, 2, none⟩) (Nat.le_succ _) _
            · exact (((HPF.out.set (p := ⟨w.heap.size + 1, 0, none⟩) _ (Nat.lt_succ_self _)).set (p := ⟨w.heap.size + 1, 1, none⟩) _ (Nat.lt_succ_self _)).set (p := ⟨w.heap.size + 1, 2, none⟩) _ (Nat.lt_succ_self _)).mono (by omega)
      · obtain rfl : j = L := by omega
        have d2 : decide ((j : Int) < (j : Int)) = false := nb (by omega)
        have HEND : Hid (rr = (Xj, j, 0)) := Lib.hid (by
          rw [HRN.out, HI.out.run, ← HL.out]
          exact runW_end)
        have HRES := Lib.hid HI.out.res
        have HBE := Lib.hid HI.out.bel
        have HPF := Lib.hid HI.out.rd
        have t0 : World.cell? wr ⟨w.heap.size + 1, 0, none⟩ = some (.int .i64 0) := HRES.out.cell 0
        have t1 : World.cell? wr ⟨w.heap.size + 1, 1, none⟩ = some (.slice none 0 0) := HRES.out.cell 1
        have t2 : World.cell? wr ⟨w.heap.size + 1, 2, none⟩ = some (.slice none 0 0) := HRES.out.cell 2
        have z0 := HRES.out.frozen 0
        have z1 := HRES.out.frozen 1
        have z2 := HRES.out.frozen 2
        go_wp2_with fail
        rw [HEND.out]
        refine bodyPost_ret (v := .tuple #[.agg #[.int .i64 (Xj).ds, .slice a9 (q9).length c9, .slice fa9 (Xj).fr.length fc9], .int .i64 (j : Int), .int .i64 0]) (by simp [results, Try.results16, go_sem, t0, t1, t2]) rfl ⟨_, rfl, ?_, ⟨_, _, q9, rfl, ?_⟩⟩
        · exact ((HBE.out.setCell (p := ⟨w.heap.size + 1, 0, none⟩) (Nat.le_succ _) _).setCell (p := ⟨w.heap.size + 1, 1, none⟩) (Nat.le_succ _) _).setCell (p := ⟨w.heap.size + 1, 2, none⟩) (Nat.le_succ _) _
        · exact (((HPF.out.set (p := ⟨w.heap.size + 1, 0, none⟩) _ (Nat.lt_succ_self _)).set (p := ⟨w.heap.size + 1, 1, none⟩) _ (Nat.lt_succ_self _)).set (p := ⟨w.heap.size + 1, 2, none⟩) _ (Nat.lt_succ_self _)).mono (by omega)
  · have HCK := Lib.hid (rcheck_any W _ X 3 (by unfold chkE; exact if_neg ho) HRD.out)
    have hrun : rr = (W0, 0, 3) := by rw [← HRR.out]; unfold ruW; rw [if_neg ho]
    have HRN := Lib.hid hrun
    clear ho hrun
    go_wp2_with fail
    refine HCK.out.mono ?_
    rintro e w1 ⟨rfl, hb1⟩
    have hB1 := Below.next hB0 hb1
    have e3 := HBT.out.below hb1
    have t0 : w1.cell? ⟨w.heap.size + 1, 0, none⟩ = some (.int .i64 0) := e3.cell 0
    have t1 : w1.cell? ⟨w.heap.size + 1, 1, none⟩ = some (.slice none 0 0) := e3.cell 1
    have t2 : w1.cell? ⟨w.heap.size + 1, 2, none⟩ = some (.slice none 0 0) := e3.cell 2
    have z0 := e3.frozen 0
    have z1 := e3.frozen 1
    have z2 := e3.frozen 2
    go_wp2_with fail
    rw [HRN.out]
    refine bodyPost_ret (v := .tuple #[.agg #[.int .i64 0, .slice none 0 0, .slice none 0 0], .int .i64 0, .int .i64 3]) (by simp [results, Try.results16, go_sem, t0, t1, t2]) rfl ⟨_, rfl, ?_, RdF.zero _ _⟩
    exact ((hB1.setCell (p := ⟨w.heap.size + 1, 0, none⟩) (Nat.le_succ _) _).setCell (p := ⟨w.heap.size + 1, 1, none⟩) (Nat.le_succ _) _).setCell (p := ⟨w.heap.size + 1, 2, none⟩) (Nat.le_succ _) _


theorem RdW.keep' {w w' : World} {v : Value} {X : Wd} (h : RdW w v X) (hb : Below w.heap.size w w') : RdW w' v X := by
  obtain ⟨cv, fv, q, hv, hp⟩ := h
  exact ⟨cv, fv, q, hv, hp.keep hb⟩
theorem lightP.two {X : Wd} (h : lightP X) : ∀ i, (gc X.cs i).tk.length ≤ 90000 ∧ (gc X.cs i).kp.length ≤ 90000 := fun i => by
  by_cases hi : i < X.cs.length
  · have := h.2.2 i hi; omega
  · have e : gc X.cs i = cp0 := by
      show X.cs.getD i cp0 = cp0
      rw [List.getD_eq_getElem?_getD, List.getElem?_eq_none (by omega)]
      rfl
    rw [e]
    exact ⟨Nat.zero_le _, Nat.zero_le _⟩
theorem lightP.tgb {X : Wd} (h : lightP X) : TgB 20 X := fun c hc => by
  obtain ⟨i, hi, rfl⟩ := List.getElem_of_mem hc
  have := h.2.2 i hi
  have e : gc X.cs i = X.cs[i] := by
    show X.cs.getD i cp0 = _
    rw [List.getD_eq_getElem?_getD, List.getElem?_eq_getElem hi]
    rfl
  rwa [e] at this
set_option maxHeartbeats 2000000 in
theorem lruns_any (w : World) (v lv : Value) (X : Wd) (l : List Mv) (h : RdW w v X) (hm : RdL mvR w lv l) :
    Calls Try.prog 3 #[v, lv] w fun e w' => e = .returned (.bool true) ∧ Below w.heap.size w w' := by
  obtain ⟨cv, fv, q, rfl, hp⟩ := h
  obtain ⟨a, c, rfl⟩ := hp.rows.form
  obtain ⟨fa, fc, rfl⟩ := hp.frs.form
  obtain ⟨la, lc, rfl⟩ := hm.form
  obtain ⟨N, hN⟩ : ∃ N, l.length = N := ⟨_, rfl⟩
  rw [hN] at hm ⊢
  obtain ⟨XS, K, er, HXS⟩ : ∃ z k e, Hid (ruW X l = (z, k, e)) := ⟨_, _, _, Lib.hid rfl⟩
  obtain ⟨W, hW⟩ : ∃ W : World, W = w.alloc (.cells #[.int .i64 X.ds, .slice a q.length c, .slice fa X.fr.length fc] 25) := ⟨_, rfl⟩
  have hB0 : Below w.heap.size w W := by rw [hW]; exact (by repeat (first | assumption | exact Below.refl _ _ | apply Below.al | apply below_drewN | apply Below.drew | refine Below.next ?_ (by assumption)))
  have HX : Hid (BoxN W w.heap.size 25 #[.int .i64 X.ds, .slice a q.length c, .slice fa X.fr.length fc]) := Lib.hid (by rw [hW]; exact BoxN.new w _ _)
  have HRX : Hid (RdW W (.agg #[.int .i64 X.ds, .slice a q.length c, .slice fa X.fr.length fc]) X) := Lib.hid ⟨_, _, _, rfl, hp.keep hB0⟩
  have HRL : Hid (RdL mvR W (.slice la N lc) l) := Lib.hid (hm.keep hB0)
  have HB := Lib.hid hB0
  have HN := Lib.hid hN
  clear hp hB0 hm hN
  go_enter Try.func3, Try.ntmps3
  go_upto_region 1 with fail
  rw [← hW]
  clear hW
  have x0 : World.cell? W ⟨w.heap.size, 0, none⟩ = some (.int .i64 X.ds) := HX.out.cell 0
  have x1 : World.cell? W ⟨w.heap.size, 1, none⟩ = some (.slice a q.length c) := HX.out.cell 1
  have x2 : World.cell? W ⟨w.heap.size, 2, none⟩ = some (.slice fa X.fr.length fc) := HX.out.cell 2
  have hli := light_any W _ X HRX.out
  by_cases hl : lightP X
  · rw [yb hl] at hli
    have HLI := Lib.hid hli
    have HSM := Lib.hid hl.sml
    have HTG := Lib.hid hl.tgb
    clear hli hl
    by_cases h40 : N ≤ 40
    · have d1 : decide ((N : Int) > 40) = false := nb (by omega)
      go_wp2_with fail
      refine HLI.out.mono ?_
      rintro e w1 ⟨rfl, hb1⟩
      clear x0 x1 x2 HLI
      replace HRX := Lib.hid (HRX.out.keep' hb1)
      replace HRL := Lib.hid (HRL.out.keep hb1)
      replace HX := Lib.hid (HX.out.below hb1)
      replace HB := Lib.hid (Below.next HB.out hb1)
      clear hb1
      have x0 : World.cell? w1 ⟨w.heap.size, 0, none⟩ = some (.int .i64 X.ds) := HX.out.cell 0
      have x1 : World.cell? w1 ⟨w.heap.size, 1, none⟩ = some (.slice a q.length c) := HX.out.cell 1
      have x2 : World.cell? w1 ⟨w.heap.size, 2, none⟩ = some (.slice fa X.fr.length fc) := HX.out.cell 2
      have HC2 := Lib.hid (lown_any w1 _ X HSM.out HRX.out)
      go_wp2_with fail
      refine HC2.out.mono ?_
      rintro e v2 ⟨u2, rfl, hu2, hb2⟩
      clear HC2 x0 x1 x2
      replace HRX := Lib.hid (HRX.out.keep' hb2)
      replace HRL := Lib.hid (HRL.out.keep hb2)
      replace HX := Lib.hid (HX.out.below hb2)
      replace HB := Lib.hid (Below.next HB.out hb2)
      have hu2r := hu2.rd
      obtain ⟨cv2, fv2, q2, rfl, hpf2⟩ := hu2
      obtain ⟨a2, c2, rfl⟩ := hpf2.pt.rows.form
      obtain ⟨fa2, fc2, rfl⟩ := hpf2.pt.frs.form
      clear hpf2
      obtain ⟨W2, HN9⟩ : ∃ V : World, Hid (V = (v2).alloc (.cells #[.int .i64 (X).ds, .slice a2 (q2).length c2, .slice fa2 (X).fr.length fc2] 25)) := ⟨_, Lib.hid rfl⟩
      obtain ⟨p2, HPN9⟩ : ∃ p, Hid ((v2).heap.size = p) := ⟨_, Lib.hid rfl⟩
      go_upto_region 4 with fail
      rw [← HN9.out]
      have hn2 : Below (v2).heap.size v2 W2 := by rw [HN9.out]; exact (by repeat (first | assumption | exact Below.refl _ _ | apply Below.al | apply below_drewN | apply Below.drew | refine Below.next ?_ (by assumption)))
      have hx2 : BoxN W2 p2 25 #[.int .i64 (X).ds, .slice a2 (q2).length c2, .slice fa2 (X).fr.length fc2] := by rw [HN9.out, ← HPN9.out]; exact BoxN.new _ _ _
      rw [HPN9.out]
      clear HN9 HPN9
      have HY := Lib.hid hx2
      have HRY : Hid (RdW W2 (.agg #[.int .i64 (X).ds, .slice a2 q2.length c2, .slice fa2 (X).fr.length fc2]) X) := Lib.hid (hu2r.keep' hn2)
      replace HRX := Lib.hid (HRX.out.keep' hn2)
      replace HRL := Lib.hid (HRL.out.keep hn2)
      replace HX := Lib.hid (HX.out.below hn2)
      replace HB := Lib.hid (Below.next HB.out hn2)
      clear hb2 hn2 hx2 hu2r
      have x0 : World.cell? W2 ⟨p2, 0, none⟩ = some (.int .i64 (X).ds) := HY.out.cell 0
      have x1 : World.cell? W2 ⟨p2, 1, none⟩ = some (.slice a2 q2.length c2) := HY.out.cell 1
      have x2 : World.cell? W2 ⟨p2, 2, none⟩ = some (.slice fa2 (X).fr.length fc2) := HY.out.cell 2
      have HC3 := Lib.hid (run_any W2 _ _ X l 20 (by have := HN.out; omega) HTG.out HRY.out HRL.out)
      rw [HXS.out] at HC3
      go_wp2_with fail
      refine HC3.out.mono ?_
      rintro e v3 ⟨u3, rfl, hb3, hu3⟩
      clear HC3 x0 x1 x2
      replace HRX := Lib.hid (HRX.out.keep' hb3)
      replace HRL := Lib.hid (HRL.out.keep hb3)
      replace HRY := Lib.hid (HRY.out.keep' hb3)
      replace HX := Lib.hid (HX.out.below hb3)
      replace HY := Lib.hid (HY.out.below hb3)
      replace HB := Lib.hid (Below.next HB.out hb3)
      have hu3r := hu3.rd
      obtain ⟨cv3, fv3, q3, rfl, hpf3⟩ := hu3
      obtain ⟨a3, c3, rfl⟩ := hpf3.pt.rows.form
      obtain ⟨fa3, fc3, rfl⟩ := hpf3.pt.frs.form
      clear hpf3
      obtain ⟨W3, HN9⟩ : ∃ V : World, Hid (V = (v3).alloc (.cells #[.int .i64 (XS).ds, .slice a3 (q3).length c3, .slice fa3 (XS).fr.length fc3] 25)) := ⟨_, Lib.hid rfl⟩
      obtain ⟨p3, HPN9⟩ : ∃ p, Hid ((v3).heap.size = p) := ⟨_, Lib.hid rfl⟩
      go_upto_region 5 with fail
      rw [← HN9.out]
      have hn3 : Below (v3).heap.size v3 W3 := by rw [HN9.out]; exact (by repeat (first | assumption | exact Below.refl _ _ | apply Below.al | apply below_drewN | apply Below.drew | refine Below.next ?_ (by assumption)))
      have hx3 : BoxN W3 p3 25 #[.int .i64 (XS).ds, .slice a3 (q3).length c3, .slice fa3 (XS).fr.length fc3] := by rw [HN9.out, ← HPN9.out]; exact BoxN.new _ _ _
      rw [HPN9.out]
      clear HN9 HPN9
      have HBA := Lib.hid hx3
      have HRA : Hid (RdW W3 (.agg #[.int .i64 (XS).ds, .slice a3 q3.length c3, .slice fa3 (XS).fr.length fc3]) XS) := Lib.hid (hu3r.keep' hn3)
      replace HRX := Lib.hid (HRX.out.keep' hn3)
      replace HRL := Lib.hid (HRL.out.keep hn3)
      replace HRY := Lib.hid (HRY.out.keep' hn3)
      replace HX := Lib.hid (HX.out.below hn3)
      replace HY := Lib.hid (HY.out.below hn3)
      replace HB := Lib.hid (Below.next HB.out hn3)
      clear hb3 hn3 hx3 hu3r
      have x0 : World.cell? W3 ⟨w.heap.size, 0, none⟩ = some (.int .i64 X.ds) := HX.out.cell 0
      have x1 : World.cell? W3 ⟨w.heap.size, 1, none⟩ = some (.slice a q.length c) := HX.out.cell 1
      have x2 : World.cell? W3 ⟨w.heap.size, 2, none⟩ = some (.slice fa X.fr.length fc) := HX.out.cell 2
      have HC4 := Lib.hid (rrun_any W3 _ _ X l 20 (by have := HN.out; omega) HTG.out HRX.out HRL.out)
      rw [HXS.out] at HC4
      go_wp2_with fail
      refine HC4.out.mono ?_
      rintro e v4 ⟨u4, rfl, hb4, hu4⟩
      clear HC4 x0 x1 x2
      replace HRX := Lib.hid (HRX.out.keep' hb4)
      replace HRL := Lib.hid (HRL.out.keep hb4)
      replace HRY := Lib.hid (HRY.out.keep' hb4)
      replace HRA := Lib.hid (HRA.out.keep' hb4)
      replace HX := Lib.hid (HX.out.below hb4)
      replace HY := Lib.hid (HY.out.below hb4)
      replace HBA := Lib.hid (HBA.out.below hb4)
      replace HB := Lib.hid (Below.next HB.out hb4)
      have hu4r := hu4.rd
      obtain ⟨cv4, fv4, q4, rfl, hpf4⟩ := hu4
      obtain ⟨a4, c4, rfl⟩ := hpf4.pt.rows.form
      obtain ⟨fa4, fc4, rfl⟩ := hpf4.pt.frs.form
      clear hpf4
      obtain ⟨W4, HN9⟩ : ∃ V : World, Hid (V = (v4).alloc (.cells #[.int .i64 (XS).ds, .slice a4 (q4).length c4, .slice fa4 (XS).fr.length fc4] 25)) := ⟨_, Lib.hid rfl⟩
      obtain ⟨p4, HPN9⟩ : ∃ p, Hid ((v4).heap.size = p) := ⟨_, Lib.hid rfl⟩
      go_upto_region 6 with fail
      rw [← HN9.out]
      have hn4 : Below (v4).heap.size v4 W4 := by rw [HN9.out]; exact (by repeat (first | assumption | exact Below.refl _ _ | apply Below.al | apply below_drewN | apply Below.drew | refine Below.next ?_ (by assumption)))
      have hx4 : BoxN W4 p4 25 #[.int .i64 (XS).ds, .slice a4 (q4).length c4, .slice fa4 (XS).fr.length fc4] := by rw [HN9.out, ← HPN9.out]; exact BoxN.new _ _ _
      rw [HPN9.out]
      clear HN9 HPN9
      have HBB := Lib.hid hx4
      have HRB : Hid (RdW W4 (.agg #[.int .i64 (XS).ds, .slice a4 q4.length c4, .slice fa4 (XS).fr.length fc4]) XS) := Lib.hid (hu4r.keep' hn4)
      replace HRX := Lib.hid (HRX.out.keep' hn4)
      replace HRL := Lib.hid (HRL.out.keep hn4)
      replace HRY := Lib.hid (HRY.out.keep' hn4)
      replace HRA := Lib.hid (HRA.out.keep' hn4)
      replace HX := Lib.hid (HX.out.below hn4)
      replace HY := Lib.hid (HY.out.below hn4)
      replace HBA := Lib.hid (HBA.out.below hn4)
      replace HB := Lib.hid (Below.next HB.out hn4)
      clear hb4 hn4 hx4 hu4r
      have s0 : World.cell? W4 ⟨p3, 0, none⟩ = some (.int .i64 (XS).ds) := HBA.out.cell 0
      have s1 : World.cell? W4 ⟨p3, 1, none⟩ = some (.slice a3 q3.length c3) := HBA.out.cell 1
      have s2 : World.cell? W4 ⟨p3, 2, none⟩ = some (.slice fa3 (XS).fr.length fc3) := HBA.out.cell 2
      have t0 : World.cell? W4 ⟨p4, 0, none⟩ = some (.int .i64 (XS).ds) := HBB.out.cell 0
      have t1 : World.cell? W4 ⟨p4, 1, none⟩ = some (.slice a4 q4.length c4) := HBB.out.cell 1
      have t2 : World.cell? W4 ⟨p4, 2, none⟩ = some (.slice fa4 (XS).fr.length fc4) := HBB.out.cell 2
      have HC7 := Lib.hid (same_eq _ _ XS W4 HRA.out HRB.out)
      go_wp2_with fail
      refine HC7.out.mono ?_
      rintro e v7 ⟨rfl, hb7⟩
      clear HC7 s0 s1 s2 t0 t1 t2
      replace HRX := Lib.hid (HRX.out.keep' hb7)
      replace HRL := Lib.hid (HRL.out.keep hb7)
      replace HRY := Lib.hid (HRY.out.keep' hb7)
      replace HRA := Lib.hid (HRA.out.keep' hb7)
      replace HRB := Lib.hid (HRB.out.keep' hb7)
      replace HX := Lib.hid (HX.out.below hb7)
      replace HY := Lib.hid (HY.out.below hb7)
      replace HBA := Lib.hid (HBA.out.below hb7)
      replace HBB := Lib.hid (HBB.out.below hb7)
      replace HB := Lib.hid (Below.next HB.out hb7)
      clear hb7
      have s0 : World.cell? v7 ⟨p2, 0, none⟩ = some (.int .i64 (X).ds) := HY.out.cell 0
      have s1 : World.cell? v7 ⟨p2, 1, none⟩ = some (.slice a2 q2.length c2) := HY.out.cell 1
      have s2 : World.cell? v7 ⟨p2, 2, none⟩ = some (.slice fa2 (X).fr.length fc2) := HY.out.cell 2
      have t0 : World.cell? v7 ⟨w.heap.size, 0, none⟩ = some (.int .i64 X.ds) := HX.out.cell 0
      have t1 : World.cell? v7 ⟨w.heap.size, 1, none⟩ = some (.slice a q.length c) := HX.out.cell 1
      have t2 : World.cell? v7 ⟨w.heap.size, 2, none⟩ = some (.slice fa X.fr.length fc) := HX.out.cell 2
      have HC9 := Lib.hid (same_eq _ _ X v7 HRY.out HRX.out)
      go_wp2_with fail
      refine HC9.out.mono ?_
      rintro e v9 ⟨rfl, hb9⟩
      clear HC9 s0 s1 s2 t0 t1 t2
      replace HRX := Lib.hid (HRX.out.keep' hb9)
      replace HRL := Lib.hid (HRL.out.keep hb9)
      replace HRY := Lib.hid (HRY.out.keep' hb9)
      replace HRA := Lib.hid (HRA.out.keep' hb9)
      replace HRB := Lib.hid (HRB.out.keep' hb9)
      replace HX := Lib.hid (HX.out.below hb9)
      replace HY := Lib.hid (HY.out.below hb9)
      replace HBA := Lib.hid (HBA.out.below hb9)
      replace HBB := Lib.hid (HBB.out.below hb9)
      replace HB := Lib.hid (Below.next HB.out hb9)
      clear hb9
      go_wp2_with fail
      refine (awake_any v9).mono ?_
      rintro e v10 ⟨rfl, hb10⟩
      go_wp2_with fail
      go_ret
      exact ⟨rfl, Below.next HB.out hb10⟩
    · have d1 : decide ((N : Int) > 40) = true := yb (by omega)
      go_wp2_with fail
      refine HLI.out.mono ?_
      rintro e w1 ⟨rfl, hb1⟩
      go_wp2_with fail
      refine (awake_any w1).mono ?_
      rintro e w2 ⟨rfl, hb2⟩
      go_wp2_with fail
      go_ret
      exact ⟨rfl, Below.next (Below.next HB.out hb1) hb2⟩
  · rw [nb hl] at hli
    have HLI := Lib.hid hli
    clear hli hl
    go_wp2_with fail
    refine HLI.out.mono ?_
    rintro e w1 ⟨rfl, hb1⟩
    go_wp2_with fail
    refine (awake_any w1).mono ?_
    rintro e w2 ⟨rfl, hb2⟩
    go_wp2_with fail
    go_ret
    exact ⟨rfl, Below.next (Below.next HB.out hb1) hb2⟩

end Go.Proofs.Ytnkpjfogjkjcfaa
