/- The chapter's examples, plainly. awake, in the law. ModelKnown, in the law. -/
import Derived.Test.YtcjlbpndgjapiaaDoorZs
import Derived.Test.YtcjlbpndgjapiaaDoorZz
import Derived.Test.YtcjlbpndgjapiaaDoorZi
namespace Go.Proofs.YtcjlbpndgjapiaaDoor
open Go.RowKit
set_option linter.unusedSimpArgs false
set_option linter.unusedVariables false
set_option maxRecDepth 100000

def lostL : List Oc := [ox 5 1 1 0, ox 6 2 6 1, ox 6 1 7 2, ox 7 2 7 1]
def overL : List Oc := [ox 5 1 1 0, ox 15 1 9 0]
def othL : List Oc := [⟨3, 4, 11, i0, 2⟩, ⟨5, 1, 4, ⟨9, 9, 0⟩, 0⟩]
instance (i : Idn) : Decidable (IdW i) := by unfold IdW Ib Ub; infer_instance
instance (o : Oc) : Decidable (OcW o) := by unfold OcW Ib; infer_instance
theorem way_ok : ∀ o, o ∈ wayL → OcW o := by decide +kernel
theorem lostL_ok : ∀ o, o ∈ lostL → OcW o := by decide +kernel
theorem overL_ok : ∀ o, o ∈ overL → OcW o := by decide +kernel
theorem othL_ok : ∀ o, o ∈ othL → OcW o := by decide +kernel
theorem ex_fate : fatE [bx] wayL = 0 := by decide +kernel
theorem ex_del : deV [bx] wayL = [bx.id] := by decide +kernel
theorem ex_cop : cpV [bx] wayL bx.id = 2 ∧ ofE [bx] wayL bx.id = 0 := by decide +kernel
theorem ex_hol : hoV [bx] (wayL.take 2) bx.id = [1, 2] ∧ ofE [bx] (wayL.take 2) bx.id = 0 := by decide +kernel
theorem ex_nxt : nxtV [bx] (wayL.take 4) (ox 9 2 7 3) = (true, 0) := by decide +kernel
theorem ex_los : loV [bx] lostL = [bx.id] ∧ fatE [bx] lostL = 0 := by decide +kernel
theorem ex_chk : (chkW [bx]).1 = 0 := by decide +kernel
theorem ex_all : (decide ((allV [bx] wayL).2 = 0) && decide ((allV [bx] wayL).1 = 5)) = true := by decide +kernel
theorem ex_hol2 : hoV [bx] wayL bx.id = [] ∧ ofE [bx] wayL bx.id = 0 := by decide +kernel
theorem ex_los2 : loV [bx] wayL = [] := by decide +kernel
theorem ex_hol3 : hoV [bx] overL bx.id = [] ∧ ofE [bx] overL bx.id = 0 := by decide +kernel
theorem ex_hol4 : hoV [bx] othL bx.id = [] ∧ ofE [bx] othL bx.id = 0 := by decide +kernel
theorem ex_a0 : (decide ((allV [bx] [ox 6 1 1 0]).2 = 0) && decide ((allV [bx] [ox 6 1 1 0]).1 = 0)) = true := by decide +kernel
theorem ex_a1 : (decide ((allV [bx] [ox 5 1 1 0, ox 6 2 6 3]).2 = 0) && decide ((allV [bx] [ox 5 1 1 0, ox 6 2 6 3]).1 = 1)) = true := by decide +kernel
theorem ex_a2 : (decide ((allV [bx] [ox 5 1 1 0, ox 14 1 9 0, ox 15 1 9 0]).2 = 0) && decide ((allV [bx] [ox 5 1 1 0, ox 14 1 9 0, ox 15 1 9 0]).1 = 1)) = true := by decide +kernel
theorem ex_a3 : (decide ((allV [bx] [ox 5 1 1 0, ox 15 3 8 0]).2 = 0) && decide ((allV [bx] [ox 5 1 1 0, ox 15 3 8 0]).1 = 1)) = true := by decide +kernel
theorem ex_a4 : (decide ((allV [bx] overL).2 = 0) && decide ((allV [bx] overL).1 = 2)) = true := by decide +kernel
theorem ex_a5 : (decide ((allV [bx] othL).2 = 0) && decide ((allV [bx] othL).1 = 2)) = true := by decide +kernel
theorem ox_ok (t n k o : Int) (h1 : Ib t) (h2 : Ib n) (h3 : Ib k) (h4 : Ib o) : OcW (ox t n k o) := ⟨h1, h2, h3, by show IdW ⟨1, 7, 0⟩; decide, h4⟩
/-- a list literal of numbers reads as what it says -/
theorem rdi_new (k : IntKind) (W : World) (T : TypeId) (l : List Int) (A : Array Value) (hA : A = (ic k l).toArray) (n : Nat) (hn : l.length = n) (hm : n ≤ 1000) : RdI k (W.alloc (.cells A T)) (.slice (some ⟨W.heap.size, 0, none⟩) n n) l := by
  subst hA
  subst hn
  refine ⟨by simp, by unfold maxLen; omega, .inr ⟨W.heap.size, 0, l.length, rfl, Nat.le_refl _, fun j u hj => ?_⟩⟩
  have := (BoxN.new W T (ic k l).toArray).cell j
  rw [Nat.zero_add, this]
  simpa using hj
theorem wp_name {P : Program} {Q : Exit → Act → World → Prop} {c : Code} {a : Act} {w : World} (h : ∀ V, V = w → c.wp P Q a V) : c.wp P Q a w := h w rfl
/-- a part of a trace -/
theorem RdO.take {w : World} {g n c k : Nat} {l : List Oc} (h : RdO w (.slice (some ⟨g, 0, none⟩) n c) l) (hn : l.length = n) (hk : k ≤ n) : RdO w (.slice (some ⟨g, 0, none⟩) k c) (l.take k) := by
  have hlk : (l.take k).length = k := by rw [List.length_take]; omega
  obtain ⟨h1, h0, h2⟩ := h
  refine ⟨by rw [rcs_length, hlk], by omega, ?_⟩
  rw [hlk]
  rcases h2 with ⟨h3, a, cap, hv, _⟩ | ⟨b, off, cap, hv, hc, hr⟩
  · simp only [Value.slice.injEq] at hv
    obtain ⟨_, e, rfl⟩ := hv
    exact .inl ⟨by omega, _, _, by rw [show k = 0 by omega], fun h => by cases h⟩
  · simp only [Value.slice.injEq] at hv
    obtain ⟨e, _, rfl⟩ := hv
    refine .inr ⟨b, off, c, by rw [e], by omega, fun j u hj => hr j u ?_⟩
    rw [← rcs_take, List.getElem?_take] at hj
    split at hj
    · exact hj
    · cases hj
end Go.Proofs.YtcjlbpndgjapiaaDoor
namespace Go.Proofs.YtcjlbpndgjapiaaDoor
open Go.RowKit
set_option linter.unusedSimpArgs false
set_option linter.unusedVariables false
set_option maxRecDepth 100000

set_option maxHeartbeats 4000000 in
theorem awake_any (w : World) (hsd : SD w) (hfc : FC w) : Calls Tryd.prog 10 #[] w fun e w' => e = .returned (.bool true) ∧ Below w.heap.size w w' := by
  have HSD := Lib.hid hsd
  have HFC := Lib.hid hfc
  have HX := Lib.hid x_any
  have HWY := Lib.hid way_any
  have HO := Lib.hid out_any
  have hfl : ∀ w', (Instr.field 41 bx.v 0).run Tryd.prog w' = .ok (.agg #[.int .i64 1, .int .u64 7, .int .i64 0]) w' := fun _ => by kernel_rfl
  have hiw : IdW bx.id := by decide
  have HIW := Lib.hid hiw
  clear hsd hfc hiw
  go_enter Tryd.func10, Tryd.ntmps10
  go_wp2_with fail
  refine (HX.out _).mono ?_
  rintro e w1 ⟨rfl, hb1⟩
  go_upto_region 2 with fail
  refine wp_name ?_
  intro V hV
  have HB : Hid (Below w.heap.size w V) := Lib.hid (by rw [hV]; exact Below.al hb1 _)
  have hv : RdB V (.slice (some ⟨w1.heap.size, 0, none⟩) 1 1) [bx] := by rw [hV]; exact rdl_new bdR w1 _ [bx] _ (by kernel_rfl) 1 rfl (by decide)
  obtain ⟨q, hq⟩ : ∃ q, w1.heap.size = q := ⟨_, rfl⟩
  rw [hq] at hv ⊢
  have HV := Lib.hid hv
  clear hv hq hV hb1
  -- Delivered
  go_wp2_with fail
  refine (HWY.out _).mono ?_
  rintro e w2 ⟨g2, rfl, hr, hb⟩
  replace HB := Lib.hid (Below.next HB.out hb)
  replace HV := Lib.hid (HV.out.keep hb)
  have HC := Lib.hid (delivered_any _ _ [bx] wayL w2 (show Wd w2 (.slice (some ⟨q, 0, none⟩) 1 1) _ [bx] wayL from ⟨bx_w, way_ok, HV.out, hr, HSD.out.keep HB.out, HFC.out.keep HB.out⟩))
  rw [ex_fate, ex_del] at HC
  clear hr hb
  go_wp2_with fail
  refine HC.out.mono ?_
  rintro e w3 ⟨x3, rfl, hr, hb⟩
  obtain ⟨a3, c3, hx3⟩ := hr.form
  replace hx3 : x3 = .slice a3 1 c3 := hx3
  subst hx3
  replace HB := Lib.hid (Below.next HB.out hb)
  replace HV := Lib.hid (HV.out.keep hb)
  have HD := Lib.hid hr
  clear hr hb HC
  -- Copies
  go_wp2_with fail
  refine (HWY.out _).mono ?_
  rintro e w4 ⟨g4, rfl, hr, hb⟩
  replace HB := Lib.hid (Below.next HB.out hb)
  replace HV := Lib.hid (HV.out.keep hb)
  replace HD := Lib.hid (HD.out.keep hb)
  have HR := Lib.hid hr
  clear hr hb
  go_wp2_with fail
  refine (HX.out _).mono ?_
  rintro e w5 ⟨rfl, hb⟩
  replace HB := Lib.hid (Below.next HB.out hb)
  replace HV := Lib.hid (HV.out.keep hb)
  replace HD := Lib.hid (HD.out.keep hb)
  replace HR := Lib.hid (HR.out.keep hb)
  have HC := Lib.hid (copies_any _ _ [bx] wayL bx.id HIW.out w5 (show Wd w5 (.slice (some ⟨q, 0, none⟩) 1 1) _ [bx] wayL from ⟨bx_w, way_ok, HV.out, HR.out, HSD.out.keep HB.out, HFC.out.keep HB.out⟩))
  rw [ex_cop.1, ex_cop.2] at HC
  clear hb HR
  go_wp2_with fail
  refine HC.out.mono ?_
  rintro e w6 ⟨rfl, hb⟩
  replace HB := Lib.hid (Below.next HB.out hb)
  replace HV := Lib.hid (HV.out.keep hb)
  replace HD := Lib.hid (HD.out.keep hb)
  clear hb HC
  go_upto_region 4 with fail
  -- Holders
  refine wp_region_noPanic ?_
  refine wp_region_held_drew (S := (fun w' => Below w6.heap.size w6 w')) (by kernel_rfl) (Below.refl _ w6).drew (fun hHeld => ?_)
  refine reg_tk (v := ?_) 0 31 rfl rfl (by kernel_rfl) (by kernel_rfl) (by kernel_rfl) (fun _ _ _ h => h) (by rfl) ?_ (by assumption) ?_
  rotate_left
  · (intro w hSw; (try dsimp only at hSw); go_simp; (try with_reducible rfl))
  simp only [List.setIfInBounds_toArray, List.set_cons_zero, List.set_cons_succ]
  refine wpAnyH_ready (rs := [1]) (by kernel_rfl) (by simp) ?_
  refine AllReadyH.cons rfl (fun K hK => ?_) AllReadyH.nil
  go_simp
  refine (HWY.out _).mono ?_
  rintro e w7 ⟨g7, rfl, hr, hb⟩
  have hb2 := Below.next hHeld hb
  refine hK.out _ _ hb2 (fun hHeld2 => ?_)
  clear hK K hHeld
  have hHeld := hHeld2
  clear hHeld2
  try simp only [Act.put, List.setIfInBounds_toArray, List.set_cons_zero, List.set_cons_succ]
  have HR := Lib.hid (RdO.take (k := 2) hr rfl (by decide))
  clear hb hr hb2
  refine reg_tk (v := ?_) 2 33 rfl rfl (by kernel_rfl) (by kernel_rfl) (by kernel_rfl) (fun _ _ _ h => h) (by rfl) ?_ (by assumption) ?_
  rotate_left
  · (intro w hSw; (try dsimp only at hSw); go_simp; (try with_reducible rfl))
  simp only [List.setIfInBounds_toArray, List.set_cons_zero, List.set_cons_succ]
  refine wpAnyH_ready (rs := [3]) (by kernel_rfl) (by simp) ?_
  refine AllReadyH.cons rfl (fun K hK => ?_) AllReadyH.nil
  go_simp
  refine (HX.out _).mono ?_
  rintro e w8 ⟨rfl, hb⟩
  have hb2 := Below.next hHeld hb
  refine hK.out _ _ hb2 (fun hHeld2 => ?_)
  clear hK K hHeld
  have hHeld := hHeld2
  clear hHeld2
  try simp only [Act.put, List.setIfInBounds_toArray, List.set_cons_zero, List.set_cons_succ]
  replace HR := Lib.hid (HR.out.keep hb)
  clear hb hb2
  refine reg_tk (v := ?_) 4 35 rfl rfl (by kernel_rfl) (by kernel_rfl) (by kernel_rfl) (fun _ _ _ h => h) (by rfl) ?_ (by assumption) ?_
  rotate_left
  · (intro w hSw; (try dsimp only at hSw); go_simp; (try with_reducible rfl))
  simp only [List.setIfInBounds_toArray, List.set_cons_zero, List.set_cons_succ]
  have HB8 := Lib.hid (Below.next HB.out hHeld)
  have HV8 := Lib.hid (HV.out.keep hHeld)
  have HC := Lib.hid (holders_any _ _ [bx] (wayL.take 2) bx.id HIW.out w8 ⟨bx_w, fun o ho => way_ok o (List.mem_of_mem_take ho), HV8.out, HR.out, HSD.out.keep HB8.out, HFC.out.keep HB8.out⟩)
  rw [ex_hol.1, ex_hol.2] at HC
  refine wpAnyH_ready (rs := [5]) (by kernel_rfl) (by simp) ?_
  refine AllReadyH.cons rfl (fun K hK => ?_) AllReadyH.nil
  go_simp
  refine HC.out.mono ?_
  rintro e w9 ⟨x9, rfl, hr, hb⟩
  obtain ⟨a9, c9, hx9⟩ := hr.form
  replace hx9 : x9 = .slice a9 2 c9 := hx9
  subst hx9
  have hb2 := Below.next hHeld hb
  refine hK.out _ _ hb2 (fun hHeld2 => ?_)
  clear hK K hHeld
  have hHeld := hHeld2
  clear hHeld2
  try simp only [Act.put, List.setIfInBounds_toArray, List.set_cons_zero, List.set_cons_succ]
  have HH := Lib.hid hr
  clear hb hb2 hr HC HR HB8 HV8
  refine reg_tk (v := ?_) 6 30 rfl rfl (by kernel_rfl) (by kernel_rfl) (by kernel_rfl) (fun _ _ _ h => h) (by rfl) ?_ (by assumption) ?_
  rotate_left
  · (intro w hSw; (try dsimp only at hSw); go_simp; (try with_reducible rfl))
  simp only [List.setIfInBounds_toArray, List.set_cons_zero, List.set_cons_succ]
  refine reg_tk (v := ?_) 7 37 rfl rfl (by kernel_rfl) (by kernel_rfl) (by kernel_rfl) (fun _ _ _ h => h) (by rfl) ?_ (by assumption) ?_
  rotate_left
  · (intro w hSw; (try dsimp only at hSw); go_simp; (try with_reducible rfl))
  simp only [List.setIfInBounds_toArray, List.set_cons_zero, List.set_cons_succ]
  refine reg_tk (v := ?_) 8 38 rfl rfl (by kernel_rfl) (by kernel_rfl) (by kernel_rfl) (fun _ _ _ h => h) (by rfl) ?_ (by assumption) ?_
  rotate_left
  · (intro w hSw; (try dsimp only at hSw); go_simp; (try with_reducible rfl))
  simp only [List.setIfInBounds_toArray, List.set_cons_zero, List.set_cons_succ]
  refine reg_tk (v := ?_) 9 6 rfl rfl (by kernel_rfl) (by kernel_rfl) (by kernel_rfl) (fun _ _ _ h => h) (by rfl) ?_ (by assumption) ?_
  rotate_left
  · (intro w hSw; (try dsimp only at hSw); go_simp; (try with_reducible rfl))
  simp only [List.setIfInBounds_toArray, List.set_cons_zero, List.set_cons_succ]
  refine reg_tk (v := ?_) 10 7 rfl rfl (by kernel_rfl) (by kernel_rfl) (by kernel_rfl) (fun _ _ _ h => h) (by rfl) ?_ (by assumption) ?_
  rotate_left
  · (intro w hSw; (try dsimp only at hSw); go_simp; (try with_reducible rfl))
  simp only [List.setIfInBounds_toArray, List.set_cons_zero, List.set_cons_succ]
  refine wpAnyH_done (by kernel_rfl) ?_ _
  refine NoPanic.normal ?_
  replace HD := Lib.hid (HD.out.keep hHeld)
  replace HB := Lib.hid (Below.next HB.out hHeld)
  replace HV := Lib.hid (HV.out.keep hHeld)
  clear hHeld
  go_upto_region 5 with fail
  -- Next
  refine wp_region_noPanic ?_
  refine wp_region_held_drew (S := (fun w' => Below w9.heap.size w9 w')) (by kernel_rfl) (Below.refl _ w9).drew (fun hHeld => ?_)
  refine reg_tk (v := ?_) 0 40 rfl rfl (by kernel_rfl) (by kernel_rfl) (by kernel_rfl) (fun _ _ _ h => h) (by rfl) ?_ (by assumption) ?_
  rotate_left
  · (intro w hSw; (try dsimp only at hSw); go_simp; (try with_reducible rfl))
  simp only [List.setIfInBounds_toArray, List.set_cons_zero, List.set_cons_succ]
  refine wpAnyH_ready (rs := [1]) (by kernel_rfl) (by simp) ?_
  refine AllReadyH.cons rfl (fun K hK => ?_) AllReadyH.nil
  go_simp
  refine (HWY.out _).mono ?_
  rintro e w10 ⟨g10, rfl, hr, hb⟩
  have hb2 := Below.next hHeld hb
  refine hK.out _ _ hb2 (fun hHeld2 => ?_)
  clear hK K hHeld
  have hHeld := hHeld2
  clear hHeld2
  try simp only [Act.put, List.setIfInBounds_toArray, List.set_cons_zero, List.set_cons_succ]
  have HR := Lib.hid (RdO.take (k := 4) hr rfl (by decide))
  clear hb hr hb2
  refine reg_tk (v := ?_) 2 42 rfl rfl (by kernel_rfl) (by kernel_rfl) (by kernel_rfl) (fun _ _ _ h => h) (by rfl) ?_ (by assumption) ?_
  rotate_left
  · (intro w hSw; (try dsimp only at hSw); go_simp; (try with_reducible rfl))
  simp only [List.setIfInBounds_toArray, List.set_cons_zero, List.set_cons_succ]
  refine wpAnyH_ready (rs := [3]) (by kernel_rfl) (by simp) ?_
  refine AllReadyH.cons rfl (fun K hK => ?_) AllReadyH.nil
  go_simp
  refine (HWY.out _).mono ?_
  rintro e w11 ⟨g11, rfl, hr, hb⟩
  have hb2 := Below.next hHeld hb
  refine hK.out _ _ hb2 (fun hHeld2 => ?_)
  clear hK K hHeld
  have hHeld := hHeld2
  clear hHeld2
  try simp only [Act.put, List.setIfInBounds_toArray, List.set_cons_zero, List.set_cons_succ]
  replace HR := Lib.hid (HR.out.keep hb)
  obtain ⟨b1, o1, hbo, _, p0, p1, p2, p3, p4, p5, p6⟩ := RdO.at hr (show wayL.length = 5 from rfl) 4 (by decide)
  have HRW := Lib.hid hr
  clear hb hb2 hr
  simp only [Option.some.injEq, Addr.mk.injEq] at hbo
  obtain ⟨hb1, ho1, _⟩ := hbo
  subst hb1 ho1
  replace p0 : w11.cell? ⟨g11, 28, none⟩ = some (.int .i64 9) := p0
  replace p1 : w11.cell? ⟨g11, 29, none⟩ = some (.int .i64 2) := p1
  replace p2 : w11.cell? ⟨g11, 30, none⟩ = some (.int .i64 7) := p2
  replace p3 : w11.cell? ⟨g11, 31, none⟩ = some (.int .i64 1) := p3
  replace p4 : w11.cell? ⟨g11, 32, none⟩ = some (.int .u64 7) := p4
  replace p5 : w11.cell? ⟨g11, 33, none⟩ = some (.int .i64 0) := p5
  replace p6 : w11.cell? ⟨g11, 34, none⟩ = some (.int .i64 3) := p6
  refine reg_tk (v := ?_) 4 44 rfl rfl (by kernel_rfl) (by kernel_rfl) (by kernel_rfl) (fun _ _ _ h => h) (by rfl) ?_ (by assumption) ?_
  rotate_left
  · (intro w hSw; (try dsimp only at hSw); go_simp; (try with_reducible rfl))
  simp only [List.setIfInBounds_toArray, List.set_cons_zero, List.set_cons_succ]
  refine wpAnyH_ready (rs := [5]) (by kernel_rfl) (by simp) ?_
  refine AllReadyH.cons rfl (fun K hK => ?_) AllReadyH.nil
  go_simp
  refine hK.out _ _ hHeld (fun hHeld2 => ?_)
  clear hK K hHeld
  have hHeld := hHeld2
  clear hHeld2
  try simp only [Act.put, List.setIfInBounds_toArray, List.set_cons_zero, List.set_cons_succ]
  have HB8 := Lib.hid (Below.next HB.out hHeld)
  have HV8 := Lib.hid (HV.out.keep hHeld)
  have HC := Lib.hid (next_any _ _ [bx] (wayL.take 4) (ox 9 2 7 3) (ox_ok 9 2 7 3 (by decide) (by decide) (by decide) (by decide)) w11 ⟨bx_w, fun o ho => way_ok o (List.mem_of_mem_take ho), HV8.out, HR.out, HSD.out.keep HB8.out, HFC.out.keep HB8.out⟩)
  unfold NxR at HC
  rw [ex_nxt] at HC
  clear p0 p1 p2 p3 p4 p5 p6
  refine wpAnyH_ready (rs := [6]) (by kernel_rfl) (by simp) ?_
  refine AllReadyH.cons rfl (fun K hK => ?_) AllReadyH.nil
  go_simp
  refine HC.out.mono ?_
  rintro e w12 ⟨rfl, hb⟩
  have hb2 := Below.next hHeld hb
  refine hK.out _ _ hb2 (fun hHeld2 => ?_)
  clear hK K hHeld
  have hHeld := hHeld2
  clear hHeld2
  try simp only [Act.put, List.setIfInBounds_toArray, List.set_cons_zero, List.set_cons_succ]
  clear hb hb2 HC HR HB8 HV8 HRW
  refine reg_tk (v := ?_) 7 39 rfl rfl (by kernel_rfl) (by kernel_rfl) (by kernel_rfl) (fun _ _ _ h => h) (by rfl) ?_ (by assumption) ?_
  rotate_left
  · (intro w hSw; (try dsimp only at hSw); go_simp; (try with_reducible rfl))
  simp only [List.setIfInBounds_toArray, List.set_cons_zero, List.set_cons_succ]
  refine reg_tk (v := ?_) 8 47 rfl rfl (by kernel_rfl) (by kernel_rfl) (by kernel_rfl) (fun _ _ _ h => h) (by rfl) ?_ (by assumption) ?_
  rotate_left
  · (intro w hSw; (try dsimp only at hSw); go_simp; (try with_reducible rfl))
  simp only [List.setIfInBounds_toArray, List.set_cons_zero, List.set_cons_succ]
  refine reg_tk (v := ?_) 9 48 rfl rfl (by kernel_rfl) (by kernel_rfl) (by kernel_rfl) (fun _ _ _ h => h) (by rfl) ?_ (by assumption) ?_
  rotate_left
  · (intro w hSw; (try dsimp only at hSw); go_simp; (try with_reducible rfl))
  simp only [List.setIfInBounds_toArray, List.set_cons_zero, List.set_cons_succ]
  refine reg_tk (v := ?_) 10 8 rfl rfl (by kernel_rfl) (by kernel_rfl) (by kernel_rfl) (fun _ _ _ h => h) (by rfl) ?_ (by assumption) ?_
  rotate_left
  · (intro w hSw; (try dsimp only at hSw); go_simp; (try with_reducible rfl))
  simp only [List.setIfInBounds_toArray, List.set_cons_zero, List.set_cons_succ]
  refine reg_tk (v := ?_) 11 9 rfl rfl (by kernel_rfl) (by kernel_rfl) (by kernel_rfl) (fun _ _ _ h => h) (by rfl) ?_ (by assumption) ?_
  rotate_left
  · (intro w hSw; (try dsimp only at hSw); go_simp; (try with_reducible rfl))
  simp only [List.setIfInBounds_toArray, List.set_cons_zero, List.set_cons_succ]
  refine wpAnyH_done (by kernel_rfl) ?_ _
  refine NoPanic.normal ?_
  replace HD := Lib.hid (HD.out.keep hHeld)
  replace HH := Lib.hid (HH.out.keep hHeld)
  replace HB := Lib.hid (Below.next HB.out hHeld)
  replace HV := Lib.hid (HV.out.keep hHeld)
  clear hHeld
  -- Lost
  go_wp2_with fail
  refine (HO.out 5 1 1 0 _).mono ?_
  rintro e w13 ⟨rfl, hb⟩
  replace HB := Lib.hid (Below.next HB.out hb)
  replace HV := Lib.hid (HV.out.keep hb)
  replace HD := Lib.hid (HD.out.keep hb)
  replace HH := Lib.hid (HH.out.keep hb)
  clear hb
  go_wp2_with fail
  refine (HO.out 6 2 6 1 _).mono ?_
  rintro e w14 ⟨rfl, hb⟩
  replace HB := Lib.hid (Below.next HB.out hb)
  replace HV := Lib.hid (HV.out.keep hb)
  replace HD := Lib.hid (HD.out.keep hb)
  replace HH := Lib.hid (HH.out.keep hb)
  clear hb
  go_wp2_with fail
  refine (HO.out 6 1 7 2 _).mono ?_
  rintro e w15 ⟨rfl, hb⟩
  replace HB := Lib.hid (Below.next HB.out hb)
  replace HV := Lib.hid (HV.out.keep hb)
  replace HD := Lib.hid (HD.out.keep hb)
  replace HH := Lib.hid (HH.out.keep hb)
  clear hb
  go_wp2_with fail
  refine (HO.out 7 2 7 1 _).mono ?_
  rintro e w16 ⟨rfl, hb⟩
  replace HB := Lib.hid (Below.next HB.out hb)
  replace HV := Lib.hid (HV.out.keep hb)
  replace HD := Lib.hid (HD.out.keep hb)
  replace HH := Lib.hid (HH.out.keep hb)
  clear hb
  have HLT : Hid (∀ W : World, ∀ A : Array Value, A = (rcs ocR lostL).toArray → Below w.heap.size w (w16.alloc (.cells A 28)) → Calls Tryd.prog 24 #[.slice (some ⟨q, 0, none⟩) 1 1, .slice (some ⟨w16.heap.size, 0, none⟩) 4 4] (w16.alloc (.cells A 28)) fun e w' => ∃ x, e = .returned (.tuple #[x, .int .i64 0]) ∧ RdD w' x [bx.id] ∧ Below (w16.alloc (.cells A 28)).heap.size (w16.alloc (.cells A 28)) w') := Lib.hid fun _ A hA hb => by
    have h := lost_any (.slice (some ⟨q, 0, none⟩) 1 1) (.slice (some ⟨w16.heap.size, 0, none⟩) 4 4) [bx] lostL (w16.alloc (.cells A 28)) ⟨bx_w, lostL_ok, HV.out.keep (Below.al (Below.refl _ _) _), rdl_new ocR w16 _ lostL A hA 4 rfl (by decide), HSD.out.keep hb, HFC.out.keep hb⟩
    rw [ex_los.1, ex_los.2] at h
    exact h
  go_wp2_with fail
  refine (HLT.out w _ (by kernel_rfl) (Below.al HB.out _)).mono ?_
  rintro e w17 ⟨x17, rfl, hr, hb0⟩
  have hb := Below.next (Below.al (Below.refl w16.heap.size w16) _) hb0
  obtain ⟨a17, c17, hx17⟩ := hr.form
  replace hx17 : x17 = .slice a17 1 c17 := hx17
  subst hx17
  replace HB := Lib.hid (Below.next HB.out hb)
  replace HV := Lib.hid (HV.out.keep hb)
  replace HD := Lib.hid (HD.out.keep hb)
  replace HH := Lib.hid (HH.out.keep hb)
  have HL := Lib.hid hr
  clear hb hb0 hr HLT
  -- Check
  have HC := Lib.hid (world_any _ [bx] bx_w w17 HV.out)
  obtain ⟨cx, hcx⟩ : ∃ cx, chkW [bx] = (0, cx) := ⟨(chkW [bx]).2, Prod.ext ex_chk rfl⟩
  rw [hcx] at HC
  clear hcx
  go_wp2_with fail
  refine HC.out.mono ?_
  rintro e w18 ⟨rfl, hb⟩
  replace HB := Lib.hid (Below.next HB.out hb)
  replace HV := Lib.hid (HV.out.keep hb)
  replace HD := Lib.hid (HD.out.keep hb)
  replace HH := Lib.hid (HH.out.keep hb)
  replace HL := Lib.hid (HL.out.keep hb)
  clear hb HC
  go_wp2_with fail
  refine (HWY.out _).mono ?_
  rintro e w19 ⟨g19, rfl, hr, hb⟩
  replace HB := Lib.hid (Below.next HB.out hb)
  replace HV := Lib.hid (HV.out.keep hb)
  replace HD := Lib.hid (HD.out.keep hb)
  replace HH := Lib.hid (HH.out.keep hb)
  replace HL := Lib.hid (HL.out.keep hb)
  have HF := Lib.hid (first_any 5 _ wayL true ex_all way_ok w19 (HSD.out.keep HB.out) (HFC.out.keep HB.out) hr)
  clear hb hr
  go_wp2_with fail
  refine HF.out.mono ?_
  rintro e w20 ⟨rfl, hb⟩
  replace HB := Lib.hid (Below.next HB.out hb)
  replace HV := Lib.hid (HV.out.keep hb)
  replace HD := Lib.hid (HD.out.keep hb)
  replace HH := Lib.hid (HH.out.keep hb)
  replace HL := Lib.hid (HL.out.keep hb)
  clear hb HF
  go_wp2_with fail
  refine (HX.out _).mono ?_
  rintro e w21 ⟨rfl, hb⟩
  replace HB := Lib.hid (Below.next HB.out hb)
  replace HV := Lib.hid (HV.out.keep hb)
  replace HD := Lib.hid (HD.out.keep hb)
  replace HH := Lib.hid (HH.out.keep hb)
  replace HL := Lib.hid (HL.out.keep hb)
  clear hb
  have HS : Hid (∀ W : World, Below w.heap.size w W → ∀ a c, RdD W (.slice a 1 c) [bx.id] → ∀ A : Array Value, A = (rcs idR [bx.id]).toArray → Calls Tryd.prog 28 #[.slice a 1 c, .slice (some ⟨W.heap.size, 0, none⟩) 1 1] (W.alloc (.cells A 26)) fun x w' => x = .returned (.bool true) ∧ Below W.heap.size W w') := Lib.hid fun W hW a c hr A hA => by
    have hal : Below W.heap.size W (W.alloc (.cells A 26)) := Below.al (Below.refl _ _) _
    exact (sameD_eq _ _ [bx.id] _ (hr.keep hal) (rdl_new idR W _ [bx.id] A hA 1 rfl (by decide))).mono fun x w' ⟨h1, h2⟩ => ⟨h1, Below.next hal h2⟩
  have HI : Hid (∀ W : World, ∀ a c, RdI .i64 W (.slice a 2 c) [1, 2] → ∀ T (A : Array Value), A = (ic .i64 [1, 2]).toArray → Calls Tryd.prog 21 #[.slice a 2 c, .slice (some ⟨W.heap.size, 0, none⟩) 2 2] (W.alloc (.cells A T)) fun x w' => x = .returned (.bool true) ∧ Below W.heap.size W w') := Lib.hid fun W a c hr T A hA => by
    have hal : Below W.heap.size W (W.alloc (.cells A T)) := Below.al (Below.refl _ _) _
    exact (sameInts_eq _ _ [1, 2] _ (hr.keep hal) (rdi_new .i64 W _ [1, 2] A hA 2 rfl (by decide))).mono fun x w' ⟨h1, h2⟩ => ⟨h1, Below.next hal h2⟩
  go_wp2_with fail
  refine (HS.out w21 HB.out _ _ HD.out _ (by kernel_rfl)).mono ?_
  rintro e w22 ⟨rfl, hb⟩
  replace HB := Lib.hid (Below.next HB.out hb)
  replace HV := Lib.hid (HV.out.keep hb)
  replace HH := Lib.hid (HH.out.keep hb)
  replace HL := Lib.hid (HL.out.keep hb)
  clear hb HD
  go_wp2_with fail
  refine (HI.out w22 _ _ HH.out _ _ (by kernel_rfl)).mono ?_
  rintro e w23 ⟨rfl, hb⟩
  replace HB := Lib.hid (Below.next HB.out hb)
  replace HV := Lib.hid (HV.out.keep hb)
  replace HL := Lib.hid (HL.out.keep hb)
  clear hb HH
  go_wp2_with fail
  refine (HX.out _).mono ?_
  rintro e w24 ⟨rfl, hb⟩
  replace HB := Lib.hid (Below.next HB.out hb)
  replace HV := Lib.hid (HV.out.keep hb)
  replace HL := Lib.hid (HL.out.keep hb)
  clear hb
  go_wp2_with fail
  refine (HS.out w24 HB.out _ _ HL.out _ (by kernel_rfl)).mono ?_
  rintro e w25 ⟨rfl, hb⟩
  replace HB := Lib.hid (Below.next HB.out hb)
  replace HV := Lib.hid (HV.out.keep hb)
  clear hb HL
  go_wp2_with fail
  go_ret
  exact ⟨rfl, HB.out⟩
end Go.Proofs.YtcjlbpndgjapiaaDoor
namespace Go.Proofs.YtcjlbpndgjapiaaDoor
open Go.RowKit
set_option linter.unusedSimpArgs false
set_option linter.unusedVariables false
set_option maxRecDepth 100000

set_option maxHeartbeats 4000000 in
theorem known_any (w : World) (hsd : SD w) (hfc : FC w) : Calls Tryd.prog 5 #[] w fun e w' => e = .returned (.bool true) ∧ Below w.heap.size w w' := by
  have HSD := Lib.hid hsd
  have HFC := Lib.hid hfc
  have HX := Lib.hid x_any
  have HWY := Lib.hid way_any
  have HO := Lib.hid out_any
  have hfl : ∀ w', (Instr.field 41 bx.v 0).run Tryd.prog w' = .ok (.agg #[.int .i64 1, .int .u64 7, .int .i64 0]) w' := fun _ => by kernel_rfl
  have hiw : IdW bx.id := by decide
  have HIW := Lib.hid hiw
  have HFI : Hid (∀ (want : Int) (l : List Oc) (n : Nat) (W : World) (A : Array Value), l.length = n → n ≤ 1000 → (∀ o, o ∈ l → OcW o) → (decide ((allV [bx] l).2 = 0) && decide ((allV [bx] l).1 = want)) = true → A = (rcs ocR l).toArray → Below w.heap.size w W →
      Calls Tryd.prog 32 #[.int .i64 want, .slice (some ⟨W.heap.size, 0, none⟩) n n] (W.alloc (.cells A 28)) fun e w' => e = .returned (.bool true) ∧ Below W.heap.size W w') := Lib.hid fun want l n W A hn hm hok hex hA hb => by
    have hal : Below W.heap.size W (W.alloc (.cells A 28)) := Below.al (Below.refl _ _) _
    have hb2 := Below.next hb hal
    exact (first_any want _ l true hex hok _ (hsd.keep hb2) (hfc.keep hb2) (rdl_new ocR W _ l A hA n hn hm)).mono fun e w' ⟨h1, h2⟩ => ⟨h1, Below.next hal h2⟩
  clear hsd hfc hiw
  go_enter Tryd.func5, Tryd.ntmps5
  go_wp2_with fail
  refine (HX.out _).mono ?_
  rintro e w1 ⟨rfl, hb1⟩
  go_upto_region 2 with fail
  refine wp_name ?_
  intro V hV
  have HB : Hid (Below w.heap.size w V) := Lib.hid (by rw [hV]; exact Below.al hb1 _)
  have hv : RdB V (.slice (some ⟨w1.heap.size, 0, none⟩) 1 1) [bx] := by rw [hV]; exact rdl_new bdR w1 _ [bx] _ (by kernel_rfl) 1 rfl (by decide)
  obtain ⟨q, hq⟩ : ∃ q, w1.heap.size = q := ⟨_, rfl⟩
  rw [hq] at hv ⊢
  have HV := Lib.hid hv
  clear hv hq hV hb1
  -- Holders of the first trace
  go_wp2_with fail
  refine (HWY.out _).mono ?_
  rintro e wz ⟨gz, rfl, hr, hb⟩
  replace HB := Lib.hid (Below.next HB.out hb)
  replace HV := Lib.hid (HV.out.keep hb)
  have HR := Lib.hid hr
  clear hr hb
  go_wp2_with fail
  refine (HX.out _).mono ?_
  rintro e wz ⟨rfl, hb⟩
  replace HB := Lib.hid (Below.next HB.out hb)
  replace HV := Lib.hid (HV.out.keep hb)
  replace HR := Lib.hid (HR.out.keep hb)
  have HC := Lib.hid (holders_any _ _ [bx] wayL bx.id HIW.out wz ⟨bx_w, way_ok, HV.out, HR.out, HSD.out.keep HB.out, HFC.out.keep HB.out⟩)
  rw [ex_hol2.1, ex_hol2.2] at HC
  clear hb HR
  go_wp2_with fail
  refine HC.out.mono ?_
  rintro e wz ⟨x3, rfl, hr, hb⟩
  obtain ⟨a3, c3, hx3⟩ := hr.form
  replace hx3 : x3 = .slice a3 0 c3 := hx3
  subst hx3
  replace HB := Lib.hid (Below.next HB.out hb)
  replace HV := Lib.hid (HV.out.keep hb)
  clear hr hb HC
  go_wp2_with fail
  -- Lost of the first trace
  refine (HWY.out _).mono ?_
  rintro e wz ⟨gz, rfl, hr, hb⟩
  replace HB := Lib.hid (Below.next HB.out hb)
  replace HV := Lib.hid (HV.out.keep hb)
  have HC := Lib.hid (lost_any _ _ [bx] wayL wz ⟨bx_w, way_ok, HV.out, hr, HSD.out.keep HB.out, HFC.out.keep HB.out⟩)
  rw [ex_los2, ex_fate] at HC
  clear hr hb
  go_wp2_with fail
  refine HC.out.mono ?_
  rintro e wz ⟨x4, rfl, hr, hb⟩
  obtain ⟨a4, c4, hx4⟩ := hr.form
  replace hx4 : x4 = .slice a4 0 c4 := hx4
  subst hx4
  replace HB := Lib.hid (Below.next HB.out hb)
  replace HV := Lib.hid (HV.out.keep hb)
  clear hr hb HC
  go_wp2_with fail
  -- over
  refine (HO.out 5 1 1 0 _).mono ?_
  rintro e wz ⟨rfl, hb⟩
  replace HB := Lib.hid (Below.next HB.out hb)
  replace HV := Lib.hid (HV.out.keep hb)
  clear hb
  go_wp2_with fail
  refine (HO.out 15 1 9 0 _).mono ?_
  rintro e w5 ⟨rfl, hb⟩
  replace HB := Lib.hid (Below.next HB.out hb)
  replace HV := Lib.hid (HV.out.keep hb)
  clear hb
  go_upto_region 5 with fail
  refine wp_name ?_
  intro V2 hV2
  have hal : Below w5.heap.size w5 V2 := by rw [hV2]; exact Below.al (Below.refl _ _) _
  have hv : RdO V2 (.slice (some ⟨w5.heap.size, 0, none⟩) 2 2) overL := by rw [hV2]; exact rdl_new ocR w5 _ overL _ (by kernel_rfl) 2 rfl (by decide)
  replace HB := Lib.hid (Below.next HB.out hal)
  replace HV := Lib.hid (HV.out.keep hal)
  obtain ⟨q5, hq5⟩ : ∃ q, w5.heap.size = q := ⟨_, rfl⟩
  rw [hq5] at hv ⊢
  have HOV := Lib.hid hv
  clear hv hq5 hV2 hal
  go_wp2_with fail
  refine (HX.out _).mono ?_
  rintro e wz ⟨rfl, hb⟩
  replace HB := Lib.hid (Below.next HB.out hb)
  replace HV := Lib.hid (HV.out.keep hb)
  replace HOV := Lib.hid (HOV.out.keep hb)
  have HC := Lib.hid (holders_any _ _ [bx] overL bx.id HIW.out wz ⟨bx_w, overL_ok, HV.out, HOV.out, HSD.out.keep HB.out, HFC.out.keep HB.out⟩)
  rw [ex_hol3.1, ex_hol3.2] at HC
  clear hb
  go_wp2_with fail
  refine HC.out.mono ?_
  rintro e w7 ⟨x5, rfl, hr, hb⟩
  obtain ⟨a5, c5, hx5⟩ := hr.form
  replace hx5 : x5 = .slice a5 0 c5 := hx5
  subst hx5
  replace HB := Lib.hid (Below.next HB.out hb)
  replace HV := Lib.hid (HV.out.keep hb)
  replace HOV := Lib.hid (HOV.out.keep hb)
  clear hr hb HC
  -- other
  go_upto_region 7 with fail
  refine wp_name ?_
  intro V3 hV3
  have hal : Below w7.heap.size w7 V3 := by rw [hV3]; exact Below.al (Below.refl _ _) _
  have hv : RdO V3 (.slice (some ⟨w7.heap.size, 0, none⟩) 2 2) othL := by rw [hV3]; exact rdl_new ocR w7 _ othL _ (by kernel_rfl) 2 rfl (by decide)
  replace HB := Lib.hid (Below.next HB.out hal)
  replace HV := Lib.hid (HV.out.keep hal)
  replace HOV := Lib.hid (HOV.out.keep hal)
  obtain ⟨q7, hq7⟩ : ∃ q, w7.heap.size = q := ⟨_, rfl⟩
  rw [hq7] at hv ⊢
  have HOT := Lib.hid hv
  clear hv hq7 hV3 hal
  go_wp2_with fail
  refine (HX.out _).mono ?_
  rintro e wz ⟨rfl, hb⟩
  replace HB := Lib.hid (Below.next HB.out hb)
  replace HV := Lib.hid (HV.out.keep hb)
  replace HOV := Lib.hid (HOV.out.keep hb)
  replace HOT := Lib.hid (HOT.out.keep hb)
  have HC := Lib.hid (holders_any _ _ [bx] othL bx.id HIW.out wz ⟨bx_w, othL_ok, HV.out, HOT.out, HSD.out.keep HB.out, HFC.out.keep HB.out⟩)
  rw [ex_hol4.1, ex_hol4.2] at HC
  clear hb
  go_wp2_with fail
  refine HC.out.mono ?_
  rintro e w8 ⟨x6, rfl, hr, hb⟩
  obtain ⟨a6, c6, hx6⟩ := hr.form
  replace hx6 : x6 = .slice a6 0 c6 := hx6
  subst hx6
  replace HB := Lib.hid (Below.next HB.out hb)
  replace HV := Lib.hid (HV.out.keep hb)
  replace HOV := Lib.hid (HOV.out.keep hb)
  replace HOT := Lib.hid (HOT.out.keep hb)
  clear hr hb HC
  go_wp2_with fail
  refine (HO.out 6 1 1 0 _).mono ?_
  rintro e wz ⟨rfl, hb⟩
  replace HB := Lib.hid (Below.next HB.out hb)
  replace HV := Lib.hid (HV.out.keep hb)
  replace HOV := Lib.hid (HOV.out.keep hb)
  replace HOT := Lib.hid (HOT.out.keep hb)
  clear hb
  go_wp2_with fail
  refine (HFI.out 0 [ox 6 1 1 0] 1 _ _ rfl (by decide) (by decide +kernel) ex_a0 (by kernel_rfl) HB.out).mono ?_
  rintro e wz ⟨rfl, hb⟩
  replace HB := Lib.hid (Below.next HB.out hb)
  replace HV := Lib.hid (HV.out.keep hb)
  replace HOV := Lib.hid (HOV.out.keep hb)
  replace HOT := Lib.hid (HOT.out.keep hb)
  clear hb
  go_wp2_with fail
  refine (HO.out 5 1 1 0 _).mono ?_
  rintro e wz ⟨rfl, hb⟩
  replace HB := Lib.hid (Below.next HB.out hb)
  replace HV := Lib.hid (HV.out.keep hb)
  replace HOV := Lib.hid (HOV.out.keep hb)
  replace HOT := Lib.hid (HOT.out.keep hb)
  clear hb
  go_wp2_with fail
  refine (HO.out 6 2 6 3 _).mono ?_
  rintro e wz ⟨rfl, hb⟩
  replace HB := Lib.hid (Below.next HB.out hb)
  replace HV := Lib.hid (HV.out.keep hb)
  replace HOV := Lib.hid (HOV.out.keep hb)
  replace HOT := Lib.hid (HOT.out.keep hb)
  clear hb
  go_wp2_with fail
  refine (HFI.out 1 [ox 5 1 1 0, ox 6 2 6 3] 2 _ _ rfl (by decide) (by decide +kernel) ex_a1 (by kernel_rfl) HB.out).mono ?_
  rintro e wz ⟨rfl, hb⟩
  replace HB := Lib.hid (Below.next HB.out hb)
  replace HV := Lib.hid (HV.out.keep hb)
  replace HOV := Lib.hid (HOV.out.keep hb)
  replace HOT := Lib.hid (HOT.out.keep hb)
  clear hb
  go_wp2_with fail
  refine (HO.out 5 1 1 0 _).mono ?_
  rintro e wz ⟨rfl, hb⟩
  replace HB := Lib.hid (Below.next HB.out hb)
  replace HV := Lib.hid (HV.out.keep hb)
  replace HOV := Lib.hid (HOV.out.keep hb)
  replace HOT := Lib.hid (HOT.out.keep hb)
  clear hb
  go_wp2_with fail
  refine (HO.out 14 1 9 0 _).mono ?_
  rintro e wz ⟨rfl, hb⟩
  replace HB := Lib.hid (Below.next HB.out hb)
  replace HV := Lib.hid (HV.out.keep hb)
  replace HOV := Lib.hid (HOV.out.keep hb)
  replace HOT := Lib.hid (HOT.out.keep hb)
  clear hb
  go_wp2_with fail
  refine (HO.out 15 1 9 0 _).mono ?_
  rintro e wz ⟨rfl, hb⟩
  replace HB := Lib.hid (Below.next HB.out hb)
  replace HV := Lib.hid (HV.out.keep hb)
  replace HOV := Lib.hid (HOV.out.keep hb)
  replace HOT := Lib.hid (HOT.out.keep hb)
  clear hb
  go_wp2_with fail
  refine (HFI.out 1 [ox 5 1 1 0, ox 14 1 9 0, ox 15 1 9 0] 3 _ _ rfl (by decide) (by decide +kernel) ex_a2 (by kernel_rfl) HB.out).mono ?_
  rintro e wz ⟨rfl, hb⟩
  replace HB := Lib.hid (Below.next HB.out hb)
  replace HV := Lib.hid (HV.out.keep hb)
  replace HOV := Lib.hid (HOV.out.keep hb)
  replace HOT := Lib.hid (HOT.out.keep hb)
  clear hb
  go_wp2_with fail
  refine (HO.out 5 1 1 0 _).mono ?_
  rintro e wz ⟨rfl, hb⟩
  replace HB := Lib.hid (Below.next HB.out hb)
  replace HV := Lib.hid (HV.out.keep hb)
  replace HOV := Lib.hid (HOV.out.keep hb)
  replace HOT := Lib.hid (HOT.out.keep hb)
  clear hb
  go_wp2_with fail
  refine (HO.out 15 3 8 0 _).mono ?_
  rintro e wz ⟨rfl, hb⟩
  replace HB := Lib.hid (Below.next HB.out hb)
  replace HV := Lib.hid (HV.out.keep hb)
  replace HOV := Lib.hid (HOV.out.keep hb)
  replace HOT := Lib.hid (HOT.out.keep hb)
  clear hb
  go_wp2_with fail
  refine (HFI.out 1 [ox 5 1 1 0, ox 15 3 8 0] 2 _ _ rfl (by decide) (by decide +kernel) ex_a3 (by kernel_rfl) HB.out).mono ?_
  rintro e wz ⟨rfl, hb⟩
  replace HB := Lib.hid (Below.next HB.out hb)
  replace HV := Lib.hid (HV.out.keep hb)
  replace HOV := Lib.hid (HOV.out.keep hb)
  replace HOT := Lib.hid (HOT.out.keep hb)
  clear hb
  go_wp2_with fail
  refine (first_any 2 _ overL true ex_a4 overL_ok _ (HSD.out.keep HB.out) (HFC.out.keep HB.out) HOV.out).mono ?_
  rintro e wz ⟨rfl, hb⟩
  replace HB := Lib.hid (Below.next HB.out hb)
  replace HV := Lib.hid (HV.out.keep hb)
  replace HOV := Lib.hid (HOV.out.keep hb)
  replace HOT := Lib.hid (HOT.out.keep hb)
  clear hb
  go_wp2_with fail
  refine (first_any 2 _ othL true ex_a5 othL_ok _ (HSD.out.keep HB.out) (HFC.out.keep HB.out) HOT.out).mono ?_
  rintro e wz ⟨rfl, hb⟩
  replace HB := Lib.hid (Below.next HB.out hb)
  replace HV := Lib.hid (HV.out.keep hb)
  replace HOV := Lib.hid (HOV.out.keep hb)
  replace HOT := Lib.hid (HOT.out.keep hb)
  clear hb
  go_wp2_with fail
  refine (awake_any _ (HSD.out.keep HB.out) (HFC.out.keep HB.out)).mono ?_
  rintro e wz ⟨rfl, hb⟩
  replace HB := Lib.hid (Below.next HB.out hb)
  replace HV := Lib.hid (HV.out.keep hb)
  replace HOV := Lib.hid (HOV.out.keep hb)
  replace HOT := Lib.hid (HOT.out.keep hb)
  clear hb
  go_wp2_with fail
  go_ret
  exact ⟨rfl, HB.out⟩
end Go.Proofs.YtcjlbpndgjapiaaDoor
