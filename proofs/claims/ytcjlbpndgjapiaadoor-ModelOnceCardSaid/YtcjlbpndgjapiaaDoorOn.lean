





/- ModelOnce, in the law. -/
import Derived.Test.YtcjlbpndgjapiaaDoorBg
namespace Go.Proofs.YtcjlbpndgjapiaaDoor
open Go.RowKit
set_option linter.unusedSimpArgs false
set_option linter.unusedVariables false
set_option maxRecDepth 100000

/-! plainly -/
theorem sel_mem {ws : List Bd} (hu : Uniq ws) (S : List Ft) (p : Bd → Ft → Bool) {k : Nat} (hk : k < ws.length) : (gb ws k).id ∈ selI ws S p ↔ p (gb ws k) (S.getD k f0) = true := by
  unfold selI
  rw [List.mem_map]
  constructor
  · rintro ⟨j, hj, he⟩
    obtain ⟨h1, h2⟩ := List.mem_filter.1 hj
    have := hu j k (List.mem_range.1 h1) hk he
    subst this
    exact h2
  · intro h
    exact ⟨k, List.mem_filter.2 ⟨List.mem_range.2 hk, h⟩, rfl⟩
theorem hol_len (f : Ft) : (holV f).length ≤ pc f.nw := by
  unfold holV pc
  rw [List.length_map, ← List.countP_eq_length_filter, ← List.countP_eq_length_filter]
  exact List.countP_mono_left fun i _ hi => by simp at hi; exact hi.2
theorem hol_zero {f : Ft} (h : f.nw = 0) : holV f = [] := by
  unfold holV
  rw [h]
  simp
def any7 (l : List Oc) : Bool := l.any fun o => decide (o.kd = 7)
theorem any7_take {l : List Oc} {j : Nat} (hj : j < l.length) : any7 (l.take (j + 1)) = (any7 (l.take j) || decide ((gx l j).kd = 7)) := by
  have e : gx l j = l[j] := by unfold gx; rw [List.getD_eq_getElem?_getD, List.getElem?_eq_getElem hj]; rfl
  rw [List.take_succ_eq_append_getElem hj, ← e]
  unfold any7
  rw [List.any_append]
  simp
theorem cnt_take_yes {l : List Oc} {i : Idn} {j : Nat} {c : Int} (hj : j < l.length) (h : (gx l j).id = i) (hc : (gx l j).kd = c) : cntK c (fl i (l.take (j + 1))) = cntK c (fl i (l.take j)) + 1 := by
  rw [fl_take_yes hj h, cntK_snoc, if_pos hc]
theorem cnt_take_kd {l : List Oc} {i : Idn} {j : Nat} {c : Int} (hj : j < l.length) (hc : (gx l j).kd ≠ c) : cntK c (fl i (l.take (j + 1))) = cntK c (fl i (l.take j)) := by
  by_cases h : (gx l j).id = i
  · rw [fl_take_yes hj h, cntK_snoc, if_neg hc]
    rfl
  · rw [fl_take_no hj h]
theorem cnt_take_id {l : List Oc} {i : Idn} {j : Nat} {c : Int} (hj : j < l.length) (h : (gx l j).id ≠ i) : cntK c (fl i (l.take (j + 1))) = cntK c (fl i (l.take j)) := by
  rw [fl_take_no hj h]
theorem cnt_take_len {l : List Oc} {i : Idn} (c : Int) (j : Nat) : cntK c (fl i (l.take j)) ≤ j := by
  unfold cntK
  exact Nat.le_trans (List.length_filter_le ..) (fl_take_len j)
theorem Tn.alw {ws : List Bd} {nums : List Int} {l : List Oc} (h : Tn ws nums l) : Alw ws l 40 := by
  have := (alw_ok h.sm nums (mn nums) (by unfold mn; omega))
  rw [← h.al] at this
  exact ⟨this.tr.mono (by unfold mn; omega), by have := this.len; unfold mn at this; omega, this.al⟩
theorem Tn.fat {ws : List Bd} {nums : List Int} {l : List Oc} (h : Tn ws nums l) : chkE ws l = 0 ∧ fatE ws l = 0 := alw_fatE h.sm (by omega) h.alw
theorem Tn.inv {ws : List Bd} {nums : List Int} {l : List Oc} (h : Tn ws nums l) {k : Nat} (hk : k < ws.length) : Inv (gb ws k) ((folW ws l).1.getD k f0) (fl (gb ws k).id l) :=
  once_inv h.sm.uni h.alw.tr.inw h.alw.tr.nd h.alw.al k hk
theorem Tn.of0 {ws : List Bd} {nums : List Int} {l : List Oc} (h : Tn ws nums l) {k : Nat} (hk : k < ws.length) : ofE ws l (gb ws k).id = 0 ∧ ofF ws l (gb ws k).id = (folW ws l).1.getD k f0 := by
  have hi : idx ws (gb ws k).id = some k := idx_at h.sm.uni hk
  obtain ⟨h1, h2⟩ := h.fat
  constructor
  · unfold ofE
    rw [if_neg (by rw [h1]; simp), if_neg (by rw [hi]; simp), h2]
  · unfold ofF
    rw [hi]; rfl
theorem last_ge {l : List Oc} (h : ∀ k, k + 1 < l.length → (l.getD k o0).tk ≤ (l.getD (k + 1) o0).tk) {o : Oc} (ho : o ∈ l) : o.tk ≤ lastT l := by
  obtain ⟨j, hj, rfl⟩ := List.getElem_of_mem ho
  have hp := List.pairwise_iff_getElem.1 (asc_pair h)
  unfold lastT
  rw [List.getD_eq_getElem?_getD, List.getElem?_eq_getElem (show l.length - 1 < l.length by omega)]
  show l[j].tk ≤ l[l.length - 1].tk
  by_cases e : j = l.length - 1
  · subst e; exact Int.le_refl _
  · exact hp j (l.length - 1) hj (by omega) (by omega)
/-- without Handed nothing is lost -/
theorem Tn.none_lost {ws : List Bd} {nums : List Int} {l : List Oc} (h : Tn ws nums l) (h7 : any7 l = false) : loV ws l = [] := by
  unfold loV
  rw [if_pos h.fat.2]
  unfold losV selI
  rw [List.filter_eq_nil_iff.2, List.map_nil]
  intro k hk
  have hk := List.mem_range.1 hk
  have hI := h.inv hk
  have hc7 : cntK 7 (fl (gb ws k).id l) = 0 := by
    unfold cntK
    rw [List.length_eq_zero_iff, List.filter_eq_nil_iff]
    intro o ho
    have := (List.any_eq_false.1 h7) o (List.mem_filter.1 ho).1
    simpa using this
  obtain ⟨b, hb⟩ : ∃ b, gb ws k = b := ⟨_, rfl⟩
  obtain ⟨f, hf⟩ : ∃ f, (folW ws l).1.getD k f0 = f := ⟨_, rfl⟩
  show ¬ lstF (gb ws k) ((folW ws l).1.getD k f0) (lastT l) = true
  rw [hb, hf] at hI ⊢
  rw [hb] at hc7
  unfold lstF
  intro hl
  simp only [Bool.and_eq_true, Bool.not_eq_true', decide_eq_true_eq] at hl
  obtain ⟨⟨⟨h1, h2⟩, h3⟩, h4⟩ := hl
  rcases hI.nh hc7 h1 h2 with h5 | ⟨o, ho, h6⟩
  · exact h5 h3
  · have := last_ge h.alw.tr.asc (List.mem_filter.1 ho).1
    omega
/-- what is known of a bundle at the end -/
structure OnK (ac dl G : Bool) (A D H C : Nat) : Prop where
  a : A = ac.toNat
  d : D = dl.toNat
  da : dl = true → ac = true
  g : G = true → ac = true ∧ dl = false ∧ H = 0
  hc : H ≤ C
  z : ac = false → C = 0
  p : ac = true → 1 ≤ C
theorem Tn.onk {ws : List Bd} {nums : List Int} {l : List Oc} (h : Tn ws nums l) {k : Nat} (hk : k < ws.length) :
    ∃ ac dl G, decide ((gb ws k).id ∈ loV ws l) = G ∧ decide ((gb ws k).id ∈ deV ws l) = dl ∧ OnK ac dl G (cntK 1 (fl (gb ws k).id l)) (cntK 8 (fl (gb ws k).id l)) (hoV ws l (gb ws k).id).length (cpV ws l (gb ws k).id) := by
  have hI := h.inv hk
  obtain ⟨o1, o2⟩ := h.of0 hk
  have hf := h.fat.2
  have hlo : decide ((gb ws k).id ∈ loV ws l) = lstF (gb ws k) ((folW ws l).1.getD k f0) (lastT l) := by
    rw [Bool.eq_iff_iff, decide_eq_true_eq]
    unfold loV
    rw [if_pos hf]
    unfold losV
    exact sel_mem h.sm.uni _ _ hk
  have hde : decide ((gb ws k).id ∈ deV ws l) = ((folW ws l).1.getD k f0).dl := by
    rw [Bool.eq_iff_iff, decide_eq_true_eq]
    unfold deV
    rw [if_pos hf]
    unfold delV
    exact sel_mem h.sm.uni _ _ hk
  have hho : hoV ws l (gb ws k).id = holV ((folW ws l).1.getD k f0) := by unfold hoV; rw [if_pos o1, o2]
  have hcp : cpV ws l (gb ws k).id = ((folW ws l).1.getD k f0).mo := by unfold cpV; rw [if_pos o1, o2]
  refine ⟨((folW ws l).1.getD k f0).ac, _, _, rfl, rfl, ?_⟩
  rw [hlo, hde, hho, hcp]
  obtain ⟨f, hff⟩ : ∃ f, (folW ws l).1.getD k f0 = f := ⟨_, rfl⟩
  rw [hff] at hI ⊢
  refine ⟨hI.na, hI.nd, hI.da, fun hg => ?_, Nat.le_trans (hol_len f) hI.pcm, fun hz => (hI.z hz).2.2, hI.p⟩
  unfold lstF at hg
  simp only [Bool.and_eq_true, Bool.not_eq_true', decide_eq_true_eq] at hg
  exact ⟨hg.1.1.1, hg.1.1.2, by rw [hol_zero hg.1.2]; rfl⟩
theorem Tn.before {ws : List Bd} {nums : List Int} {l : List Oc} (h : Tn ws nums l) {k j : Nat} (hk : k < ws.length) (hj : j < l.length) (h8 : (gx l j).kd = 8) (hid : (gx l j).id = (gb ws k).id) : cntK 1 (fl (gb ws k).id (l.take j)) = 1 :=
  once_before h.sm.uni h.alw.tr.inw h.alw.tr.nd h.alw.al hk hj h8 hid
set_option maxHeartbeats 8000000 in
theorem once_any (n : Int) (hn : Ib n) (nv : Value) (nums : List Int) (hnb : ∀ x, x ∈ nums → Ib x) (w : World) (hnr : RdI .i64 w nv nums) (hsd : SD w) (hfc : FC w) :
    Calls Tryd.prog 7 #[.int .i64 n, nv] w fun e w' => e = .returned (.bool true) ∧ Below w.heap.size w w' := by
  obtain ⟨an, cn, rfl⟩ := hnr.form
  obtain ⟨MN, hMN⟩ : ∃ MN, nums.length = MN := ⟨_, rfl⟩
  rw [hMN] at hnr ⊢
  clear hMN
  have HSD := Lib.hid hsd
  have HFC := Lib.hid hfc
  have HNR := Lib.hid hnr
  have HNB := Lib.hid hnb
  have HT := tn_of n nums
  obtain ⟨ws, hws⟩ : ∃ ws, mkW (n % 1048576) = ws := ⟨_, rfl⟩
  have HWD := Lib.hid (mkworld_any n hn)
  rw [hws] at HT HWD
  have hal : alw ws nums (mn nums) = alw ws nums (mn nums) := rfl
  obtain ⟨l, hl⟩ : ∃ l, alw ws nums (mn nums) = l := ⟨_, rfl⟩
  rw [hl] at HT
  obtain ⟨N, hN⟩ : ∃ N, ws.length = N := ⟨_, rfl⟩
  obtain ⟨L, hL⟩ : ∃ L, l.length = L := ⟨_, rfl⟩
  have HLE := Lib.hid hl
  have HN := Lib.hid hN
  have HL := Lib.hid hL
  have HTN := Lib.hid HT
  have hL40 := HT.len
  rw [hL] at hL40
  rw [hN] at HWD
  clear hsd hfc hnr hnb hws hal hl hN hL HT
  go_enter Tryd.func7, Tryd.ntmps7
  go_wp2_with fail
  refine (known_any w HSD.out HFC.out).mono ?_
  rintro e w1 ⟨rfl, hb⟩
  have HB := Lib.hid hb
  replace HNR := Lib.hid (HNR.out.keep hb)
  clear hb
  go_wp2_with fail
  refine (HWD.out w1).mono ?_
  rintro e w2 ⟨va, vc, rfl, hr, hb⟩
  replace HB := Lib.hid (Below.next HB.out hb)
  replace HNR := Lib.hid (HNR.out.keep hb)
  have HRB := Lib.hid hr
  have HB2 := HB
  clear hb hr HWD
  have HAL := Lib.hid (allowedN_any ws HTN.out.sm HTN.out.wf _ _ nums HNB.out w2 HRB.out HNR.out (HSD.out.keep HB.out) (HFC.out.keep HB.out))
  rw [HLE.out, HL.out] at HAL
  go_wp2_with fail
  refine HAL.out.mono ?_
  rintro e w3 ⟨la, lc, rfl, ho, hb⟩
  have HRB2 := HRB
  have HB23 := Lib.hid hb
  have HBW2 := HB
  replace HB := Lib.hid (Below.next HB.out hb)
  replace HRB := Lib.hid (HRB.out.keep hb)
  have HOW := Lib.hid ho
  have HRO := Lib.hid (oc_own ho HL.out)
  have HBASE : Hid (w.heap.size ≤ w2.heap.size ∧ w2.heap.size ≤ w3.heap.size) := Lib.hid ⟨HB2.out.size, hb.size⟩
  clear hb ho HAL HNR HB2
  have hfat := HTN.out.fat.2
  have HC := Lib.hid (lost_any (.slice va N vc) (.slice la L lc) ws l w3 ⟨HTN.out.wf, HTN.out.of, HRB.out, HRO.out, HSD.out.keep HB.out, HFC.out.keep HB.out⟩)
  rw [hfat] at HC
  have HL40 := Lib.hid hL40
  obtain ⟨LO, hLO⟩ : ∃ LO, loV ws l = LO := ⟨_, rfl⟩
  obtain ⟨DE, hDE⟩ : ∃ DE, deV ws l = DE := ⟨_, rfl⟩
  rw [hLO] at HC
  have HLO := Lib.hid hLO
  have HDE := Lib.hid hDE
  have HFAT := Lib.hid hfat
  clear hfat hLO hDE hL40 HOW HBASE HRB2 HB23 HBW2
  go_wp2_with fail
  refine HC.out.mono ?_
  rintro e w4 ⟨x4, rfl, hr, hb⟩
  replace HB := Lib.hid (Below.next HB.out hb)
  replace HRB := Lib.hid (HRB.out.keep hb)
  replace HRO := Lib.hid (HRO.out.keep hb)
  have HX := Lib.hid hr
  clear hb hr HC
  have HC := Lib.hid (delivered_any (.slice va N vc) (.slice la L lc) ws l w4 ⟨HTN.out.wf, HTN.out.of, HRB.out, HRO.out, HSD.out.keep HB.out, HFC.out.keep HB.out⟩)
  rw [HFAT.out, HDE.out] at HC
  go_wp2_with fail
  refine HC.out.mono ?_
  rintro e w5 ⟨x5, rfl, hr, hb⟩
  replace HB := Lib.hid (Below.next HB.out hb)
  replace HRB := Lib.hid (HRB.out.keep hb)
  replace HRO := Lib.hid (HRO.out.keep hb)
  replace HX := Lib.hid (HX.out.keep hb)
  have HY := Lib.hid hr
  clear hb hr HC
  obtain ⟨a4, c4, hx4⟩ := HX.out.form
  obtain ⟨m4, hm4⟩ : ∃ m, LO.length = m := ⟨_, rfl⟩
  rw [hm4] at hx4
  subst hx4
  have HM4 := Lib.hid hm4
  clear hm4
  go_wp2_with fail
  go_loopw [13, 14] (fun hv iv wr => ∃ k : Nat, k ≤ N ∧ iv = .int .i64 k ∧ hv = .bool (decide (0 < k) && any7 l) ∧ Below w5.heap.size w5 wr) (fun _ iv _ => N - (intOf iv).toNat)
  case atStart => exact ⟨0, Nat.zero_le _, rfl, rfl, Below.refl _ _⟩
  case round =>
    obtain ⟨k, hk, rfl, rfl, hB⟩ := hrel
    rename World => wq
    have HBq := Lib.hid hB
    obtain ⟨H0, hH0⟩ : ∃ H0, (decide (0 < k) && any7 l) = H0 := ⟨_, rfl⟩
    rw [hH0]
    have HH0 := Lib.hid hH0
    clear hH0
    by_cases hlt : k < N
    · have d2 : decide ((k : Int) < (N : Int)) = true := yb (by omega)
      have hkw : k < ws.length := by have := HN.out; omega
      have hN4 := HTN.out.sm.len
      have i1 : (0 : Int) ≤ (k : Int) := by omega
      have i2 : (k : Int) < (N : Int) := by omega
      have hwk : IntKind.i64.wrap (k : Int) = (k : Int) := IntWalk.i64_in _ (by omega)
      have hwk1 : IntKind.i64.wrap ((k : Int) + 1) = (k : Int) + 1 := IntWalk.i64_in _ (by omega)
      obtain ⟨b6, o6, he6, hc6, G0, G1, G2, _⟩ := RdB.at (HRB.out.keep hB) HN.out k hlt
      subst he6
      have hmem : gb ws k ∈ ws := getD_mem hkw
      obtain ⟨ac, dl, G, hG, hD, hON⟩ := HTN.out.onk hkw
      have hof := (HTN.out.of0 hkw).1
      have HBF := Lib.hid (fun j (hj : j < l.length) => HTN.out.before hkw hj)
      have hiw := (HTN.out.wf _ hmem).1
      obtain ⟨y, hy⟩ : ∃ y, gb ws k = y := ⟨_, rfl⟩
      rw [hy] at G0 G1 G2 hG hD hON hof HBF hiw
      rw [HLO.out] at hG
      rw [HDE.out] at hD
      have HON := Lib.hid hON
      have HOF := Lib.hid hof
      have HIW := Lib.hid hiw
      have HGI := Lib.hid hG
      have HDI := Lib.hid hD
      have HKL := Lib.hid hlt
      have HGG := Lib.hid (And.intro G0 (And.intro G1 G2))
      clear hkw hN4 hmem hG hD hON hof hiw hy hlt hk hB G0 G1 G2
      go_wp2_with fail
      go_loopw [13, 15, 16, 17] (fun hv av dv iv wr => ∃ j : Nat, j ≤ L ∧ iv = .int .i64 j ∧ hv = .bool (H0 || any7 (l.take j)) ∧ av = .int .i64 ((cntK 1 (fl y.id (l.take j)) : Nat) : Int) ∧ dv = .int .i64 ((cntK 8 (fl y.id (l.take j)) : Nat) : Int) ∧ Below wq.heap.size wq wr) (fun _ _ _ iv _ => L - (intOf iv).toNat)
      case atStart => exact ⟨0, Nat.zero_le _, rfl, by simp [any7], rfl, rfl, Below.refl _ _⟩
      case round =>
        obtain ⟨j, hj, rfl, rfl, rfl, rfl, hB2⟩ := hrel
        have HB2 := Lib.hid hB2
        by_cases hlt2 : j < L
        · have d3 : decide ((j : Int) < (L : Int)) = true := yb (by omega)
          have hjl : j < l.length := by have := HL.out; omega
          have hL4 := HL40.out
          have j1 : (0 : Int) ≤ (j : Int) := by omega
          have j2 : (j : Int) < (L : Int) := by omega
          have hwj : IntKind.i64.wrap (j : Int) = (j : Int) := IntWalk.i64_in _ (by omega)
          have hwj1 : IntKind.i64.wrap ((j : Int) + 1) = (j : Int) + 1 := IntWalk.i64_in _ (by omega)
          have g0 := cell_later hB2 HGG.out.1
          have g1 := cell_later hB2 HGG.out.2.1
          have g2 := cell_later hB2 HGG.out.2.2
          obtain ⟨b7, o7, he7, hc7, p0, p1, p2, p3, p4, p5, p6⟩ := RdO.at ((HRO.out.keep HBq.out).keep hB2) HL.out j hlt2
          subst he7
          have h7 := any7_take hjl
          have hcA := cnt_take_len (l := l) (i := y.id) 1 j
          have hcD := cnt_take_len (l := l) (i := y.id) 8 j
          have HA1 := Lib.hid (fun h => cnt_take_yes (i := y.id) (c := 1) hjl h)
          have HA2 := Lib.hid (fun h => cnt_take_kd (i := y.id) (c := 1) hjl h)
          have HA3 := Lib.hid (fun c h => cnt_take_id (i := y.id) (c := c) hjl h)
          have HD1 := Lib.hid (fun h => cnt_take_yes (i := y.id) (c := 8) hjl h)
          have HD2 := Lib.hid (fun h => cnt_take_kd (i := y.id) (c := 8) hjl h)
          have HBJ := Lib.hid (HBF.out j hjl)
          obtain ⟨x, hx⟩ : ∃ x, gx l j = x := ⟨_, rfl⟩
          rw [hx] at p0 p1 p2 p3 p4 p5 p6 h7 HA1 HA2 HA3 HD1 HD2 HBJ
          obtain ⟨A, hA⟩ : ∃ A, cntK 1 (fl y.id (l.take j)) = A := ⟨_, rfl⟩
          obtain ⟨D, hD⟩ : ∃ D, cntK 8 (fl y.id (l.take j)) = D := ⟨_, rfl⟩
          rw [hA] at HA1 HA2 HBJ hcA
          rw [hD] at HD1 HD2 hcD
          have HAE := Lib.hid hA
          have HDEq := Lib.hid hD
          have HAW : Hid (IntKind.i64.wrap ((A : Int) + 1) = (A : Int) + 1) := Lib.hid (IntWalk.i64_in _ (by omega))
          have HDW : Hid (IntKind.i64.wrap ((D : Int) + 1) = (D : Int) + 1) := Lib.hid (IntWalk.i64_in _ (by omega))
          have haw := HAW.out
          have hdw := HDW.out
          obtain ⟨E, hE⟩ : ∃ E, (H0 || any7 (l.take j)) = E := ⟨_, rfl⟩
          have HE : Hid ((H0 || any7 (l.take (j + 1))) = (E || decide (x.kd = 7))) := Lib.hid (by rw [h7, ← hE, Bool.or_assoc])
          rw [hA, hD, hE]
          obtain ⟨kd, hkd⟩ : ∃ kd, x.kd = kd := ⟨_, rfl⟩
          rw [hkd] at p2 HA1 HA2 HD1 HD2 HBJ HE
          have HJ := Lib.hid hlt2
          have hidd : x.id = y.id ∨ x.id ≠ y.id := Classical.em _
          clear hjl hL4 h7 hcA hcD hx hA hD hE hkd hlt2 hj hB2 p0 p1 p6
          by_cases hk1 : kd = 1
          · subst hk1
            have HD := Lib.hid (HD2.out (by decide))
            have HE2 : Hid ((H0 || any7 (l.take (j + 1))) = E) := Lib.hid (by rw [HE.out]; simp)
            rcases hidd with hid | hid
            · obtain ⟨e1, e2, e3⟩ := id_eq hid
              have HA := Lib.hid (HA1.out hid rfl)
              clear hid
              cases E with
              | true => (go_wp2_with fail; go_quiet (fail); go_wp2_with fail; go_quiet (fail); go_wp2_with fail; go_roundw; (case rel => exact ⟨j + 1, by have := HJ.out; omega, by go_num, by rw [HE2.out], by rw [HA.out]; go_num, by rw [HD.out], by first | exact below_drewN HB2.out _ | exact below_drewN (below_drewN HB2.out _) _⟩); (case measure => simp [intOf]; have := HJ.out; omega))
              | false => (go_wp2_with fail; go_quiet (fail); go_wp2_with fail; go_quiet (fail); go_wp2_with fail; go_roundw; (case rel => exact ⟨j + 1, by have := HJ.out; omega, by go_num, by rw [HE2.out], by rw [HA.out]; go_num, by rw [HD.out], by first | exact below_drewN HB2.out _ | exact below_drewN (below_drewN HB2.out _) _⟩); (case measure => simp [intOf]; have := HJ.out; omega))
            · have hne := id_ne hid
              have HA : Hid (cntK 1 (fl y.id (l.take (j + 1))) = A) := Lib.hid ((HA3.out 1 hid).trans HAE.out)
              clear hid
              rcases hne with e1 | ⟨e1, e2⟩ | ⟨e1, e2, e3⟩
              all_goals
                cases E with
                | true => (go_wp2_with fail; go_quiet (fail); go_wp2_with fail; go_quiet (fail); go_wp2_with fail; go_roundw; (case rel => exact ⟨j + 1, by have := HJ.out; omega, by go_num, by rw [HE2.out], by rw [HA.out], by rw [HD.out], by first | exact below_drewN HB2.out _ | exact below_drewN (below_drewN HB2.out _) _⟩); (case measure => simp [intOf]; have := HJ.out; omega))
                | false => (go_wp2_with fail; go_quiet (fail); go_wp2_with fail; go_quiet (fail); go_wp2_with fail; go_roundw; (case rel => exact ⟨j + 1, by have := HJ.out; omega, by go_num, by rw [HE2.out], by rw [HA.out], by rw [HD.out], by first | exact below_drewN HB2.out _ | exact below_drewN (below_drewN HB2.out _) _⟩); (case measure => simp [intOf]; have := HJ.out; omega))
          · by_cases hk8 : kd = 8
            · subst hk8
              have HA := Lib.hid (HA2.out (by decide))
              have HE2 : Hid ((H0 || any7 (l.take (j + 1))) = E) := Lib.hid (by rw [HE.out]; simp)
              clear hk1
              rcases hidd with hid | hid
              · obtain ⟨e1, e2, e3⟩ := id_eq hid
                have HD := Lib.hid (HD1.out hid rfl)
                have ha1 : A = 1 := HBJ.out rfl hid
                subst ha1
                clear hid
                cases E with
                | true => (go_wp2_with fail; go_quiet (fail); go_wp2_with fail; go_quiet (fail); go_wp2_with fail; go_roundw; (case rel => exact ⟨j + 1, by have := HJ.out; omega, by go_num, by rw [HE2.out], by rw [HA.out]; rfl, by rw [HD.out]; go_num, by first | exact below_drewN HB2.out _ | exact below_drewN (below_drewN HB2.out _) _⟩); (case measure => simp [intOf]; have := HJ.out; omega))
                | false => (go_wp2_with fail; go_quiet (fail); go_wp2_with fail; go_quiet (fail); go_wp2_with fail; go_roundw; (case rel => exact ⟨j + 1, by have := HJ.out; omega, by go_num, by rw [HE2.out], by rw [HA.out]; rfl, by rw [HD.out]; go_num, by first | exact below_drewN HB2.out _ | exact below_drewN (below_drewN HB2.out _) _⟩); (case measure => simp [intOf]; have := HJ.out; omega))
              · have hne := id_ne hid
                have HD : Hid (cntK 8 (fl y.id (l.take (j + 1))) = D) := Lib.hid ((HA3.out 8 hid).trans HDEq.out)
                clear hid
                rcases hne with e1 | ⟨e1, e2⟩ | ⟨e1, e2, e3⟩
                all_goals
                  cases E with
                  | true => (go_wp2_with fail; go_quiet (fail); go_wp2_with fail; go_quiet (fail); go_wp2_with fail; go_roundw; (case rel => exact ⟨j + 1, by have := HJ.out; omega, by go_num, by rw [HE2.out], by rw [HA.out], by rw [HD.out], by first | exact below_drewN HB2.out _ | exact below_drewN (below_drewN HB2.out _) _⟩); (case measure => simp [intOf]; have := HJ.out; omega))
                  | false => (go_wp2_with fail; go_quiet (fail); go_wp2_with fail; go_quiet (fail); go_wp2_with fail; go_roundw; (case rel => exact ⟨j + 1, by have := HJ.out; omega, by go_num, by rw [HE2.out], by rw [HA.out], by rw [HD.out], by first | exact below_drewN HB2.out _ | exact below_drewN (below_drewN HB2.out _) _⟩); (case measure => simp [intOf]; have := HJ.out; omega))
            · have HA := Lib.hid (HA2.out hk1)
              have HD := Lib.hid (HD2.out hk8)
              have f1 : (kd == 1) = false := by simpa using hk1
              have f8 : (kd == 8) = false := by simpa using hk8
              obtain ⟨q7, hq7⟩ : ∃ q, decide (kd = 7) = q := ⟨_, rfl⟩
              have f7 : (kd == 7) = q7 := by rw [← hq7]; rfl
              have HE2 : Hid ((H0 || any7 (l.take (j + 1))) = (E || q7)) := Lib.hid (by rw [HE.out, hq7])
              clear hk1 hk8 hq7 hidd
              cases E with
              | true => (go_wp2_with fail; go_quiet (fail); go_wp2_with fail; go_quiet (fail); go_wp2_with fail; go_roundw; (case rel => exact ⟨j + 1, by have := HJ.out; omega, by go_num, by rw [HE2.out]; rfl, by rw [HA.out], by rw [HD.out], by first | exact below_drewN HB2.out _ | exact below_drewN (below_drewN HB2.out _) _⟩); (case measure => simp [intOf]; have := HJ.out; omega))
              | false => (go_wp2_with fail; go_quiet (fail); go_wp2_with fail; go_quiet (fail); go_wp2_with fail; go_roundw; (case rel => exact ⟨j + 1, by have := HJ.out; omega, by go_num, by rw [HE2.out]; rfl, by rw [HA.out], by rw [HD.out], by first | exact below_drewN HB2.out _ | exact below_drewN (below_drewN HB2.out _) _⟩); (case measure => simp [intOf]; have := HJ.out; omega))
        · obtain rfl : j = L := by omega
          have d3 : decide ((j : Int) < (j : Int)) = false := nb (by omega)
          have hTL : l.take j = l := by rw [List.take_of_length_le (by have := HL.out; omega)]
          rw [hTL]
          have hB5 := HBq.out
          replace HBq := Lib.hid (Below.next HBq.out hB2)
          have g0 := cell_later hB2 HGG.out.1
          have g1 := cell_later hB2 HGG.out.2.1
          have g2 := cell_later hB2 HGG.out.2.2
          have HBW := Lib.hid (HB.out.trans (HBq.out.mono HB.out.size))
          have HON2 := HON
          obtain ⟨H, hH⟩ : ∃ H, (hoV ws l y.id).length = H := ⟨_, rfl⟩
          obtain ⟨C, hC⟩ : ∃ C, cpV ws l y.id = C := ⟨_, rfl⟩
          obtain ⟨A, hA⟩ : ∃ A, cntK 1 (fl y.id l) = A := ⟨_, rfl⟩
          obtain ⟨D, hD⟩ : ∃ D, cntK 8 (fl y.id l) = D := ⟨_, rfl⟩
          rw [hH, hC, hA, hD] at HON2
          rw [hA, hD]
          have HH := Lib.hid hH
          have HCP := Lib.hid hC
          obtain ⟨E2, hE2⟩ : ∃ E2, (H0 || any7 l) = E2 := ⟨_, rfl⟩
          rw [hE2]
          have HE2 : Hid (any7 l = E2) := Lib.hid (by rw [← hE2, ← HH0.out]; cases decide (0 < k) <;> cases any7 l <;> rfl)
          clear hTL hlt2 hj hB2 hB5 hH hC hA hD hE2
          have HC := Lib.hid (holders_any _ _ ws l y.id HIW.out wr ⟨HTN.out.wf, HTN.out.of, HRB.out.keep HBq.out, HRO.out.keep HBq.out, HSD.out.keep HBW.out, HFC.out.keep HBW.out⟩)
          rw [HOF.out] at HC
          go_wp2_with fail
          refine HC.out.mono ?_
          rintro e w6 ⟨x6, rfl, hr, hb⟩
          obtain ⟨a9, c9, hx9⟩ := hr.form
          rw [HH.out] at hx9
          subst hx9
          have g0 := cell_later hb g0
          have g1 := cell_later hb g1
          have g2 := cell_later hb g2
          replace HBq := Lib.hid (Below.next HBq.out hb)
          replace HBW := Lib.hid (Below.next HBW.out hb)
          clear hb hr HC
          have HC := Lib.hid (copies_any _ _ ws l y.id HIW.out w6 ⟨HTN.out.wf, HTN.out.of, HRB.out.keep HBq.out, HRO.out.keep HBq.out, HSD.out.keep HBW.out, HFC.out.keep HBW.out⟩)
          rw [HOF.out, HCP.out] at HC
          go_wp2_with fail
          refine HC.out.mono ?_
          rintro e w7 ⟨rfl, hb⟩
          have g0 := cell_later hb g0
          have g1 := cell_later hb g1
          have g2 := cell_later hb g2
          replace HBq := Lib.hid (Below.next HBq.out hb)
          replace HBW := Lib.hid (Below.next HBW.out hb)
          clear hb HC
          have HIN1 := Lib.hid (fun wS (hS : Below w7.heap.size w7 wS) => in_any (.slice a4 m4 c4) LO y.id wS (HX.out.keep (Below.next HBq.out hS)))
          have HIN2 := Lib.hid (fun wS (hS : Below w7.heap.size w7 wS) => in_any x5 DE y.id wS (HY.out.keep (Below.next HBq.out hS)))
          rw [HGI.out] at HIN1
          rw [HDI.out] at HIN2
          go_upto_region 25 with fail
          refine wp_region_calm (fun w' => Below w7.heap.size w7 w') 99 (by kernel_rfl) ((Below.refl _ w7).drew) ?_
          refine cm_run 0 142 (v := ?_) rfl rfl (by kernel_rfl) (by kernel_rfl) (by kernel_rfl) (by kernel_rfl) (by kernel_rfl) (fun _ _ _ h => h) (by rfl) ?_ ?_
          rotate_left
          · (intro wS hS; skip; go_simp; (try with_reducible rfl))
          simp only [List.setIfInBounds_toArray, List.set_cons_zero, List.set_cons_succ]
          refine cm_run 1 143 (v := ?_) rfl rfl (by kernel_rfl) (by kernel_rfl) (by kernel_rfl) (by kernel_rfl) (by kernel_rfl) (fun _ _ _ h => h) (by rfl) ?_ ?_
          rotate_left
          · (intro wS hS; skip; go_simp; (try with_reducible rfl))
          simp only [List.setIfInBounds_toArray, List.set_cons_zero, List.set_cons_succ]
          refine cm_run 2 144 (v := ?_) rfl rfl (by kernel_rfl) (by kernel_rfl) (by kernel_rfl) (by kernel_rfl) (by kernel_rfl) (fun _ _ _ h => h) (by rfl) ?_ ?_
          rotate_left
          · (intro wS hS; skip; go_simp; (try with_reducible rfl))
          simp only [List.setIfInBounds_toArray, List.set_cons_zero, List.set_cons_succ]
          refine cm_run 3 145 (v := ?_) rfl rfl (by kernel_rfl) (by kernel_rfl) (by kernel_rfl) (by kernel_rfl) (by kernel_rfl) (fun _ _ _ h => h) (by rfl) ?_ ?_
          rotate_left
          · (intro wS hS; skip; go_simp; (try with_reducible rfl))
          simp only [List.setIfInBounds_toArray, List.set_cons_zero, List.set_cons_succ]
          refine cm_run 4 146 (v := ?_) rfl rfl (by kernel_rfl) (by kernel_rfl) (by kernel_rfl) (by kernel_rfl) (by kernel_rfl) (fun _ _ _ h => h) (by rfl) ?_ ?_
          rotate_left
          · (intro wS hS; skip; go_simp; (try with_reducible rfl))
          simp only [List.setIfInBounds_toArray, List.set_cons_zero, List.set_cons_succ]
          refine cm_run 5 147 (v := ?_) rfl rfl (by kernel_rfl) (by kernel_rfl) (by kernel_rfl) (by kernel_rfl) (by kernel_rfl) (fun _ _ _ h => h) (by rfl) ?_ ?_
          rotate_left
          · (intro wS hS; (have z0 := cell_later hS g0; have z1 := cell_later hS g1; have z2 := cell_later hS g2); go_simp; (try with_reducible rfl))
          simp only [List.setIfInBounds_toArray, List.set_cons_zero, List.set_cons_succ]
          refine cm_call 6 148 37 (v := .bool G) (args := ?_) rfl rfl (by kernel_rfl) (by kernel_rfl) (by kernel_rfl) (by kernel_rfl) (by kernel_rfl) (fun _ _ _ h => h) (by rfl) ?_ ?_ ?_
          rotate_left 1
          · (intro wS hS; go_simp; (try with_reducible rfl))
          · (intro wS hS; refine (HIN1.out _ hS).mono ?_; (rintro e w9 ⟨rfl, hb⟩; exact ⟨rfl, Below.next hS hb⟩))
          simp only [List.setIfInBounds_toArray, List.set_cons_zero, List.set_cons_succ]
          refine cm_run 7 149 (v := ?_) rfl rfl (by kernel_rfl) (by kernel_rfl) (by kernel_rfl) (by kernel_rfl) (by kernel_rfl) (fun _ _ _ h => h) (by rfl) ?_ ?_
          rotate_left
          · (intro wS hS; skip; go_simp; (try with_reducible rfl))
          simp only [List.setIfInBounds_toArray, List.set_cons_zero, List.set_cons_succ]
          refine cm_run 8 150 (v := ?_) rfl rfl (by kernel_rfl) (by kernel_rfl) (by kernel_rfl) (by kernel_rfl) (by kernel_rfl) (fun _ _ _ h => h) (by rfl) ?_ ?_
          rotate_left
          · (intro wS hS; skip; go_simp; (try with_reducible rfl))
          simp only [List.setIfInBounds_toArray, List.set_cons_zero, List.set_cons_succ]
          refine cm_run 9 151 (v := ?_) rfl rfl (by kernel_rfl) (by kernel_rfl) (by kernel_rfl) (by kernel_rfl) (by kernel_rfl) (fun _ _ _ h => h) (by rfl) ?_ ?_
          rotate_left
          · (intro wS hS; skip; go_simp; (try with_reducible rfl))
          simp only [List.setIfInBounds_toArray, List.set_cons_zero, List.set_cons_succ]
          refine cm_run 10 152 (v := ?_) rfl rfl (by kernel_rfl) (by kernel_rfl) (by kernel_rfl) (by kernel_rfl) (by kernel_rfl) (fun _ _ _ h => h) (by rfl) ?_ ?_
          rotate_left
          · (intro wS hS; skip; go_simp; (try with_reducible rfl))
          simp only [List.setIfInBounds_toArray, List.set_cons_zero, List.set_cons_succ]
          refine cm_run 11 153 (v := ?_) rfl rfl (by kernel_rfl) (by kernel_rfl) (by kernel_rfl) (by kernel_rfl) (by kernel_rfl) (fun _ _ _ h => h) (by rfl) ?_ ?_
          rotate_left
          · (intro wS hS; skip; go_simp; (try with_reducible rfl))
          simp only [List.setIfInBounds_toArray, List.set_cons_zero, List.set_cons_succ]
          refine cm_run 12 154 (v := ?_) rfl rfl (by kernel_rfl) (by kernel_rfl) (by kernel_rfl) (by kernel_rfl) (by kernel_rfl) (fun _ _ _ h => h) (by rfl) ?_ ?_
          rotate_left
          · (intro wS hS; (have z0 := cell_later hS g0; have z1 := cell_later hS g1; have z2 := cell_later hS g2); go_simp; (try with_reducible rfl))
          simp only [List.setIfInBounds_toArray, List.set_cons_zero, List.set_cons_succ]
          refine cm_call 13 155 37 (v := .bool dl) (args := ?_) rfl rfl (by kernel_rfl) (by kernel_rfl) (by kernel_rfl) (by kernel_rfl) (by kernel_rfl) (fun _ _ _ h => h) (by rfl) ?_ ?_ ?_
          rotate_left 1
          · (intro wS hS; go_simp; (try with_reducible rfl))
          · (intro wS hS; refine (HIN2.out _ hS).mono ?_; (rintro e w9 ⟨rfl, hb⟩; exact ⟨rfl, Below.next hS hb⟩))
          simp only [List.setIfInBounds_toArray, List.set_cons_zero, List.set_cons_succ]
          refine cm_run 14 22 (v := ?_) rfl rfl (by kernel_rfl) (by kernel_rfl) (by kernel_rfl) (by kernel_rfl) (by kernel_rfl) (fun _ _ _ h => h) (by rfl) ?_ ?_
          rotate_left
          · (intro wS hS; skip; go_simp; (try with_reducible rfl))
          simp only [List.setIfInBounds_toArray, List.set_cons_zero, List.set_cons_succ]
          refine cm_run 15 23 (v := ?_) rfl rfl (by kernel_rfl) (by kernel_rfl) (by kernel_rfl) (by kernel_rfl) (by kernel_rfl) (fun _ _ _ h => h) (by rfl) ?_ ?_
          rotate_left
          · (intro wS hS; skip; go_simp; (try with_reducible rfl))
          simp only [List.setIfInBounds_toArray, List.set_cons_zero, List.set_cons_succ]
          refine cm_done (by kernel_rfl) ?_
          intro wS hS
          refine NoPanic.normal ?_
          replace HBq := Lib.hid (Below.next HBq.out hS)
          clear hS g0 g1 g2 HIN1 HIN2
          obtain ⟨q1, q2, q3, q4, q5, q6, q7⟩ := HON2.out
          have HKR : Hid ((decide (0 < k + 1) && any7 l) = E2) := Lib.hid (by rw [HE2.out]; simp)
          clear HON2
          cases ac with
          | false =>
            cases dl with
            | true => exact absurd (q3 rfl) (by simp)
            | false =>
              obtain rfl : A = 0 := q1
              obtain rfl : D = 0 := q2
              obtain rfl : C = 0 := q6 rfl
              obtain rfl : H = 0 := by omega
              cases G with
              | true => exact absurd (q4 rfl).1 (by simp)
              | false => ((try clear q1); (try clear q2); (try clear q3); (try clear q4); (try clear q5); (try clear q6); (try clear q7); go_wp2_with fail; go_roundw; (case rel => exact ⟨k + 1, by have := HKL.out; omega, by go_num, by rw [HKR.out], HBq.out⟩); (case measure => simp [intOf]; have := HKL.out; omega))
          | true =>
            obtain rfl : A = 1 := q1
            have hC1 := q7 rfl
            have z1 : decide ((H : Int) > (C : Int)) = false := nb (by omega)
            have z1' : decide (C < H) = false := nb (by omega)
            have z2 : ((C : Int) == 0) = false := by simp; omega
            have z3 : ¬ C = 0 := by omega
            cases dl with
            | true =>
              obtain rfl : D = 1 := q2
              cases G with
              | true => exact absurd (q4 rfl).2.1 (by simp)
              | false =>
                clear hC1
                ((try clear q1); (try clear q2); (try clear q3); (try clear q4); (try clear q5); (try clear q6); (try clear q7); go_wp2_with fail; go_roundw; (case rel => exact ⟨k + 1, by have := HKL.out; omega, by go_num, by rw [HKR.out], HBq.out⟩); (case measure => simp [intOf]; have := HKL.out; omega))
            | false =>
              obtain rfl : D = 0 := q2
              cases G with
              | true =>
                obtain rfl : H = 0 := (q4 rfl).2.2
                clear hC1
                ((try clear q1); (try clear q2); (try clear q3); (try clear q4); (try clear q5); (try clear q6); (try clear q7); go_wp2_with fail; go_roundw; (case rel => exact ⟨k + 1, by have := HKL.out; omega, by go_num, by rw [HKR.out], HBq.out⟩); (case measure => simp [intOf]; have := HKL.out; omega))
              | false =>
                clear hC1
                ((try clear q1); (try clear q2); (try clear q3); (try clear q4); (try clear q5); (try clear q6); (try clear q7); go_wp2_with fail; go_roundw; (case rel => exact ⟨k + 1, by have := HKL.out; omega, by go_num, by rw [HKR.out], HBq.out⟩); (case measure => simp [intOf]; have := HKL.out; omega))
    · obtain rfl : k = N := by omega
      have d2 : decide ((k : Int) < (k : Int)) = false := nb (by omega)
      replace HB := Lib.hid (HB.out.trans (hB.mono HB.out.size))
      obtain ⟨E7, hE7⟩ : ∃ E7, any7 l = E7 := ⟨_, rfl⟩
      have hH : H0 = E7 := by rw [← HH0.out, hE7, yb (show 0 < k by have := HTN.out.sm.pos; have := HN.out; omega)]; rfl
      subst hH
      cases H0 with
      | true =>
        clear hB hlt hk hE7
        go_wp2_with fail
        go_ret
        exact ⟨rfl, HB.out⟩
      | false =>
        have h9 := HTN.out.none_lost hE7
        rw [HLO.out] at h9
        obtain rfl : m4 = 0 := by have := HM4.out; rw [h9] at this; exact this.symm
        clear hB hlt hk hE7 h9
        go_wp2_with fail
        go_ret
        exact ⟨rfl, HB.out⟩
end Go.Proofs.YtcjlbpndgjapiaaDoor
