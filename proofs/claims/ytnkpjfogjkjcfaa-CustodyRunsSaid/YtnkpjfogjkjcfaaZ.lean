


/- Custody: Run: the program. -/
import Derived.Test.YtnkpjfogjkjcfaaW
namespace Go.Proofs.Ytnkpjfogjkjcfaa
open Go.RowKit
set_option linter.unusedSimpArgs false
set_option linter.unusedVariables false
set_option maxRecDepth 100000

/-- how many tags a node may hold -/
def TgB (k : Nat) (X : Wd) : Prop := ∀ c, c ∈ X.cs → c.tk.length ≤ k ∧ c.kp.length ≤ k
theorem TgB.gc {k : Nat} {X : Wd} (h : TgB k X) (i : Nat) : (gc X.cs i).tk.length ≤ k ∧ (gc X.cs i).kp.length ≤ k := by
  by_cases hi : i < X.cs.length
  · have e : Go.Proofs.Ytnkpjfogjkjcfaa.gc X.cs i = X.cs[i] := by
      show X.cs.getD i cp0 = _
      rw [List.getD_eq_getElem?_getD, List.getElem?_eq_getElem hi]
      rfl
    rw [e]
    exact h _ (List.getElem_mem hi)
  · have e : Go.Proofs.Ytnkpjfogjkjcfaa.gc X.cs i = cp0 := by
      show X.cs.getD i cp0 = _
      rw [List.getD_eq_getElem?_getD, List.getElem?_eq_none (by omega)]
      rfl
    rw [e]
    exact ⟨Nat.zero_le _, Nat.zero_le _⟩
theorem TgB.sml {k : Nat} {X : Wd} (h : TgB k X) (ho : Okw X) (hk : k ≤ 100000) : Sml X :=
  ⟨by have := ho.2.1; omega, by have := okw_len ho; omega, fun i => ⟨Nat.le_trans (h.gc i).1 hk, Nat.le_trans (h.gc i).2 hk⟩⟩
theorem TgB.setC {k k' : Nat} {X : Wd} (h : TgB k X) (hk : k ≤ k') (n : Int) (c : Cp) (hc : c.tk.length ≤ k' ∧ c.kp.length ≤ k') : TgB k' (setC X n c) := by
  intro d hd
  rcases List.mem_or_eq_of_mem_set hd with hd | rfl
  · exact ⟨Nat.le_trans (h d hd).1 hk, Nat.le_trans (h d hd).2 hk⟩
  · exact hc
theorem ansC_tk (d : Bool) (c : Cp) (t : Tg) (r : Bool) {k : Nat} (h : c.tk.length ≤ k ∧ c.kp.length ≤ k) : (ansC d c t r).tk.length ≤ k + 1 ∧ (ansC d c t r).kp.length ≤ k + 1 := by
  unfold ansC
  split
  · exact ⟨by omega, by omega⟩
  · split
    · exact ⟨by show (insG c.tk t).length ≤ _; rw [ins_len]; omega, by show c.kp.length ≤ _; omega⟩
    · exact ⟨by show (insG c.tk t).length ≤ _; rw [ins_len]; omega, by show (insG c.kp t).length ≤ _; rw [ins_len]; omega⟩
theorem TgB.pas {k : Nat} {X : Wd} (h : TgB k X) (r : Bool) (f : Ps) : TgB (k + 1) (pasW r X f) := by
  have h1 : (atC X f.tt).tk.length ≤ k ∧ (atC X f.tt).kp.length ≤ k := h.gc _
  unfold pasW
  split
  · exact h.setC (Nat.le_succ _) _ _ (ansC_tk _ _ _ _ h1)
  · split
    · exact h.setC (Nat.le_succ _) _ _ ⟨by show (atC X f.tt).tk.length ≤ _; omega, by show (atC X f.tt).kp.length ≤ _; omega⟩
    · intro c hc
      have := h c hc
      exact ⟨by omega, by omega⟩
theorem TgB.mv {k : Nat} {X : Wd} (h : TgB k X) (r : Bool) (m : Mv) : TgB (k + 1) (mvW r X m) := by
  have h0 : TgB (k + 1) X := fun c hc => ⟨Nat.le_succ_of_le (h c hc).1, Nat.le_succ_of_le (h c hc).2⟩
  have h1 : (atC X m.nd).tk.length ≤ k ∧ (atC X m.nd).kp.length ≤ k := h.gc _
  unfold mvW
  split
  · exact h.setC (Nat.le_succ _) _ _ ⟨by show (atC X m.nd).tk.length ≤ _; omega, by show (atC X m.nd).kp.length ≤ _; omega⟩
  split
  · exact TgB.pas (X := outF X m.n.toNat) h r _
  split
  · exact h0
  split
  · exact h0
  split
  · exact h.setC (Nat.le_succ _) _ _ ⟨by rw [hld_tk]; omega, by rw [hld_kp]; omega⟩
  · intro c hc
    obtain ⟨d, hd, rfl⟩ := List.mem_map.1 hc
    have h2 : TgB (k + 1) (Go.Proofs.Ytnkpjfogjkjcfaa.setC X m.nd { hld (atC X m.nd) with tk := [], kp := [] }) := h.setC (Nat.le_succ _) _ _ ⟨Nat.zero_le _, Nat.zero_le _⟩
    have := h2 d hd
    split
    · rw [hld_tk, hld_kp]; exact this
    · exact this
def Mv.vs (m : Mv) : List Value := [.int .i64 m.kd, .int .i64 m.nd, .int .i64 m.ot, .int .i64 m.n]
def m0' : Mv := ⟨0, 0, 0, 0⟩
def mvR : RowT Mv := ⟨4, Mv.vs, m0', by decide, fun _ => rfl, fun t u hu => by
  simp only [Mv.vs, List.mem_cons, List.mem_nil_iff, or_false] at hu
  rcases hu with rfl | rfl | rfl | rfl <;> rfl⟩
abbrev gm (l : List Mv) (i : Nat) : Mv := l.getD i m0'
abbrev MA (w : World) (b o : Nat) (t : Mv) : Prop := w.cell? ⟨b, o, none⟩ = some (.int .i64 t.kd) ∧ w.cell? ⟨b, o + 1, none⟩ = some (.int .i64 t.nd) ∧ w.cell? ⟨b, o + 2, none⟩ = some (.int .i64 t.ot) ∧ w.cell? ⟨b, o + 3, none⟩ = some (.int .i64 t.n)
theorem RdM.at {w : World} {a : Option Addr} {n c : Nat} {l : List Mv} (h : RdL mvR w (.slice a n c) l) (hn : l.length = n) (k : Nat) (hk : k < n) : ∃ b off, a = some ⟨b, off, none⟩ ∧ n ≤ c ∧ MA w b (off + k * 4) (gm l k) := by
  obtain ⟨b, off, rfl, hc, ra⟩ := RdL.at h hn k hk
  exact ⟨b, off, rfl, hc, ra 0 _ rfl, ra 1 _ rfl, ra 2 _ rfl, ra 3 _ rfl⟩
/-- runW goes on where the first k moves led -/
theorem runW_step {X : Wd} {l : List Mv} {k : Nat} (hk : k < l.length) : runW X (l.drop k) k = if stpE X (gm l k) = 0 then runW (mvW false X (gm l k)) (l.drop (k + 1)) (k + 1) else (X, k, stpE X (gm l k)) := by
  have e : l.drop k = gm l k :: l.drop (k + 1) := by
    rw [List.drop_eq_getElem_cons hk]
    congr 1
    show _ = l.getD k m0'
    rw [List.getD_eq_getElem?_getD, List.getElem?_eq_getElem hk]
    rfl
  rw [e]
  rfl
theorem runW_end {X : Wd} {l : List Mv} : runW X (l.drop l.length) l.length = (X, l.length, 0) := by
  rw [List.drop_length]
  rfl
/-- what Run answers -/
def RnR (w : World) (r : Wd × Nat × Int) (e : Ending) (w' : World) : Prop := ∃ u, e = .returned (.tuple #[u, .int .i64 (r.2.1 : Int), .int .i64 r.2.2]) ∧ Below w.heap.size w w' ∧ RdF w' w.heap.size u r.1
/-- between two moves of a run -/
structure RnI (w : World) (l : List Mv) (X0 : Wd) (k0 : Nat) (j : Nat) (X : Wd) (a : Option Addr) (c : Nat) (fa : Option Addr) (fc : Nat) (q : List Cq) (wr : World) : Prop where
  box : BoxN wr w.heap.size 25 #[.int .i64 X.ds, .slice a q.length c, .slice fa X.fr.length fc]
  rd : PtF wr (w.heap.size + 2) (.slice a q.length c) (.slice fa X.fr.length fc) q X
  res : BoxN wr (w.heap.size + 1) 25 #[.int .i64 0, .slice none 0 0, .slice none 0 0]
  bel : Below w.heap.size w wr
  ok : Okw X
  tg : TgB (k0 + j) X
  run : runW X0 l 0 = runW X (l.drop j) j
  sz : w.heap.size + 2 ≤ wr.heap.size
set_option maxHeartbeats 1000000 in
theorem run_any (w : World) (v mv : Value) (X : Wd) (l : List Mv) (k0 : Nat) (hk0 : k0 + l.length ≤ 100000) (htg : TgB k0 X) (h : RdW w v X) (hm : RdL mvR w mv l) :
    Calls Try.prog 15 #[v, mv] w (RnR w (ruW X l)) := by
  obtain ⟨cv, fv0, q0, rfl, hp⟩ := h
  obtain ⟨a, c, rfl⟩ := hp.rows.form
  obtain ⟨fa, fc, rfl⟩ := hp.frs.form
  obtain ⟨ma, mc, rfl⟩ := hm.form
  obtain ⟨L, hL⟩ : ∃ L, l.length = L := ⟨_, rfl⟩
  have HL := Lib.hid hL
  rw [hL] at hm hk0 ⊢
  have HM := Lib.hid hm
  clear hL hm
  obtain ⟨N, hN⟩ : ∃ N, q0.length = N := ⟨_, rfl⟩
  obtain ⟨F, hF⟩ : ∃ F, X.fr.length = F := ⟨_, rfl⟩
  rw [hN] at hp ⊢
  rw [hF] at hp ⊢
  clear hN hF
  obtain ⟨rr, HRR⟩ : ∃ rr, Hid (ruW X l = rr) := ⟨_, Lib.hid rfl⟩
  rw [HRR.out]
  obtain ⟨W, hW⟩ : ∃ W : World, W = (w.alloc (.cells #[.int .i64 X.ds, .slice a N c, .slice fa F fc] 25)).alloc (.cells #[.int .i64 0, .slice none 0 0, .slice none 0 0] 25) := ⟨_, rfl⟩
  have hB0 : Below w.heap.size w W := by rw [hW]; exact (by repeat (first | assumption | exact Below.refl _ _ | apply Below.al | apply below_drewN | apply Below.drew | refine Below.next ?_ (by assumption)))
  have hWs : w.heap.size + 2 = W.heap.size := by rw [hW]; simp
  have hWs : w.heap.size + 2 ≤ W.heap.size := by omega
  have bX : BoxN W w.heap.size 25 #[.int .i64 X.ds, .slice a N c, .slice fa F fc] := by rw [hW]; exact (BoxN.new w _ _).below (by repeat (first | assumption | exact Below.refl _ _ | apply Below.al | apply below_drewN | apply Below.drew | refine Below.next ?_ (by assumption)))
  have bT : BoxN W (w.heap.size + 1) 25 #[.int .i64 0, .slice none 0 0, .slice none 0 0] := by
    rw [hW]
    have := BoxN.new (w.alloc (.cells #[.int .i64 X.ds, .slice a N c, .slice fa F fc] 25)) 25 #[.int .i64 0, .slice none 0 0, .slice none 0 0]
    simpa using this
  have HRD : Hid (RdW W (wV X (.slice a N c) (.slice fa F fc)) X) := Lib.hid ⟨_, _, _, rfl, hp.keep hB0⟩
  have HBX := Lib.hid bX
  have HBT := Lib.hid bT
  have HTG := Lib.hid htg
  have x0 : W.cell? ⟨w.heap.size, 0, none⟩ = some (.int .i64 X.ds) := bX.cell 0
  have x1 : W.cell? ⟨w.heap.size, 1, none⟩ = some (.slice a N c) := bX.cell 1
  have x2 : W.cell? ⟨w.heap.size, 2, none⟩ = some (.slice fa F fc) := bX.cell 2
  clear bX bT hp htg
  go_enter Try.func15, Try.ntmps15
  go_upto_region 1 with fail
  rw [← hW]
  clear hW
  by_cases ho : Okw X
  · have HCK := Lib.hid (check_any W _ X 0 (by unfold chkE; exact if_pos ho) HRD.out)
    have HO := Lib.hid ho
    have hrun : rr = runW X l 0 := by rw [← HRR.out]; unfold ruW; rw [if_pos ho]
    have HRN := Lib.hid hrun
    clear ho hrun
    go_wp2_with fail
    refine HCK.out.mono ?_
    rintro e w1 ⟨rfl, hb1⟩
    have hB1 := Below.next hB0 hb1
    have x0 := cell_later hb1 x0
    have x1 := cell_later hb1 x1
    have x2 := cell_later hb1 x2
    have hw1 := hb1.size
    have HB1 := Lib.hid hb1
    have HOWN := Lib.hid (own_any w1 _ X (HRD.out.keep hb1) (HTG.out.sml HO.out (by omega)) (by have := HO.out.1; omega))
    clear hb1
    go_wp2_with fail
    refine HOWN.out.mono ?_
    rintro e w2 ⟨p, g, cap, fv, q, rfl, hop2, hb2⟩
    obtain ⟨fa2, fc2, hfv⟩ := owns_form hop2.or.frs
    subst hfv
    have hlen := hop2.or.len
    have p0 : w2.cell? ⟨p, 0, none⟩ = some (.int .i64 X.ds) := hop2.box.cell 0
    have p1 : w2.cell? ⟨p, 1, none⟩ = some (.slice (some ⟨g, 0, none⟩) q.length cap) := by rw [hlen]; exact hop2.box.cell 1
    have p2 : w2.cell? ⟨p, 2, none⟩ = some (.slice fa2 X.fr.length fc2) := hop2.box.cell 2
    have hbW := HB1.out.trans (hb2.mono hw1)
    have e2 := HBX.out.below hbW
    have e4 := HBT.out.below hbW
    have y0 : w2.cell? ⟨w.heap.size, 0, none⟩ = some (.int .i64 X.ds) := e2.cell 0
    have y1 : w2.cell? ⟨w.heap.size, 1, none⟩ = some (.slice a N c) := e2.cell 1
    have y2 : w2.cell? ⟨w.heap.size, 2, none⟩ = some (.slice fa F fc) := e2.cell 2
    have z0 := e2.frozen 0
    have z1 := e2.frozen 1
    have z2 := e2.frozen 2
    have hw2 := hb2.size
    have hpf := PtF.of_or hop2.or
    rw [← hlen] at hpf
    obtain ⟨w3, hw3⟩ : ∃ w3 : World, w3 = ((w2.setCell ⟨w.heap.size, 0, none⟩ (.int .i64 X.ds)).setCell ⟨w.heap.size, 1, none⟩ (.slice (some ⟨g, 0, none⟩) q.length cap)).setCell ⟨w.heap.size, 2, none⟩ (.slice fa2 X.fr.length fc2) := ⟨_, rfl⟩
    have HI0 : Hid (RnI w l X k0 0 X (some ⟨g, 0, none⟩) cap fa2 fc2 q w3) := Lib.hid (by
      rw [hw3]
      refine ⟨((e2.setc 0 _).setc 1 _).setc 2 _, ?_, ?_, ?_, HO.out, HTG.out, by rw [List.drop_zero], by simp; omega⟩
      · exact (((hpf.set (p := ⟨w.heap.size, 0, none⟩) _ (by show w.heap.size < w1.heap.size; omega)).set (p := ⟨w.heap.size, 1, none⟩) _ (by show w.heap.size < w1.heap.size; omega)).set (p := ⟨w.heap.size, 2, none⟩) _ (by show w.heap.size < w1.heap.size; omega)).mono (by omega)
      · exact (((kx_cell w2 w.heap.size 0 _).setCell (.inl rfl) _).setCell (.inl rfl) _).box (by omega) e4
      · exact (((Below.next hB1 hb2).setCell (p := ⟨w.heap.size, 0, none⟩) (Nat.le_refl _) _).setCell (p := ⟨w.heap.size, 1, none⟩) (Nat.le_refl _) _).setCell (p := ⟨w.heap.size, 2, none⟩) (Nat.le_refl _) _)
    clear hpf e2 e4 hbW hb2 hB1 hop2 hlen x0 x1 x2
    go_upto_region 5 with fail
    rw [← hw3]
    clear hw3 p0 p1 p2 y0 y1 y2 z0 z1 z2
    go_wp2_with fail
    go_loopw [25] (fun jv wr => ∃ (j : Nat) (Xj : Wd) (a : Option Addr) (c : Nat) (fa : Option Addr) (fc : Nat) (q : List Cq), j ≤ L ∧ jv = .int .i64 j ∧ RnI w l X k0 j Xj a c fa fc q wr) (fun jv _ => L - (intOf jv).toNat)
    case atStart => exact ⟨0, _, _, _, _, _, _, Nat.zero_le _, rfl, HI0.out⟩
    case round =>
      obtain ⟨j, Xj, a9, c9, fa9, fc9, q9, hj, rfl, hI⟩ := hrel
      have HI := Lib.hid hI
      clear hI
      have x0 : wr.cell? ⟨w.heap.size, 0, none⟩ = some (.int .i64 Xj.ds) := HI.out.box.cell 0
      have x1 : wr.cell? ⟨w.heap.size, 1, none⟩ = some (.slice a9 q9.length c9) := HI.out.box.cell 1
      have x2 : wr.cell? ⟨w.heap.size, 2, none⟩ = some (.slice fa9 Xj.fr.length fc9) := HI.out.box.cell 2
      have hwr := HI.out.sz
      by_cases hlt : j < L
      · have d2 : decide ((j : Int) < (L : Int)) = true := yb (by omega)
        obtain ⟨mb, mo, rfl, hmc, g0, g1, g2, g3⟩ := RdM.at (HM.out.keep HI.out.bel) HL.out j hlt
        obtain ⟨y, HY⟩ : ∃ y, Hid (gm l j = y) := ⟨_, Lib.hid rfl⟩
        rw [HY.out] at g0 g1 g2 g3
        have n1 : (0 : Int) ≤ (j : Int) := by omega
        have n2 : (j : Int) < (L : Int) := by omega
        have hwk : IntKind.i64.wrap ((j : Int) + 1) = (j : Int) + 1 := IntWalk.i64_in _ (by omega)
        obtain ⟨W2, hW2⟩ : ∃ W2 : World, W2 = wr.alloc (.cells #[.int .i64 y.kd, .int .i64 y.nd, .int .i64 y.ot, .int .i64 y.n] 40) := ⟨_, rfl⟩
        have hb2 : Below wr.heap.size wr W2 := by rw [hW2]; exact (by repeat (first | assumption | exact Below.refl _ _ | apply Below.al | apply below_drewN | apply Below.drew | refine Below.next ?_ (by assumption)))
        have hs2 : wr.heap.size ≤ W2.heap.size := hb2.size
        have bm : BoxN W2 wr.heap.size 40 #[.int .i64 y.kd, .int .i64 y.nd, .int .i64 y.ot, .int .i64 y.n] := by rw [hW2]; exact BoxN.new _ _ _
        have s0 : W2.cell? ⟨wr.heap.size, 0, none⟩ = some (.int .i64 y.kd) := bm.cell 0
        have s1 : W2.cell? ⟨wr.heap.size, 1, none⟩ = some (.int .i64 y.nd) := bm.cell 1
        have s2 : W2.cell? ⟨wr.heap.size, 2, none⟩ = some (.int .i64 y.ot) := bm.cell 2
        have s3 : W2.cell? ⟨wr.heap.size, 3, none⟩ = some (.int .i64 y.n) := bm.cell 3
        have x0' := cell_later hb2 x0
        have x1' := cell_later hb2 x1
        have x2' := cell_later hb2 x2
        have hst := step_any W2 _ Xj y (HI.out.tg.sml HI.out.ok (by omega)) (⟨_, _, _, rfl, HI.out.rd.pt.keep hb2⟩ : RdW W2 (wV Xj (.slice a9 q9.length c9) (.slice fa9 Xj.fr.length fc9)) Xj)
        have hrs := runW_step (X := Xj) (l := l) (k := j) (by rw [HL.out]; exact hlt)
        rw [HY.out] at hrs
        obtain ⟨er, her⟩ : ∃ er, stpE Xj y = er := ⟨_, rfl⟩
        obtain ⟨XE, hXE⟩ : ∃ XE, stpW false Xj y = XE := ⟨_, rfl⟩
        have hok := fun h0 : er = 0 => okw_mv (r := false) (her.trans h0)
        rw [her] at hst hrs
        rw [hXE] at hst
        have HST := Lib.hid hst
        have HRS := Lib.hid hrs
        have HXE := Lib.hid hXE
        have HER := Lib.hid her
        have HOK := Lib.hid hok
        have HB2 := Lib.hid hb2
        clear hst hrs hXE her hok bm hb2
        go_upto_region 8 with fail
        rw [← hW2]
        clear hW2 g0 g1 g2 g3 x0 x1 x2
        by_cases he : er = 0
        · subst he
          go_wp2_with fail
          refine HST.out.mono ?_
          rintro e w4 ⟨u, rfl, hb4, hu⟩
          obtain ⟨cv4, fv4, q4, rfl, hp4⟩ := hu
          obtain ⟨a4, c4, rfl⟩ := hp4.pt.rows.form
          obtain ⟨fa4, fc4, rfl⟩ := hp4.pt.frs.form
          obtain ⟨W5, hW5⟩ : ∃ W5 : World, W5 = w4.alloc (.cells #[.int .i64 XE.ds, .slice a4 q4.length c4, .slice fa4 XE.fr.length fc4] 25) := ⟨_, rfl⟩
          have hb5 : Below wr.heap.size wr W5 := by rw [hW5]; exact Below.al (HB2.out.trans (hb4.mono hs2)) _
          have hp5 : PtF W5 W2.heap.size (.slice a4 q4.length c4) (.slice fa4 XE.fr.length fc4) q4 XE := by rw [hW5]; exact hp4.keep (Below.al (Below.refl _ _) _)
          have b10 : BoxN W5 w4.heap.size 25 #[.int .i64 XE.ds, .slice a4 q4.length c4, .slice fa4 XE.fr.length fc4] := by rw [hW5]; exact BoxN.new _ _ _
          have hs4 : W2.heap.size ≤ w4.heap.size := hb4.size
          have hs5 : wr.heap.size ≤ W5.heap.size := hb5.size
          have bx := HI.out.box.below hb5
          have x0 : W5.cell? ⟨w.heap.size, 0, none⟩ = some (.int .i64 Xj.ds) := bx.cell 0
          have x1 : W5.cell? ⟨w.heap.size, 1, none⟩ = some (.slice a9 q9.length c9) := bx.cell 1
          have x2 : W5.cell? ⟨w.heap.size, 2, none⟩ = some (.slice fa9 Xj.fr.length fc9) := bx.cell 2
          have z0 := bx.frozen 0
          have z1 := bx.frozen 1
          have z2 := bx.frozen 2
          have r0 : W5.cell? ⟨w4.heap.size, 0, none⟩ = some (.int .i64 XE.ds) := b10.cell 0
          have r1 : W5.cell? ⟨w4.heap.size, 1, none⟩ = some (.slice a4 q4.length c4) := b10.cell 1
          have r2 : W5.cell? ⟨w4.heap.size, 2, none⟩ = some (.slice fa4 XE.fr.length fc4) := b10.cell 2
          obtain ⟨w6, hw6⟩ : ∃ w6 : World, w6 = ((W5.setCell ⟨w.heap.size, 0, none⟩ (.int .i64 XE.ds)).setCell ⟨w.heap.size, 1, none⟩ (.slice a4 q4.length c4)).setCell ⟨w.heap.size, 2, none⟩ (.slice fa4 XE.fr.length fc4) := ⟨_, rfl⟩
          have HIn : Hid (RnI w l X k0 (j + 1) XE a4 c4 fa4 fc4 q4 w6) := Lib.hid (by
            have hxm : XE = mvW false Xj y := by rw [← HXE.out]; unfold stpW; rw [if_pos HER.out]
            rw [hw6]
            refine ⟨((bx.setc 0 _).setc 1 _).setc 2 _, ?_, ?_, ?_, by rw [hxm]; first | exact HOK.out rfl | exact HOK.out trivial, by rw [hxm]; exact HI.out.tg.mv false y, ?_, by simp; omega⟩
            · exact (((hp5.set (p := ⟨w.heap.size, 0, none⟩) _ (by show w.heap.size < W2.heap.size; omega)).set (p := ⟨w.heap.size, 1, none⟩) _ (by show w.heap.size < W2.heap.size; omega)).set (p := ⟨w.heap.size, 2, none⟩) _ (by show w.heap.size < W2.heap.size; omega)).mono (by omega)
            · exact (((kx_cell W5 w.heap.size 0 _).setCell (.inl rfl) _).setCell (.inl rfl) _).box (by omega) (HI.out.res.below hb5)
            · exact (((Below.next HI.out.bel hb5).setCell (p := ⟨w.heap.size, 0, none⟩) (Nat.le_refl _) _).setCell (p := ⟨w.heap.size, 1, none⟩) (Nat.le_refl _) _).setCell (p := ⟨w.heap.size, 2, none⟩) (Nat.le_refl _) _
            · rw [HI.out.run, HRS.out, if_pos (by trivial), hxm])
          clear hp4 hb4 hb5 hp5 b10 bx x0' x1' x2' s0 s1 s2 s3
          go_upto_region 9 with fail
          rw [← hW5]
          clear hW5
          go_upto_region 12 with fail
          rw [← hw6]
          clear hw6 x0 x1 x2 z0 z1 z2 r0 r1 r2
          go_wp2_with fail
          go_roundw
          case rel => exact ⟨j + 1, XE, a4, c4, fa4, fc4, q4, by omega, by go_num, HIn.out⟩
          case measure => simp [intOf]; omega
        · have d3 : (er != 0) = true := by simpa using he
          have hrs := HRS.out
          rw [if_neg he] at hrs
          have HEND : Hid (rr = (Xj, j, er)) := Lib.hid (by rw [HRN.out, HI.out.run]; exact hrs)
          clear he hrs
          go_wp2_with fail
          refine HST.out.mono ?_
          rintro e w4 ⟨u, rfl, hb4, hu⟩
          obtain ⟨cv4, fv4, q4, rfl, hp4⟩ := hu
          obtain ⟨a4, c4, rfl⟩ := hp4.pt.rows.form
          obtain ⟨fa4, fc4, rfl⟩ := hp4.pt.frs.form
          obtain ⟨W5, hW5⟩ : ∃ W5 : World, W5 = w4.alloc (.cells #[.int .i64 XE.ds, .slice a4 q4.length c4, .slice fa4 XE.fr.length fc4] 25) := ⟨_, rfl⟩
          have hb5 : Below wr.heap.size wr W5 := by rw [hW5]; exact Below.al (HB2.out.trans (hb4.mono hs2)) _
          clear hp4 hb4
          have HRES := Lib.hid (HI.out.res.below hb5)
          have HBE := Lib.hid (Below.next HI.out.bel hb5)
          have HPF := Lib.hid (HI.out.rd.keep hb5)
          have x0 := cell_later hb5 (HI.out.box.cell 0)
          have x1 := cell_later hb5 (HI.out.box.cell 1)
          have x2 := cell_later hb5 (HI.out.box.cell 2)
          have x0 : W5.cell? ⟨w.heap.size, 0, none⟩ = some (.int .i64 Xj.ds) := x0
          have x1 : W5.cell? ⟨w.heap.size, 1, none⟩ = some (.slice a9 q9.length c9) := x1
          have x2 : W5.cell? ⟨w.heap.size, 2, none⟩ = some (.slice fa9 Xj.fr.length fc9) := x2
          clear hb5 x0' x1' x2' s0 s1 s2 s3
          go_upto_region 9 with fail
          rw [← hW5]
          clear hW5
          have t0 : World.cell? W5 ⟨w.heap.size + 1, 0, none⟩ = some (.int .i64 0) := HRES.out.cell 0
          have t1 : World.cell? W5 ⟨w.heap.size + 1, 1, none⟩ = some (.slice none 0 0) := HRES.out.cell 1
          have t2 : World.cell? W5 ⟨w.heap.size + 1, 2, none⟩ = some (.slice none 0 0) := HRES.out.cell 2
          have z0 := HRES.out.frozen 0
          have z1 := HRES.out.frozen 1
          have z2 := HRES.out.frozen 2
          go_wp2_with fail
          rw [HEND.out]
          refine bodyPost_ret (v := .tuple #[.agg #[.int .i64 (Xj).ds, .slice a9 (q9).length c9, .slice fa9 (Xj).fr.length fc9], .int .i64 (j : Int), .int .i64 er]) (by simp [results, Try.results15, go_sem, t0, t1, t2]) rfl ⟨_, rfl, ?_, ⟨_, _, q9, rfl, ?_⟩⟩
          · exact ((HBE.out.setCell (p := ⟨w.heap.size + 1, 0, none⟩) (Nat.le_succ _) _).setCell (p := ⟨w.heap.size + 1, 1, none⟩) (Nat.le_succ _) _).setCell (p := ⟨w.heap.size + 1, 2, none⟩) (Nat.le_succ _) _
          · exact (((HPF.out.set (p := ⟨w.heap.size + 1, 0, none⟩) _ (Nat.lt_succ_self _)).set (p := ⟨w.heap.size + 1, 1, none⟩) _ (Nat.lt_succ_self _)).set (p := ⟨w.heap.size + 1, 2, none⟩) _ (Nat.lt_succ_self _)).mono (by omega)
      · obtain rfl : j = L := by omega
        have d2 : decide ((j : Int) < (j : Int)) = false := nb (by omega)
        have HEND : Hid (rr = (Xj, j, 0)) := Lib.hid (by
          rw [HRN.out, HI.out.run, ← HL.out]
          exact runW_end)
        have HRES := Lib.hid HI.out.res
        have HBE := Lib.hid HI.out.bel
        have HPF := Lib.hid HI.out.rd
        have t0 : World.cell? wr ⟨w.heap.size + 1, 0, none⟩ = some (.int .i64 0) := HRES.out.cell 0
        have t1 : World.cell? wr ⟨w.heap.size + 1, 1, none⟩ = some (.slice none 0 0) := HRES.out.cell 1
        have t2 : World.cell? wr ⟨w.heap.size + 1, 2, none⟩ = some (.slice none 0 0) := HRES.out.cell 2
        have z0 := HRES.out.frozen 0
        have z1 := HRES.out.frozen 1
        have z2 := HRES.out.frozen 2
        go_wp2_with fail
        rw [HEND.out]
        refine bodyPost_ret (v := .tuple #[.agg #[.int .i64 (Xj).ds, .slice a9 (q9).length c9, .slice fa9 (Xj).fr.length fc9], .int .i64 (j : Int), .int .i64 0]) (by simp [results, Try.results15, go_sem, t0, t1, t2]) rfl ⟨_, rfl, ?_, ⟨_, _, q9, rfl, ?_⟩⟩
        · exact ((HBE.out.setCell (p := ⟨w.heap.size + 1, 0, none⟩) (Nat.le_succ _) _).setCell (p := ⟨w.heap.size + 1, 1, none⟩) (Nat.le_succ _) _).setCell (p := ⟨w.heap.size + 1, 2, none⟩) (Nat.le_succ _) _
        · exact (((HPF.out.set (p := ⟨w.heap.size + 1, 0, none⟩) _ (Nat.lt_succ_self _)).set (p := ⟨w.heap.size + 1, 1, none⟩) _ (Nat.lt_succ_self _)).set (p := ⟨w.heap.size + 1, 2, none⟩) _ (Nat.lt_succ_self _)).mono (by omega)
  · have HCK := Lib.hid (check_any W _ X 3 (by unfold chkE; exact if_neg ho) HRD.out)
    have hrun : rr = (W0, 0, 3) := by rw [← HRR.out]; unfold ruW; rw [if_neg ho]
    have HRN := Lib.hid hrun
    clear ho hrun
    go_wp2_with fail
    refine HCK.out.mono ?_
    rintro e w1 ⟨rfl, hb1⟩
    have hB1 := Below.next hB0 hb1
    have e3 := HBT.out.below hb1
    have t0 : w1.cell? ⟨w.heap.size + 1, 0, none⟩ = some (.int .i64 0) := e3.cell 0
    have t1 : w1.cell? ⟨w.heap.size + 1, 1, none⟩ = some (.slice none 0 0) := e3.cell 1
    have t2 : w1.cell? ⟨w.heap.size + 1, 2, none⟩ = some (.slice none 0 0) := e3.cell 2
    have z0 := e3.frozen 0
    have z1 := e3.frozen 1
    have z2 := e3.frozen 2
    go_wp2_with fail
    rw [HRN.out]
    refine bodyPost_ret (v := .tuple #[.agg #[.int .i64 0, .slice none 0 0, .slice none 0 0], .int .i64 0, .int .i64 3]) (by simp [results, Try.results15, go_sem, t0, t1, t2]) rfl ⟨_, rfl, ?_, RdF.zero _ _⟩
    exact ((hB1.setCell (p := ⟨w.heap.size + 1, 0, none⟩) (Nat.le_succ _) _).setCell (p := ⟨w.heap.size + 1, 1, none⟩) (Nat.le_succ _) _).setCell (p := ⟨w.heap.size + 1, 2, none⟩) (Nat.le_succ _) _
end Go.Proofs.Ytnkpjfogjkjcfaa
