



/- Custody: a move: the program. -/
import Derived.Test.YtnkpjfogjkjcfaaT
import Derived.Test.YtnkpjfogjkjcfaaQ
import Derived.Test.YtnkpjfogjkjcfaaCw
namespace Go.Proofs.Ytnkpjfogjkjcfaa
open Go.RowKit
set_option linter.unusedSimpArgs false
set_option linter.unusedVariables false
set_option maxRecDepth 100000

/-- a reading whose rows lie at base and beyond -/
structure PtF (w : World) (base : Nat) (cv fv : Value) (q : List Cq) (X : Wd) : Prop where
  pt : PtW w cv fv q X
  fc : Fresh base cv
  ff : Fresh base fv
  ft : ∀ i, Fresh base (gq q i).tv
  fk : ∀ i, Fresh base (gq q i).kv
def RdF (w : World) (base : Nat) (v : Value) (X : Wd) : Prop := ∃ cv fv q, v = wV X cv fv ∧ PtF w base cv fv q X
theorem PtF.set {w : World} {base : Nat} {cv fv : Value} {q : List Cq} {X : Wd} (h : PtF w base cv fv q X) {p : Addr} (u : Value) (hp : p.block < base) : PtF (w.setCell p u) base cv fv q X :=
  ⟨⟨RdS.set u h.pt.rows h.fc hp, RdS.set u h.pt.frs h.ff hp, h.pt.len, fun i => ⟨(h.pt.cop i).st, (h.pt.cop i).tt, (h.pt.cop i).of, (h.pt.cop i).nx, RdS.set u (h.pt.cop i).tk (h.ft i) hp, RdS.set u (h.pt.cop i).kp (h.fk i) hp⟩⟩, h.fc, h.ff, h.ft, h.fk⟩
theorem PtF.keep {w w1 : World} {base : Nat} {cv fv : Value} {q : List Cq} {X : Wd} (hb : Below w.heap.size w w1) (h : PtF w base cv fv q X) : PtF w1 base cv fv q X := ⟨h.pt.keep hb, h.fc, h.ff, h.ft, h.fk⟩
theorem PtF.mono {w : World} {base base' : Nat} {cv fv : Value} {q : List Cq} {X : Wd} (h : PtF w base cv fv q X) (hb : base' ≤ base) : PtF w base' cv fv q X := ⟨h.pt, h.fc.mono hb, h.ff.mono hb, fun i => (h.ft i).mono hb, fun i => (h.fk i).mono hb⟩
theorem PtF.of_or {w : World} {B g cap : Nat} {fv : Value} {q : List Cq} {X : Wd} (h : OR w B g cap fv q X) : PtF w B (.slice (some ⟨g, 0, none⟩) X.cs.length cap) fv q X :=
  ⟨h.pt, Fresh.of_owns h.rows, Fresh.of_owns h.frs, fun i => Fresh.of_owns (h.cop i).tk, fun i => Fresh.of_owns (h.cop i).kp⟩
theorem RdF.zero (w : World) (base : Nat) : RdF w base (.agg #[.int .i64 0, .slice none 0 0, .slice none 0 0]) W0 :=
  ⟨_, _, _, rfl, ⟨PtW.zero w, Fresh.nil _ _ _, Fresh.nil _ _ _, fun i => Fresh.nil _ _ _, fun i => Fresh.nil _ _ _⟩⟩
theorem RdF.rd {w : World} {base : Nat} {v : Value} {X : Wd} (h : RdF w base v X) : RdW w v X := by
  obtain ⟨cv, fv, q, hv, hp⟩ := h
  exact ⟨cv, fv, q, hv, hp.pt⟩
/-- what a move answers -/
def MvR (w : World) (X1 : Wd) (er : Int) (e : Ending) (w' : World) : Prop := ∃ u, e = .returned (.tuple #[u, .int .i64 er]) ∧ Below w.heap.size w w' ∧ RdF w' w.heap.size u X1
/-- one's own world behind p, changed; what lay below B stands -/
def MvS (w1 : World) (B p : Nat) (X : Wd) (w : World) : Prop := ∃ g cap fv q, OP w B p g cap fv q X ∧ Below B w1 w
theorem MvS.chg {w1 w w' : World} {B p g cap : Nat} {fv : Value} {q : List Cq} {X X1 : Wd} (hb : Below B w1 w) (ho : OP w B p g cap fv q X) (hB : B ≤ w.heap.size) (h : ChgF w B p g cap fv q X1 w') : MvS w1 B p X1 w' := by
  obtain ⟨fv', q', h1, h2, h3⟩ := h
  refine ⟨_, _, _, _, h1, hb.trans (h2.below hB (fun k e => ?_))⟩
  rcases e with rfl | e
  · exact ho.ge
  · exact (ho.or.gt_lt e).1
theorem MvS.put {w1 w w' : World} {B p g cap : Nat} {fv : Value} {q q' : List Cq} {X X1 : Wd} (hb : Below B w1 w) (ho : OP w B p g cap fv q X) (hB : B ≤ w.heap.size) (hk : Kx (Mn g fv q) w w') (hor : OR w' B g cap fv q' X1) (hd : X1.ds = X.ds) (hl : X1.cs.length = X.cs.length) : MvS w1 B p X1 w' :=
  ⟨_, _, _, _, ⟨by rw [hd, hl]; exact hk.box ho.ne ho.box, hor, ho.ge⟩, hb.trans (hk.below hB (fun k e => (ho.or.gt_lt e).1))⟩
set_option maxHeartbeats 1000000 in
theorem move_bad (w : World) (v : Value) (X : Wd) (k nd ot n : Int) (rash : Bool) (h : RdW w v X) (ho : ¬ Okw X) :
    Calls Try.prog 44 #[v, .agg #[.int .i64 k, .int .i64 nd, .int .i64 ot, .int .i64 n], .bool rash] w (MvR w W0 3) := by
  obtain ⟨cv, fv0, q0, rfl, hp⟩ := h
  obtain ⟨a, c, rfl⟩ := hp.rows.form
  obtain ⟨fa, fc, rfl⟩ := hp.frs.form
  obtain ⟨N, hN⟩ : ∃ N, q0.length = N := ⟨_, rfl⟩
  obtain ⟨F, hF⟩ : ∃ F, X.fr.length = F := ⟨_, rfl⟩
  rw [hN] at hp ⊢
  rw [hF] at hp ⊢
  clear hN hF
  obtain ⟨W, hW⟩ : ∃ W : World, W = ((w.alloc (.cells #[.int .i64 X.ds, .slice a N c, .slice fa F fc] 25)).alloc (.cells #[.int .i64 (k), .int .i64 nd, .int .i64 ot, .int .i64 (n)] 40)).alloc (.cells #[.int .i64 0, .slice none 0 0, .slice none 0 0] 25) := ⟨_, rfl⟩
  have hB0 : Below w.heap.size w W := by rw [hW]; exact (by repeat (first | assumption | exact Below.refl _ _ | apply Below.al | apply below_drewN | apply Below.drew | refine Below.next ?_ (by assumption)))
  have hWs : w.heap.size + 3 ≤ W.heap.size := by rw [hW]; simp
  have bX : BoxN W w.heap.size 25 #[.int .i64 X.ds, .slice a N c, .slice fa F fc] := by rw [hW]; exact (BoxN.new w _ _).below (by repeat (first | assumption | exact Below.refl _ _ | apply Below.al | apply below_drewN | apply Below.drew | refine Below.next ?_ (by assumption)))
  have bM : BoxN W (w.heap.size + 1) 40 #[.int .i64 (k), .int .i64 nd, .int .i64 ot, .int .i64 (n)] := by
    rw [hW]
    have := BoxN.new (w.alloc (.cells #[.int .i64 X.ds, .slice a N c, .slice fa F fc] 25)) 40 #[.int .i64 (k), .int .i64 nd, .int .i64 ot, .int .i64 (n)]
    have e2 := this.below (Below.al (Below.refl _ _) (.cells #[.int .i64 0, .slice none 0 0, .slice none 0 0] 25))
    simpa using e2
  have bT : BoxN W (w.heap.size + 2) 25 #[.int .i64 0, .slice none 0 0, .slice none 0 0] := by
    rw [hW]
    have := BoxN.new ((w.alloc (.cells #[.int .i64 X.ds, .slice a N c, .slice fa F fc] 25)).alloc (.cells #[.int .i64 (k), .int .i64 nd, .int .i64 ot, .int .i64 (n)] 40)) 25 #[.int .i64 0, .slice none 0 0, .slice none 0 0]
    simpa using this
  have HRD : Hid (RdW W (wV X (.slice a N c) (.slice fa F fc)) X) := Lib.hid ⟨_, _, _, rfl, hp.keep hB0⟩
  have HBM := Lib.hid bM
  have HBT := Lib.hid bT
  have x0 : W.cell? ⟨w.heap.size, 0, none⟩ = some (.int .i64 X.ds) := bX.cell 0
  have x1 : W.cell? ⟨w.heap.size, 1, none⟩ = some (.slice a N c) := bX.cell 1
  have x2 : W.cell? ⟨w.heap.size, 2, none⟩ = some (.slice fa F fc) := bX.cell 2
  clear bX bM bT hp
  go_enter Try.func44, Try.ntmps44
  go_upto_region 1 with fail
  rw [← hW]
  clear hW
  have HCK := Lib.hid (check_any W _ X 3 (by unfold chkE; exact if_neg ho) HRD.out)
  clear ho
  go_wp2_with fail
  refine HCK.out.mono ?_
  rintro e w1 ⟨rfl, hb1⟩
  have hB1 := Below.next hB0 hb1
  have e3 := HBT.out.below hb1
  have t0 : World.cell? w1 ⟨w.heap.size + 2, 0, none⟩ = some (.int .i64 0) := (e3).cell 0
  have t1 : World.cell? w1 ⟨w.heap.size + 2, 1, none⟩ = some (.slice none 0 0) := (e3).cell 1
  have t2 : World.cell? w1 ⟨w.heap.size + 2, 2, none⟩ = some (.slice none 0 0) := (e3).cell 2
  have z0 := (e3).frozen 0
  have z1 := (e3).frozen 1
  have z2 := (e3).frozen 2
  go_wp2_with fail
  refine bodyPost_ret (v := .tuple #[.agg #[.int .i64 0, .slice none 0 0, .slice none 0 0], .int .i64 3]) (by simp [results, Try.results44, go_sem, t0, t1, t2]) rfl ⟨_, rfl, ?_, RdF.zero _ _⟩
  exact (((hB1).setCell (p := ⟨w.heap.size + 2, 0, none⟩) (by show w.heap.size ≤ w.heap.size + 2; omega) _).setCell (p := ⟨w.heap.size + 2, 1, none⟩) (by show w.heap.size ≤ w.heap.size + 2; omega) _).setCell (p := ⟨w.heap.size + 2, 2, none⟩) (by show w.heap.size ≤ w.heap.size + 2; omega) _
set_option maxHeartbeats 1000000 in
theorem move_wrong (w : World) (v : Value) (X : Wd) (k nd ot n : Int) (rash : Bool) (er : Int) (hs : Sml X) (h : RdW w v X) (ho : Okw X) (hf : ftE X ⟨k, nd, ot, n⟩ = er) (hz : er ≠ 0) :
    Calls Try.prog 44 #[v, .agg #[.int .i64 k, .int .i64 nd, .int .i64 ot, .int .i64 n], .bool rash] w (MvR w W0 er) := by
  have d1 : (er != 0) = true := by simpa using hz
  clear hz
  obtain ⟨cv, fv0, q0, rfl, hp⟩ := h
  obtain ⟨a, c, rfl⟩ := hp.rows.form
  obtain ⟨fa, fc, rfl⟩ := hp.frs.form
  obtain ⟨N, hN⟩ : ∃ N, q0.length = N := ⟨_, rfl⟩
  obtain ⟨F, hF⟩ : ∃ F, X.fr.length = F := ⟨_, rfl⟩
  rw [hN] at hp ⊢
  rw [hF] at hp ⊢
  clear hN hF
  obtain ⟨W, hW⟩ : ∃ W : World, W = ((w.alloc (.cells #[.int .i64 X.ds, .slice a N c, .slice fa F fc] 25)).alloc (.cells #[.int .i64 (k), .int .i64 nd, .int .i64 ot, .int .i64 (n)] 40)).alloc (.cells #[.int .i64 0, .slice none 0 0, .slice none 0 0] 25) := ⟨_, rfl⟩
  have hB0 : Below w.heap.size w W := by rw [hW]; exact (by repeat (first | assumption | exact Below.refl _ _ | apply Below.al | apply below_drewN | apply Below.drew | refine Below.next ?_ (by assumption)))
  have hWs : w.heap.size + 3 ≤ W.heap.size := by rw [hW]; simp
  have bX : BoxN W w.heap.size 25 #[.int .i64 X.ds, .slice a N c, .slice fa F fc] := by rw [hW]; exact (BoxN.new w _ _).below (by repeat (first | assumption | exact Below.refl _ _ | apply Below.al | apply below_drewN | apply Below.drew | refine Below.next ?_ (by assumption)))
  have bM : BoxN W (w.heap.size + 1) 40 #[.int .i64 (k), .int .i64 nd, .int .i64 ot, .int .i64 (n)] := by
    rw [hW]
    have := BoxN.new (w.alloc (.cells #[.int .i64 X.ds, .slice a N c, .slice fa F fc] 25)) 40 #[.int .i64 (k), .int .i64 nd, .int .i64 ot, .int .i64 (n)]
    have e2 := this.below (Below.al (Below.refl _ _) (.cells #[.int .i64 0, .slice none 0 0, .slice none 0 0] 25))
    simpa using e2
  have bT : BoxN W (w.heap.size + 2) 25 #[.int .i64 0, .slice none 0 0, .slice none 0 0] := by
    rw [hW]
    have := BoxN.new ((w.alloc (.cells #[.int .i64 X.ds, .slice a N c, .slice fa F fc] 25)).alloc (.cells #[.int .i64 (k), .int .i64 nd, .int .i64 ot, .int .i64 (n)] 40)) 25 #[.int .i64 0, .slice none 0 0, .slice none 0 0]
    simpa using this
  have HRD : Hid (RdW W (wV X (.slice a N c) (.slice fa F fc)) X) := Lib.hid ⟨_, _, _, rfl, hp.keep hB0⟩
  have HBM := Lib.hid bM
  have HBT := Lib.hid bT
  have x0 : W.cell? ⟨w.heap.size, 0, none⟩ = some (.int .i64 X.ds) := bX.cell 0
  have x1 : W.cell? ⟨w.heap.size, 1, none⟩ = some (.slice a N c) := bX.cell 1
  have x2 : W.cell? ⟨w.heap.size, 2, none⟩ = some (.slice fa F fc) := bX.cell 2
  clear bX bM bT hp
  go_enter Try.func44, Try.ntmps44
  go_upto_region 1 with fail
  rw [← hW]
  clear hW
  have HCK := Lib.hid (check_any W _ X 0 (by unfold chkE; exact if_pos ho) HRD.out)
  have HO := Lib.hid ho
  have HF0 := Lib.hid hf
  have HS := Lib.hid hs
  clear ho hf hs
  go_wp2_with fail
  refine HCK.out.mono ?_
  rintro e w1 ⟨rfl, hb1⟩
  have hB1 := Below.next hB0 hb1
  have HB1 := Lib.hid hb1
  have HB1w := Lib.hid hB1
  have x0 := cell_later hb1 x0
  have x1 := cell_later hb1 x1
  have x2 := cell_later hb1 x2
  have hw1 := hb1.size
  have HOWN := Lib.hid (own_any w1 _ X (HRD.out.keep hb1) HS.out (by have := HO.out.1; omega))
  clear hb1
  go_wp2_with fail
  refine HOWN.out.mono ?_
  rintro e w2 ⟨p, g, cap, fv, q, rfl, hop2, hb2⟩
  have HB2 := Lib.hid ((HB1.out).trans (hb2.mono hw1))
  have hB2 := Below.next hB1 hb2
  have hw2 := hb2.size
  have bm2 := HBM.out.below HB2.out
  have m0 : w2.cell? ⟨w.heap.size + 1, 0, none⟩ = some (.int .i64 (k)) := bm2.cell 0
  have m1 : w2.cell? ⟨w.heap.size + 1, 1, none⟩ = some (.int .i64 nd) := bm2.cell 1
  have m2 : w2.cell? ⟨w.heap.size + 1, 2, none⟩ = some (.int .i64 ot) := bm2.cell 2
  have m3 : w2.cell? ⟨w.heap.size + 1, 3, none⟩ = some (.int .i64 (n)) := bm2.cell 3
  have HWR := Lib.hid (wrongM_any w2 p _ _ fv q X ⟨k, nd, ot, n⟩ _ HF0.out hop2.bw)
  have HB12 := Lib.hid hb2
  have HOP2 := Lib.hid hop2
  clear hb2 bm2 hop2 x0 x1 x2
  go_wp2_with fail
  refine HWR.out.mono ?_
  rintro e w3 ⟨rfl, hb3⟩
  have hB3 := Below.next hB2 hb3
  have hw3 := hb3.size
  have m0 := cell_later hb3 m0
  have m1 := cell_later hb3 m1
  have m2 := cell_later hb3 m2
  have m3 := cell_later hb3 m3
  have e3 := HBT.out.below (Below.next HB2.out hb3)
  clear hb3
  have t0 : World.cell? w3 ⟨w.heap.size + 2, 0, none⟩ = some (.int .i64 0) := (e3).cell 0
  have t1 : World.cell? w3 ⟨w.heap.size + 2, 1, none⟩ = some (.slice none 0 0) := (e3).cell 1
  have t2 : World.cell? w3 ⟨w.heap.size + 2, 2, none⟩ = some (.slice none 0 0) := (e3).cell 2
  have z0 := (e3).frozen 0
  have z1 := (e3).frozen 1
  have z2 := (e3).frozen 2
  go_wp2_with fail
  refine bodyPost_ret (v := .tuple #[.agg #[.int .i64 0, .slice none 0 0, .slice none 0 0], .int .i64 er]) (by simp [results, Try.results44, go_sem, t0, t1, t2]) rfl ⟨_, rfl, ?_, RdF.zero _ _⟩
  exact (((hB3).setCell (p := ⟨w.heap.size + 2, 0, none⟩) (by show w.heap.size ≤ w.heap.size + 2; omega) _).setCell (p := ⟨w.heap.size + 2, 1, none⟩) (by show w.heap.size ≤ w.heap.size + 2; omega) _).setCell (p := ⟨w.heap.size + 2, 2, none⟩) (by show w.heap.size ≤ w.heap.size + 2; omega) _
set_option maxHeartbeats 1000000 in
theorem move_6 (w : World) (v : Value) (X : Wd) (nd ot n : Int) (rash : Bool) (hs : Sml X) (h : RdW w v X) (ho : Okw X) (hf : ftE X ⟨6, nd, ot, n⟩ = 0) :
    Calls Try.prog 44 #[v, .agg #[.int .i64 6, .int .i64 nd, .int .i64 ot, .int .i64 n], .bool rash] w (MvR w (mvW rash X ⟨6, nd, ot, n⟩) 0) := by
  have HND := Lib.hid ((ftE_zero hf).nd (.inr (.inr rfl)))
  obtain ⟨XE, HXE⟩ : ∃ XE, Hid (mvW rash X ⟨6, nd, ot, n⟩ = XE) := ⟨_, Lib.hid rfl⟩
  rw [HXE.out]
  obtain ⟨cv, fv0, q0, rfl, hp⟩ := h
  obtain ⟨a, c, rfl⟩ := hp.rows.form
  obtain ⟨fa, fc, rfl⟩ := hp.frs.form
  obtain ⟨N, hN⟩ : ∃ N, q0.length = N := ⟨_, rfl⟩
  obtain ⟨F, hF⟩ : ∃ F, X.fr.length = F := ⟨_, rfl⟩
  rw [hN] at hp ⊢
  rw [hF] at hp ⊢
  clear hN hF
  obtain ⟨W, hW⟩ : ∃ W : World, W = ((w.alloc (.cells #[.int .i64 X.ds, .slice a N c, .slice fa F fc] 25)).alloc (.cells #[.int .i64 (6), .int .i64 nd, .int .i64 ot, .int .i64 (n)] 40)).alloc (.cells #[.int .i64 0, .slice none 0 0, .slice none 0 0] 25) := ⟨_, rfl⟩
  have hB0 : Below w.heap.size w W := by rw [hW]; exact (by repeat (first | assumption | exact Below.refl _ _ | apply Below.al | apply below_drewN | apply Below.drew | refine Below.next ?_ (by assumption)))
  have hWs : w.heap.size + 3 ≤ W.heap.size := by rw [hW]; simp
  have bX : BoxN W w.heap.size 25 #[.int .i64 X.ds, .slice a N c, .slice fa F fc] := by rw [hW]; exact (BoxN.new w _ _).below (by repeat (first | assumption | exact Below.refl _ _ | apply Below.al | apply below_drewN | apply Below.drew | refine Below.next ?_ (by assumption)))
  have bM : BoxN W (w.heap.size + 1) 40 #[.int .i64 (6), .int .i64 nd, .int .i64 ot, .int .i64 (n)] := by
    rw [hW]
    have := BoxN.new (w.alloc (.cells #[.int .i64 X.ds, .slice a N c, .slice fa F fc] 25)) 40 #[.int .i64 (6), .int .i64 nd, .int .i64 ot, .int .i64 (n)]
    have e2 := this.below (Below.al (Below.refl _ _) (.cells #[.int .i64 0, .slice none 0 0, .slice none 0 0] 25))
    simpa using e2
  have bT : BoxN W (w.heap.size + 2) 25 #[.int .i64 0, .slice none 0 0, .slice none 0 0] := by
    rw [hW]
    have := BoxN.new ((w.alloc (.cells #[.int .i64 X.ds, .slice a N c, .slice fa F fc] 25)).alloc (.cells #[.int .i64 (6), .int .i64 nd, .int .i64 ot, .int .i64 (n)] 40)) 25 #[.int .i64 0, .slice none 0 0, .slice none 0 0]
    simpa using this
  have HRD : Hid (RdW W (wV X (.slice a N c) (.slice fa F fc)) X) := Lib.hid ⟨_, _, _, rfl, hp.keep hB0⟩
  have HBM := Lib.hid bM
  have HBT := Lib.hid bT
  have x0 : W.cell? ⟨w.heap.size, 0, none⟩ = some (.int .i64 X.ds) := bX.cell 0
  have x1 : W.cell? ⟨w.heap.size, 1, none⟩ = some (.slice a N c) := bX.cell 1
  have x2 : W.cell? ⟨w.heap.size, 2, none⟩ = some (.slice fa F fc) := bX.cell 2
  clear bX bM bT hp
  go_enter Try.func44, Try.ntmps44
  go_upto_region 1 with fail
  rw [← hW]
  clear hW
  have HCK := Lib.hid (check_any W _ X 0 (by unfold chkE; exact if_pos ho) HRD.out)
  have HO := Lib.hid ho
  have HF0 := Lib.hid hf
  have HS := Lib.hid hs
  clear ho hf hs
  go_wp2_with fail
  refine HCK.out.mono ?_
  rintro e w1 ⟨rfl, hb1⟩
  have hB1 := Below.next hB0 hb1
  have HB1 := Lib.hid hb1
  have HB1w := Lib.hid hB1
  have x0 := cell_later hb1 x0
  have x1 := cell_later hb1 x1
  have x2 := cell_later hb1 x2
  have hw1 := hb1.size
  have HOWN := Lib.hid (own_any w1 _ X (HRD.out.keep hb1) HS.out (by have := HO.out.1; omega))
  clear hb1
  go_wp2_with fail
  refine HOWN.out.mono ?_
  rintro e w2 ⟨p, g, cap, fv, q, rfl, hop2, hb2⟩
  have HB2 := Lib.hid ((HB1.out).trans (hb2.mono hw1))
  have hB2 := Below.next hB1 hb2
  have hw2 := hb2.size
  have bm2 := HBM.out.below HB2.out
  have m0 : w2.cell? ⟨w.heap.size + 1, 0, none⟩ = some (.int .i64 (6)) := bm2.cell 0
  have m1 : w2.cell? ⟨w.heap.size + 1, 1, none⟩ = some (.int .i64 nd) := bm2.cell 1
  have m2 : w2.cell? ⟨w.heap.size + 1, 2, none⟩ = some (.int .i64 ot) := bm2.cell 2
  have m3 : w2.cell? ⟨w.heap.size + 1, 3, none⟩ = some (.int .i64 (n)) := bm2.cell 3
  have HWR := Lib.hid (wrongM_any w2 p _ _ fv q X ⟨6, nd, ot, n⟩ _ HF0.out hop2.bw)
  have HB12 := Lib.hid hb2
  have HOP2 := Lib.hid hop2
  clear hb2 bm2 hop2 x0 x1 x2
  go_wp2_with fail
  refine HWR.out.mono ?_
  rintro e w3 ⟨rfl, hb3⟩
  have hB3 := Below.next hB2 hb3
  have hw3 := hb3.size
  have m0 := cell_later hb3 m0
  have m1 := cell_later hb3 m1
  have m2 := cell_later hb3 m2
  have m3 := cell_later hb3 m3
  have HOP3 := Lib.hid (HOP2.out.below hb3)
  have HB13 := Lib.hid (HB12.out.trans (hb3.mono hw2))
  have HB3 := Lib.hid hB3
  have hge := HOP2.out.ge
  clear hb3 hB1 hB2 hB3 hB0
  have HRS := Lib.hid (restart_any w3 w1.heap.size p g cap fv q X nd HND.out HS.out (by omega) HOP3.out)
  go_wp2_with fail
  refine HRS.out.mono ?_
  rintro e w4 ⟨rfl, hch⟩
  have ms := MvS.chg HB13.out HOP3.out (by omega) hch
  have hxe : rstW X nd = XE := HXE.out
  rw [hxe] at ms
  clear hch hxe
  obtain ⟨g9, cap9, fv9, q9, ho9, hb9⟩ := ms
  obtain ⟨fa9, fc9, hfv9⟩ := owns_form ho9.or.frs
  subst hfv9
  have e9 := HBT.out.below (HB1.out.trans (hb9.mono hw1))
  have hB9 := HB1w.out.trans (hb9.mono (by omega))
  have hw9 := hb9.size
  have t0 : World.cell? w4 ⟨w.heap.size + 2, 0, none⟩ = some (.int .i64 0) := e9.cell 0
  have t1 : World.cell? w4 ⟨w.heap.size + 2, 1, none⟩ = some (.slice none 0 0) := e9.cell 1
  have t2 : World.cell? w4 ⟨w.heap.size + 2, 2, none⟩ = some (.slice none 0 0) := e9.cell 2
  have z0 := e9.frozen 0
  have z1 := e9.frozen 1
  have z2 := e9.frozen 2
  have p0 : World.cell? w4 ⟨p, 0, none⟩ = some (.int .i64 (XE).ds) := ho9.box.cell 0
  have p1 : World.cell? w4 ⟨p, 1, none⟩ = some (.slice (some ⟨g9, 0, none⟩) (XE).cs.length cap9) := ho9.box.cell 1
  have p2 : World.cell? w4 ⟨p, 2, none⟩ = some (.slice fa9 (XE).fr.length fc9) := ho9.box.cell 2
  have HO9 := Lib.hid ho9
  have HB9 := Lib.hid hB9
  clear ho9 hb9 e9 hB9
  go_wp2_with fail
  refine bodyPost_ret (v := .tuple #[.agg #[.int .i64 (XE).ds, .slice (some ⟨g9, 0, none⟩) (XE).cs.length cap9, .slice fa9 (XE).fr.length fc9], .int .i64 0]) (by simp [results, Try.results44, go_sem, t0, t1, t2]) rfl ⟨_, rfl, ?_, ⟨_, _, q9, rfl, ?_⟩⟩
  · exact ((HB9.out.setCell (p := ⟨w.heap.size + 2, 0, none⟩) (by show w.heap.size ≤ w.heap.size + 2; omega) _).setCell (p := ⟨w.heap.size + 2, 1, none⟩) (by show w.heap.size ≤ w.heap.size + 2; omega) _).setCell (p := ⟨w.heap.size + 2, 2, none⟩) (by show w.heap.size ≤ w.heap.size + 2; omega) _
  · exact (PtF.of_or (HO9.out.or.kx (S := fun k => k = w.heap.size + 2) (((kx_cell w4 (w.heap.size + 2) 0 _).setCell (.inl rfl) _).setCell (.inl rfl) _) (fun k hk e => by have := (HO9.out.or.gt_lt hk).1; omega))).mono (by omega)
set_option maxHeartbeats 1000000 in
theorem move_5 (w : World) (v : Value) (X : Wd) (nd ot n : Int) (rash : Bool) (hs : Sml X) (h : RdW w v X) (ho : Okw X) (hf : ftE X ⟨5, nd, ot, n⟩ = 0) :
    Calls Try.prog 44 #[v, .agg #[.int .i64 5, .int .i64 nd, .int .i64 ot, .int .i64 n], .bool rash] w (MvR w (mvW rash X ⟨5, nd, ot, n⟩) 0) := by
  have hnd : isN X nd := (ftE_zero hf).nd (.inr (.inl rfl))
  obtain ⟨i, hi, hfi, hat0⟩ := atC_get hnd
  clear hnd
  obtain ⟨XE, HXE⟩ : ∃ XE, Hid (mvW rash X ⟨5, nd, ot, n⟩ = XE) := ⟨_, Lib.hid rfl⟩
  have hx : setI X i (hld (gc X.cs i)) = XE := by
    rw [← HXE.out, ← hat0]
    show setI X i _ = setC X nd _
    unfold setC setI
    rw [show (nd - 1).toNat = i by omega]
  have HX := Lib.hid hx
  have HFI := Lib.hid hfi
  rw [HXE.out]
  clear hx hat0 hfi
  obtain ⟨cv, fv0, q0, rfl, hp⟩ := h
  obtain ⟨a, c, rfl⟩ := hp.rows.form
  obtain ⟨fa, fc, rfl⟩ := hp.frs.form
  obtain ⟨N, hN⟩ : ∃ N, q0.length = N := ⟨_, rfl⟩
  obtain ⟨F, hF⟩ : ∃ F, X.fr.length = F := ⟨_, rfl⟩
  rw [hN] at hp ⊢
  rw [hF] at hp ⊢
  clear hN hF
  obtain ⟨W, hW⟩ : ∃ W : World, W = ((w.alloc (.cells #[.int .i64 X.ds, .slice a N c, .slice fa F fc] 25)).alloc (.cells #[.int .i64 (5), .int .i64 nd, .int .i64 ot, .int .i64 (n)] 40)).alloc (.cells #[.int .i64 0, .slice none 0 0, .slice none 0 0] 25) := ⟨_, rfl⟩
  have hB0 : Below w.heap.size w W := by rw [hW]; exact (by repeat (first | assumption | exact Below.refl _ _ | apply Below.al | apply below_drewN | apply Below.drew | refine Below.next ?_ (by assumption)))
  have hWs : w.heap.size + 3 ≤ W.heap.size := by rw [hW]; simp
  have bX : BoxN W w.heap.size 25 #[.int .i64 X.ds, .slice a N c, .slice fa F fc] := by rw [hW]; exact (BoxN.new w _ _).below (by repeat (first | assumption | exact Below.refl _ _ | apply Below.al | apply below_drewN | apply Below.drew | refine Below.next ?_ (by assumption)))
  have bM : BoxN W (w.heap.size + 1) 40 #[.int .i64 (5), .int .i64 nd, .int .i64 ot, .int .i64 (n)] := by
    rw [hW]
    have := BoxN.new (w.alloc (.cells #[.int .i64 X.ds, .slice a N c, .slice fa F fc] 25)) 40 #[.int .i64 (5), .int .i64 nd, .int .i64 ot, .int .i64 (n)]
    have e2 := this.below (Below.al (Below.refl _ _) (.cells #[.int .i64 0, .slice none 0 0, .slice none 0 0] 25))
    simpa using e2
  have bT : BoxN W (w.heap.size + 2) 25 #[.int .i64 0, .slice none 0 0, .slice none 0 0] := by
    rw [hW]
    have := BoxN.new ((w.alloc (.cells #[.int .i64 X.ds, .slice a N c, .slice fa F fc] 25)).alloc (.cells #[.int .i64 (5), .int .i64 nd, .int .i64 ot, .int .i64 (n)] 40)) 25 #[.int .i64 0, .slice none 0 0, .slice none 0 0]
    simpa using this
  have HRD : Hid (RdW W (wV X (.slice a N c) (.slice fa F fc)) X) := Lib.hid ⟨_, _, _, rfl, hp.keep hB0⟩
  have HBM := Lib.hid bM
  have HBT := Lib.hid bT
  have x0 : W.cell? ⟨w.heap.size, 0, none⟩ = some (.int .i64 X.ds) := bX.cell 0
  have x1 : W.cell? ⟨w.heap.size, 1, none⟩ = some (.slice a N c) := bX.cell 1
  have x2 : W.cell? ⟨w.heap.size, 2, none⟩ = some (.slice fa F fc) := bX.cell 2
  clear bX bM bT hp
  go_enter Try.func44, Try.ntmps44
  go_upto_region 1 with fail
  rw [← hW]
  clear hW
  have HCK := Lib.hid (check_any W _ X 0 (by unfold chkE; exact if_pos ho) HRD.out)
  have HO := Lib.hid ho
  have HF0 := Lib.hid hf
  have HS := Lib.hid hs
  clear ho hf hs
  go_wp2_with fail
  refine HCK.out.mono ?_
  rintro e w1 ⟨rfl, hb1⟩
  have hB1 := Below.next hB0 hb1
  have HB1 := Lib.hid hb1
  have HB1w := Lib.hid hB1
  have x0 := cell_later hb1 x0
  have x1 := cell_later hb1 x1
  have x2 := cell_later hb1 x2
  have hw1 := hb1.size
  have HOWN := Lib.hid (own_any w1 _ X (HRD.out.keep hb1) HS.out (by have := HO.out.1; omega))
  clear hb1
  go_wp2_with fail
  refine HOWN.out.mono ?_
  rintro e w2 ⟨p, g, cap, fv, q, rfl, hop2, hb2⟩
  have HB2 := Lib.hid ((HB1.out).trans (hb2.mono hw1))
  have hB2 := Below.next hB1 hb2
  have hw2 := hb2.size
  have bm2 := HBM.out.below HB2.out
  have m0 : w2.cell? ⟨w.heap.size + 1, 0, none⟩ = some (.int .i64 (5)) := bm2.cell 0
  have m1 : w2.cell? ⟨w.heap.size + 1, 1, none⟩ = some (.int .i64 nd) := bm2.cell 1
  have m2 : w2.cell? ⟨w.heap.size + 1, 2, none⟩ = some (.int .i64 ot) := bm2.cell 2
  have m3 : w2.cell? ⟨w.heap.size + 1, 3, none⟩ = some (.int .i64 (n)) := bm2.cell 3
  have HWR := Lib.hid (wrongM_any w2 p _ _ fv q X ⟨5, nd, ot, n⟩ _ HF0.out hop2.bw)
  have HB12 := Lib.hid hb2
  have HOP2 := Lib.hid hop2
  clear hb2 bm2 hop2 x0 x1 x2
  go_wp2_with fail
  refine HWR.out.mono ?_
  rintro e w3 ⟨rfl, hb3⟩
  have hB3 := Below.next hB2 hb3
  have hw3 := hb3.size
  have m0 := cell_later hb3 m0
  have m1 := cell_later hb3 m1
  have m2 := cell_later hb3 m2
  have m3 := cell_later hb3 m3
  have HOP3 := Lib.hid (HOP2.out.below hb3)
  have HB13 := Lib.hid (HB12.out.trans (hb3.mono hw2))
  have HB3 := Lib.hid hB3
  have hge := HOP2.out.ge
  clear hb3 hB1 hB2 hB3 hB0
  have hat := at_any w3 p 66 g 0 cap fv q X i hi HOP3.out.bw
  rw [Nat.zero_add, ← HFI.out] at hat
  have HAT := Lib.hid hat
  have HHD := Lib.hid (hold_any w3 w1.heap.size g cap fv q X i hi HOP3.out.or)
  clear hat
  go_wp2_with fail
  refine HAT.out.mono ?_
  rintro e w9 ⟨rfl, h9⟩
  obtain rfl := h9.symm
  clear h9
  go_wp2_with fail
  refine HHD.out.mono ?_
  rintro e w4 ⟨rfl, h4, hk4⟩
  have ms := MvS.put HB13.out HOP3.out (by omega) (hk4.mono (fun k e => .inl e)) h4 rfl (setI_len _ _ _)
  rw [HX.out] at ms
  clear h4 hk4
  obtain ⟨g9, cap9, fv9, q9, ho9, hb9⟩ := ms
  obtain ⟨fa9, fc9, hfv9⟩ := owns_form ho9.or.frs
  subst hfv9
  have e9 := HBT.out.below (HB1.out.trans (hb9.mono hw1))
  have hB9 := HB1w.out.trans (hb9.mono (by omega))
  have hw9 := hb9.size
  have t0 : World.cell? w4 ⟨w.heap.size + 2, 0, none⟩ = some (.int .i64 0) := e9.cell 0
  have t1 : World.cell? w4 ⟨w.heap.size + 2, 1, none⟩ = some (.slice none 0 0) := e9.cell 1
  have t2 : World.cell? w4 ⟨w.heap.size + 2, 2, none⟩ = some (.slice none 0 0) := e9.cell 2
  have z0 := e9.frozen 0
  have z1 := e9.frozen 1
  have z2 := e9.frozen 2
  have p0 : World.cell? w4 ⟨p, 0, none⟩ = some (.int .i64 (XE).ds) := ho9.box.cell 0
  have p1 : World.cell? w4 ⟨p, 1, none⟩ = some (.slice (some ⟨g9, 0, none⟩) (XE).cs.length cap9) := ho9.box.cell 1
  have p2 : World.cell? w4 ⟨p, 2, none⟩ = some (.slice fa9 (XE).fr.length fc9) := ho9.box.cell 2
  have HO9 := Lib.hid ho9
  have HB9 := Lib.hid hB9
  clear ho9 hb9 e9 hB9
  go_wp2_with fail
  refine bodyPost_ret (v := .tuple #[.agg #[.int .i64 (XE).ds, .slice (some ⟨g9, 0, none⟩) (XE).cs.length cap9, .slice fa9 (XE).fr.length fc9], .int .i64 0]) (by simp [results, Try.results44, go_sem, t0, t1, t2]) rfl ⟨_, rfl, ?_, ⟨_, _, q9, rfl, ?_⟩⟩
  · exact ((HB9.out.setCell (p := ⟨w.heap.size + 2, 0, none⟩) (by show w.heap.size ≤ w.heap.size + 2; omega) _).setCell (p := ⟨w.heap.size + 2, 1, none⟩) (by show w.heap.size ≤ w.heap.size + 2; omega) _).setCell (p := ⟨w.heap.size + 2, 2, none⟩) (by show w.heap.size ≤ w.heap.size + 2; omega) _
  · exact (PtF.of_or (HO9.out.or.kx (S := fun k => k = w.heap.size + 2) (((kx_cell w4 (w.heap.size + 2) 0 _).setCell (.inl rfl) _).setCell (.inl rfl) _) (fun k hk e => by have := (HO9.out.or.gt_lt hk).1; omega))).mono (by omega)
set_option maxHeartbeats 1000000 in
theorem move_3 (w : World) (v : Value) (X : Wd) (nd ot : Int) (j : Nat) (rash : Bool) (hs : Sml X) (h : RdW w v X) (ho : Okw X) (hf : ftE X ⟨3, nd, ot, j⟩ = 0) :
    Calls Try.prog 44 #[v, .agg #[.int .i64 3, .int .i64 nd, .int .i64 ot, .int .i64 (j : Int)], .bool rash] w (MvR w (mvW rash X ⟨3, nd, ot, j⟩) 0) := by
  have hj : j < X.fr.length := by
    have : (j : Int) < (X.fr.length : Int) := ((ftE_zero hf).n (.inr (.inl rfl))).2
    omega
  obtain ⟨XE, HXE⟩ : ∃ XE, Hid (mvW rash X ⟨3, nd, ot, j⟩ = XE) := ⟨_, Lib.hid rfl⟩
  rw [HXE.out]
  obtain ⟨cv, fv0, q0, rfl, hp⟩ := h
  obtain ⟨a, c, rfl⟩ := hp.rows.form
  obtain ⟨fa, fc, rfl⟩ := hp.frs.form
  obtain ⟨N, hN⟩ : ∃ N, q0.length = N := ⟨_, rfl⟩
  obtain ⟨F, hF⟩ : ∃ F, X.fr.length = F := ⟨_, rfl⟩
  rw [hN] at hp ⊢
  rw [hF] at hp ⊢
  clear hN hF
  obtain ⟨W, hW⟩ : ∃ W : World, W = ((w.alloc (.cells #[.int .i64 X.ds, .slice a N c, .slice fa F fc] 25)).alloc (.cells #[.int .i64 (3), .int .i64 nd, .int .i64 ot, .int .i64 ((j : Int))] 40)).alloc (.cells #[.int .i64 0, .slice none 0 0, .slice none 0 0] 25) := ⟨_, rfl⟩
  have hB0 : Below w.heap.size w W := by rw [hW]; exact (by repeat (first | assumption | exact Below.refl _ _ | apply Below.al | apply below_drewN | apply Below.drew | refine Below.next ?_ (by assumption)))
  have hWs : w.heap.size + 3 ≤ W.heap.size := by rw [hW]; simp
  have bX : BoxN W w.heap.size 25 #[.int .i64 X.ds, .slice a N c, .slice fa F fc] := by rw [hW]; exact (BoxN.new w _ _).below (by repeat (first | assumption | exact Below.refl _ _ | apply Below.al | apply below_drewN | apply Below.drew | refine Below.next ?_ (by assumption)))
  have bM : BoxN W (w.heap.size + 1) 40 #[.int .i64 (3), .int .i64 nd, .int .i64 ot, .int .i64 ((j : Int))] := by
    rw [hW]
    have := BoxN.new (w.alloc (.cells #[.int .i64 X.ds, .slice a N c, .slice fa F fc] 25)) 40 #[.int .i64 (3), .int .i64 nd, .int .i64 ot, .int .i64 ((j : Int))]
    have e2 := this.below (Below.al (Below.refl _ _) (.cells #[.int .i64 0, .slice none 0 0, .slice none 0 0] 25))
    simpa using e2
  have bT : BoxN W (w.heap.size + 2) 25 #[.int .i64 0, .slice none 0 0, .slice none 0 0] := by
    rw [hW]
    have := BoxN.new ((w.alloc (.cells #[.int .i64 X.ds, .slice a N c, .slice fa F fc] 25)).alloc (.cells #[.int .i64 (3), .int .i64 nd, .int .i64 ot, .int .i64 ((j : Int))] 40)) 25 #[.int .i64 0, .slice none 0 0, .slice none 0 0]
    simpa using this
  have HRD : Hid (RdW W (wV X (.slice a N c) (.slice fa F fc)) X) := Lib.hid ⟨_, _, _, rfl, hp.keep hB0⟩
  have HBM := Lib.hid bM
  have HBT := Lib.hid bT
  have x0 : W.cell? ⟨w.heap.size, 0, none⟩ = some (.int .i64 X.ds) := bX.cell 0
  have x1 : W.cell? ⟨w.heap.size, 1, none⟩ = some (.slice a N c) := bX.cell 1
  have x2 : W.cell? ⟨w.heap.size, 2, none⟩ = some (.slice fa F fc) := bX.cell 2
  clear bX bM bT hp
  go_enter Try.func44, Try.ntmps44
  go_upto_region 1 with fail
  rw [← hW]
  clear hW
  have HCK := Lib.hid (check_any W _ X 0 (by unfold chkE; exact if_pos ho) HRD.out)
  have HO := Lib.hid ho
  have HF0 := Lib.hid hf
  have HS := Lib.hid hs
  clear ho hf hs
  go_wp2_with fail
  refine HCK.out.mono ?_
  rintro e w1 ⟨rfl, hb1⟩
  have hB1 := Below.next hB0 hb1
  have HB1 := Lib.hid hb1
  have HB1w := Lib.hid hB1
  have x0 := cell_later hb1 x0
  have x1 := cell_later hb1 x1
  have x2 := cell_later hb1 x2
  have hw1 := hb1.size
  have HOWN := Lib.hid (own_any w1 _ X (HRD.out.keep hb1) HS.out (by have := HO.out.1; omega))
  clear hb1
  go_wp2_with fail
  refine HOWN.out.mono ?_
  rintro e w2 ⟨p, g, cap, fv, q, rfl, hop2, hb2⟩
  have HB2 := Lib.hid ((HB1.out).trans (hb2.mono hw1))
  have hB2 := Below.next hB1 hb2
  have hw2 := hb2.size
  have bm2 := HBM.out.below HB2.out
  have m0 : w2.cell? ⟨w.heap.size + 1, 0, none⟩ = some (.int .i64 (3)) := bm2.cell 0
  have m1 : w2.cell? ⟨w.heap.size + 1, 1, none⟩ = some (.int .i64 nd) := bm2.cell 1
  have m2 : w2.cell? ⟨w.heap.size + 1, 2, none⟩ = some (.int .i64 ot) := bm2.cell 2
  have m3 : w2.cell? ⟨w.heap.size + 1, 3, none⟩ = some (.int .i64 ((j : Int))) := bm2.cell 3
  have HWR := Lib.hid (wrongM_any w2 p _ _ fv q X ⟨3, nd, ot, (j : Int)⟩ _ HF0.out hop2.bw)
  have HB12 := Lib.hid hb2
  have HOP2 := Lib.hid hop2
  clear hb2 bm2 hop2 x0 x1 x2
  go_wp2_with fail
  refine HWR.out.mono ?_
  rintro e w3 ⟨rfl, hb3⟩
  have hB3 := Below.next hB2 hb3
  have hw3 := hb3.size
  have m0 := cell_later hb3 m0
  have m1 := cell_later hb3 m1
  have m2 := cell_later hb3 m2
  have m3 := cell_later hb3 m3
  have HOP3 := Lib.hid (HOP2.out.below hb3)
  have HB13 := Lib.hid (HB12.out.trans (hb3.mono hw2))
  have HB3 := Lib.hid hB3
  have hge := HOP2.out.ge
  clear hb3 hB1 hB2 hB3 hB0
  obtain ⟨ra, rc, hfv⟩ := owns_form HOP3.out.or.frs
  subst hfv
  obtain ⟨rb, ro, hra, hrc, g0, g1, g2, g3⟩ := RdP.at HOP3.out.or.pt.frs rfl j hj
  subst hra
  obtain ⟨f, HFf⟩ : ∃ f, Hid (gp X.fr j = f) := ⟨_, Lib.hid rfl⟩
  rw [HFf.out] at g0 g1 g2 g3
  have i1 : (0 : Int) ≤ (j : Int) := by omega
  have i2 : (j : Int) < (X.fr.length : Int) := by omega
  have hsf := HS.out.fr
  have hwk : IntKind.i64.wrap ((j : Int) + 1) = (j : Int) + 1 := IntWalk.i64_in _ (by omega)
  have p2 : w3.cell? ⟨p, 2, none⟩ = some (.slice (some ⟨rb, ro, none⟩) X.fr.length rc) := HOP3.out.box.cell 2
  go_upto_region 18 with fail
  refine wp_region_noPanic ?_
  refine wp_region_held_drew (S := (fun w' => Below w3.heap.size w3 w')) (by kernel_rfl) ((Below.refl _ w3).drew) (fun hHeld => ?_)
  refine reg_tk (v := ?_) 0 103 rfl rfl (by kernel_rfl) (by kernel_rfl) (by kernel_rfl) (fun _ _ _ h => h) (by rfl) ?_ (by assumption) ?_
  rotate_left
  · (intro w hSw; (try dsimp only at hSw); go_simp; (try with_reducible rfl))
  simp only [List.setIfInBounds_toArray, List.set_cons_zero, List.set_cons_succ]
  refine reg_tk (v := ?_) 1 104 rfl rfl (by kernel_rfl) (by kernel_rfl) (by kernel_rfl) (fun _ _ _ h => h) (by rfl) ?_ (by assumption) ?_
  rotate_left
  · (intro w hSw; (try dsimp only at hSw); go_simp; (try with_reducible rfl))
  simp only [List.setIfInBounds_toArray, List.set_cons_zero, List.set_cons_succ]
  refine reg_tk (v := ?_) 2 105 rfl rfl (by kernel_rfl) (by kernel_rfl) (by kernel_rfl) (fun _ _ _ h => h) (by rfl) ?_ (by assumption) ?_
  rotate_left
  · (intro w hSw; (try dsimp only at hSw); go_simp; (try with_reducible rfl))
  simp only [List.setIfInBounds_toArray, List.set_cons_zero, List.set_cons_succ]
  refine reg_tk (v := ?_) 3 106 rfl rfl (by kernel_rfl) (by kernel_rfl) (by kernel_rfl) (fun _ _ _ h => h) (by rfl) ?_ (by assumption) ?_
  rotate_left
  · (intro w hSw; (try dsimp only at hSw); go_simp; (try with_reducible rfl))
  simp only [List.setIfInBounds_toArray, List.set_cons_zero, List.set_cons_succ]
  refine reg_tk (v := (.slice (some ⟨rb, ro, none⟩) X.fr.length rc)) 4 107 rfl rfl (by kernel_rfl) (by kernel_rfl) (by kernel_rfl) (fun _ _ _ h => h) (by rfl) (fun w3 hS => by (have y0 := cell_later hS p2); go_simp) (by assumption) ?_
  simp only [List.setIfInBounds_toArray, List.set_cons_zero, List.set_cons_succ]
  refine reg_tk (v := ?_) 5 108 rfl rfl (by kernel_rfl) (by kernel_rfl) (by kernel_rfl) (fun _ _ _ h => h) (by rfl) ?_ (by assumption) ?_
  rotate_left
  · (intro w hSw; (try dsimp only at hSw); go_simp; (try with_reducible rfl))
  simp only [List.setIfInBounds_toArray, List.set_cons_zero, List.set_cons_succ]
  refine reg_tk (v := (.int .i64 (j : Int))) 6 109 rfl rfl (by kernel_rfl) (by kernel_rfl) (by kernel_rfl) (fun _ _ _ h => h) (by rfl) (fun w3 hS => by (have y0 := cell_later hS m3); go_simp) (by assumption) ?_
  simp only [List.setIfInBounds_toArray, List.set_cons_zero, List.set_cons_succ]
  refine reg_tk (v := (.pointer (some ⟨rb, ro + j * 4, none⟩))) 7 110 rfl rfl (by kernel_rfl) (by kernel_rfl) (by kernel_rfl) (fun _ _ _ h => h) (by rfl) (fun w3 hS => by skip; go_simp) (by assumption) ?_
  simp only [List.setIfInBounds_toArray, List.set_cons_zero, List.set_cons_succ]
  refine reg_tk (v := (.agg #[.int .i64 f.kd, .int .i64 f.fr, .int .i64 f.tt, .int .i64 f.of])) 8 111 rfl rfl (by kernel_rfl) (by kernel_rfl) (by kernel_rfl) (fun _ _ _ h => h) (by rfl) (fun w3 hS => by (have y0 := cell_later hS g0; have y1 := cell_later hS g1; have y2 := cell_later hS g2; have y3 := cell_later hS g3); go_simp) (by assumption) ?_
  simp only [List.setIfInBounds_toArray, List.set_cons_zero, List.set_cons_succ]
  refine wpAnyH_ready (rs := [9]) (by kernel_rfl) (by simp) ?_
  refine AllReadyH.cons rfl (fun K hK => ?_) AllReadyH.nil
  go_simp
  refine hK.out _ _ (Below.al (Below.refl _ w3).drew _) (fun hHeld2 => ?_)
  clear hK K hHeld
  have hHeld := hHeld2
  clear hHeld2
  try simp only [Act.put, List.setIfInBounds_toArray, List.set_cons_zero, List.set_cons_succ]
  refine wpAnyH_ready (rs := [10]) (by kernel_rfl) (by simp) ?_
  refine AllReadyH.cons rfl (fun K hK => ?_) AllReadyH.nil
  go_simp
  obtain ⟨W5, hW5⟩ : ∃ W5 : World, W5 = (w3.alloc (.cells #[.int .i64 f.kd, .int .i64 f.fr, .int .i64 f.tt, .int .i64 f.of] 47)).drew := ⟨_, rfl⟩
  have hB5 : Below w3.heap.size w3 W5 := by rw [hW5]; exact (Below.al (Below.refl _ w3) _).drew
  have b5 : BoxN W5 w3.heap.size 47 #[.int .i64 f.kd, .int .i64 f.fr, .int .i64 f.tt, .int .i64 f.of] := by rw [hW5]; exact (BoxN.new w3 47 _).below ((Below.refl _ _).drew)
  rw [← hW5]
  have hw5 : w3.heap.size < W5.heap.size := by rw [hW5]; show w3.heap.size < (w3.alloc _).heap.size; simp
  clear hW5
  refine hK.out _ _ hB5 (fun hHeld2 => ?_)
  clear hK K hHeld
  have hHeld := hHeld2
  clear hHeld2
  try simp only [Act.put, List.setIfInBounds_toArray, List.set_cons_zero, List.set_cons_succ]
  refine wpAnyH_done (by kernel_rfl) ?_ _
  refine NoPanic.normal ?_
  clear hHeld
  have hop5 := HOP3.out.below (hB5.drew)
  have q2 : W5.cell? ⟨p, 2, none⟩ = some (.slice (some ⟨rb, ro, none⟩) X.fr.length rc) := cell_later hB5 p2
  have q3 : W5.cell? ⟨w.heap.size + 1, 3, none⟩ = some (.int .i64 (j : Int)) := cell_later hB5 m3
  have q0' : W5.cell? ⟨w.heap.size + 1, 0, none⟩ = some (.int .i64 (3)) := cell_later hB5 m0
  have HDEL := Lib.hid (delete_any W5.drew w1.heap.size (.slice (some ⟨rb, ro, none⟩) X.fr.length rc) X.fr j hj (by omega) hop5.or.frs)
  have HOP5 := Lib.hid hop5
  have HB5 := Lib.hid hB5
  clear hop5 p2 m0 m1 m2 m3 g0 g1 g2 g3
  go_upto_region 19 with fail
  refine wp_region_noPanic ?_
  refine wp_region_late (fun _ => True) (fun w' => w'.cell? ⟨p, 2, none⟩ = some (.slice (some ⟨rb, ro, none⟩) X.fr.length rc) ∧ w'.cell? ⟨w.heap.size + 1, 3, none⟩ = some (.int .i64 (j : Int))) [15] (by kernel_rfl) trivial ⟨q2, q3⟩ (fun hHeld0 hHeld => ?_)
  refine reg0_tk (v := ?_) 0 112 rfl rfl (by kernel_rfl) (by kernel_rfl) (by kernel_rfl) (by kernel_rfl) (by kernel_rfl) (fun _ _ _ h => h) (by rfl) ?_ (by assumption) (by assumption) ?_
  rotate_left
  · (intro w3 hS; (try dsimp only at hS); skip; go_simp; (try with_reducible rfl))
  simp only [List.setIfInBounds_toArray, List.set_cons_zero, List.set_cons_succ]
  refine reg0_tk (v := ?_) 1 113 rfl rfl (by kernel_rfl) (by kernel_rfl) (by kernel_rfl) (by kernel_rfl) (by kernel_rfl) (fun _ _ _ h => h) (by rfl) ?_ (by assumption) (by assumption) ?_
  rotate_left
  · (intro w3 hS; (try dsimp only at hS); skip; go_simp; (try with_reducible rfl))
  simp only [List.setIfInBounds_toArray, List.set_cons_zero, List.set_cons_succ]
  refine reg0_tk (v := ?_) 2 114 rfl rfl (by kernel_rfl) (by kernel_rfl) (by kernel_rfl) (by kernel_rfl) (by kernel_rfl) (fun _ _ _ h => h) (by rfl) ?_ (by assumption) (by assumption) ?_
  rotate_left
  · (intro w3 hS; (try dsimp only at hS); skip; go_simp; (try with_reducible rfl))
  simp only [List.setIfInBounds_toArray, List.set_cons_zero, List.set_cons_succ]
  refine reg0_tk (v := ?_) 3 115 rfl rfl (by kernel_rfl) (by kernel_rfl) (by kernel_rfl) (by kernel_rfl) (by kernel_rfl) (fun _ _ _ h => h) (by rfl) ?_ (by assumption) (by assumption) ?_
  rotate_left
  · (intro w3 hS; (try dsimp only at hS); skip; go_simp; (try with_reducible rfl))
  simp only [List.setIfInBounds_toArray, List.set_cons_zero, List.set_cons_succ]
  refine reg0_tk (v := ?_) 4 116 rfl rfl (by kernel_rfl) (by kernel_rfl) (by kernel_rfl) (by kernel_rfl) (by kernel_rfl) (fun _ _ _ h => h) (by rfl) ?_ (by assumption) (by assumption) ?_
  rotate_left
  · (intro w3 hS; (try dsimp only at hS); skip; go_simp; (try with_reducible rfl))
  simp only [List.setIfInBounds_toArray, List.set_cons_zero, List.set_cons_succ]
  refine regG_tk (v := ?_) 5 117 rfl rfl (by kernel_rfl) (by kernel_rfl) (by kernel_rfl) (by kernel_rfl) (by kernel_rfl) (fun _ _ _ h => h) (by rfl) ?_ (by assumption) (by assumption) ?_
  rotate_left
  · (intro w3 hS; (try dsimp only at hS); obtain ⟨y0, y1⟩ := hS; go_simp; (try with_reducible rfl))
  simp only [List.setIfInBounds_toArray, List.set_cons_zero, List.set_cons_succ]
  refine reg0_tk (v := ?_) 6 118 rfl rfl (by kernel_rfl) (by kernel_rfl) (by kernel_rfl) (by kernel_rfl) (by kernel_rfl) (fun _ _ _ h => h) (by rfl) ?_ (by assumption) (by assumption) ?_
  rotate_left
  · (intro w3 hS; (try dsimp only at hS); skip; go_simp; (try with_reducible rfl))
  simp only [List.setIfInBounds_toArray, List.set_cons_zero, List.set_cons_succ]
  refine regG_tk (v := ?_) 7 119 rfl rfl (by kernel_rfl) (by kernel_rfl) (by kernel_rfl) (by kernel_rfl) (by kernel_rfl) (fun _ _ _ h => h) (by rfl) ?_ (by assumption) (by assumption) ?_
  rotate_left
  · (intro w3 hS; (try dsimp only at hS); obtain ⟨y0, y1⟩ := hS; go_simp; (try with_reducible rfl))
  simp only [List.setIfInBounds_toArray, List.set_cons_zero, List.set_cons_succ]
  refine reg0_tk (v := ?_) 8 120 rfl rfl (by kernel_rfl) (by kernel_rfl) (by kernel_rfl) (by kernel_rfl) (by kernel_rfl) (fun _ _ _ h => h) (by rfl) ?_ (by assumption) (by assumption) ?_
  rotate_left
  · (intro w3 hS; (try dsimp only at hS); skip; go_simp; (try with_reducible rfl))
  simp only [List.setIfInBounds_toArray, List.set_cons_zero, List.set_cons_succ]
  refine regG_tk (v := ?_) 9 121 rfl rfl (by kernel_rfl) (by kernel_rfl) (by kernel_rfl) (by kernel_rfl) (by kernel_rfl) (fun _ _ _ h => h) (by rfl) ?_ (by assumption) (by assumption) ?_
  rotate_left
  · (intro w3 hS; (try dsimp only at hS); obtain ⟨y0, y1⟩ := hS; go_simp; (try with_reducible rfl))
  simp only [List.setIfInBounds_toArray, List.set_cons_zero, List.set_cons_succ]
  refine reg0_tk (v := ?_) 10 122 rfl rfl (by kernel_rfl) (by kernel_rfl) (by kernel_rfl) (by kernel_rfl) (by kernel_rfl) (fun _ _ _ h => h) (by rfl) ?_ (by assumption) (by assumption) ?_
  rotate_left
  · (intro w3 hS; (try dsimp only at hS); skip; go_simp; (try with_reducible rfl))
  simp only [List.setIfInBounds_toArray, List.set_cons_zero, List.set_cons_succ]
  refine wpAnyG_oneS (i := 11) (by kernel_rfl) rfl (by rfl) (fun K hK => ?_)
  go_simp
  refine HDEL.out.mono ?_
  rintro e w6 ⟨a6, c6, rfl, h6, hk6, hm6⟩
  obtain ⟨r1, r2, r3, r4⟩ := HOP5.out.frs hk6 h6 hm6
  have hm1 : ∀ b, b < w1.heap.size → ¬ (b = p ∨ Mn g (.slice (some ⟨rb, ro, none⟩) X.fr.length rc) q b) := fun b hb e => by
    rcases e with e | e
    · omega
    · have := (HOP3.out.or.gt_lt e).1; omega
  have hm3 : ¬ (w3.heap.size = p ∨ Mn g (.slice (some ⟨rb, ro, none⟩) X.fr.length rc) q w3.heap.size) := fun e => by
    rcases e with e | e
    · have := HOP3.out.box.lt; omega
    · have := (HOP3.out.or.gt_lt e).2; omega
  have hS6 : w6.cell? ⟨p, 2, none⟩ = some (.slice (some ⟨rb, ro, none⟩) X.fr.length rc) ∧ w6.cell? ⟨w.heap.size + 1, 3, none⟩ = some (.int .i64 (j : Int)) := ⟨r4.cell 2, hk6.cell (p := ⟨w.heap.size + 1, 3, none⟩) (fun e => hm1 (w.heap.size + 1) (by omega) (.inr (.inr (.inl e)))) q3⟩
  have v0 := hS6.1
  have v1 := r4.frozen 2
  clear h6 hk6 hm6 r4
  refine hK _ _ trivial hS6 ?_
  clear hK K
  try simp only [Act.put, List.setIfInBounds_toArray, List.set_cons_zero, List.set_cons_succ]
  refine wpAnyG_oneS (i := 12) (by kernel_rfl) rfl (by rfl) (fun K hK => ?_)
  go_simp
  refine hK _ _ trivial hS6 ?_
  clear hK K
  try simp only [Act.put, List.setIfInBounds_toArray, List.set_cons_zero, List.set_cons_succ]
  refine wpAnyG_oneS (i := 13) (by kernel_rfl) rfl (by rfl) (fun K hK => ?_)
  go_simp
  refine hK _ _ trivial hS6 ?_
  clear hK K
  try simp only [Act.put, List.setIfInBounds_toArray, List.set_cons_zero, List.set_cons_succ]
  refine wpAnyG_oneS (i := 14) (by kernel_rfl) rfl (by rfl) (fun K hK => ?_)
  go_simp
  refine hK _ _ trivial hS6 ?_
  clear hK K
  try simp only [Act.put, List.setIfInBounds_toArray, List.set_cons_zero, List.set_cons_succ]
  refine wpAnyG_one (i := 15) (by kernel_rfl) rfl (by rfl) (by kernel_rfl) (fun K hK => ?_)
  go_simp
  refine hK _ _ trivial ?_
  clear hK K
  try simp only [Act.put, List.setIfInBounds_toArray, List.set_cons_zero, List.set_cons_succ]
  refine wpAnyG_done (by kernel_rfl) ?_ _
  refine NoPanic.normal ?_
  obtain ⟨w7, hw7⟩ : ∃ w7 : World, w7 = w6.setCell ⟨p, 2, none⟩ (.slice a6 (dlF X.fr j).length c6) := ⟨_, rfl⟩
  rw [← hw7] at r1 r2 ⊢
  clear hw7 v0 v1 hS6
  have m0 : w7.cell? ⟨w.heap.size + 1, 0, none⟩ = some (.int .i64 (3)) := r2.cell (p := ⟨w.heap.size + 1, 0, none⟩) (hm1 (w.heap.size + 1) (by omega)) q0'
  have hB37 : Below w1.heap.size w1 w7 := (HB13.out.trans ((HB5.out.drew).mono (by omega))).trans (r2.below (by show w1.heap.size ≤ W5.heap.size; omega) (fun b e => by
    rcases Nat.lt_or_ge b w1.heap.size with h | h
    · exact absurd e (hm1 b h)
    · exact h))
  clear q0' q2 q3
  have ms : MvS w1 w1.heap.size p (outF X j) w7 := ⟨_, _, _, _, r1, hB37⟩
  have hxe : outF X j = XE := HXE.out
  rw [hxe] at ms
  clear r1 r2 r3 hm1 hm3 hB37 hxe b5
  obtain ⟨g9, cap9, fv9, q9, ho9, hb9⟩ := ms
  obtain ⟨fa9, fc9, hfv9⟩ := owns_form ho9.or.frs
  subst hfv9
  have e9 := HBT.out.below (HB1.out.trans (hb9.mono hw1))
  have hB9 := HB1w.out.trans (hb9.mono (by omega))
  have hw9 := hb9.size
  have t0 : World.cell? w7 ⟨w.heap.size + 2, 0, none⟩ = some (.int .i64 0) := e9.cell 0
  have t1 : World.cell? w7 ⟨w.heap.size + 2, 1, none⟩ = some (.slice none 0 0) := e9.cell 1
  have t2 : World.cell? w7 ⟨w.heap.size + 2, 2, none⟩ = some (.slice none 0 0) := e9.cell 2
  have z0 := e9.frozen 0
  have z1 := e9.frozen 1
  have z2 := e9.frozen 2
  have p0 : World.cell? w7 ⟨p, 0, none⟩ = some (.int .i64 (XE).ds) := ho9.box.cell 0
  have p1 : World.cell? w7 ⟨p, 1, none⟩ = some (.slice (some ⟨g9, 0, none⟩) (XE).cs.length cap9) := ho9.box.cell 1
  have p2 : World.cell? w7 ⟨p, 2, none⟩ = some (.slice fa9 (XE).fr.length fc9) := ho9.box.cell 2
  have HO9 := Lib.hid ho9
  have HB9 := Lib.hid hB9
  clear ho9 hb9 e9 hB9
  go_wp2_with fail
  refine bodyPost_ret (v := .tuple #[.agg #[.int .i64 (XE).ds, .slice (some ⟨g9, 0, none⟩) (XE).cs.length cap9, .slice fa9 (XE).fr.length fc9], .int .i64 0]) (by simp [results, Try.results44, go_sem, t0, t1, t2]) rfl ⟨_, rfl, ?_, ⟨_, _, q9, rfl, ?_⟩⟩
  · exact ((HB9.out.setCell (p := ⟨w.heap.size + 2, 0, none⟩) (by show w.heap.size ≤ w.heap.size + 2; omega) _).setCell (p := ⟨w.heap.size + 2, 1, none⟩) (by show w.heap.size ≤ w.heap.size + 2; omega) _).setCell (p := ⟨w.heap.size + 2, 2, none⟩) (by show w.heap.size ≤ w.heap.size + 2; omega) _
  · exact (PtF.of_or (HO9.out.or.kx (S := fun k => k = w.heap.size + 2) (((kx_cell w7 (w.heap.size + 2) 0 _).setCell (.inl rfl) _).setCell (.inl rfl) _) (fun k hk e => by have := (HO9.out.or.gt_lt hk).1; omega))).mono (by omega)
set_option maxHeartbeats 1000000 in
theorem move_2 (w : World) (v : Value) (X : Wd) (nd ot : Int) (j : Nat) (rash : Bool) (hs : Sml X) (h : RdW w v X) (ho : Okw X) (hf : ftE X ⟨2, nd, ot, j⟩ = 0) :
    Calls Try.prog 44 #[v, .agg #[.int .i64 2, .int .i64 nd, .int .i64 ot, .int .i64 (j : Int)], .bool rash] w (MvR w (mvW rash X ⟨2, nd, ot, j⟩) 0) := by
  have hj : j < X.fr.length := by
    have : (j : Int) < (X.fr.length : Int) := ((ftE_zero hf).n (.inl rfl)).2
    omega
  obtain ⟨XE, HXE⟩ : ∃ XE, Hid (mvW rash X ⟨2, nd, ot, j⟩ = XE) := ⟨_, Lib.hid rfl⟩
  rw [HXE.out]
  obtain ⟨cv, fv0, q0, rfl, hp⟩ := h
  obtain ⟨a, c, rfl⟩ := hp.rows.form
  obtain ⟨fa, fc, rfl⟩ := hp.frs.form
  obtain ⟨N, hN⟩ : ∃ N, q0.length = N := ⟨_, rfl⟩
  obtain ⟨F, hF⟩ : ∃ F, X.fr.length = F := ⟨_, rfl⟩
  rw [hN] at hp ⊢
  rw [hF] at hp ⊢
  clear hN hF
  obtain ⟨W, hW⟩ : ∃ W : World, W = ((w.alloc (.cells #[.int .i64 X.ds, .slice a N c, .slice fa F fc] 25)).alloc (.cells #[.int .i64 (2), .int .i64 nd, .int .i64 ot, .int .i64 ((j : Int))] 40)).alloc (.cells #[.int .i64 0, .slice none 0 0, .slice none 0 0] 25) := ⟨_, rfl⟩
  have hB0 : Below w.heap.size w W := by rw [hW]; exact (by repeat (first | assumption | exact Below.refl _ _ | apply Below.al | apply below_drewN | apply Below.drew | refine Below.next ?_ (by assumption)))
  have hWs : w.heap.size + 3 ≤ W.heap.size := by rw [hW]; simp
  have bX : BoxN W w.heap.size 25 #[.int .i64 X.ds, .slice a N c, .slice fa F fc] := by rw [hW]; exact (BoxN.new w _ _).below (by repeat (first | assumption | exact Below.refl _ _ | apply Below.al | apply below_drewN | apply Below.drew | refine Below.next ?_ (by assumption)))
  have bM : BoxN W (w.heap.size + 1) 40 #[.int .i64 (2), .int .i64 nd, .int .i64 ot, .int .i64 ((j : Int))] := by
    rw [hW]
    have := BoxN.new (w.alloc (.cells #[.int .i64 X.ds, .slice a N c, .slice fa F fc] 25)) 40 #[.int .i64 (2), .int .i64 nd, .int .i64 ot, .int .i64 ((j : Int))]
    have e2 := this.below (Below.al (Below.refl _ _) (.cells #[.int .i64 0, .slice none 0 0, .slice none 0 0] 25))
    simpa using e2
  have bT : BoxN W (w.heap.size + 2) 25 #[.int .i64 0, .slice none 0 0, .slice none 0 0] := by
    rw [hW]
    have := BoxN.new ((w.alloc (.cells #[.int .i64 X.ds, .slice a N c, .slice fa F fc] 25)).alloc (.cells #[.int .i64 (2), .int .i64 nd, .int .i64 ot, .int .i64 ((j : Int))] 40)) 25 #[.int .i64 0, .slice none 0 0, .slice none 0 0]
    simpa using this
  have HRD : Hid (RdW W (wV X (.slice a N c) (.slice fa F fc)) X) := Lib.hid ⟨_, _, _, rfl, hp.keep hB0⟩
  have HBM := Lib.hid bM
  have HBT := Lib.hid bT
  have x0 : W.cell? ⟨w.heap.size, 0, none⟩ = some (.int .i64 X.ds) := bX.cell 0
  have x1 : W.cell? ⟨w.heap.size, 1, none⟩ = some (.slice a N c) := bX.cell 1
  have x2 : W.cell? ⟨w.heap.size, 2, none⟩ = some (.slice fa F fc) := bX.cell 2
  clear bX bM bT hp
  go_enter Try.func44, Try.ntmps44
  go_upto_region 1 with fail
  rw [← hW]
  clear hW
  have HCK := Lib.hid (check_any W _ X 0 (by unfold chkE; exact if_pos ho) HRD.out)
  have HO := Lib.hid ho
  have HF0 := Lib.hid hf
  have HS := Lib.hid hs
  clear ho hf hs
  go_wp2_with fail
  refine HCK.out.mono ?_
  rintro e w1 ⟨rfl, hb1⟩
  have hB1 := Below.next hB0 hb1
  have HB1 := Lib.hid hb1
  have HB1w := Lib.hid hB1
  have x0 := cell_later hb1 x0
  have x1 := cell_later hb1 x1
  have x2 := cell_later hb1 x2
  have hw1 := hb1.size
  have HOWN := Lib.hid (own_any w1 _ X (HRD.out.keep hb1) HS.out (by have := HO.out.1; omega))
  clear hb1
  go_wp2_with fail
  refine HOWN.out.mono ?_
  rintro e w2 ⟨p, g, cap, fv, q, rfl, hop2, hb2⟩
  have HB2 := Lib.hid ((HB1.out).trans (hb2.mono hw1))
  have hB2 := Below.next hB1 hb2
  have hw2 := hb2.size
  have bm2 := HBM.out.below HB2.out
  have m0 : w2.cell? ⟨w.heap.size + 1, 0, none⟩ = some (.int .i64 (2)) := bm2.cell 0
  have m1 : w2.cell? ⟨w.heap.size + 1, 1, none⟩ = some (.int .i64 nd) := bm2.cell 1
  have m2 : w2.cell? ⟨w.heap.size + 1, 2, none⟩ = some (.int .i64 ot) := bm2.cell 2
  have m3 : w2.cell? ⟨w.heap.size + 1, 3, none⟩ = some (.int .i64 ((j : Int))) := bm2.cell 3
  have HWR := Lib.hid (wrongM_any w2 p _ _ fv q X ⟨2, nd, ot, (j : Int)⟩ _ HF0.out hop2.bw)
  have HB12 := Lib.hid hb2
  have HOP2 := Lib.hid hop2
  clear hb2 bm2 hop2 x0 x1 x2
  go_wp2_with fail
  refine HWR.out.mono ?_
  rintro e w3 ⟨rfl, hb3⟩
  have hB3 := Below.next hB2 hb3
  have hw3 := hb3.size
  have m0 := cell_later hb3 m0
  have m1 := cell_later hb3 m1
  have m2 := cell_later hb3 m2
  have m3 := cell_later hb3 m3
  have HOP3 := Lib.hid (HOP2.out.below hb3)
  have HB13 := Lib.hid (HB12.out.trans (hb3.mono hw2))
  have HB3 := Lib.hid hB3
  have hge := HOP2.out.ge
  clear hb3 hB1 hB2 hB3 hB0
  obtain ⟨ra, rc, hfv⟩ := owns_form HOP3.out.or.frs
  subst hfv
  obtain ⟨rb, ro, hra, hrc, g0, g1, g2, g3⟩ := RdP.at HOP3.out.or.pt.frs rfl j hj
  subst hra
  obtain ⟨f, HFf⟩ : ∃ f, Hid (gp X.fr j = f) := ⟨_, Lib.hid rfl⟩
  rw [HFf.out] at g0 g1 g2 g3
  have i1 : (0 : Int) ≤ (j : Int) := by omega
  have i2 : (j : Int) < (X.fr.length : Int) := by omega
  have hsf := HS.out.fr
  have hwk : IntKind.i64.wrap ((j : Int) + 1) = (j : Int) + 1 := IntWalk.i64_in _ (by omega)
  have p2 : w3.cell? ⟨p, 2, none⟩ = some (.slice (some ⟨rb, ro, none⟩) X.fr.length rc) := HOP3.out.box.cell 2
  go_upto_region 18 with fail
  refine wp_region_noPanic ?_
  refine wp_region_held_drew (S := (fun w' => Below w3.heap.size w3 w')) (by kernel_rfl) ((Below.refl _ w3).drew) (fun hHeld => ?_)
  refine reg_tk (v := ?_) 0 103 rfl rfl (by kernel_rfl) (by kernel_rfl) (by kernel_rfl) (fun _ _ _ h => h) (by rfl) ?_ (by assumption) ?_
  rotate_left
  · (intro w hSw; (try dsimp only at hSw); go_simp; (try with_reducible rfl))
  simp only [List.setIfInBounds_toArray, List.set_cons_zero, List.set_cons_succ]
  refine reg_tk (v := ?_) 1 104 rfl rfl (by kernel_rfl) (by kernel_rfl) (by kernel_rfl) (fun _ _ _ h => h) (by rfl) ?_ (by assumption) ?_
  rotate_left
  · (intro w hSw; (try dsimp only at hSw); go_simp; (try with_reducible rfl))
  simp only [List.setIfInBounds_toArray, List.set_cons_zero, List.set_cons_succ]
  refine reg_tk (v := ?_) 2 105 rfl rfl (by kernel_rfl) (by kernel_rfl) (by kernel_rfl) (fun _ _ _ h => h) (by rfl) ?_ (by assumption) ?_
  rotate_left
  · (intro w hSw; (try dsimp only at hSw); go_simp; (try with_reducible rfl))
  simp only [List.setIfInBounds_toArray, List.set_cons_zero, List.set_cons_succ]
  refine reg_tk (v := ?_) 3 106 rfl rfl (by kernel_rfl) (by kernel_rfl) (by kernel_rfl) (fun _ _ _ h => h) (by rfl) ?_ (by assumption) ?_
  rotate_left
  · (intro w hSw; (try dsimp only at hSw); go_simp; (try with_reducible rfl))
  simp only [List.setIfInBounds_toArray, List.set_cons_zero, List.set_cons_succ]
  refine reg_tk (v := (.slice (some ⟨rb, ro, none⟩) X.fr.length rc)) 4 107 rfl rfl (by kernel_rfl) (by kernel_rfl) (by kernel_rfl) (fun _ _ _ h => h) (by rfl) (fun w3 hS => by (have y0 := cell_later hS p2); go_simp) (by assumption) ?_
  simp only [List.setIfInBounds_toArray, List.set_cons_zero, List.set_cons_succ]
  refine reg_tk (v := ?_) 5 108 rfl rfl (by kernel_rfl) (by kernel_rfl) (by kernel_rfl) (fun _ _ _ h => h) (by rfl) ?_ (by assumption) ?_
  rotate_left
  · (intro w hSw; (try dsimp only at hSw); go_simp; (try with_reducible rfl))
  simp only [List.setIfInBounds_toArray, List.set_cons_zero, List.set_cons_succ]
  refine reg_tk (v := (.int .i64 (j : Int))) 6 109 rfl rfl (by kernel_rfl) (by kernel_rfl) (by kernel_rfl) (fun _ _ _ h => h) (by rfl) (fun w3 hS => by (have y0 := cell_later hS m3); go_simp) (by assumption) ?_
  simp only [List.setIfInBounds_toArray, List.set_cons_zero, List.set_cons_succ]
  refine reg_tk (v := (.pointer (some ⟨rb, ro + j * 4, none⟩))) 7 110 rfl rfl (by kernel_rfl) (by kernel_rfl) (by kernel_rfl) (fun _ _ _ h => h) (by rfl) (fun w3 hS => by skip; go_simp) (by assumption) ?_
  simp only [List.setIfInBounds_toArray, List.set_cons_zero, List.set_cons_succ]
  refine reg_tk (v := (.agg #[.int .i64 f.kd, .int .i64 f.fr, .int .i64 f.tt, .int .i64 f.of])) 8 111 rfl rfl (by kernel_rfl) (by kernel_rfl) (by kernel_rfl) (fun _ _ _ h => h) (by rfl) (fun w3 hS => by (have y0 := cell_later hS g0; have y1 := cell_later hS g1; have y2 := cell_later hS g2; have y3 := cell_later hS g3); go_simp) (by assumption) ?_
  simp only [List.setIfInBounds_toArray, List.set_cons_zero, List.set_cons_succ]
  refine wpAnyH_ready (rs := [9]) (by kernel_rfl) (by simp) ?_
  refine AllReadyH.cons rfl (fun K hK => ?_) AllReadyH.nil
  go_simp
  refine hK.out _ _ (Below.al (Below.refl _ w3).drew _) (fun hHeld2 => ?_)
  clear hK K hHeld
  have hHeld := hHeld2
  clear hHeld2
  try simp only [Act.put, List.setIfInBounds_toArray, List.set_cons_zero, List.set_cons_succ]
  refine wpAnyH_ready (rs := [10]) (by kernel_rfl) (by simp) ?_
  refine AllReadyH.cons rfl (fun K hK => ?_) AllReadyH.nil
  go_simp
  obtain ⟨W5, hW5⟩ : ∃ W5 : World, W5 = (w3.alloc (.cells #[.int .i64 f.kd, .int .i64 f.fr, .int .i64 f.tt, .int .i64 f.of] 47)).drew := ⟨_, rfl⟩
  have hB5 : Below w3.heap.size w3 W5 := by rw [hW5]; exact (Below.al (Below.refl _ w3) _).drew
  have b5 : BoxN W5 w3.heap.size 47 #[.int .i64 f.kd, .int .i64 f.fr, .int .i64 f.tt, .int .i64 f.of] := by rw [hW5]; exact (BoxN.new w3 47 _).below ((Below.refl _ _).drew)
  rw [← hW5]
  have hw5 : w3.heap.size < W5.heap.size := by rw [hW5]; show w3.heap.size < (w3.alloc _).heap.size; simp
  clear hW5
  refine hK.out _ _ hB5 (fun hHeld2 => ?_)
  clear hK K hHeld
  have hHeld := hHeld2
  clear hHeld2
  try simp only [Act.put, List.setIfInBounds_toArray, List.set_cons_zero, List.set_cons_succ]
  refine wpAnyH_done (by kernel_rfl) ?_ _
  refine NoPanic.normal ?_
  clear hHeld
  have hop5 := HOP3.out.below (hB5.drew)
  have q2 : W5.cell? ⟨p, 2, none⟩ = some (.slice (some ⟨rb, ro, none⟩) X.fr.length rc) := cell_later hB5 p2
  have q3 : W5.cell? ⟨w.heap.size + 1, 3, none⟩ = some (.int .i64 (j : Int)) := cell_later hB5 m3
  have q0' : W5.cell? ⟨w.heap.size + 1, 0, none⟩ = some (.int .i64 (2)) := cell_later hB5 m0
  have HDEL := Lib.hid (delete_any W5.drew w1.heap.size (.slice (some ⟨rb, ro, none⟩) X.fr.length rc) X.fr j hj (by omega) hop5.or.frs)
  have HOP5 := Lib.hid hop5
  have HB5 := Lib.hid hB5
  clear hop5 p2 m0 m1 m2 m3 g0 g1 g2 g3
  go_upto_region 19 with fail
  refine wp_region_noPanic ?_
  refine wp_region_late (fun _ => True) (fun w' => w'.cell? ⟨p, 2, none⟩ = some (.slice (some ⟨rb, ro, none⟩) X.fr.length rc) ∧ w'.cell? ⟨w.heap.size + 1, 3, none⟩ = some (.int .i64 (j : Int))) [15] (by kernel_rfl) trivial ⟨q2, q3⟩ (fun hHeld0 hHeld => ?_)
  refine reg0_tk (v := ?_) 0 112 rfl rfl (by kernel_rfl) (by kernel_rfl) (by kernel_rfl) (by kernel_rfl) (by kernel_rfl) (fun _ _ _ h => h) (by rfl) ?_ (by assumption) (by assumption) ?_
  rotate_left
  · (intro w3 hS; (try dsimp only at hS); skip; go_simp; (try with_reducible rfl))
  simp only [List.setIfInBounds_toArray, List.set_cons_zero, List.set_cons_succ]
  refine reg0_tk (v := ?_) 1 113 rfl rfl (by kernel_rfl) (by kernel_rfl) (by kernel_rfl) (by kernel_rfl) (by kernel_rfl) (fun _ _ _ h => h) (by rfl) ?_ (by assumption) (by assumption) ?_
  rotate_left
  · (intro w3 hS; (try dsimp only at hS); skip; go_simp; (try with_reducible rfl))
  simp only [List.setIfInBounds_toArray, List.set_cons_zero, List.set_cons_succ]
  refine reg0_tk (v := ?_) 2 114 rfl rfl (by kernel_rfl) (by kernel_rfl) (by kernel_rfl) (by kernel_rfl) (by kernel_rfl) (fun _ _ _ h => h) (by rfl) ?_ (by assumption) (by assumption) ?_
  rotate_left
  · (intro w3 hS; (try dsimp only at hS); skip; go_simp; (try with_reducible rfl))
  simp only [List.setIfInBounds_toArray, List.set_cons_zero, List.set_cons_succ]
  refine reg0_tk (v := ?_) 3 115 rfl rfl (by kernel_rfl) (by kernel_rfl) (by kernel_rfl) (by kernel_rfl) (by kernel_rfl) (fun _ _ _ h => h) (by rfl) ?_ (by assumption) (by assumption) ?_
  rotate_left
  · (intro w3 hS; (try dsimp only at hS); skip; go_simp; (try with_reducible rfl))
  simp only [List.setIfInBounds_toArray, List.set_cons_zero, List.set_cons_succ]
  refine reg0_tk (v := ?_) 4 116 rfl rfl (by kernel_rfl) (by kernel_rfl) (by kernel_rfl) (by kernel_rfl) (by kernel_rfl) (fun _ _ _ h => h) (by rfl) ?_ (by assumption) (by assumption) ?_
  rotate_left
  · (intro w3 hS; (try dsimp only at hS); skip; go_simp; (try with_reducible rfl))
  simp only [List.setIfInBounds_toArray, List.set_cons_zero, List.set_cons_succ]
  refine regG_tk (v := ?_) 5 117 rfl rfl (by kernel_rfl) (by kernel_rfl) (by kernel_rfl) (by kernel_rfl) (by kernel_rfl) (fun _ _ _ h => h) (by rfl) ?_ (by assumption) (by assumption) ?_
  rotate_left
  · (intro w3 hS; (try dsimp only at hS); obtain ⟨y0, y1⟩ := hS; go_simp; (try with_reducible rfl))
  simp only [List.setIfInBounds_toArray, List.set_cons_zero, List.set_cons_succ]
  refine reg0_tk (v := ?_) 6 118 rfl rfl (by kernel_rfl) (by kernel_rfl) (by kernel_rfl) (by kernel_rfl) (by kernel_rfl) (fun _ _ _ h => h) (by rfl) ?_ (by assumption) (by assumption) ?_
  rotate_left
  · (intro w3 hS; (try dsimp only at hS); skip; go_simp; (try with_reducible rfl))
  simp only [List.setIfInBounds_toArray, List.set_cons_zero, List.set_cons_succ]
  refine regG_tk (v := ?_) 7 119 rfl rfl (by kernel_rfl) (by kernel_rfl) (by kernel_rfl) (by kernel_rfl) (by kernel_rfl) (fun _ _ _ h => h) (by rfl) ?_ (by assumption) (by assumption) ?_
  rotate_left
  · (intro w3 hS; (try dsimp only at hS); obtain ⟨y0, y1⟩ := hS; go_simp; (try with_reducible rfl))
  simp only [List.setIfInBounds_toArray, List.set_cons_zero, List.set_cons_succ]
  refine reg0_tk (v := ?_) 8 120 rfl rfl (by kernel_rfl) (by kernel_rfl) (by kernel_rfl) (by kernel_rfl) (by kernel_rfl) (fun _ _ _ h => h) (by rfl) ?_ (by assumption) (by assumption) ?_
  rotate_left
  · (intro w3 hS; (try dsimp only at hS); skip; go_simp; (try with_reducible rfl))
  simp only [List.setIfInBounds_toArray, List.set_cons_zero, List.set_cons_succ]
  refine regG_tk (v := ?_) 9 121 rfl rfl (by kernel_rfl) (by kernel_rfl) (by kernel_rfl) (by kernel_rfl) (by kernel_rfl) (fun _ _ _ h => h) (by rfl) ?_ (by assumption) (by assumption) ?_
  rotate_left
  · (intro w3 hS; (try dsimp only at hS); obtain ⟨y0, y1⟩ := hS; go_simp; (try with_reducible rfl))
  simp only [List.setIfInBounds_toArray, List.set_cons_zero, List.set_cons_succ]
  refine reg0_tk (v := ?_) 10 122 rfl rfl (by kernel_rfl) (by kernel_rfl) (by kernel_rfl) (by kernel_rfl) (by kernel_rfl) (fun _ _ _ h => h) (by rfl) ?_ (by assumption) (by assumption) ?_
  rotate_left
  · (intro w3 hS; (try dsimp only at hS); skip; go_simp; (try with_reducible rfl))
  simp only [List.setIfInBounds_toArray, List.set_cons_zero, List.set_cons_succ]
  refine wpAnyG_oneS (i := 11) (by kernel_rfl) rfl (by rfl) (fun K hK => ?_)
  go_simp
  refine HDEL.out.mono ?_
  rintro e w6 ⟨a6, c6, rfl, h6, hk6, hm6⟩
  obtain ⟨r1, r2, r3, r4⟩ := HOP5.out.frs hk6 h6 hm6
  have hm1 : ∀ b, b < w1.heap.size → ¬ (b = p ∨ Mn g (.slice (some ⟨rb, ro, none⟩) X.fr.length rc) q b) := fun b hb e => by
    rcases e with e | e
    · omega
    · have := (HOP3.out.or.gt_lt e).1; omega
  have hm3 : ¬ (w3.heap.size = p ∨ Mn g (.slice (some ⟨rb, ro, none⟩) X.fr.length rc) q w3.heap.size) := fun e => by
    rcases e with e | e
    · have := HOP3.out.box.lt; omega
    · have := (HOP3.out.or.gt_lt e).2; omega
  have hS6 : w6.cell? ⟨p, 2, none⟩ = some (.slice (some ⟨rb, ro, none⟩) X.fr.length rc) ∧ w6.cell? ⟨w.heap.size + 1, 3, none⟩ = some (.int .i64 (j : Int)) := ⟨r4.cell 2, hk6.cell (p := ⟨w.heap.size + 1, 3, none⟩) (fun e => hm1 (w.heap.size + 1) (by omega) (.inr (.inr (.inl e)))) q3⟩
  have v0 := hS6.1
  have v1 := r4.frozen 2
  clear h6 hk6 hm6 r4
  refine hK _ _ trivial hS6 ?_
  clear hK K
  try simp only [Act.put, List.setIfInBounds_toArray, List.set_cons_zero, List.set_cons_succ]
  refine wpAnyG_oneS (i := 12) (by kernel_rfl) rfl (by rfl) (fun K hK => ?_)
  go_simp
  refine hK _ _ trivial hS6 ?_
  clear hK K
  try simp only [Act.put, List.setIfInBounds_toArray, List.set_cons_zero, List.set_cons_succ]
  refine wpAnyG_oneS (i := 13) (by kernel_rfl) rfl (by rfl) (fun K hK => ?_)
  go_simp
  refine hK _ _ trivial hS6 ?_
  clear hK K
  try simp only [Act.put, List.setIfInBounds_toArray, List.set_cons_zero, List.set_cons_succ]
  refine wpAnyG_oneS (i := 14) (by kernel_rfl) rfl (by rfl) (fun K hK => ?_)
  go_simp
  refine hK _ _ trivial hS6 ?_
  clear hK K
  try simp only [Act.put, List.setIfInBounds_toArray, List.set_cons_zero, List.set_cons_succ]
  refine wpAnyG_one (i := 15) (by kernel_rfl) rfl (by rfl) (by kernel_rfl) (fun K hK => ?_)
  go_simp
  refine hK _ _ trivial ?_
  clear hK K
  try simp only [Act.put, List.setIfInBounds_toArray, List.set_cons_zero, List.set_cons_succ]
  refine wpAnyG_done (by kernel_rfl) ?_ _
  refine NoPanic.normal ?_
  obtain ⟨w7, hw7⟩ : ∃ w7 : World, w7 = w6.setCell ⟨p, 2, none⟩ (.slice a6 (dlF X.fr j).length c6) := ⟨_, rfl⟩
  rw [← hw7] at r1 r2 ⊢
  clear hw7 v0 v1 hS6
  have m0 : w7.cell? ⟨w.heap.size + 1, 0, none⟩ = some (.int .i64 (2)) := r2.cell (p := ⟨w.heap.size + 1, 0, none⟩) (hm1 (w.heap.size + 1) (by omega)) q0'
  have hB37 : Below w1.heap.size w1 w7 := (HB13.out.trans ((HB5.out.drew).mono (by omega))).trans (r2.below (by show w1.heap.size ≤ W5.heap.size; omega) (fun b e => by
    rcases Nat.lt_or_ge b w1.heap.size with h | h
    · exact absurd e (hm1 b h)
    · exact h))
  clear q0' q2 q3
  have b7 := r2.box hm3 (b5.below (Below.refl _ _).drew)
  have s0 : w7.cell? ⟨w3.heap.size, 0, none⟩ = some (.int .i64 f.kd) := b7.cell 0
  have s1 : w7.cell? ⟨w3.heap.size, 1, none⟩ = some (.int .i64 f.fr) := b7.cell 1
  have s2 : w7.cell? ⟨w3.heap.size, 2, none⟩ = some (.int .i64 f.tt) := b7.cell 2
  have s3 : w7.cell? ⟨w3.heap.size, 3, none⟩ = some (.int .i64 f.of) := b7.cell 3
  have hw7 : W5.heap.size ≤ w7.heap.size := r2.size
  have hoo : Okw (outF X j) := okw_out HO.out
  have hfm : frmOK (outF X j) f := by
    have := okw_frm HO.out (gp_mem hj)
    rw [HFf.out] at this
    exact this
  have hso : Sml (outF X j) := ⟨HS.out.cs, by
    show (dlF X.fr j).length ≤ _
    have := dl_len hj
    omega, HS.out.tg⟩
  have hw71 : w1.heap.size ≤ w7.heap.size := by omega
  have HPS := Lib.hid (pass_any w7 w1.heap.size p g cap _ q (outF X j) f rash hfm hso hw71 hoo.2.2.2.2.1 r1)
  have HR1 := Lib.hid r1
  have HB7 := Lib.hid hB37
  have hxe : pasW rash (outF X j) f = XE := by rw [← HFf.out]; exact HXE.out
  have HXF := Lib.hid hxe
  clear r1 r2 r3 hm1 hm3 hB37 b5 b7 hoo hfm hso hxe hw7
  go_wp2_with fail
  refine HPS.out.mono ?_
  rintro e w8 ⟨rfl, hch⟩
  have ms : MvS w1 w1.heap.size p _ w8 := MvS.chg HB7.out HR1.out hw71 hch
  rw [HXF.out] at ms
  clear hch s0 s1 s2 s3 m0
  obtain ⟨g9, cap9, fv9, q9, ho9, hb9⟩ := ms
  obtain ⟨fa9, fc9, hfv9⟩ := owns_form ho9.or.frs
  subst hfv9
  have e9 := HBT.out.below (HB1.out.trans (hb9.mono hw1))
  have hB9 := HB1w.out.trans (hb9.mono (by omega))
  have hw9 := hb9.size
  have t0 : World.cell? w8 ⟨w.heap.size + 2, 0, none⟩ = some (.int .i64 0) := e9.cell 0
  have t1 : World.cell? w8 ⟨w.heap.size + 2, 1, none⟩ = some (.slice none 0 0) := e9.cell 1
  have t2 : World.cell? w8 ⟨w.heap.size + 2, 2, none⟩ = some (.slice none 0 0) := e9.cell 2
  have z0 := e9.frozen 0
  have z1 := e9.frozen 1
  have z2 := e9.frozen 2
  have p0 : World.cell? w8 ⟨p, 0, none⟩ = some (.int .i64 (XE).ds) := ho9.box.cell 0
  have p1 : World.cell? w8 ⟨p, 1, none⟩ = some (.slice (some ⟨g9, 0, none⟩) (XE).cs.length cap9) := ho9.box.cell 1
  have p2 : World.cell? w8 ⟨p, 2, none⟩ = some (.slice fa9 (XE).fr.length fc9) := ho9.box.cell 2
  have HO9 := Lib.hid ho9
  have HB9 := Lib.hid hB9
  clear ho9 hb9 e9 hB9
  go_wp2_with fail
  refine bodyPost_ret (v := .tuple #[.agg #[.int .i64 (XE).ds, .slice (some ⟨g9, 0, none⟩) (XE).cs.length cap9, .slice fa9 (XE).fr.length fc9], .int .i64 0]) (by simp [results, Try.results44, go_sem, t0, t1, t2]) rfl ⟨_, rfl, ?_, ⟨_, _, q9, rfl, ?_⟩⟩
  · exact ((HB9.out.setCell (p := ⟨w.heap.size + 2, 0, none⟩) (by show w.heap.size ≤ w.heap.size + 2; omega) _).setCell (p := ⟨w.heap.size + 2, 1, none⟩) (by show w.heap.size ≤ w.heap.size + 2; omega) _).setCell (p := ⟨w.heap.size + 2, 2, none⟩) (by show w.heap.size ≤ w.heap.size + 2; omega) _
  · exact (PtF.of_or (HO9.out.or.kx (S := fun k => k = w.heap.size + 2) (((kx_cell w8 (w.heap.size + 2) 0 _).setCell (.inl rfl) _).setCell (.inl rfl) _) (fun k hk e => by have := (HO9.out.or.gt_lt hk).1; omega))).mono (by omega)
end Go.Proofs.Ytnkpjfogjkjcfaa
