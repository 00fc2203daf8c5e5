


/- Custody: a frame arrives: the program. -/
import Derived.Test.YtnkpjfogjkjcfaaRr
namespace Go.Proofs.Ytnkpjfogjkjcfaa
open Go.RowKit
set_option linter.unusedSimpArgs false
set_option linter.unusedVariables false
set_option maxRecDepth 100000

/-- as Chg; the frames may lie in another row -/
def ChgF (w : World) (B p g cap : Nat) (fv : Value) (q : List Cq) (X : Wd) (w' : World) : Prop :=
  ∃ fv' q', OP w' B p g cap fv' q' X ∧ Kx (fun k => k = p ∨ Mn g fv q k) w w' ∧ ∀ k, Mn g fv' q' k → Mn g fv q k ∨ w.heap.size ≤ k
theorem RdS.boxP (w : World) (T : TypeId) (f : Ps) : RdS (w.alloc (.cells #[.int .i64 f.kd, .int .i64 f.fr, .int .i64 f.tt, .int .i64 f.of] T)) 4 (.slice (some ⟨w.heap.size, 0, none⟩) 1 1) 1 (rcs psR [f]) :=
  ⟨rfl, by unfold maxLen; omega, .inr ⟨w.heap.size, 0, 1, rfl, Nat.le_refl _, fun j u hj => by
    rw [Nat.zero_add, (BoxN.new w T #[.int .i64 f.kd, .int .i64 f.fr, .int .i64 f.tt, .int .i64 f.of]).cell j]
    have : rcs psR [f] = [.int .i64 f.kd, .int .i64 f.fr, .int .i64 f.tt, .int .i64 f.of] := rfl
    rw [this] at hj
    simpa using hj⟩⟩
/-- a frame has been appended, and the row stored -/
theorem OP.push {w X1 w3 : World} {B p g cap : Nat} {fv : Value} {q : List Cq} {X : Wd} {f : Ps} {a : Option Addr} {c : Nat} (h : OP w B p g cap fv q X) (hb : Below w.heap.size w X1) (hown : w3.ownsRow B 47 4 (.slice a (X.fr.length + 1) c) (X.fr.length + 1) (rcs psR X.fr ++ rcs psR [f])) (hg : X1.grownBy w3 fv.ownBlock) (hwh : ∀ k, (Value.slice a (X.fr.length + 1) c).ownBlock = some k → fv.ownBlock = some k ∨ X1.heap.size ≤ k) :
    OP (w3.setCell ⟨p, 2, none⟩ (.slice a (X.fr.length + 1) c)) B p g cap (.slice a (X.fr.length + 1) c) q { X with fr := X.fr ++ [f] } ∧ Kx (fun k => k = p ∨ Mn g fv q k) w (w3.setCell ⟨p, 2, none⟩ (.slice a (X.fr.length + 1) c)) ∧ (∀ k, Mn g (.slice a (X.fr.length + 1) c) q k → Mn g fv q k ∨ w.heap.size ≤ k) ∧ BoxN w3 p 66 #[.int .i64 X.ds, .slice (some ⟨g, 0, none⟩) X.cs.length cap, fv] := by
  have hx := h.below hb
  have hk1 : Kx (fun k => fv.ownBlock = some k) X1 w3 := (Kx.refl (fun k => fv.ownBlock = some k) X1).grown hg (fun k e => .inl e)
  have hbox3 : BoxN w3 p 66 #[.int .i64 X.ds, .slice (some ⟨g, 0, none⟩) X.cs.length cap, fv] := hk1.box (fun e => hx.ne (.inr (.inl e))) hx.box
  have hrc : rcs psR (X.fr ++ [f]) = rcs psR X.fr ++ rcs psR [f] := rcs_append psR _ _
  have hlen : (X.fr ++ [f]).length = X.fr.length + 1 := by simp
  have hor := hx.or.frames (fv' := .slice a (X.fr.length + 1) c) (F := X.fr ++ [f]) hk1 (by unfold OwP; rw [hlen, hrc]; exact hown)
  have hkp : Kx (fun k => k = p) w3 (w3.setCell ⟨p, 2, none⟩ (.slice a (X.fr.length + 1) c)) := kx_cell w3 p 2 _
  have hnp : ¬ Mn g (.slice a (X.fr.length + 1) c) q p := by
    rintro (e | e | ⟨i, e | e⟩)
    · exact hx.ne (.inl e)
    · exact row_ne hown hbox3 (by decide) p e rfl
    · exact hx.ne (.inr (.inr ⟨i, .inl e⟩))
    · exact hx.ne (.inr (.inr ⟨i, .inr e⟩))
  have hs := hb.size
  refine ⟨⟨hbox3.setc 2 _, hor.kx hkp (fun k hk e => hnp (by rw [e] at hk; exact hk)), h.ge⟩, ?_, fun k hk => ?_, hbox3⟩
  · exact (((Kx.of_below (X := fun k => k = p ∨ Mn g fv q k) hb).trans hk1 (fun k _ e => .inr (.inr (.inl e)))).trans hkp (fun k _ e => .inl e))
  · rcases hk with e | e | e
    · exact .inl (.inl e)
    · rcases hwh k e with e | e
      · exact .inl (.inr (.inl e))
      · exact .inr (by omega)
    · exact .inl (.inr (.inr e))
set_option maxHeartbeats 1000000 in
theorem pass_any (w : World) (B p g cap : Nat) (fv : Value) (q : List Cq) (X : Wd) (f : Ps) (rash : Bool) (hf : frmOK X f) (hs : Sml X) (hB : B ≤ w.heap.size) (hc : ∀ i, i < X.cs.length → copOK X ((i : Int) + 1) (gc X.cs i)) (h : OP w B p g cap fv q X) :
    Calls Try.prog 57 #[ptr p, f.v, .bool rash] w fun e w' => e = .returned (.tuple #[]) ∧ ChgF w B p g cap fv q (pasW rash X f) w' := by
  have hn : isN X f.tt := by
    unfold frmOK at hf
    rcases hf with ⟨_, h1, _⟩ | ⟨_, _, h1⟩
    · exact h1
    · exact h1.1
  obtain ⟨i, hi, hfi, hat0⟩ := atC_get hn
  have hfii : (f.tt - 1).toNat = i := by omega
  obtain ⟨W, hW⟩ : ∃ W : World, W = (w.alloc (.cells #[.int .i64 f.kd, .int .i64 f.fr, .int .i64 f.tt, .int .i64 f.of] 47)).alloc (.cells #[.int .i64 6, .int .i64 f.tt, .int .i64 f.fr, .int .i64 f.of] 47) := ⟨_, rfl⟩
  have hB0 : Below w.heap.size w W := by rw [hW]; exact (by repeat (first | assumption | exact Below.refl _ _ | apply Below.al | apply below_drewN | apply Below.drew | refine Below.next ?_ (by assumption)))
  have hWs : W.heap.size = w.heap.size + 2 := by rw [hW]; simp
  have b1 : BoxN W w.heap.size 47 #[.int .i64 f.kd, .int .i64 f.fr, .int .i64 f.tt, .int .i64 f.of] := by rw [hW]; exact (BoxN.new w _ _).below (by repeat (first | assumption | exact Below.refl _ _ | apply Below.al | apply below_drewN | apply Below.drew | refine Below.next ?_ (by assumption)))
  have b2 : BoxN W (w.heap.size + 1) 47 #[.int .i64 6, .int .i64 f.tt, .int .i64 f.fr, .int .i64 f.of] := by
    rw [hW]
    have := BoxN.new (w.alloc (.cells #[.int .i64 f.kd, .int .i64 f.fr, .int .i64 f.tt, .int .i64 f.of] 47)) 47 #[.int .i64 6, .int .i64 f.tt, .int .i64 f.fr, .int .i64 f.of]
    simpa using this
  have hO := h.below hB0
  have hmn : ∀ k, Mn g fv q k → k < w.heap.size := fun k e => (h.or.gt_lt e).2
  have hpl := h.box.lt
  have f0 : W.cell? ⟨w.heap.size, 0, none⟩ = some (.int .i64 f.kd) := b1.cell 0
  have f1 : W.cell? ⟨w.heap.size, 1, none⟩ = some (.int .i64 f.fr) := b1.cell 1
  have f2 : W.cell? ⟨w.heap.size, 2, none⟩ = some (.int .i64 f.tt) := b1.cell 2
  have f3 : W.cell? ⟨w.heap.size, 3, none⟩ = some (.int .i64 f.of) := b1.cell 3
  by_cases hk : f.kd = 3
  · have d1 : (f.kd == 3) = true := by simp [hk]
    obtain ⟨ak, hK⟩ : ∃ ak, ansK (gc X.cs i) ⟨f.fr, f.of⟩ rash = ak := ⟨_, rfl⟩
    obtain ⟨X1, hX1⟩ : ∃ X1, setI X i (ansC (decide (f.tt = X.ds)) (gc X.cs i) ⟨f.fr, f.of⟩ rash) = X1 := ⟨_, rfl⟩
    have hpas : pasW rash X f = { X1 with fr := X.fr ++ [⟨ak, f.tt, f.fr, f.of⟩] } := by
      unfold pasW
      rw [if_pos hk, hat0, hK, ← hX1]
      unfold setC setI
      rw [hfii]
    rw [hpas]
    have hcopi := hc i hi
    rw [← hfi] at hcopi
    have hdat := data_any W B p g cap fv q X f rash i hi hfi hs (by have := hB0.size; omega) hcopi hO
    rw [hK, hX1] at hdat
    have HDAT := Lib.hid hdat
    have hfr1 : X1.fr = X.fr := by rw [← hX1]; rfl
    have hsf := hs.fr
    rw [← hfr1] at hsf ⊢
    clear hk hdat hcopi hK hX1 hpas hfr1 hc hs hf hn hat0 hfii hfi hi
    go_enter Try.func57, Try.ntmps57
    go_upto_region 2 with fail
    rw [← hW]
    clear hW
    go_wp2_with fail
    refine HDAT.out.mono ?_
    rintro e w1 ⟨rfl, q1, h1, hk1, hm1⟩
    have hnf : ¬ Mn g fv q w.heap.size := fun e => by have := hmn _ e; omega
    have hnb : ¬ Mn g fv q (w.heap.size + 1) := fun e => by have := hmn _ e; omega
    have e2 := hk1.box hnb b2
    have z0 : w1.cell? ⟨w.heap.size + 1, 0, none⟩ = some (.int .i64 6) := e2.cell 0
    have z1 : w1.frozen? ⟨w.heap.size + 1, 0, none⟩ = false := e2.frozen 0
    have e3 := e2.setc 0 (.int .i64 ak)
    have hkb : Kx (fun k => k = w.heap.size + 1) w1 (w1.setCell ⟨w.heap.size + 1, 0, none⟩ (.int .i64 ak)) := kx_cell w1 _ _ _
    have hm1' : ∀ k, Mn g fv q1 k → k ≠ w.heap.size + 1 := fun k e e2 => by
      rcases hm1 k e with e | e
      · have := hmn _ e; omega
      · omega
    have h2 : OP (w1.setCell ⟨w.heap.size + 1, 0, none⟩ (.int .i64 ak)) B p g cap fv q1 X1 := ⟨hkb.box (by omega) h1.box, h1.or.kx hkb (fun k e => hm1' k e), h1.ge⟩
    have H2 := Lib.hid h2
    have E3 := Lib.hid e3
    have hkx1 : Kx (Mn g fv q) w w1 := (Kx.of_below (X := Mn g fv q) hB0).trans hk1 (fun k _ e => e)
    have hws := hkx1.size
    have hkx2 : Kx (Mn g fv q) w (w1.setCell ⟨w.heap.size + 1, 0, none⟩ (.int .i64 ak)) := hkx1.setCell (.inr (by omega)) _
    have HKX := Lib.hid hkx2
    have HM1 := Lib.hid hm1
    clear h1 h2 e2 e3 hkb hm1' hkx1 hkx2 hk1 hm1 f0 f1 f2 f3 b1 b2 hnf hnb
    go_upto_region 5 with fail
    obtain ⟨w2, hw2⟩ : ∃ w2 : World, w2 = w1.setCell ⟨w.heap.size + 1, 0, none⟩ (.int .i64 ak) := ⟨_, rfl⟩
    rw [← hw2] at H2 E3 HKX ⊢
    have hw2s : w1.heap.size ≤ w2.heap.size := by rw [hw2]; simp
    clear hw2 z0 z1
    obtain ⟨fa, fc, hfv⟩ := owns_form H2.out.or.frs
    subst hfv
    have p2 : w2.cell? ⟨p, 2, none⟩ = some (.slice fa X1.fr.length fc) := H2.out.box.cell 2
    have a0 : w2.cell? ⟨w.heap.size + 1, 0, none⟩ = some (.int .i64 ak) := E3.out.cell 0
    have a1 : w2.cell? ⟨w.heap.size + 1, 1, none⟩ = some (.int .i64 f.tt) := E3.out.cell 1
    have a2 : w2.cell? ⟨w.heap.size + 1, 2, none⟩ = some (.int .i64 f.fr) := E3.out.cell 2
    have a3 : w2.cell? ⟨w.heap.size + 1, 3, none⟩ = some (.int .i64 f.of) := E3.out.cell 3
    refine wp_region_noPanic ?_
    refine wp_region_late (fun _ => True) (fun w' => w'.cell? ⟨p, 2, none⟩ = some (.slice fa X1.fr.length fc) ∧ w'.cell? ⟨w.heap.size + 1, 0, none⟩ = some (.int .i64 ak) ∧ w'.cell? ⟨w.heap.size + 1, 1, none⟩ = some (.int .i64 f.tt) ∧ w'.cell? ⟨w.heap.size + 1, 2, none⟩ = some (.int .i64 f.fr) ∧ w'.cell? ⟨w.heap.size + 1, 3, none⟩ = some (.int .i64 f.of)) [12] (by kernel_rfl) trivial ⟨p2, a0, a1, a2, a3⟩ (fun hHeld0 hHeld => ?_)
    refine reg0_tk (v := ?_) 0 24 rfl rfl (by kernel_rfl) (by kernel_rfl) (by kernel_rfl) (by kernel_rfl) (by kernel_rfl) (fun _ _ _ h => h) (by rfl) ?_ (by assumption) (by assumption) ?_
    rotate_left
    · (intro w3 hS; (try dsimp only at hS); skip; go_simp; (try with_reducible rfl))
    simp only [List.setIfInBounds_toArray, List.set_cons_zero, List.set_cons_succ]
    refine reg0_tk (v := ?_) 1 25 rfl rfl (by kernel_rfl) (by kernel_rfl) (by kernel_rfl) (by kernel_rfl) (by kernel_rfl) (fun _ _ _ h => h) (by rfl) ?_ (by assumption) (by assumption) ?_
    rotate_left
    · (intro w3 hS; (try dsimp only at hS); skip; go_simp; (try with_reducible rfl))
    simp only [List.setIfInBounds_toArray, List.set_cons_zero, List.set_cons_succ]
    refine reg0_tk (v := ?_) 2 26 rfl rfl (by kernel_rfl) (by kernel_rfl) (by kernel_rfl) (by kernel_rfl) (by kernel_rfl) (fun _ _ _ h => h) (by rfl) ?_ (by assumption) (by assumption) ?_
    rotate_left
    · (intro w3 hS; (try dsimp only at hS); skip; go_simp; (try with_reducible rfl))
    simp only [List.setIfInBounds_toArray, List.set_cons_zero, List.set_cons_succ]
    refine reg0_tk (v := ?_) 3 27 rfl rfl (by kernel_rfl) (by kernel_rfl) (by kernel_rfl) (by kernel_rfl) (by kernel_rfl) (fun _ _ _ h => h) (by rfl) ?_ (by assumption) (by assumption) ?_
    rotate_left
    · (intro w3 hS; (try dsimp only at hS); skip; go_simp; (try with_reducible rfl))
    simp only [List.setIfInBounds_toArray, List.set_cons_zero, List.set_cons_succ]
    refine reg0_tk (v := ?_) 4 28 rfl rfl (by kernel_rfl) (by kernel_rfl) (by kernel_rfl) (by kernel_rfl) (by kernel_rfl) (fun _ _ _ h => h) (by rfl) ?_ (by assumption) (by assumption) ?_
    rotate_left
    · (intro w3 hS; (try dsimp only at hS); skip; go_simp; (try with_reducible rfl))
    simp only [List.setIfInBounds_toArray, List.set_cons_zero, List.set_cons_succ]
    refine regG_tk (v := ?_) 5 29 rfl rfl (by kernel_rfl) (by kernel_rfl) (by kernel_rfl) (by kernel_rfl) (by kernel_rfl) (fun _ _ _ h => h) (by rfl) ?_ (by assumption) (by assumption) ?_
    rotate_left
    · (intro w3 hS; (try dsimp only at hS); obtain ⟨y0, y1, y2, y3, y4⟩ := hS; go_simp; (try with_reducible rfl))
    simp only [List.setIfInBounds_toArray, List.set_cons_zero, List.set_cons_succ]
    refine regG_tk (v := ?_) 6 30 rfl rfl (by kernel_rfl) (by kernel_rfl) (by kernel_rfl) (by kernel_rfl) (by kernel_rfl) (fun _ _ _ h => h) (by rfl) ?_ (by assumption) (by assumption) ?_
    rotate_left
    · (intro w3 hS; (try dsimp only at hS); obtain ⟨y0, y1, y2, y3, y4⟩ := hS; go_simp; (try with_reducible rfl))
    simp only [List.setIfInBounds_toArray, List.set_cons_zero, List.set_cons_succ]
    obtain ⟨x, hx⟩ : ∃ x : Ps, x = ⟨ak, f.tt, f.fr, f.of⟩ := ⟨_, rfl⟩
    obtain ⟨V, hV⟩ : ∃ V : World, V = (w2.alloc (.cells #[.int .i64 ak, .int .i64 f.tt, .int .i64 f.fr, .int .i64 f.of] 47)).drew := ⟨_, rfl⟩
    have hVb : Below w2.heap.size w2 V := by rw [hV]; exact (Below.al (Below.refl _ w2) _).drew
    have hVn : RdS V 4 (.slice (some ⟨w2.heap.size, 0, none⟩) 1 1) 1 (rcs psR [x]) := by rw [hV, hx]; exact (RdS.boxP w2 47 ⟨ak, f.tt, f.fr, f.of⟩).keep ((Below.refl _ _).drew)
    have hSV : V.cell? ⟨p, 2, none⟩ = some (.slice fa X1.fr.length fc) ∧ V.cell? ⟨w.heap.size + 1, 0, none⟩ = some (.int .i64 ak) ∧ V.cell? ⟨w.heap.size + 1, 1, none⟩ = some (.int .i64 f.tt) ∧ V.cell? ⟨w.heap.size + 1, 2, none⟩ = some (.int .i64 f.fr) ∧ V.cell? ⟨w.heap.size + 1, 3, none⟩ = some (.int .i64 f.of) := ⟨cell_later hVb p2, cell_later hVb a0, cell_later hVb a1, cell_later hVb a2, cell_later hVb a3⟩
    have hVo := (H2.out.or.below hVb).frs
    have hVz := hVb.size
    refine wpAnyG_oneS (i := 7) (by kernel_rfl) rfl (by rfl) (fun K hK => ?_)
    go_simp
    rw [← hV]
    clear hV
    refine hK _ _ trivial hSV ?_
    clear hK K
    try simp only [Act.put, List.setIfInBounds_toArray, List.set_cons_zero, List.set_cons_succ]
    refine wpAnyG_oneS (i := 8) (by kernel_rfl) rfl (by rfl) (fun K hK => ?_)
    refine wp_app_at (.tmp 29) (.tmp 31) 23 rfl B 47 _ 4 32 EPs (.slice fa X1.fr.length fc) X1.fr.length (rcs psR X1.fr) rfl hVo _ 1 (rcs psR [x]) (by decide) rfl hVn (rcs_one _ _) (by unfold maxLen; omega) (by omega) (by omega) ?_
    intro a' c' w3 hown hg hwh
    obtain ⟨r1, r2, r3, r4⟩ := H2.out.push (f := x) hVb hown hg hwh
    have hSW : w3.cell? ⟨p, 2, none⟩ = some (.slice fa X1.fr.length fc) ∧ w3.cell? ⟨w.heap.size + 1, 0, none⟩ = some (.int .i64 ak) ∧ w3.cell? ⟨w.heap.size + 1, 1, none⟩ = some (.int .i64 f.tt) ∧ w3.cell? ⟨w.heap.size + 1, 2, none⟩ = some (.int .i64 f.fr) ∧ w3.cell? ⟨w.heap.size + 1, 3, none⟩ = some (.int .i64 f.of) := by
      have hkk : Kx (fun k => (Value.slice fa X1.fr.length fc).ownBlock = some k) V w3 := (Kx.refl (fun k => (Value.slice fa X1.fr.length fc).ownBlock = some k) V).grown hg (fun k e => .inl e)
      have hno : ¬ (Value.slice fa X1.fr.length fc).ownBlock = some (w.heap.size + 1) := fun e => by
        rcases HM1.out _ (.inr (.inl e)) with e | e
        · have := hmn _ e; omega
        · omega
      exact ⟨r4.cell 2, hkk.cell (p := ⟨w.heap.size + 1, 0, none⟩) hno hSV.2.1, hkk.cell (p := ⟨w.heap.size + 1, 1, none⟩) hno hSV.2.2.1, hkk.cell (p := ⟨w.heap.size + 1, 2, none⟩) hno hSV.2.2.2.1, hkk.cell (p := ⟨w.heap.size + 1, 3, none⟩) hno hSV.2.2.2.2⟩
    have hCH : Hid (ChgF w B p g cap (.slice fa X1.fr.length fc) q { X1 with fr := X1.fr ++ [⟨ak, f.tt, f.fr, f.of⟩] } (w3.setCell ⟨p, 2, none⟩ (.slice a' (X1.fr.length + 1) c'))) := Lib.hid (by
      rw [hx] at r1
      refine ⟨_, _, r1, (HKX.out.mono (fun k e => .inr e)).trans r2 (fun k hk e => ?_), fun k hk => ?_⟩
      · rcases e with e | e
        · exact .inl e
        · rcases HM1.out k e with e | e
          · exact .inr e
          · omega
      · rcases r3 k hk with e | e
        · rcases HM1.out k e with e | e
          · exact .inl e
          · exact .inr (by omega)
        · exact .inr (by omega))
    have v1 := r4.frozen 2
    have v0 := hSW.1
    clear r1 r2 r3 r4 hown hg hwh hVo hVn
    refine hK _ _ trivial hSW ?_
    clear hK K
    try simp only [Act.put, List.setIfInBounds_toArray, List.set_cons_zero, List.set_cons_succ]
    refine wpAnyG_oneS (i := 9) (by kernel_rfl) rfl (by rfl) (fun K hK => ?_)
    go_simp
    refine hK _ _ trivial hSW ?_
    clear hK K
    try simp only [Act.put, List.setIfInBounds_toArray, List.set_cons_zero, List.set_cons_succ]
    refine wpAnyG_oneS (i := 10) (by kernel_rfl) rfl (by rfl) (fun K hK => ?_)
    go_simp
    refine hK _ _ trivial hSW ?_
    clear hK K
    try simp only [Act.put, List.setIfInBounds_toArray, List.set_cons_zero, List.set_cons_succ]
    refine wpAnyG_oneS (i := 11) (by kernel_rfl) rfl (by rfl) (fun K hK => ?_)
    go_simp
    refine hK _ _ trivial hSW ?_
    clear hK K
    try simp only [Act.put, List.setIfInBounds_toArray, List.set_cons_zero, List.set_cons_succ]
    refine wpAnyG_one (i := 12) (by kernel_rfl) rfl (by rfl) (by kernel_rfl) (fun K hK => ?_)
    go_simp
    refine hK _ _ trivial ?_
    clear hK K
    try simp only [Act.put, List.setIfInBounds_toArray, List.set_cons_zero, List.set_cons_succ]
    refine wpAnyG_done (by kernel_rfl) ?_ _
    refine NoPanic.normal ?_
    go_wp2_with fail
    exact bodyPost_ret (results_none rfl _ _ _) rfl ⟨rfl, hCH.out⟩
  · have d1 : (f.kd == 3) = false := by simp [hk]
    have hkd : f.kd = 5 ∨ f.kd = 6 := by
      unfold frmOK at hf
      rcases hf with ⟨h1, _⟩ | ⟨h1, _⟩
      · exact absurd h1 hk
      · exact h1
    have hat := at_any W p 66 g 0 cap fv q X i hi hO.bw
    rw [Nat.zero_add, ← hfi] at hat
    have HAT := Lib.hid hat
    obtain ⟨y, HY⟩ : ∃ y, Hid (gq q i = y) := ⟨_, rfl⟩
    obtain ⟨c, HC⟩ : ∃ c, Hid (gc X.cs i = c) := ⟨_, rfl⟩
    obtain ⟨a0, a1, a2, a3, a4, a5⟩ := hO.or.at i hi
    rw [HY.out] at a0 a1 a2 a3 a4 a5
    have hco := hO.or.cop i
    rw [HY.out, HC.out] at hco
    have HCO := Lib.hid hco
    obtain ⟨XE, HXE⟩ : ∃ XE, Hid (pasW rash X f = XE) := ⟨_, Lib.hid rfl⟩
    rw [HXE.out]
    have hpas : XE = if c.st = 2 ∧ c.tt = f.fr ∧ c.of = f.of then setI X i { c with st := if f.kd = 5 then 3 else 1, tt := 0, of := 0 } else X := by
      rw [← HXE.out]
      unfold pasW
      rw [if_neg hk, hat0, HC.out]
      unfold setC setI
      rw [hfii]
    have HPAS := Lib.hid hpas
    have HO := Lib.hid hO
    have HKD := Lib.hid hkd
    clear hat hco hpas hkd hk hc hs hf hn hat0 hfii hfi hO
    go_enter Try.func57, Try.ntmps57
    go_upto_region 2 with fail
    rw [← hW]
    clear hW
    go_upto_region 7 with (go_at_call 43; refine HAT.out.mono ?_; rintro e w9 ⟨rfl, h9⟩; obtain rfl := h9.symm; clear h9)
    obtain ⟨x4, hx4⟩ : ∃ b, (y.st == 2) = b := ⟨_, rfl⟩
    obtain ⟨x12, hx12⟩ : ∃ b, (y.tt == f.fr) = b := ⟨_, rfl⟩
    obtain ⟨x21, hx21⟩ : ∃ b, (y.of == f.of) = b := ⟨_, rfl⟩
    refine wp_region_sym (fun w' => Below W.heap.size W w') (by kernel_rfl) (by kernel_rfl) ((Below.refl _ W).drew) ?_
    refine q_move 40 7 rfl (by first | exact Or.inl rfl | exact Or.inr rfl) rfl rfl ?_
    dsimp only [putT, List.toList_toArray, List.set_cons_zero, List.set_cons_succ]
    refine q_run1 41 40 (v := ?_) rfl rfl rfl ?_ ?_
    rotate_left
    · (intro A hA wS hS; skip; go_simp; (try with_reducible rfl))
    dsimp only [putT, List.toList_toArray, List.set_cons_zero, List.set_cons_succ]
    refine q_run1 42 41 (v := ?_) rfl rfl rfl ?_ ?_
    rotate_left
    · (intro A hA wS hS; skip; go_simp; (try with_reducible rfl))
    dsimp only [putT, List.toList_toArray, List.set_cons_zero, List.set_cons_succ]
    refine q_run1 43 42 (v := ?_) rfl rfl rfl ?_ ?_
    rotate_left
    · (intro A hA wS hS; (have z0 := cell_later hS a0; have z1 := cell_later hS a1; have z2 := cell_later hS a2; have z3 := cell_later hS f1; have z4 := cell_later hS f3); go_simp; (try with_reducible rfl))
    dsimp only [putT, List.toList_toArray, List.set_cons_zero, List.set_cons_succ]
    refine q_run1 44 43 (v := ?_) rfl rfl rfl ?_ ?_
    rotate_left
    · (intro A hA wS hS; skip; go_simp; (try with_reducible rfl))
    dsimp only [putT, List.toList_toArray, List.set_cons_zero, List.set_cons_succ]
    refine q_move 45 44 rfl (by first | exact Or.inl rfl | exact Or.inr rfl) rfl rfl ?_
    dsimp only [putT, List.toList_toArray, List.set_cons_zero, List.set_cons_succ]
    refine q_moveg 46 7 (g := x4) rfl rfl (by exact (want_at rfl rfl rfl).trans (wb_t x4)) (by first | exact Or.inr rfl | exact Or.inl rfl) ?_
    dsimp only [putT, List.toList_toArray, List.set_cons_zero, List.set_cons_succ]
    refine q_if1 47 46 (g := x4) (v := ?_) rfl rfl (by exact (want_at rfl rfl rfl).trans (wb_t x4)) ?_ ?_
    rotate_left
    · (intro hg A hA wS hS; (try rw [hg, sel_true] at hA); (try simp only [Bool.and_eq_true, Bool.not_eq_true', Bool.or_eq_false_iff] at hg); skip; go_simp; (try with_reducible rfl))
    dsimp only [putT, List.toList_toArray, List.set_cons_zero, List.set_cons_succ]
    refine q_if1 48 47 (g := x4) (v := ?_) rfl rfl (by exact (want_at rfl rfl rfl).trans (wb_t x4)) ?_ ?_
    rotate_left
    · (intro hg A hA wS hS; (try rw [hg, sel_true] at hA); (try simp only [Bool.and_eq_true, Bool.not_eq_true', Bool.or_eq_false_iff] at hg); skip; go_simp; (try with_reducible rfl))
    dsimp only [putT, List.toList_toArray, List.set_cons_zero, List.set_cons_succ]
    refine q_if1 49 48 (g := x4) (v := ?_) rfl rfl (by exact (want_at rfl rfl rfl).trans (wb_t x4)) ?_ ?_
    rotate_left
    · (intro hg A hA wS hS; (try rw [hg, sel_true] at hA); (try simp only [Bool.and_eq_true, Bool.not_eq_true', Bool.or_eq_false_iff] at hg); (have z0 := cell_later hS a0; have z1 := cell_later hS a1; have z2 := cell_later hS a2; have z3 := cell_later hS f1; have z4 := cell_later hS f3); go_simp; (try with_reducible rfl))
    dsimp only [putT, List.toList_toArray, List.set_cons_zero, List.set_cons_succ]
    refine q_if1 50 4 (g := x4) (v := ?_) rfl rfl (by exact (want_at rfl rfl rfl).trans (wb_t x4)) ?_ ?_
    rotate_left
    · (intro hg A hA wS hS; (try rw [hg, sel_true] at hA); (try simp only [Bool.and_eq_true, Bool.not_eq_true', Bool.or_eq_false_iff] at hg); skip; go_simp; (try with_reducible rfl))
    dsimp only [putT, List.toList_toArray, List.set_cons_zero, List.set_cons_succ]
    refine q_if1 51 50 (g := x4) (v := ?_) rfl rfl (by exact (want_at rfl rfl rfl).trans (wb_t x4)) ?_ ?_
    rotate_left
    · (intro hg A hA wS hS; (try rw [hg, sel_true] at hA); (try simp only [Bool.and_eq_true, Bool.not_eq_true', Bool.or_eq_false_iff] at hg); (have z0 := cell_later hS a0; have z1 := cell_later hS a1; have z2 := cell_later hS a2; have z3 := cell_later hS f1; have z4 := cell_later hS f3); go_simp; (try with_reducible rfl))
    dsimp only [putT, List.toList_toArray, List.set_cons_zero, List.set_cons_succ]
    refine q_if2 52 49 51 (g := x4) (v := ?_) rfl rfl rfl (by exact (want_at rfl rfl rfl).trans (wb_t x4)) ?_ ?_
    rotate_left
    · (intro hg A hA hA2 wS hS; (try rw [hg, sel_true] at hA); (try rw [hg, sel_true] at hA2); (try simp only [Bool.and_eq_true, Bool.not_eq_true', Bool.or_eq_false_iff] at hg); skip; go_simp; (try with_reducible rfl))
    dsimp only [putT, List.toList_toArray, List.set_cons_zero, List.set_cons_succ]
    refine q_pickA 53 45 52 (v := .bool (x4 && x12)) rfl rfl rfl rfl rfl (pk_and x4 x12) ?_
    dsimp only [putT, List.toList_toArray, List.set_cons_zero, List.set_cons_succ]
    refine q_move 54 53 rfl (by first | exact Or.inl rfl | exact Or.inr rfl) rfl rfl ?_
    dsimp only [putT, List.toList_toArray, List.set_cons_zero, List.set_cons_succ]
    refine q_moveg 55 7 (g := (x4 && x12)) rfl rfl (by exact (want_at rfl rfl rfl).trans (wb_t (x4 && x12))) (by first | exact Or.inr rfl | exact Or.inl rfl) ?_
    dsimp only [putT, List.toList_toArray, List.set_cons_zero, List.set_cons_succ]
    refine q_if1 56 55 (g := (x4 && x12)) (v := ?_) rfl rfl (by exact (want_at rfl rfl rfl).trans (wb_t (x4 && x12))) ?_ ?_
    rotate_left
    · (intro hg A hA wS hS; (try rw [hg, sel_true] at hA); (try simp only [Bool.and_eq_true, Bool.not_eq_true', Bool.or_eq_false_iff] at hg); skip; go_simp; (try with_reducible rfl))
    dsimp only [putT, List.toList_toArray, List.set_cons_zero, List.set_cons_succ]
    refine q_if1 57 56 (g := (x4 && x12)) (v := ?_) rfl rfl (by exact (want_at rfl rfl rfl).trans (wb_t (x4 && x12))) ?_ ?_
    rotate_left
    · (intro hg A hA wS hS; (try rw [hg, sel_true] at hA); (try simp only [Bool.and_eq_true, Bool.not_eq_true', Bool.or_eq_false_iff] at hg); skip; go_simp; (try with_reducible rfl))
    dsimp only [putT, List.toList_toArray, List.set_cons_zero, List.set_cons_succ]
    refine q_if1 58 57 (g := (x4 && x12)) (v := ?_) rfl rfl (by exact (want_at rfl rfl rfl).trans (wb_t (x4 && x12))) ?_ ?_
    rotate_left
    · (intro hg A hA wS hS; (try rw [hg, sel_true] at hA); (try simp only [Bool.and_eq_true, Bool.not_eq_true', Bool.or_eq_false_iff] at hg); (have z0 := cell_later hS a0; have z1 := cell_later hS a1; have z2 := cell_later hS a2; have z3 := cell_later hS f1; have z4 := cell_later hS f3); go_simp; (try with_reducible rfl))
    dsimp only [putT, List.toList_toArray, List.set_cons_zero, List.set_cons_succ]
    refine q_if1 59 4 (g := (x4 && x12)) (v := ?_) rfl rfl (by exact (want_at rfl rfl rfl).trans (wb_t (x4 && x12))) ?_ ?_
    rotate_left
    · (intro hg A hA wS hS; (try rw [hg, sel_true] at hA); (try simp only [Bool.and_eq_true, Bool.not_eq_true', Bool.or_eq_false_iff] at hg); skip; go_simp; (try with_reducible rfl))
    dsimp only [putT, List.toList_toArray, List.set_cons_zero, List.set_cons_succ]
    refine q_if1 60 59 (g := (x4 && x12)) (v := ?_) rfl rfl (by exact (want_at rfl rfl rfl).trans (wb_t (x4 && x12))) ?_ ?_
    rotate_left
    · (intro hg A hA wS hS; (try rw [hg, sel_true] at hA); (try simp only [Bool.and_eq_true, Bool.not_eq_true', Bool.or_eq_false_iff] at hg); (have z0 := cell_later hS a0; have z1 := cell_later hS a1; have z2 := cell_later hS a2; have z3 := cell_later hS f1; have z4 := cell_later hS f3); go_simp; (try with_reducible rfl))
    dsimp only [putT, List.toList_toArray, List.set_cons_zero, List.set_cons_succ]
    refine q_if2 61 58 60 (g := (x4 && x12)) (v := ?_) rfl rfl rfl (by exact (want_at rfl rfl rfl).trans (wb_t (x4 && x12))) ?_ ?_
    rotate_left
    · (intro hg A hA hA2 wS hS; (try rw [hg, sel_true] at hA); (try rw [hg, sel_true] at hA2); (try simp only [Bool.and_eq_true, Bool.not_eq_true', Bool.or_eq_false_iff] at hg); skip; go_simp; (try with_reducible rfl))
    dsimp only [putT, List.toList_toArray, List.set_cons_zero, List.set_cons_succ]
    refine q_pickA 62 54 61 (v := .bool ((x4 && x12) && x21)) rfl rfl rfl rfl rfl (pk_and (x4 && x12) x21) ?_
    dsimp only [putT, List.toList_toArray, List.set_cons_zero, List.set_cons_succ]
    refine wpQuiet_nil ?_
    intro wS hS
    have hB2 := Below.next hB0 hS
    have HO2 := Lib.hid (HO.out.below hS)
    have g0 := (b1.below hS).cell 0
    have hpas := HPAS.out
    by_cases hv : c.st = 2 ∧ c.tt = f.fr ∧ c.of = f.of
    · have hvv : ((x4 && x12) && x21) = true := by
        rw [← hx4, ← hx12, ← hx21, HCO.out.st, HCO.out.tt, HCO.out.of]
        simp [hv.1, hv.2.1, hv.2.2]
      rw [hvv]
      rw [if_pos hv] at hpas
      have hhq : hldq y = { y with st := 1, tt := 0, of := 0 } := by unfold hldq; rw [if_pos (by rw [HCO.out.st]; exact hv.1)]
      have hhc : hld c = { c with st := 1, tt := 0, of := 0 } := by unfold hld; rw [if_pos hv.1]
      have hhold := hold_any wS B g cap fv q X i hi HO2.out.or
      rw [HY.out, HC.out, hhq, hhc] at hhold
      have HHD := Lib.hid hhold
      have HPE := Lib.hid hpas
      have hgw := (HO2.out.or.rows.lt g rfl).2
      clear hx4 hx12 hx21 hvv hpas hv hhold hhq hhc a0 a1 a2 a3 a4 a5 f0 f1 f2 f3
      go_wp2_with fail
      refine HHD.out.mono ?_
      rintro e w3 ⟨rfl, h3, hk3⟩
      have hbw : ¬ w.heap.size = g := fun e => by
        have := hmn g (.inl rfl)
        omega
      have hbx : BoxN wS w.heap.size 47 #[.int .i64 f.kd, .int .i64 f.fr, .int .i64 f.tt, .int .i64 f.of] := b1.below hS
      have g3 := (hk3.box hbw hbx).cell 0
      have g3 : w3.cell? ⟨w.heap.size, 0, none⟩ = some (.int .i64 f.kd) := g3
      have hq3 : gq (q.set i { y with st := 1, tt := 0, of := 0 }) i = { y with st := 1, tt := 0, of := 0 } := by rw [gq_set (by rw [HO2.out.or.len]; exact hi), if_pos rfl]
      have hc3 : gc (setI X i { c with st := 1, tt := 0, of := 0 }).cs i = { c with st := 1, tt := 0, of := 0 } := by show gc (X.cs.set i _) i = _; rw [gc_set hi, if_pos rfl]
      have hop3 : OP w3 B p g cap fv (q.set i { y with st := 1, tt := 0, of := 0 }) (setI X i { c with st := 1, tt := 0, of := 0 }) := ⟨by
        have := hk3.box (fun e => HO2.out.ne (.inl e)) HO2.out.box
        have e2 : (setI X i { c with st := 1, tt := 0, of := 0 }).cs.length = X.cs.length := setI_len _ _ _
        rw [e2]
        exact this, h3, HO2.out.ge⟩
      have hmn3 : ∀ (y' : Cq), y'.tv = y.tv → y'.kv = y.kv → ∀ k, Mn g fv (q.set i y') k → Mn g fv q k := fun y' e1 e2 k hk => by
        rcases mn_set (by rw [HO2.out.or.len]; exact hi) hk with e | e | e
        · exact e
        · exact .inr (.inr ⟨i, .inl (by rw [HY.out, ← e1]; exact e)⟩)
        · exact .inr (.inr ⟨i, .inr (by rw [HY.out, ← e2]; exact e)⟩)
      have hkx3 : Kx (fun k => k = p ∨ Mn g fv q k) w w3 := (Kx.of_below (X := fun k => k = p ∨ Mn g fv q k) hB2).trans hk3 (fun k _ e => .inr (.inl e))
      by_cases h5 : f.kd = 5
      · have d5 : (f.kd == 5) = true := by simp [h5]
        have hst3 := hop3.or.st (i := i) (by rw [setI_len]; exact hi) 3
        rw [hq3, List.set_set, setI_setI, hc3] at hst3
        have hks : Kx (fun k => k = g) w3 (w3.setCell ⟨g, i * 6, none⟩ (.int .i64 3)) := kx_cell w3 g _ _
        have HR : Hid (ChgF w B p g cap fv q XE (w3.setCell ⟨g, i * 6, none⟩ (.int .i64 3))) := Lib.hid (by
          rw [HPE.out, if_pos h5]
          refine ⟨fv, q.set i { y with st := 3, tt := 0, of := 0 }, ⟨?_, hst3, hop3.ge⟩, hkx3.trans hks (fun k _ e => .inr (.inl e)), fun k hk => .inl (hmn3 { y with st := 3, tt := 0, of := 0 } rfl rfl k hk)⟩
          have := hks.box (fun e => hop3.ne (.inl e)) hop3.box
          have e2 : (setI X i { c with st := 3, tt := 0, of := 0 }).cs.length = (setI X i { c with st := 1, tt := 0, of := 0 }).cs.length := by rw [setI_len, setI_len]
          rw [e2]
          exact this)
        have v0 := (hop3.or.at i (by rw [setI_len]; exact hi)).1
        have v1 := hop3.or.there (i * 6)
        rw [hq3] at v0
        clear hst3 hks hop3 hmn3 hkx3 hq3 hc3 h5 h3 hk3
        go_wp2_with fail
        exact bodyPost_end (results_none rfl _ _ _) rfl ⟨rfl, HR.out⟩
      · have d5 : (f.kd == 5) = false := by simp [h5]
        have HR : Hid (ChgF w B p g cap fv q XE w3) := Lib.hid (by
          rw [HPE.out, if_neg h5]
          exact ⟨fv, _, hop3, hkx3, fun k hk => .inl (hmn3 { y with st := 1, tt := 0, of := 0 } rfl rfl k hk)⟩)
        clear hop3 hmn3 hkx3 hq3 hc3 h5 h3 hk3
        go_wp2_with fail
        exact bodyPost_end (results_none rfl _ _ _) rfl ⟨rfl, HR.out⟩
    · have hvv : ((x4 && x12) && x21) = false := by
        rw [← hx4, ← hx12, ← hx21, HCO.out.st, HCO.out.tt, HCO.out.of]
        by_cases e1 : c.st = 2 <;> by_cases e2 : c.tt = f.fr <;> by_cases e3 : c.of = f.of <;> simp [e1, e2, e3]
        exact hv ⟨e1, e2, e3⟩
      rw [hvv]
      rw [if_neg hv] at hpas
      have HR : Hid (ChgF w B p g cap fv q XE wS) := Lib.hid (by
        rw [hpas]
        exact ⟨fv, q, HO2.out, Kx.of_below hB2, fun k hk => .inl hk⟩)
      clear hx4 hx12 hx21 hvv hpas hv a0 a1 a2 a3 a4 a5 f0 f1 f2 f3
      go_wp2_with fail
      exact bodyPost_end (results_none rfl _ _ _) rfl ⟨rfl, HR.out⟩
end Go.Proofs.Ytnkpjfogjkjcfaa
