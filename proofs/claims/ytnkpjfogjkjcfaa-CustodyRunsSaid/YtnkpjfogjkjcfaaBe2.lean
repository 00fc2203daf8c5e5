


/- Custody: Begin: the program, a start. -/
import Derived.Test.YtnkpjfogjkjcfaaBe
namespace Go.Proofs.Ytnkpjfogjkjcfaa
open Go.RowKit
set_option linter.unusedSimpArgs false
set_option linter.unusedVariables false
set_option maxRecDepth 100000

set_option maxHeartbeats 1000000 in
theorem begin_ok (w : World) (N : Nat) (d o : Int) (hb : begE N d o = 0) :
    Calls Try.prog 19 #[.int .i64 (N : Int), .int .i64 d, .int .i64 o] w (MvR w (begW N d o) 0) := by
  have hok : ¬ ((N : Int) < 2 ∨ 16 < (N : Int) ∨ d < 1 ∨ (N : Int) < d ∨ o < 1 ∨ (N : Int) < o ∨ o = d) := fun hn => by
    unfold begE at hb
    rw [if_pos hn] at hb
    exact absurd hb (by decide)
  obtain ⟨W, hW⟩ : ∃ W : World, W = w.alloc (.cells #[.int .i64 0, .slice none 0 0, .slice none 0 0] 25) := ⟨_, rfl⟩
  have hB0 : Below w.heap.size w W := by rw [hW]; exact (by repeat (first | assumption | exact Below.refl _ _ | apply Below.al | apply below_drewN | apply Below.drew | refine Below.next ?_ (by assumption)))
  have hzw0 : w.heap.size < W.heap.size := by rw [hW]; simp
  have bT : BoxN W w.heap.size 25 #[.int .i64 0, .slice none 0 0, .slice none 0 0] := by rw [hW]; exact BoxN.new _ _ _
  obtain ⟨W2, hmk, hown, hgr⟩ := mk_cops W N (by omega)
  have d1 : decide ((N : Int) < 2) = false := nb (by omega)
  have d2 : decide (16 < (N : Int)) = false := nb (by omega)
  have d3 : decide (d < 1) = false := nb (by omega)
  have d4 : decide ((N : Int) < d) = false := nb (by omega)
  have d5 : decide (o < 1) = false := nb (by omega)
  have d6 : decide ((N : Int) < o) = false := nb (by omega)
  have d7 : (o == d) = false := by simp; omega
  have HOK := Lib.hid hok
  clear hok hb
  go_enter Try.func19, Try.ntmps19
  go_upto_region 1 with fail
  rw [← hW]
  clear hW
  go_upto_region 4 with fail
  obtain ⟨i, hi, hfi⟩ : ∃ i : Nat, i < N ∧ o = (i : Int) + 1 := by
    have := HOK.out
    exact ⟨(o - 1).toNat, by omega, by omega⟩
  subst hfi
  obtain ⟨W3, hW3⟩ : ∃ W3 : World, W3 = W2.alloc (.cells #[.int .i64 d, .slice (some ⟨W.heap.size, 0, none⟩) N N, .slice none 0 0] 66) := ⟨_, rfl⟩
  have hor : OR W3 W.heap.size W.heap.size N (.slice none 0 0) (List.replicate N cq0) ⟨d, List.replicate N cp0, []⟩ := by
    have hl : (List.replicate N cp0).length = N := by simp
    have hgq : ∀ j, gq (List.replicate N cq0) j = cq0 := fun j => by
      show (List.replicate N cq0).getD j cq0 = cq0
      rw [List.getD_eq_getElem?_getD, List.getElem?_replicate]
      split <;> rfl
    have hgc : ∀ j, gc (List.replicate N cp0) j = cp0 := fun j => by
      show (List.replicate N cp0).getD j cp0 = cp0
      rw [List.getD_eq_getElem?_getD, List.getElem?_replicate]
      split <;> rfl
    refine ⟨?_, World.ownsRow_nil _ _ _ _, by simp, fun j => ?_, ?_⟩
    · show OwC W3 W.heap.size W.heap.size N (List.replicate N cp0).length _
      rw [hl, hW3]
      exact hown.alloc _
    · show CopO _ _ _ (gc (List.replicate N cp0) j)
      rw [hgq, hgc]
      exact ⟨rfl, rfl, rfl, rfl, ⟨rfl, .inl ⟨rfl, rfl⟩⟩, ⟨rfl, .inl ⟨rfl, rfl⟩⟩⟩
    · exact ⟨fun i j k e => by rw [hgq] at e; simp [cq0, Value.ownBlock] at e, fun i j k e => by rw [hgq] at e; simp [cq0, Value.ownBlock] at e, fun i j k e => by rw [hgq] at e; simp [cq0, Value.ownBlock] at e⟩
  have hpb : BoxN W3 W2.heap.size 66 #[.int .i64 d, .slice (some ⟨W.heap.size, 0, none⟩) N N, .slice none 0 0] := by rw [hW3]; exact BoxN.new _ _ _
  have hcl : (⟨d, List.replicate N cp0, []⟩ : Wd).cs.length = N := by simp
  have hi' : i < (⟨d, List.replicate N cp0, []⟩ : Wd).cs.length := by rw [hcl]; exact hi
  have hbw : BW W3 W2.heap.size 66 (.slice (some ⟨W.heap.size, 0, none⟩) (⟨d, List.replicate N cp0, []⟩ : Wd).cs.length N) (.slice none 0 0) (List.replicate N cq0) ⟨d, List.replicate N cp0, []⟩ := ⟨by rw [hcl]; exact hpb, hor.pt⟩
  have hat := at_any W3 W2.heap.size 66 W.heap.size 0 N (.slice none 0 0) (List.replicate N cq0) ⟨d, List.replicate N cp0, []⟩ i hi' hbw
  rw [Nat.zero_add] at hat
  have HAT := Lib.hid hat
  have v0 := (hor.at i hi').1
  have f0 := hor.there (i * 6)
  have HOR := Lib.hid hor
  have HPB := Lib.hid hpb
  have hBW2 : Below W.heap.size W W2 := (((Kx.refl (fun _ => False) W).grown hgr (fun k e => by cases e)).below (Nat.le_refl _) (fun k e => e.elim))
  have hB23 : Below W2.heap.size W2 W3 := by rw [hW3]; exact Below.al (Below.refl _ _) _
  have HBT3 := Lib.hid ((bT.below hBW2).below hB23)
  have hB2 : Below w.heap.size w W2 := hB0.trans ((((Kx.refl (fun _ => False) W).grown hgr (fun k e => by cases e)).below (Nat.le_refl _) (fun k e => e.elim)).mono hB0.size)
  have hB3 : Below w.heap.size w W3 := by rw [hW3]; exact Below.al hB2 _
  have hz : W.heap.size < W2.heap.size := by have := hown.lt W.heap.size rfl; omega
  have hzw : w.heap.size < W.heap.size := hzw0
  rw [← hW3]
  clear bT hBW2 hB23 hat hbw hor hpb hW3 hmk hown hgr
  go_upto_region 5 with (go_at_call 43; refine HAT.out.mono ?_; rintro e w9 ⟨rfl, h9⟩; obtain rfl := h9.symm; clear h9)
  have hk4 : Kx (fun k => k = W.heap.size) W3 (W3.setCell ⟨W.heap.size, i * 6, none⟩ (.int .i64 1)) := kx_cell W3 W.heap.size _ _
  have h4 := HOR.out.st hi' 1
  have hp4 := hk4.box (by omega) HPB.out
  have ht4 := hk4.box (by omega) HBT3.out
  have hB4 : Below w.heap.size w (W3.setCell ⟨W.heap.size, i * 6, none⟩ (.int .i64 1)) := hB3.setCell (p := ⟨W.heap.size, i * 6, none⟩) (by show w.heap.size ≤ W.heap.size; omega) _
  have hx : begW N d ((i : Int) + 1) = setI ⟨d, List.replicate N cp0, []⟩ i { gc (⟨d, List.replicate N cp0, []⟩ : Wd).cs i with st := 1 } := by
    have hgc : gc (List.replicate N cp0) i = cp0 := by
      show (List.replicate N cp0).getD i cp0 = cp0
      rw [List.getD_eq_getElem?_getD, List.getElem?_replicate]
      split <;> rfl
    show _ = setI _ i { gc (List.replicate N cp0) i with st := 1 }
    rw [hgc]
    unfold begW setC setI
    rw [show ((i : Int) + 1 - 1).toNat = i by omega]
    rfl
  have HX := Lib.hid hx
  obtain ⟨w4, hw4⟩ : ∃ w4 : World, w4 = W3.setCell ⟨W.heap.size, i * 6, none⟩ (.int .i64 1) := ⟨_, rfl⟩
  rw [← hw4] at h4 hp4 ht4 hB4 ⊢
  obtain ⟨XE, hXE⟩ : ∃ XE, begW N d ((i : Int) + 1) = XE := ⟨_, rfl⟩
  rw [hx.symm, hXE] at h4
  have hlE : XE.cs.length = N := by rw [← hXE, hx, setI_len]; exact hcl
  have hdE : XE.ds = d := by rw [← hXE]; rfl
  have hfE : XE.fr = [] := by rw [← hXE]; rfl
  have h5 := PtF.of_or h4
  rw [hlE] at h5
  have HPF := Lib.hid h5
  have HDE := Lib.hid hdE
  have HXE := Lib.hid hXE
  have HB4 := Lib.hid hB4
  have p0 : w4.cell? ⟨W2.heap.size, 0, none⟩ = some (.int .i64 d) := hp4.cell 0
  have p1 : w4.cell? ⟨W2.heap.size, 1, none⟩ = some (.slice (some ⟨W.heap.size, 0, none⟩) N N) := hp4.cell 1
  have p2 : w4.cell? ⟨W2.heap.size, 2, none⟩ = some (.slice none 0 0) := hp4.cell 2
  have t0 : w4.cell? ⟨w.heap.size, 0, none⟩ = some (.int .i64 0) := ht4.cell 0
  have t1 : w4.cell? ⟨w.heap.size, 1, none⟩ = some (.slice none 0 0) := ht4.cell 1
  have t2 : w4.cell? ⟨w.heap.size, 2, none⟩ = some (.slice none 0 0) := ht4.cell 2
  have z0 := ht4.frozen 0
  have z1 := ht4.frozen 1
  have z2 := ht4.frozen 2
  clear hw4 h4 hp4 ht4 hB4 hx hXE hlE hdE hfE h5 hk4
  go_wp2_with fail
  rw [HXE.out]
  refine bodyPost_ret (v := .tuple #[.agg #[.int .i64 d, .slice (some ⟨W.heap.size, 0, none⟩) N N, .slice none 0 0], .int .i64 0]) (by simp [results, Try.results19, go_sem, t0, t1, t2]) rfl ⟨_, rfl, ?_, ⟨_, _, _, by rw [← HDE.out], (((HPF.out.set (p := ⟨w.heap.size, 0, none⟩) _ hzw).set (p := ⟨w.heap.size, 1, none⟩) _ hzw).set (p := ⟨w.heap.size, 2, none⟩) _ hzw).mono (by omega)⟩⟩
  exact ((HB4.out.setCell (p := ⟨w.heap.size, 0, none⟩) (Nat.le_refl _) _).setCell (p := ⟨w.heap.size, 1, none⟩) (Nat.le_refl _) _).setCell (p := ⟨w.heap.size, 2, none⟩) (Nat.le_refl _) _
end Go.Proofs.Ytnkpjfogjkjcfaa
