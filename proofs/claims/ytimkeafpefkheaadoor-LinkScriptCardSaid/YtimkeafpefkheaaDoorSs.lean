

/- Links: a fault happens (the reference's text): whole. -/
import Derived.Test.YtimkeafpefkheaaDoorRr
namespace Go.Proofs.YtimkeafpefkheaaDoor
open Go.RowKit
set_option linter.unusedSimpArgs false
set_option linter.unusedVariables false
set_option maxRecDepth 100000

/-- what Apply (the reference's) has returned: new memory -/
def ApF (w : World) (l : List Fr) (t : Tr) (x : Ending) (w' : World) : Prop := ∃ v, x = .returned (.tuple #[v, .int .i64 (apE l t)]) ∧ RdT w' v (if apE l t = 0 then apL l t else []) ∧ Fresh w.heap.size v ∧ Below w.heap.size w w'
theorem ra_to_ap {w w' : World} {l : List Fr} {t : Tr} {x : Ending} (he : apE l t = if fitT l t = false then 2 else 0) (h : RaR w l t x w') : ApF w l t x w' := by
  unfold ApF
  unfold RaR at h
  rw [he]
  cases hf : fitT l t
  · simp only [hf, if_true] at h ⊢
    simpa using h
  · simp only [hf] at h ⊢
    simpa using h
set_option maxHeartbeats 2000000 in
theorem rap_full (v : Value) (l : List Fr) (hz : Szs l) (hen : (chkL l).1 = 0) (i : Nat) (j b : Int) (hi : i < l.length) (hn64 : l.length = 64) (w : World) (h : RdT w v l) :
    Calls Tryd.prog 21 #[v, (⟨2, (i : Int), j, b⟩ : Tr).v] w fun x w' => ∃ v, x = .returned (.tuple #[v, .int .i64 5]) ∧ RdT w' v [] ∧ Fresh w.heap.size v ∧ Below w.heap.size w w' := by
  obtain ⟨n, hen'⟩ : ∃ n, chkL l = (0, n) := ⟨(chkL l).2, by rw [← hen]⟩
  have HEN := Lib.hid hen'
  have HZ := Lib.hid hz
  have hcz := chkL_zero hen
  obtain ⟨a0, n0, rfl⟩ := h.form
  obtain ⟨N, hN⟩ : ∃ N, l.length = N := ⟨_, rfl⟩
  have HN := Lib.hid hN
  have HR2 : Hid (RdT w (.slice a0 N n0) l) := by unfold Hid; rw [← hN]; exact h
  have HSZ : Hid (∀ j, j < l.length → (l.getD j e0).size ≤ 1200) := fun j hj => (hcz.2 j hj).2
  have hl := hcz.1
  rw [hN] at hl hi ⊢
  clear h hN hcz hen hen' hz
  obtain ⟨W, hW⟩ : ∃ W : World, W = w.alloc (.cells #[.int .i64 2, .int .i64 (i : Int), .int .i64 j, .int .i64 b] 36) := ⟨_, rfl⟩
  have hB : Below w.heap.size w W := by rw [hW]; exact (by repeat (first | assumption | exact Below.refl _ _ | apply Below.al | apply below_drewN | apply Below.drew | refine Below.next ?_ (by assumption)))
  have b0 : BoxN W w.heap.size 36 #[.int .i64 2, .int .i64 (i : Int), .int .i64 j, .int .i64 b] := by rw [hW]; exact BoxN.new w _ _
  have t0 : W.cell? ⟨w.heap.size, 0, none⟩ = some (.int .i64 2) := b0.cell 0
  have t1 : W.cell? ⟨w.heap.size, 1, none⟩ = some (.int .i64 (i : Int)) := b0.cell 1
  have t2 : W.cell? ⟨w.heap.size, 2, none⟩ = some (.int .i64 j) := b0.cell 2
  have t3 : W.cell? ⟨w.heap.size, 3, none⟩ = some (.int .i64 b) := b0.cell 3
  have HRW := Lib.hid (HR2.out.keep hB)
  clear b0
  obtain ⟨bk, off, rfl, hcap, hc⟩ := RdT.at HRW.out HN.out i hi
  obtain ⟨s, hs⟩ : ∃ s, l.getD i e0 = s := ⟨_, rfl⟩
  rw [hs] at hc
  have HS := Lib.hid hs
  clear hs
  have d4 : decide ((i : Int) < 0) = false := nb (by omega)
  have d5 : decide ((N : Int) ≤ (i : Int)) = false := nb (by omega)
  have d5' : decide (N ≤ i) = false := nb (by omega)
  have i1 : (0 : Int) ≤ (i : Int) := by omega
  have i2 : (i : Int) < (N : Int) := by omega
  have hwk : IntKind.i64.wrap (i : Int) = (i : Int) := IntWalk.i64_in _ (by omega)
  rw [HN.out] at hn64
  have q6 : ((N : Int) == 64) = true := by simp; omega
  have q6' : (N == 64) = true := by simp [hn64]
  clear hn64
  go_enter Tryd.func21, Tryd.ntmps21
  go_upto_region 1 with fail
  rw [← hW]
  clear hW
  go_wp2_with fail
  refine (rcheck_is _ l HZ.out 0 n HEN.out _ HRW.out).mono ?_
  rintro x w1 ⟨rfl, rfl⟩
  go_wp2_with fail
  refine (rown_any _ l (by rw [HN.out]; omega) _ HRW.out).mono ?_
  rintro x w2 ⟨a, c, rfl, hown, hb⟩
  rw [HN.out] at hown ⊢
  have tW0 := t0
  have tW1 := t1
  have tW2 := t2
  have tW3 := t3
  have t0 := cell_later hb t0
  have t1 := cell_later hb t1
  have t2 := cell_later hb t2
  have t3 := cell_later hb t3
  have hc := cell_later hb hc
  have HR3 := Lib.hid (HRW.out.keep hb)
  have hB2 := Below.next hB hb
  have HOWN := Lib.hid hown
  clear hown
  go_wp2_with fail
  go_ret2
  exact ⟨_, rfl, RdT.nil _, Fresh.nil _ _ _, hB2⟩
set_option maxHeartbeats 2000000 in
theorem rapply_own (v : Value) (l : List Fr) (hz : Szs l) (t : Tr) (hk : Ib t.k) (hi : Ib t.i) (w : World) (h : RdT w v l) :
    Calls Tryd.prog 21 #[v, t.v] w (ApF w l t) := by
  by_cases h1 : (chkL l).1 = 0
  · by_cases g1 : t.k < 1 ∨ 5 < t.k
    · have he : apE l t = 7 := by unfold apE; rw [if_neg (by simpa using h1), if_pos g1]
      unfold ApF
      rw [he, if_neg (by decide)]
      clear he
      obtain ⟨n, hen'⟩ : ∃ n, chkL l = (0, n) := ⟨(chkL l).2, by rw [← h1]⟩
      have HEN := Lib.hid hen'
      have HR := Lib.hid h
      have HZ := Lib.hid hz
      clear h hz hen' h1
      have hcz := chkL_zero (l := l) (by rw [HEN.out])
      obtain ⟨a0, n0, rfl⟩ := HR.out.form
      obtain ⟨N, hN⟩ : ∃ N, l.length = N := ⟨_, rfl⟩
      have HN := Lib.hid hN
      have HR2 : Hid (RdT w (.slice a0 N n0) l) := by unfold Hid; rw [← hN]; exact HR.out
      have HSZ : Hid (∀ j, j < l.length → (l.getD j e0).size ≤ 1200) := fun j hj => (hcz.2 j hj).2
      have hl := hcz.1
      rw [hN] at hl ⊢
      clear HR hN hcz
      obtain ⟨W, hW⟩ : ∃ W : World, W = w.alloc (.cells #[.int .i64 t.k, .int .i64 t.i, .int .i64 t.j, .int .i64 t.b] 36) := ⟨_, rfl⟩
      have hB : Below w.heap.size w W := by rw [hW]; exact (by repeat (first | assumption | exact Below.refl _ _ | apply Below.al | apply below_drewN | apply Below.drew | refine Below.next ?_ (by assumption)))
      have b0 : BoxN W w.heap.size 36 #[.int .i64 t.k, .int .i64 t.i, .int .i64 t.j, .int .i64 t.b] := by rw [hW]; exact BoxN.new w _ _
      have t0 : W.cell? ⟨w.heap.size, 0, none⟩ = some (.int .i64 t.k) := b0.cell 0
      have t1 : W.cell? ⟨w.heap.size, 1, none⟩ = some (.int .i64 t.i) := b0.cell 1
      have t2 : W.cell? ⟨w.heap.size, 2, none⟩ = some (.int .i64 t.j) := b0.cell 2
      have t3 : W.cell? ⟨w.heap.size, 3, none⟩ = some (.int .i64 t.b) := b0.cell 3
      have HRW := Lib.hid (HR2.out.keep hB)
      clear b0
      by_cases c2 : t.k < 1
      · have d2 : decide (t.k < 1) = true := yb c2
        clear g1 c2
        go_enter Tryd.func21, Tryd.ntmps21
        go_upto_region 1 with fail
        rw [← hW]
        clear hW
        go_wp2_with fail
        refine (rcheck_is _ l HZ.out 0 n HEN.out _ HRW.out).mono ?_
        rintro x w1 ⟨rfl, rfl⟩
        go_wp2_with fail
        go_ret2
        exact ⟨_, rfl, RdT.nil _, Fresh.nil _ _ _, hB⟩
      · have d2 : decide (t.k < 1) = false := nb c2
        have d3 : decide (5 < t.k) = true := yb (by omega)
        clear g1 c2
        go_enter Tryd.func21, Tryd.ntmps21
        go_upto_region 1 with fail
        rw [← hW]
        clear hW
        go_wp2_with fail
        refine (rcheck_is _ l HZ.out 0 n HEN.out _ HRW.out).mono ?_
        rintro x w1 ⟨rfl, rfl⟩
        go_wp2_with fail
        go_ret2
        exact ⟨_, rfl, RdT.nil _, Fresh.nil _ _ _, hB⟩
    · by_cases g2 : t.i < 0 ∨ (l.length : Int) ≤ t.i
      · have he : apE l t = 2 := by unfold apE; rw [if_neg (by simpa using h1), if_neg g1, if_pos g2]
        unfold ApF
        rw [he, if_neg (by decide)]
        clear he
        obtain ⟨n, hen'⟩ : ∃ n, chkL l = (0, n) := ⟨(chkL l).2, by rw [← h1]⟩
        have HEN := Lib.hid hen'
        have HR := Lib.hid h
        have HZ := Lib.hid hz
        clear h hz hen' h1
        have d2 : decide (t.k < 1) = false := nb (by omega)
        have d3 : decide (5 < t.k) = false := nb (by omega)
        have hcz := chkL_zero (l := l) (by rw [HEN.out])
        obtain ⟨a0, n0, rfl⟩ := HR.out.form
        obtain ⟨N, hN⟩ : ∃ N, l.length = N := ⟨_, rfl⟩
        have HN := Lib.hid hN
        have HR2 : Hid (RdT w (.slice a0 N n0) l) := by unfold Hid; rw [← hN]; exact HR.out
        have HSZ : Hid (∀ j, j < l.length → (l.getD j e0).size ≤ 1200) := fun j hj => (hcz.2 j hj).2
        have hl := hcz.1
        rw [hN] at hl ⊢
        clear HR hN hcz
        obtain ⟨W, hW⟩ : ∃ W : World, W = w.alloc (.cells #[.int .i64 t.k, .int .i64 t.i, .int .i64 t.j, .int .i64 t.b] 36) := ⟨_, rfl⟩
        have hB : Below w.heap.size w W := by rw [hW]; exact (by repeat (first | assumption | exact Below.refl _ _ | apply Below.al | apply below_drewN | apply Below.drew | refine Below.next ?_ (by assumption)))
        have b0 : BoxN W w.heap.size 36 #[.int .i64 t.k, .int .i64 t.i, .int .i64 t.j, .int .i64 t.b] := by rw [hW]; exact BoxN.new w _ _
        have t0 : W.cell? ⟨w.heap.size, 0, none⟩ = some (.int .i64 t.k) := b0.cell 0
        have t1 : W.cell? ⟨w.heap.size, 1, none⟩ = some (.int .i64 t.i) := b0.cell 1
        have t2 : W.cell? ⟨w.heap.size, 2, none⟩ = some (.int .i64 t.j) := b0.cell 2
        have t3 : W.cell? ⟨w.heap.size, 3, none⟩ = some (.int .i64 t.b) := b0.cell 3
        have HRW := Lib.hid (HR2.out.keep hB)
        clear b0
        rw [HN.out] at g2
        by_cases c5 : t.i < 0
        · have d4 : decide (t.i < 0) = true := yb c5
          clear g1 g2 c5
          go_enter Tryd.func21, Tryd.ntmps21
          go_upto_region 1 with fail
          rw [← hW]
          clear hW
          go_wp2_with fail
          refine (rcheck_is _ l HZ.out 0 n HEN.out _ HRW.out).mono ?_
          rintro x w1 ⟨rfl, rfl⟩
          go_wp2_with fail
          go_ret2
          exact ⟨_, rfl, RdT.nil _, Fresh.nil _ _ _, hB⟩
        · have d4 : decide (t.i < 0) = false := nb c5
          have d5 : decide ((N : Int) ≤ t.i) = true := yb (by omega)
          clear g1 g2 c5
          go_enter Tryd.func21, Tryd.ntmps21
          go_upto_region 1 with fail
          rw [← hW]
          clear hW
          go_wp2_with fail
          refine (rcheck_is _ l HZ.out 0 n HEN.out _ HRW.out).mono ?_
          rintro x w1 ⟨rfl, rfl⟩
          go_wp2_with fail
          go_ret2
          exact ⟨_, rfl, RdT.nil _, Fresh.nil _ _ _, hB⟩
      · obtain ⟨tk, ti, tj, tb⟩ := t
        dsimp only at *
        obtain ⟨kd, rfl⟩ : ∃ kd : Nat, tk = kd := ⟨tk.toNat, by omega⟩
        obtain ⟨i, rfl⟩ : ∃ i : Nat, ti = i := ⟨ti.toNat, by omega⟩
        by_cases g3 : (kd : Int) = 2 ∧ l.length = 64
        · have he : apE l ⟨(kd : Int), (i : Int), tj, tb⟩ = 5 := by unfold apE; rw [if_neg (by simpa using h1), if_neg g1, if_neg g2, if_pos g3]
          unfold ApF
          rw [he, if_neg (by decide)]
          obtain rfl : kd = 2 := by omega
          exact rap_full v l hz h1 i tj tb (by omega) g3.2 w h
        · have he : apE l ⟨(kd : Int), (i : Int), tj, tb⟩ = if fitT l ⟨(kd : Int), (i : Int), tj, tb⟩ = false then 2 else 0 := by unfold apE; rw [if_neg (by simpa using h1), if_neg g1, if_neg g2, if_neg g3]
          have hkd : kd = 1 ∨ kd = 2 ∨ kd = 3 ∨ kd = 4 ∨ kd = 5 := by omega
          rcases hkd with rfl | rfl | rfl | rfl | rfl
          · exact (rap_1 v l hz h1 i tj tb (by omega) w h).mono fun x w' q => ra_to_ap he q
          · exact (rap_2 v l hz h1 i tj tb (by omega) (fun q => g3 ⟨rfl, q⟩) w h).mono fun x w' q => ra_to_ap he q
          · exact (rap_3 v l hz h1 i tj tb (by omega) w h).mono fun x w' q => ra_to_ap he q
          · exact (rap_4 v l hz h1 i tj tb (by omega) w h).mono fun x w' q => ra_to_ap he q
          · exact (rap_5 v l hz h1 i tj tb (by omega) w h).mono fun x w' q => ra_to_ap he q
  · obtain ⟨e, n, hen⟩ : ∃ e n, chkL l = (e, n) := ⟨_, _, rfl⟩
    have HEN := Lib.hid hen
    have HR := Lib.hid h
    have HZ := Lib.hid hz
    clear h hz
    unfold ApF apE
    rw [hen] at h1 ⊢
    clear hen
    dsimp only at h1 ⊢
    rw [if_pos h1, if_neg h1]
    have d1 : (e != 0) = true := by simpa using h1
    clear h1
    go_enter Tryd.func21, Tryd.ntmps21
    go_wp2_with fail
    refine (rcheck_is _ l HZ.out e n HEN.out _ (HR.out.keep (by repeat (first | assumption | exact Below.refl _ _ | apply Below.al | apply below_drewN | apply Below.drew | refine Below.next ?_ (by assumption))))).mono ?_
    rintro x w1 ⟨rfl, rfl⟩
    go_wp2_with fail
    go_ret2
    exact ⟨_, rfl, RdT.nil _, Fresh.nil _ _ _, (by repeat (first | assumption | exact Below.refl _ _ | apply Below.al | apply below_drewN | apply Below.drew | refine Below.next ?_ (by assumption)))⟩
theorem rapply_any (v : Value) (l : List Fr) (hz : Szs l) (t : Tr) (hk : Ib t.k) (hi : Ib t.i) (w : World) (h : RdT w v l) :
    Calls Tryd.prog 21 #[v, t.v] w (ApR w l t) :=
  (rapply_own v l hz t hk hi w h).mono fun x w' ⟨u, h1, h2, _, h3⟩ => ⟨u, h1, h2, h3⟩
end Go.Proofs.YtimkeafpefkheaaDoor
