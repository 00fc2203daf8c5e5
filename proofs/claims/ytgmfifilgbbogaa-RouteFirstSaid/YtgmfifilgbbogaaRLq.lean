


/- Routes: reached: the program's search. -/
import Derived.Test.YtgmfifilgbbogaaRKp
import Derived.Test.YtgmfifilgbbogaaQW
import Derived.Test.YtgmfifilgbbogaaRGm
import Derived.Deep.MidRow
namespace Go.Proofs.Ytgmfifilgbbogaa
open Go.RowKit
set_option linter.unusedSimpArgs false
set_option linter.unusedVariables false
set_option maxRecDepth 100000

/-- an array of arrivals in a box -/
def ArrB (w : World) (p : Nat) (L : List Int) : Prop := BoxN w p 63 (ic .i64 L).toArray
theorem ArrB.below {w w' : World} {p : Nat} {L : List Int} (h : ArrB w p L) (hb : Below w.heap.size w w') : ArrB w' p L := BoxN.below h hb
theorem ArrB.at {w : World} {p : Nat} {L : List Int} (h : ArrB w p L) (k : Nat) (hk : k < L.length) : w.cell? ⟨p, k, none⟩ = some (.int .i64 (L.getD k 0)) := by
  rw [BoxN.cell h k]
  have := ic_get .i64 L k hk
  simpa using this
theorem ArrB.fz {w : World} {p : Nat} {L : List Int} (h : ArrB w p L) (k : Nat) : w.frozen? ⟨p, k, none⟩ = false := BoxN.frozen h k
theorem ArrB.set {w : World} {p : Nat} {L : List Int} (h : ArrB w p L) (k : Nat) (x : Int) : ArrB (w.setCell ⟨p, k, none⟩ (.int .i64 x)) p (L.set k x) := by
  have h1 := heap_setCell_same w p k _ 63 (.int .i64 x) h
  unfold ArrB BoxN
  rw [h1]
  simp [ic, List.map_set]
theorem ArrB.lt {w : World} {p : Nat} {L : List Int} (h : ArrB w p L) : p < w.heap.size := BoxN.lt h
theorem ArrB.kx {w w' : World} {X : Nat → Prop} {p : Nat} {L : List Int} (h : ArrB w p L) (hk : Kx X w w') (hx : ¬ X p) : ArrB w' p L := hk.box hx h
theorem ArrB.new (w : World) : ArrB (w.alloc (.cells #[.int .i64 0, .int .i64 0, .int .i64 0, .int .i64 0, .int .i64 0, .int .i64 0, .int .i64 0, .int .i64 0, .int .i64 0, .int .i64 0, .int .i64 0, .int .i64 0, .int .i64 0, .int .i64 0, .int .i64 0, .int .i64 0, .int .i64 0] 63)) w.heap.size (List.replicate 17 0) := BoxN.new w _ _
theorem ArrB.range {w : World} {p : Nat} {L : List Int} (h : ArrB w p L) : w.rangeAt p 0 (ic .i64 L) := fun j u hj => by
  rw [Nat.zero_add, BoxN.cell h j]
  simpa using hj
section
open Classical
theorem least_ex {p : Nat → Prop} (h : ∃ m, p m) : ∃ m, p m ∧ ∀ j, j < m → ¬ p j := by
  obtain ⟨m, hm⟩ := h
  obtain ⟨i, _, h1, h2⟩ := first_of (m + 1) (p := p) ⟨m, by omega, hm⟩
  exact ⟨i, h1, h2⟩
noncomputable def mu (R : Nat → World → Prop) (w : World) : Nat := if h : ∃ m, R m w then Classical.choose (least_ex h) else 0
theorem mu_at {R : Nat → World → Prop} {w : World} (h : ∃ m, R m w) : R (mu R w) w := by
  unfold mu
  rw [dif_pos h]
  exact (Classical.choose_spec (least_ex h)).1
theorem mu_le {R : Nat → World → Prop} {w : World} {m : Nat} (h : R m w) : mu R w ≤ m := by
  have hx : ∃ m, R m w := ⟨m, h⟩
  unfold mu
  rw [dif_pos hx]
  refine Decidable.byContradiction fun hlt => (Classical.choose_spec (least_ex hx)).2 m (by omega) h
end
/-- a search under way in memory; m: how much may still come -/
def SrR (w : World) (cs : List Ct) (n u t : Int) (Q : Nat) (m : Nat) (wr : World) : Prop := ∃ (out : List Int) (q : List Tm) (X : List Int) (D : List Nat) (T : Int) (v : Value), DJ cs n u t out q X D T ∧ ArrB wr (w.heap.size + 1) out ∧ ArrB wr w.heap.size (List.replicate 17 0) ∧ TM wr Q (Q + 1) v q ∧ Below w.heap.size w wr ∧ w.heap.size + 1 < Q ∧ m = 2 * (cs.length - D.length) + q.length
theorem results_ar (tmps : Array Value) (w : World) (q : Nat) (L : List Int) (h8 : tmps.getD 8 undef = .pointer (some ⟨q, 0, none⟩)) (hr : ArrB w q L) (hi : (Try.prog.info? 63).map (·.size) = some (ic .i64 L).length) : (results Try.f37 tmps).run Try.prog w = .ok (.agg (ic .i64 L).toArray) w := by
  have hv : (loadVar 63 ⟨q, 0, none⟩).run Try.prog w = .ok (.agg (ic .i64 L).toArray) w := run_loadVar_mid w q 0 63 (ic .i64 L) _ hr.range Try.underlying63 rfl hi
  unfold results
  rw [Try.results37]
  have h9 : tmps[8]?.getD undef = .pointer (some ⟨q, 0, none⟩) := by simpa using h8
  simp [h9, asAddr, hv]
set_option maxHeartbeats 4000000 in
theorem reached_any (pv : Value) (cs : List Ct) (u t n : Int) (hp : okP cs) (hl : cs.length ≤ 200) (hu : 1 ≤ u ∧ u ≤ 16) (ht : 0 ≤ t) (hn : 1 ≤ n ∧ n ≤ 1200) (w : World) (hr : RdC w pv cs) :
    Calls Try.prog 37 #[pv, .int .i64 u, .int .i64 t, .int .i64 n] w fun e w' => e = .returned (.agg (ic .i64 (rchL cs n u t 16)).toArray) ∧ Below w.heap.size w w' := by
  obtain ⟨a0, n0, rfl⟩ := hr.form
  obtain ⟨N, hN⟩ : ∃ N, cs.length = N := ⟨_, rfl⟩
  rw [hN] at hr hl ⊢
  have HN := Lib.hid hN
  have HP := Lib.hid hp
  have HR := Lib.hid hr
  have HINI := Lib.hid (show ini u t = (List.replicate 17 (-1)).set u.toNat t from rfl)
  obtain ⟨W1, hW1⟩ : ∃ W : World, W = (w.alloc (.cells #[.int .i64 0, .int .i64 0, .int .i64 0, .int .i64 0, .int .i64 0, .int .i64 0, .int .i64 0, .int .i64 0, .int .i64 0, .int .i64 0, .int .i64 0, .int .i64 0, .int .i64 0, .int .i64 0, .int .i64 0, .int .i64 0, .int .i64 0] 63)).alloc (.cells #[.int .i64 0, .int .i64 0, .int .i64 0, .int .i64 0, .int .i64 0, .int .i64 0, .int .i64 0, .int .i64 0, .int .i64 0, .int .i64 0, .int .i64 0, .int .i64 0, .int .i64 0, .int .i64 0, .int .i64 0, .int .i64 0, .int .i64 0] 63) := ⟨_, rfl⟩
  have HO1 : Hid (ArrB W1 (w.heap.size + 1) (List.replicate 17 0)) := Lib.hid (by
    rw [hW1]
    have := ArrB.new (w.alloc (.cells #[.int .i64 0, .int .i64 0, .int .i64 0, .int .i64 0, .int .i64 0, .int .i64 0, .int .i64 0, .int .i64 0, .int .i64 0, .int .i64 0, .int .i64 0, .int .i64 0, .int .i64 0, .int .i64 0, .int .i64 0, .int .i64 0, .int .i64 0] 63))
    simpa using this)
  have HS1 : Hid (ArrB W1 w.heap.size (List.replicate 17 0)) := Lib.hid (by rw [hW1]; exact (ArrB.new w).below (by repeat (first | assumption | exact Below.refl _ _ | apply Below.al | apply below_drewN | apply Below.drew | refine Below.next ?_ (by assumption))))
  have HB1 : Hid (Below w.heap.size w W1) := Lib.hid (by rw [hW1]; exact (by repeat (first | assumption | exact Below.refl _ _ | apply Below.al | apply below_drewN | apply Below.drew | refine Below.next ?_ (by assumption))))
  clear hr hp
  go_enter Try.func37, Try.ntmps37
  go_upto_region 2 with fail
  rw [← hW1]
  clear hW1
  go_wp2_with fail
  go_loopw [17] (fun i wr => ∃ (j : Nat) (L : List Int), j ≤ 17 ∧ i = .int .i64 j ∧ ArrB wr (w.heap.size + 1) L ∧ L.length = 17 ∧ (∀ k, k < j → L.getD k 0 = -1) ∧ ArrB wr w.heap.size (List.replicate 17 0) ∧ Below w.heap.size w wr) (fun i _ => 17 - (intOf i).toNat)
  case atStart => exact ⟨0, _, Nat.zero_le _, rfl, HO1.out, by simp, (fun k hk => absurd hk (Nat.not_lt_zero _)), HS1.out, HB1.out⟩
  case round =>
    clear HO1 HB1 HS1
    obtain ⟨j, L, hj, rfl, ho, hll, hz, hs, hb⟩ := hrel
    have HO := Lib.hid ho
    have HZ := Lib.hid hz
    have HB := Lib.hid hb
    have HS := Lib.hid hs
    have HLL := Lib.hid hll
    clear ho hz hb hs hll
    by_cases hlt : j < 17
    · have d2 : decide ((j : Int) < 17) = true := yb (by omega)
      have g0 := HO.out.at j (by rw [HLL.out]; exact hlt)
      have f0 := HO.out.fz j
      have n1 : (0 : Int) ≤ (j : Int) := by omega
      have n2 : (j : Int) < 17 := by omega
      have hwk : IntKind.i64.wrap (j : Int) = (j : Int) := IntWalk.i64_in _ (by omega)
      have hwk1 : IntKind.i64.wrap ((j : Int) + 1) = (j : Int) + 1 := IntWalk.i64_in _ (by omega)
      obtain ⟨W2, hW2⟩ : ∃ W2 : World, W2 = wr.setCell ⟨w.heap.size + 1, j, none⟩ (.int .i64 (-1)) := ⟨_, rfl⟩
      have hk2 : Kx (fun k => k = w.heap.size + 1) wr W2 := by rw [hW2]; exact Kx.setCell (X := fun k => k = w.heap.size + 1) (Kx.refl _ wr) (.inl rfl) _
      have HF : Hid (ArrB W2 (w.heap.size + 1) (L.set j (-1)) ∧ (L.set j (-1)).length = 17 ∧ (∀ k, k < j + 1 → (L.set j (-1)).getD k 0 = -1) ∧ ArrB W2 w.heap.size (List.replicate 17 0) ∧ Below w.heap.size w W2) := Lib.hid ⟨by rw [hW2]; exact HO.out.set j _, by rw [List.length_set]; exact HLL.out, fun k hk => by
        rw [getD_set _ _ _ _ (by rw [HLL.out]; exact hlt)]
        split
        · rfl
        · exact HZ.out k (by omega), HS.out.kx hk2 (by omega), by rw [hW2]; exact HB.out.setCell (p := ⟨w.heap.size + 1, j, none⟩) (by show w.heap.size ≤ w.heap.size + 1; omega) _⟩
      go_upto_region 6 with fail
      rw [← hW2]
      clear hW2 g0 f0 hk2
      go_wp2_with fail
      go_roundw
      case rel => exact ⟨j + 1, _, by omega, by go_num, HF.out.1, HF.out.2.1, HF.out.2.2.1, HF.out.2.2.2.1, HF.out.2.2.2.2⟩
      case measure => simp [intOf]; omega
    · have d2 : decide ((j : Int) < 17) = false := nb (by omega)
      have hL := all_rep HLL.out (fun k hk => HZ.out k (by omega))
      clear hlt hj
      subst hL
      have g0 := HO.out.at u.toNat (by simp; omega)
      have f0 := HO.out.fz u.toNat
      have n1 : (0 : Int) ≤ u := by omega
      have n2 : u < 17 := by omega
      have hwk : IntKind.i64.wrap u = u := IntWalk.i64_in _ (by omega)
      obtain ⟨W2, hW2⟩ : ∃ W2 : World, W2 = wr.setCell ⟨w.heap.size + 1, u.toNat, none⟩ (.int .i64 t) := ⟨_, rfl⟩
      have hk2 : Kx (fun k => k = w.heap.size + 1) wr W2 := by rw [hW2]; exact Kx.setCell (X := fun k => k = w.heap.size + 1) (Kx.refl _ wr) (.inl rfl) _
      have HF : Hid (ArrB W2 (w.heap.size + 1) (ini u t) ∧ ArrB W2 w.heap.size (List.replicate 17 0) ∧ Below w.heap.size w W2) := Lib.hid ⟨by rw [HINI.out, hW2]; exact HO.out.set u.toNat _, HS.out.kx hk2 (by omega), by rw [hW2]; exact HB.out.setCell (p := ⟨w.heap.size + 1, u.toNat, none⟩) (by show w.heap.size ≤ w.heap.size + 1; omega) _⟩
      go_upto_region 8 with fail
      rw [← hW2]
      clear hW2 g0 f0 hk2 HO HZ HB HS HLL
      obtain ⟨Q, HQ⟩ : ∃ Q, Hid (W2.heap.size = Q) := ⟨_, Lib.hid rfl⟩
      obtain ⟨W3, hW3⟩ : ∃ V : World, V = (W2.alloc (.cells #[.int .i64 u, .int .i64 t] 83)).alloc (.cells #[.slice (some ⟨W2.heap.size, 0, none⟩) 1 1] 85) := ⟨_, rfl⟩
      have HSR : Hid (SrR w cs n u t Q (2 * N + 1) W3) := Lib.hid (by
        have hb3 : Below W2.heap.size W2 W3 := by rw [hW3]; exact (by repeat (first | assumption | exact Below.refl _ _ | apply Below.al | apply below_drewN | apply Below.drew | refine Below.next ?_ (by assumption)))
        refine ⟨_, _, _, _, _, .slice (some ⟨Q, 0, none⟩) 1 1, dj_ini hu ht, HF.out.1.below hb3, HF.out.2.1.below hb3, ⟨?_, ?_, by simp, Nat.le_succ _⟩, Below.next HF.out.2.2 hb3, by rw [← HQ.out]; exact HF.out.1.lt, by rw [HN.out]; simp⟩
        · rw [hW3, ← HQ.out]
          have := BoxN.new (W2.alloc (.cells #[.int .i64 u, .int .i64 t] 83)) 85 #[.slice (some ⟨W2.heap.size, 0, none⟩) 1 1]
          simpa using this
        · rw [hW3, ← HQ.out]
          exact own_keep ((by repeat (first | assumption | exact Below.refl _ _ | apply Below.al | apply below_drewN | apply Below.drew | refine Below.next ?_ (by assumption))) : Below (W2.alloc (.cells #[.int .i64 u, .int .i64 t] 83)).heap.size _ _) (owns_block (W2.alloc (.cells (Tm.cs ⟨u, t⟩).toArray 83)) _ 83 2 1 (Tm.cs ⟨u, t⟩) _ (Nat.le_refl _) (heap_last W2 _) rfl (by decide)))
      go_upto_region 9 with fail
      rw [← hW3, HQ.out]
      clear hW3 HF HQ
      go_loopw [] (fun wr => ∃ m, SrR w cs n u t Q m wr) (fun wr => mu (SrR w cs n u t Q) wr)
      case atStart => exact ⟨_, HSR.out⟩
      case round =>
        clear HSR
        rename World => wq
        have hmin := mu_at hrel
        obtain ⟨m, HM⟩ : ∃ m, Hid (mu (SrR w cs n u t Q) wq = m) := ⟨_, Lib.hid rfl⟩
        rw [HM.out] at hmin
        obtain ⟨out, q, X, D, T, v, hdj, hao, hars, htm, hb, hlt, hmm⟩ := hmin
        have HDJ := Lib.hid hdj
        have HAO := Lib.hid hao
        have HAR := Lib.hid hars
        have HTM := Lib.hid htm
        have HB := Lib.hid hb
        have HMM := Lib.hid hmm
        have h0 : wq.cell? ⟨Q + 1, 0, none⟩ = some v := (htm.box.cell 0).trans rfl
        have HLEN := Lib.hid (len_any wq Q (Q + 1) v q htm)
        clear hrel hdj hao hars htm hb hmm
        by_cases hq : 0 < q.length
        · obtain ⟨M, hM⟩ : ∃ M : Nat, q.length = M + 1 := ⟨q.length - 1, by omega⟩
          have HLM := Lib.hid hM
          rw [hM] at HLEN
          have d1 : decide (((M + 1 : Nat) : Int) > 0) = true := yb (by omega)
          obtain ⟨Z, hZ⟩ : ∃ Z : Int, Z = ((M + 1 : Nat) : Int) := ⟨_, rfl⟩
          rw [← hZ] at HLEN d1
          clear hZ hM
          obtain ⟨⟨x, T1⟩, HE0⟩ : ∃ e0 : Tm, Hid (g q 0 = e0) := ⟨_, Lib.hid rfl⟩
          have hta : ∀ w : World, (Instr.typeAssert (.iface 83 (.agg #[.int .i64 x, .int .i64 T1])) 20 83 false).run Try.prog w = .ok (.agg #[.int .i64 x, .int .i64 T1]) w := fun w => by kernel_rfl
          have HPOP : Hid (Calls Try.prog 55 #[.iface 81 (.pointer (some ⟨Q + 1, 0, none⟩))] wq fun e w' => e = .returned (.iface 83 (.agg #[.int .i64 x, .int .i64 T1])) ∧ ∃ v', TM w' Q (Q + 1) v' (outL q 0) ∧ TR wq (Q + 1) v w' v' ∧ ∀ k, v'.ownBlock = some k → v.ownBlock = some k) := Lib.hid (by
            have := hpop_any wq Q (Q + 1) v q M HLM.out HTM.out
            rw [HE0.out] at this
            exact this)
          have HENT := Lib.hid ((HDJ.out.ent _ ((dj_top HDJ.out hq).2.1)))
          have HQP := Lib.hid hq
          clear hq
          go_wp2_with fail
          refine HLEN.out.mono ?_
          rintro e w4 ⟨rfl, h9⟩
          obtain rfl := h9
          go_wp2_with fail
          refine HPOP.out.mono ?_
          rintro e w5 ⟨rfl, v', htm5, htr5, hv5⟩
          have hno : ∀ k, k < Q → ¬ Xs (Q + 1) v k := fun k hk hx => by
            rcases hx with hx | hx
            · omega
            · have := (HTM.out.row.lt k hx).1; omega
          have HAO5 := Lib.hid (HAO.out.kx htr5.kx (hno _ hlt))
          have HAR5 := Lib.hid (HAR.out.kx htr5.kx (hno _ (by omega)))
          have HB5 := Lib.hid (HB.out.trans ((htr5.below HTM.out).mono (by omega)))
          have HTM5 := Lib.hid htm5
          obtain ⟨B, HBB⟩ : ∃ B, Hid (w5.heap.size = B) := ⟨_, Lib.hid rfl⟩
          obtain ⟨W6, hW6⟩ : ∃ V : World, V = w5.alloc (.cells #[.int .i64 x, .int .i64 T1] 83) := ⟨_, rfl⟩
          have hb6 : Below w5.heap.size w5 W6 := by rw [hW6]; exact (by repeat (first | assumption | exact Below.refl _ _ | apply Below.al | apply below_drewN | apply Below.drew | refine Below.next ?_ (by assumption)))
          have hbs : BoxN W6 B 83 #[.int .i64 x, .int .i64 T1] := by rw [hW6, ← HBB.out]; exact BoxN.new w5 _ _
          have HVB : Hid (∀ k, v'.ownBlock = some k → k < B) := Lib.hid (fun k hk => by rw [← HBB.out]; exact (htm5.row.lt k hk).2)
          replace HAO5 := Lib.hid (HAO5.out.below hb6)
          replace HAR5 := Lib.hid (HAR5.out.below hb6)
          replace HTM5 := Lib.hid (HTM5.out.keep hb6)
          replace HB5 := Lib.hid (Below.next HB5.out hb6)
          have HBS := Lib.hid hbs
          have s0 : W6.cell? ⟨B, 0, none⟩ = some (.int .i64 x) := hbs.cell 0
          have s1 : W6.cell? ⟨B, 1, none⟩ = some (.int .i64 T1) := hbs.cell 1
          have hx16 : 1 ≤ x ∧ x ≤ 16 := by have := HENT.out.1; rw [HE0.out] at this; exact this
          have g0 := HAO5.out.at x.toNat (by rw [HDJ.out.lab.1]; omega)
          obtain ⟨z, HZ⟩ : ∃ z, Hid (gI out x = z) := ⟨_, Lib.hid rfl⟩
          rw [← gI_to HDJ.out.lab.1 (by omega) (by omega), HZ.out] at g0
          have x1 : (0 : Int) ≤ x := by omega
          have x2 : x < 17 := by omega
          have hwx : IntKind.i64.wrap x = x := IntWalk.i64_in _ (by omega)
          have hQB : Q + 1 < B := by rw [← HBB.out]; exact htm5.box.lt
          clear htm5 htr5 hv5 hno hb6 hbs h0
          go_upto_region 11 with fail
          rw [← hW6, HBB.out]
          clear hW6
          have hfin := fun (wy : World) (m' : Nat) (hm : m' < m) (hs : SrR w cs n u t Q m' wy) => (show (∃ m, SrR w cs n u t Q m wy) ∧ mu (SrR w cs n u t Q) wy < mu (SrR w cs n u t Q) wq from ⟨⟨_, hs⟩, by rw [HM.out]; exact Nat.lt_of_le_of_lt (mu_le hs) hm⟩)
          have HFIN := Lib.hid hfin
          clear hfin
          by_cases hst : z < T1
          · have d2 : decide (T1 > z) = true := yb hst
            have HDS := Lib.hid (dj_stale HDJ.out HQP.out (by rw [HE0.out]; show gI out x < T1; rw [HZ.out]; exact hst))
            have HFX := Lib.hid (fun nq => HFIN.out (W6.drewN nq) (2 * (cs.length - D.length) + (outL q 0).length) (by have := HMM.out; rw [out_len]; have := HQP.out; omega) ⟨out, _, X, D, _, v', HDS.out, HAO5.out.below (below_drewN (Below.refl _ _) _), HAR5.out.below (below_drewN (Below.refl _ _) _), HTM5.out.keep (below_drewN (Below.refl _ _) _), Below.next HB5.out (below_drewN (Below.refl _ _) _), hlt, rfl⟩)
            clear hst
            go_quiet (fail)
            go_wp2_with fail
            go_roundw
            case rel => exact (HFX.out _).1
            case measure => exact (HFX.out _).2
          · have d2 : decide (T1 > z) = false := nb hst
            have HDI0 := Lib.hid (dj_take HDJ.out HQP.out (by rw [HE0.out]; show ¬ gI out x < T1; rw [HZ.out]; exact hst))
            have hlo : (outL q 0).length < q.length := by rw [out_len]; have := HQP.out; omega
            rw [HE0.out] at HDI0
            clear hst
            go_quiet (fail)
            go_upto_region 12 with fail
            refine wp_drewN ?_
            intro wS hbd
            have HST : Hid (∃ (D' : List Nat) (o' : List Int) (q' : List Tm) (v2 : Value), DI cs n u t o' q' X D' T1 x 0 ∧ ArrB wS (w.heap.size + 1) o' ∧ ArrB wS w.heap.size (List.replicate 17 0) ∧ TM wS Q (Q + 1) v2 q' ∧ Below w.heap.size w wS ∧ BoxN wS B 83 #[.int .i64 x, .int .i64 T1] ∧ (∀ k, v2.ownBlock = some k → k ≠ B) ∧ 2 * (cs.length - D'.length) + q'.length < m) := Lib.hid ⟨D, out, _, v', HDI0.out, HAO5.out.below hbd, HAR5.out.below hbd, HTM5.out.keep hbd, Below.next HB5.out hbd, HBS.out.below hbd, (fun k hk => by have := HVB.out k hk; omega), by have := HMM.out; omega⟩
            have HBW := Lib.hid (Below.next HB5.out hbd)
            clear s0 s1 g0 hbd HAO5 HAR5 HTM5 HB5 HBS HVB HDI0 hlo HPOP HLEN
            go_wp2_with fail
            go_loopw [49] (fun iv wx => ∃ (i : Nat) (D' : List Nat) (o' : List Int) (q' : List Tm) (v2 : Value), i ≤ N ∧ iv = .int .i64 i ∧ DI cs n u t o' q' X D' T1 x i ∧ ArrB wx (w.heap.size + 1) o' ∧ ArrB wx w.heap.size (List.replicate 17 0) ∧ TM wx Q (Q + 1) v2 q' ∧ Below w.heap.size w wx ∧ BoxN wx B 83 #[.int .i64 x, .int .i64 T1] ∧ (∀ k, v2.ownBlock = some k → k ≠ B) ∧ 2 * (cs.length - D'.length) + q'.length < m) (fun iv _ => N - (intOf iv).toNat)
            case atStart => obtain ⟨D', o', q', v2, h⟩ := HST.out; exact ⟨0, D', o', q', v2, Nat.zero_le _, rfl, h⟩
            case round =>
              clear HST HBW
              rename World => wx
              obtain ⟨i, D', o', q', v2, hi, rfl, hdi, hao, har, htm, hb, hbs, hvb, hme⟩ := hrel
              have HDI := Lib.hid hdi
              have HAO := Lib.hid hao
              have HAR := Lib.hid har
              have HTM := Lib.hid htm
              have HBW := Lib.hid hb
              have HBS := Lib.hid hbs
              have HVB := Lib.hid hvb
              have HME := Lib.hid hme
              clear hdi hao har htm hvb hme
              by_cases hin : i < N
              · have d4 : decide ((i : Int) < (N : Int)) = true := yb (by omega)
                obtain ⟨bb, off, rfl, hc2, ca0, ca1, ca2, ca3, ca4, ca5⟩ := RdC.at (HR.out.keep hb) HN.out i hin
                have hokj := HP.out.at (i := i) (by rw [HN.out]; exact hin)
                obtain ⟨cc, HCC⟩ : ∃ cc, Hid (cs.getD i c0 = cc) := ⟨_, Lib.hid rfl⟩
                rw [HCC.out] at ca0 ca1 ca2 ca3 ca4 ca5 hokj
                have hT1 := HDI.out.nn
                have HOV := Lib.hid (fun w' => hop_any cc T1 n hokj hT1 hn w')
                obtain ⟨r, HRr⟩ : ∃ r, Hid (hopO cc T1 n = r) := ⟨_, Lib.hid rfl⟩
                obtain ⟨W7, hW7⟩ : ∃ V : World, V = wx.alloc (.cells #[.int .i64 cc.fr, .int .i64 cc.dt, .int .i64 cc.st, .int .i64 cc.en, .int .i64 cc.rt, .int .i64 cc.dl] 52) := ⟨_, rfl⟩
                have hb7 : Below wx.heap.size wx W7 := by rw [hW7]; exact (by repeat (first | assumption | exact Below.refl _ _ | apply Below.al | apply below_drewN | apply Below.drew | refine Below.next ?_ (by assumption)))
                have hA7 : BC W7 wx.heap.size cc := by rw [hW7]; simp [BC, go_sem]
                have hbs7 := hbs.below hb7
                have s0 : W7.cell? ⟨B, 0, none⟩ = some (.int .i64 x) := hbs7.cell 0
                have s1 : W7.cell? ⟨B, 1, none⟩ = some (.int .i64 T1) := hbs7.cell 1
                have n1 : (0 : Int) ≤ (i : Int) := by omega
                have n2 : (i : Int) < (N : Int) := by omega
                have hwi : IntKind.i64.wrap (i : Int) = (i : Int) := IntWalk.i64_in _ (by omega)
                have hwi1 : IntKind.i64.wrap ((i : Int) + 1) = (i : Int) + 1 := IntWalk.i64_in _ (by omega)
                have hdt := hokj.2.1
                clear hb hbs hbs7
                go_upto_region 15 with fail
                rw [← hW7]
                clear hW7 ca0 ca1 ca2 ca3 ca4 ca5
                by_cases hfr : cc.fr = x
                · have d5 : (cc.fr != x) = false := by simp [hfr]
                  have hil : i < cs.length := by rw [HN.out]; exact hin
                  have HFR := Lib.hid (show (cs.getD i c0).fr = x by rw [HCC.out]; exact hfr)
                  clear hfr
                  go_wp2_with fail
                  refine (HOV.out _).mono ?_
                  rintro e w8 ⟨x9, rfl, hx9, hb8⟩
                  rw [HRr.out] at hx9 ⊢
                  have hb78 := Below.next hb7 hb8
                  have e1 := cell_later hb8 hA7.2.1
                  have HAO8 := Lib.hid (HAO.out.below hb78)
                  have HAR8 := Lib.hid (HAR.out.below hb78)
                  have HTM8 := Lib.hid (HTM.out.keep hb78)
                  have HB8 := Lib.hid (Below.next HBW.out hb78)
                  have HBS8 := Lib.hid (HBS.out.below hb78)
                  have ho17 := HDI.out.lab.1
                  have gD := HAO8.out.at cc.dt.toNat (by omega)
                  have fD := HAO8.out.fz cc.dt.toNat
                  obtain ⟨zd, HZD⟩ : ∃ zd, Hid (gI o' cc.dt = zd) := ⟨_, Lib.hid rfl⟩
                  rw [← gI_to ho17 (by omega) (by omega), HZD.out] at gD
                  have D1 : (0 : Int) ≤ cc.dt := by omega
                  have D2 : cc.dt < 17 := by omega
                  have hwD : IntKind.i64.wrap cc.dt = cc.dt := IntWalk.i64_in _ (by omega)
                  clear hb8 hb78 hb7 hA7 s0 s1 hokj
                  have hskip := fun (hc : Clo cs n o' i) => di_skip HDI.out (fun _ => hc)
                  have HSK := Lib.hid hskip
                  clear hskip
                  cases r with
                  | none =>
                    have HDN := Lib.hid (HSK.out (fun h0 s hs => by
                      rw [HFR.out, HDI.out.xT, HCC.out, HRr.out] at hs
                      cases hs))
                    clear hx9 hdt
                    go_wp2_with fail
                    go_roundw
                    case rel => exact ⟨i + 1, D', o', q', v2, by omega, by go_num, HDN.out, HAO8.out, HAR8.out, HTM8.out, HB8.out, HBS8.out, HVB.out, HME.out⟩
                    case measure => simp [intOf]; omega
                  | some s2 =>
                    obtain rfl := hx9 s2 rfl
                    by_cases himp : zd = -1 ∨ x9 < zd
                    · have HDP := Lib.hid (di_put HP.out hn.1 HDI.out hil HFR.out (s := x9) (by rw [HCC.out]; exact HRr.out) (by rw [HCC.out, HZD.out]; exact himp))
                      rw [HCC.out] at HDP
                      obtain ⟨W9, hW9⟩ : ∃ V : World, V = w8.setCell ⟨w.heap.size + 1, cc.dt.toNat, none⟩ (.int .i64 x9) := ⟨_, rfl⟩
                      have hk9 : Kx (fun k => k = w.heap.size + 1) w8 W9 := by rw [hW9]; exact Kx.setCell (X := fun k => k = w.heap.size + 1) (Kx.refl _ w8) (.inl rfl) _
                      have HAO9 : Hid (ArrB W9 (w.heap.size + 1) (o'.set cc.dt.toNat x9)) := Lib.hid (by rw [hW9]; exact HAO8.out.set _ _)
                      have HAR9 := Lib.hid (HAR8.out.kx hk9 (by omega))
                      have HTM9 : Hid (TM W9 Q (Q + 1) v2 q') := Lib.hid ⟨hk9.box (by omega) HTM8.out.box, hk9.owns (fun k hk he => by have := (HTM8.out.row.lt k hk).1; omega) HTM8.out.row, HTM8.out.len, HTM8.out.ge⟩
                      have HBS9 := Lib.hid (hk9.box (by omega) HBS8.out)
                      have HB9 : Hid (Below w.heap.size w W9) := Lib.hid (by rw [hW9]; exact HB8.out.setCell (p := ⟨w.heap.size + 1, cc.dt.toNat, none⟩) (by show w.heap.size ≤ w.heap.size + 1; omega) _)
                      have e1' := hk9.cell (p := ⟨wx.heap.size, 1, none⟩) (by have := HAO.out.lt; show ¬ wx.heap.size = w.heap.size + 1; omega) e1
                      have hq9 : q'.length ≤ 90000 := by have := HDI.out.cnt; have := HDI.out.dlen; rw [HN.out] at this; omega
                      have HPU : Hid (Calls Try.prog 56 #[.iface 81 (.pointer (some ⟨Q + 1, 0, none⟩)), .iface 83 (.agg #[.int .i64 cc.dt, .int .i64 x9])] W9 fun e w' => e = .returned (.tuple #[]) ∧ ∃ v', TM w' Q (Q + 1) v' (putL q' ⟨cc.dt, x9⟩) ∧ TR W9 (Q + 1) v2 w' v') := Lib.hid (hpush_any W9 Q (Q + 1) v2 q' ⟨cc.dt, x9⟩ hq9 HTM9.out)
                      by_cases hz1 : zd = -1
                      · have d6 : (zd == -1) = true := by simp [hz1]
                        clear himp hz1 hk9 hdt
                        go_upto_region 19 with fail
                        rw [← hW9]
                        clear hW9 gD fD e1
                        go_wp2_with fail
                        refine HPU.out.mono ?_
                        rintro e w10 ⟨rfl, v3, htm10, htr10⟩
                        have hno : ∀ k, k < Q → ¬ Xs (Q + 1) v2 k := fun k hk hx => by
                          rcases hx with hx | hx
                          · omega
                          · have := (HTM9.out.row.lt k hx).1; omega
                        have hBno : ¬ Xs (Q + 1) v2 B := fun hx => by
                          rcases hx with hx | hx
                          · omega
                          · exact HVB.out B hx rfl
                        have HNX : Hid (ArrB w10 (w.heap.size + 1) (o'.set cc.dt.toNat x9) ∧ ArrB w10 w.heap.size (List.replicate 17 0) ∧ Below w.heap.size w w10 ∧ BoxN w10 B 83 #[.int .i64 x, .int .i64 T1] ∧ (∀ k, v3.ownBlock = some k → k ≠ B) ∧ 2 * (cs.length - (i :: D').length) + (putL q' ⟨cc.dt, x9⟩).length < m) := Lib.hid ⟨HAO9.out.kx htr10.kx (hno _ hlt), HAR9.out.kx htr10.kx (hno _ (by omega)), HB9.out.trans ((htr10.below HTM9.out).mono (by omega)), htr10.kx.box hBno HBS9.out, fun k hk => by
                          rcases htr10.blk k hk with h1 | h1
                          · exact HVB.out k h1
                          · have := HBS9.out.lt; omega, by
                          have h1 := HDP.out.dlen
                          have h2 := HME.out
                          rw [put_len]
                          simp only [List.length_cons] at h1 ⊢
                          omega⟩
                        have HTM10 := Lib.hid htm10
                        clear htm10 htr10 hno hBno
                        go_wp2_with fail
                        go_roundw
                        case rel => exact ⟨i + 1, _, _, _, v3, by omega, by go_num, HDP.out, HNX.out.1, HNX.out.2.1, HTM10.out, HNX.out.2.2.1, HNX.out.2.2.2.1, HNX.out.2.2.2.2.1, HNX.out.2.2.2.2.2⟩
                        case measure => simp [intOf]; omega
                      · have d6 : (zd == -1) = false := by simp [hz1]
                        have d7 : decide (x9 < zd) = true := yb (himp.resolve_left hz1)
                        clear himp hz1 hk9 hdt
                        go_upto_region 19 with fail
                        rw [← hW9]
                        clear hW9 gD fD e1
                        go_wp2_with fail
                        refine HPU.out.mono ?_
                        rintro e w10 ⟨rfl, v3, htm10, htr10⟩
                        have hno : ∀ k, k < Q → ¬ Xs (Q + 1) v2 k := fun k hk hx => by
                          rcases hx with hx | hx
                          · omega
                          · have := (HTM9.out.row.lt k hx).1; omega
                        have hBno : ¬ Xs (Q + 1) v2 B := fun hx => by
                          rcases hx with hx | hx
                          · omega
                          · exact HVB.out B hx rfl
                        have HNX : Hid (ArrB w10 (w.heap.size + 1) (o'.set cc.dt.toNat x9) ∧ ArrB w10 w.heap.size (List.replicate 17 0) ∧ Below w.heap.size w w10 ∧ BoxN w10 B 83 #[.int .i64 x, .int .i64 T1] ∧ (∀ k, v3.ownBlock = some k → k ≠ B) ∧ 2 * (cs.length - (i :: D').length) + (putL q' ⟨cc.dt, x9⟩).length < m) := Lib.hid ⟨HAO9.out.kx htr10.kx (hno _ hlt), HAR9.out.kx htr10.kx (hno _ (by omega)), HB9.out.trans ((htr10.below HTM9.out).mono (by omega)), htr10.kx.box hBno HBS9.out, fun k hk => by
                          rcases htr10.blk k hk with h1 | h1
                          · exact HVB.out k h1
                          · have := HBS9.out.lt; omega, by
                          have h1 := HDP.out.dlen
                          have h2 := HME.out
                          rw [put_len]
                          simp only [List.length_cons] at h1 ⊢
                          omega⟩
                        have HTM10 := Lib.hid htm10
                        clear htm10 htr10 hno hBno
                        go_wp2_with fail
                        go_roundw
                        case rel => exact ⟨i + 1, _, _, _, v3, by omega, by go_num, HDP.out, HNX.out.1, HNX.out.2.1, HTM10.out, HNX.out.2.2.1, HNX.out.2.2.2.1, HNX.out.2.2.2.2.1, HNX.out.2.2.2.2.2⟩
                        case measure => simp [intOf]; omega
                    · have d6 : (zd == -1) = false := by simp; exact fun hh => himp (.inl hh)
                      have d7 : decide (x9 < zd) = false := nb (fun hh => himp (.inr hh))
                      have hzd := HDI.out.lab.2.2 cc.dt (by omega)
                      rw [HZD.out] at hzd
                      have HDN := Lib.hid (HSK.out (fun h0 s hs => by
                        rw [HFR.out, HDI.out.xT, HCC.out, HRr.out] at hs
                        simp only [Option.some.injEq] at hs
                        rw [HCC.out, HZD.out]
                        rcases hzd with hzd | hzd
                        · exact absurd (.inl hzd) himp
                        · exact ⟨hzd.1, Decidable.byContradiction fun hh => himp (.inr (by omega))⟩))
                      clear hdt himp hzd
                      go_wp2_with fail
                      go_roundw
                      case rel => exact ⟨i + 1, D', o', q', v2, by omega, by go_num, HDN.out, HAO8.out, HAR8.out, HTM8.out, HB8.out, HBS8.out, HVB.out, HME.out⟩
                      case measure => simp [intOf]; omega
                · have d5 : (cc.fr != x) = true := by simp [hfr]
                  have HDN := Lib.hid (di_skip HDI.out (fun hh => absurd (by rw [← HCC.out]; exact hh) hfr))
                  have HNX : Hid (ArrB W7 (w.heap.size + 1) o' ∧ ArrB W7 w.heap.size (List.replicate 17 0) ∧ TM W7 Q (Q + 1) v2 q' ∧ Below w.heap.size w W7 ∧ BoxN W7 B 83 #[.int .i64 x, .int .i64 T1]) := Lib.hid ⟨HAO.out.below hb7, HAR.out.below hb7, HTM.out.keep hb7, Below.next HBW.out hb7, HBS.out.below hb7⟩
                  have e0 := hA7.1
                  clear hfr hA7 hokj hb7
                  go_wp2_with fail
                  go_roundw
                  case rel => exact ⟨i + 1, D', o', q', v2, by omega, by go_num, HDN.out, HNX.out.1, HNX.out.2.1, HNX.out.2.2.1, HNX.out.2.2.2.1, HNX.out.2.2.2.2, HVB.out, HME.out⟩
                  case measure => simp [intOf]; omega
              · obtain rfl : i = N := by omega
                have d4 : decide ((i : Int) < (i : Int)) = false := nb (by omega)
                have HDE := Lib.hid (di_end (by rw [HN.out]; exact HDI.out))
                have HEND := HFIN.out wx _ HME.out ⟨o', q', _, D', _, v2, HDE.out, HAO.out, HAR.out, HTM.out, HBW.out, hlt, rfl⟩
                clear hb hbs
                go_wp2_with fail
                go_roundw
                case rel => exact HEND.1
                case measure => exact HEND.2
        · have hq0 : q = [] := List.length_eq_zero_iff.1 (by omega)
          subst hq0
          have hout := dj_done HP.out hn.1 hu ht HDJ.out
          have HAL : Hid (ArrB wq (w.heap.size + 1) (rchL cs n u t 16)) := Lib.hid (by rw [← hout]; exact HAO.out)
          have hll : (rchL cs n u t 16).length = 17 := rchL_len HP.out hn.1 hu ht 16
          obtain ⟨RL, HRL⟩ : ∃ RL, Hid (rchL cs n u t 16 = RL) := ⟨_, Lib.hid rfl⟩
          rw [HRL.out] at HAL hll
          have hlc : (ic .i64 RL).toArray.size = 17 := by simp [ic, hll]
          have HRNG := Lib.hid HAL.out.range
          have hthere : wq.there w.heap.size 0 (ic .i64 RL).toArray.size := by
            rw [hlc]
            exact BoxN.there HAR.out 17 (by simp [ic])
          have HTH := Lib.hid hthere
          have HI1 : Hid ((Try.prog.info? 63).map (·.size) = some (ic .i64 RL).length) := Lib.hid (by rw [show (ic .i64 RL).length = 17 from hlc]; kernel_rfl)
          have HONE : Hid ((ic .i64 RL).toArray.all (·.oneCell') = true) := Lib.hid (by
            rw [Array.all_eq_true']
            intro x hx
            exact ic_one .i64 RL x (by simpa using hx))
          have HAF : Hid (ArrB (wq.setCells w.heap.size 0 (ic .i64 RL)) w.heap.size RL ∧ Below w.heap.size w (wq.setCells w.heap.size 0 (ic .i64 RL))) := Lib.hid ⟨BoxN.sets HAR.out (ic .i64 RL) (by simp [ic, hll]), (Kx.setCells (X := fun k => k = w.heap.size) (Kx.of_below (Below.refl wq.heap.size wq)) (.inl rfl) 0 (ic .i64 RL)).below (by have := HB.out.size; omega) (fun k hk => by have hk : k = w.heap.size := hk; omega) |> fun h => HB.out.trans h⟩
          have d1 : decide ((([] : List Tm).length : Int) > 0) = false := by decide
          clear hout hll hlc hthere hq
          go_wp2_with fail
          refine HLEN.out.mono ?_
          rintro e w4 ⟨rfl, h9⟩
          obtain rfl := h9
          go_upto_region 21 with fail
          go_wp2_with (first | (refine wpList_load_mid rfl 63 (.tmp 9) rfl (w.heap.size + 1) 0 rfl (ic .i64 RL) _ HRNG.out Try.underlying63 rfl HI1.out ?_) | (refine wpList_plain rfl (fun K hK => wp_store_mid 63 (.tmp 8) (.tmp 95) rfl w.heap.size 0 (ic .i64 RL).toArray rfl rfl HTH.out HI1.out HONE.out ?_); refine hK _ _ ?_) | fail)
          refine bodyPost_ret (v := .agg (ic .i64 RL).toArray) (results_ar _ _ _ RL rfl HAF.out.1 HI1.out) rfl ⟨by rw [HRL.out], HAF.out.2⟩
end Go.Proofs.Ytgmfifilgbbogaa
