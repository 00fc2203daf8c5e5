


/- Custody: slices.DeleteFunc and slices.Delete at frames, in a row of one's own: the walks. -/
import Derived.Test.YtnkpjfogjkjcfaaJ
namespace Go.Proofs.Ytnkpjfogjkjcfaa
open Go.RowKit
set_option linter.unusedSimpArgs false
set_option linter.unusedVariables false
set_option maxRecDepth 100000

theorem gp_at {l : List Ps} {i : Nat} (h : i < l.length) : gp l i = l[i] := by simp [gp, h]
theorem take_snoc {l : List Ps} {k : Nat} (h : k < l.length) : l.take (k + 1) = l.take k ++ [gp l k] := by rw [gp_at h, List.take_succ_eq_append_getElem h]
theorem set_take {M : List Ps} {a : Nat} (y : Ps) (h : a < M.length) : (M.set a y).take (a + 1) = M.take a ++ [y] := by
  rw [take_snoc (by simpa using h)]
  congr 1
  · rw [List.take_set_of_le (Nat.le_refl _)]
  · unfold gp; simp [h]
theorem set_drop {M : List Ps} {a b : Nat} (y : Ps) (h : a < b) : (M.set a y).drop b = M.drop b := by rw [List.drop_set_of_lt h]
set_option maxHeartbeats 4000000 in
theorem deleteFunc_any (w : World) (base : Nat) (v : Value) (l : List Ps) (b : Nat) (n : Int) (hl : l.length ≤ 1000000) (hbase : base ≤ w.heap.size) (hown : OwP w base v l) (h0 : w.cell? ⟨b, 0, none⟩ = some (.int .i64 n)) (hb : ∀ k, v.ownBlock = some k → k ≠ b) :
    Calls Try.prog 73 #[v, .func (.func 74) #[] #[ptr b]] w (InsP w base v (l.filter (fun f => !dlP n f))) := by
  have HIX := Lib.hid (goneix_any v l b n w (RdL.of_owns (R := psR) hown) h0)
  have hlt : ∀ k, v.ownBlock = some k → k < w.heap.size := fun k hk => (hown.lt k hk).2
  have hkeep : (∀ j, j < l.length → dlP n (gp l j) = false) → l.filter (fun f => !dlP n f) = l := fun h => by
    rw [List.filter_eq_self]
    intro f hf
    obtain ⟨j, hj, rfl⟩ := List.getElem_of_mem hf
    have := h j hj
    rw [gp_at hj] at this
    simp [this]
  obtain ⟨a0, c0, rfl⟩ := owns_form hown
  obtain ⟨N, hN⟩ : ∃ N, l.length = N := ⟨_, rfl⟩
  have HO := Lib.hid hown
  have HN := Lib.hid hN
  have HKP := Lib.hid hkeep
  have HLT := Lib.hid hlt
  have HB := Lib.hid hb
  clear hown hkeep hlt hb
  rw [hN] at HIX hl ⊢
  clear hN
  go_enter Try.func73, Try.ntmps73
  go_wp2_with (go_at_call 81; refine HIX.out.mono ?_)
  rintro e w1 ⟨⟨r, rfl, hr⟩, hb1⟩
  have n0 := cell_later hb1 h0
  have HO1 := Lib.hid (Own.keep HO.out hb1)
  have HK1 : Hid (Kx (fun k => (Value.slice a0 N c0).ownBlock = some k) w w1) := Lib.hid (Kx.of_below hb1)
  clear hb1 h0
  rcases hr with ⟨rfl, hnone⟩ | ⟨k, hk, rfl, hdk, hbef⟩
  · have HR : Hid (InsP w base (.slice a0 N c0) (l.filter (fun f => !dlP n f)) (.returned (.slice a0 N c0)) w1) := Lib.hid (by
      rw [HKP.out (by rw [HN.out]; exact hnone)]
      refine ⟨a0, c0, by rw [HN.out], HO1.out, HK1.out, fun k hk => .inl ?_⟩
      rw [HN.out] at hk
      exact hk)
    clear hnone
    go_wp2_with fail
    go_ret
    exact HR.out
  · have hd1 : ((k : Int) == -1) = false := by
      rw [beq_eq_false_iff_ne]
      omega
    have ho := HO1.out
    obtain ⟨q, rfl⟩ : ∃ q, a0 = some ⟨q, 0, none⟩ := by
      rcases ho.2 with ⟨h1, h2⟩ | ⟨g, cap, cur, h1, _⟩
      · have := HN.out; omega
      · simp only [Value.slice.injEq] at h1; exact ⟨g, h1.1⟩
    have hc0 : N ≤ c0 := by
      rcases ho.2 with ⟨h1, _⟩ | ⟨g, cap, cur, h1, _, _, h3, _⟩
      · cases h1
      · simp only [Value.slice.injEq] at h1; rw [HN.out] at h3; omega
    have hcm : c0 ≤ 9223372036854775807 := by
      rcases ho.2 with ⟨h1, _⟩ | ⟨g, cap, cur, h1, _, _, h3, h4, _⟩
      · cases h1
      · simp only [Value.slice.injEq] at h1; unfold maxLen at h4; omega
    have hqb : q ≠ b := HB.out q rfl
    have hqw : q < w.heap.size := HLT.out q rfl
    have hw1 : IntKind.i64.wrap ((k : Int) + 1) = (k : Int) + 1 := IntWalk.i64_in _ (by omega)
    have HO2 : Hid (w1.ownsRow base 47 4 (.slice (some ⟨q, 0, none⟩) N c0) N (rcs psR l)) := Lib.hid (by have := HO1.out; unfold OwP at this; rwa [HN.out] at this)
    have HF0 : Hid (l.take k = (l.take (k + 1)).filter (fun f => !dlP n f)) := Lib.hid (by
      rw [take_snoc (by rw [HN.out]; exact hk), List.filter_append]
      simp only [List.filter_cons, hdk, Bool.not_true, Bool.false_eq_true, if_false, List.filter_nil, List.append_nil]
      symm
      rw [List.filter_eq_self]
      intro f hf
      obtain ⟨j, hj, rfl⟩ := List.getElem_of_mem hf
      rw [List.length_take] at hj
      have := hbef j (by omega)
      rw [gp_at (by omega)] at this
      simp [this])
    clear hdk hbef ho
    go_wp2_with fail
    go_loopw [5, 6] (fun i j wr => ∃ (a m : Nat) (M : List Ps), a < m ∧ m ≤ N ∧ i = .int .i64 a ∧ j = .int .i64 m ∧ Kx (fun k => (Value.slice (some ⟨q, 0, none⟩) N c0).ownBlock = some k) w wr ∧ wr.cell? ⟨b, 0, none⟩ = some (.int .i64 n) ∧ wr.ownsRow base 47 4 (.slice (some ⟨q, 0, none⟩) N c0) N (rcs psR M) ∧ M.length = N ∧ M.take a = (l.take m).filter (fun f => !dlP n f) ∧ M.drop m = l.drop m) (fun i j _ => N - (intOf j).toNat)
    case atStart => exact ⟨k, k + 1, l, by omega, by omega, rfl, by go_num, HK1.out, n0, HO2.out, HN.out, HF0.out, rfl⟩
    case round =>
      obtain ⟨a, m, M, ham, hmN, rfl, rfl, hK, n1, hO, hM, hta, hdr⟩ := hrel
      have HK := Lib.hid hK
      have HO3 := Lib.hid hO
      have HM := Lib.hid hM
      have HTA := Lib.hid hta
      have HDR := Lib.hid hdr
      clear hK hO hM hta hdr n0
      by_cases hlt : m < N
      · have d2 : decide ((m : Int) < (N : Int)) = true := yb (by omega)
        obtain ⟨g0, g1, g2, g3⟩ := OwP.at HO3.out HM.out m hlt
        have hgm : gp M m = gp l m := by
          have h1 : M[m]? = l[m]? := by
            have := congrArg (fun x => x[0]?) HDR.out
            simpa [List.getElem?_drop] using this
          unfold gp
          rw [List.getD_eq_getElem?_getD, List.getD_eq_getElem?_getD, h1]
        obtain ⟨y, HY⟩ : ∃ y, Hid (gp l m = y) := ⟨_, rfl⟩
        rw [hgm, HY.out] at g0 g1 g2 g3
        clear hgm
        have i1 : (0 : Int) ≤ (m : Int) := by omega
        have i2 : (m : Int) < (N : Int) := by omega
        have hwm : IntKind.i64.wrap (m : Int) = (m : Int) := IntWalk.i64_in _ (by omega)
        have j1 : (0 : Int) ≤ (a : Int) := by omega
        have j2 : (a : Int) < (N : Int) := by omega
        have hwa : IntKind.i64.wrap (a : Int) = (a : Int) := IntWalk.i64_in _ (by omega)
        obtain ⟨W, hW⟩ : ∃ W : World, W = wr.alloc (.cells #[.int .i64 y.kd, .int .i64 y.fr, .int .i64 y.tt, .int .i64 y.of] 47) := ⟨_, rfl⟩
        have hBW : Below wr.heap.size wr W := by rw [hW]; exact (by repeat (first | assumption | exact Below.refl _ _ | apply Below.al | apply below_drewN | apply Below.drew | refine Below.next ?_ (by assumption)))
        have bT : BoxN W wr.heap.size 47 #[.int .i64 y.kd, .int .i64 y.fr, .int .i64 y.tt, .int .i64 y.of] := by rw [hW]; exact BoxN.new _ _ _
        have t0 : W.cell? ⟨wr.heap.size, 0, none⟩ = some (.int .i64 y.kd) := bT.cell 0
        have t1 : W.cell? ⟨wr.heap.size, 1, none⟩ = some (.int .i64 y.fr) := bT.cell 1
        have t2 : W.cell? ⟨wr.heap.size, 2, none⟩ = some (.int .i64 y.tt) := bT.cell 2
        have t3 : W.cell? ⟨wr.heap.size, 3, none⟩ = some (.int .i64 y.of) := bT.cell 3
        have hP := gone_any W b n y (cell_later hBW n1)
        have hkw : w.heap.size ≤ wr.heap.size := HK.out.size
        cases hs : dlP n y
        · rw [hs] at hP
          have HPP := Lib.hid hP
          have HS := Lib.hid hs
          clear hP hs bT
          go_upto_region 8 with fail
          rw [← hW]
          clear hW g0 g1 g2 g3
          go_upto_region 9 with (refine HPP.out.mono ?_; rintro e w2 ⟨rfl, hb2⟩)
          have hB2 := Below.next hBW hb2
          have t0 := cell_later hb2 t0
          have t1 := cell_later hb2 t1
          have t2 := cell_later hb2 t2
          have t3 := cell_later hb2 t3
          have HO4 := Lib.hid (Own.keep HO3.out hB2)
          have HK4 := Lib.hid (HK.out.next hB2)
          have n2 := cell_later hB2 n1
          clear hb2 n1
          have HSET := Lib.hid (own_row (R := psR) HO4.out a (by rw [HM.out]; omega) y)
          have HKS := Lib.hid (HK4.out.setCells (g := q) (.inl rfl) (a * 4) (Ps.vs y))
          have n3 : (w2.setCells q (a * 4) (Ps.vs y)).cell? ⟨b, 0, none⟩ = some (.int .i64 n) := by
            have : Kx (fun k => k = q) w2 (w2.setCells q (a * 4) (Ps.vs y)) := (Kx.refl (fun k => k = q) w2).setCells (.inl rfl) _ _
            exact this.cell (Ne.symm hqb) n2
          go_wp2_with (with_reducible refine wpList_store_ps rfl (.tmp 33) (.tmp 32) rfl q (a * 4) y rfl rfl (OwP.there HO4.out HM.out a (by omega)) ?_)
          go_roundw
          case rel => exact ⟨a + 1, m + 1, M.set a y, by omega, by omega, by go_num, by go_num, HKS.out, n3, HSET.out, by rw [List.length_set]; exact HM.out, by
            rw [set_take y (by rw [HM.out]; omega), HTA.out, take_snoc (by rw [HN.out]; exact hlt), List.filter_append, HY.out]
            simp [HS.out], by rw [set_drop y (by omega), ← List.drop_drop, HDR.out, List.drop_drop]⟩
          case measure => simp [intOf]; omega
        · rw [hs] at hP
          have HPP := Lib.hid hP
          have HS := Lib.hid hs
          clear hP hs bT
          go_upto_region 8 with fail
          rw [← hW]
          clear hW g0 g1 g2 g3
          go_wp2_with fail
          refine HPP.out.mono ?_
          rintro e w2 ⟨rfl, hb2⟩
          have hB2 := Below.next hBW hb2
          have HO4 := Lib.hid (Own.keep HO3.out hB2)
          have HK4 := Lib.hid (HK.out.next hB2)
          have n2 := cell_later hB2 n1
          clear hb2 n1 t0 t1 t2 t3
          go_wp2_with fail
          go_roundw
          case rel => exact ⟨a, m + 1, M, by omega, by omega, rfl, by go_num, HK4.out, n2, HO4.out, HM.out, by
            rw [HTA.out, take_snoc (by rw [HN.out]; exact hlt), List.filter_append, HY.out]
            simp [HS.out], by rw [← List.drop_drop, HDR.out, List.drop_drop]⟩
          case measure => simp [intOf]; omega
      · obtain rfl : m = N := by omega
        have d2 : decide ((m : Int) < (m : Int)) = false := nb (by omega)
        obtain ⟨W2, hcl, ho2, hkx, hsz⟩ := cut_clear HO3.out HM.out ham
        have htl : M.take a = l.filter (fun f => !dlP n f) := by rw [HTA.out, List.take_of_length_le (by rw [HN.out]; omega)]
        have hla : (l.filter (fun f => !dlP n f)).length = a := by rw [← htl, List.length_take, HM.out]; omega
        have HR : Hid (InsP w base (.slice (some ⟨q, 0, none⟩) m c0) (l.filter (fun f => !dlP n f)) (.returned (.slice (some ⟨q, 0, none⟩) a c0)) W2) := Lib.hid (by
          refine ⟨some ⟨q, 0, none⟩, c0, by rw [hla], ?_, hkx _ _ HK.out (.inl rfl), fun k hk => .inl hk⟩
          unfold OwP
          rw [hla, ← htl]
          exact ho2)
        have hb1 : ¬ (c0 = a) := by omega
        have hb2 : (a : Int) ≤ (m : Int) := by omega
        have hb3 : (0 : Int) ≤ (a : Int) := by omega
        have hb4 : (a : Int) ≤ (c0 : Int) := by omega
        have z : ∀ w, (Go.sizeOf 47).run Try.prog w = .ok 4 w := fun w => by kernel_rfl
        clear ho2 hkx htl hla n1
        go_wp2_with fail
        go_ret
        exact HR.out
end Go.Proofs.Ytnkpjfogjkjcfaa
