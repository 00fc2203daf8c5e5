

/- Links: one frame laid into a list of one's own (twin). -/
import Derived.Test.YtimkeafpefkheaaDoorH
namespace Go.Proofs.YtimkeafpefkheaaDoor
open Go.RowKit
set_option linter.unusedSimpArgs false
set_option linter.unusedVariables false
set_option maxRecDepth 100000

/-- the list with a frame laid in ahead of the i-th -/
def insV (l : List Fr) (i : Nat) (s : Fr) : List Fr := l.take i ++ s :: l.drop i
theorem insV_len (l : List Fr) {i : Nat} (h : i ≤ l.length) (s : Fr) : (insV l i s).length = l.length + 1 := by
  unfold insV; rw [List.length_append, List.length_take, List.length_cons, List.length_drop]; omega
theorem tcs_ins (l : List Fr) (i : Nat) (s : Fr) : tcs (insV l i s) = (tcs l).take i ++ .string s :: (tcs l).drop i := by
  unfold tcs insV; simp [List.map_take, List.map_drop]
theorem rdT_ins {w : World} {b c i : Nat} {l : List Fr} {s : Fr} (hi : i ≤ l.length) (h1 : w.rangeAt b 0 ((tcs l).take i)) (h2 : w.rangeAt b i [.string s]) (h3 : w.rangeAt b (i + 1) ((tcs l).drop i)) (hc : l.length + 1 ≤ c) (hm : l.length + 1 ≤ maxLen) :
    RdT w (.slice (some ⟨b, 0, none⟩) (l.length + 1) c) (insV l i s) := by
  unfold RdT
  rw [insV_len l hi s]
  refine ⟨by simp [insV_len l hi s], hm, .inr ⟨b, 0, c, rfl, hc, fun j u hj => ?_⟩⟩
  rw [tcs_ins] at hj
  have hti : ((tcs l).take i).length = i := by simp; omega
  by_cases hji : j < i
  · rw [List.getElem?_append_left (by rw [hti]; exact hji)] at hj
    exact h1 j u hj
  · rw [List.getElem?_append_right (by rw [hti]; omega), hti] at hj
    by_cases hje : j = i
    · subst hje
      rw [Nat.sub_self] at hj
      have := h2 0 u hj
      rw [Nat.zero_add]
      exact this
    · obtain ⟨m, rfl⟩ : ∃ m, j = i + 1 + m := ⟨j - (i + 1), by omega⟩
      rw [show i + 1 + m - i = m + 1 by omega, List.getElem?_cons_succ] at hj
      have := h3 m u hj
      rw [Nat.zero_add]
      exact this
theorem below_setCells' {n b : Nat} {w : World} (hn : n ≤ b) : ∀ (us : List Value) (o : Nat) (W : World), Below n w W → Below n w (W.setCells b o us)
  | [], _, _, h => h
  | u :: us, o, W, h => below_setCells' hn us (o + 1) _ (h.setCell (p := ⟨b, o, none⟩) hn u)
theorem there_drew {w : World} {b o n : Nat} (h : w.there b o n) : w.drew.there b o n := h
theorem rangeAt_drew {w : World} {b o : Nat} {cs : List Value} (h : w.rangeAt b o cs) : w.drew.rangeAt b o cs := h
theorem there_part {w : World} {b n o k : Nat} (h : w.there b 0 n) (hk : o + k ≤ n) : w.there b o k := fun j hj => by
  have := h (o + j) (by omega)
  rw [Nat.zero_add] at this
  exact this
theorem range_one {w : World} {b o : Nat} {u : Value} (h : w.cell? ⟨b, o, none⟩ = some u) : w.rangeAt b o [u] := fun j v hj => by
  cases j with
  | zero => simp at hj; subst hj; exact h
  | succ j => simp at hj
theorem ins_own (g c base : Nat) (l : List Fr) (i : Nat) (s : Fr) (hi : i < l.length) (hl : l.length ≤ 64) (vb vc : Nat) (T : TypeId) (w : World) (h : w.ownsRow base 9 1 (.slice (some ⟨g, 0, none⟩) l.length c) l.length (tcs l))
    (hv : w.heap[vb]? = some (.cells #[.string s] T (0, 0))) (hne : vb ≠ g) (hb : base ≤ w.heap.size) :
    Calls Tryd.prog 63 #[.slice (some ⟨g, 0, none⟩) l.length c, .int .i64 (i : Int), .slice (some ⟨vb, 0, none⟩) 1 vc] w fun x w' => ∃ v, x = .returned v ∧ RdT w' v (insV l i s) ∧ Below base w w' ∧ ∀ b o u, b < w.heap.size → b ≠ g → w.cell? ⟨b, o, none⟩ = some u → w'.cell? ⟨b, o, none⟩ = some u := by
  have h' := h
  obtain ⟨hlen, ⟨hv', _⟩ | ⟨g', cap, cur, hv', hg, hh, hc, hm, hs, ht⟩⟩ := h'
  · cases hv'
  · simp only [Value.slice.injEq, Option.some.injEq, Addr.mk.injEq, and_true, true_and] at hv'
    obtain ⟨rfl, rfl⟩ := hv'
    have hmx := hm
    unfold maxLen at hmx
    have hcs : ∀ j v, (tcs l)[j]? = some v → w.cell? ⟨g, 0 + j, none⟩ = some v := fun j v hj => by
      have hj' : j < l.length := by have := (List.getElem?_eq_some_iff.1 hj).1; simpa using this
      rw [Nat.zero_add, h.cellAt j (by omega), hj]
    have hvs : ∀ j v, [Value.string s][j]? = some v → w.cell? ⟨vb, 0 + j, none⟩ = some v := fun j v hj => by
      cases j with
      | zero => simp [World.cell?, hv]; simpa using hj
      | succ j => simp at hj
    have h1v : ∀ v ∈ [Value.string s], v.oneCell' = true := by intro v hv; simp at hv; subst hv; rfl
    by_cases hroom : l.length + 1 ≤ c
    · have hin := Any2.slices_Insert_string_shift Tryd.laysNm222 g 0 l.length c i vb 0 1 vc (tcs l) [.string s] w hi (by omega) hroom (by omega) hne (by simp) rfl hcs
        (fun j hj => by simp [World.cell?, hh]; omega)
        (fun j hj => by simp [World.frozen?, hh]) hvs (tcs_one l) h1v T 9 1 cur.size (by simp [World.shape?, hv]) (by simp [World.shape?, hh]) (by omega) (by simp [World.frozen?, hv]) (by simp [World.frozen?, hv])
      refine Calls.mono hin ?_
      rintro x w' ⟨rfl, rfl⟩
      refine ⟨_, rfl, ?_, ?_, fun b o u _ hbg hu => ?_⟩
      · simp only [Nat.zero_add]
        have hth : w.there g 0 (l.length + 1) := fun j hj => ⟨by simp [World.cell?, hh]; omega, by simp [World.frozen?, hh]⟩
        have hT : w.rangeAt g 0 ((tcs l).take i) := fun j v hj => hcs j v (by
          rw [List.getElem?_take] at hj
          split at hj
          · exact hj
          · cases hj)
        have hti : ((tcs l).take i).length = i := by simp; omega
        have hdi : ((tcs l).drop i).length = l.length - i := by simp
        have hth2 := World.there_setCells (there_drew hth) g (i + 1) ((tcs l).drop i)
        refine rdT_ins (by omega) ?_ ?_ ?_ hroom (by unfold maxLen; omega)
        · exact World.rangeAt_setCells_apart (World.rangeAt_setCells_apart (rangeAt_drew hT) _ _ _ (.inr (.inl (by rw [hti]; omega)))) _ _ _ (.inr (.inl (by rw [hti]; omega)))
        · exact World.rangeAt_setCells_same _ _ _ _ (there_part hth2 (by show i + 1 ≤ l.length + 1; omega))
        · exact World.rangeAt_setCells_apart (World.rangeAt_setCells_same _ _ _ _ (there_part (there_drew hth) (by rw [hdi]; omega))) _ _ _ (.inr (.inr (by show i + 1 ≤ i + 1; omega)))
      · exact below_setCells' hg _ _ _ (below_setCells' hg _ _ _ (Below.refl _ _).drew)
      · exact (World.rangeAt_setCells_apart (World.rangeAt_setCells_apart (rangeAt_drew (range_one hu)) _ _ _ (.inl hbg)) _ _ _ (.inl hbg)) 0 u rfl
    · have hin := Any2.slices_Insert_string_grow Tryd.laysNm222 g 0 l.length c i vb 0 1 vc (tcs l) [.string s] w hi (by omega) hc (by omega) (by omega) (by simp) rfl hcs hvs (tcs_one l) h1v
      refine Calls.mono hin ?_
      rintro x w' ⟨rfl, rfl⟩
      obtain ⟨cap, hcap⟩ : ∃ cap, grownCap w (l.length + 1) c (Tryd.laysNm222_ren.t 9) = cap := ⟨_, rfl⟩
      have hgc : l.length + 1 ≤ cap := by rw [← hcap]; exact grownCap_ge _ _ _ _
      rw [hcap]
      refine ⟨_, rfl, ?_, ?_, fun b o u hlt _ hu => ?_⟩
      · obtain ⟨C, hC⟩ : ∃ C : Array Value, C = ((tcs l).take i).toArray ++ Builtin.zeroCells (Value.string ⟨#[]⟩).cells (l.length + 1 - i) ++ Builtin.zeroCells (Value.string ⟨#[]⟩).cells (cap - (l.length + 1)) := ⟨_, rfl⟩
        rw [← hC]
        have hti : ((tcs l).take i).length = i := by simp; omega
        have hdi : ((tcs l).drop i).length = l.length - i := by simp
        have hsz : l.length + 1 ≤ C.size := by
          rw [hC, Array.size_append, Array.size_append, size_zeroCells, List.size_toArray, hti, show (Value.string ⟨#[]⟩).cells.size = 1 from rfl]
          omega
        obtain ⟨X, hX⟩ : ∃ X : World, X = w.alloc (.cells C (Tryd.laysNm222_ren.t 9)) := ⟨_, rfl⟩
        have hXh : X.heap[w.heap.size]? = some (.cells C (Tryd.laysNm222_ren.t 9)) := by rw [hX]; exact World.alloc_heap_new w _
        rw [← hX]
        have hth : X.there w.heap.size 0 (l.length + 1) := fun j hj => ⟨by simp [World.cell?, hXh]; omega, by simp [World.frozen?, hXh]⟩
        have hT : X.rangeAt w.heap.size 0 ((tcs l).take i) := fun j v hj => by
          have hji : j < i := by have := (List.getElem?_eq_some_iff.1 hj).1; omega
          simp only [World.cell?, hXh, Nat.zero_add]
          rw [hC, Array.append_assoc, Array.getElem?_append_left (by rw [List.size_toArray, hti]; exact hji)]
          simpa using hj
        have hth2 := World.there_setCells (there_drew hth) w.heap.size i [Value.string s]
        refine rdT_ins (by omega) ?_ ?_ ?_ hgc (by unfold maxLen; omega)
        · exact World.rangeAt_setCells_apart (rangeAt_drew (World.rangeAt_setCells_apart (rangeAt_drew hT) _ _ _ (.inr (.inl (by rw [hti]; omega))))) _ _ _ (.inr (.inl (by rw [hti]; omega)))
        · exact World.rangeAt_setCells_apart (rangeAt_drew (World.rangeAt_setCells_same _ _ _ _ (there_part (there_drew hth) (by show i + 1 ≤ l.length + 1; omega)))) _ _ _ (.inr (.inl (by show i + 1 ≤ i + 1; omega)))
        · exact World.rangeAt_setCells_same _ _ _ _ (there_part (there_drew hth2) (by rw [hdi]; omega))
      · exact below_setCells' hb _ _ _ (below_setCells' hb _ _ _ ((Below.refl _ _).alloc hb _).drew).drew
      · exact (World.rangeAt_setCells_apart (rangeAt_drew (World.rangeAt_setCells_apart (rangeAt_drew (range_one (cell_al _ hu))) _ _ _ (.inl (by omega)))) _ _ _ (.inl (by omega))) 0 u rfl
set_option maxHeartbeats 1000000 in
theorem mk2_own (a : Option Addr) (c base : Nat) (l : List Fr) (t : Tr) (k : Nat) (hk : k < l.length) (hl : l.length ≤ 64) (w : World) (h : w.ownsRow base 9 1 (.slice a l.length c) l.length (tcs l)) (hbw : base ≤ w.heap.size) :
    Calls Tryd.prog 62 #[.slice a l.length c, .agg #[.int .i64 t.k, .int .i64 (k : Int), .int .i64 t.j, .int .i64 t.b]] w (MkR base w (insV l k (l.getD k e0))) := by
  obtain ⟨N, hN⟩ : ∃ N, l.length = N := ⟨_, rfl⟩
  have HN := Lib.hid hN
  have HOWN := Lib.hid h
  rw [hN] at HOWN hk hl ⊢
  have hmx := hl
  have i1 : (0 : Int) ≤ (k : Int) := by omega
  have i2 : (k : Int) < (N : Int) := by omega
  have hwk : IntKind.i64.wrap (k : Int) = (k : Int) := IntWalk.i64_in _ (by omega)
  obtain ⟨W, hW⟩ : ∃ W : World, W = w.alloc (.cells #[.int .i64 t.k, .int .i64 (k : Int), .int .i64 t.j, .int .i64 t.b] 36) := ⟨_, rfl⟩
  have hB : Below w.heap.size w W := by rw [hW]; exact (by repeat (first | assumption | exact Below.refl _ _ | apply Below.al | apply below_drewN | apply Below.drew | refine Below.next ?_ (by assumption)))
  have b0 : BoxN W w.heap.size 36 #[.int .i64 t.k, .int .i64 (k : Int), .int .i64 t.j, .int .i64 t.b] := by rw [hW]; exact BoxN.new w _ _
  have t1 : W.cell? ⟨w.heap.size, 1, none⟩ = some (.int .i64 (k : Int)) := b0.cell 1
  have t2 : W.cell? ⟨w.heap.size, 2, none⟩ = some (.int .i64 t.j) := b0.cell 2
  have t3 : W.cell? ⟨w.heap.size, 3, none⟩ = some (.int .i64 t.b) := b0.cell 3
  have HO2 := Lib.hid (own_below HOWN.out hB)
  have hB0 : Below base w W := hB.mono hbw
  clear h hN b0
  obtain ⟨g, rfl, hg0, hg1⟩ := own_addr HO2.out (by omega)
  obtain ⟨s, hs⟩ : ∃ s, l.getD k e0 = s := ⟨_, rfl⟩
  have c1 : W.cell? ⟨g, k, none⟩ = some (.string s) := by rw [HO2.out.cellAt k (by omega), tcs_get l k (by rw [HN.out]; exact hk), hs]
  have f1 : W.frozen? ⟨g, k, none⟩ = false := HO2.out.frozenAt k
  rw [hs]
  clear hs
  go_enter Tryd.func62, Tryd.ntmps62
  go_upto_region 1 with fail
  rw [← hW]
  clear hW
  have hg2 : g < w.heap.size := by
    obtain ⟨g', hg', _, hg3⟩ := own_addr HOWN.out (by omega)
    simp only [Option.some.injEq, Addr.mk.injEq, and_true] at hg'
    omega
  refine wp_region_noPanic ?_
  refine wp_region_held_drew (S := (fun w' => w'.cell? ⟨w.heap.size, 1, none⟩ = some (.int .i64 (k : Int)))) (by kernel_rfl) t1 (fun hHeld => ?_)
  refine reg_tk (v := ?_) 0 5 rfl rfl (by kernel_rfl) (by kernel_rfl) (by kernel_rfl) (fun _ _ _ h => h) (by rfl) ?_ (by assumption) ?_
  rotate_left
  · (intro w hSw; (try dsimp only at hSw); go_simp; (try with_reducible rfl))
  simp only [List.setIfInBounds_toArray, List.set_cons_zero, List.set_cons_succ]
  refine reg_tk (v := ?_) 1 6 rfl rfl (by kernel_rfl) (by kernel_rfl) (by kernel_rfl) (fun _ _ _ h => h) (by rfl) ?_ (by assumption) ?_
  rotate_left
  · (intro w hSw; (try dsimp only at hSw); go_simp; (try with_reducible rfl))
  simp only [List.setIfInBounds_toArray, List.set_cons_zero, List.set_cons_succ]
  refine reg_tk (v := .int .i64 (k : Int)) 2 7 rfl rfl (by kernel_rfl) (by kernel_rfl) (by kernel_rfl) (fun _ _ _ h => h) (by rfl) (fun w3 hS => by have g := hS; go_simp) (by assumption) ?_
  simp only [List.setIfInBounds_toArray, List.set_cons_zero, List.set_cons_succ]
  refine reg_tk (v := ?_) 3 8 rfl rfl (by kernel_rfl) (by kernel_rfl) (by kernel_rfl) (fun _ _ _ h => h) (by rfl) ?_ (by assumption) ?_
  rotate_left
  · (intro w hSw; (try dsimp only at hSw); go_simp; (try with_reducible rfl))
  simp only [List.setIfInBounds_toArray, List.set_cons_zero, List.set_cons_succ]
  refine reg_tk (v := ?_) 4 9 rfl rfl (by kernel_rfl) (by kernel_rfl) (by kernel_rfl) (fun _ _ _ h => h) (by rfl) ?_ (by assumption) ?_
  rotate_left
  · (intro w hSw; (try dsimp only at hSw); go_simp; (try with_reducible rfl))
  simp only [List.setIfInBounds_toArray, List.set_cons_zero, List.set_cons_succ]
  refine reg_tk (v := .int .i64 (k : Int)) 5 10 rfl rfl (by kernel_rfl) (by kernel_rfl) (by kernel_rfl) (fun _ _ _ h => h) (by rfl) (fun w3 hS => by have g := hS; go_simp) (by assumption) ?_
  simp only [List.setIfInBounds_toArray, List.set_cons_zero, List.set_cons_succ]
  refine reg_tk (v := ?_) 6 11 rfl rfl (by kernel_rfl) (by kernel_rfl) (by kernel_rfl) (fun _ _ _ h => h) (by rfl) ?_ (by assumption) ?_
  rotate_left
  · (intro w hSw; (try dsimp only at hSw); go_simp; (try with_reducible rfl))
  simp only [List.setIfInBounds_toArray, List.set_cons_zero, List.set_cons_succ]
  obtain ⟨Wd, hWd⟩ : ∃ Wd : World, Wd = W.drew := ⟨_, rfl⟩
  rw [← hWd] at hHeld ⊢
  have hBd : Below W.heap.size W Wd := by rw [hWd]; exact (Below.refl _ W).drew
  have hzd : Wd.heap.size = W.heap.size := by rw [hWd]; rfl
  have c1 := cell_later hBd c1
  have HO3 := Lib.hid (own_below HO2.out hBd)
  have hB3 : Below base w Wd := hB0.trans (hBd.mono (by have := hB.size; omega))
  have HZ := Lib.hid hzd
  clear hWd hzd
  refine wpAnyH_ready (rs := [7]) (by kernel_rfl) (by simp) ?_
  refine AllReadyH.cons rfl (fun K hK => ?_) AllReadyH.nil
  go_simp
  refine hK.out _ _ hHeld (fun hHeld2 => ?_)
  clear hK K hHeld
  have hHeld := hHeld2
  clear hHeld2
  try simp only [Act.put, List.setIfInBounds_toArray, List.set_cons_zero, List.set_cons_succ]
  refine wpAnyH_ready (rs := [8]) (by kernel_rfl) (by simp) ?_
  refine AllReadyH.cons rfl (fun K hK => ?_) AllReadyH.nil
  go_simp
  obtain ⟨X1, hX1⟩ : ∃ X1 : World, X1 = Wd.alloc (.cells #[.string s] 9) := ⟨_, rfl⟩
  have hXh : X1.heap[Wd.heap.size]? = some (.cells #[.string s] 9) := by rw [hX1]; exact World.alloc_heap_new Wd _
  have hBX : Below Wd.heap.size Wd X1 := by rw [hX1]; exact Below.al (Below.refl _ _) _
  rw [← hX1]
  clear hX1
  have tX := cell_later hBX hHeld
  have HO4 := Lib.hid (own_below HO3.out hBX)
  have hszw := hB.size
  have hszd := HZ.out
  have hszx := hBX.size
  have hB4 : Below base w X1 := hB3.trans (hBX.mono (by omega))
  obtain ⟨vb, hvb⟩ : ∃ vb, Wd.heap.size = vb := ⟨_, rfl⟩
  rw [hvb] at hXh ⊢
  have hne : vb ≠ g := by omega
  have hwx : w.heap.size < X1.heap.size := cell_lt tX
  have hbx : base ≤ X1.heap.size := by omega
  clear hszw hszd hszx hvb
  refine hK.out _ _ tX (fun hHeld2 => ?_)
  clear hK K hHeld
  have hHeld := hHeld2
  clear hHeld2
  try simp only [Act.put, List.setIfInBounds_toArray, List.set_cons_zero, List.set_cons_succ]
  refine wpAnyH_ready (rs := [9]) (by kernel_rfl) (by simp) ?_
  refine AllReadyH.cons rfl (fun K hK => ?_) AllReadyH.nil
  go_simp
  have hin := ins_own g c base l k s (by rw [HN.out]; exact hk) (by rw [HN.out]; exact hl) vb 1 9 X1 (by rw [HN.out]; exact HO4.out) hXh hne hbx
  rw [HN.out] at hin
  refine hin.mono ?_
  rintro x w2 ⟨v, rfl, hrd, hb2, hkp⟩
  have tY := hkp _ _ _ hwx (by omega) tX
  have HRD := Lib.hid hrd
  clear hrd hkp
  refine hK.out _ _ tY (fun hHeld2 => ?_)
  clear hK K hHeld
  have hHeld := hHeld2
  clear hHeld2
  try simp only [Act.put, List.setIfInBounds_toArray, List.set_cons_zero, List.set_cons_succ]
  refine reg_tk (v := ?_) 10 4 rfl rfl (by kernel_rfl) (by kernel_rfl) (by kernel_rfl) (fun _ _ _ h => h) (by rfl) ?_ (by assumption) ?_
  rotate_left
  · (intro w hSw; (try dsimp only at hSw); go_simp; (try with_reducible rfl))
  simp only [List.setIfInBounds_toArray, List.set_cons_zero, List.set_cons_succ]
  refine wpAnyH_done (by kernel_rfl) ?_ _
  refine NoPanic.normal ?_
  clear hHeld
  go_wp2_with fail
  go_ret
  exact ⟨_, rfl, HRD.out, hB4.trans hb2⟩
end Go.Proofs.YtimkeafpefkheaaDoor
