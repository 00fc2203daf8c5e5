


/- Custody: slices.Insert of one tag into a row of one's own; slices.BinarySearchFunc; put. -/
import Derived.Test.YtnkpjfogjkjcfaaC
import Derived.Test.YtnkpjfogjkjcfaaRN
import Derived.Test.YtnkpjfogjkjcfaaSY
import Derived.Deep.AppendLies
import Derived.Shelf.RegionOpenPlain
namespace Go.Proofs.Ytnkpjfogjkjcfaa
open Go.RowKit
set_option linter.unusedSimpArgs false
set_option linter.unusedVariables false
set_option maxRecDepth 100000

theorem ETg : ElemOk Try.prog 43 80 (.agg #[.int .i64 0, .int .i64 0]) 2 16 := ⟨Try.underlying43, by kernel_rfl, rfl, by decide⟩
/-- v is a row of tags of one's own -/
abbrev OwG (w : World) (base : Nat) (v : Value) (l : List Tg) : Prop := w.ownsRow base 80 2 v l.length (rcs tgR l)
/-- a call has left the tags l in the row v, or in new memory -/
def InsR (w : World) (base : Nat) (v : Value) (l : List Tg) (e : Ending) (w' : World) : Prop :=
  ∃ a c, e = .returned (.slice a l.length c) ∧ OwG w' base (.slice a l.length c) l ∧ Kx (fun k => v.ownBlock = some k) w w' ∧ ∀ k, (Value.slice a l.length c).ownBlock = some k → v.ownBlock = some k ∨ w.heap.size ≤ k
theorem kx_grown {w w' : World} {v : Value} (hg : w.grownBy w' v.ownBlock) : Kx (fun k => v.ownBlock = some k) w w' :=
  (Kx.refl _ w).grown hg fun k hk => .inl hk
set_option maxHeartbeats 4000000 in
theorem insert_end (w : World) (base : Nat) (v : Value) (l : List Tg) (t : Tg) (vb : Nat) (hl : l.length ≤ 1000000) (hbase : base ≤ w.heap.size) (hown : OwG w base v l) (hb : BoxN w vb 80 #[.int .i64 t.nd, .int .i64 t.of]) :
    Calls Try.prog 86 #[v, .int .i64 (l.length : Int), .slice (some ⟨vb, 0, none⟩) 1 1] w (InsR w base v (l ++ [t])) := by
  obtain ⟨a, c, rfl⟩ := owns_form hown
  have hrd : RdS w 2 (.slice (some ⟨vb, 0, none⟩) 1 1) 1 (rcs tgR [t]) := ⟨rfl, by unfold maxLen; omega, .inr ⟨vb, 0, 1, rfl, Nat.le_refl _, fun j u hj => by
    rw [Nat.zero_add, hb.cell j]
    have : rcs tgR [t] = [.int .i64 t.nd, .int .i64 t.of] := rfl
    rw [this] at hj
    simpa using hj⟩⟩
  have hcap : l.length ≤ c := by
    rcases hown.2 with ⟨h1, h2⟩ | ⟨g, cap, cur, h1, _, _, h3, _⟩
    · simp only [Value.slice.injEq] at h1; omega
    · simp only [Value.slice.injEq] at h1; omega
  obtain ⟨N, hN⟩ : ∃ N, l.length = N := ⟨_, rfl⟩
  unfold OwG at hown
  unfold InsR OwG
  have hrc : rcs tgR (l ++ [t]) = rcs tgR l ++ rcs tgR [t] := rcs_append tgR _ _
  have hln : (l ++ [t]).length = N + 1 := by simp [hN]
  rw [hN] at hown hl hcap ⊢
  rw [hrc, hln]
  have HO := Lib.hid hown
  have HRD := Lib.hid hrd
  have hz1 : ¬ ((1 : Int) = 0) := by omega
  clear hb hown hrd hN hrc hln
  rcases (Classical.em (c = N)) with hcn | hcn
  · obtain rfl : N = c := hcn.symm
    go_enter Try.func86, Try.ntmps86
    go_wp2_with (at_builtin; refine wpList_app_at rfl (.tmp 23) (.tmp 24) 43 rfl base 80 _ 2 16 ETg _ N (rcs tgR l) rfl HO.out _ 1 (rcs tgR [t]) (by decide) rfl HRD.out (rcs_one _ _) (by unfold maxLen; omega) (by omega) hbase ?_)
    
    · intro a' c' w' h1 h2 h3
      have h1 := Lib.hid h1
      have h2 := Lib.hid (kx_grown h2)
      have h3 := Lib.hid h3
      go_wp2
      go_ret
      exact ⟨a', c', rfl, h1.out, h2.out, h3.out⟩
  · go_enter Try.func86, Try.ntmps86
    go_wp2_with (at_builtin; refine wpList_app_at rfl (.tmp 23) (.tmp 24) 43 rfl base 80 _ 2 16 ETg _ N (rcs tgR l) rfl HO.out _ 1 (rcs tgR [t]) (by decide) rfl HRD.out (rcs_one _ _) (by unfold maxLen; omega) (by omega) hbase ?_)
    
    · intro a' c' w' h1 h2 h3
      have h1 := Lib.hid h1
      have h2 := Lib.hid (kx_grown h2)
      have h3 := Lib.hid h3
      go_wp2
      go_ret
      exact ⟨a', c', rfl, h1.out, h2.out, h3.out⟩
set_option maxHeartbeats 8000000 in
theorem insert_shift (w : World) (base g c : Nat) (l : List Tg) (i : Nat) (t : Tg) (vb : Nat) (hi : i < l.length) (hroom : l.length + 1 ≤ c) (hl : l.length ≤ 1000000) (hbase : base ≤ w.heap.size) (hown : OwG w base (.slice (some ⟨g, 0, none⟩) l.length c) l) (hb : BoxN w vb 80 #[.int .i64 t.nd, .int .i64 t.of]) (hvb : vb ≠ g) :
    Calls Try.prog 86 #[.slice (some ⟨g, 0, none⟩) l.length c, .int .i64 (i : Int), .slice (some ⟨vb, 0, none⟩) 1 1] w (InsR w base (.slice (some ⟨g, 0, none⟩) l.length c) (l.take i ++ t :: l.drop i)) := by
  obtain ⟨hlen, ⟨h1, _⟩ | ⟨g', c', cur, h1, hgb, hg, hnc, hcm, hcs, htk⟩⟩ := hown
  · cases h1
  simp only [Value.slice.injEq, Option.some.injEq, Addr.mk.injEq, and_true, true_and] at h1
  obtain ⟨rfl, rfl⟩ := h1
  have hcells : ∀ j u, (rcs tgR l)[j]? = some u → w.cell? ⟨g, j, none⟩ = some u := fun j u hj => by
    rw [← htk, List.getElem?_take] at hj
    split at hj
    · unfold World.cell?
      simp only [hg]
      simpa using hj
    · cases hj
  obtain ⟨N, hN⟩ : ∃ N, l.length = N := ⟨_, rfl⟩
  have hrl := rcs_length tgR l
  have hR : tgR.size = 2 := rfl
  rw [hN, hR] at hrl
  have hdl : ((rcs tgR l).drop (i * 2)).length = (N - i) * 2 := by rw [List.length_drop, hrl]; omega
  obtain ⟨c1, hc1⟩ : ∃ c1, c1 = cur.toList.take ((i + 1) * 2) ++ (rcs tgR l).drop (i * 2) ++ cur.toList.drop ((i + 1) * 2 + ((rcs tgR l).drop (i * 2)).length) := ⟨_, rfl⟩
  obtain ⟨c2, hc2⟩ : ∃ c2, c2 = c1.take (i * 2) ++ tgR.cells t ++ c1.drop (i * 2 + (tgR.cells t).length) := ⟨_, rfl⟩
  have hcl : cur.toList.length = c * 2 := by simpa using hcs
  obtain ⟨r1, r2, r3⟩ := ins_cells tgR l t i cur.toList hi (by rw [hcl, hR]; omega) (by rw [hR]; exact htk) c1 c2 hc1 hc2
  rw [hR, hN] at r2
  rw [hN] at hi hroom hl ⊢
  have hsz : (Try.prog.info? 80).map (·.size) = some 2 := by kernel_rfl
  have z : ∀ w, (Go.sizeOf 80).run Try.prog w = .ok 2 w := fun w => by kernel_rfl
  have hsa : w.shape? vb = some (80, 2) := by unfold World.shape?; rw [show w.heap[vb]? = _ from hb]; rfl
  have hsb : w.shape? g = some (80, cur.size) := by unfold World.shape?; rw [hg]
  have hov : ∀ lb cb, (callFunc 88 #[.slice (some ⟨vb, 0, none⟩) 1 1, .slice (some ⟨g, (i + 1) * 2, none⟩) lb cb]).run Try.prog w = .ok (.value (.bool false)) w := fun lb cb => by
    rw [run_callFunc_extern Try.func88 (by kernel_rfl) (by kernel_rfl) (by kernel_rfl) (e := Extern.SlicesOverlaps.overlaps #[43, 43] #[4]) (by kernel_rfl),
      Lib.run_overlaps_apart w 43 4 80 Try.underlying43 2 z ⟨vb, 0, none⟩ ⟨g, (i + 1) * 2, none⟩ 1 1 lb cb hvb 80 80 2 cur.size hsa hsb (by omega) (hb.frozen _) (hb.frozen _)]
    rfl
  have hcp1 : ∀ ty dc sc, (Builtin.copy_ #[43, 43] ty #[.slice (some ⟨g, (i + 1) * 2, none⟩) (N - i) dc, .slice (some ⟨g, i * 2, none⟩) (N + 1 - i) sc]).run Try.prog w.drew = .ok (goInt ((N - i : Nat) : Int)) (w.drew.setRow g c1.toArray) := fun ty dc sc => by
    have hmin : Nat.min (N + 1 - i) (N - i) = N - i := by simp only [Nat.min_def]; split <;> omega
    rw [run_copy_rowS w.drew _ _ ty 80 2 g ((i + 1) * 2) (N - i) dc ⟨g, i * 2, none⟩ (N + 1 - i) sc cur 80 ((rcs tgR l).drop (i * 2)) Try.underlying43 hsz hg (by rw [hdl, hmin])
      (fun j u hj => by rw [Addr.add_lit]; exact hcells _ u (by rw [List.getElem?_drop] at hj; exact hj)) (by rw [hdl, hcs]; omega) (fun u hu => rcs_one tgR l u (List.mem_of_mem_drop hu)), hmin, ← hc1]
  obtain ⟨W1, hW1⟩ : ∃ W1, W1 = w.drew.setRow g c1.toArray := ⟨_, rfl⟩
  have hg1 : W1.heap[g]? = some (.cells c1.toArray 80 (0, 0)) := by rw [hW1]; exact setRow_heap w.drew g cur _ 80 (0, 0) hg
  have hb1 : BoxN W1 vb 80 #[.int .i64 t.nd, .int .i64 t.of] := by
    unfold BoxN
    rw [hW1, setRow_other _ _ _ _ hvb]
    exact hb
  have hcp2 : ∀ ty dc, (Builtin.copy_ #[43, 43] ty #[.slice (some ⟨g, i * 2, none⟩) (N + 1 - i) dc, .slice (some ⟨vb, 0, none⟩) 1 1]).run Try.prog W1 = .ok (goInt ((1 : Nat) : Int)) (W1.setRow g c2.toArray) := fun ty dc => by
    have hmin : Nat.min 1 (N + 1 - i) = 1 := by simp only [Nat.min_def]; split <;> omega
    rw [run_copy_rowS W1 _ _ ty 80 2 g (i * 2) (N + 1 - i) dc ⟨vb, 0, none⟩ 1 1 c1.toArray 80 (tgR.cells t) Try.underlying43 hsz hg1 (by rw [hmin]; rfl)
      (fun j u hj => by
        rw [Addr.add_lit, Nat.zero_add, hb1.cell j]
        have : tgR.cells t = [.int .i64 t.nd, .int .i64 t.of] := rfl
        rw [this] at hj
        simpa using hj) (by rw [tgR.len t, hR]; simp only [List.size_toArray]; omega) (tgR.one t), hmin]
    simp only [List.toList_toArray]
    rw [← hc2]
  have hpost : ∀ W2, W2 = W1.setRow g c2.toArray → InsR w base (.slice (some ⟨g, 0, none⟩) N c) (l.take i ++ t :: l.drop i) (.returned (.slice (some ⟨g, 0, none⟩) (N + 1) c)) W2 := fun W2 hW2 => by
    have hll : (l.take i ++ t :: l.drop i).length = N + 1 := by simp only [List.length_append, List.length_cons, List.length_take, List.length_drop]; omega
    unfold InsR OwG
    rw [hll]
    refine ⟨_, _, rfl, ⟨by rw [rcs_length, hll, hR], .inr ⟨g, c, c2.toArray, rfl, hgb, ?_, hroom, hcm, by simp only [List.size_toArray]; omega, by simpa using r2⟩⟩, ?_, fun k hk => .inl hk⟩
    · rw [hW2]; exact setRow_heap W1 g c1.toArray _ 80 (0, 0) hg1
    · rw [hW2, hW1]
      exact Kx.setRow (X := fun k => (Value.slice (some ⟨g, 0, none⟩) N c).ownBlock = some k) (Kx.setRow (Kx.refl (fun k => (Value.slice (some ⟨g, 0, none⟩) N c).ownBlock = some k) w).drew (.inl rfl) _) (.inl rfl) _
  have HPOST := Lib.hid hpost
  have mixed : Try.prog.follows .mixedOrders = true := by kernel_rfl
  have hz1 : ¬ ((1 : Int) = 0) := by omega
  have hz2 : ¬ ((i : Int) = (N : Int)) := by omega
  have hw1 : IntKind.i64.wrap ((i : Int) + 1) = (i : Int) + 1 := IntWalk.i64_in _ (by omega)
  have hw2 : IntKind.i64.wrap ((N : Int) + 1) = (N : Int) + 1 := IntWalk.i64_in _ (by omega)
  have hb0 : (0 : Int) ≤ (i : Int) + 1 := by omega
  have hb0' : (0 : Int) ≤ (i : Int) := by omega
  have hin : i ≤ N := by omega
  have htn : ((i : Int) + 1).toNat = i + 1 := by omega
  have htn2 : ((N : Int) + 1).toNat = N + 1 := by omega
  have hb2 : ¬ (c = i + 1) := by omega
  have hb3 : (i : Int) ≤ (N : Int) + 1 := by omega
  have hb3' : (i : Int) + 1 ≤ (N : Int) + 1 := by omega
  have hb4 : ¬ (c = i) := by omega
  have hb5 : decide ((c : Int) < (N : Int) + 1) = false := nb (by omega)
  have hb6 : (N : Int) + 1 ≤ (c : Int) := by omega
  rw [← hW1] at hcp1
  have HOV := hov
  clear hpost hc1 hc2 hcells hrl hdl r1 r2 r3 hb1 hg1 hW1 hsa hsb htk hcl hlen hcs hb hg
  go_enter Try.func86, Try.ntmps86
  go_wp2_with (simp only [hov])
  go_region_law_o (refine step_copy_runS rfl _ _ 43 43 rfl _ _ (by simp [Act.eval, Act.put]) (by simp [Act.eval, Act.put]) (hcp1 _ _ _) ?_)
  go_wp2_with (at_builtin; refine wpList_copy_runS _ rfl _ _ 43 43 rfl _ _ rfl rfl (hcp2 _ _) ?_)
  go_ret
  exact HPOST.out _ rfl
set_option maxHeartbeats 8000000 in
theorem insert_grow (w : World) (base g c : Nat) (l : List Tg) (i : Nat) (t : Tg) (vb : Nat) (hi : i < l.length) (hroom : c < l.length + 1) (hl : l.length ≤ 1000000) (hbase : base ≤ w.heap.size) (hown : OwG w base (.slice (some ⟨g, 0, none⟩) l.length c) l) (hb : BoxN w vb 80 #[.int .i64 t.nd, .int .i64 t.of]) :
    Calls Try.prog 86 #[.slice (some ⟨g, 0, none⟩) l.length c, .int .i64 (i : Int), .slice (some ⟨vb, 0, none⟩) 1 1] w (InsR w base (.slice (some ⟨g, 0, none⟩) l.length c) (l.take i ++ t :: l.drop i)) := by
  obtain ⟨hlen, ⟨h1, _⟩ | ⟨g', c', cur, h1, hgb, hg, hnc, hcm, hcs, htk⟩⟩ := hown
  · cases h1
  simp only [Value.slice.injEq, Option.some.injEq, Addr.mk.injEq, and_true, true_and] at h1
  obtain ⟨rfl, rfl⟩ := h1
  have hcells : ∀ j u, (rcs tgR l)[j]? = some u → w.cell? ⟨g, j, none⟩ = some u := fun j u hj => by
    rw [← htk, List.getElem?_take] at hj
    split at hj
    · unfold World.cell?
      simp only [hg]
      simpa using hj
    · cases hj
  have hgl : g < w.heap.size := (Array.getElem?_eq_some_iff.1 hg).1
  have hvl : vb < w.heap.size := hb.lt
  obtain ⟨N, hN⟩ : ∃ N, l.length = N := ⟨_, rfl⟩
  have hrl := rcs_length tgR l
  have hR : tgR.size = 2 := rfl
  rw [hN, hR] at hrl
  have hdl : ((rcs tgR l).drop (i * 2)).length = (N - i) * 2 := by rw [List.length_drop, hrl]; omega
  have htl : ((rcs tgR l).take (i * 2)).length = i * 2 := by rw [List.length_take, hrl]; omega
  obtain ⟨i0, hi0, hz0, hzs, hzb⟩ := info_parts ETg.hi
  have hold : (Builtin.firstCells i0.size i (.slice (some ⟨g, 0, none⟩) i c)).run Try.prog w.drew = .ok ((rcs tgR l).take (i * 2)).toArray w.drew := by
    rw [hzs]
    exact run_firstCells_some w.drew 2 i ⟨g, 0, none⟩ i c ((rcs tgR l).take (i * 2)) htl (fun j v hj => by
      rw [Addr.add_lit, Nat.zero_add]
      rw [List.getElem?_take] at hj
      split at hj
      · exact hcells j v hj
      · cases hj)
  have hnc' : N ≤ c := by omega
  obtain ⟨G, hG⟩ : ∃ G, G = grownCap w (N + 1) c 80 := ⟨_, rfl⟩
  have hik : i + (N + 1 - i) = N + 1 := by omega
  obtain ⟨Z, hZ⟩ : ∃ Z : List Value, Z = (Builtin.zeroCells (Value.agg #[.int .i64 0, .int .i64 0]).cells (N + 1 - i)).toList ++ (Builtin.zeroCells (Value.agg #[.int .i64 0, .int .i64 0]).cells (G - (N + 1))).toList := ⟨_, rfl⟩
  obtain ⟨c1, hc1⟩ : ∃ c1, c1 = (rcs tgR l).take (i * 2) ++ Z := ⟨_, rfl⟩
  obtain ⟨c2, hc2⟩ : ∃ c2, c2 = c1.take (i * 2) ++ tgR.cells t ++ c1.drop (i * 2 + (tgR.cells t).length) := ⟨_, rfl⟩
  obtain ⟨c3, hc3⟩ : ∃ c3, c3 = c2.take ((i + 1) * 2) ++ (rcs tgR l).drop (i * 2) ++ c2.drop ((i + 1) * 2 + ((rcs tgR l).drop (i * 2)).length) := ⟨_, rfl⟩
  have hzz : (Value.agg #[.int .i64 0, .int .i64 0]).cells.size = 2 := rfl
  have hGn : N + 1 ≤ G := by rw [hG]; exact grownCap_ge w _ _ _
  have hGm : G ≤ maxLen := by
    have := grownCap_le_maxLen w (N + 1) c 80 (by unfold maxLen; omega)
    rwa [← hG] at this
  have hZl : Z.length = (G - i) * 2 := by rw [hZ, List.length_append, zeroCells_list, zeroCells_list, hzz]; omega
  obtain ⟨r1, r2, r3⟩ := ins_new tgR l t i Z hi c1 c2 c3 (by rw [hZl, hR, hN]; exact Nat.mul_le_mul_right _ (by omega)) (by rw [hR]; exact hc1) (by rw [hR]; exact hc2) (by rw [hR]; exact hc3)
  have hc1l : c1.length = G * 2 := by rw [hc1, List.length_append, htl, hZl]; omega
  rw [hR, hN] at r3
  have hrz : ∀ ty, (Builtin.append_ #[43, 3] ty #[.slice (some ⟨g, 0, none⟩) i c, .int .i64 ((N : Int) + 1 - (i : Int))]).run Try.prog w =
      .ok (.slice (some ⟨w.heap.size, 0, none⟩) (N + 1) G) (w.drew.alloc (.cells c1.toArray 80)) := fun ty => by
    have h := Lib.run_append_grow_zeros w 43 3 ty 80 i0 _ .i64 .i64 Try.underlying43 Try.underlying3 hi0 hz0 (some ⟨g, 0, none⟩) i c _ hold (N + 1 - i) (by omega) (by omega) (by omega) (by omega) (by rw [hzb]; omega) (by rw [hzb, hik]; exact growslice_fits (by omega) (by omega))
    rw [hik] at h
    rw [show (N : Int) + 1 - (i : Int) = ((N + 1 - i : Nat) : Int) by omega, h, ← hG]
    congr 3
    congr 1
    rw [hc1, hZ]
    apply Array.ext'
    simp
  rw [hN] at hi hroom hl ⊢
  have hsz : (Try.prog.info? 80).map (·.size) = some 2 := by kernel_rfl
  obtain ⟨B, hB⟩ : ∃ B, w.heap.size = B := ⟨_, rfl⟩
  obtain ⟨W1, hW1⟩ : ∃ W1, W1 = w.drew.alloc (.cells c1.toArray 80) := ⟨_, rfl⟩
  have hg1 : W1.heap[B]? = some (.cells c1.toArray 80 (0, 0)) := by rw [hW1, ← hB]; exact heap_last w.drew _
  have hold1 : ∀ k, k < w.heap.size → W1.heap[k]? = w.heap[k]? := fun k hk => by rw [hW1]; exact (Below.al (Below.refl w.heap.size w).drew (.cells c1.toArray 80)).block k hk
  have hcpA : ∀ W : World, W.heap = W1.heap → ∀ ty dc, (Builtin.copy_ #[43, 43] ty #[.slice (some ⟨B, i * 2, none⟩) (N + 1 - i) dc, .slice (some ⟨vb, 0, none⟩) 1 1]).run Try.prog W = .ok (goInt ((1 : Nat) : Int)) (W.setRow B c2.toArray) := fun W hWh ty dc => by
    have hmin : Nat.min 1 (N + 1 - i) = 1 := by simp only [Nat.min_def]; split <;> omega
    have hbW : BoxN W vb 80 #[.int .i64 t.nd, .int .i64 t.of] := by unfold BoxN; rw [hWh, hold1 vb hvl]; exact hb
    rw [run_copy_rowS W _ _ ty 80 2 B (i * 2) (N + 1 - i) dc ⟨vb, 0, none⟩ 1 1 c1.toArray 80 (tgR.cells t) Try.underlying43 hsz (by rw [hWh]; exact hg1) (by rw [hmin]; rfl)
      (fun j u hj => by
        rw [Addr.add_lit, Nat.zero_add, hbW.cell j]
        have : tgR.cells t = [.int .i64 t.nd, .int .i64 t.of] := rfl
        rw [this] at hj
        simpa using hj) (by rw [tgR.len t, hR]; simp only [List.size_toArray]; omega) (tgR.one t), hmin]
    simp only [List.toList_toArray]
    rw [← hc2]
  have hcpB : ∀ W : World, W.heap = (W1.setRow B c2.toArray).heap → ∀ ty dc sc, (Builtin.copy_ #[43, 43] ty #[.slice (some ⟨B, (i + 1) * 2, none⟩) (N - i) dc, .slice (some ⟨g, i * 2, none⟩) (N - i) sc]).run Try.prog W = .ok (goInt ((N - i : Nat) : Int)) (W.setRow B c3.toArray) := fun W hWh ty dc sc => by
    have hmin : Nat.min (N - i) (N - i) = N - i := by simp only [Nat.min_def]; split <;> omega
    rw [run_copy_rowS W _ _ ty 80 2 B ((i + 1) * 2) (N - i) dc ⟨g, i * 2, none⟩ (N - i) sc c2.toArray 80 ((rcs tgR l).drop (i * 2)) Try.underlying43 hsz (by rw [hWh]; exact setRow_heap W1 B c1.toArray _ 80 (0, 0) hg1) (by rw [hdl, hmin])
      (fun j u hj => by
        rw [Addr.add_lit]
        rw [List.getElem?_drop] at hj
        rw [← hcells _ u hj]
        exact World.cell?_of_block (by rw [hWh, setRow_other _ _ _ _ (show g ≠ B by omega), hold1 g hgl])) (by rw [hdl]; simp only [List.size_toArray]; omega) (fun u hu => rcs_one tgR l u (List.mem_of_mem_drop hu)), hmin]
    simp only [List.toList_toArray]
    rw [← hc3]
  have hpost : ∀ W2 : World, Kx (fun k => (Value.slice (some ⟨g, 0, none⟩) N c).ownBlock = some k) w W2 → W2.heap = ((W1.setRow B c2.toArray).setRow B c3.toArray).heap → InsR w base (.slice (some ⟨g, 0, none⟩) N c) (l.take i ++ t :: l.drop i) (.returned (.slice (some ⟨B, 0, none⟩) (N + 1) G)) W2 := fun W2 hkx hW2 => by
    have hll : (l.take i ++ t :: l.drop i).length = N + 1 := by simp only [List.length_append, List.length_cons, List.length_take, List.length_drop]; omega
    unfold InsR OwG
    rw [hll]
    refine ⟨_, _, rfl, ⟨by rw [rcs_length, hll, hR], .inr ⟨B, G, c3.toArray, rfl, by omega, ?_, hGn, hGm, by simp only [List.size_toArray]; omega, by simpa using r3⟩⟩, hkx, fun k hk => .inr ?_⟩
    · rw [hW2]; exact setRow_heap _ B c2.toArray _ 80 (0, 0) (setRow_heap W1 B c1.toArray _ 80 (0, 0) hg1)
    · simp only [Value.ownBlock, Option.some.injEq] at hk; omega
  have hkx : ∀ W : World, W = (((w.alloc (.cells c1.toArray 80)).drew.setRow B c2.toArray).drew.setRow B c3.toArray) → Kx (fun k => (Value.slice (some ⟨g, 0, none⟩) N c).ownBlock = some k) w W := fun W hW => by
    rw [hW]
    exact Kx.setRow (Kx.setRow ((Kx.refl (fun k => (Value.slice (some ⟨g, 0, none⟩) N c).ownBlock = some k) w).alloc _).drew (.inr (by omega)) _).drew (.inr (by omega)) _
  have HPOST := Lib.hid hpost
  have HKX := Lib.hid hkx
  rw [hB] at hrz
  have mixed : Try.prog.follows .mixedOrders = true := by kernel_rfl
  have z : ∀ w, (Go.sizeOf 80).run Try.prog w = .ok 2 w := fun w => by kernel_rfl
  have hz1 : ¬ ((1 : Int) = 0) := by omega
  have hz2 : ¬ ((i : Int) = (N : Int)) := by omega
  have hw1 : IntKind.i64.wrap ((i : Int) + 1) = (i : Int) + 1 := IntWalk.i64_in _ (by omega)
  have hw2 : IntKind.i64.wrap ((N : Int) + 1) = (N : Int) + 1 := IntWalk.i64_in _ (by omega)
  have hw3 : IntKind.i64.wrap ((N : Int) + 1 - (i : Int)) = (N : Int) + 1 - (i : Int) := IntWalk.i64_in _ (by omega)
  have hb0 : (0 : Int) ≤ (i : Int) + 1 := by omega
  have hb0' : (0 : Int) ≤ (i : Int) := by omega
  have hin : i ≤ N := by omega
  have htn : ((i : Int) + 1).toNat = i + 1 := by omega
  have hb2 : ¬ (G = i + 1) := by omega
  have hb3 : (i : Int) ≤ (N : Int) + 1 := by omega
  have hb3' : (i : Int) + 1 ≤ (N : Int) + 1 := by omega
  have hb4 : ¬ (c = i) := by omega
  have hb4' : ¬ (G = i) := by omega
  have hb5 : decide ((c : Int) < (N : Int) + 1) = true := yb (by omega)
  have hb6 : (i : Int) ≤ (N : Int) := by omega
  have hb7 : (i : Int) ≤ (c : Int) := by omega
  rw [← hW1] at hrz
  have hE1 : ((w.alloc (.cells c1.toArray 80)).drew).heap = W1.heap := by rw [hW1]; rfl
  have hF1 : (((w.alloc (.cells c1.toArray 80)).drew.setRow B c2.toArray).drew).heap = (W1.setRow B c2.toArray).heap := by rw [hW1]; rfl
  subst hW1
  clear hpost hkx hc1 hc2 hc3 hcells hrl hdl htl r1 r2 r3 hg1 hold1 htk hlen hcs hb hg hZ hZl hc1l hold hi0 hz0 hzs hzb hG hik
  go_enter Try.func86, Try.ntmps86
  go_wp2_with (first
    | (at_builtin; refine Lib.wpList_append_run _ rfl _ _ _ _ rfl _ _ rfl rfl _ _ (hrz _) ?_)
    | (at_builtin; refine wpList_copy_runS _ rfl _ _ 43 43 rfl _ _ rfl rfl (hcpA _ hE1 _ _) ?_))
  go_region_law_o (refine step_copy_runS rfl _ _ 43 43 rfl (.slice (some ⟨B, (i + 1) * 2, none⟩) (N - i) (G - (i + 1))) (.slice (some ⟨g, i * 2, none⟩) (N - i) (c - i)) (by simp [Act.eval, Act.put]) (by simp [Act.eval, Act.put]) (hcpB _ hF1 3 (G - (i + 1)) (c - i)) ?_)
  go_wp2
  go_ret
  exact HPOST.out _ (HKX.out _ rfl) rfl
end Go.Proofs.Ytnkpjfogjkjcfaa
