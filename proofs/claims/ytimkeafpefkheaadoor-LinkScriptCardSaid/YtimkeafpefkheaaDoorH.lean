

/- Links: what a fault makes of a list of one's own (spoil, twin). -/
import Derived.Test.YtimkeafpefkheaaDoorG
namespace Go.Proofs.YtimkeafpefkheaaDoor
open Go.RowKit
set_option linter.unusedSimpArgs false
set_option linter.unusedVariables false
set_option maxRecDepth 100000

/-- a text with one byte of it spoilt -/
def spoilS (s : Fr) (j : Nat) (b : Int) : Fr := ⟨s.data.setIfInBounds j ((s.data.getD j 0) ^^^ UInt8.ofNat b.toNat)⟩
theorem spoilS_size (s : Fr) (j : Nat) (b : Int) : (spoilS s j b).size = s.size := by
  show (s.data.setIfInBounds j _).size = s.data.size
  simp
theorem bits_xor_u8 (x : UInt8) (b : Int) (h0 : 0 ≤ b) (h1 : b ≤ 255) : bits .xor .u8 (x.toNat : Int) b = ((x ^^^ UInt8.ofNat b.toNat).toNat : Int) := by
  obtain ⟨n, rfl⟩ : ∃ n : Nat, b = n := ⟨b.toNat, by omega⟩
  have hx : x.toNat < 256 := x.toNat_lt
  rw [UInt8.toNat_xor, Int.toNat_natCast, UInt8.toNat_ofNat', Nat.mod_eq_of_lt (show n < 2 ^ 8 by omega)]
  have hx2 : x.toNat ^^^ n < 2 ^ 8 := Nat.xor_lt_two_pow (by omega) (by omega)
  have e1 : (BitVec.ofInt 8 (x.toNat : Int)).toNat = x.toNat := by
    rw [BitVec.ofInt_natCast, BitVec.toNat_ofNat]; exact Nat.mod_eq_of_lt (by omega)
  have e2 : (BitVec.ofInt 8 (n : Int)).toNat = n := by
    rw [BitVec.ofInt_natCast, BitVec.toNat_ofNat]; exact Nat.mod_eq_of_lt (by omega)
  show IntKind.u8.wrap ((BitVec.ofInt 8 (x.toNat : Int) ^^^ BitVec.ofInt 8 (n : Int)).toNat : Int) = _
  rw [BitVec.toNat_xor, e1, e2]
  have : IntKind.u8.wrap ((x.toNat ^^^ n : Nat) : Int) = ((x.toNat ^^^ n : Nat) : Int) % 256 := by simp [IntKind.wrap, IntKind.bits, IntKind.signed]
  rw [this]
  omega
theorem bytesRow_get (s : Fr) (cap j : Nat) (hj : j < s.size) : (bytesRow s cap)[j]? = some (.int .u8 ((s.data.getD j 0).toNat : Int)) := by
  have hj' : j < s.data.size := hj
  unfold bytesRow
  rw [Array.getElem?_append_left (by simpa using hj'), Array.getElem?_map, Array.getElem?_eq_getElem hj']
  simp [Array.getD, dif_pos hj]
theorem spoil_cells (s : Fr) (j : Nat) (b : Int) (cap : Nat) (hj : j < s.size) (h0 : 1 ≤ b) (h1 : b ≤ 255) (i : Nat) (hi : i < (spoilS s j b).data.toList.length) :
    ((bytesRow s cap).setIfInBounds j (.int .u8 (bits .xor .u8 ((s.data.getD j 0).toNat : Int) b)))[i]? = some (.int .u8 ((spoilS s j b).data.toList[i].toNat : Int)) := by
  rw [bits_xor_u8 _ _ (by omega) h1]
  have hi' : i < s.data.size := by
    have := hi
    simp only [Array.length_toList] at this
    exact Nat.lt_of_lt_of_eq this (spoilS_size s j b)
  have hb : j < (bytesRow s cap).size := by
    have := bytesRow_get s cap j hj
    exact (Array.getElem?_eq_some_iff.1 this).1
  by_cases h : j = i
  · subst h
    rw [Array.getElem?_setIfInBounds, if_pos rfl, if_pos hb]
    congr 3
    simp [spoilS]
  · rw [Array.getElem?_setIfInBounds, if_neg h, bytesRow_get s cap i hi']
    congr 4
    have hi2 : i < s.size := hi'
    simp [spoilS, Array.getElem_setIfInBounds, h, Array.getD, dif_pos hi2]
theorem mk4_own (a : Option Addr) (c base : Nat) (l : List Fr) (t : Tr) (k j : Nat) (hk : k < l.length) (hl : l.length ≤ 64) (htj : t.j = j) (hj : j < (l.getD k e0).size) (hs1200 : (l.getD k e0).size ≤ 1200) (hb1 : 1 ≤ t.b) (hb2 : t.b ≤ 255) (w : World) (h : w.ownsRow base 9 1 (.slice a l.length c) l.length (tcs l)) (hbw : base ≤ w.heap.size) :
    Calls Tryd.prog 68 #[.slice a l.length c, .agg #[.int .i64 t.k, .int .i64 (k : Int), .int .i64 t.j, .int .i64 t.b]] w (MkR base w (l.set k (spoilS (l.getD k e0) j t.b))) := by
  obtain ⟨N, hN⟩ : ∃ N, l.length = N := ⟨_, rfl⟩
  have HN := Lib.hid hN
  have HOWN := Lib.hid h
  rw [hN] at HOWN hk hl ⊢
  have hmx := hl
  have i1 : (0 : Int) ≤ (k : Int) := by omega
  have i2 : (k : Int) < (N : Int) := by omega
  have hwk : IntKind.i64.wrap (k : Int) = (k : Int) := IntWalk.i64_in _ (by omega)
  obtain ⟨W, hW⟩ : ∃ W : World, W = w.alloc (.cells #[.int .i64 t.k, .int .i64 (k : Int), .int .i64 t.j, .int .i64 t.b] 36) := ⟨_, rfl⟩
  have hB : Below w.heap.size w W := by rw [hW]; exact (by repeat (first | assumption | exact Below.refl _ _ | apply Below.al | apply below_drewN | apply Below.drew | refine Below.next ?_ (by assumption)))
  have b0 : BoxN W w.heap.size 36 #[.int .i64 t.k, .int .i64 (k : Int), .int .i64 t.j, .int .i64 t.b] := by rw [hW]; exact BoxN.new w _ _
  have t1 : W.cell? ⟨w.heap.size, 1, none⟩ = some (.int .i64 (k : Int)) := b0.cell 1
  have t2 : W.cell? ⟨w.heap.size, 2, none⟩ = some (.int .i64 t.j) := b0.cell 2
  have t3 : W.cell? ⟨w.heap.size, 3, none⟩ = some (.int .i64 t.b) := b0.cell 3
  have HO2 := Lib.hid (own_below HOWN.out hB)
  have hB0 : Below base w W := hB.mono hbw
  clear h hN b0
  obtain ⟨g, rfl, hg0, hg1⟩ := own_addr HO2.out (by omega)
  obtain ⟨s, hs⟩ : ∃ s, l.getD k e0 = s := ⟨_, rfl⟩
  have c1 : W.cell? ⟨g, k, none⟩ = some (.string s) := by rw [HO2.out.cellAt k (by omega), tcs_get l k (by rw [HN.out]; exact hk), hs]
  have f1 : W.frozen? ⟨g, k, none⟩ = false := HO2.out.frozenAt k
  rw [hs] at hj hs1200 ⊢
  rw [htj] at t2 hW ⊢
  have j1 : (0 : Int) ≤ (j : Int) := by omega
  have j2 : (j : Int) < (s.size : Int) := by omega
  have hwj : IntKind.i64.wrap (j : Int) = (j : Int) := IntWalk.i64_in _ (by omega)
  clear hs htj
  have hcv : ∀ w1 : World, (convert 9 61 (.string s)).run Tryd.prog w1 = .ok (.slice (some ⟨w1.heap.size, 0, none⟩) s.size (grownCap w1 s.size 0 5))
      (w1.drew.alloc (.cells (bytesRow s (grownCap w1 s.size 0 5)) 5 ((bytesRow s (grownCap w1 s.size 0 5)).size, (bytesRow s (grownCap w1 s.size 0 5)).size + 1))) := fun w1 => run_bytes_of_string w1 9 61 5 s (by kernel_rfl) (by kernel_rfl) (by kernel_rfl)
  go_enter Tryd.func68, Tryd.ntmps68
  go_upto_region 1 with fail
  rw [← hW]
  clear hW
  go_upto_region 2 with fail
  obtain ⟨cap, hcap⟩ : ∃ cap, grownCap W s.size 0 5 = cap := ⟨_, rfl⟩
  rw [hcap]
  obtain ⟨x, hx⟩ : ∃ x : UInt8, s.data.getD j 0 = x := ⟨_, rfl⟩
  have HSC := Lib.hid (spoil_cells s j t.b cap hj hb1 hb2)
  rw [hx] at HSC
  have hgx := bytesRow_get s cap j hj
  rw [hx] at hgx
  obtain ⟨W1, hW1⟩ : ∃ W1 : World, W1 = (W.alloc (.cells (bytesRow s cap) 5 ((bytesRow s cap).size, (bytesRow s cap).size + 1))).drew := ⟨_, rfl⟩
  have hB1 : Below W.heap.size W W1 := by rw [hW1]; exact (Below.al (Below.refl _ W) _).drew
  have hX1 : W1.heap[W.heap.size]? = some (.cells (bytesRow s cap) 5 ((bytesRow s cap).size, (bytesRow s cap).size + 1)) := by rw [hW1]; exact World.alloc_heap_new W _
  rw [← hW1]
  clear hW1 hcv hcap
  have cX : W1.cell? ⟨W.heap.size, j, none⟩ = some (.int .u8 (x.toNat : Int)) := by simp only [World.cell?, hX1]; exact hgx
  have fX : W1.frozen? ⟨W.heap.size, j, none⟩ = false := by
    have := (Array.getElem?_eq_some_iff.1 hgx).1
    simp [World.frozen?, hX1]
    omega
  have hlt1 : W.heap.size < W1.heap.size := (Array.getElem?_eq_some_iff.1 hX1).1
  have t1W := t1
  have t1 := cell_later hB1 t1
  have t2 := cell_later hB1 t2
  have t3 := cell_later hB1 t3
  have hwb : IntKind.u8.wrap t.b = t.b := by
    have : IntKind.u8.wrap t.b = t.b % 256 := by simp [IntKind.wrap, IntKind.bits, IntKind.signed]
    omega
  clear hgx hx
  refine wp_region_calm (fun w' => Below W1.heap.size W1 w') 10 (by kernel_rfl) ((Below.refl _ W1).drew) ?_
  refine cm_run 0 12 (v := ?_) rfl rfl (by kernel_rfl) (by kernel_rfl) (by kernel_rfl) (by kernel_rfl) (by kernel_rfl) (fun _ _ _ h => h) (by rfl) ?_ ?_
  rotate_left
  · (intro wS hS; skip; go_simp; (try with_reducible rfl))
  simp only [List.setIfInBounds_toArray, List.set_cons_zero, List.set_cons_succ]
  refine cm_run 1 13 (v := ?_) rfl rfl (by kernel_rfl) (by kernel_rfl) (by kernel_rfl) (by kernel_rfl) (by kernel_rfl) (fun _ _ _ h => h) (by rfl) ?_ ?_
  rotate_left
  · (intro wS hS; skip; go_simp; (try with_reducible rfl))
  simp only [List.setIfInBounds_toArray, List.set_cons_zero, List.set_cons_succ]
  refine cm_run 2 14 (v := ?_) rfl rfl (by kernel_rfl) (by kernel_rfl) (by kernel_rfl) (by kernel_rfl) (by kernel_rfl) (fun _ _ _ h => h) (by rfl) ?_ ?_
  rotate_left
  · (intro wS hS; have g := cell_later hS t2; go_simp; (try with_reducible rfl))
  simp only [List.setIfInBounds_toArray, List.set_cons_zero, List.set_cons_succ]
  refine cm_run 3 15 (v := ?_) rfl rfl (by kernel_rfl) (by kernel_rfl) (by kernel_rfl) (by kernel_rfl) (by kernel_rfl) (fun _ _ _ h => h) (by rfl) ?_ ?_
  rotate_left
  · (intro wS hS; skip; go_simp; (try with_reducible rfl))
  simp only [List.setIfInBounds_toArray, List.set_cons_zero, List.set_cons_succ]
  refine cm_run 4 16 (v := ?_) rfl rfl (by kernel_rfl) (by kernel_rfl) (by kernel_rfl) (by kernel_rfl) (by kernel_rfl) (fun _ _ _ h => h) (by rfl) ?_ ?_
  rotate_left
  · (intro wS hS; have g := cell_later hS cX; go_simp; (try with_reducible rfl))
  simp only [List.setIfInBounds_toArray, List.set_cons_zero, List.set_cons_succ]
  refine cm_run 5 17 (v := ?_) rfl rfl (by kernel_rfl) (by kernel_rfl) (by kernel_rfl) (by kernel_rfl) (by kernel_rfl) (fun _ _ _ h => h) (by rfl) ?_ ?_
  rotate_left
  · (intro wS hS; skip; go_simp; (try with_reducible rfl))
  simp only [List.setIfInBounds_toArray, List.set_cons_zero, List.set_cons_succ]
  refine cm_run 6 18 (v := ?_) rfl rfl (by kernel_rfl) (by kernel_rfl) (by kernel_rfl) (by kernel_rfl) (by kernel_rfl) (fun _ _ _ h => h) (by rfl) ?_ ?_
  rotate_left
  · (intro wS hS; have g := cell_later hS t3; go_simp; (try with_reducible rfl))
  simp only [List.setIfInBounds_toArray, List.set_cons_zero, List.set_cons_succ]
  refine cm_run 7 19 (v := ?_) rfl rfl (by kernel_rfl) (by kernel_rfl) (by kernel_rfl) (by kernel_rfl) (by kernel_rfl) (fun _ _ _ h => h) (by rfl) ?_ ?_
  rotate_left
  · (intro wS hS; skip; go_simp; (try with_reducible rfl))
  simp only [List.setIfInBounds_toArray, List.set_cons_zero, List.set_cons_succ]
  refine cm_run 8 20 (v := ?_) rfl rfl (by kernel_rfl) (by kernel_rfl) (by kernel_rfl) (by kernel_rfl) (by kernel_rfl) (fun _ _ _ h => h) (by rfl) ?_ ?_
  rotate_left
  · (intro wS hS; skip; go_simp; (try with_reducible rfl))
  simp only [List.setIfInBounds_toArray, List.set_cons_zero, List.set_cons_succ]
  refine cm_run 9 21 (v := ?_) rfl rfl (by kernel_rfl) (by kernel_rfl) (by kernel_rfl) (by kernel_rfl) (by kernel_rfl) (fun _ _ _ h => h) (by rfl) ?_ ?_
  rotate_left
  · (intro wS hS; skip; go_simp; (try with_reducible rfl))
  simp only [List.setIfInBounds_toArray, List.set_cons_zero, List.set_cons_succ]
  refine cm_tail 10 rfl (by kernel_rfl) (by kernel_rfl) (by kernel_rfl) (by rfl) ?_
  intro wS hS K hK
  have gx := cell_later hS cX; have fx := fz_later hS hlt1 fX
  go_simp
  refine hK _ _ ?_
  clear hK K
  refine NoPanic.normal ?_
  have hXS : wS.heap[W.heap.size]? = some (.cells (bytesRow s cap) 5 ((bytesRow s cap).size, (bytesRow s cap).size + 1)) := (hS.block _ hlt1).trans hX1
  obtain ⟨W4, hW4⟩ : ∃ W4 : World, W4 = wS.setCell ⟨W.heap.size, j, none⟩ (.int .u8 (bits .xor .u8 (x.toNat : Int) t.b)) := ⟨_, rfl⟩
  have hX4 : W4.heap[W.heap.size]? = some (.cells ((bytesRow s cap).setIfInBounds j (.int .u8 (bits .xor .u8 (x.toNat : Int) t.b))) 5 ((bytesRow s cap).size, (bytesRow s cap).size + 1)) := by
    rw [hW4]; simp [World.setCell, Array.getElem?_modify, hXS]
  have hB4 : Below W.heap.size W W4 := by rw [hW4]; exact (hB1.trans (hS.mono (by omega))).setCell (p := ⟨W.heap.size, j, none⟩) (Nat.le_refl _) _
  rw [← hW4]
  clear hW4 hXS gx fx hS cX fX t1 t2 t3 hX1
  have hbk : (convert 61 9 (.slice (some ⟨W.heap.size, 0, none⟩) s.size cap)).run Tryd.prog W4 = .ok (.string (spoilS s j t.b)) W4 := by
    have h1 := run_convert_bytes_back (P := Tryd.prog) W4 61 9 5 ⟨W.heap.size, 0, none⟩ cap (spoilS s j t.b).data.toList (by kernel_rfl) (by kernel_rfl) (by kernel_rfl) (fun i hi => by
      have := HSC.out i hi
      have ha : (⟨W.heap.size, 0, none⟩ : Addr).add i = ⟨W.heap.size, i, none⟩ := by unfold Addr.add; split <;> simp_all
      rw [ha]
      simp only [World.cell?, hX4]
      exact this)
    rw [show (spoilS s j t.b).data.toList.length = s.size by rw [Array.length_toList]; exact spoilS_size s j t.b] at h1
    rw [h1]
  have c4 := cell_later hB4 c1
  have f4 := fz_later hB4 hg1 f1
  have t4 := cell_later hB4 t1W
  have hO4 := own_below HO2.out hB4
  have hOS := own_set HN.out hO4 k (spoilS s j t.b)
  have hBS := (hB0.trans (hB4.mono (by omega))).setCell (p := ⟨g, k, none⟩) hg0 (.string (spoilS s j t.b))
  have HOS := Lib.hid hOS
  clear hOS hO4 hX4 HSC hlt1
  go_wp2_with fail
  go_ret
  exact ⟨_, rfl, by unfold RdT; rw [List.length_set, HN.out]; exact RdS.of_owns HOS.out (by decide), hBS⟩
end Go.Proofs.YtimkeafpefkheaaDoor
