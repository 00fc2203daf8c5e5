


/- Timers: rows of one's own; the reference's exchange and rising. -/
import Derived.Test.YtigmhglkohjlhaaF
namespace Go.Proofs.Ytigmhglkohjlhaa
open Go.RowKit
set_option linter.unusedSimpArgs false
set_option linter.unusedVariables false
set_option maxRecDepth 100000

/-- a row of timers of one's own -/
abbrev OwM (w : World) (base : Nat) (v : Value) (l : List Tm) : Prop := w.ownsRow base 41 5 v l.length (rcs tmR l)
theorem OwM.rd {w : World} {base : Nat} {v : Value} {l : List Tm} (h : OwM w base v l) : RdM w v l := RdL.of_owns h
theorem OwM.addr {w : World} {base n c : Nat} {a : Option Addr} {l : List Tm} (h : w.ownsRow base 41 5 (.slice a n c) n (rcs tmR l)) (hn : n ≠ 0) : ∃ q, a = some ⟨q, 0, none⟩ ∧ base ≤ q ∧ q < w.heap.size := by
  have h' := h
  rcases h.2 with ⟨_, h0⟩ | ⟨q, cap, cur, hv, hb, hh, _⟩
  · exact absurd h0 hn
  · simp only [Value.slice.injEq] at hv
    exact ⟨q, hv.1, hb, (Array.getElem?_eq_some_iff.1 hh).1⟩
theorem OwM.at {w : World} {base n c q : Nat} {l : List Tm} (h : w.ownsRow base 41 5 (.slice (some ⟨q, 0, none⟩) n c) n (rcs tmR l)) (hl : l.length = n) (k : Nat) (hk : k < n) : MA w q (k * 5) (g l k) := by
  have h2 : RdM w (.slice (some ⟨q, 0, none⟩) n c) l := by unfold RdM RdL; rw [hl]; exact RdS.of_owns h (by decide)
  obtain ⟨b, off, he, _, hm⟩ := RdM.at h2 hl k hk
  have : RdS w 5 (.slice (some ⟨q, 0, none⟩) n c) n (rcs tmR l) := RdS.of_owns h (by decide)
  have key : ∀ j u, (Tm.cs (g l k))[j]? = some u → w.cell? ⟨q, k * 5 + j, none⟩ = some u := fun j u hj => by
    have hj5 : j < 5 := by have := (List.getElem?_eq_some_iff.1 hj).1; simpa [Tm.cs] using this
    have e := rcs_get tmR l k j (by omega) hj5
    rw [h.cellAt (k * 5 + j) (by omega)]
    exact e.trans hj
  exact ⟨key 0 _ rfl, key 1 _ rfl, key 2 _ rfl, key 3 _ rfl, key 4 _ rfl⟩
theorem OwM.there {w : World} {base n c q : Nat} {l : List Tm} (h : w.ownsRow base 41 5 (.slice (some ⟨q, 0, none⟩) n c) n (rcs tmR l)) (hl : l.length = n) (k : Nat) (hk : k < n) : w.there q (k * 5) 5 := fun j hj => by
  have e := rcs_get tmR l k j (by omega) (show j < 5 from hj)
  refine ⟨?_, h.frozenAt (k * 5 + j)⟩
  rw [h.cellAt (k * 5 + j) (by omega), show (rcs tmR l)[k * 5 + j]? = _ from e]
  have : j < ((tmR.cells (l.getD k tmR.zero)).length) := by rw [tmR.len]; exact hj
  rw [List.getElem?_eq_getElem this]
  rfl
/-- a timer's cells, stored -/
theorem OwM.set {w : World} {base n c q : Nat} {l : List Tm} (h : w.ownsRow base 41 5 (.slice (some ⟨q, 0, none⟩) n c) n (rcs tmR l)) (hl : l.length = n) (k : Nat) (hk : k < n) (t : Tm) :
    (w.setCells q (k * 5) (Tm.cs t)).ownsRow base 41 5 (.slice (some ⟨q, 0, none⟩) n c) n (rcs tmR (l.set k t)) := own_row (R := tmR) h k (by omega) t
theorem infoTm : (Try.prog.info? 41).map (·.size) = some 5 := by kernel_rfl
theorem wp_store_tm {op : Oper} {a : Act} {w : World} {K : Act → World → Prop} {Q : Exit → Act → World → Prop} (x y : Operand) (ho : op.op = .store 41 x y)
    (q o : Nat) (t : Tm) (hx : a.eval x = .pointer (some ⟨q, o, none⟩)) (hy : a.eval y = t.v) (ht : w.there q o 5) (h : K (a.put op.dst undef) (w.setCells q o (Tm.cs t))) : op.wp Try.prog a w K Q :=
  wp_store_mid 41 x y ho q o #[.int .i64 t.tk, .int .i64 t.kd, .int .i64 t.nd, .int .u64 t.sq, .int .i64 t.of] hx hy ht infoTm (by simp [Value.oneCell']) h
theorem wpList_store_tm {ops : Array Oper} {rest : List Oper} {op : Oper} {a : Act} {w : World} {Q : Exit → Act → World → Prop} (hgd : op.guard = none) (x y : Operand) (ho : op.op = .store 41 x y)
    (q o : Nat) (t : Tm) (hx : a.eval x = .pointer (some ⟨q, o, none⟩)) (hy : a.eval y = t.v) (ht : w.there q o 5) (h : wpList Try.prog ops Q rest (a.put op.dst undef) (w.setCells q o (Tm.cs t))) : wpList Try.prog ops Q (op :: rest) a w :=
  wpList_plain hgd fun _ hK => wp_store_tm x y ho q o t hx hy ht (hK _ _ h)
theorem OwM.keep {w w' : World} {base n : Nat} {v : Value} {xs : List Value} {e : TypeId} {size : Nat} (h : w.ownsRow base e size v n xs) (hb : Below w.heap.size w w') : w'.ownsRow base e size v n xs :=
  h.kept (row := none) ⟨hb.os, hb.tape, hb.output, hb.size, fun k hk _ => hb.block k hk⟩ (by cases hv : v.ownBlock <;> simp)
/-- a call has exchanged two timers -/
def SwR (w : World) (base n c q : Nat) (l : List Tm) (x : Ending) (w' : World) : Prop := x = .returned (.tuple #[]) ∧ w'.ownsRow base 41 5 (.slice (some ⟨q, 0, none⟩) n c) n (rcs tmR l) ∧ Kx (fun k => k = q) w w'
set_option maxHeartbeats 2000000 in
theorem rswap_any (base n c q : Nat) (l : List Tm) (i j : Nat) (hl : l.length = n) (hi : i < n) (hj : j < n) (hn : n ≤ 1000000) (w : World) (h : w.ownsRow base 41 5 (.slice (some ⟨q, 0, none⟩) n c) n (rcs tmR l)) :
    Calls Try.prog 62 #[.slice (some ⟨q, 0, none⟩) n c, .int .i64 (i : Int), .int .i64 (j : Int)] w (SwR w base n c q (swp l i j)) := by
  have HL := Lib.hid hl
  have HO := Lib.hid h
  obtain ⟨a0, a1, a2, a3, a4⟩ := OwM.at h hl i hi
  obtain ⟨t, HT⟩ : ∃ t, Hid (g l i = t) := ⟨_, rfl⟩
  obtain ⟨u, HU⟩ : ∃ u, Hid (g l j = u) := ⟨_, rfl⟩
  rw [HT.out] at a0 a1 a2 a3 a4
  have i1 : (0 : Int) ≤ (i : Int) := by omega
  have i2 : (i : Int) < (n : Int) := by omega
  have hwi : IntKind.i64.wrap (i : Int) = (i : Int) := IntWalk.i64_in _ (by omega)
  have j1 : (0 : Int) ≤ (j : Int) := by omega
  have j2 : (j : Int) < (n : Int) := by omega
  have hwj : IntKind.i64.wrap (j : Int) = (j : Int) := IntWalk.i64_in _ (by omega)
  obtain ⟨W, hW⟩ : ∃ W : World, W = w.alloc (.cells #[.int .i64 t.tk, .int .i64 t.kd, .int .i64 t.nd, .int .u64 t.sq, .int .i64 t.of] 41) := ⟨_, rfl⟩
  have hB : Below w.heap.size w W := by rw [hW]; exact (by repeat (first | assumption | exact Below.refl _ _ | apply Below.al | apply below_drewN | apply Below.drew | refine Below.next ?_ (by assumption)))
  have bT : BoxN W w.heap.size 41 #[.int .i64 t.tk, .int .i64 t.kd, .int .i64 t.nd, .int .u64 t.sq, .int .i64 t.of] := by rw [hW]; exact BoxN.new _ _ _
  have HOW := Lib.hid (OwM.keep h hB)
  obtain ⟨b0, b1, b2, b3, b4⟩ := OwM.at HOW.out hl j hj
  rw [HU.out] at b0 b1 b2 b3 b4
  have hql := (HO.out.lt q rfl).2
  clear h hl
  go_enter Try.func62, Try.ntmps62
  go_upto_region 1 with fail
  rw [← hW]
  clear hW a0 a1 a2 a3 a4
  go_upto_region 2 with (with_reducible refine wpList_store_tm rfl (.tmp 17) (.tmp 16) rfl q (i * 5) u rfl rfl (OwM.there HOW.out HL.out i hi) ?_)
  obtain ⟨W2, hW2⟩ : ∃ W2 : World, W2 = W.setCells q (i * 5) (Tm.cs u) := ⟨_, rfl⟩
  have HL2 := Lib.hid (show (l.set i u).length = n by rw [List.length_set]; exact HL.out)
  have HO2 := Lib.hid (show W2.ownsRow base 41 5 (.slice (some ⟨q, 0, none⟩) n c) n (rcs tmR (l.set i u)) by rw [hW2]; exact OwM.set HOW.out HL.out i hi u)
  have hK2 : Kx (fun k => k = q) w W2 := by rw [hW2]; exact Kx.setCells (X := fun k => k = q) (Kx.of_below hB) (.inl rfl) _ _
  have hK3 : Kx (fun k => k = q) W W2 := by rw [hW2]; exact Kx.setCells (X := fun k => k = q) (Kx.refl _ _) (.inl rfl) _ _
  have bT2 : BoxN W2 w.heap.size 41 #[.int .i64 t.tk, .int .i64 t.kd, .int .i64 t.nd, .int .u64 t.sq, .int .i64 t.of] := hK3.box (by omega) bT
  have HR := Lib.hid (show SwR w base n c q (swp l i j) (.returned (.tuple #[])) (W2.setCells q (j * 5) (Tm.cs t)) from ⟨rfl, by rw [show swp l i j = (l.set i u).set j t by unfold swp; rw [HT.out, HU.out]]; exact OwM.set HO2.out HL2.out j hj t, hK2.setCells (.inl rfl) _ _⟩)
  rw [← hW2]
  clear hW2 hK2 hK3 hB b0 b1 b2 b3 b4 bT HOW HO
  have c0 : W2.cell? ⟨w.heap.size, 0, none⟩ = some (.int .i64 t.tk) := (bT2.cell 0).trans rfl
  have c1 : W2.cell? ⟨w.heap.size, 1, none⟩ = some (.int .i64 t.kd) := (bT2.cell 1).trans rfl
  have c2 : W2.cell? ⟨w.heap.size, 2, none⟩ = some (.int .i64 t.nd) := (bT2.cell 2).trans rfl
  have c3 : W2.cell? ⟨w.heap.size, 3, none⟩ = some (.int .u64 t.sq) := (bT2.cell 3).trans rfl
  have c4 : W2.cell? ⟨w.heap.size, 4, none⟩ = some (.int .i64 t.of) := (bT2.cell 4).trans rfl
  go_wp2_with (with_reducible refine wpList_store_tm rfl (.tmp 21) (.tmp 20) rfl q (j * 5) t rfl rfl (OwM.there HO2.out HL2.out j hj) ?_)
  exact bodyPost_end (results_none rfl _ _ _) rfl HR.out
end Go.Proofs.Ytigmhglkohjlhaa
