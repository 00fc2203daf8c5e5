


/- The queue of stops: rows of one's own behind a pointer, its methods. -/
import Derived.Test.YtgmfifilgbbogaaHQ
import Derived.Test.YtgmfifilgbbogaaRD2
import Derived.Test.YtgmfifilgbbogaaRS
namespace Go.Proofs.Ytgmfifilgbbogaa
open Go.RowKit
set_option linter.unusedSimpArgs false
set_option linter.unusedVariables false
set_option maxRecDepth 100000

def Tm.cs (t : Tm) : List Value := [.int .i64 t.nd, .int .i64 t.tk]
abbrev Tm.v (t : Tm) : Value := .agg #[.int .i64 t.nd, .int .i64 t.tk]
theorem Tm.cs_one (t : Tm) : ∀ u ∈ Tm.cs t, u.oneCell' = true := fun u hu => by
  simp only [Tm.cs, List.mem_cons, List.mem_nil_iff, or_false] at hu
  rcases hu with rfl | rfl <;> rfl
def tmR : RowT Tm := ⟨2, Tm.cs, z0, by decide, fun _ => rfl, fun t u hu => Tm.cs_one t u hu⟩
abbrev RdM (w : World) (v : Value) (l : List Tm) : Prop := RdL tmR w v l
abbrev MA (w : World) (b o : Nat) (t : Tm) : Prop := w.cell? ⟨b, o, none⟩ = some (.int .i64 t.nd) ∧ w.cell? ⟨b, o + 1, none⟩ = some (.int .i64 t.tk)
theorem RdM.at {w : World} {a : Option Addr} {n c : Nat} {l : List Tm} (h : RdM w (.slice a n c) l) (hn : l.length = n) (k : Nat) (hk : k < n) : ∃ b off, a = some ⟨b, off, none⟩ ∧ n ≤ c ∧ MA w b (off + k * 2) (g l k) := by
  obtain ⟨b, off, rfl, hc, ra⟩ := RdL.at h hn k hk
  exact ⟨b, off, rfl, hc, ra 0 _ rfl, ra 1 _ rfl⟩
/-- a row of timers of one's own -/
abbrev OwM (w : World) (base : Nat) (v : Value) (l : List Tm) : Prop := w.ownsRow base 83 2 v l.length (rcs tmR l)
theorem OwM.rd {w : World} {base : Nat} {v : Value} {l : List Tm} (h : OwM w base v l) : RdM w v l := RdL.of_owns h
theorem OwM.addr {w : World} {base n c : Nat} {a : Option Addr} {l : List Tm} (h : w.ownsRow base 83 2 (.slice a n c) n (rcs tmR l)) (hn : n ≠ 0) : ∃ q, a = some ⟨q, 0, none⟩ ∧ base ≤ q ∧ q < w.heap.size := by
  have h' := h
  rcases h.2 with ⟨_, h0⟩ | ⟨q, cap, cur, hv, hb, hh, _⟩
  · exact absurd h0 hn
  · simp only [Value.slice.injEq] at hv
    exact ⟨q, hv.1, hb, (Array.getElem?_eq_some_iff.1 hh).1⟩
theorem OwM.at {w : World} {base n c q : Nat} {l : List Tm} (h : w.ownsRow base 83 2 (.slice (some ⟨q, 0, none⟩) n c) n (rcs tmR l)) (hl : l.length = n) (k : Nat) (hk : k < n) : MA w q (k * 2) (g l k) := by
  have h2 : RdM w (.slice (some ⟨q, 0, none⟩) n c) l := by unfold RdM RdL; rw [hl]; exact RdS.of_owns h (by decide)
  obtain ⟨b, off, he, _, hm⟩ := RdM.at h2 hl k hk
  have : RdS w 2 (.slice (some ⟨q, 0, none⟩) n c) n (rcs tmR l) := RdS.of_owns h (by decide)
  have key : ∀ j u, (Tm.cs (g l k))[j]? = some u → w.cell? ⟨q, k * 2 + j, none⟩ = some u := fun j u hj => by
    have hj5 : j < 2 := by have := (List.getElem?_eq_some_iff.1 hj).1; simpa [Tm.cs] using this
    have e := rcs_get tmR l k j (by omega) hj5
    rw [h.cellAt (k * 2 + j) (by omega)]
    exact e.trans hj
  exact ⟨key 0 _ rfl, key 1 _ rfl⟩
theorem OwM.there {w : World} {base n c q : Nat} {l : List Tm} (h : w.ownsRow base 83 2 (.slice (some ⟨q, 0, none⟩) n c) n (rcs tmR l)) (hl : l.length = n) (k : Nat) (hk : k < n) : w.there q (k * 2) 2 := fun j hj => by
  have e := rcs_get tmR l k j (by omega) (show j < 2 from hj)
  refine ⟨?_, h.frozenAt (k * 2 + j)⟩
  rw [h.cellAt (k * 2 + j) (by omega), show (rcs tmR l)[k * 2 + j]? = _ from e]
  have : j < ((tmR.cells (l.getD k tmR.zero)).length) := by rw [tmR.len]; exact hj
  rw [List.getElem?_eq_getElem this]
  rfl
/-- a timer's cells, stored -/
theorem OwM.set {w : World} {base n c q : Nat} {l : List Tm} (h : w.ownsRow base 83 2 (.slice (some ⟨q, 0, none⟩) n c) n (rcs tmR l)) (hl : l.length = n) (k : Nat) (hk : k < n) (t : Tm) :
    (w.setCells q (k * 2) (Tm.cs t)).ownsRow base 83 2 (.slice (some ⟨q, 0, none⟩) n c) n (rcs tmR (l.set k t)) := own_row (R := tmR) h k (by omega) t
theorem infoTm : (Try.prog.info? 83).map (·.size) = some 2 := by kernel_rfl
theorem wp_store_tm {op : Oper} {a : Act} {w : World} {K : Act → World → Prop} {Q : Exit → Act → World → Prop} (x y : Operand) (ho : op.op = .store 83 x y)
    (q o : Nat) (t : Tm) (hx : a.eval x = .pointer (some ⟨q, o, none⟩)) (hy : a.eval y = t.v) (ht : w.there q o 2) (h : K (a.put op.dst undef) (w.setCells q o (Tm.cs t))) : op.wp Try.prog a w K Q :=
  wp_store_mid 83 x y ho q o #[.int .i64 t.nd, .int .i64 t.tk] hx hy ht infoTm (by simp [Value.oneCell']) h
theorem wpList_store_tm {ops : Array Oper} {rest : List Oper} {op : Oper} {a : Act} {w : World} {Q : Exit → Act → World → Prop} (hgd : op.guard = none) (x y : Operand) (ho : op.op = .store 83 x y)
    (q o : Nat) (t : Tm) (hx : a.eval x = .pointer (some ⟨q, o, none⟩)) (hy : a.eval y = t.v) (ht : w.there q o 2) (h : wpList Try.prog ops Q rest (a.put op.dst undef) (w.setCells q o (Tm.cs t))) : wpList Try.prog ops Q (op :: rest) a w :=
  wpList_plain hgd fun _ hK => wp_store_tm x y ho q o t hx hy ht (hK _ _ h)
theorem OwM.keep {w w' : World} {base n : Nat} {v : Value} {xs : List Value} {e : TypeId} {size : Nat} (h : w.ownsRow base e size v n xs) (hb : Below w.heap.size w w') : w'.ownsRow base e size v n xs :=
  h.kept (row := none) ⟨hb.os, hb.tape, hb.output, hb.size, fun k hk _ => hb.block k hk⟩ (by cases hv : v.ownBlock <;> simp)
/-- a row of one's own, without its last -/
theorem OwM.cut {w : World} {base n c q : Nat} {l : List Tm} (h : w.ownsRow base 83 2 (.slice (some ⟨q, 0, none⟩) n c) n (rcs tmR l)) (m : Nat) (hm : m ≤ n) :
    w.ownsRow base 83 2 (.slice (some ⟨q, 0, none⟩) m c) m (rcs tmR (l.take m)) := by
  obtain ⟨hl, h2⟩ := h
  rw [rcs_length] at hl
  have hl : l.length = n := by have : tmR.size = 2 := rfl; rw [this] at hl; omega
  refine ⟨by rw [rcs_length, List.length_take]; show min m l.length * 2 = m * 2; rw [hl, Nat.min_eq_left hm], ?_⟩
  rcases h2 with ⟨h0, _⟩ | ⟨g, cap, cur, hv, hg, hh, hc, hx, hs, ht⟩
  · simp at h0
  · simp only [Value.slice.injEq, Option.some.injEq] at hv
    obtain ⟨h1, h2, h3⟩ := hv
    have e := rcs_take tmR l m
    refine .inr ⟨g, cap, cur, by rw [h1, h3], hg, hh, by omega, hx, hs, ?_⟩
    rw [← e, ← ht, List.take_take, Nat.min_eq_left (show m * tmR.size ≤ n * 2 from Nat.mul_le_mul_right 2 hm)]
    rfl
theorem slice_hi (q N c m : Nat) (hm : m ≤ N) (hc : N ≤ c) (h0 : 0 < c) (w : World) :
    (Instr.slice 85 (.slice (some ⟨q, 0, none⟩) N c) none (some (.int .i64 (m : Int))) none).run Try.prog w = .ok (.slice (some ⟨q, 0, none⟩) m c) w := by
  have hs5 : ∀ w : World, (sizeOf (Try.prog.elem 85)).run Try.prog w = .ok 2 w := fun w => by kernel_rfl
  have hun : Try.prog.underlying 85 = some (.slice (Try.prog.elem 85)) := by kernel_rfl
  rw [run_slice_h _ _ _ _ _ hun _ _ (by omega) (by omega), hs5]
  show Result.ok (sliced (some ⟨q, 0, none⟩) 0 (m : Int).toNat c 2) w = _
  rw [Int.toNat_natCast]
  unfold sliced
  rw [if_neg (by omega)]
  simp [Addr.add]
theorem RdS.box1 (w : World) (T : TypeId) (t : Tm) : RdS (w.alloc (.cells #[.int .i64 t.nd, .int .i64 t.tk] T)) 2 (.slice (some ⟨w.heap.size, 0, none⟩) 1 1) 1 (Tm.cs t) :=
  RdS.of_owns (owns_block (w.alloc (.cells (Tm.cs t).toArray T)) 0 T 2 1 (Tm.cs t) w.heap.size (Nat.zero_le _) (heap_last w _) rfl (by decide)) (by decide)
/-- timers of one's own: the header's box and the row -/
structure TM (w : World) (base P : Nat) (v : Value) (l : List Tm) : Prop where
  box : BoxN w P 85 #[v]
  row : w.ownsRow base 83 2 v l.length (rcs tmR l)
  len : l.length ≤ 100000
  ge : base ≤ P
/-- the blocks that a call at the timers may change -/
def Xs (P : Nat) (v : Value) (k : Nat) : Prop := k = P ∨ v.ownBlock = some k
theorem TM.keep {w w' : World} {base P : Nat} {v : Value} {l : List Tm} (h : TM w base P v l) (hb : Below w.heap.size w w') : TM w' base P v l :=
  ⟨h.box.below hb, OwM.keep h.row hb, h.len, h.ge⟩
theorem TM.ne {w : World} {base P : Nat} {v : Value} {l : List Tm} (h : TM w base P v l) {q : Nat} (hq : v.ownBlock = some q) : P ≠ q := by
  intro he
  subst he
  have h1 := h.box
  rcases h.row.2 with ⟨rfl, _⟩ | ⟨g, cap, cur, rfl, _, hh, _⟩
  · simp [Value.ownBlock] at hq
  · simp only [Value.ownBlock, Option.some.injEq] at hq
    subst hq
    unfold BoxN at h1
    rw [h1] at hh
    simp at hh
theorem TM.form {w : World} {base P : Nat} {v : Value} {l : List Tm} (h : TM w base P v l) : ∃ a c, v = .slice a l.length c := by
  rcases h.row.2 with ⟨rfl, h0⟩ | ⟨g, cap, cur, rfl, _⟩
  · exact ⟨none, 0, by rw [h0]⟩
  · exact ⟨_, _, rfl⟩
/-! a method with a value receiver, called through the pointer -/
theorem load_w (w : World) (P : Nat) (v : Value) (h : w.cell? ⟨P, 0, none⟩ = some v) : (load ⟨P, 0, none⟩).run Try.prog w = .ok v w := by
  simp [go_sem, h]
theorem loadv_w (w : World) (P : Nat) (v : Value) (h : w.cell? ⟨P, 0, none⟩ = some v) : (loadVar 85 ⟨P, 0, none⟩).run Try.prog w = .ok v w := by
  have hi : (isAgg 85).run Try.prog w = .ok false w := by kernel_rfl
  unfold loadVar
  rw [Sem.run_bind, hi]
  exact load_w w P v h
theorem recv_w (w : World) (P : Nat) (v : Value) (n : String) (h : w.cell? ⟨P, 0, none⟩ = some v) : (receiverAt 81 (.val (.pointer (some ⟨P, 0, none⟩))) false (some n)).run Try.prog w = .ok v w := by
  have hu : (underlying 81).run Try.prog w = .ok (.pointer 85) w := by kernel_rfl
  unfold receiverAt
  rw [Sem.run_bind, hu]
  have h2 : (Builtin.ssaWrapNilChk_ #[81] 81 #[.pointer (some ⟨P, 0, none⟩), strVal "", strVal n]).run Try.prog w = .ok (.pointer (some ⟨P, 0, none⟩)) w := by kernel_rfl
  simp only [Result.andThen_ok, Sem.run_bind, h2, Place.get, Sem.run_pure]
  exact loadv_w w P v h
theorem TM.mL {w : World} {base P : Nat} {v : Value} {l : List Tm} (h : TM w base P v l) : (method 232 81 (.pointer (some ⟨P, 0, none⟩)) "Less").run Try.prog w = .ok (103, v) w := by
  obtain ⟨t, ht, hm⟩ : ∃ t, (typeInfo 81).run Try.prog w = .ok t w ∧ (t.methods.find? (·.name == "Less")).map (fun m => (m.path, m.func)) = some (#[], some (103, false)) := ⟨Try.prog.types[81]'(by rw [show Try.prog.types.size = 132 by kernel_rfl]; decide), by kernel_rfl, by kernel_rfl⟩
  obtain ⟨m, hf, hm⟩ := Option.map_eq_some_iff.1 hm
  simp only [Prod.mk.injEq] at hm
  unfold method
  simp only [Sem.run_bind, ht, Result.andThen_ok, hf, hm.1, hm.2, follow, Sem.run_pure]
  rw [if_pos (by rfl), recv_w w P v _ ((h.box.cell 0).trans rfl)]
  rfl
theorem TM.mS {w : World} {base P : Nat} {v : Value} {l : List Tm} (h : TM w base P v l) : (method 232 81 (.pointer (some ⟨P, 0, none⟩)) "Swap").run Try.prog w = .ok (106, v) w := by
  obtain ⟨t, ht, hm⟩ : ∃ t, (typeInfo 81).run Try.prog w = .ok t w ∧ (t.methods.find? (·.name == "Swap")).map (fun m => (m.path, m.func)) = some (#[], some (106, false)) := ⟨Try.prog.types[81]'(by rw [show Try.prog.types.size = 132 by kernel_rfl]; decide), by kernel_rfl, by kernel_rfl⟩
  obtain ⟨m, hf, hm⟩ := Option.map_eq_some_iff.1 hm
  simp only [Prod.mk.injEq] at hm
  unfold method
  simp only [Sem.run_bind, ht, Result.andThen_ok, hf, hm.1, hm.2, follow, Sem.run_pure]
  rw [if_pos (by rfl), recv_w w P v _ ((h.box.cell 0).trans rfl)]
  rfl
theorem TM.mN {w : World} {base P : Nat} {v : Value} {l : List Tm} (h : TM w base P v l) : (method 232 81 (.pointer (some ⟨P, 0, none⟩)) "Len").run Try.prog w = .ok (54, v) w := by
  obtain ⟨t, ht, hm⟩ : ∃ t, (typeInfo 81).run Try.prog w = .ok t w ∧ (t.methods.find? (·.name == "Len")).map (fun m => (m.path, m.func)) = some (#[], some (54, false)) := ⟨Try.prog.types[81]'(by rw [show Try.prog.types.size = 132 by kernel_rfl]; decide), by kernel_rfl, by kernel_rfl⟩
  obtain ⟨m, hf, hm⟩ := Option.map_eq_some_iff.1 hm
  simp only [Prod.mk.injEq] at hm
  unfold method
  simp only [Sem.run_bind, ht, Result.andThen_ok, hf, hm.1, hm.2, follow, Sem.run_pure]
  rw [if_pos (by rfl), recv_w w P v _ ((h.box.cell 0).trans rfl)]
  rfl
theorem len_any (w : World) (base P : Nat) (v : Value) (l : List Tm) (h : TM w base P v l) : Calls Try.prog 54 #[v] w fun x w' => x = .returned (.int .i64 (l.length : Int)) ∧ w = w' := by
  obtain ⟨a, c, rfl⟩ := h.form
  obtain ⟨N, hN⟩ : ∃ N, l.length = N := ⟨_, rfl⟩
  rw [hN]
  clear h hN
  go_enter Try.func54, Try.ntmps54
  go_wp2_with fail
  go_ret
  exact ⟨rfl, rfl⟩
set_option maxHeartbeats 2000000 in
theorem less_any (w : World) (base P : Nat) (v : Value) (l : List Tm) (i j : Nat) (hi : i < l.length) (hj : j < l.length) (h : TM w base P v l) : Calls Try.prog 103 #[v, .int .i64 (i : Int), .int .i64 (j : Int)] w fun x w' => x = .returned (.bool (decide (ltT (g l i) (g l j)))) ∧ Below w.heap.size w w' := by
  obtain ⟨a, c, rfl⟩ := h.form
  obtain ⟨N, hN⟩ : ∃ N, l.length = N := ⟨_, rfl⟩
  have hlen := h.len
  have hrow := h.row
  rw [hN] at hlen hrow hi hj
  obtain ⟨q, rfl, hq1, hq2⟩ := OwM.addr hrow (by omega)
  obtain ⟨g0, g1⟩ := OwM.at hrow hN i hi
  obtain ⟨p0, p1⟩ := OwM.at hrow hN j hj
  obtain ⟨t, HT⟩ : ∃ t, Hid (g l i = t) := ⟨_, rfl⟩
  obtain ⟨u, HU⟩ : ∃ u, Hid (g l j = u) := ⟨_, rfl⟩
  rw [HT.out] at g0 g1
  rw [HU.out] at p0 p1
  rw [HT.out, HU.out, hN]
  have i1 : (0 : Int) ≤ (i : Int) := by omega
  have i2 : (i : Int) < (N : Int) := by omega
  have hwi : IntKind.i64.wrap (i : Int) = (i : Int) := IntWalk.i64_in _ (by omega)
  have j1 : (0 : Int) ≤ (j : Int) := by omega
  have j2 : (j : Int) < (N : Int) := by omega
  have hwj : IntKind.i64.wrap (j : Int) = (j : Int) := IntWalk.i64_in _ (by omega)
  obtain ⟨b, hb⟩ : ∃ b, decide (ltT t u) = b := ⟨_, rfl⟩
  rw [hb]
  have hb2 : decide (t.tk < u.tk) = b := by rw [← hb]; rfl
  clear h hN hlen hrow hb
  go_enter Try.func103, Try.ntmps103
  go_upto_region 1 with fail
  go_quiet (fail)
  go_wp2_with fail
  go_ret
  exact ⟨rfl, below_drewN (Below.refl _ _) _⟩
set_option maxHeartbeats 8000000 in
theorem swap_any (w : World) (base P : Nat) (v : Value) (l : List Tm) (i j : Nat) (hi : i < l.length) (hj : j < l.length) (h : TM w base P v l) : Calls Try.prog 106 #[v, .int .i64 (i : Int), .int .i64 (j : Int)] w fun x w' => x = .returned (.tuple #[]) ∧ TM w' base P v (swp l i j) ∧ Kx (fun k => v.ownBlock = some k) w w' := by
  have hne := fun q => h.ne (q := q)
  obtain ⟨a, c, rfl⟩ := h.form
  obtain ⟨N, hN⟩ : ∃ N, l.length = N := ⟨_, rfl⟩
  have hlen := h.len
  have hrow := h.row
  have hbox := h.box
  rw [hN] at hlen hrow hi hj hbox
  obtain ⟨q, rfl, hq1, hq2⟩ := OwM.addr hrow (by omega)
  have hPq : P ≠ q := hne q rfl
  have h0 : w.cell? ⟨P, 0, none⟩ = some (.slice (some ⟨q, 0, none⟩) N c) := (hbox.cell 0).trans rfl
  obtain ⟨g0, g1⟩ := OwM.at hrow hN i hi
  obtain ⟨p0, p1⟩ := OwM.at hrow hN j hj
  obtain ⟨t, HT⟩ : ∃ t, Hid (g l i = t) := ⟨_, rfl⟩
  obtain ⟨u, HU⟩ : ∃ u, Hid (g l j = u) := ⟨_, rfl⟩
  rw [HT.out] at g0 g1
  rw [HU.out] at p0 p1
  obtain ⟨W, hW⟩ : ∃ W : World, W = w.drew := ⟨_, rfl⟩
  have hdr : Below w.heap.size w W := by rw [hW]; exact (Below.refl _ w).drew
  have hboxW := hbox.below hdr
  have hrowW := OwM.keep hrow hdr
  have hti := OwM.there hrowW hN i hi
  have hth : (W.setCells q (i * 2) (Tm.cs u)).there q (j * 2) 2 := OwM.there (OwM.set hrowW hN i hi u) (by rw [List.length_set]; exact hN) j hj
  have hz0 : (W.setCells q (i * 2) (Tm.cs u)).cell? ⟨P, 0, none⟩ = some (.slice (some ⟨q, 0, none⟩) N c) := (Kx.setCells (X := fun k => k = q) (Kx.refl _ W) (.inl rfl) (i * 2) (Tm.cs u)).cell (p := ⟨P, 0, none⟩) (fun e => hPq e) ((hboxW.cell 0).trans rfl)
  have hz1 : ((W.setCells q (i * 2) (Tm.cs u)).setCells q (j * 2) (Tm.cs t)).cell? ⟨P, 0, none⟩ = some (.slice (some ⟨q, 0, none⟩) N c) := (Kx.setCells (X := fun k => k = q) (Kx.refl _ (W.setCells q (i * 2) (Tm.cs u))) (.inl rfl) (j * 2) (Tm.cs t)).cell (p := ⟨P, 0, none⟩) (fun e => hPq e) hz0
  have HFIN : Hid (TM ((W.setCells q (i * 2) (Tm.cs u)).setCells q (j * 2) (Tm.cs t)) base P (.slice (some ⟨q, 0, none⟩) N c) (swp l i j) ∧ Kx (fun k => (Value.slice (some ⟨q, 0, none⟩) N c).ownBlock = some k) w ((W.setCells q (i * 2) (Tm.cs u)).setCells q (j * 2) (Tm.cs t))) := by
    have hk : Kx (fun k => (Value.slice (some ⟨q, 0, none⟩) N c).ownBlock = some k) w ((W.setCells q (i * 2) (Tm.cs u)).setCells q (j * 2) (Tm.cs t)) := Kx.setCells (X := fun k => (Value.slice (some ⟨q, 0, none⟩) N c).ownBlock = some k) (Kx.setCells (X := fun k => (Value.slice (some ⟨q, 0, none⟩) N c).ownBlock = some k) (Kx.of_below hdr) (.inl rfl) _ _) (.inl rfl) _ _
    refine ⟨⟨hk.box (fun e => by have e2 : some q = some P := e; simp only [Option.some.injEq] at e2; exact hPq e2.symm) hbox, ?_, by rw [swp_len, hN]; exact hlen, h.ge⟩, hk⟩
    rw [swp_len, hN]
    have h1 := OwM.set hrowW hN i hi u
    have h2 := OwM.set h1 (by rw [List.length_set]; exact hN) j hj t
    unfold swp
    rw [HU.out, HT.out]
    exact h2
  have i1 : (0 : Int) ≤ (i : Int) := by omega
  have i2 : (i : Int) < (N : Int) := by omega
  have hwi : IntKind.i64.wrap (i : Int) = (i : Int) := IntWalk.i64_in _ (by omega)
  have j1 : (0 : Int) ≤ (j : Int) := by omega
  have j2 : (j : Int) < (N : Int) := by omega
  have hwj : IntKind.i64.wrap (j : Int) = (j : Int) := IntWalk.i64_in _ (by omega)
  rw [hN]
  clear h hN hlen hrow hbox hne hrowW hboxW hdr
  rw [hW] at hti hth hz0 hz1 HFIN
  clear hW
  go_enter Try.func106, Try.ntmps106
  go_upto_region 0 with fail
  refine wp_region_noPanic ?_
  refine wp_region_late (fun _ => True) (fun w' => Below w.heap.size w w') [13, 15] (by kernel_rfl) trivial ((Below.refl _ w).drew) (fun hHeld0 hHeld => ?_)
  refine reg0_tk (v := ?_) 0 6 rfl rfl (by kernel_rfl) (by kernel_rfl) (by kernel_rfl) (by kernel_rfl) (by kernel_rfl) (fun _ _ _ h => h) (by rfl) ?_ (by assumption) (by assumption) ?_
  rotate_left
  · (intro w3 hS; (try dsimp only at hS); skip; go_simp; (try with_reducible rfl))
  simp only [List.setIfInBounds_toArray, List.set_cons_zero, List.set_cons_succ]
  refine reg0_tk (v := ?_) 1 7 rfl rfl (by kernel_rfl) (by kernel_rfl) (by kernel_rfl) (by kernel_rfl) (by kernel_rfl) (fun _ _ _ h => h) (by rfl) ?_ (by assumption) (by assumption) ?_
  rotate_left
  · (intro w3 hS; (try dsimp only at hS); skip; go_simp; (try with_reducible rfl))
  simp only [List.setIfInBounds_toArray, List.set_cons_zero, List.set_cons_succ]
  refine reg0_tk (v := ?_) 2 8 rfl rfl (by kernel_rfl) (by kernel_rfl) (by kernel_rfl) (by kernel_rfl) (by kernel_rfl) (fun _ _ _ h => h) (by rfl) ?_ (by assumption) (by assumption) ?_
  rotate_left
  · (intro w3 hS; (try dsimp only at hS); skip; go_simp; (try with_reducible rfl))
  simp only [List.setIfInBounds_toArray, List.set_cons_zero, List.set_cons_succ]
  refine reg0_tk (v := ?_) 3 9 rfl rfl (by kernel_rfl) (by kernel_rfl) (by kernel_rfl) (by kernel_rfl) (by kernel_rfl) (fun _ _ _ h => h) (by rfl) ?_ (by assumption) (by assumption) ?_
  rotate_left
  · (intro w3 hS; (try dsimp only at hS); skip; go_simp; (try with_reducible rfl))
  simp only [List.setIfInBounds_toArray, List.set_cons_zero, List.set_cons_succ]
  refine reg0_tk (v := ?_) 4 10 rfl rfl (by kernel_rfl) (by kernel_rfl) (by kernel_rfl) (by kernel_rfl) (by kernel_rfl) (fun _ _ _ h => h) (by rfl) ?_ (by assumption) (by assumption) ?_
  rotate_left
  · (intro w3 hS; (try dsimp only at hS); skip; go_simp; (try with_reducible rfl))
  simp only [List.setIfInBounds_toArray, List.set_cons_zero, List.set_cons_succ]
  refine reg0_tk (v := ?_) 5 11 rfl rfl (by kernel_rfl) (by kernel_rfl) (by kernel_rfl) (by kernel_rfl) (by kernel_rfl) (fun _ _ _ h => h) (by rfl) ?_ (by assumption) (by assumption) ?_
  rotate_left
  · (intro w3 hS; (try dsimp only at hS); skip; go_simp; (try with_reducible rfl))
  simp only [List.setIfInBounds_toArray, List.set_cons_zero, List.set_cons_succ]
  refine reg0_tk (v := ?_) 6 12 rfl rfl (by kernel_rfl) (by kernel_rfl) (by kernel_rfl) (by kernel_rfl) (by kernel_rfl) (fun _ _ _ h => h) (by rfl) ?_ (by assumption) (by assumption) ?_
  rotate_left
  · (intro w3 hS; (try dsimp only at hS); skip; go_simp; (try with_reducible rfl))
  simp only [List.setIfInBounds_toArray, List.set_cons_zero, List.set_cons_succ]
  refine regG_tk (v := ?_) 7 13 rfl rfl (by kernel_rfl) (by kernel_rfl) (by kernel_rfl) (by kernel_rfl) (by kernel_rfl) (fun _ _ _ h => h) (by rfl) ?_ (by assumption) (by assumption) ?_
  rotate_left
  · (intro w3 hS; (try dsimp only at hS); (have x0 := cell_later hS p0; have x1 := cell_later hS p1); go_simp; (try with_reducible rfl))
  simp only [List.setIfInBounds_toArray, List.set_cons_zero, List.set_cons_succ]
  refine reg0_tk (v := ?_) 8 14 rfl rfl (by kernel_rfl) (by kernel_rfl) (by kernel_rfl) (by kernel_rfl) (by kernel_rfl) (fun _ _ _ h => h) (by rfl) ?_ (by assumption) (by assumption) ?_
  rotate_left
  · (intro w3 hS; (try dsimp only at hS); skip; go_simp; (try with_reducible rfl))
  simp only [List.setIfInBounds_toArray, List.set_cons_zero, List.set_cons_succ]
  refine reg0_tk (v := ?_) 9 15 rfl rfl (by kernel_rfl) (by kernel_rfl) (by kernel_rfl) (by kernel_rfl) (by kernel_rfl) (fun _ _ _ h => h) (by rfl) ?_ (by assumption) (by assumption) ?_
  rotate_left
  · (intro w3 hS; (try dsimp only at hS); skip; go_simp; (try with_reducible rfl))
  simp only [List.setIfInBounds_toArray, List.set_cons_zero, List.set_cons_succ]
  refine reg0_tk (v := ?_) 10 16 rfl rfl (by kernel_rfl) (by kernel_rfl) (by kernel_rfl) (by kernel_rfl) (by kernel_rfl) (fun _ _ _ h => h) (by rfl) ?_ (by assumption) (by assumption) ?_
  rotate_left
  · (intro w3 hS; (try dsimp only at hS); skip; go_simp; (try with_reducible rfl))
  simp only [List.setIfInBounds_toArray, List.set_cons_zero, List.set_cons_succ]
  refine regG_tk (v := ?_) 11 17 rfl rfl (by kernel_rfl) (by kernel_rfl) (by kernel_rfl) (by kernel_rfl) (by kernel_rfl) (fun _ _ _ h => h) (by rfl) ?_ (by assumption) (by assumption) ?_
  rotate_left
  · (intro w3 hS; (try dsimp only at hS); (have x0 := cell_later hS g0; have x1 := cell_later hS g1); go_simp; (try with_reducible rfl))
  simp only [List.setIfInBounds_toArray, List.set_cons_zero, List.set_cons_succ]
  refine reg0_tk (v := ?_) 12 18 rfl rfl (by kernel_rfl) (by kernel_rfl) (by kernel_rfl) (by kernel_rfl) (by kernel_rfl) (fun _ _ _ h => h) (by rfl) ?_ (by assumption) (by assumption) ?_
  rotate_left
  · (intro w3 hS; (try dsimp only at hS); skip; go_simp; (try with_reducible rfl))
  simp only [List.setIfInBounds_toArray, List.set_cons_zero, List.set_cons_succ]
  refine wpAnyG_one (i := 13) (by kernel_rfl) rfl (by rfl) (by kernel_rfl) (fun K hK => ?_)
  refine wp_store_tm (.tmp 18) (.tmp 13) rfl q (i * 2) u rfl rfl hti ?_
  refine hK _ _ trivial ?_
  clear hK K
  try simp only [Act.put, List.setIfInBounds_toArray, List.set_cons_zero, List.set_cons_succ]
  refine wpAnyG_one (i := 14) (by kernel_rfl) rfl (by rfl) (by kernel_rfl) (fun K hK => ?_)
  go_simp
  refine hK _ _ trivial ?_
  clear hK K
  try simp only [Act.put, List.setIfInBounds_toArray, List.set_cons_zero, List.set_cons_succ]
  refine wpAnyG_one (i := 15) (by kernel_rfl) rfl (by rfl) (by kernel_rfl) (fun K hK => ?_)
  refine wp_store_tm (.tmp 19) (.tmp 17) rfl q (j * 2) t rfl rfl hth ?_
  refine hK _ _ trivial ?_
  clear hK K
  try simp only [Act.put, List.setIfInBounds_toArray, List.set_cons_zero, List.set_cons_succ]
  refine wpAnyG_done (by kernel_rfl) ?_ _
  refine NoPanic.normal ?_
  exact bodyPost_end (results_none rfl _ _ _) rfl ⟨rfl, HFIN.out⟩
/-- what calls at the timers leave behind -/
structure TR (w : World) (P : Nat) (v : Value) (w' : World) (v' : Value) : Prop where
  kx : Kx (Xs P v) w w'
  blk : ∀ k, v'.ownBlock = some k → v.ownBlock = some k ∨ w.heap.size ≤ k
theorem TR.of_below {w w' : World} {P : Nat} {v : Value} (h : Below w.heap.size w w') : TR w P v w' v := ⟨Kx.of_below h, fun _ h => .inl h⟩
theorem TR.trans {w w1 w2 : World} {P : Nat} {v v1 v2 : Value} (h : TR w P v w1 v1) (h2 : TR w1 P v1 w2 v2) : TR w P v w2 v2 :=
  ⟨h.kx.trans h2.kx fun k hk hy => by
    rcases hy with hy | hy
    · exact .inl hy
    · rcases h.blk k hy with h3 | h3
      · exact .inr h3
      · omega, fun k hk => by
    rcases h2.blk k hk with h3 | h3
    · exact h.blk k h3
    · exact .inr (Nat.le_trans h.kx.size h3)⟩
theorem TR.next {w w1 w2 : World} {P : Nat} {v v1 : Value} (h : TR w P v w1 v1) (h2 : Below w1.heap.size w1 w2) : TR w P v w2 v1 := h.trans (TR.of_below h2)
theorem TR.below {w w' : World} {base P : Nat} {v v' : Value} {l : List Tm} (h : TR w P v w' v') (ht : TM w base P v l) : Below base w w' :=
  h.kx.below (by have := ht.ge; have := ht.box.lt; omega) (fun k hk => by
    rcases hk with rfl | hk
    · exact ht.ge
    · exact (ht.row.lt k hk).1)
theorem TR.swap {w w' : World} {P : Nat} {v : Value} (h : Kx (fun k => v.ownBlock = some k) w w') : TR w P v w' v := ⟨h.mono (fun k hk => .inr hk), fun _ h => .inl h⟩
theorem ETt : ElemOk Try.prog 85 83 (.agg #[.int .i64 0, .int .i64 0]) 2 16 := ⟨Try.underlying85, by kernel_rfl, rfl, by decide⟩
set_option maxHeartbeats 4000000 in
theorem push_any (w : World) (base P : Nat) (v : Value) (l : List Tm) (x : Tm) (hl : l.length < 100000) (h : TM w base P v l) : Calls Try.prog 105 #[.pointer (some ⟨P, 0, none⟩), .iface 83 x.v] w fun e w' => e = .returned (.tuple #[]) ∧ ∃ v', TM w' base P v' (l ++ [x]) ∧ TR w P v w' v' := by
  have hnb := fun q => h.ne (q := q)
  obtain ⟨N, hN⟩ : ∃ N, l.length = N := ⟨_, rfl⟩
  have hrow := h.row
  have hge := h.ge
  have hPl := h.box.lt
  rw [hN] at hrow hl
  have hdr : Below w.heap.size w w.drew := (Below.refl _ w).drew
  have hbox0 := h.box
  have hbox := h.box.below hdr
  have h0 : w.drew.cell? ⟨P, 0, none⟩ = some v := (hbox.cell 0).trans rfl
  have HRW := Lib.hid (OwM.keep hrow hdr)
  have hone := World.ownsRow.lt hrow
  have hta : ∀ w : World, (Instr.typeAssert (.iface 83 x.v) 20 83 false).run Try.prog w = .ok x.v w := fun w => by kernel_rfl
  clear h
  go_enter Try.func105, Try.ntmps105
  go_upto_region 0 with fail
  refine wp_region_noPanic ?_
  refine wp_region_late (fun _ => True) (fun w' => w'.cell? ⟨P, 0, none⟩ = some v) [9] (by kernel_rfl) trivial h0 (fun hHeld0 hHeld => ?_)
  refine reg0_tk (v := ?_) 0 4 rfl rfl (by kernel_rfl) (by kernel_rfl) (by kernel_rfl) (by kernel_rfl) (by kernel_rfl) (fun _ _ _ h => h) (by rfl) ?_ (by assumption) (by assumption) ?_
  rotate_left
  · (intro w3 hS; (try dsimp only at hS); skip; go_simp; (try with_reducible rfl))
  simp only [List.setIfInBounds_toArray, List.set_cons_zero, List.set_cons_succ]
  refine reg0_tk (v := ?_) 1 5 rfl rfl (by kernel_rfl) (by kernel_rfl) (by kernel_rfl) (by kernel_rfl) (by kernel_rfl) (fun _ _ _ h => h) (by rfl) ?_ (by assumption) (by assumption) ?_
  rotate_left
  · (intro w3 hS; (try dsimp only at hS); skip; go_simp; (try with_reducible rfl))
  simp only [List.setIfInBounds_toArray, List.set_cons_zero, List.set_cons_succ]
  refine reg0_tk (v := ?_) 2 6 rfl rfl (by kernel_rfl) (by kernel_rfl) (by kernel_rfl) (by kernel_rfl) (by kernel_rfl) (fun _ _ _ h => h) (by rfl) ?_ (by assumption) (by assumption) ?_
  rotate_left
  · (intro w3 hS; (try dsimp only at hS); skip; go_simp; (try with_reducible rfl))
  simp only [List.setIfInBounds_toArray, List.set_cons_zero, List.set_cons_succ]
  refine regG_tk (v := ?_) 3 7 rfl rfl (by kernel_rfl) (by kernel_rfl) (by kernel_rfl) (by kernel_rfl) (by kernel_rfl) (fun _ _ _ h => h) (by rfl) ?_ (by assumption) (by assumption) ?_
  rotate_left
  · (intro w3 hS; (try dsimp only at hS); skip; go_simp; (try with_reducible rfl))
  simp only [List.setIfInBounds_toArray, List.set_cons_zero, List.set_cons_succ]
  refine reg0_tk (v := ?_) 4 8 rfl rfl (by kernel_rfl) (by kernel_rfl) (by kernel_rfl) (by kernel_rfl) (by kernel_rfl) (fun _ _ _ h => h) (by rfl) ?_ (by assumption) (by assumption) ?_
  rotate_left
  · (intro w3 hS; (try dsimp only at hS); skip; go_simp; (try with_reducible rfl))
  simp only [List.setIfInBounds_toArray, List.set_cons_zero, List.set_cons_succ]
  refine reg0_tk (v := ?_) 5 9 rfl rfl (by kernel_rfl) (by kernel_rfl) (by kernel_rfl) (by kernel_rfl) (by kernel_rfl) (fun _ _ _ h => h) (by rfl) ?_ (by assumption) (by assumption) ?_
  rotate_left
  · (intro w3 hS; (try dsimp only at hS); have hq := hta; go_simp; (try with_reducible rfl))
  simp only [List.setIfInBounds_toArray, List.set_cons_zero, List.set_cons_succ]
  obtain ⟨X, hX⟩ : ∃ X : World, X = (w.alloc (.cells #[.int .i64 x.nd, .int .i64 x.tk] 83)).drew := ⟨_, rfl⟩
  have hXb : Below w.heap.size w X := by rw [hX]; exact (Below.al (Below.refl _ w) _).drew
  have hXn : RdS X 2 (.slice (some ⟨w.heap.size, 0, none⟩) 1 1) 1 (Tm.cs x) := by rw [hX]; exact (RdS.box1 w 83 x).keep ((Below.refl _ _).drew)
  have hX0 : X.cell? ⟨P, 0, none⟩ = some v := cell_later hXb ((hbox0.cell 0).trans rfl)
  have hXz : w.heap.size ≤ X.heap.size := hXb.size
  have hXo := OwM.keep hrow hXb
  refine wpAnyG_oneS (i := 6) (by kernel_rfl) rfl (by rfl) (fun K hK => ?_)
  go_simp
  rw [← hX]
  clear hX
  refine hK _ _ trivial hX0 ?_
  clear hK K
  try simp only [Act.put, List.setIfInBounds_toArray, List.set_cons_zero, List.set_cons_succ]
  refine wpAnyG_oneS (i := 7) (by kernel_rfl) rfl (by rfl) (fun K hK => ?_)
  refine wp_app_at (.tmp 7) (.tmp 10) 85 rfl base 83 _ 2 16 ETt v N (rcs tmR l) rfl hXo _ 1 (Tm.cs x) (by decide) rfl hXn (Tm.cs_one _) (by unfold maxLen; omega) (by omega) (by omega) ?_
  intro a' c' w3 hown hg hwh
  have hx3 : w3.heap[P]? = X.heap[P]? := hg.block P (by omega) (fun e => hnb P e.symm rfl)
  have hX3 : w3.cell? ⟨P, 0, none⟩ = some v := (World.cell?_of_block (w := X) (a := ⟨P, 0, none⟩) hx3).trans hX0
  have hb3 : BoxN w3 P 85 #[v] := hx3.trans (hbox0.below hXb)
  refine hK _ _ trivial hX3 ?_
  clear hK K
  try simp only [Act.put, List.setIfInBounds_toArray, List.set_cons_zero, List.set_cons_succ]
  refine wpAnyG_oneS (i := 8) (by kernel_rfl) rfl (by rfl) (fun K hK => ?_)
  go_simp
  refine hK _ _ trivial hX3 ?_
  clear hK K
  try simp only [Act.put, List.setIfInBounds_toArray, List.set_cons_zero, List.set_cons_succ]
  refine wpAnyG_one (i := 9) (by kernel_rfl) rfl (by rfl) (by kernel_rfl) (fun K hK => ?_)
  have hf3 := hb3.frozen 0
  go_simp
  have hne3 := row_ne hown hb3 (by decide)
  have HFIN : Hid (∃ v', TM (w3.setCell ⟨P, 0, none⟩ (.slice a' (N + 1) c')) base P v' (l ++ [x]) ∧ TR w P v (w3.setCell ⟨P, 0, none⟩ (.slice a' (N + 1) c')) v') := by
    have hk3 : Kx (Xs P v) w w3 := (Kx.of_below hXb).grown hg (fun k hk => .inl (.inr hk))
    refine ⟨.slice a' (N + 1) c', ⟨hb3.set1 _, ?_, by rw [List.length_append, hN]; simp; omega, hge⟩, ⟨hk3.setCell (.inl (.inl rfl)) _, fun k hk => ?_⟩⟩
    · rw [List.length_append, hN, show rcs tmR (l ++ [x]) = rcs tmR l ++ Tm.cs x by rw [rcs_append]; simp [rcs, tmR]]
      exact (Kx.setCell (X := fun k => k = P) (Kx.refl _ w3) (.inl rfl) _).owns (fun k hk he => hne3 k hk he.symm) hown
    · rcases hwh k hk with h1 | h1
      · exact .inl h1
      · exact .inr (by omega)
  refine hK _ _ trivial ?_
  clear hK K
  try simp only [Act.put, List.setIfInBounds_toArray, List.set_cons_zero, List.set_cons_succ]
  refine wpAnyG_done (by kernel_rfl) ?_ _
  refine NoPanic.normal ?_
  exact bodyPost_end (results_none rfl _ _ _) rfl ⟨rfl, HFIN.out⟩
set_option maxHeartbeats 4000000 in
theorem pop_any (w : World) (base P : Nat) (v : Value) (l : List Tm) (m : Nat) (hl : l.length = m + 1) (h : TM w base P v l) : Calls Try.prog 104 #[.pointer (some ⟨P, 0, none⟩)] w fun e w' => e = .returned (.iface 83 (g l m).v) ∧ ∃ v', TM w' base P v' (l.take m) ∧ TR w P v w' v' ∧ ∀ k, v'.ownBlock = some k → v.ownBlock = some k := by
  obtain ⟨a, c, rfl⟩ := h.form
  have hlen := h.len
  have hge := h.ge
  have hrow := h.row
  have hbox := h.box
  have hnb := fun q => h.ne (q := q)
  have hm0 : m < l.length := by omega
  rw [hl] at hlen hrow hbox hnb
  obtain ⟨q, rfl, hq1, hq2⟩ := OwM.addr hrow (by omega)
  have hPq : P ≠ q := hnb q rfl
  have hPl := hbox.lt
  have hcap : m + 1 ≤ c := by
    rcases hrow.2 with ⟨h0, _⟩ | ⟨g, cap, cur, hv, _, _, hc, _⟩
    · simp at h0
    · simp only [Value.slice.injEq] at hv; omega
  have h0 : w.cell? ⟨P, 0, none⟩ = some (.slice (some ⟨q, 0, none⟩) (m + 1) c) := (hbox.cell 0).trans rfl
  obtain ⟨g0, g1⟩ := OwM.at hrow hl m (by omega)
  obtain ⟨x, HX⟩ : ∃ x, Hid (g l m = x) := ⟨_, rfl⟩
  rw [HX.out] at g0 g1
  rw [HX.out, hl]
  have hw1 : IntKind.i64.wrap ((m : Int) + 1 - 1) = (m : Int) := by rw [show (m : Int) + 1 - 1 = (m : Int) by omega]; exact IntWalk.i64_in _ (by omega)
  have hwm : IntKind.i64.wrap (m : Int) = (m : Int) := IntWalk.i64_in _ (by omega)
  have i1 : (0 : Int) ≤ (m : Int) := by omega
  have i2 : (m : Int) < (m : Int) + 1 := by omega
  have hsl := slice_hi q (m + 1) c m (by omega) hcap (by omega)
  clear h hnb
  obtain ⟨X1, hX1⟩ : ∃ X : World, X = (w.alloc (.cells #[.int .i64 0, .int .i64 0] 83)).drew := ⟨_, rfl⟩
  have hb1 : BoxN X1 w.heap.size 83 #[.int .i64 0, .int .i64 0] := by rw [hX1]; exact (BoxN.new w _ _).below (Below.refl _ _).drew
  have hBX1 : Below w.heap.size w X1 := by rw [hX1]; exact (Below.al (Below.refl _ w) _).drew
  obtain ⟨X2, hX2⟩ : ∃ X : World, X = X1.setCells w.heap.size 0 (Tm.cs x) := ⟨_, rfl⟩
  have hb2 : BoxN X2 w.heap.size 83 #[.int .i64 x.nd, .int .i64 x.tk] := by rw [hX2]; exact hb1.sets (Tm.cs x) rfl
  have hBX2 : Below w.heap.size w X2 := by
    rw [hX2]
    exact (Kx.setCells (X := fun k => k = w.heap.size) (Kx.of_below hBX1) (.inl rfl) _ _).below (Nat.le_refl _) (fun k hk => by have hk : k = w.heap.size := hk; omega)
  go_enter Try.func104, Try.ntmps104
  go_upto_region 1 with fail
  refine wp_region_noPanic ?_
  refine wp_region_held_drew (S := (fun w' => Below w.heap.size w w')) (by kernel_rfl) ((Below.refl _ w).drew) (fun hHeld => ?_)
  refine reg_tk (v := ?_) 0 4 rfl rfl (by kernel_rfl) (by kernel_rfl) (by kernel_rfl) (fun _ _ _ h => h) (by rfl) ?_ (by assumption) ?_
  rotate_left
  · (intro w hSw; (try dsimp only at hSw); go_simp; (try with_reducible rfl))
  simp only [List.setIfInBounds_toArray, List.set_cons_zero, List.set_cons_succ]
  refine reg_tk (v := ?_) 1 5 rfl rfl (by kernel_rfl) (by kernel_rfl) (by kernel_rfl) (fun _ _ _ h => h) (by rfl) ?_ (by assumption) ?_
  rotate_left
  · (intro w hSw; (try dsimp only at hSw); go_simp; (try with_reducible rfl))
  simp only [List.setIfInBounds_toArray, List.set_cons_zero, List.set_cons_succ]
  refine reg_tk (v := .slice (some ⟨q, 0, none⟩) (m + 1) c) 2 6 rfl rfl (by kernel_rfl) (by kernel_rfl) (by kernel_rfl) (fun _ _ _ h => h) (by rfl) (fun w3 hS => by have hg := cell_later hS h0; go_simp) (by assumption) ?_
  simp only [List.setIfInBounds_toArray, List.set_cons_zero, List.set_cons_succ]
  refine reg_tk (v := ?_) 3 7 rfl rfl (by kernel_rfl) (by kernel_rfl) (by kernel_rfl) (fun _ _ _ h => h) (by rfl) ?_ (by assumption) ?_
  rotate_left
  · (intro w hSw; (try dsimp only at hSw); go_simp; (try with_reducible rfl))
  simp only [List.setIfInBounds_toArray, List.set_cons_zero, List.set_cons_succ]
  refine reg_tk (v := ?_) 4 8 rfl rfl (by kernel_rfl) (by kernel_rfl) (by kernel_rfl) (fun _ _ _ h => h) (by rfl) ?_ (by assumption) ?_
  rotate_left
  · (intro w hSw; (try dsimp only at hSw); go_simp; (try with_reducible rfl))
  simp only [List.setIfInBounds_toArray, List.set_cons_zero, List.set_cons_succ]
  refine reg_tk (v := .slice (some ⟨q, 0, none⟩) (m + 1) c) 5 9 rfl rfl (by kernel_rfl) (by kernel_rfl) (by kernel_rfl) (fun _ _ _ h => h) (by rfl) (fun w3 hS => by have hg := cell_later hS h0; go_simp) (by assumption) ?_
  simp only [List.setIfInBounds_toArray, List.set_cons_zero, List.set_cons_succ]
  refine reg_tk (v := ?_) 6 10 rfl rfl (by kernel_rfl) (by kernel_rfl) (by kernel_rfl) (fun _ _ _ h => h) (by rfl) ?_ (by assumption) ?_
  rotate_left
  · (intro w hSw; (try dsimp only at hSw); go_simp; (try with_reducible rfl))
  simp only [List.setIfInBounds_toArray, List.set_cons_zero, List.set_cons_succ]
  refine reg_tk (v := ?_) 7 11 rfl rfl (by kernel_rfl) (by kernel_rfl) (by kernel_rfl) (fun _ _ _ h => h) (by rfl) ?_ (by assumption) ?_
  rotate_left
  · (intro w hSw; (try dsimp only at hSw); go_simp; (try with_reducible rfl))
  simp only [List.setIfInBounds_toArray, List.set_cons_zero, List.set_cons_succ]
  refine reg_tk (v := ?_) 8 12 rfl rfl (by kernel_rfl) (by kernel_rfl) (by kernel_rfl) (fun _ _ _ h => h) (by rfl) ?_ (by assumption) ?_
  rotate_left
  · (intro w hSw; (try dsimp only at hSw); go_simp; (try with_reducible rfl))
  simp only [List.setIfInBounds_toArray, List.set_cons_zero, List.set_cons_succ]
  refine reg_tk (v := x.v) 9 13 rfl rfl (by kernel_rfl) (by kernel_rfl) (by kernel_rfl) (fun _ _ _ h => h) (by rfl) (fun w3 hS => by (have x0 := cell_later hS g0; have x1 := cell_later hS g1); go_simp) (by assumption) ?_
  simp only [List.setIfInBounds_toArray, List.set_cons_zero, List.set_cons_succ]
  refine wpAnyH_ready (rs := [10]) (by kernel_rfl) (by simp) ?_
  refine AllReadyH.cons rfl (fun K hK => ?_) AllReadyH.nil
  go_simp
  rw [← hX1]
  refine hK.out _ _ hBX1 (fun hHeld2 => ?_)
  clear hK K hHeld
  have hHeld := hHeld2
  clear hHeld2
  try simp only [Act.put, List.setIfInBounds_toArray, List.set_cons_zero, List.set_cons_succ]
  refine wpAnyH_ready (rs := [11]) (by kernel_rfl) (by simp) ?_
  refine AllReadyH.cons rfl (fun K hK => ?_) AllReadyH.nil
  rw [if_pos (by rfl)]
  refine wp_store_tm (.tmp 3) (.tmp 13) rfl w.heap.size 0 x rfl rfl (hb1.there 2 rfl) ?_
  rw [← hX2]
  refine hK.out _ _ hBX2 (fun hHeld2 => ?_)
  clear hK K hHeld
  have hHeld := hHeld2
  clear hHeld2
  try simp only [Act.put, List.setIfInBounds_toArray, List.set_cons_zero, List.set_cons_succ]
  simp only [List.getElem_toArray, List.getElem_cons_succ, List.getElem_cons_zero, List.setIfInBounds_toArray, List.set_cons_zero, List.set_cons_succ]
  refine wpAnyH_done (by kernel_rfl) ?_ _
  refine NoPanic.normal ?_
  clear hHeld hX1 hX2 hb1 hBX1
  have HOX := OwM.keep hrow hBX2
  have hbx2 := hbox.below hBX2
  have hz2 := hBX2.size
  have h2 : X2.drew.cell? ⟨P, 0, none⟩ = some (.slice (some ⟨q, 0, none⟩) (m + 1) c) := ((hbx2.below (Below.refl _ X2).drew).cell 0).trans rfl
  have HXD := OwM.keep HOX (Below.refl _ X2).drew
  have hb2d := hb2.below (Below.refl _ X2).drew
  have hbxd := hbx2.below (Below.refl _ X2).drew
  have hfd := hbxd.frozen 0
  clear g0 g1 h0
  go_upto_region 2 with fail
  refine wp_region_noPanic ?_
  refine wp_region_late (fun _ => True) (fun w' => w'.cell? ⟨P, 0, none⟩ = some (.slice (some ⟨q, 0, none⟩) (m + 1) c)) [11] (by kernel_rfl) trivial h2 (fun hHeld0 hHeld => ?_)
  refine reg0_tk (v := ?_) 0 14 rfl rfl (by kernel_rfl) (by kernel_rfl) (by kernel_rfl) (by kernel_rfl) (by kernel_rfl) (fun _ _ _ h => h) (by rfl) ?_ (by assumption) (by assumption) ?_
  rotate_left
  · (intro w3 hS; (try dsimp only at hS); skip; go_simp; (try with_reducible rfl))
  simp only [List.setIfInBounds_toArray, List.set_cons_zero, List.set_cons_succ]
  refine reg0_tk (v := ?_) 1 15 rfl rfl (by kernel_rfl) (by kernel_rfl) (by kernel_rfl) (by kernel_rfl) (by kernel_rfl) (fun _ _ _ h => h) (by rfl) ?_ (by assumption) (by assumption) ?_
  rotate_left
  · (intro w3 hS; (try dsimp only at hS); skip; go_simp; (try with_reducible rfl))
  simp only [List.setIfInBounds_toArray, List.set_cons_zero, List.set_cons_succ]
  refine reg0_tk (v := ?_) 2 16 rfl rfl (by kernel_rfl) (by kernel_rfl) (by kernel_rfl) (by kernel_rfl) (by kernel_rfl) (fun _ _ _ h => h) (by rfl) ?_ (by assumption) (by assumption) ?_
  rotate_left
  · (intro w3 hS; (try dsimp only at hS); skip; go_simp; (try with_reducible rfl))
  simp only [List.setIfInBounds_toArray, List.set_cons_zero, List.set_cons_succ]
  refine regG_tk (v := ?_) 3 17 rfl rfl (by kernel_rfl) (by kernel_rfl) (by kernel_rfl) (by kernel_rfl) (by kernel_rfl) (fun _ _ _ h => h) (by rfl) ?_ (by assumption) (by assumption) ?_
  rotate_left
  · (intro w3 hS; (try dsimp only at hS); skip; go_simp; (try with_reducible rfl))
  simp only [List.setIfInBounds_toArray, List.set_cons_zero, List.set_cons_succ]
  refine reg0_tk (v := ?_) 4 18 rfl rfl (by kernel_rfl) (by kernel_rfl) (by kernel_rfl) (by kernel_rfl) (by kernel_rfl) (fun _ _ _ h => h) (by rfl) ?_ (by assumption) (by assumption) ?_
  rotate_left
  · (intro w3 hS; (try dsimp only at hS); skip; go_simp; (try with_reducible rfl))
  simp only [List.setIfInBounds_toArray, List.set_cons_zero, List.set_cons_succ]
  refine reg0_tk (v := ?_) 5 19 rfl rfl (by kernel_rfl) (by kernel_rfl) (by kernel_rfl) (by kernel_rfl) (by kernel_rfl) (fun _ _ _ h => h) (by rfl) ?_ (by assumption) (by assumption) ?_
  rotate_left
  · (intro w3 hS; (try dsimp only at hS); skip; go_simp; (try with_reducible rfl))
  simp only [List.setIfInBounds_toArray, List.set_cons_zero, List.set_cons_succ]
  refine regG_tk (v := ?_) 6 20 rfl rfl (by kernel_rfl) (by kernel_rfl) (by kernel_rfl) (by kernel_rfl) (by kernel_rfl) (fun _ _ _ h => h) (by rfl) ?_ (by assumption) (by assumption) ?_
  rotate_left
  · (intro w3 hS; (try dsimp only at hS); skip; go_simp; (try with_reducible rfl))
  simp only [List.setIfInBounds_toArray, List.set_cons_zero, List.set_cons_succ]
  refine reg0_tk (v := ?_) 7 21 rfl rfl (by kernel_rfl) (by kernel_rfl) (by kernel_rfl) (by kernel_rfl) (by kernel_rfl) (fun _ _ _ h => h) (by rfl) ?_ (by assumption) (by assumption) ?_
  rotate_left
  · (intro w3 hS; (try dsimp only at hS); skip; go_simp; (try with_reducible rfl))
  simp only [List.setIfInBounds_toArray, List.set_cons_zero, List.set_cons_succ]
  refine reg0_tk (v := ?_) 8 22 rfl rfl (by kernel_rfl) (by kernel_rfl) (by kernel_rfl) (by kernel_rfl) (by kernel_rfl) (fun _ _ _ h => h) (by rfl) ?_ (by assumption) (by assumption) ?_
  rotate_left
  · (intro w3 hS; (try dsimp only at hS); skip; go_simp; (try with_reducible rfl))
  simp only [List.setIfInBounds_toArray, List.set_cons_zero, List.set_cons_succ]
  refine reg0_tk (v := ?_) 9 23 rfl rfl (by kernel_rfl) (by kernel_rfl) (by kernel_rfl) (by kernel_rfl) (by kernel_rfl) (fun _ _ _ h => h) (by rfl) ?_ (by assumption) (by assumption) ?_
  rotate_left
  · (intro w3 hS; (try dsimp only at hS); have hq := hsl; go_simp; (try with_reducible rfl))
  simp only [List.setIfInBounds_toArray, List.set_cons_zero, List.set_cons_succ]
  refine wpAnyG_oneS (i := 10) (by kernel_rfl) rfl (by rfl) (fun K hK => ?_)
  go_simp
  refine hK _ _ trivial h2 ?_
  clear hK K
  try simp only [Act.put, List.setIfInBounds_toArray, List.set_cons_zero, List.set_cons_succ]
  refine wpAnyG_one (i := 11) (by kernel_rfl) rfl (by rfl) (by kernel_rfl) (fun K hK => ?_)
  go_simp
  obtain ⟨X3, hX3⟩ : ∃ X : World, X = (X2.setCell ⟨P, 0, none⟩ (.slice (some ⟨q, 0, none⟩) m c)).drew := ⟨_, rfl⟩
  have hk3 : Kx (fun k => k = P) X2 X3 := by rw [hX3]; exact (Kx.setCell (X := fun k => k = P) (Kx.refl _ _) (.inl rfl) _).next (Below.refl _ _).drew
  have hb3 : BoxN X3 P 85 #[.slice (some ⟨q, 0, none⟩) m c] := by rw [hX3]; exact (hbx2.set1 _).below (Below.refl _ _).drew
  have hbt : BoxN X3 w.heap.size 83 #[.int .i64 x.nd, .int .i64 x.tk] := hk3.box (by omega) hb2
  have HFIN : Hid (∃ v', TM X3 base P v' (l.take m) ∧ TR w P (.slice (some ⟨q, 0, none⟩) (m + 1) c) X3 v' ∧ ∀ k, v'.ownBlock = some k → (Value.slice (some ⟨q, 0, none⟩) (m + 1) c).ownBlock = some k) := by
    refine ⟨.slice (some ⟨q, 0, none⟩) m c, ⟨hb3, ?_, by rw [List.length_take]; omega, hge⟩, ⟨?_, fun k hk => .inl hk⟩, fun k hk => hk⟩
    · have := OwM.cut HOX m (by omega)
      rw [List.length_take, Nat.min_eq_left (by omega)]
      exact hk3.owns (fun k hk he => by
        have e2 : some q = some k := hk
        simp only [Option.some.injEq] at e2
        omega) this
    · exact (Kx.of_below hBX2).trans hk3 (fun k hk hy => .inl hy)
  rw [← hX3]
  refine hK _ _ trivial ?_
  clear hK K
  try simp only [Act.put, List.setIfInBounds_toArray, List.set_cons_zero, List.set_cons_succ]
  refine wpAnyG_done (by kernel_rfl) ?_ _
  refine NoPanic.normal ?_
  have c0 : X3.cell? ⟨w.heap.size, 0, none⟩ = some (.int .i64 x.nd) := (hbt.cell 0).trans rfl
  have c1 : X3.cell? ⟨w.heap.size, 1, none⟩ = some (.int .i64 x.tk) := (hbt.cell 1).trans rfl
  clear hX3 hk3 hb3 hbt hb2d hbxd hHeld hHeld0
  go_wp2_with fail
  go_ret
  exact ⟨rfl, HFIN.out⟩
end Go.Proofs.Ytgmfifilgbbogaa
