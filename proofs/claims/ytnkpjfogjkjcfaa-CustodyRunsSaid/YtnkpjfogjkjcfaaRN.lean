/- Copies, clears and appends inside rows of one's own, at elements of any size; what a row holds behind an insertion and behind a deletion. Plain; no program is named. -/
import Derived.Test.YtnkpjfogjkjcfaaRX
import Derived.Test.YtnkpjfogjkjcfaaRS
import Derived.Laws.CopyRow
import Derived.Lib.Overlaps
import Derived.Lib.AppendZeros
import Derived.Lib.AppendZerosOnto
import Derived.Laws.Externs
import Derived.Laws.NewBlocks
namespace Go.Proofs.Ytnkpjfogjkjcfaa
set_option linter.unusedSimpArgs false
set_option linter.unusedVariables false
open Go.RowKit

section
variable {P : Program} {w : World}
theorem run_copy_rowS (w : World) (dT sT ty elem : TypeId) (s g o dLen dCap : Nat) (a : Addr) (sLen sCap : Nat) (cur : Array Value) (t : TypeId) (cs : List Value)
    (hu : P.underlying dT = some (.slice elem)) (hs : (P.info? elem).map (·.size) = some s)
    (hg : w.heap[g]? = some (.cells cur t (0, 0))) (hn : cs.length = Nat.min sLen dLen * s)
    (hsrc : ∀ j v, cs[j]? = some v → w.cell? (a.add j) = some v) (hfit : o + cs.length ≤ cur.size) (h1 : ∀ v ∈ cs, v.oneCell' = true) :
    (Builtin.copy_ #[dT, sT] ty #[.slice (some ⟨g, o, none⟩) dLen dCap, .slice (some a) sLen sCap]).run P w =
      .ok (goInt (Nat.min sLen dLen)) (w.setRow g (cur.toList.take o ++ cs ++ cur.toList.drop (o + cs.length)).toArray) := by
  have hl := run_loadCells_list (P := P) w a cs hsrc
  have hst := run_storeCells_at P g o t cs 0 cur w hg (by simpa using hfit) h1
  cases hq : P.info? elem with
  | none => simp [hq] at hs
  | some i =>
    have hi : i.size = s := by simpa [hq] using hs
    simp [Builtin.copy_, run_underlying hu, Builtin.lenOf, Builtin.firstCells, sizeOf, typeInfo, hq, hi, ← hn, hl, hst]
theorem zeroCells_list (z : Array Value) (n : Nat) : (Builtin.zeroCells z n).toList.length = n * z.size := by simp [Builtin.zeroCells]
theorem zeroCells_one (z : Array Value) (n : Nat) (h : ∀ u, u ∈ z.toList → u.oneCell' = true) : ∀ u ∈ (Builtin.zeroCells z n).toList, u.oneCell' = true := by
  intro u hu
  unfold Builtin.zeroCells at hu
  simp only [Array.toList_map, List.mem_map, Array.toList_range, List.mem_range] at hu
  obtain ⟨i, hi, rfl⟩ := hu
  have hz : 0 < z.size := by
    rcases Nat.eq_zero_or_pos z.size with h0 | h0
    · rw [h0, Nat.mul_zero] at hi; omega
    · exact h0
  have hlt := Nat.mod_lt i hz
  rw [getElem!_pos z _ hlt]
  exact h _ (by rw [Array.mem_toList_iff]; exact Array.getElem_mem hlt)
/-- clear of a stretch of a row -/
theorem run_clear_rowS (w : World) (t e ty : TypeId) (z : Value) (s g o n c : Nat) (cur : Array Value) (T : TypeId) (ht : P.underlying t = some (.slice e)) (hv : (zeroValue e).run P w = .ok z w) (hzs : z.cells.size = s) (h1 : ∀ u, u ∈ z.cells.toList → u.oneCell' = true) (hn : 0 < n)
    (hg : w.heap[g]? = some (.cells cur T (0, 0))) (hfit : o + n * s ≤ cur.size) :
    (Builtin.clear_ #[t] ty #[.slice (some ⟨g, o, none⟩) n c]).run P w = .ok (.tuple #[]) (w.setRow g (cur.toList.take o ++ (Builtin.zeroCells z.cells n).toList ++ cur.toList.drop (o + n * s)).toArray) := by
  have hl : (Builtin.zeroCells z.cells n).toList.length = n * s := by rw [zeroCells_list, hzs]
  have hst := run_storeCells_at P g o T (Builtin.zeroCells z.cells n).toList 0 cur w hg (by rw [hl]; simpa using hfit) (zeroCells_one _ _ h1)
  rw [hl] at hst
  obtain ⟨m, rfl⟩ : ∃ m, n = m + 1 := ⟨n - 1, by omega⟩
  simp only [Nat.add_zero] at hst
  simp [Builtin.clear_, run_underlying ht, hv, hst]
theorem setRow_other (w : World) (g k : Nat) (arr : Array Value) (h : k ≠ g) : (w.setRow g arr).heap[k]? = w.heap[k]? := by
  unfold World.setRow
  simp [Array.getElem?_modify, Ne.symm h]
theorem setRow_size (w : World) (g : Nat) (arr : Array Value) : (w.setRow g arr).heap.size = w.heap.size := by unfold World.setRow; simp
theorem Kx.setRow {X : Nat → Prop} {a b : World} (h : Kx X a b) {g : Nat} (hg : X g ∨ a.heap.size ≤ g) (arr : Array Value) : Kx X a (b.setRow g arr) :=
  ⟨⟨h.1.os, h.1.tape, h.1.output, by rw [setRow_size]; exact h.1.size, fun k hk => by omega⟩, fun k hk hx => by
    rw [setRow_other _ _ _ _ (fun e => by subst e; rcases hg with hg | hg; exact hx hg; omega)]
    exact h.2 k hk hx⟩
theorem Kx.drew {X : Nat → Prop} {a b : World} (h : Kx X a b) : Kx X a b.drew := ⟨h.1.drew, h.2⟩
end
section
variable {α : Type} (R : RowT α)
/-- a row behind an insertion in place: cells moved up, then the new element laid -/
theorem ins_cells (l : List α) (t : α) (i : Nat) (cur : List Value) (hi : i < l.length) (hl : (l.length + 1) * R.size ≤ cur.length) (hc : cur.take (l.length * R.size) = rcs R l) (c1 c2 : List Value)
    (h1 : c1 = cur.take ((i + 1) * R.size) ++ (rcs R l).drop (i * R.size) ++ cur.drop ((i + 1) * R.size + ((rcs R l).drop (i * R.size)).length))
    (h2 : c2 = c1.take (i * R.size) ++ R.cells t ++ c1.drop (i * R.size + (R.cells t).length)) :
    c2.length = cur.length ∧ c2.take ((l.length + 1) * R.size) = rcs R (l.take i ++ t :: l.drop i) ∧ c1.length = cur.length := by
  have e1 : (i + 1) * R.size = i * R.size + R.size := by rw [Nat.add_mul, Nat.one_mul]
  have e2 : (l.length + 1) * R.size = l.length * R.size + R.size := by rw [Nat.add_mul, Nat.one_mul]
  have e3 : i * R.size ≤ l.length * R.size := Nat.mul_le_mul_right _ (by omega)
  have e4 : (i + 1) * R.size ≤ l.length * R.size := Nat.mul_le_mul_right _ (by omega)
  have hd : ((rcs R l).drop (i * R.size)).length = l.length * R.size - i * R.size := by rw [List.length_drop, rcs_length]
  have ht := R.len t
  have hta : (cur.take ((i + 1) * R.size)).length = i * R.size + R.size := by rw [List.length_take]; omega
  have hc1 : c1.length = cur.length := by rw [h1]; simp only [List.length_append, List.length_drop, hd, hta]; omega
  have hp : c1.take (i * R.size) = rcs R (l.take i) := by
    rw [h1, List.append_assoc, List.take_append_of_le_length (by omega), List.take_take, Nat.min_eq_left (by omega), ← rcs_take, ← hc, List.take_take, Nat.min_eq_left (by omega)]
  have hq : c1.drop (i * R.size + R.size) = (rcs R l).drop (i * R.size) ++ cur.drop ((i + 1) * R.size + ((rcs R l).drop (i * R.size)).length) := by
    rw [h1, List.append_assoc, List.drop_append, hta, Nat.sub_self, List.drop_zero, List.drop_of_length_le (by omega), List.nil_append]
  rw [ht, hp, hq] at h2
  have hlp : (rcs R (l.take i)).length = i * R.size := by rw [rcs_length, List.length_take, Nat.min_eq_left (by omega)]
  have hout : rcs R (l.take i ++ t :: l.drop i) = rcs R (l.take i) ++ R.cells t ++ (rcs R l).drop (i * R.size) := by
    rw [rcs_append, rcs_cons, rcs_drop, List.append_assoc]
  refine ⟨?_, ?_, hc1⟩
  · rw [h2]
    simp only [List.length_append, List.length_drop, hd, hlp, ht]
    omega
  · rw [hout, h2, ← List.append_assoc, List.take_append_of_le_length (by simp only [List.length_append, hd, hlp, ht]; omega), List.take_of_length_le (by simp only [List.length_append, hd, hlp, ht]; omega)]
/-- a new row behind an insertion: what stood ahead, the new element, what stood behind -/
theorem ins_new (l : List α) (t : α) (i : Nat) (Z : List Value) (hi : i < l.length) (c1 c2 c3 : List Value) (hZ : (l.length + 1 - i) * R.size ≤ Z.length)
    (h1 : c1 = (rcs R l).take (i * R.size) ++ Z) (h2 : c2 = c1.take (i * R.size) ++ R.cells t ++ c1.drop (i * R.size + (R.cells t).length))
    (h3 : c3 = c2.take ((i + 1) * R.size) ++ (rcs R l).drop (i * R.size) ++ c2.drop ((i + 1) * R.size + ((rcs R l).drop (i * R.size)).length)) :
    c2.length = c1.length ∧ c3.length = c1.length ∧ c3.take ((l.length + 1) * R.size) = rcs R (l.take i ++ t :: l.drop i) := by
  have e1 : (i + 1) * R.size = i * R.size + R.size := by rw [Nat.add_mul, Nat.one_mul]
  have e2 : (l.length + 1) * R.size = l.length * R.size + R.size := by rw [Nat.add_mul, Nat.one_mul]
  have e3 : i * R.size ≤ l.length * R.size := Nat.mul_le_mul_right _ (by omega)
  have e5 : (l.length + 1 - i) * R.size = l.length * R.size + R.size - i * R.size := by rw [Nat.sub_mul, e2]
  have hd : ((rcs R l).drop (i * R.size)).length = l.length * R.size - i * R.size := by rw [List.length_drop, rcs_length]
  have ht := R.len t
  have hlp : ((rcs R l).take (i * R.size)).length = i * R.size := by rw [List.length_take, rcs_length, Nat.min_eq_left (by omega)]
  have hc1 : c1.length = i * R.size + Z.length := by rw [h1]; simp only [List.length_append, hlp]
  have hp : c1.take (i * R.size) = (rcs R l).take (i * R.size) := by rw [h1, List.take_append_of_le_length (by omega), List.take_of_length_le (by omega)]
  have hc2 : c2.length = c1.length := by
    rw [h2]; simp only [List.length_append, List.length_drop, hp, hlp, ht]; omega
  have hp2 : c2.take ((i + 1) * R.size) = (rcs R l).take (i * R.size) ++ R.cells t := by
    rw [h2, hp, List.take_append_of_le_length (by simp only [List.length_append, hlp, ht]; omega), List.take_of_length_le (by simp only [List.length_append, hlp, ht]; omega)]
  have hout : rcs R (l.take i ++ t :: l.drop i) = (rcs R l).take (i * R.size) ++ R.cells t ++ (rcs R l).drop (i * R.size) := by
    rw [rcs_append, rcs_cons, rcs_drop, rcs_take, List.append_assoc]
  rw [hp2] at h3
  refine ⟨hc2, ?_, ?_⟩
  · rw [h3]; simp only [List.length_append, List.length_drop, hd, hlp, ht]; omega
  · rw [hout, h3, List.take_append_of_le_length (by simp only [List.length_append, hd, hlp, ht]; omega), List.take_of_length_le (by simp only [List.length_append, hd, hlp, ht]; omega)]
/-- a row behind a deletion in place: the cells behind moved down; the last element stands twice -/
theorem del_cells (l : List α) (i M : Nat) (cur : List Value) (hi : i ≤ M) (hl : l.length = M + 1) (hcl : (M + 1) * R.size ≤ cur.length) (hc : cur.take ((M + 1) * R.size) = rcs R l) (c1 : List Value)
    (h1 : c1 = cur.take (i * R.size) ++ (rcs R l).drop ((i + 1) * R.size) ++ cur.drop (i * R.size + ((rcs R l).drop ((i + 1) * R.size)).length)) :
    c1.length = cur.length ∧ c1.take ((M + 1) * R.size) = rcs R (l.take i ++ l.drop (i + 1) ++ l.drop M) := by
  have e1 : (i + 1) * R.size = i * R.size + R.size := by rw [Nat.add_mul, Nat.one_mul]
  have e2 : (M + 1) * R.size = M * R.size + R.size := by rw [Nat.add_mul, Nat.one_mul]
  have e3 : i * R.size ≤ M * R.size := Nat.mul_le_mul_right _ hi
  have hd : ((rcs R l).drop ((i + 1) * R.size)).length = M * R.size - i * R.size := by rw [List.length_drop, rcs_length, hl]; omega
  have hta : (cur.take (i * R.size)).length = i * R.size := by rw [List.length_take]; omega
  rw [hd, show i * R.size + (M * R.size - i * R.size) = M * R.size by omega] at h1
  have hp : cur.take (i * R.size) = rcs R (l.take i) := by rw [← rcs_take, ← hc, List.take_take, Nat.min_eq_left (by omega)]
  have hq : (cur.drop (M * R.size)).take R.size = rcs R (l.drop M) := by
    rw [← rcs_drop, ← hc, List.drop_take, show (M + 1) * R.size - M * R.size = R.size by omega]
  refine ⟨?_, ?_⟩
  · rw [h1]; simp only [List.length_append, List.length_drop, hd, hta]; omega
  · rw [h1, rcs_append, rcs_append, List.take_append, List.take_of_length_le (by simp only [List.length_append, hd, hta]; omega)]
    simp only [List.length_append, hd, hta]
    rw [show (M + 1) * R.size - (i * R.size + (M * R.size - i * R.size)) = R.size by omega, hq, hp, rcs_drop]
end
section
variable {P : Program}
theorem wpList_app_at {w : World} {ops : Array Oper} {rest : List Oper} {o : Oper} {a : Act} {Q : Exit → Act → World → Prop} (hgd : o.guard = none) (s x : Operand) (t : TypeId)
    (ho : o.op = .call { callee := .builtin .append, args := #[s, x], argTypes := #[t, t] }) (base : Nat) (e : TypeId) (z : Value) (size bytes : Nat) (E : ElemOk P t e z size bytes)
    (v : Value) (n : Nat) (xs : List Value) (hs : a.eval s = v) (hown : w.ownsRow base e size v n xs) (u : Value) (m : Nat) (cs : List Value) (hm : m ≠ 0) (hx : a.eval x = u) (hr : RdS w size u m cs) (h1 : ∀ c ∈ cs, c.oneCell' = true)
    (h63 : n + m ≤ maxLen) (hbytes : (n + m) * bytes ≤ 140737488355328) (hbase : base ≤ w.heap.size)
    (h : ∀ a' c' w', w'.ownsRow base e size (.slice a' (n + m) c') (n + m) (xs ++ cs) → w.grownBy w' v.ownBlock → (∀ k, (Value.slice a' (n + m) c').ownBlock = some k → v.ownBlock = some k ∨ w.heap.size ≤ k) → wpList P ops Q rest (a.put o.dst (.slice a' (n + m) c')) w') : wpList P ops Q (o :: rest) a w :=
  wpList_plain hgd fun K hK => wp_app_at s x t ho base e z size bytes E v n xs hs hown u m cs hm hx hr h1 h63 hbytes hbase fun a' c' w' h2 h3 h4 => hK _ _ (h a' c' w' h2 h3 h4)
theorem wpList_copy_runS (w : World) {ops : Array Oper} {rest : List Oper} {o : Oper} {a : Act} {Q : Exit → Act → World → Prop} (hgd : o.guard = none) (d s : Operand) (t t' : TypeId)
    (ho : o.op = .call { callee := .builtin .copy, args := #[d, s], argTypes := #[t, t'] }) (v u : Value) (hd : a.eval d = v) (hs : a.eval s = u) {v' : Value} {w' : World}
    (hr : (Builtin.copy_ #[t, t'] o.type #[v, u]).run P w = .ok v' w') (h : wpList P ops Q rest (a.put o.dst v') w') : wpList P ops Q (o :: rest) a w :=
  wpList_plain hgd fun K hK => by
    unfold Oper.wp execOp
    simp only [ho, resolve, invoke, builtin, Sem.run_bind, Sem.run_pure, Result.andThen_ok, List.map_toArray, List.map_cons, List.map_nil, hd, hs, hr]
    exact hK _ _ h
theorem step_app_runS {ops : Array Oper} {o : Oper} {a : Act} {w : World} {K : Act → World → Prop} {Q : Exit → Act → World → Prop} {E : Prop}
    (hg : o.guard = none) (d x : Operand) (dT sT : TypeId) (hop : o.op = Op.call { callee := Callee.builtin Builtin.append, args := #[d, x], argTypes := #[dT, sT] })
    (v u : Value) (hd : a.eval d = v) (hx : a.eval x = u) {v' : Value} {w' : World} (hr : (Builtin.append_ #[dT, sT] o.type #[v, u]).run P w = .ok v' w') (hK : K (a.put o.dst v') w') :
    if Region.wanted o (yielded ops a.tmps) = true then Oper.wp P o a w K Q else E := by
  have hw : Region.wanted o (yielded ops a.tmps) = true := by simp [Region.wanted, hg]
  rw [if_pos hw]
  unfold Oper.wp
  simp [execOp, hop, resolve, invoke, builtin, hd, hx, hr, Result.andThen]
  exact hK
theorem step_copy_runS {ops : Array Oper} {o : Oper} {a : Act} {w : World} {K : Act → World → Prop} {Q : Exit → Act → World → Prop} {E : Prop}
    (hg : o.guard = none) (d x : Operand) (dT sT : TypeId) (hop : o.op = Op.call { callee := Callee.builtin Builtin.copy, args := #[d, x], argTypes := #[dT, sT] })
    (v u : Value) (hd : a.eval d = v) (hx : a.eval x = u) {v' : Value} {w' : World} (hr : (Builtin.copy_ #[dT, sT] o.type #[v, u]).run P w = .ok v' w') (hK : K (a.put o.dst v') w') :
    if Region.wanted o (yielded ops a.tmps) = true then Oper.wp P o a w K Q else E := by
  have hw : Region.wanted o (yielded ops a.tmps) = true := by simp [Region.wanted, hg]
  rw [if_pos hw]
  unfold Oper.wp
  simp [execOp, hop, resolve, invoke, builtin, hd, hx, hr, Result.andThen]
  exact hK
end
end Go.Proofs.Ytnkpjfogjkjcfaa
