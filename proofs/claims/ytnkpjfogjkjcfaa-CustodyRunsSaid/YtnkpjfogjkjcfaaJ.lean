


/- Custody: slices.Delete and slices.DeleteFunc at frames, in a row of one's own. -/
import Derived.Test.YtnkpjfogjkjcfaaC
import Derived.Test.YtnkpjfogjkjcfaaRN
import Derived.Test.YtnkpjfogjkjcfaaSY
import Derived.Deep.AppendLies
import Derived.Shelf.RegionOpenPlain
namespace Go.Proofs.Ytnkpjfogjkjcfaa
open Go.RowKit
set_option linter.unusedSimpArgs false
set_option linter.unusedVariables false
set_option maxRecDepth 100000

theorem EPs : ElemOk Try.prog 23 47 (.agg #[.int .i64 0, .int .i64 0, .int .i64 0, .int .i64 0]) 4 32 := ⟨Try.underlying23, by kernel_rfl, rfl, by decide⟩
abbrev OwP (w : World) (base : Nat) (v : Value) (l : List Ps) : Prop := w.ownsRow base 47 4 v l.length (rcs psR l)
/-- a call has left the frames l in the row v, or in new memory -/
def InsP (w : World) (base : Nat) (v : Value) (l : List Ps) (e : Ending) (w' : World) : Prop :=
  ∃ a c, e = .returned (.slice a l.length c) ∧ OwP w' base (.slice a l.length c) l ∧ Kx (fun k => v.ownBlock = some k) w w' ∧ ∀ k, (Value.slice a l.length c).ownBlock = some k → v.ownBlock = some k ∨ w.heap.size ≤ k
def dlP (n : Int) (f : Ps) : Bool := decide (f.fr = n ∨ f.tt = n)
/-- the closure of restart -/
theorem gone_any (w : World) (b : Nat) (n : Int) (f : Ps) (h0 : w.cell? ⟨b, 0, none⟩ = some (.int .i64 n)) :
    Calls Try.prog 74 #[f.v, ptr b] w fun e w' => e = .returned (.bool (dlP n f)) ∧ Below w.heap.size w w' := by
  have h0' := cell_al (.cells #[.int .i64 f.kd, .int .i64 f.fr, .int .i64 f.tt, .int .i64 f.of] 47) h0
  obtain ⟨r, hr⟩ : ∃ r, dlP n f = r := ⟨_, rfl⟩
  rw [hr]
  unfold dlP at hr
  by_cases c1 : f.fr = n
  · have d1 : (f.fr == n) = true := by simp [c1]
    obtain rfl : r = true := by rw [← hr]; exact yb (.inl c1)
    clear c1 hr
    go_enter Try.func74, Try.ntmps74
    go_wp2_with fail
    (try (go_quiet (fail); go_wp2_with fail))
    go_ret
    exact ⟨rfl, (by repeat (first | assumption | exact Below.refl _ _ | apply Below.al | apply below_drewN | apply Below.drew | refine Below.next ?_ (by assumption)))⟩
  · have d1 : (f.fr == n) = false := by simp [c1]
    by_cases c2 : f.tt = n
    · have d2 : (f.tt == n) = true := by simp [c2]
      obtain rfl : r = true := by rw [← hr]; exact yb (.inr c2)
      clear c1 c2 hr
      go_enter Try.func74, Try.ntmps74
      go_wp2_with fail
      (try (go_quiet (fail); go_wp2_with fail))
      go_ret
      exact ⟨rfl, (by repeat (first | assumption | exact Below.refl _ _ | apply Below.al | apply below_drewN | apply Below.drew | refine Below.next ?_ (by assumption)))⟩
    · have d2 : (f.tt == n) = false := by simp [c2]
      obtain rfl : r = false := by rw [← hr]; exact nb (by omega)
      clear c1 c2 hr
      go_enter Try.func74, Try.ntmps74
      go_wp2_with fail
      (try (go_quiet (fail); go_wp2_with fail))
      go_ret
      exact ⟨rfl, (by repeat (first | assumption | exact Below.refl _ _ | apply Below.al | apply below_drewN | apply Below.drew | refine Below.next ?_ (by assumption)))⟩
set_option maxHeartbeats 1000000 in
theorem goneix_any (v : Value) (l : List Ps) (b : Nat) (n : Int) (w : World) (h : RdP w v l) (h0 : w.cell? ⟨b, 0, none⟩ = some (.int .i64 n)) :
    Calls Try.prog 81 #[v, .func (.func 74) #[] #[ptr b]] w fun e w' => (∃ r : Int, e = .returned (.int .i64 r) ∧ ((r = -1 ∧ ∀ j, j < l.length → dlP n (gp l j) = false) ∨ ∃ k : Nat, k < l.length ∧ r = k ∧ dlP n (gp l k) = true ∧ ∀ j, j < k → dlP n (gp l j) = false)) ∧ Below w.heap.size w w' := by
  obtain ⟨a0, n0, rfl⟩ := h.form
  have hmx := h.2.1
  unfold maxLen at hmx
  obtain ⟨N, hN⟩ : ∃ N, l.length = N := ⟨_, rfl⟩
  rw [hN] at h hmx ⊢
  have HN := Lib.hid hN
  have HR := Lib.hid h
  have HP := Lib.hid h0
  clear hN h h0
  go_enter Try.func81, Try.ntmps81
  go_wp2_with fail
  go_loopw [8] (fun i wr => ∃ k : Nat, k ≤ N ∧ i = .int .i64 k ∧ Below w.heap.size w wr ∧ ∀ j, j < k → dlP n (gp l j) = false) (fun i _ => N - (intOf i).toNat)
  case atStart => exact ⟨0, Nat.zero_le _, rfl, Below.refl _ _, fun j hj => by omega⟩
  case round =>
    obtain ⟨k, hkN, rfl, hB, hz0⟩ := hrel
    have HZ0 := Lib.hid hz0
    clear hz0
    by_cases hlt : k < N
    · have d2 : decide ((k : Int) < (N : Int)) = true := yb (by omega)
      obtain ⟨b1, o1, rfl, hc1, g0, g1, g2, g3⟩ := RdP.at (HR.out.keep hB) HN.out k hlt
      obtain ⟨y, HY⟩ : ∃ y, Hid (gp l k = y) := ⟨_, rfl⟩
      rw [HY.out] at g0 g1 g2 g3
      have n1 : (0 : Int) ≤ (k : Int) := by omega
      have n2 : (k : Int) < (N : Int) := by omega
      have hwk : IntKind.i64.wrap (k : Int) = (k : Int) := IntWalk.i64_in _ (by omega)
      have hP := gone_any wr b n y (cell_later hB HP.out)
      cases hs : dlP n y
      · rw [hs] at hP
        have HPP := Lib.hid hP
        have HS := Lib.hid hs
        clear hP hs
        go_wp2_with fail
        refine HPP.out.mono ?_
        rintro e w1 ⟨rfl, hb1⟩
        have hB1 := Below.next hB hb1
        clear hb1
        go_wp2_with fail
        go_roundw
        case rel => exact ⟨k + 1, by omega, by go_num, hB1, fun j hj => by
          by_cases hjk : j = k
          · subst hjk; rw [HY.out]; exact HS.out
          · exact HZ0.out j (by omega)⟩
        case measure => simp [intOf]; omega
      · rw [hs] at hP
        have HPP := Lib.hid hP
        have HS := Lib.hid hs
        clear hP hs
        go_wp2_with fail
        refine HPP.out.mono ?_
        rintro e w1 ⟨rfl, hb1⟩
        have hB1 := Below.next hB hb1
        clear hb1
        go_wp2_with fail
        go_ret
        exact ⟨⟨_, rfl, .inr ⟨k, hlt, rfl, by rw [HY.out]; exact HS.out, HZ0.out⟩⟩, hB1⟩
    · obtain rfl : k = N := by omega
      have d2 : decide ((k : Int) < (k : Int)) = false := nb (by omega)
      go_wp2_with fail
      go_ret
      exact ⟨⟨_, rfl, .inl ⟨rfl, HZ0.out⟩⟩, hB⟩
theorem OwP.at {w : World} {base n c q : Nat} {l : List Ps} (h : w.ownsRow base 47 4 (.slice (some ⟨q, 0, none⟩) n c) n (rcs psR l)) (hl : l.length = n) (k : Nat) (hk : k < n) : PA w q (k * 4) (gp l k) := by
  have key : ∀ j u, (Ps.vs (gp l k))[j]? = some u → w.cell? ⟨q, k * 4 + j, none⟩ = some u := fun j u hj => by
    have hj5 : j < 4 := by have := (List.getElem?_eq_some_iff.1 hj).1; simpa [Ps.vs] using this
    have e := rcs_get psR l k j (by omega) hj5
    rw [h.cellAt (k * 4 + j) (by omega)]
    exact e.trans hj
  exact ⟨key 0 _ rfl, key 1 _ rfl, key 2 _ rfl, key 3 _ rfl⟩
theorem OwP.there {w : World} {base n c q : Nat} {l : List Ps} (h : w.ownsRow base 47 4 (.slice (some ⟨q, 0, none⟩) n c) n (rcs psR l)) (hl : l.length = n) (k : Nat) (hk : k < n) : w.there q (k * 4) 4 := fun j hj => by
  have e := rcs_get psR l k j (by omega) (show j < 4 from hj)
  refine ⟨?_, h.frozenAt (k * 4 + j)⟩
  rw [h.cellAt (k * 4 + j) (by omega), show (rcs psR l)[k * 4 + j]? = _ from e]
  have : j < ((psR.cells (l.getD k psR.zero)).length) := by rw [psR.len]; exact hj
  rw [List.getElem?_eq_getElem this]
  rfl
theorem infoPs : (Try.prog.info? 47).map (·.size) = some 4 := by kernel_rfl
theorem wpList_store_ps {ops : Array Oper} {rest : List Oper} {op : Oper} {a : Act} {w : World} {Q : Exit → Act → World → Prop} (hgd : op.guard = none) (x y : Operand) (ho : op.op = .store 47 x y)
    (q o : Nat) (t : Ps) (hx : a.eval x = .pointer (some ⟨q, o, none⟩)) (hy : a.eval y = t.v) (ht : w.there q o 4) (h : wpList Try.prog ops Q rest (a.put op.dst undef) (w.setCells q o (Ps.vs t))) : wpList Try.prog ops Q (op :: rest) a w :=
  wpList_plain hgd fun _ hK => wp_store_mid 47 x y ho q o #[.int .i64 t.kd, .int .i64 t.fr, .int .i64 t.tt, .int .i64 t.of] hx hy ht infoPs (by simp [Value.oneCell']) (hK _ _ h)
theorem Own.keep {w w' : World} {base n : Nat} {v : Value} {xs : List Value} {e : TypeId} {size : Nat} (h : w.ownsRow base e size v n xs) (hb : Below w.heap.size w w') : w'.ownsRow base e size v n xs :=
  h.kept (row := none) ⟨hb.os, hb.tape, hb.output, hb.size, fun k hk _ => hb.block k hk⟩ (by cases hv : v.ownBlock <;> simp)
/-- what is left when a stretch at a row's end is cleared -/
theorem cut_clear {w : World} {base g c n i : Nat} {l : List Ps} (h : w.ownsRow base 47 4 (.slice (some ⟨g, 0, none⟩) n c) n (rcs psR l)) (hl : l.length = n) (hi : i < n) :
    ∃ W', (∀ ty cc, (Builtin.clear_ #[23] ty #[.slice (some ⟨g, i * 4, none⟩) (n - i) cc]).run Try.prog w = .ok (.tuple #[]) W') ∧ W'.ownsRow base 47 4 (.slice (some ⟨g, 0, none⟩) i c) i (rcs psR (l.take i)) ∧ (∀ (X : Nat → Prop) (b : World), Kx X b w → (X g ∨ b.heap.size ≤ g) → Kx X b W') ∧ W'.heap.size = w.heap.size := by
  obtain ⟨hlen, ⟨h1, _⟩ | ⟨g', c', cur, h1, hgb, hg, hnc, hcm, hcs, htk⟩⟩ := h
  · cases h1
  simp only [Value.slice.injEq, Option.some.injEq, Addr.mk.injEq, and_true, true_and] at h1
  obtain ⟨rfl, rfl⟩ := h1
  have hz : (zeroValue 47).run Try.prog w = .ok (.agg #[.int .i64 0, .int .i64 0, .int .i64 0, .int .i64 0]) w := by kernel_rfl
  refine ⟨_, fun ty cc => run_clear_rowS w 23 47 ty _ 4 g (i * 4) (n - i) cc cur 47 Try.underlying23 hz rfl (by decide) (by omega) hg (by rw [hcs]; omega), ?_, fun X b hk hx => hk.setRow hx _, setRow_size _ _ _⟩
  have hcl : cur.toList.length = c * 4 := by simpa using hcs
  have hla : (l.take i).length = i := by rw [List.length_take]; omega
  have hR : psR.size = 4 := rfl
  refine ⟨by rw [rcs_length, hla, hR], .inr ⟨g, c, _, rfl, hgb, setRow_heap w g cur _ 47 (0, 0) hg, by omega, hcm, ?_, ?_⟩⟩
  · have := zeroCells_list (Value.agg #[.int .i64 0, .int .i64 0, .int .i64 0, .int .i64 0]).cells (n - i)
    have h4 : (Value.agg #[.int .i64 0, .int .i64 0, .int .i64 0, .int .i64 0]).cells.size = 4 := rfl
    rw [h4] at this
    simp only [List.size_toArray, List.length_append, List.length_take, List.length_drop, this, hcl]
    omega
  · rw [← rcs_take, ← htk, hR, List.take_take, Nat.min_eq_left (by omega)]
    simp only [List.toList_toArray]
    rw [List.append_assoc, List.take_append_of_le_length (by rw [List.length_take]; omega), List.take_take, Nat.min_self]
end Go.Proofs.Ytnkpjfogjkjcfaa
