/- A trace checked, in the program. Maps whose keys are IDs; a world checked, in the program. Sets of nodes as bits, in the program. -/
import Derived.Test.YtcjlbpndgjapiaaDoorH
import Derived.Maps.OwnOps
import Derived.Maps.Views
import Derived.Maps.RangeWalk
import Derived.DeepKeys4
import Derived.Lib.Tables
import Derived.Laws.BitsLemmas
namespace Go.Proofs.YtcjlbpndgjapiaaDoor
open Go.RowKit
set_option linter.unusedSimpArgs false
set_option linter.unusedVariables false
set_option maxRecDepth 100000

set_option maxHeartbeats 2000000 in
theorem trace_any (v : Value) (l : List Oc) (w : World) (hf : FC w) (h : RdO w v l) : Calls Tryd.prog 47 #[v] w fun e w' => e = .returned (V2 (chkT l).1 (chkT l).2) ∧ Below w.heap.size w w' := by
  obtain ⟨a0, n0, rfl⟩ := h.form
  have hmx := h.2.1
  unfold maxLen at hmx
  obtain ⟨N, hN⟩ : ∃ N, l.length = N := ⟨_, rfl⟩
  rw [hN] at h hmx ⊢
  have HN := Lib.hid hN
  have HR := Lib.hid h
  have HF := Lib.hid hf
  obtain ⟨er, ix, hc⟩ : ∃ er ix, chkT l = (er, ix) := ⟨_, _, rfl⟩
  rw [hc]
  have HC := Lib.hid hc
  clear hN h hc hf
  by_cases hbig : 5000 < N
  · have d0 : decide ((N : Int) > 5000) = true := yb (by omega)
    obtain ⟨rfl, rfl⟩ : er = 5 ∧ ix = 0 := by
      have h1 := HC.out
      unfold chkT at h1
      rw [if_pos (by rw [HN.out]; exact hbig)] at h1
      simpa using h1.symm
    clear hbig
    go_enter Tryd.func47, Tryd.ntmps47
    go_wp2_with fail
    go_ret2
    exact ⟨rfl, Below.refl _ _⟩
  · have d0 : decide ((N : Int) > 5000) = false := nb (by omega)
    go_enter Tryd.func47, Tryd.ntmps47
    go_wp2_with fail
    go_loopw [12] (fun i wr => ∃ k : Nat, k ≤ N ∧ i = .int .i64 k ∧ Below w.heap.size w wr ∧ Hid (∀ j, j < k → stepT l j = 0)) (fun i _ => N - (intOf i).toNat)
    case atStart => exact ⟨0, Nat.zero_le _, rfl, Below.refl _ _, Lib.hid fun j hj => absurd hj (Nat.not_lt_zero _)⟩
    case round =>
      obtain ⟨k, hkN, rfl, hB, HZ⟩ := hrel
      by_cases hlt : k < N
      · have d2 : decide ((k : Int) < (N : Int)) = true := yb (by omega)
        obtain ⟨b1, o1, rfl, hc1, hrow⟩ := RdO.at (HR.out.keep hB) HN.out k hlt
        obtain ⟨y, HY⟩ : ∃ y, Hid (gx l k = y) := ⟨_, Lib.hid rfl⟩
        rw [HY.out] at hrow
        obtain ⟨g0, g1, g2, g3, g4, g5, g6⟩ := hrow
        have i1 : (0 : Int) ≤ (k : Int) := by omega
        have i2 : (k : Int) < (N : Int) := by omega
        have hwk : IntKind.i64.wrap (k : Int) = (k : Int) := IntWalk.i64_in _ (by omega)
        have hwk1 : IntKind.i64.wrap ((k : Int) + 1) = (k : Int) + 1 := IntWalk.i64_in _ (by omega)
        obtain ⟨z, hz⟩ : ∃ z, oneE y = z := ⟨_, rfl⟩
        have HB := Lib.hid hB
        clear hB
        obtain ⟨W, hW⟩ : ∃ W : World, W = wr.alloc (.cells #[.int .i64 y.tk, .int .i64 y.nd, .int .i64 y.kd, .int .i64 y.id.nd, .int .u64 y.id.sq, .int .i64 y.id.off, .int .i64 y.ot] 28) := ⟨_, rfl⟩
        have hBW : Below wr.heap.size wr W := by rw [hW]; exact (by repeat (first | assumption | exact Below.refl _ _ | apply Below.al | apply below_drewN | apply Below.drew | refine Below.next ?_ (by assumption)))
        have bI : BoxN W wr.heap.size 28 #[.int .i64 y.tk, .int .i64 y.nd, .int .i64 y.kd, .int .i64 y.id.nd, .int .u64 y.id.sq, .int .i64 y.id.off, .int .i64 y.ot] := by rw [hW]; exact BoxN.new wr _ _
        have h0 : W.cell? ⟨wr.heap.size, 0, none⟩ = some (.int .i64 y.tk) := bI.cell 0
        have h1 : W.cell? ⟨wr.heap.size, 1, none⟩ = some (.int .i64 y.nd) := bI.cell 1
        have h2 : W.cell? ⟨wr.heap.size, 2, none⟩ = some (.int .i64 y.kd) := bI.cell 2
        have h3 : W.cell? ⟨wr.heap.size, 3, none⟩ = some (.int .i64 y.id.nd) := bI.cell 3
        have h4 : W.cell? ⟨wr.heap.size, 4, none⟩ = some (.int .u64 y.id.sq) := bI.cell 4
        have h5 : W.cell? ⟨wr.heap.size, 5, none⟩ = some (.int .i64 y.id.off) := bI.cell 5
        have h6 : W.cell? ⟨wr.heap.size, 6, none⟩ = some (.int .i64 y.ot) := bI.cell 6
        replace HB := Lib.hid (Below.next HB.out hBW)
        obtain ⟨Q, HQ⟩ : ∃ Q, Hid (wr.heap.size = Q) := ⟨_, Lib.hid rfl⟩
        have HO := Lib.hid (one_any y W (HF.out.keep HB.out))
        rw [hz] at HO
        clear bI hBW
        go_upto_region 6 with fail
        rw [← hW, HQ.out]
        rw [HQ.out] at h0 h1 h2 h3 h4 h5 h6
        clear hW HQ g0 g1 g2 g3 g4 g5 g6
        go_wp2_with fail
        refine HO.out.mono ?_
        rintro e w2 ⟨rfl, hb2⟩
        have h0 := cell_later hb2 h0
        replace HB := Lib.hid (Below.next HB.out hb2)
        clear h1 h2 h3 h4 h5 h6 hb2 HO
        by_cases hz0 : z = 0
        · have d3 : (z != 0) = false := by simp [hz0]
          have hone : oneE (gx l k) = 0 := by rw [HY.out, hz, hz0]
          have HONE := Lib.hid hone
          clear hz hz0 hone
          by_cases hk0 : k = 0
          · subst hk0
            have HST : Hid (stepT l 0 = 0) := Lib.hid (stepT_ok HONE.out (by omega))
            go_wp2_with fail
            go_quiet (fail)
            go_wp2_with fail
            go_roundw
            case rel => exact ⟨1, by omega, by go_num, below_drewN HB.out _, Lib.hid fun j hj => by
              rcases Nat.lt_succ_iff_lt_or_eq.1 hj with hj | rfl
              · exact HZ.out j hj
              · exact HST.out⟩
            case measure => simp [intOf]; omega
          · obtain ⟨p, rfl⟩ : ∃ p, k = p + 1 := ⟨k - 1, by omega⟩
            obtain ⟨b2, o2, he2, _, q0, _⟩ := RdO.at (HR.out.keep HB.out) HN.out p (by omega)
            cases he2
            obtain ⟨x, HX⟩ : ∃ x, Hid (gx l p = x) := ⟨_, Lib.hid rfl⟩
            rw [HX.out] at q0
            have d4 : decide ((p : Int) + 1 > 0) = true := yb (by omega)
            have i3 : (0 : Int) ≤ (p : Int) + 1 := by omega
            have i4 : (p : Int) + 1 < (N : Int) := by omega
            have hwk3 : IntKind.i64.wrap ((p : Int) + 1) = (p : Int) + 1 := IntWalk.i64_in _ (by omega)
            have hwk4 : IntKind.i64.wrap ((p : Int) + 1 + 1) = (p : Int) + 1 + 1 := IntWalk.i64_in _ (by omega)
            have j1 : (0 : Int) ≤ (p : Int) := by omega
            have j2 : (p : Int) < (N : Int) := by omega
            have hwp : IntKind.i64.wrap (p : Int) = (p : Int) := IntWalk.i64_in _ (by omega)
            have hwq : IntKind.i64.wrap ((p : Int) + 1 - 1) = (p : Int) := by rw [show (p : Int) + 1 - 1 = (p : Int) by omega]; exact hwp
            have hnp : ((p : Int) + 1).toNat = p + 1 := by omega
            by_cases ht : y.tk < x.tk
            · have d5 : decide (y.tk < x.tk) = true := yb ht
              have HST : Hid (stepT l (p + 1) = 19) := Lib.hid (stepT_ord HONE.out ⟨by omega, by rw [HY.out, show p + 1 - 1 = p by omega, HX.out]; exact ht⟩)
              obtain ⟨rfl, rfl⟩ : er = 19 ∧ ix = ((p + 1 : Nat) : Int) := by
                have h1 := chkT_at (by rw [HN.out]; omega) (by rw [HN.out]; exact hlt) HZ.out (by rw [HST.out]; simp)
                rw [HST.out, HC.out] at h1
                simpa using h1
              clear ht hk0
              go_wp2_with fail
              go_quiet (fail)
              go_wp2_with fail
              go_ret2
              exact ⟨by push_cast; rfl, below_drewN HB.out _⟩
            · have d5 : decide (y.tk < x.tk) = false := nb ht
              have HST : Hid (stepT l (p + 1) = 0) := Lib.hid (stepT_ok HONE.out (by rw [HY.out, show p + 1 - 1 = p by omega, HX.out]; omega))
              clear ht hk0
              go_wp2_with fail
              go_quiet (fail)
              go_wp2_with fail
              go_roundw
              case rel => exact ⟨p + 1 + 1, by omega, by go_num, below_drewN HB.out _, Lib.hid fun j hj => by
                rcases Nat.lt_succ_iff_lt_or_eq.1 hj with hj | rfl
                · exact HZ.out j hj
                · exact HST.out⟩
              case measure => simp [intOf]; omega
        · have d3 : (z != 0) = true := by simpa using hz0
          have HST : Hid (stepT l k = z) := Lib.hid (by rw [stepT_one (by rw [HY.out, hz]; exact hz0), HY.out, hz])
          obtain ⟨rfl, rfl⟩ : er = z ∧ ix = (k : Int) := by
            have h1 := chkT_at (by rw [HN.out]; omega) (by rw [HN.out]; exact hlt) HZ.out (by rw [HST.out]; exact hz0)
            rw [HST.out, HC.out] at h1
            simpa using h1
          clear hz hz0
          go_wp2_with fail
          go_ret2
          exact ⟨rfl, HB.out⟩
      · obtain rfl : k = N := by omega
        have d2 : decide ((k : Int) < (k : Int)) = false := nb (by omega)
        obtain ⟨rfl, rfl⟩ : er = 0 ∧ ix = 0 := by
          have h1 := chkT_ok (l := l) (by rw [HN.out]; omega) (by rw [HN.out]; exact HZ.out)
          rw [HC.out] at h1
          simpa using h1
        go_wp2_with fail
        go_ret2
        exact ⟨rfl, hB⟩
theorem valid_any (v : Value) (l : List Oc) (w : World) (hf : FC w) (h : RdO w v l) : Calls Tryd.prog 57 #[v] w fun e w' => e = .returned (.int .i64 (chkT l).1) ∧ Below w.heap.size w w' := by
  have HT := Lib.hid (trace_any v l w hf h)
  clear hf h
  go_enter Tryd.func57, Tryd.ntmps57
  go_wp2_with fail
  refine HT.out.mono ?_
  rintro e w1 ⟨rfl, hb⟩
  have HB := Lib.hid hb
  clear hb
  go_wp2_with fail
  go_ret
  exact ⟨rfl, HB.out⟩
end Go.Proofs.YtcjlbpndgjapiaaDoor
namespace Go.Proofs.YtcjlbpndgjapiaaDoor
open Go.RowKit Go.Maps
set_option linter.unusedSimpArgs false
set_option linter.unusedVariables false
set_option maxRecDepth 100000

theorem Tryd.laidOut : laidOutB Tryd.prog = true := by kernel_rfl
theorem rowI : (26 : TypeId) < Tryd.prog.types.size := of_decide_eq_true (by kernel_rfl)
theorem wideI : (match Tryd.prog.underlying 26 with | some (.array _ _) | some (.struct _) => true | _ => false) = true := by rw [Tryd.underlying26]
theorem lawI : Keyed Tryd.prog 26 := Keyed.of_law (deep_law_laid Tryd.laidOut (m := 2) (by omega) rowI (by kernel_rfl) wideI)
theorem wf_i64 {x : Int} (h : Ib x) : (Lit.int .i64 x).wf = true := by
  simp [Lit.wf, IntKind.min, IntKind.max, IntKind.signed, IntKind.bits]
  omega
theorem wf_u64 {x : Int} (h : Ub x) : (Lit.int .u64 x).wf = true := by
  simp [Lit.wf, IntKind.min, IntKind.max, IntKind.signed, IntKind.bits]
  omega
theorem c1i : Tryd.prog.cellsOf 3 = 1 := by kernel_rfl
theorem c1u : Tryd.prog.cellsOf 24 = 1 := by kernel_rfl
theorem key_of (i : Idn) (h : IdW i) : ∃ l, keyOf Tryd.prog 26 i.v = some l := by
  unfold keyOf
  have hkt : Tryd.prog.keyType 26 = true := by kernel_rfl
  have hc : Tryd.prog.cellsOf 26 = 3 := by kernel_rfl
  have hf : Value.formed Tryd.prog 26 i.v = true := by simp [Value.formed, Tryd.underlying26, hc]
  simp only [Tryd.underlying26, hkt, hf, Bool.and_self, if_true]
  obtain ⟨h1, h2, h3⟩ := h
  have w1 := wf_i64 h1
  have w2 := wf_u64 h2
  have w3 := wf_i64 h3
  have hl : Tryd.prog.keyLits (Tryd.prog.types.size + 1) 26 i.v.cells.toList = some [.int .i64 i.nd, .int .u64 i.sq, .int .i64 i.off] := by
    obtain ⟨m, hm⟩ : ∃ m, Tryd.prog.types.size + 1 = m + 1 + 1 := ⟨168, by kernel_rfl⟩
    rw [hm]
    unfold Program.keyLits
    simp only [Tryd.underlying26]
    unfold Program.keyLits
    simp [Tryd.underlying3, Tryd.underlying24, Value.cells, c1i, c1u, hc, w1, w2, w3]
  rw [hl]
  exact ⟨_, rfl⟩
/-- the key that an ID reads as -/
noncomputable def kl (i : Idn) : Lit := (keyOf Tryd.prog 26 i.v).getD (.bool false)
theorem kl_of {i : Idn} (h : IdW i) : keyOf Tryd.prog 26 i.v = some (kl i) := by
  obtain ⟨l, hl⟩ := key_of i h
  unfold kl
  rw [hl]; rfl
theorem kl_ne {i j : Idn} (hi : IdW i) (hj : IdW j) (hne : i ≠ j) : kl i ≠ kl j := by
  intro h
  have h1 := kl_of hi
  rw [h] at h1
  have := lawI.inj h1 (kl_of hj)
  simp at this
  exact hne (by cases i; cases j; simp_all)
theorem ownsMap_keep {H : Type} {P : Program} {k : TypeId} {R : Value → Option (DataW H × List MemPlace)} {W w1 : World} {b n : Nat} {D : DataW H} (hb : Below W.heap.size W w1) (h : W.ownsMap P k R b n D) : w1.ownsMap P k R b n D := by
  have hl := h.lt
  obtain ⟨es, clock, h1, F, hs, hD⟩ := h
  exact ⟨es, clock, (hb.block b hl).trans h1, F, hs, hD⟩
/-- the set of the first k IDs -/
noncomputable def Db (ws : List Bd) : Nat → DataW Unit
  | 0 => .map []
  | k + 1 => (Db ws k).put (kl (gb ws k).id) (.lit (.bool true))
theorem Db_map (ws : List Bd) : ∀ k, Maps.IsMap (Db ws k)
  | 0 => Maps.isMap_empty
  | k + 1 => (Db_map ws k).put _ _
theorem Db_at {ws : List Bd} (h : ∀ b, b ∈ ws → BdW b) {i : Idn} (hi : IdW i) : ∀ k, k ≤ ws.length → (Db ws k).atKey (kl i) (.lit (.bool false)) = .lit (.bool (hasI ws i k))
  | 0, _ => by simp [Db, hasI, DataW.atKey]
  | k + 1, hk => by
    have hw := (h _ (getD_mem (d := b0) (show k < ws.length by omega))).1
    unfold Db hasI
    by_cases he : (gb ws k).id = i
    · rw [decide_eq_true he, Bool.or_true, he]
      exact Maps.atKey_put_same (Db_map ws k) (lawI.key (kl_of hi)) _ _
    · rw [decide_eq_false he, Bool.or_false, Maps.atKey_put_other (kl_ne hi hw (fun e => he e.symm)), Db_at h hi k (by omega)]
theorem plainElem_bool_inv {v : Value} {b : Bool} {ps : List MemPlace} (h : plainElem (H := Unit) Tryd.prog 4 v = some (.lit (.bool b), ps)) : v = .bool b := by
  unfold plainElem at h
  rw [Tryd.underlying4] at h
  cases v <;> simp at h
  obtain ⟨rfl, _⟩ := h
  rfl
theorem zero4 (w : World) : (zeroValue 4).run Tryd.prog w = .ok (.bool false) w := by kernel_rfl
abbrev MB (w : World) (B k : Nat) (ws : List Bd) : Prop := w.ownsMap Tryd.prog 26 (plainElem Tryd.prog 4) B k (Db ws k)
theorem mb_look {w : World} {B k : Nat} {ws : List Bd} (h : MB w B k ws) (hw : ∀ b, b ∈ ws → BdW b) (hk : k ≤ ws.length) {i : Idn} (hi : IdW i) : (Instr.lookup 68 (.map (some B)) i.v false).run Tryd.prog w = .ok (.bool (hasI ws i k)) w := by
  obtain ⟨v, ps, hrun, hv⟩ := World.ownsMap.lookup h lawI Tryd.underlying68 (zero4 _) (plainElem_bool Tryd.underlying4 false) (kl_of hi)
  rw [Db_at hw hi k hk] at hv
  rw [hrun, plainElem_bool_inv hv]
theorem mb_put {w : World} {B k : Nat} {ws : List Bd} (h : MB w B k ws) (hk : k ≤ 1000) (hi : IdW (gb ws k).id) : ∃ w5, (Instr.mapUpdate 68 (.map (some B)) (gb ws k).id.v (.bool true)).run Tryd.prog w = .ok () w5 ∧ MB w5 B (k + 1) ws ∧ w.grownBy w5 (some B) := by
  obtain ⟨w5, h1, h2, h3⟩ := World.ownsMap.update h lawI Tryd.underlying68 (by unfold maxLen; omega) (kl_of hi) (plainElem_bool Tryd.underlying4 true)
  exact ⟨w5, h1, h2, h3⟩
set_option maxHeartbeats 2000000 in
theorem world_any (v : Value) (l : List Bd) (hwf : ∀ b, b ∈ l → BdW b) (w : World) (h : RdB w v l) : Calls Tryd.prog 12 #[v] w fun e w' => e = .returned (V2 (chkW l).1 (chkW l).2) ∧ Below w.heap.size w w' := by
  obtain ⟨a0, n0, rfl⟩ := h.form
  have hmx := h.2.1
  unfold maxLen at hmx
  obtain ⟨N, hN⟩ : ∃ N, l.length = N := ⟨_, rfl⟩
  rw [hN] at h hmx ⊢
  have HN := Lib.hid hN
  have HR := Lib.hid h
  have HWF := Lib.hid hwf
  obtain ⟨er, ix, hc⟩ : ∃ er ix, chkW l = (er, ix) := ⟨_, _, rfl⟩
  rw [hc]
  have HC := Lib.hid hc
  clear hN h hc hwf
  by_cases hbig : 200 < N
  · have d0 : decide ((N : Int) > 200) = true := yb (by omega)
    obtain ⟨rfl, rfl⟩ : er = 5 ∧ ix = 0 := by
      have h1 := HC.out
      rw [chkW_big (by rw [HN.out]; exact hbig)] at h1
      simpa using h1.symm
    clear hbig
    go_enter Tryd.func12, Tryd.ntmps12
    go_wp2_with fail
    go_ret2
    exact ⟨rfl, Below.refl _ _⟩
  · have d0 : decide ((N : Int) > 200) = false := nb (by omega)
    have hmm := @run_makeMap Tryd.prog
    go_enter Tryd.func12, Tryd.ntmps12
    go_wp2_with fail
    go_loopw [14] (fun i wr => ∃ k : Nat, k ≤ N ∧ i = .int .i64 k ∧ Below w.heap.size w wr ∧ MB wr w.heap.size k l ∧ Hid (∀ j, j < k → stepW l j = 0)) (fun i _ => N - (intOf i).toNat)
    case atStart => exact ⟨0, Nat.zero_le _, rfl, (by repeat (first | assumption | exact Below.refl _ _ | apply Below.al | apply below_drewN | apply Below.drew | refine Below.next ?_ (by assumption))), World.ownsMap_made _ _ _ _, Lib.hid fun j hj => absurd hj (Nat.not_lt_zero _)⟩
    case round =>
      obtain ⟨k, hkN, rfl, hB, hmb, HZ⟩ := hrel
      by_cases hlt : k < N
      · have d2 : decide ((k : Int) < (N : Int)) = true := yb (by omega)
        obtain ⟨b1, o1, rfl, hc1, hrow⟩ := RdB.at (HR.out.keep hB) HN.out k hlt
        have hyw : BdW (gb l k) := HWF.out _ (getD_mem (by rw [HN.out]; exact hlt))
        obtain ⟨y, HY⟩ : ∃ y, Hid (gb l k = y) := ⟨_, Lib.hid rfl⟩
        rw [HY.out] at hrow hyw
        obtain ⟨g0, g1, g2, g3, g4, g5, g6, g7, g8⟩ := hrow
        have i1 : (0 : Int) ≤ (k : Int) := by omega
        have i2 : (k : Int) < (N : Int) := by omega
        have hwk : IntKind.i64.wrap (k : Int) = (k : Int) := IntWalk.i64_in _ (by omega)
        have hwk1 : IntKind.i64.wrap ((k : Int) + 1) = (k : Int) + 1 := IntWalk.i64_in _ (by omega)
        obtain ⟨z, hz⟩ : ∃ z, chkB y = z := ⟨_, rfl⟩
        obtain ⟨W, hW⟩ : ∃ W : World, W = wr.alloc (.cells #[.int .i64 y.id.nd, .int .u64 y.id.sq, .int .i64 y.id.off, .int .i64 y.dst, .int .i64 y.pri, .int .i64 y.born, .int .i64 y.life, .int .i64 y.tot, .string y.dat] 41) := ⟨_, rfl⟩
        have hBW : Below wr.heap.size wr W := by rw [hW]; exact (by repeat (first | assumption | exact Below.refl _ _ | apply Below.al | apply below_drewN | apply Below.drew | refine Below.next ?_ (by assumption)))
        have bI : BoxN W wr.heap.size 41 #[.int .i64 y.id.nd, .int .u64 y.id.sq, .int .i64 y.id.off, .int .i64 y.dst, .int .i64 y.pri, .int .i64 y.born, .int .i64 y.life, .int .i64 y.tot, .string y.dat] := by rw [hW]; exact BoxN.new wr _ _
        have h0 : W.cell? ⟨wr.heap.size, 0, none⟩ = some (.int .i64 y.id.nd) := bI.cell 0
        have h1 : W.cell? ⟨wr.heap.size, 1, none⟩ = some (.int .u64 y.id.sq) := bI.cell 1
        have h2 : W.cell? ⟨wr.heap.size, 2, none⟩ = some (.int .i64 y.id.off) := bI.cell 2
        have h3 : W.cell? ⟨wr.heap.size, 3, none⟩ = some (.int .i64 y.dst) := bI.cell 3
        have h4 : W.cell? ⟨wr.heap.size, 4, none⟩ = some (.int .i64 y.pri) := bI.cell 4
        have h5 : W.cell? ⟨wr.heap.size, 5, none⟩ = some (.int .i64 y.born) := bI.cell 5
        have h6 : W.cell? ⟨wr.heap.size, 6, none⟩ = some (.int .i64 y.life) := bI.cell 6
        have h7 : W.cell? ⟨wr.heap.size, 7, none⟩ = some (.int .i64 y.tot) := bI.cell 7
        have h8 : W.cell? ⟨wr.heap.size, 8, none⟩ = some (.string y.dat) := bI.cell 8
        have HB := Lib.hid (Below.next hB hBW)
        have hmbW := ownsMap_keep hBW hmb
        obtain ⟨Q, HQ⟩ : ∃ Q, Hid (wr.heap.size = Q) := ⟨_, Lib.hid rfl⟩
        have HO := Lib.hid (check_any y W)
        rw [hz] at HO
        clear bI hBW hB hmb
        go_upto_region 7 with fail
        rw [← hW, HQ.out]
        rw [HQ.out] at h0 h1 h2 h3 h4 h5 h6 h7 h8
        clear hW HQ g0 g1 g2 g3 g4 g5 g6 g7 g8
        go_wp2_with fail
        refine HO.out.mono ?_
        rintro e w2 ⟨rfl, hb2⟩
        have h0 := cell_later hb2 h0
        have h1 := cell_later hb2 h1
        have h2 := cell_later hb2 h2
        have hmb2 := ownsMap_keep hb2 hmbW
        replace HB := Lib.hid (Below.next HB.out hb2)
        clear h3 h4 h5 h6 h7 h8 hb2 HO hmbW
        by_cases hz0 : z = 0
        · have d3 : (z != 0) = false := by simp [hz0]
          have HONE : Hid (chkB (gb l k) = 0) := Lib.hid (by rw [HY.out, hz, hz0])
          clear hz hz0
          have hlk := mb_look hmb2 HWF.out (by rw [HN.out]; omega) hyw.1
          cases hh : hasI l y.id k with
          | true =>
            rw [hh] at hlk
            have HST : Hid (stepW l k = 9) := Lib.hid (stepW_has HONE.out (by rw [HY.out]; exact hh))
            obtain ⟨rfl, rfl⟩ : er = 9 ∧ ix = (k : Int) := by
              have h1 := chkW_at (l := l) (k := k) (by rw [HN.out]; omega) (by rw [HN.out]; exact hlt) HZ.out (by rw [HST.out]; first | exact hz0 | simp)
              rw [HST.out, HC.out] at h1
              simpa using h1
            clear hh
            go_wp2_with fail
            go_ret2
            exact ⟨rfl, HB.out⟩
          | false =>
            rw [hh] at hlk
            have HST : Hid (stepW l k = 0) := Lib.hid (stepW_ok HONE.out (by rw [HY.out]; exact hh))
            obtain ⟨w5, hup, hmb5, hg5⟩ := mb_put hmb2 (by omega) (by rw [HY.out]; exact hyw.1)
            rw [HY.out] at hup
            have hB5 : Below w.heap.size w w5 := Below.grown HB.out hg5 HB.out.size (fun j hj => by cases hj; exact Nat.le_refl _)
            have HB5 := Lib.hid hB5
            have HM5 := Lib.hid hmb5
            clear hh hmb5 hg5 hB5 hyw
            go_wp2_with fail
            go_roundw
            case rel => exact ⟨k + 1, by omega, by go_num, HB5.out, HM5.out, Lib.hid fun j hj => by
              rcases Nat.lt_succ_iff_lt_or_eq.1 hj with hj | rfl
              · exact HZ.out j hj
              · exact HST.out⟩
            case measure => simp [intOf]; omega
        · have d3 : (z != 0) = true := by simpa using hz0
          have HST : Hid (stepW l k = z) := Lib.hid (by rw [stepW_b (by rw [HY.out, hz]; exact hz0), HY.out, hz])
          obtain ⟨rfl, rfl⟩ : er = z ∧ ix = (k : Int) := by
            have h1 := chkW_at (l := l) (k := k) (by rw [HN.out]; omega) (by rw [HN.out]; exact hlt) HZ.out (by rw [HST.out]; first | exact hz0 | simp)
            rw [HST.out, HC.out] at h1
            simpa using h1
          clear hz hz0
          go_wp2_with fail
          go_ret2
          exact ⟨rfl, HB.out⟩
      · obtain rfl : k = N := by omega
        have d2 : decide ((k : Int) < (k : Int)) = false := nb (by omega)
        obtain ⟨rfl, rfl⟩ : er = 0 ∧ ix = 0 := by
          have h1 := chkW_ok (l := l) (by rw [HN.out]; omega) (by rw [HN.out]; exact HZ.out)
          rw [HC.out] at h1
          simpa using h1
        go_wp2_with fail
        go_ret2
        exact ⟨rfl, hB⟩
end Go.Proofs.YtcjlbpndgjapiaaDoor
namespace Go.Proofs.YtcjlbpndgjapiaaDoor
open Go.RowKit
set_option linter.unusedSimpArgs false
set_option linter.unusedVariables false
set_option maxRecDepth 100000

theorem u32_bits {a b : Nat} (ha : a < 4294967296) (hb : b < 4294967296) : bits .and .u32 (a : Int) (b : Int) = ((a &&& b : Nat) : Int) ∧ bits .or .u32 (a : Int) (b : Int) = ((a ||| b : Nat) : Int) :=
  bits_nat .u32 32 (by decide) (fun n h0 h1 => by rw [IntKind.wrap_u32]; omega) a b ha hb
theorem u32_not {a b : Nat} (ha : a < 4294967296) (hb : b < 4294967296) : bits .andNot .u32 (a : Int) (b : Int) = ((a ^^^ (a &&& b) : Nat) : Int) := by
  have ha' : a % 4294967296 = a := Nat.mod_eq_of_lt ha
  have hb' : b % 4294967296 = b := Nat.mod_eq_of_lt hb
  have key : (BitVec.ofInt 32 (a : Int) &&& ~~~ BitVec.ofInt 32 (b : Int)).toNat = a ^^^ (a &&& b) := by
    have e : BitVec.ofInt 32 (a : Int) &&& ~~~ BitVec.ofInt 32 (b : Int) = BitVec.ofInt 32 (a : Int) ^^^ (BitVec.ofInt 32 (a : Int) &&& BitVec.ofInt 32 (b : Int)) := by
      ext i hi
      simp
      cases (BitVec.ofNat 32 a)[i] <;> cases (BitVec.ofNat 32 b)[i] <;> rfl
    rw [e, BitVec.toNat_xor, BitVec.toNat_and, BitVec.ofInt_natCast, BitVec.ofInt_natCast, BitVec.toNat_ofNat, BitVec.toNat_ofNat]
    simp only [Nat.reducePow, ha', hb']
  show IntKind.u32.wrap ((BitVec.ofInt 32 (a : Int) &&& ~~~ BitVec.ofInt 32 (b : Int)).toNat : Int) = _
  rw [key, IntKind.wrap_u32]
  have : a ^^^ (a &&& b) < 2 ^ 32 := Nat.xor_lt_two_pow (by omega) (Nat.and_lt_two_pow _ (by omega))
  omega
theorem shl_nat {n : Nat} (hn : n ≤ 16) : (1 <<< n : Nat) ≤ 65536 := by
  rw [Nat.one_shiftLeft]
  exact Nat.pow_le_pow_right (by decide) hn
theorem u32_shl {n : Nat} (hn : n ≤ 16) : IntKind.u32.wrap (2 ^ n) = ((1 <<< n : Nat) : Int) := by
  have h := shl_nat hn
  rw [Nat.one_shiftLeft] at h ⊢
  have e : (2 : Int) ^ n = ((2 ^ n : Nat) : Int) := by push_cast; rfl
  rw [e]
  obtain ⟨P, hP⟩ : ∃ P, 2 ^ n = P := ⟨_, rfl⟩
  rw [hP] at h ⊢
  rw [IntKind.wrap_u32]
  omega
theorem and_bit (s n : Nat) : (((s &&& (1 <<< n) : Nat) : Int) != 0) = s.testBit n := by
  have h : s.testBit n = (s &&& (1 <<< n)).testBit n := by rw [Nat.testBit_and, bit_one]; simp
  cases hb : s.testBit n with
  | true =>
    rw [hb] at h
    refine bne_iff_ne.2 (fun e => ?_)
    have e : s &&& (1 <<< n) = 0 := by omega
    rw [e] at h
    simp at h
  | false =>
    have e : s &&& (1 <<< n) = 0 := by
      apply Nat.eq_of_testBit_eq
      intro i
      rw [Nat.testBit_and, bit_one, Nat.zero_testBit]
      by_cases hi : n = i
      · subst hi; rw [hb]; rfl
      · rw [decide_eq_false hi, Bool.and_false]
    rw [e]
    rfl
theorem addB_lt {s n : Nat} (hs : s < 131072) (hn : n ≤ 16) : addB s n < 131072 := by
  have h := shl_nat hn
  have : s ||| (1 <<< n) < 2 ^ 17 := Nat.or_lt_two_pow (by omega) (by omega)
  exact this
theorem remB_lt {s n : Nat} (hs : s < 131072) (hn : n ≤ 16) : remB s n < 131072 := by
  have h := shl_nat hn
  have : s ^^^ (s &&& (1 <<< n)) < 2 ^ 17 := Nat.xor_lt_two_pow (by omega) (Nat.and_lt_two_pow _ (by omega))
  exact this
theorem has_any (s : Nat) (hs : s < 131072) (x : Int) (hx : 0 ≤ x ∧ x ≤ 16) (w : World) : Calls Tryd.prog 50 #[.int .u32 (s : Int), .int .i64 x] w fun e w' => e = .returned (.bool (s.testBit x.toNat)) ∧ w = w' := by
  obtain ⟨n, rfl⟩ : ∃ n : Nat, x = (n : Int) := ⟨x.toNat, by omega⟩
  have hn : n ≤ 16 := by omega
  obtain ⟨P, hP⟩ : ∃ P, (1 <<< n : Nat) = P := ⟨_, rfl⟩
  have hsh := u32_shl hn
  have hPl := shl_nat hn
  have hand := (u32_bits (a := s) (b := P) (by omega) (by omega)).1
  have hbit := and_bit s n
  rw [hP] at hsh hbit hPl
  have i1 : (0 : Int) ≤ (n : Int) := by omega
  have i2 : (n : Int) ≤ 32 := by omega
  have hnn : (n : Int).toNat = n := by omega
  clear hP hPl hn hx
  go_enter Tryd.func50, Tryd.ntmps50
  go_wp2_with fail
  go_ret
  exact ⟨by rw [hnn]; rfl, rfl⟩
theorem BoxN.setL {w : World} {B T : Nat} {cs : List Value} (h : BoxN w B T cs.toArray) (o : Nat) (v : Value) : BoxN (w.setCell ⟨B, o, none⟩ v) B T (cs.set o v).toArray := by
  have h1 := heap_setCell_same w B o _ T v h
  unfold BoxN
  rw [h1]
  simp
/-- a change of one box -/
def Bx1 (w : World) (B T : Nat) (cs : List Value) (e : Ending) (v : Value) (w' : World) : Prop := e = .returned v ∧ BoxN w' B T cs.toArray ∧ Kx (fun k => k = B) w w'
theorem add_any (B T o s : Nat) (x : Int) (cs : List Value) (hsl : s < 131072) (hx : 0 ≤ x ∧ x ≤ 16) (w : World) (h : BoxN w B T cs.toArray) (hs : cs[o]? = some (.int .u32 (s : Int))) :
    Calls Tryd.prog 130 #[.pointer (some ⟨B, o, none⟩), .int .i64 x] w fun e w' => Bx1 w B T (cs.set o (.int .u32 (addB s x.toNat : Int))) e (.tuple #[]) w' := by
  obtain ⟨n, rfl⟩ : ∃ n : Nat, x = (n : Int) := ⟨x.toNat, by omega⟩
  have hn : n ≤ 16 := by omega
  obtain ⟨P, hP⟩ : ∃ P, (1 <<< n : Nat) = P := ⟨_, rfl⟩
  have hsh := u32_shl hn
  have hPl := shl_nat hn
  rw [hP] at hsh hPl
  have hnn : (n : Int).toNat = n := by omega
  rw [hnn]
  (have hop : bits .or .u32 (s : Int) (P : Int) = ((addB s n : Nat) : Int) := by rw [(u32_bits (a := s) (b := P) (by omega) (by omega)).2, ← hP]; rfl)
  have c0 : w.cell? ⟨B, o, none⟩ = some (.int .u32 (s : Int)) := by rw [h.cell o]; simpa using hs
  have f0 := h.frozen o
  have hBl := h.lt
  have i1 : (0 : Int) ≤ (n : Int) := by omega
  have i2 : (n : Int) ≤ 32 := by omega
  have HX := Lib.hid h
  clear hP hPl hn hx hs h
  go_enter Tryd.func130, Tryd.ntmps130
  go_upto_region 0 with fail
  refine wp_region_calm (fun w' => Below w.heap.size w w') 7 (by kernel_rfl) ((Below.refl _ w).drew) ?_
  refine cm_run 0 4 (v := ?_) rfl rfl (by kernel_rfl) (by kernel_rfl) (by kernel_rfl) (by kernel_rfl) (by kernel_rfl) (fun _ _ _ h => h) (by rfl) ?_ ?_
  rotate_left
  · (intro wS hS; skip; go_simp; (try with_reducible rfl))
  simp only [List.setIfInBounds_toArray, List.set_cons_zero, List.set_cons_succ]
  refine cm_run 1 5 (v := ?_) rfl rfl (by kernel_rfl) (by kernel_rfl) (by kernel_rfl) (by kernel_rfl) (by kernel_rfl) (fun _ _ _ h => h) (by rfl) ?_ ?_
  rotate_left
  · (intro wS hS; skip; go_simp; (try with_reducible rfl))
  simp only [List.setIfInBounds_toArray, List.set_cons_zero, List.set_cons_succ]
  refine cm_run 2 6 (v := ?_) rfl rfl (by kernel_rfl) (by kernel_rfl) (by kernel_rfl) (by kernel_rfl) (by kernel_rfl) (fun _ _ _ h => h) (by rfl) ?_ ?_
  rotate_left
  · (intro wS hS; have g := cell_later hS c0; go_simp; (try with_reducible rfl))
  simp only [List.setIfInBounds_toArray, List.set_cons_zero, List.set_cons_succ]
  refine cm_run 3 7 (v := ?_) rfl rfl (by kernel_rfl) (by kernel_rfl) (by kernel_rfl) (by kernel_rfl) (by kernel_rfl) (fun _ _ _ h => h) (by rfl) ?_ ?_
  rotate_left
  · (intro wS hS; skip; go_simp; (try with_reducible rfl))
  simp only [List.setIfInBounds_toArray, List.set_cons_zero, List.set_cons_succ]
  refine cm_run 4 8 (v := ?_) rfl rfl (by kernel_rfl) (by kernel_rfl) (by kernel_rfl) (by kernel_rfl) (by kernel_rfl) (fun _ _ _ h => h) (by rfl) ?_ ?_
  rotate_left
  · (intro wS hS; skip; go_simp; (try with_reducible rfl))
  simp only [List.setIfInBounds_toArray, List.set_cons_zero, List.set_cons_succ]
  refine cm_run 5 9 (v := ?_) rfl rfl (by kernel_rfl) (by kernel_rfl) (by kernel_rfl) (by kernel_rfl) (by kernel_rfl) (fun _ _ _ h => h) (by rfl) ?_ ?_
  rotate_left
  · (intro wS hS; skip; go_simp; (try with_reducible rfl))
  simp only [List.setIfInBounds_toArray, List.set_cons_zero, List.set_cons_succ]
  refine cm_run 6 10 (v := ?_) rfl rfl (by kernel_rfl) (by kernel_rfl) (by kernel_rfl) (by kernel_rfl) (by kernel_rfl) (fun _ _ _ h => h) (by rfl) ?_ ?_
  rotate_left
  · (intro wS hS; skip; go_simp; (try with_reducible rfl))
  simp only [List.setIfInBounds_toArray, List.set_cons_zero, List.set_cons_succ]
  refine cm_tail 7 rfl (by kernel_rfl) (by kernel_rfl) (by kernel_rfl) (by rfl) ?_
  intro wS hS K hK
  have gx := cell_later hS c0; have fx := fz_later hS hBl f0
  go_simp
  refine hK _ _ ?_
  clear hK K
  refine NoPanic.normal ?_
  have hB1 := (HX.out.below hS).setL o (.int .u32 (addB s n : Int))
  have hk1 : Kx (fun k => k = B) w (wS.setCell ⟨B, o, none⟩ (.int .u32 (addB s n : Int))) := Kx.setCell (X := fun k => k = B) (Kx.of_below hS) (.inl rfl) _
  obtain ⟨WD, hWD⟩ : ∃ WD : World, WD = wS.setCell ⟨B, o, none⟩ (.int .u32 (addB s n : Int)) := ⟨_, rfl⟩
  rw [← hWD] at hB1 hk1 ⊢
  clear hWD gx fx hS c0 f0
  exact bodyPost_end (results_none rfl _ _ _) rfl ⟨rfl, hB1, hk1⟩
theorem remove_any (B T o s : Nat) (x : Int) (cs : List Value) (hsl : s < 131072) (hx : 0 ≤ x ∧ x ≤ 16) (w : World) (h : BoxN w B T cs.toArray) (hs : cs[o]? = some (.int .u32 (s : Int))) :
    Calls Tryd.prog 132 #[.pointer (some ⟨B, o, none⟩), .int .i64 x] w fun e w' => Bx1 w B T (cs.set o (.int .u32 (remB s x.toNat : Int))) e (.tuple #[]) w' := by
  obtain ⟨n, rfl⟩ : ∃ n : Nat, x = (n : Int) := ⟨x.toNat, by omega⟩
  have hn : n ≤ 16 := by omega
  obtain ⟨P, hP⟩ : ∃ P, (1 <<< n : Nat) = P := ⟨_, rfl⟩
  have hsh := u32_shl hn
  have hPl := shl_nat hn
  rw [hP] at hsh hPl
  have hnn : (n : Int).toNat = n := by omega
  rw [hnn]
  (have hop : bits .andNot .u32 (s : Int) (P : Int) = ((remB s n : Nat) : Int) := by rw [u32_not (a := s) (b := P) (by omega) (by omega), ← hP]; rfl)
  have c0 : w.cell? ⟨B, o, none⟩ = some (.int .u32 (s : Int)) := by rw [h.cell o]; simpa using hs
  have f0 := h.frozen o
  have hBl := h.lt
  have i1 : (0 : Int) ≤ (n : Int) := by omega
  have i2 : (n : Int) ≤ 32 := by omega
  have HX := Lib.hid h
  clear hP hPl hn hx hs h
  go_enter Tryd.func132, Tryd.ntmps132
  go_upto_region 0 with fail
  refine wp_region_calm (fun w' => Below w.heap.size w w') 7 (by kernel_rfl) ((Below.refl _ w).drew) ?_
  refine cm_run 0 4 (v := ?_) rfl rfl (by kernel_rfl) (by kernel_rfl) (by kernel_rfl) (by kernel_rfl) (by kernel_rfl) (fun _ _ _ h => h) (by rfl) ?_ ?_
  rotate_left
  · (intro wS hS; skip; go_simp; (try with_reducible rfl))
  simp only [List.setIfInBounds_toArray, List.set_cons_zero, List.set_cons_succ]
  refine cm_run 1 5 (v := ?_) rfl rfl (by kernel_rfl) (by kernel_rfl) (by kernel_rfl) (by kernel_rfl) (by kernel_rfl) (fun _ _ _ h => h) (by rfl) ?_ ?_
  rotate_left
  · (intro wS hS; skip; go_simp; (try with_reducible rfl))
  simp only [List.setIfInBounds_toArray, List.set_cons_zero, List.set_cons_succ]
  refine cm_run 2 6 (v := ?_) rfl rfl (by kernel_rfl) (by kernel_rfl) (by kernel_rfl) (by kernel_rfl) (by kernel_rfl) (fun _ _ _ h => h) (by rfl) ?_ ?_
  rotate_left
  · (intro wS hS; have g := cell_later hS c0; go_simp; (try with_reducible rfl))
  simp only [List.setIfInBounds_toArray, List.set_cons_zero, List.set_cons_succ]
  refine cm_run 3 7 (v := ?_) rfl rfl (by kernel_rfl) (by kernel_rfl) (by kernel_rfl) (by kernel_rfl) (by kernel_rfl) (fun _ _ _ h => h) (by rfl) ?_ ?_
  rotate_left
  · (intro wS hS; skip; go_simp; (try with_reducible rfl))
  simp only [List.setIfInBounds_toArray, List.set_cons_zero, List.set_cons_succ]
  refine cm_run 4 8 (v := ?_) rfl rfl (by kernel_rfl) (by kernel_rfl) (by kernel_rfl) (by kernel_rfl) (by kernel_rfl) (fun _ _ _ h => h) (by rfl) ?_ ?_
  rotate_left
  · (intro wS hS; skip; go_simp; (try with_reducible rfl))
  simp only [List.setIfInBounds_toArray, List.set_cons_zero, List.set_cons_succ]
  refine cm_run 5 9 (v := ?_) rfl rfl (by kernel_rfl) (by kernel_rfl) (by kernel_rfl) (by kernel_rfl) (by kernel_rfl) (fun _ _ _ h => h) (by rfl) ?_ ?_
  rotate_left
  · (intro wS hS; skip; go_simp; (try with_reducible rfl))
  simp only [List.setIfInBounds_toArray, List.set_cons_zero, List.set_cons_succ]
  refine cm_run 6 10 (v := ?_) rfl rfl (by kernel_rfl) (by kernel_rfl) (by kernel_rfl) (by kernel_rfl) (by kernel_rfl) (fun _ _ _ h => h) (by rfl) ?_ ?_
  rotate_left
  · (intro wS hS; skip; go_simp; (try with_reducible rfl))
  simp only [List.setIfInBounds_toArray, List.set_cons_zero, List.set_cons_succ]
  refine cm_tail 7 rfl (by kernel_rfl) (by kernel_rfl) (by kernel_rfl) (by rfl) ?_
  intro wS hS K hK
  have gx := cell_later hS c0; have fx := fz_later hS hBl f0
  go_simp
  refine hK _ _ ?_
  clear hK K
  refine NoPanic.normal ?_
  have hB1 := (HX.out.below hS).setL o (.int .u32 (remB s n : Int))
  have hk1 : Kx (fun k => k = B) w (wS.setCell ⟨B, o, none⟩ (.int .u32 (remB s n : Int))) := Kx.setCell (X := fun k => k = B) (Kx.of_below hS) (.inl rfl) _
  obtain ⟨WD, hWD⟩ : ∃ WD : World, WD = wS.setCell ⟨B, o, none⟩ (.int .u32 (remB s n : Int)) := ⟨_, rfl⟩
  rw [← hWD] at hB1 hk1 ⊢
  clear hWD gx fx hS c0 f0
  exact bodyPost_end (results_none rfl _ _ _) rfl ⟨rfl, hB1, hk1⟩

/-! counting bits, byte by byte -/
def pc8 (n : Nat) : Nat := ((List.range 8).filter fun i => n.testBit i).length
theorem pop_pc : ∀ n : Fin 256, Lib.pop8 (n.val : Int) = (pc8 n.val : Int) := by decide +kernel
theorem pop_of {x : Int} (h0 : 0 ≤ x) (h1 : x ≤ 255) : Lib.pop8 x = (pc8 x.toNat : Int) := by
  have := pop_pc ⟨x.toNat, by omega⟩
  rwa [show ((x.toNat : Nat) : Int) = x by omega] at this
theorem pc8_le (n : Nat) : pc8 n ≤ 8 := by
  unfold pc8
  exact Nat.le_trans (List.length_filter_le _ _) (by simp)
theorem range_17 : List.range 17 = List.range 8 ++ (List.range 8).map (· + 8) ++ [16] := by decide
theorem pc_bytes {s : Nat} (hs : s < 131072) : pc s = pc8 (s % 256) + pc8 (s / 256 % 256) + pc8 (s / 65536 % 256) := by
  have e1 : (fun i => s.testBit i) = fun i => s.testBit i := rfl
  unfold pc
  rw [range_17, List.filter_append, List.filter_append, List.length_append, List.length_append]
  have h1 : ((List.range 8).filter fun i => s.testBit i).length = pc8 (s % 256) := by
    unfold pc8
    congr 1
    refine List.filter_congr fun i hi => ?_
    rw [show (256 : Nat) = 2 ^ 8 from rfl, Nat.testBit_mod_two_pow, decide_eq_true (List.mem_range.1 hi), Bool.true_and]
  have h2 : (((List.range 8).map (· + 8)).filter fun i => s.testBit i).length = pc8 (s / 256 % 256) := by
    unfold pc8
    rw [List.filter_map, List.length_map]
    congr 1
    refine List.filter_congr fun i hi => ?_
    rw [show (256 : Nat) = 2 ^ 8 from rfl, Nat.testBit_mod_two_pow, decide_eq_true (List.mem_range.1 hi), Bool.true_and, Nat.testBit_div_two_pow]
    rfl
  have h3 : ([16].filter fun i => s.testBit i).length = pc8 (s / 65536 % 256) := by
    have e : s.testBit 16 = (s / 65536 % 256).testBit 0 := by
      rw [show (256 : Nat) = 2 ^ 8 from rfl, Nat.testBit_mod_two_pow, show (65536 : Nat) = 2 ^ 16 from rfl, Nat.testBit_div_two_pow]
      simp
    have hq : s / 65536 % 256 = 0 ∨ s / 65536 % 256 = 1 := by omega
    rcases hq with h | h <;> rw [h] at e ⊢ <;> simp [e] <;> decide
  rw [h1, h2, h3]
theorem u32_byte {a : Nat} (ha : a < 4294967296) : bits .and .u32 (a : Int) 255 = ((a % 256 : Nat) : Int) := by
  have := bits_mask .u32 32 (by decide) (fun n h0 h1 => by rw [IntKind.wrap_u32]; omega) 8 (by decide) (a : Int) (by omega) (by omega)
  have e : bits .and .u32 (a : Int) 255 = (a : Int) % 2 ^ 8 := this
  rw [e]
  omega
theorem ones_any (s : Nat) (hs : s < 131072) (w : World) : Calls Tryd.prog 131 #[.int .u32 (s : Int)] w fun e w' => e = .returned (.int .i64 (pc s : Int)) ∧ Below w.heap.size w w' := by
  obtain ⟨R, hR⟩ : ∃ R, pc s = R := ⟨_, rfl⟩
  rw [hR]
  rw [pc_bytes hs] at hR
  have q0 : (s : Int) / 16777216 = 0 := by omega
  have q2 : (s : Int) / 65536 = ((s / 65536 : Nat) : Int) := by omega
  have q1 : (s : Int) / 256 = ((s / 256 : Nat) : Int) := by omega
  have b0 := u32_byte (a := s) (by omega)
  have b1 := u32_byte (a := s / 256) (by omega)
  have b2 := u32_byte (a := s / 65536) (by omega)
  obtain ⟨S1, h1⟩ : ∃ S, s / 256 = S := ⟨_, rfl⟩
  obtain ⟨S2, h2⟩ : ∃ S, s / 65536 = S := ⟨_, rfl⟩
  rw [h1] at q1 b1 hR
  rw [h2] at q2 b2 hR
  obtain ⟨B0, hb0⟩ : ∃ S, s % 256 = S := ⟨_, rfl⟩
  obtain ⟨B1, hb1⟩ : ∃ S, S1 % 256 = S := ⟨_, rfl⟩
  obtain ⟨B2, hb2⟩ : ∃ S, S2 % 256 = S := ⟨_, rfl⟩
  rw [hb0] at b0 hR
  rw [hb1] at b1 hR
  rw [hb2] at b2 hR
  have p0 : Lib.pop8 (B0 : Int) = (pc8 B0 : Int) := by rw [pop_of (by omega) (by omega)]; rfl
  have p1 : Lib.pop8 (B1 : Int) = (pc8 B1 : Int) := by rw [pop_of (by omega) (by omega)]; rfl
  have p2 : Lib.pop8 (B2 : Int) = (pc8 B2 : Int) := by rw [pop_of (by omega) (by omega)]; rfl
  have p3 : Lib.pop8 0 = 0 := by decide +kernel
  have l0 := pc8_le B0
  have l1 := pc8_le B1
  have l2 := pc8_le B2
  obtain ⟨P0, hP0⟩ : ∃ S, pc8 B0 = S := ⟨_, rfl⟩
  obtain ⟨P1, hP1⟩ : ∃ S, pc8 B1 = S := ⟨_, rfl⟩
  obtain ⟨P2, hP2⟩ : ∃ S, pc8 B2 = S := ⟨_, rfl⟩
  rw [hP0] at p0 l0 hR
  rw [hP1] at p1 l1 hR
  rw [hP2] at p2 l2 hR
  have r0 : (0 : Int) ≤ (B0 : Int) ∧ (B0 : Int) ≤ 255 := by omega
  have r1 : (0 : Int) ≤ (B1 : Int) ∧ (B1 : Int) ≤ 255 := by omega
  have r2 : (0 : Int) ≤ (B2 : Int) ∧ (B2 : Int) ≤ 255 := by omega
  obtain ⟨r01, r02⟩ := r0
  obtain ⟨r11, r12⟩ := r1
  obtain ⟨r21, r22⟩ := r2
  have w1 : IntKind.u8.wrap (0 + (P2 : Int)) = (P2 : Int) := by rw [IntKind.wrap_u8]; omega
  have w1' : IntKind.u8.wrap (P2 : Int) = (P2 : Int) := by rw [IntKind.wrap_u8]; omega
  have w2 : IntKind.u8.wrap ((P2 : Int) + (P1 : Int)) = (P2 : Int) + (P1 : Int) := by rw [IntKind.wrap_u8]; omega
  have w3 : IntKind.u8.wrap ((P2 : Int) + (P1 : Int) + (P0 : Int)) = (R : Int) := by rw [IntKind.wrap_u8]; omega
  have w4 : IntKind.i64.wrap (R : Int) = (R : Int) := IntWalk.i64_in _ (by omega)
  clear hb0 hb1 hb2 hP0 hP1 hP2 h1 h2 hs hR l0 l1 l2
  go_enter Tryd.func131, Tryd.ntmps131
  go_wp2_with fail
  go_quiet (fail)
  go_wp2_with fail
  go_ret
  exact ⟨rfl, below_drewN (Below.refl _ _) _⟩
theorem count_any (s : Nat) (hs : s < 131072) (w : World) : Calls Tryd.prog 123 #[.int .u32 (s : Int)] w fun e w' => e = .returned (.int .i64 (pc s : Int)) ∧ Below w.heap.size w w' := by
  have HO := Lib.hid (ones_any s hs w)
  clear hs
  go_enter Tryd.func123, Tryd.ntmps123
  go_wp2_with fail
  refine HO.out.mono ?_
  rintro e w1 ⟨rfl, hb⟩
  have HB := Lib.hid hb
  clear hb
  go_wp2_with fail
  go_ret
  exact ⟨rfl, HB.out⟩
end Go.Proofs.YtcjlbpndgjapiaaDoor
