/- The table of methods; the map of fates. follow, in the program. checked, Allowed, fates, in the program. -/
import Derived.Test.YtcjlbpndgjapiaaDoorF4
namespace Go.Proofs.YtcjlbpndgjapiaaDoor
open Go.RowKit Go.Maps
set_option linter.unusedSimpArgs false
set_option linter.unusedVariables false
set_option maxRecDepth 100000

/-- the method that follows outcomes of a kind -/
def fnK (k : Int) : Nat := if k = 1 then 125 else if k = 6 then 126 else if k = 7 then 127 else if k = 8 then 128 else 129
def stepF (k : Int) : Value := if mat k = true then .func (.func (fnK k)) #[] #[] else .nilFunc
theorem mat_cases {k : Int} (h : mat k = true) : k = 1 ∨ k = 6 ∨ k = 7 ∨ k = 8 ∨ k = 9 := by
  unfold mat at h
  exact of_decide_eq_true h
theorem step_any (B : Nat) (b : Bd) (f : Ft) (o : Oc) (hbk : BdK b) (hok : OcK o) (hf : FtK f) (hkd : mat o.kd = true) (w : World) (h : FtB w B b f) :
    Calls Tryd.prog (fnK o.kd) #[.pointer (some ⟨B, 0, none⟩), o.v] w (StR w B b f (stp b f o)) := by
  rcases mat_cases hkd with e | e | e | e | e
  · have := accept_any B b f o hbk hok hf e w h
    rw [e]; exact this
  · have := take_any B b f o hbk hok hf e w h
    rw [e]; exact this
  · have := hand_any B b f o hbk hok hf e w h
    rw [e]; exact this
  · have := deliver_any B b f o hbk hok hf e w h
    rw [e]; exact this
  · have := expire_any B b f o hbk hok hf e w h
    rw [e]; exact this
theorem step_call {k : Int} (h : mat k = true) (xs : Array Value) (w : World) : (callFunc (fnK k) xs).run Tryd.prog w = .ok (.enter (fnK k) xs) w := by
  rcases mat_cases h with rfl | rfl | rfl | rfl | rfl <;> (show (callFunc _ xs).run Tryd.prog w = _; simp only [fnK]; first | (go_simp; done) | kernel_rfl)
theorem func_nil (F : Nat) (w : World) : (binOp .eql 107 (.func (.func F) #[] #[]) .nilFunc).run Tryd.prog w = .ok (.bool false) w := by kernel_rfl
theorem nil_nil (w : World) : (binOp .eql 107 .nilFunc .nilFunc).run Tryd.prog w = .ok (.bool true) w := by kernel_rfl
/-- the table lies in the world -/
def SD (w : World) : Prop := ∃ M : Nat, w.cell? ⟨0, 0, none⟩ = some (.map (some M)) ∧ ∀ w', Below w.heap.size w w' → ∀ k : Int, Ib k → (Instr.lookup 108 (.map (some M)) (.int .i64 k) false).run Tryd.prog w' = .ok (stepF k) w'
theorem SD.keep {W w1 : World} (hb : Below W.heap.size W w1) (h : SD W) : SD w1 := by
  obtain ⟨M, h1, h2⟩ := h
  exact ⟨M, cell_later hb h1, fun w' hb' => h2 w' (Below.next hb hb')⟩

/-! a map of pointers -/
def Rp : Value → Option (DataW Unit × List MemPlace)
  | .pointer none => some (.nil, [])
  | .pointer (some a) => if a.off = 0 ∧ a.spot = none then some (.lit (.int .i64 (a.block : Int)), []) else none
  | _ => none
theorem rp_nil : Rp (.pointer none) = some (.nil, []) := rfl
theorem rp_at (b : Nat) : Rp (.pointer (some ⟨b, 0, none⟩)) = some (.lit (.int .i64 (b : Int)), []) := rfl
theorem rp_inv_nil {v : Value} {ps : List MemPlace} (h : Rp v = some (.nil, ps)) : v = .pointer none := by
  unfold Rp at h
  split at h
  · rfl
  · split at h <;> simp at h
  · cases h
theorem rp_inv_at {v : Value} {b : Nat} {ps : List MemPlace} (h : Rp v = some (.lit (.int .i64 (b : Int)), ps)) : v = .pointer (some ⟨b, 0, none⟩) := by
  unfold Rp at h
  split at h
  · simp at h
  · rename_i a
    split at h
    · rename_i hc
      simp at h
      obtain ⟨x, y, z⟩ := a
      obtain ⟨h1, h2⟩ := hc
      simp at h1 h2 h
      obtain ⟨h, _⟩ := h
      subst h1 h2
      rw [show x = b by omega]
    · cases h
  · cases h
theorem rp_inv {v : Value} {z : DataW Unit × List MemPlace} (h : Rp v = some z) : ∃ c : Option Nat, v = .pointer (c.map fun b => ⟨b, 0, none⟩) := by
  unfold Rp at h
  split at h
  · exact ⟨none, rfl⟩
  · rename_i a
    split at h
    · rename_i hc
      obtain ⟨x, y, z⟩ := a
      obtain ⟨h1, h2⟩ := hc
      simp at h1 h2
      subst h1 h2
      exact ⟨some x, rfl⟩
    · cases h
  · cases h
/-- the last of the first k bundles with the ID -/
def pIdx (ws : List Bd) (i : Idn) : Nat → Option Nat
  | 0 => none
  | k + 1 => if (gb ws k).id = i then some k else pIdx ws i k
theorem pIdx_some {ws : List Bd} {i : Idn} : ∀ {k j : Nat}, pIdx ws i k = some j → j < k ∧ (gb ws j).id = i
  | 0, _, h => by cases h
  | k + 1, j, h => by
    rw [pIdx] at h
    split at h
    · rename_i e
      simp only [Option.some.injEq] at h
      subst h
      exact ⟨Nat.lt_succ_self _, e⟩
    · have := pIdx_some h
      exact ⟨by omega, this.2⟩
theorem pIdx_none {ws : List Bd} {i : Idn} : ∀ {k : Nat}, pIdx ws i k = none → ∀ j, j < k → (gb ws j).id ≠ i
  | 0, _, j, hj => absurd hj (Nat.not_lt_zero _)
  | k + 1, h, j, hj => by
    rw [pIdx] at h
    split at h
    · cases h
    · rename_i e
      rcases Nat.lt_succ_iff_lt_or_eq.1 hj with hj | rfl
      · exact pIdx_none h j hj
      · exact e
theorem pIdx_idx {ws : List Bd} (hu : Uniq ws) (i : Idn) : pIdx ws i ws.length = idx ws i := by
  cases h : pIdx ws i ws.length with
  | some j =>
    obtain ⟨h1, h2⟩ := pIdx_some h
    rw [← h2]
    exact (idx_at hu h1).symm
  | none =>
    cases h2 : idx ws i with
    | none => rfl
    | some j =>
      obtain ⟨h3, h4⟩ := idx_some h2
      exact absurd h4 (pIdx_none h j h3)
/-- what the map of the first k fates reads as -/
noncomputable def Dp (ws : List Bd) (bl : List Nat) : Nat → DataW Unit
  | 0 => .map []
  | k + 1 => (Dp ws bl k).put (kl (gb ws k).id) (.lit (.int .i64 ((bl.getD k 0 : Nat) : Int)))
theorem Dp_map (ws : List Bd) (bl : List Nat) : ∀ k, Maps.IsMap (Dp ws bl k)
  | 0 => Maps.isMap_empty
  | k + 1 => (Dp_map ws bl k).put _ _
def dP (bl : List Nat) : Option Nat → DataW Unit
  | none => .nil
  | some j => .lit (.int .i64 ((bl.getD j 0 : Nat) : Int))
theorem Dp_at {ws : List Bd} (h : ∀ b, b ∈ ws → BdW b) (bl : List Nat) {i : Idn} (hi : IdW i) : ∀ k, k ≤ ws.length → (Dp ws bl k).atKey (kl i) .nil = dP bl (pIdx ws i k)
  | 0, _ => by simp [Dp, pIdx, dP, DataW.atKey]
  | k + 1, hk => by
    have hw := (h _ (getD_mem (d := b0) (show k < ws.length by omega))).1
    unfold Dp pIdx
    by_cases he : (gb ws k).id = i
    · rw [if_pos he, he]
      exact Maps.atKey_put_same (Dp_map ws bl k) (lawI.key (kl_of hi)) _ _
    · rw [if_neg he, Maps.atKey_put_other (kl_ne hi hw (fun e => he e.symm)), Dp_at h bl hi k (by omega)]
abbrev MF (w : World) (B n : Nat) (D : DataW Unit) : Prop := w.ownsMap Tryd.prog 26 Rp B n D
theorem zeroP (w : World) : (zeroValue 82).run Tryd.prog w = .ok (.pointer none) w := by kernel_rfl
/-- where a pointer of the map leads -/
def ptO (bl : List Nat) : Option Nat → Value
  | none => .pointer none
  | some j => .pointer (some ⟨bl.getD j 0, 0, none⟩)
theorem mf_look {w : World} {B n k : Nat} {ws : List Bd} {bl : List Nat} (h : MF w B n (Dp ws bl k)) (hw : ∀ b, b ∈ ws → BdW b) (hk : k ≤ ws.length) {i : Idn} (hi : IdW i) : (Instr.lookup 71 (.map (some B)) i.v false).run Tryd.prog w = .ok (ptO bl (pIdx ws i k)) w := by
  obtain ⟨v, ps, hrun, hv⟩ := World.ownsMap.lookup h lawI Tryd.underlying71 (zeroP _) rp_nil (kl_of hi)
  rw [Dp_at hw bl hi k hk] at hv
  rw [hrun]
  cases hp : pIdx ws i k with
  | none => rw [hp] at hv; rw [rp_inv_nil hv]; rfl
  | some j => rw [hp] at hv; rw [rp_inv_at hv]; rfl
theorem mf_put {w : World} {B k : Nat} {ws : List Bd} {bl : List Nat} (h : MF w B k (Dp ws bl k)) (hk : k ≤ 1000) (hi : IdW (gb ws k).id) (Q : Nat) (hQ : bl.getD k 0 = Q) : ∃ w5, (Instr.mapUpdate 71 (.map (some B)) (gb ws k).id.v (.pointer (some ⟨Q, 0, none⟩))).run Tryd.prog w = .ok () w5 ∧ MF w5 B (k + 1) (Dp ws bl (k + 1)) ∧ w.grownBy w5 (some B) := by
  obtain ⟨w5, h1, h2, h3⟩ := World.ownsMap.update h lawI Tryd.underlying71 (by unfold maxLen; omega) (kl_of hi) (rp_at Q)
  exact ⟨w5, h1, by rw [Dp, hQ]; exact h2, h3⟩
theorem Dp_congr {ws : List Bd} {bl bl' : List Nat} : ∀ {k : Nat}, (∀ j, j < k → bl.getD j 0 = bl'.getD j 0) → Dp ws bl k = Dp ws bl' k
  | 0, _ => rfl
  | k + 1, h => by rw [Dp, Dp, h k (Nat.lt_succ_self _), Dp_congr (fun j hj => h j (by omega))]
end Go.Proofs.YtcjlbpndgjapiaaDoor
namespace Go.Proofs.YtcjlbpndgjapiaaDoor
open Go.RowKit Go.Maps
set_option linter.unusedSimpArgs false
set_option linter.unusedVariables false
set_option maxRecDepth 100000

/-- the first n fates lie in memory of the call's own -/
structure FW (base : Nat) (w : World) (B : Nat) (bl : List Nat) (ws : List Bd) (n : Nat) (S : List Ft) : Prop where
  map : MF w B n (Dp ws bl n)
  len : bl.length = n
  box : ∀ k, k < n → FtB w (bl.getD k 0) (gb ws k) (S.getD k f0)
  inj : ∀ j k, j < n → k < n → bl.getD j 0 = bl.getD k 0 → j = k
  ge : ∀ k, k < n → base ≤ bl.getD k 0
  geB : base ≤ B
  ok : ∀ k, k < n → FtK (S.getD k f0)
  slen : S.length = n
theorem FW.keep {base : Nat} {w w' : World} {B n : Nat} {bl : List Nat} {ws : List Bd} {S : List Ft} (h : FW base w B bl ws n S) (hb : Below w.heap.size w w') : FW base w' B bl ws n S :=
  ⟨ownsMap_keep hb h.map, h.len, fun k hk => (h.box k hk).below hb, h.inj, h.ge, h.geB, h.ok, h.slen⟩
theorem FW.neB {base : Nat} {w : World} {B n : Nat} {bl : List Nat} {ws : List Bd} {S : List Ft} (h : FW base w B bl ws n S) {k : Nat} (hk : k < n) : B ≠ bl.getD k 0 := fun e => by
  obtain ⟨es, clock, h1, _⟩ := h.map
  have h2 := h.box k hk
  unfold FtB BoxN at h2
  rw [← e, h1] at h2
  cases h2
/-- the map itself has turned, or not; no other block of it -/
theorem FW.step {base : Nat} {w w' : World} {B n : Nat} {bl : List Nat} {ws : List Bd} {S : List Ft} (h : FW base w B bl ws n S) {k : Nat} (hk : k < n) {f : Ft} (hf : FtK f) (hx : FtB w' (bl.getD k 0) (gb ws k) f) (hkx : Kx (fun b => b = bl.getD k 0) w w') : FW base w' B bl ws n (S.set k f) := by
  refine ⟨?_, h.len, fun j hj => ?_, h.inj, h.ge, h.geB, fun j hj => ?_, by rw [List.length_set]; exact h.slen⟩
  · obtain ⟨es, clock, h1, F, hs, hD⟩ := h.map
    have hlt : B < w.heap.size := (Array.getElem?_eq_some_iff.1 h1).1
    exact ⟨es, clock, (hkx.2 B hlt (h.neB hk)).trans h1, F, hs, hD⟩
  · rw [getD_set S k j f f0 (by rw [h.slen]; exact hk)]
    by_cases e : k = j
    · subst e; rw [if_pos rfl]; exact hx
    · rw [if_neg e]
      exact Kx.box hkx (fun e2 => e (h.inj k j hk hj e2.symm)) (h.box j hj)
  · rw [getD_set S k j f f0 (by rw [h.slen]; exact hk)]
    split
    · exact hf
    · exact h.ok j hj
theorem FW.kx_below {base : Nat} {w w' : World} {B n : Nat} {bl : List Nat} {ws : List Bd} {S : List Ft} (h : FW base w B bl ws n S) {k : Nat} (hk : k < n) (hkx : Kx (fun b => b = bl.getD k 0) w w') (hb : base ≤ w.heap.size) : Below base w w' :=
  hkx.below hb (fun b e => by rw [e]; exact h.ge k hk)
theorem stp_k {b : Bd} {f g : Ft} {o : Oc} (hf : FtK f) (ho : OcK o) (h : stp b f o = some g) : FtK g := by
  have hn : o.nd.toNat ≤ 16 := by have := ho.nd; omega
  by_cases h1 : o.kd = 1
  · rw [stp1 h1] at h
    split at h
    · cases h
    · cases h; exact hld_k (f := { f with ac := true }) ⟨hf.nw, hf.ev, hf.mo⟩ hn
  · by_cases h6 : o.kd = 6
    · rw [stp6 h6] at h
      split at h
      · cases h
      · cases h; exact hld_k hf hn
    · by_cases h7 : o.kd = 7
      · rw [stp7 h7] at h
        split at h
        · cases h
        · cases h; exact rmv_k hf hn
      · by_cases h8 : o.kd = 8
        · rw [stp8 h8] at h
          split at h
          · cases h
          · cases h; exact rmv_k (f := { f with dl := true }) ⟨hf.nw, hf.ev, hf.mo⟩ hn
        · by_cases h9 : o.kd = 9
          · rw [stp9 h9] at h
            split at h
            · cases h
            · cases h; exact rmv_k hf hn
          · rw [stp_id (by unfold mat; exact decide_eq_false (by omega))] at h
            cases h; exact hf
theorem zeros_take (ws : List Bd) (k j : Nat) : (List.replicate k f0).getD j f0 = f0 := by
  rw [List.getD_eq_getElem?_getD, List.getElem?_replicate]
  split <;> rfl
/-- follow has returned -/
def FoR (w : World) (ws : List Bd) (l : List Oc) (e : Ending) (w' : World) : Prop := ∃ B bl, e = .returned (.tuple #[.map (some B), .int .i64 ((folW ws l).2 : Int)]) ∧ FW w.heap.size w' B bl ws ws.length (folW ws l).1 ∧ Below w.heap.size w w'
theorem fol_mat {ws : List Bd} {o : Oc} {l : List Oc} {i : Nat} {S : List Ft} (h : mat o.kd = false) : fol ws (o :: l) i S = fol ws l (i + 1) S := by rw [fol, h]; rfl
theorem fol_no {ws : List Bd} {o : Oc} {l : List Oc} {i : Nat} {S : List Ft} (h : mat o.kd = true) (h2 : idx ws o.id = none) : fol ws (o :: l) i S = (S, i) := by rw [fol, h]; simp only [if_true, h2]
theorem fol_bad {ws : List Bd} {o : Oc} {l : List Oc} {i k : Nat} {S : List Ft} (h : mat o.kd = true) (h2 : idx ws o.id = some k) (h3 : stp (gb ws k) (S.getD k f0) o = none) : fol ws (o :: l) i S = (S, i) := by rw [fol, h]; simp only [if_true, h2, h3]
theorem fol_yes {ws : List Bd} {o : Oc} {l : List Oc} {i k : Nat} {S : List Ft} {f : Ft} (h : mat o.kd = true) (h2 : idx ws o.id = some k) (h3 : stp (gb ws k) (S.getD k f0) o = some f) : fol ws (o :: l) i S = fol ws l (i + 1) (S.set k f) := by rw [fol, h]; simp only [if_true, h2, h3]
theorem drop_at {α : Type} {l : List α} {i : Nat} {d : α} (h : i < l.length) : l.drop i = l.getD i d :: l.drop (i + 1) := by
  rw [List.drop_eq_getElem_cons h, List.getD_eq_getElem?_getD, List.getElem?_eq_getElem h]; rfl
theorem set_same {S : List Ft} {j : Nat} (h : j < S.length) : S.set j (S.getD j f0) = S := by
  apply List.ext_getElem?
  intro i
  rw [List.getElem?_set]
  by_cases e : j = i
  · subst e; rw [if_pos rfl, if_pos h, List.getD_eq_getElem?_getD, List.getElem?_eq_getElem h]; rfl
  · rw [if_neg e]
theorem mkm (n : Int) (w : World) : (Instr.makeMap 71 (some (.int .i64 n))).run Tryd.prog w = .ok (.map (some w.heap.size)) (w.alloc (.map #[] 0)) := by
  simp [Instr.makeMap, run_underlying Tryd.underlying71]
  rfl
set_option maxHeartbeats 4000000 in
theorem follow_any (v u : Value) (ws : List Bd) (l : List Oc) (hwf : ∀ b, b ∈ ws → BdW b) (hbk : ∀ b, b ∈ ws → BdK b) (hu : Uniq ws) (hwl : ws.length ≤ 200) (hof : ∀ o, o ∈ l → OcW o) (hok : ∀ o, o ∈ l → OcK o) (w : World) (hsd : SD w) (h : RdB w v ws) (h2 : RdO w u l) :
    Calls Tryd.prog 42 #[v, u] w (FoR w ws l) := by
  obtain ⟨a0, n0, rfl⟩ := h.form
  obtain ⟨a1, n1, rfl⟩ := h2.form
  have hmx := h2.2.1
  unfold maxLen at hmx
  obtain ⟨N, hN⟩ : ∃ N, ws.length = N := ⟨_, rfl⟩
  obtain ⟨M, hM⟩ : ∃ M, l.length = M := ⟨_, rfl⟩
  rw [hN] at h hwl ⊢
  rw [hM] at h2 hmx ⊢
  have HN := Lib.hid hN
  have HM := Lib.hid hM
  have HR := Lib.hid h
  have HO := Lib.hid h2
  have HWF := Lib.hid hwf
  have HBK := Lib.hid hbk
  have HU := Lib.hid hu
  have HOF := Lib.hid hof
  have HOK := Lib.hid hok
  obtain ⟨R, hRR⟩ : ∃ R, folW ws l = R := ⟨_, rfl⟩
  have HRR := Lib.hid hRR
  have HSD := Lib.hid hsd
  clear hN hM h h2 hwf hbk hu hof hok hRR hsd
  have hmm := mkm (N : Int)
  go_enter Tryd.func42, Tryd.ntmps42
  go_wp2_with fail
  go_loopw [18] (fun i wr => ∃ (k : Nat) (bl : List Nat), k ≤ N ∧ i = .int .i64 k ∧ FW w.heap.size wr w.heap.size bl ws k (List.replicate k f0) ∧ Below w.heap.size w wr) (fun i _ => N - (intOf i).toNat)
  case atStart => exact ⟨0, [], Nat.zero_le _, rfl, ⟨World.ownsMap_made _ _ _ _, rfl, fun k hk => absurd hk (Nat.not_lt_zero _), fun j k hj => absurd hj (Nat.not_lt_zero _), fun k hk => absurd hk (Nat.not_lt_zero _), Nat.le_refl _, fun k hk => absurd hk (Nat.not_lt_zero _), rfl⟩, (by repeat (first | assumption | exact Below.refl _ _ | apply Below.al | apply below_drewN | apply Below.drew | refine Below.next ?_ (by assumption)))⟩
  case round =>
    obtain ⟨k, bl, hkN, rfl, hFW, hB⟩ := hrel
    by_cases hlt : k < N
    · have d2 : decide ((k : Int) < (N : Int)) = true := yb (by omega)
      obtain ⟨b1, o1, rfl, hc1, hrow⟩ := RdB.at (HR.out.keep hB) HN.out k hlt
      have hyw : BdW (gb ws k) := HWF.out _ (getD_mem (by rw [HN.out]; exact hlt))
      obtain ⟨y, HY⟩ : ∃ y, Hid (gb ws k = y) := ⟨_, Lib.hid rfl⟩
      rw [HY.out] at hrow hyw
      obtain ⟨g0, g1, g2, g3, g4, g5, g6, g7, g8⟩ := hrow
      have i1 : (0 : Int) ≤ (k : Int) := by omega
      have i2 : (k : Int) < (N : Int) := by omega
      have hwk : IntKind.i64.wrap (k : Int) = (k : Int) := IntWalk.i64_in _ (by omega)
      have hwk1 : IntKind.i64.wrap ((k : Int) + 1) = (k : Int) + 1 := IntWalk.i64_in _ (by omega)
      obtain ⟨W, hW⟩ : ∃ W : World, W = wr.alloc (.cells #[.int .i64 y.id.nd, .int .u64 y.id.sq, .int .i64 y.id.off, .int .i64 y.dst, .int .i64 y.pri, .int .i64 y.born, .int .i64 y.life, .int .i64 y.tot, .string y.dat] 41) := ⟨_, rfl⟩
      have hBW : Below wr.heap.size wr W := by rw [hW]; exact (by repeat (first | assumption | exact Below.refl _ _ | apply Below.al | apply below_drewN | apply Below.drew | refine Below.next ?_ (by assumption)))
      have bI : BoxN W wr.heap.size 41 #[.int .i64 y.id.nd, .int .u64 y.id.sq, .int .i64 y.id.off, .int .i64 y.dst, .int .i64 y.pri, .int .i64 y.born, .int .i64 y.life, .int .i64 y.tot, .string y.dat] := by rw [hW]; exact BoxN.new wr _ _
      have h0 : W.cell? ⟨wr.heap.size, 0, none⟩ = some (.int .i64 y.id.nd) := bI.cell 0
      have h1 : W.cell? ⟨wr.heap.size, 1, none⟩ = some (.int .u64 y.id.sq) := bI.cell 1
      have h2 : W.cell? ⟨wr.heap.size, 2, none⟩ = some (.int .i64 y.id.off) := bI.cell 2
      have h3 : W.cell? ⟨wr.heap.size, 3, none⟩ = some (.int .i64 y.dst) := bI.cell 3
      have h4 : W.cell? ⟨wr.heap.size, 4, none⟩ = some (.int .i64 y.pri) := bI.cell 4
      have h5 : W.cell? ⟨wr.heap.size, 5, none⟩ = some (.int .i64 y.born) := bI.cell 5
      have h6 : W.cell? ⟨wr.heap.size, 6, none⟩ = some (.int .i64 y.life) := bI.cell 6
      have h7 : W.cell? ⟨wr.heap.size, 7, none⟩ = some (.int .i64 y.tot) := bI.cell 7
      have h8 : W.cell? ⟨wr.heap.size, 8, none⟩ = some (.string y.dat) := bI.cell 8
      have HBW := Lib.hid (Below.next hB hBW)
      have HFW := Lib.hid (hFW.keep hBW)
      obtain ⟨Q, HQ⟩ : ∃ Q, Hid (wr.heap.size = Q) := ⟨_, Lib.hid rfl⟩
      clear bI hBW hB hFW
      go_upto_region 5 with fail
      rw [← hW, HQ.out]
      rw [HQ.out] at h0 h1 h2 h3 h4 h5 h6 h7 h8
      clear hW HQ g0 g1 g2 g3 g4 g5 g6 g7 g8
      obtain ⟨W2, hW2⟩ : ∃ V : World, V = W.alloc (.cells #[.int .i64 y.id.nd, .int .u64 y.id.sq, .int .i64 y.id.off, .int .i64 y.dst, .int .i64 y.pri, .int .i64 y.born, .int .i64 y.life, .int .i64 y.tot, .string y.dat, .bool false, .bool false, .int .u32 0, .int .u32 0, .int .i64 0] 88) := ⟨_, rfl⟩
      have hb2 : Below W.heap.size W W2 := by rw [hW2]; exact (by repeat (first | assumption | exact Below.refl _ _ | apply Below.al | apply below_drewN | apply Below.drew | refine Below.next ?_ (by assumption)))
      have hx2 : FtB W2 W.heap.size y f0 := by rw [hW2]; exact BoxN.new W _ _
      have hFW2 := HFW.out.keep hb2
      have hQn : (bl ++ [W.heap.size]).getD k 0 = W.heap.size := by
        have := HFW.out.len
        rw [← this]
        simp [List.getD_eq_getElem?_getD]
      have hcg : ∀ j, j < k → bl.getD j 0 = (bl ++ [W.heap.size]).getD j 0 := fun j hj => by
        rw [getD_app1 (by have := HFW.out.len; omega)]
      have hmap := hFW2.map
      rw [Dp_congr hcg] at hmap
      obtain ⟨w5, hup, hm5, hg5⟩ := mf_put hmap (by omega) (by rw [HY.out]; exact hyw.1) W.heap.size hQn
      rw [HY.out] at hup
      have hB2 : Below w.heap.size w W2 := Below.next HBW.out hb2
      have hB5 : Below w.heap.size w w5 := Below.grown hB2 hg5 hB2.size (fun j hj => by cases hj; exact Nat.le_refl _)
      have hsz : w.heap.size < W.heap.size := (World.ownsMap.lt HFW.out.map)
      have hneB : ∀ c, c < W2.heap.size → c ≠ w.heap.size → w5.heap[c]? = W2.heap[c]? := fun c hc hne => hg5.block c hc (by simp; exact hne)
      have hF5 : FW w.heap.size w5 w.heap.size (bl ++ [W.heap.size]) ws (k + 1) (List.replicate (k + 1) f0) := by
        have hln := HFW.out.len
        refine ⟨hm5, by rw [List.length_append, hln]; rfl, fun j hj => ?_, fun i j hi hj he => ?_, fun j hj => ?_, Nat.le_refl _, fun j _ => by rw [zeros_take ws]; exact f0_k, by simp⟩
        · rw [zeros_take ws]
          by_cases e : j = k
          · subst e
            rw [hQn, HY.out]
            exact (hneB _ hx2.lt (by omega)).trans hx2
          · rw [← hcg j (by omega)]
            have hbx := hFW2.box j (by omega)
            rw [zeros_take ws] at hbx
            exact (hneB _ (BoxN.lt hbx) (fun e2 => hFW2.neB (k := j) (by omega) e2.symm)).trans hbx
        · by_cases e1 : i = k
          · by_cases e2 : j = k
            · omega
            · exfalso
              rw [e1, hQn, ← hcg j (by omega)] at he
              have := BoxN.lt (HFW.out.box j (by omega))
              omega
          · by_cases e2 : j = k
            · exfalso
              rw [e2, hQn, ← hcg i (by omega)] at he
              have := BoxN.lt (HFW.out.box i (by omega))
              omega
            · rw [← hcg i (by omega), ← hcg j (by omega)] at he
              exact HFW.out.inj i j (by omega) (by omega) he
        · by_cases e : j = k
          · subst e; rw [hQn]; omega
          · rw [← hcg j (by omega)]
            exact HFW.out.ge j (by omega)
      have HF5 := Lib.hid hF5
      have HB5 := Lib.hid hB5
      rw [hW2] at hup
      clear hW2 hb2 hx2 hFW2 hQn hcg hmap hm5 hg5 hB2 hB5 hsz hneB hF5 HFW HBW hyw
      go_wp2_with fail
      go_roundw
      case rel => exact ⟨k + 1, _, by omega, by go_num, HF5.out, HB5.out⟩
      case measure => simp [intOf]; omega
    · obtain rfl : k = N := by omega
      have d2 : decide ((k : Int) < (k : Int)) = false := nb (by omega)
      have HB := Lib.hid hB
      have HFZ := Lib.hid hFW
      obtain ⟨Mp, hM0, hML⟩ := HSD.out
      have HM0 := Lib.hid hM0
      have HML := Lib.hid hML
      clear hM0 hML hFW hB
      go_wp2_with fail
      rename World => wq
      go_loopw [31] (fun iv wr => ∃ (i : Nat) (S : List Ft), i ≤ M ∧ iv = .int .i64 i ∧ FW w.heap.size wr w.heap.size bl ws k S ∧ Below w.heap.size w wr ∧ Hid (R = fol ws (l.drop i) i S)) (fun iv _ => M - (intOf iv).toNat)
      case atStart => exact ⟨0, List.replicate k f0, Nat.zero_le _, rfl, HFZ.out, HB.out, Lib.hid (by rw [← HRR.out, List.drop_zero]; unfold folW zeros; rw [HN.out])⟩
      case round =>
        obtain ⟨i, S, hiM, rfl, hFS, hB3, HF⟩ := hrel
        by_cases hit : i < M
        · have d3 : decide ((i : Int) < (M : Int)) = true := yb (by omega)
          obtain ⟨b2, o2, rfl, hc2, hrow⟩ := RdO.at (HO.out.keep hB3) HM.out i hit
          have hmem : gx l i ∈ l := getD_mem (by rw [HM.out]; exact hit)
          have hdr : l.drop i = gx l i :: l.drop (i + 1) := drop_at (by rw [HM.out]; exact hit)
          have how := HOF.out _ hmem
          have hoo := HOK.out _ hmem
          obtain ⟨y, HY⟩ : ∃ y, Hid (gx l i = y) := ⟨_, Lib.hid rfl⟩
          rw [HY.out] at hrow how hoo hdr
          replace HF : Hid (R = fol ws (y :: l.drop (i + 1)) i S) := Lib.hid (by rw [HF.out, hdr])
          obtain ⟨g0, g1, g2, g3, g4, g5, g6⟩ := hrow
          have j1 : (0 : Int) ≤ (i : Int) := by omega
          have j2 : (i : Int) < (M : Int) := by omega
          have hwi : IntKind.i64.wrap (i : Int) = (i : Int) := IntWalk.i64_in _ (by omega)
          have hwi1 : IntKind.i64.wrap ((i : Int) + 1) = (i : Int) + 1 := IntWalk.i64_in _ (by omega)
          obtain ⟨W, hW⟩ : ∃ W : World, W = wr.alloc (.cells #[.int .i64 y.tk, .int .i64 y.nd, .int .i64 y.kd, .int .i64 y.id.nd, .int .u64 y.id.sq, .int .i64 y.id.off, .int .i64 y.ot] 28) := ⟨_, rfl⟩
          have hBW : Below wr.heap.size wr W := by rw [hW]; exact (by repeat (first | assumption | exact Below.refl _ _ | apply Below.al | apply below_drewN | apply Below.drew | refine Below.next ?_ (by assumption)))
          have bI : BoxN W wr.heap.size 28 #[.int .i64 y.tk, .int .i64 y.nd, .int .i64 y.kd, .int .i64 y.id.nd, .int .u64 y.id.sq, .int .i64 y.id.off, .int .i64 y.ot] := by rw [hW]; exact BoxN.new wr _ _
          have h0 : W.cell? ⟨wr.heap.size, 0, none⟩ = some (.int .i64 y.tk) := bI.cell 0
          have h1 : W.cell? ⟨wr.heap.size, 1, none⟩ = some (.int .i64 y.nd) := bI.cell 1
          have h2 : W.cell? ⟨wr.heap.size, 2, none⟩ = some (.int .i64 y.kd) := bI.cell 2
          have h3 : W.cell? ⟨wr.heap.size, 3, none⟩ = some (.int .i64 y.id.nd) := bI.cell 3
          have h4 : W.cell? ⟨wr.heap.size, 4, none⟩ = some (.int .u64 y.id.sq) := bI.cell 4
          have h5 : W.cell? ⟨wr.heap.size, 5, none⟩ = some (.int .i64 y.id.off) := bI.cell 5
          have h6 : W.cell? ⟨wr.heap.size, 6, none⟩ = some (.int .i64 y.ot) := bI.cell 6
          have hBW2 := Below.next hB3 hBW
          have hm0 := cell_later hBW2 HM0.out
          have hlk := HML.out W hBW2 y.kd how.2.2.1
          have HBW := Lib.hid hBW2
          have HFW := Lib.hid (hFS.keep hBW)
          obtain ⟨Q, HQ⟩ : ∃ Q, Hid (wr.heap.size = Q) := ⟨_, Lib.hid rfl⟩
          clear bI hBW hBW2 hB3 hFS hdr hmem
          go_upto_region 10 with fail
          rw [← hW, HQ.out]
          rw [HQ.out] at h0 h1 h2 h3 h4 h5 h6
          clear hW HQ g0 g1 g2 g3 g4 g5 g6
          cases hm : mat y.kd with
          | false =>
            have hst : stepF y.kd = .nilFunc := by unfold stepF; rw [hm]; rfl
            rw [hst] at hlk
            have hnn := nil_nil W
            have HF2 : Hid (R = fol ws (l.drop (i + 1)) (i + 1) S) := Lib.hid (by rw [HF.out, fol_mat hm])
            clear hst hm how hoo
            go_wp2_with fail
            go_roundw
            case rel => exact ⟨i + 1, S, by omega, by go_num, HFW.out, HBW.out, HF2⟩
            case measure => simp [intOf]; omega
          | true =>
            obtain ⟨F, hF⟩ : ∃ F, fnK y.kd = F := ⟨_, rfl⟩
            have hst : stepF y.kd = .func (.func F) #[] #[] := by unfold stepF; rw [hm, hF]; rfl
            rw [hst] at hlk
            have hfn := func_nil F W
            have hcall := fun (xs : Array Value) (w : World) => step_call hm xs w
            rw [hF] at hcall
            have hlp := mf_look HFW.out.map HWF.out (by rw [HN.out]; omega) how.2.2.2.1
            have hpi : pIdx ws y.id k = idx ws y.id := by
              have := pIdx_idx HU.out y.id
              rwa [HN.out] at this
            rw [hpi] at hlp
            cases hx : idx ws y.id with
            | none =>
              rw [hx] at hlp
              have HE : Hid (R = (S, i)) := Lib.hid (by rw [HF.out, fol_no hm hx])
              replace hlp : (Instr.lookup 71 (.map (some w.heap.size)) y.id.v false).run Tryd.prog W = .ok (.pointer none) W := hlp
              clear hst hm how hoo hcall hx hpi hF
              go_wp2_with fail
              go_ret2
              refine ⟨w.heap.size, bl, by rw [HRR.out, HE.out]; rfl, ?_, HBW.out⟩
              rw [HRR.out, HE.out, HN.out]
              exact HFW.out
            | some j =>
              rw [hx] at hlp
              obtain ⟨hj1, hj2⟩ := idx_some hx
              rw [HN.out] at hj1
              obtain ⟨A, hA⟩ : ∃ A, bl.getD j 0 = A := ⟨_, rfl⟩
              replace hlp : (Instr.lookup 71 (.map (some w.heap.size)) y.id.v false).run Tryd.prog W = .ok (.pointer (some ⟨A, 0, none⟩)) W := by rw [← hA]; exact hlp
              have hbx := HFW.out.box j hj1
              rw [hA] at hbx
              have hstep := step_any A (gb ws j) (S.getD j f0) y (HBK.out _ (getD_mem (by rw [HN.out]; exact hj1))) hoo (HFW.out.ok j hj1) hm W hbx
              rw [hF] at hstep
              have HST := Lib.hid hstep
              have HX := Lib.hid hx
              have HMM := Lib.hid hm
              have HOO := Lib.hid hoo
              have HA := Lib.hid hA
              have HJ := Lib.hid hj1
              clear hst hm how hoo hx hpi hF hstep hbx hA hj1 hj2
              go_wp2_with fail
              refine HST.out.mono ?_
              rintro e w3 ⟨rfl, hx3, hk3⟩
              rw [← HA.out] at hx3 hk3
              have hbb := FW.kx_below HFW.out HJ.out hk3 HBW.out.size
              have HB3 := Lib.hid (HBW.out.trans hbb)
              clear h0 h1 h2 h3 h4 h5 h6 hlk hlp hfn hcall hm0 hbb HST
              cases hr : stp (gb ws j) (S.getD j f0) y with
              | none =>
                rw [hr] at hx3
                have hF3 := FW.step HFW.out HJ.out (HFW.out.ok j HJ.out) hx3 hk3
                rw [set_same (by have := HFW.out.slen; have := HJ.out; omega)] at hF3
                have HF3 := Lib.hid hF3
                have HE : Hid (R = (S, i)) := Lib.hid (by rw [HF.out, fol_bad HMM.out HX.out hr])
                clear hr hx3 hk3 hF3
                go_wp2_with fail
                go_ret2
                refine ⟨w.heap.size, bl, by rw [HRR.out, HE.out]; rfl, ?_, HB3.out⟩
                rw [HRR.out, HE.out, HN.out]
                exact HF3.out
              | some g =>
                rw [hr] at hx3
                have hF3 := FW.step HFW.out HJ.out (stp_k (HFW.out.ok j HJ.out) HOO.out hr) hx3 hk3
                have HF3 := Lib.hid hF3
                have HF2 : Hid (R = fol ws (l.drop (i + 1)) (i + 1) (S.set j g)) := Lib.hid (by rw [HF.out, fol_yes HMM.out HX.out hr])
                clear hr hx3 hk3 hF3
                go_wp2_with fail
                go_roundw
                case rel => exact ⟨i + 1, S.set j g, by omega, by go_num, HF3.out, HB3.out, HF2⟩
                case measure => simp [intOf]; omega
        · obtain rfl : i = M := by omega
          have d3 : decide ((i : Int) < (i : Int)) = false := nb (by omega)
          have HE : Hid (R = (S, i)) := Lib.hid (by rw [HF.out, List.drop_of_length_le (by rw [HM.out]; exact Nat.le_refl _)]; rfl)
          have HFS := Lib.hid hFS
          have HB3 := Lib.hid hB3
          clear hFS hB3
          go_wp2_with fail
          go_ret2
          refine ⟨w.heap.size, bl, by rw [HRR.out, HE.out]; rfl, ?_, HB3.out⟩
          rw [HRR.out, HE.out, HN.out]
          exact HFS.out
end Go.Proofs.YtcjlbpndgjapiaaDoor
namespace Go.Proofs.YtcjlbpndgjapiaaDoor
open Go.RowKit Go.Maps
set_option linter.unusedSimpArgs false
set_option linter.unusedVariables false
set_option maxRecDepth 100000

theorem chk_world {ws : List Bd} (h : (chkW ws).1 = 0) : ws.length ≤ 200 ∧ (∀ b, b ∈ ws → chkB b = 0) ∧ Uniq ws := by
  unfold chkW at h
  split at h
  · cases h
  · rename_i hl
    have hz := fst_zero h
    have hb : ∀ k, k < ws.length → chkB (gb ws k) = 0 ∧ hasI ws (gb ws k).id k = false := fun k hk => by
      have h1 := hz k (Nat.zero_le _) (by omega)
      unfold stepW at h1
      split at h1
      · rename_i h2; exact absurd h1 h2
      · rename_i h2
        refine ⟨Decidable.byContradiction h2, ?_⟩
        split at h1
        · cases h1
        · rename_i h3; simpa using h3
    refine ⟨by omega, fun b hm => ?_, fun j k hj hk he => ?_⟩
    · obtain ⟨i, hi, rfl⟩ := List.getElem_of_mem hm
      have : chkB (ws.getD i b0) = 0 := (hb i hi).1
      rwa [List.getD_eq_getElem?_getD, List.getElem?_eq_getElem hi] at this
    · rcases Nat.lt_trichotomy j k with hlt | e | hlt
      · have := (hb k hk).2
        rw [has_up he hlt] at this; cases this
      · exact e
      · have := (hb j hj).2
        rw [has_up he.symm hlt] at this; cases this
theorem bk_of {b : Bd} (h : chkB b = 0) : BdK b := by
  unfold chkB at h
  split at h
  · rename_i h1; exact absurd h h1
  · split at h
    · cases h
    · rename_i h2
      unfold badF at h2
      exact ⟨by omega⟩
theorem ok_of {o : Oc} (h : oneE o = 0) : OcK o := by
  unfold oneE at h
  split at h
  · cases h
  · split at h
    · cases h
    · rename_i h2
      have h3 : okO o = true := by cases hx : okO o with | true => rfl | false => exact absurd (.inr (.inr (.inr (.inr (.inr hx))))) h2
      refine ⟨by omega, ?_⟩
      unfold okO at h3
      split at h3
      · have := of_decide_eq_true h3; omega
      · have := of_decide_eq_true h3; omega
theorem chk_trace {l : List Oc} (h : (chkT l).1 = 0) : l.length ≤ 5000 ∧ ∀ o, o ∈ l → oneE o = 0 := by
  unfold chkT at h
  split at h
  · cases h
  · have hz := fst_zero h
    refine ⟨by omega, fun o hm => ?_⟩
    obtain ⟨i, hi, rfl⟩ := List.getElem_of_mem hm
    have h1 := hz i (Nat.zero_le _) (by omega)
    unfold stepT at h1
    rw [List.getD_eq_getElem?_getD, List.getElem?_eq_getElem hi] at h1
    split at h1
    · rename_i h2; exact absurd h1 h2
    · rename_i h2
      exact Decidable.byContradiction h2
theorem chkE_parts {ws : List Bd} {l : List Oc} (h : chkE ws l = 0) : (chkW ws).1 = 0 ∧ (chkT l).1 = 0 := by
  unfold chkE at h
  split at h
  · rename_i h1; exact absurd h h1
  · rename_i h1; exact ⟨Decidable.byContradiction h1, h⟩
/-- what the walks ask of a world, a trace and the program's tables -/
structure Wd (w : World) (v u : Value) (ws : List Bd) (l : List Oc) : Prop where
  wf : ∀ b, b ∈ ws → BdW b
  of : ∀ o, o ∈ l → OcW o
  rb : RdB w v ws
  ro : RdO w u l
  sd : SD w
  fc : FC w
theorem Wd.keep {W w1 : World} {v u : Value} {ws : List Bd} {l : List Oc} (hb : Below W.heap.size W w1) (h : Wd W v u ws l) : Wd w1 v u ws l := ⟨h.wf, h.of, h.rb.keep hb, h.ro.keep hb, h.sd.keep hb, h.fc.keep hb⟩
theorem checked_any (v u : Value) (ws : List Bd) (l : List Oc) (w : World) (h : Wd w v u ws l) : Calls Tryd.prog 41 #[v, u] w fun e w' => e = .returned (.int .i64 (chkE ws l)) ∧ Below w.heap.size w w' := by
  have HH := Lib.hid h
  obtain ⟨R, hR⟩ : ∃ R, chkE ws l = R := ⟨_, rfl⟩
  rw [hR]
  have HR := Lib.hid hR
  have HW := Lib.hid (world_any v ws h.wf w h.rb)
  obtain ⟨z, ix, hz⟩ : ∃ z ix, chkW ws = (z, ix) := ⟨_, _, rfl⟩
  rw [hz] at HW
  have HZ := Lib.hid hz
  clear hR hz h
  go_enter Tryd.func41, Tryd.ntmps41
  go_wp2_with fail
  refine HW.out.mono ?_
  rintro e w1 ⟨rfl, hb1⟩
  have HB1 := Lib.hid hb1
  have HT := Lib.hid (trace_any u l w1 (HH.out.fc.keep hb1) (HH.out.ro.keep hb1))
  clear hb1 HW
  by_cases hz0 : z = 0
  · have d1 : (z != 0) = false := by simp [hz0]
    have HE : Hid ((chkT l).1 = R) := Lib.hid (by rw [← HR.out]; unfold chkE; rw [HZ.out, if_neg (by simp [hz0])])
    obtain ⟨t, it, ht⟩ : ∃ t it, chkT l = (t, it) := ⟨_, _, rfl⟩
    rw [ht] at HT HE
    clear hz0 ht
    go_wp2_with fail
    refine HT.out.mono ?_
    rintro e w2 ⟨rfl, hb2⟩
    have HB2 := Lib.hid (Below.next HB1.out hb2)
    clear hb2
    go_wp2_with fail
    go_ret
    exact ⟨by rw [← HE.out]; rfl, HB2.out⟩
  · have d1 : (z != 0) = true := by simpa using hz0
    obtain rfl : R = z := by rw [← HR.out]; unfold chkE; rw [HZ.out, if_pos (by simpa using hz0)]
    clear hz0
    go_wp2_with fail
    go_ret
    exact ⟨rfl, HB1.out⟩
theorem allowed_any (v u : Value) (ws : List Bd) (l : List Oc) (w : World) (h : Wd w v u ws l) : Calls Tryd.prog 14 #[v, u] w fun e w' => e = .returned (V2 (allV ws l).1 (allV ws l).2) ∧ Below w.heap.size w w' := by
  have HH := Lib.hid h
  have HC := Lib.hid (checked_any v u ws l w h)
  obtain ⟨x, y, hR⟩ : ∃ x y, allV ws l = (x, y) := ⟨_, _, rfl⟩
  rw [hR]
  have HR := Lib.hid hR
  obtain ⟨z, hz⟩ : ∃ z, chkE ws l = z := ⟨_, rfl⟩
  rw [hz] at HC
  have HZ := Lib.hid hz
  clear hR hz h
  go_enter Tryd.func14, Tryd.ntmps14
  go_wp2_with fail
  refine HC.out.mono ?_
  rintro e w1 ⟨rfl, hb1⟩
  have HB1 := Lib.hid hb1
  replace HH := Lib.hid (HH.out.keep hb1)
  clear hb1 HC
  by_cases hz0 : z = 0
  · have d1 : (z != 0) = false := by simp [hz0]
    have he : chkE ws l = 0 := by rw [HZ.out, hz0]
    obtain ⟨h1, h2⟩ := chkE_parts he
    obtain ⟨p1, p2, p3⟩ := chk_world h1
    obtain ⟨q1, q2⟩ := chk_trace h2
    have HF := Lib.hid (follow_any v u ws l HH.out.wf (fun b hb => bk_of (p2 b hb)) p3 p1 HH.out.of (fun o ho => ok_of (q2 o ho)) w1 HH.out.sd HH.out.rb HH.out.ro)
    have HE : Hid (((folW ws l).2 : Int) = x ∧ y = 0) := Lib.hid (by
      have h3 := HR.out
      unfold allV at h3
      rw [if_neg (by rw [he]; simp)] at h3
      simp only [Prod.mk.injEq] at h3
      exact ⟨h3.1, h3.2.symm⟩)
    clear hz0 he h1 h2 p1 p2 p3 q1 q2
    go_wp2_with fail
    refine HF.out.mono ?_
    rintro e w2 ⟨B, bl, rfl, hF, hb2⟩
    have HB2 := Lib.hid (Below.next HB1.out hb2)
    clear hb2 hF HF
    go_wp2_with fail
    go_ret2
    exact ⟨by rw [← HE.out.1, HE.out.2]; rfl, HB2.out⟩
  · have d1 : (z != 0) = true := by simpa using hz0
    have HE : Hid (x = 0 ∧ y = z) := Lib.hid (by
      have h3 := HR.out
      unfold allV at h3
      rw [HZ.out, if_pos hz0] at h3
      simp only [Prod.mk.injEq] at h3
      exact ⟨h3.1.symm, h3.2.symm⟩)
    clear hz0
    go_wp2_with fail
    go_ret2
    exact ⟨by rw [HE.out.1, HE.out.2]; rfl, HB1.out⟩
/-- fates has returned: the error, and the map where there is none -/
def FaR (w : World) (ws : List Bd) (l : List Oc) (e : Ending) (w' : World) : Prop :=
  Below w.heap.size w w' ∧ ((fatE ws l ≠ 0 ∧ e = .returned (.tuple #[.map none, .int .i64 (fatE ws l)])) ∨ (fatE ws l = 0 ∧ ∃ B bl, e = .returned (.tuple #[.map (some B), .int .i64 0]) ∧ FW w.heap.size w' B bl ws ws.length (folW ws l).1))
theorem FW.low {base base' : Nat} {w : World} {B n : Nat} {bl : List Nat} {ws : List Bd} {S : List Ft} (h : FW base w B bl ws n S) (hb : base' ≤ base) : FW base' w B bl ws n S :=
  ⟨h.map, h.len, h.box, h.inj, fun k hk => Nat.le_trans hb (h.ge k hk), Nat.le_trans hb h.geB, h.ok, h.slen⟩
theorem fates_any (v u : Value) (ws : List Bd) (l : List Oc) (w : World) (h : Wd w v u ws l) : Calls Tryd.prog 45 #[v, u] w (FaR w ws l) := by
  have HH := Lib.hid h
  have HC := Lib.hid (checked_any v u ws l w h)
  obtain ⟨z, hz⟩ : ∃ z, chkE ws l = z := ⟨_, rfl⟩
  rw [hz] at HC
  have HZ := Lib.hid hz
  obtain ⟨a1, n1, rfl⟩ := h.ro.form
  obtain ⟨M, hM⟩ : ∃ M, l.length = M := ⟨_, rfl⟩
  have HM := Lib.hid hM
  rw [hM] at HC HH ⊢
  clear hz h hM
  go_enter Tryd.func45, Tryd.ntmps45
  go_wp2_with fail
  refine HC.out.mono ?_
  rintro e w1 ⟨rfl, hb1⟩
  have HB1 := Lib.hid hb1
  replace HH := Lib.hid (HH.out.keep hb1)
  clear hb1 HC
  by_cases hz0 : z = 0
  · have d1 : (z != 0) = false := by simp [hz0]
    have he : chkE ws l = 0 := by rw [HZ.out, hz0]
    obtain ⟨h1, h2⟩ := chkE_parts he
    obtain ⟨p1, p2, p3⟩ := chk_world h1
    obtain ⟨q1, q2⟩ := chk_trace h2
    have HF := Lib.hid (follow_any v (.slice a1 M n1) ws l HH.out.wf (fun b hb => bk_of (p2 b hb)) p3 p1 HH.out.of (fun o ho => ok_of (q2 o ho)) w1 HH.out.sd HH.out.rb HH.out.ro)
    have HE : Hid (fatE ws l = if (folW ws l).2 < M then 12 else 0) := Lib.hid (by unfold fatE; rw [if_neg (by rw [he]; simp), HM.out])
    clear hz0 he h1 h2 p1 p2 p3 q1 q2
    go_wp2_with fail
    refine HF.out.mono ?_
    rintro e w2 ⟨B, bl, rfl, hF, hb2⟩
    have HFW := Lib.hid (hF.low HB1.out.size)
    have HB2 := Lib.hid (Below.next HB1.out hb2)
    obtain ⟨Z, hZ⟩ : ∃ Z, (folW ws l).2 = Z := ⟨_, rfl⟩
    rw [hZ] at HE
    rw [hZ]
    clear hb2 hF HF hZ
    by_cases hlt : Z < M
    · have d2 : decide ((Z : Int) < (M : Int)) = true := yb (by omega)
      have d2' : decide (Z < M) = true := yb hlt
      have HE2 : Hid (fatE ws l = 12) := Lib.hid (by rw [HE.out, if_pos hlt])
      clear hlt
      go_wp2_with fail
      go_ret2
      exact ⟨HB2.out, .inl ⟨by rw [HE2.out]; simp, by rw [HE2.out]; rfl⟩⟩
    · have d2 : decide ((Z : Int) < (M : Int)) = false := nb (by omega)
      have d2' : decide (Z < M) = false := nb hlt
      have HE2 : Hid (fatE ws l = 0) := Lib.hid (by rw [HE.out, if_neg hlt])
      clear hlt
      go_wp2_with fail
      go_ret2
      exact ⟨HB2.out, .inr ⟨HE2.out, B, bl, rfl, HFW.out⟩⟩
  · have d1 : (z != 0) = true := by simpa using hz0
    have HE2 : Hid (fatE ws l = z ∧ z ≠ 0) := Lib.hid ⟨by unfold fatE; rw [HZ.out, if_pos hz0], hz0⟩
    clear hz0
    go_wp2_with fail
    go_ret2
    exact ⟨HB1.out, .inl ⟨by rw [HE2.out.1]; exact HE2.out.2, by rw [HE2.out.1]; rfl⟩⟩
end Go.Proofs.YtcjlbpndgjapiaaDoor
