/- The entries of the map of fates. maps.DeleteFunc over the map of fates. maps.Keys over the map of fates of which some are gone. The IDs that stay, collected. -/
import Derived.Test.YtcjlbpndgjapiaaDoorPf
import Derived.Lib.SlMapFilter
import Derived.Laws.IdiomRangeMap
import Derived.Test.YtcjlbpndgjapiaaDoorRG
import Derived.Sort.MapsRangeIn
import Derived.RangeFuncKeeps
import Derived.TacticsInMore
import Derived.RegionIn
import Derived.LoopIn
import Derived.Test.YtcjlbpndgjapiaaDoorRK
import Derived.Test.YtcjlbpndgjapiaaDoorZb
import Derived.Shelf.Abstract
namespace Go.Proofs.YtcjlbpndgjapiaaDoor
open Go.RowKit Go.Maps
set_option linter.unusedSimpArgs false
set_option linter.unusedVariables false
set_option maxRecDepth 100000

theorem mem_ins {x p : Lit × DataW Unit} : ∀ {l : List (Lit × DataW Unit)}, p ∈ DataW.insert x l → p = x ∨ p ∈ l
  | [], h => .inl (by simpa [DataW.insert] using h)
  | y :: r, h => by
    unfold DataW.insert at h
    split at h
    · rcases List.mem_cons.1 h with h | h
      · exact .inl h
      · exact .inr h
    · rcases List.mem_cons.1 h with h | h
      · exact .inr (by rw [h]; exact List.mem_cons_self ..)
      · rcases mem_ins h with h | h
        · exact .inl h
        · exact .inr (List.mem_cons_of_mem _ h)
/-- every entry of the map is of one of the bundles -/
theorem Dp_mem (ws : List Bd) (bl : List Nat) : ∀ k, ∃ es, Dp ws bl k = .map es ∧ ∀ p, p ∈ es → ∃ j, j < k ∧ p.1 = kl (gb ws j).id ∧ p.2 = .lit (.int .i64 ((bl.getD j 0 : Nat) : Int))
  | 0 => ⟨[], rfl, fun p hp => by cases hp⟩
  | k + 1 => by
    obtain ⟨es, h1, h2⟩ := Dp_mem ws bl k
    unfold Dp
    rw [h1]
    unfold DataW.put
    refine ⟨_, rfl, fun p hp => ?_⟩
    rcases mem_ins hp with rfl | hp
    · exact ⟨k, by omega, rfl, rfl⟩
    · obtain ⟨j, h3, h4⟩ := h2 p ((List.mem_filter.1 hp).1)
      exact ⟨j, by omega, h4⟩
end Go.Proofs.YtcjlbpndgjapiaaDoor
namespace Go.Proofs.YtcjlbpndgjapiaaDoor
open Go.RowKit Go.Maps
set_option linter.unusedSimpArgs false
set_option linter.unusedVariables false
set_option maxRecDepth 100000

open Classical in
/-- is a key one of a bundle that goes? -/
noncomputable def pdK (ws : List Bd) (keep : Nat → Bool) (N : Nat) : Lit → DataW Unit → Bool := fun k _ => decide (∃ j, j < N ∧ k = kl (gb ws j).id ∧ keep j = false)
theorem kl_inj {ws : List Bd} {N j k : Nat} (hu : Uniq ws) (hwf : ∀ b, b ∈ ws → BdW b) (hN : N ≤ ws.length) (hj : j < N) (hk : k < N) (h : kl (gb ws j).id = kl (gb ws k).id) : j = k := by
  by_cases he : (gb ws j).id = (gb ws k).id
  · exact hu j k (by omega) (by omega) he
  · exact absurd h (kl_ne (hwf _ (getD_mem (d := b0) (show j < ws.length by omega))).1 (hwf _ (getD_mem (d := b0) (show k < ws.length by omega))).1 he)
theorem pdK_at {ws : List Bd} {keep : Nat → Bool} {N j : Nat} (hu : Uniq ws) (hwf : ∀ b, b ∈ ws → BdW b) (hN : N ≤ ws.length) (hj : j < N) (d : DataW Unit) : pdK ws keep N (kl (gb ws j).id) d = !keep j := by
  unfold pdK
  cases hk : keep j with
  | true =>
    simp only [Bool.not_true, decide_eq_false_iff_not]
    rintro ⟨k, h1, h2, h3⟩
    have := kl_inj hu hwf hN hj h1 h2
    subst this
    rw [hk] at h3; cases h3
  | false =>
    simp only [Bool.not_false, decide_eq_true_eq]
    exact ⟨j, hj, rfl, hk⟩
theorem below_grown {W w' : World} (h : Below W.heap.size W w') : W.grownBy w' none := ⟨h.os, h.tape, h.output, h.size, fun k hk _ => h.block k hk⟩
/-- what comes is one of the bundles' -/
theorem ent_of {pd : Lit → DataW Unit → Bool} {left : Lit → Bool} {es0 : List (Lit × DataW Unit)} {ws : List Bd} {bl : List Nat} {N : Nat} (hap : es0.Pairwise (fun p q => p.1 ≠ q.1)) (hmem : ∀ p, p ∈ es0 → ∃ j, j < N ∧ p.1 = kl (gb ws j).id ∧ p.2 = .lit (.int .i64 ((bl.getD j 0 : Nat) : Int))) {k : Lit} {y : DataW Unit} (hk : WideAt.IsKeyLit k) (hl : left k = true) (hat : ∀ zd, (Fk pd es0 left).atKey k zd = y) :
    ∃ j, j < N ∧ k = kl (gb ws j).id ∧ y = .lit (.int .i64 ((bl.getD j 0 : Nat) : Int)) := by
  have h : Maps.has (Fk pd es0 left) k = true := has_true_of_atKey hat
  unfold Fk at h
  rw [has_eq] at h
  obtain ⟨p, hp, hs⟩ := List.any_eq_true.1 h
  have e1 := WideAt.sameKey_eq hs
  have hp0 := (List.mem_filter.1 hp).1
  obtain ⟨j, h1, h2, h3⟩ := hmem p hp0
  exact ⟨j, h1, by rw [← e1]; exact h2, by rw [← at_cameK hap hk hl hat p hp0 e1]; exact h3⟩

set_option maxHeartbeats 4000000 in
theorem delf_any (keep : Nat → Bool) (B N d : Nat) (ws : List Bd) (bl : List Nat) (hwf : ∀ b, b ∈ ws → BdW b) (hu : Uniq ws) (hN : ws.length = N) (w : World) (hown : MF w B N (Dp ws bl N))
    (hdel : ∀ W j, j < N → w.grownBy W (some B) → Calls Tryd.prog 70 #[(gb ws j).id.v, .pointer (some ⟨bl.getD j 0, 0, none⟩), .pointer (some ⟨d, 0, none⟩)] W fun e w' => e = .returned (.bool (!keep j)) ∧ Below W.heap.size W w') :
    Calls Tryd.prog 69 #[.map (some B), .func (.func 70) #[] #[.pointer (some ⟨d, 0, none⟩)]] w fun e w' => e = .returned (.tuple #[]) ∧ w'.ownsMap Tryd.prog 26 Rp B N (Lib.deleteFuncD (pdK ws keep N) (Dp ws bl N)) ∧ w.grownBy w' (some B) := by
  obtain ⟨esd, hesd, hmem⟩ := Dp_mem ws bl N
  obtain ⟨D, hD⟩ : ∃ D, Dp ws bl N = D := ⟨_, rfl⟩
  rw [hD] at hown hesd ⊢
  obtain ⟨es0, rfl, hap, hkeys⟩ := hown.entries lawI
  obtain rfl : es0 = esd := by cases hesd; rfl
  clear hD hesd
  obtain ⟨pd, hpd⟩ : ∃ pd, pdK ws keep N = pd := ⟨_, rfl⟩
  have hpa : ∀ j, j < N → ∀ y, pd (kl (gb ws j).id) y = !keep j := fun j hj y => by rw [← hpd]; exact pdK_at hu hwf (by omega) hj y
  rw [hpd]
  clear hpd
  have HPA := Lib.hid hpa
  have HDL := Lib.hid hdel
  have HMEM := Lib.hid hmem
  have HWF := Lib.hid (fun j (hj : j < N) => (hwf (gb ws j) (getD_mem (d := b0) (show j < ws.length by omega))).1)
  clear hdel hpa hmem hu hwf hN
  go_enter Tryd.func69, Tryd.ntmps69
  go_wp2_with (first
    | (at_range; refine wpList_range_own _ rfl _ 71 rfl 26 82 lawI Tryd.underlying71 Rp B N _ rfl hown ?_; intro w0 hrg0 hg0 hs0)
    | fail)
  go_frame
  go_loopw [8] (fun _ wr => ∃ (left : Lit → Bool) (cnt : Nat), wr.ranges Tryd.prog 26 Rp B w.heap.size N (Fk pd es0 left) left cnt ∧ w.grownBy wr (some B))
    (fun _ wr => wr.rangeLeft B w.heap.size)
  case atStart => exact ⟨_, _, by rw [Fk_start hkeys]; exact hrg0, hg0.but _⟩
  case round =>
    obtain ⟨left, cnt, hrg, hgw⟩ := hrel
    go_wp2_with (first
      | (at_next; refine wpList_next_ranges _ rfl _ rfl 26 lawI Rp id id (fun key _ _ => ⟨key, rfl⟩) (fun v _ _ => ⟨v, rfl⟩) B w.heap.size N _ _ _ rfl hrg ?_ ?_)
      | fail)
    · -- nothing is left
      intro _ hl0
      go_wp2
      go_end0
      exact ⟨rfl, by rw [← Fk_end hl0]; exact hrg.owns, hgw⟩
    · -- an entry has come
      intro x c kk yd yp w1 cnt1 hkey hlx hv hat hrg1 hlt hg1 hs1 hen
      have hgw1 := hgw.andThen hg1 (fun j hj => by cases hj; exact Or.inl (Nat.le_refl _))
      obtain ⟨j, hj, rfl, hy⟩ := ent_of hap HMEM.out (lawI.key hkey) hlx hat
      obtain rfl : yd = _ := hy
      obtain rfl : c = _ := rp_inv_at hv
      obtain rfl : x = (gb ws j).id.v := lawI.inj hkey (kl_of (HWF.out j hj))
      have hbl := hrg1.owns.lt
      have hrl := hrg1.lt
      obtain ⟨p, hp⟩ : ∃ p, (gb ws j).id = p := ⟨_, rfl⟩
      obtain ⟨W2, hW2⟩ : ∃ W2 : World, W2 = w1.alloc (.cells #[.int .i64 p.nd, .int .u64 p.sq, .int .i64 p.off] 26) := ⟨_, rfl⟩
      have bI : BoxN W2 w1.heap.size 26 #[.int .i64 p.nd, .int .u64 p.sq, .int .i64 p.off] := by rw [hW2]; exact BoxN.new w1 _ _
      have m0 : W2.cell? ⟨w1.heap.size, 0, none⟩ = some (.int .i64 p.nd) := bI.cell 0
      have m1 : W2.cell? ⟨w1.heap.size, 1, none⟩ = some (.int .u64 p.sq) := bI.cell 1
      have m2 : W2.cell? ⟨w1.heap.size, 2, none⟩ = some (.int .i64 p.off) := bI.cell 2
      have hg2 : w1.grownBy W2 none := by rw [hW2]; exact World.grownBy_alloc w1 _ none
      have hgw2 : w.grownBy W2 (some B) := hgw1.andThen hg2 (by simp)
      have hrg2 := hrg1.kept hg2 (by simp) (by simp)
      have hc := HDL.out W2 j hj hgw2
      have hkey2 := hkey
      have hpa := HPA.out j hj
      rw [hp] at hc hkey2 hen hpa hlx hat hrg2
      obtain ⟨Q, hQ⟩ : ∃ Q, w1.heap.size = Q := ⟨_, rfl⟩
      have HQ := Lib.hid hQ
      rw [hQ] at m0 m1 m2
      have HHL := Lib.hid hlx
      have HHA := Lib.hid hat
      have HKEY := Lib.hid hkey2
      have HRG2 := Lib.hid hrg2
      have HGW2 := Lib.hid hgw2
      have HRL := Lib.hid hrg.left_eq
      have HLT := Lib.hid hlt
      have HAP := Lib.hid hap
      have HPJ := Lib.hid hpa
      obtain ⟨A, hA⟩ : ∃ A, bl.getD j 0 = A := ⟨_, rfl⟩
      rw [hA] at hc hen
      rw [hp]
      rw [hA]
      clear hgw hgw1 hrg hrg1 hg1 hg2 hgw2 hrg2 hlx hat hkey hkey2 hQ bI hbl hrl hs1 hlt hv hpa hkeys hown hs0 hg0 hrg0 hA
      go_upto_region 3 with fail
      rw [← hW2, HQ.out]
      clear hW2
      cases hkp : keep j with
      | true =>
        rw [hkp] at hc
        have HC := Lib.hid hc
        clear hc
        go_wp2_with fail
        refine HC.out.mono ?_
        rintro e w3 ⟨rfl, hb3⟩
        have hg3 := below_grown hb3
        have HRG3 := Lib.hid (HRG2.out.kept hg3 (by simp) (by simp))
        have HGW3 := Lib.hid (HGW2.out.andThen hg3 (by simp))
        clear hb3 hg3
        go_wp2_with fail
        go_roundw
        case rel => exact ⟨_, _, by rw [← Fk_stays HAP.out (lawI.key HKEY.out) HHL.out (by rw [HPJ.out, hkp]; rfl) HHA.out]; exact HRG3.out, HGW3.out⟩
        case measure => rw [HRG3.out.left_eq, HRL.out]; exact HLT.out
      | false =>
        rw [hkp] at hc
        have HC := Lib.hid hc
        clear hc
        go_wp2_with fail
        refine HC.out.mono ?_
        rintro e w3 ⟨rfl, hb3⟩
        have hg3 := below_grown hb3
        have hrg3 := HRG2.out.kept hg3 (by simp) (by simp)
        have HGW3 := Lib.hid (HGW2.out.andThen hg3 (by simp))
        have m0 := cell_later hb3 m0
        have m1 := cell_later hb3 m1
        have m2 := cell_later hb3 m2
        clear hb3 hg3
        go_wp2_with (first
          | (at_delete; refine wpList_delete_ranges _ rfl _ _ 71 26 rfl 82 lawI Tryd.underlying71 Rp B w.heap.size N _ _ _ rfl hrg3 _ _ rfl HKEY.out ?_; intro w4 cnt4 hrg4 hle hturn; go_frame)
          | fail)
        rw [strike_twice] at hrg4
        go_roundw
        case rel => exact ⟨_, cnt4, by rw [← Fk_struck HAP.out (lawI.key HKEY.out) HHL.out (by rw [HPJ.out, hkp]; rfl) HHA.out]; exact hrg4, HGW3.out.andThen hturn.grown (fun j hj => by cases hj; exact Or.inr rfl)⟩
        case measure => rw [hrg4.left_eq, HRL.out]; have := HLT.out; omega
end Go.Proofs.YtcjlbpndgjapiaaDoor
namespace Go.Proofs.YtcjlbpndgjapiaaDoor
open Go.RowKit Go.Maps
set_option linter.unusedSimpArgs false
set_option linter.unusedVariables false
set_option maxRecDepth 100000

/-- the map of which some fates are gone -/
noncomputable abbrev D0K (ws : List Bd) (bl : List Nat) (keep : Nat → Bool) (N : Nat) : DataW Unit := Lib.deleteFuncD (pdK ws keep N) (Dp ws bl N)
theorem d0_has {ws : List Bd} {bl : List Nat} {keep : Nat → Bool} {N : Nat} (hu : Uniq ws) (hwf : ∀ b, b ∈ ws → BdW b) (hN : ws.length = N) (k : Lit) : Maps.has (D0K ws bl keep N) k = true ↔ ∃ j, j < N ∧ k = kl (gb ws j).id ∧ keep j = true := by
  obtain ⟨es, he, hmem⟩ := Dp_mem ws bl N
  unfold D0K
  have hat := fun j (hj : j < N) => Dp_at hwf bl (hwf _ (getD_mem (d := b0) (show j < ws.length by omega))).1 N (by omega)
  rw [he] at hat ⊢
  show Maps.has (DataW.map (es.filter fun p => !(pdK ws keep N) p.1 p.2)) k = true ↔ _
  rw [has_eq, List.any_eq_true]
  constructor
  · rintro ⟨p, hp, hs⟩
    obtain ⟨h1, h2⟩ := List.mem_filter.1 hp
    obtain ⟨j, hj, e1, _⟩ := hmem p h1
    rw [e1, pdK_at hu hwf (by omega) hj] at h2
    exact ⟨j, hj, by rw [← WideAt.sameKey_eq hs]; exact e1, by simpa using h2⟩
  · rintro ⟨j, hj, rfl, hk⟩
    have hw := (hwf _ (getD_mem (d := b0) (show j < ws.length by omega))).1
    have hh : Maps.has (DataW.map es) (kl (gb ws j).id) = true := by
      cases hx : Maps.has (DataW.map es) (kl (gb ws j).id) with
      | true => rfl
      | false =>
        exfalso
        have h1 := hat j hj
        have h2 : (DataW.map es).atKey (kl (gb ws j).id) .nil = (.nil : DataW Unit) := atKey_of_not_has hx _
        have h3 : (DataW.map es).atKey (kl (gb ws j).id) .nil = dP bl (pIdx ws (gb ws j).id N) := h1
        rw [h2] at h3
        cases hp : pIdx ws (gb ws j).id N with
        | none => exact pIdx_none hp j hj rfl
        | some i => rw [hp] at h3; cases h3
    rw [has_eq, List.any_eq_true] at hh
    obtain ⟨p, hp, hs⟩ := hh
    refine ⟨p, List.mem_filter.2 ⟨hp, ?_⟩, hs⟩
    rw [WideAt.sameKey_eq hs, pdK_at hu hwf (by omega) hj, hk]
    rfl
/-- what came: no number twice; one has come just where it is one of those that stay and is no longer to come -/
def CollI (ws : List Bd) (keep : Nat → Bool) (N : Nat) (left : Lit → Bool) (ss : List Nat) : Prop := ss.Nodup ∧ ∀ j, j ∈ ss ↔ (j < N ∧ keep j = true ∧ left (kl (gb ws j).id) = false)
theorem CollI.step {ws : List Bd} {keep : Nat → Bool} {N : Nat} {left : Lit → Bool} {ss : List Nat} (hu : Uniq ws) (hwf : ∀ b, b ∈ ws → BdW b) (hN : ws.length = N) (h : CollI ws keep N left ss) {j : Nat} (hj : j < N) (hk : keep j = true) (hl : left (kl (gb ws j).id) = true) :
    CollI ws keep N (fun z => left z && !z.sameKey (kl (gb ws j).id)) (ss ++ [j]) := by
  have hkl : WideAt.IsKeyLit (kl (gb ws j).id) := lawI.key (kl_of (hwf _ (getD_mem (d := b0) (show j < ws.length by omega))).1)
  have hnot : j ∉ ss := fun hm => by have := ((h.2 j).1 hm).2.2; rw [hl] at this; cases this
  refine ⟨?_, fun i => ?_⟩
  · refine List.nodup_append.2 ⟨h.1, by simp, ?_⟩
    intro a ha b hb
    simp only [List.mem_singleton] at hb
    subst hb
    exact fun e => hnot (e ▸ ha)
  · rw [List.mem_append, List.mem_singleton, h.2 i]
    constructor
    · rintro (⟨h1, h2, h3⟩ | rfl)
      · exact ⟨h1, h2, by show (left _ && !Lit.sameKey _ _) = false; rw [h3]; rfl⟩
      · exact ⟨hj, hk, by show (left _ && !Lit.sameKey _ _) = false; rw [WideAt.sameKey_self hkl]; exact Bool.and_false _⟩
    · rintro ⟨h1, h2, h3⟩
      by_cases e : i = j
      · exact .inr e
      · refine .inl ⟨h1, h2, ?_⟩
        have h4 : (kl (gb ws i).id).sameKey (kl (gb ws j).id) = false := sameKey_ne (fun h5 => e (kl_inj hu hwf (by omega) h1 hj h5))
        have h5 : (left (kl (gb ws i).id) && !(kl (gb ws i).id).sameKey (kl (gb ws j).id)) = false := h3
        rw [h4] at h5
        exact (Bool.and_true _).symm.trans h5
/-- those that stay, each once, in some order -/
def KeyP (keep : Nat → Bool) (N : Nat) (ss : List Nat) : Prop := ss.Nodup ∧ ∀ j, j ∈ ss ↔ (j < N ∧ keep j = true)

set_option maxRecDepth 100000 in
set_option maxHeartbeats 4000000 in
theorem keys1_in (keep : Nat → Bool) (n : Nat) (hn : 1 ≤ n) (l Bm B N : Nat) (ws : List Bd) (bl : List Nat) (hwf : ∀ b, b ∈ ws → BdW b) (hu : Uniq ws) (hN : ws.length = N) (J Jx : List Nat → World → Prop)
    (hY : ∀ pre x W, J pre W → pre.length < N → YieldAt Fence.wide (n - 1) Tryd.prog l #[(gb ws x).id.v] W fun e W' => (e = .returned (.bool true) ∧ J (pre ++ [x]) W' ∧ KeepsWalks W W') ∨ (e = .returned (.bool false) ∧ Jx (pre ++ [x]) W'))
    (W : World) (hJ : AbidesFrom W.heap.size J) (hm : W.cell? ⟨Bm, 0, none⟩ = some (.map (some B))) (hown : W.ownsMap Tryd.prog 26 Rp B N (D0K ws bl keep N)) (h0 : J [] W) :
    CallsIn Fence.wide n Tryd.prog 82 #[.func (.yield l) #[] #[], .pointer (some ⟨Bm, 0, none⟩)] W fun e W' => (∃ v, e = .returned v) ∧ ((∃ ss, KeyP keep N ss ∧ J ss W') ∨ (∃ pre, True ∧ Jx pre W')) := by
  have hsz := hown.size_le
  have hh := d0_has (bl := bl) (keep := keep) hu hwf hN
  obtain ⟨D, hD⟩ : ∃ D, D0K ws bl keep N = D := ⟨_, rfl⟩
  rw [hD] at hown hh hsz
  have HH := Lib.hid hh
  have HU := Lib.hid hu
  have HWF := Lib.hid hwf
  have HN := Lib.hid hN
  have HY := Lib.hid hY
  have HJ := Lib.hid hJ
  have HST : Hid (CollI ws keep N (Maps.has D) []) := Lib.hid ⟨List.nodup_nil, fun j => ⟨fun h => by simp at h, fun ⟨h1, h2, h3⟩ => by rw [(hh _).2 ⟨j, h1, rfl, h2⟩] at h3; cases h3⟩⟩
  clear hh hD hu hwf hN hY hJ
  refine callsIn_of_wp Tryd.func82 rfl trivial ?_ rfl
  simp only [Tryd.ntmps82, List.size_toArray, List.length_cons, List.length_nil, Nat.reduceAdd, Nat.reduceSub, Array.replicate_succ, Array.replicate_zero, List.push_toArray, List.append_toArray, List.nil_append, List.cons_append]
  gi_wp2_with (first
    | (gi_at_range; refine wpListIn_range_own _ rfl _ 71 rfl 26 82 lawI Tryd.underlying71 Rp B N _ rfl hown ?_; intro w0 hrg0 hg0 hs0)
    | gi_in)
  go_frame
  gi_loopw [3] (fun _ wr => ∃ (left : Lit → Bool) (cnt : Nat) (ss : List Nat), wr.ranges Tryd.prog 26 Rp B W.heap.size N D left cnt ∧ ss.length + cnt ≤ N ∧ CollI ws keep N left ss ∧ J ss wr ∧ W.heap.size ≤ wr.heap.size)
    (fun _ wr => wr.rangeLeft B W.heap.size)
  case atStart =>
    exact ⟨_, _, [], hrg0, by simpa using hsz, HST.out, HJ.out [] W w0 none h0 hg0 (fun r e => by cases e), by omega⟩
  case round =>
    obtain ⟨left, cnt, ss, hrg, hcs, hC, hJs, hsw⟩ := hrel
    gi_wp2_with (first
      | (gi_at_next; refine wpListIn_next_ranges _ rfl _ rfl 26 lawI Rp id id (fun key _ _ => ⟨key, rfl⟩) (fun v _ _ => ⟨v, rfl⟩) B W.heap.size N _ _ _ rfl hrg ?_ ?_)
      | gi_in)
    · -- nothing is left
      intro hc0 hl0
      gi_wp2
      go_end0
      exact ⟨⟨_, rfl⟩, .inl ⟨ss, ⟨hC.1, fun j => by rw [hC.2 j, hl0]; simp⟩, hJs⟩⟩
    · -- an entry has come
      intro x c kk yd yp w2 cnt2 hkey hlk hv hat hrg2 hlt hg2 hs2 hen
      have hJ2 : J ss w2 := HJ.out ss wr w2 (some W.heap.size) hJs hg2 (fun r e => by cases e; exact ⟨Nat.le_refl _, hrg.iter_walk⟩)
      obtain ⟨j, hj, rfl, hkj⟩ := (HH.out _).1 (has_true_of_atKey hat)
      obtain rfl : x = (gb ws j).id.v := lawI.inj hkey (kl_of (HWF.out _ (getD_mem (d := b0) (show j < ws.length by have := HN.out; omega))).1)
      obtain ⟨p, hp⟩ : ∃ p, (gb ws j).id = p := ⟨_, rfl⟩
      have HP := Lib.hid hp
      have hC2 := hC.step HU.out HWF.out HN.out hj hkj (by exact hlk)
      have hY2 := HY.out ss j
      obtain ⟨W2, hW2⟩ : ∃ W2 : World, W2 = w2.alloc (.cells #[.int .i64 p.nd, .int .u64 p.sq, .int .i64 p.off] 26) := ⟨_, rfl⟩
      have bI : BoxN W2 w2.heap.size 26 #[.int .i64 p.nd, .int .u64 p.sq, .int .i64 p.off] := by rw [hW2]; exact BoxN.new w2 _ _
      have m0 : W2.cell? ⟨w2.heap.size, 0, none⟩ = some (.int .i64 p.nd) := bI.cell 0
      have m1 : W2.cell? ⟨w2.heap.size, 1, none⟩ = some (.int .u64 p.sq) := bI.cell 1
      have m2 : W2.cell? ⟨w2.heap.size, 2, none⟩ = some (.int .i64 p.off) := bI.cell 2
      have hgw : w2.grownBy W2 none := by rw [hW2]; exact World.grownBy_alloc w2 _ none
      have hrg3 := hrg2.kept hgw (by simp) (by simp)
      have hJ3 : J ss W2 := HJ.out ss w2 W2 none hJ2 hgw (fun r e => by cases e)
      have hY3 := hY2 W2 hJ3 (by omega)
      rw [hp] at hY3 hen hrg3 hC2
      rw [hp]
      obtain ⟨Q, hQ⟩ : ∃ Q, w2.heap.size = Q := ⟨_, rfl⟩
      have HQ := Lib.hid hQ
      rw [hQ] at m0 m1 m2
      obtain ⟨fn, tmps, assign, body, hy, hR⟩ := hY3
      have HRG3 := Lib.hid hrg3
      have HC2 := Lib.hid hC2
      have HRL := Lib.hid hrg.left_eq
      have HLT := Lib.hid hlt
      have HCS := Lib.hid hcs
      have HR := Lib.hid hR
      have HSW := Lib.hid hsw
      have HSZ : Hid (W.heap.size ≤ W2.heap.size) := Lib.hid (by rw [hW2]; simp; omega)
      have HJN : Hid (∀ k, k ∈ ss ++ [j] → k < N) := Lib.hid (fun k hk => ((hC.step HU.out HWF.out HN.out hj hkj (by exact hlk)).2 k |>.1 hk).1)
      clear hs2 hrg3 hC2 hJ3 hR hrg hrg2 hgw bI hQ hlt hcs hC hJ2 hJs hsw hg2 hlk hkey hat hv hown hrg0 hg0 hs0
      rw [hW2] at hy
      clear m0 m1 m2
      gi_wp2
      rw [← hW2]
      refine HR.out.mono ?_
      clear hy hW2 hen
      rintro e W3 (⟨rfl, hJ3, hk3⟩ | ⟨rfl, hJx3⟩)
      · have HRG4 := Lib.hid (HRG3.out.of_walks hk3)
        have HJ3 := Lib.hid hJ3
        have hsz3 : W.heap.size ≤ W3.heap.size := Nat.le_of_lt HRG4.out.lt
        clear hk3 hJ3
        gi_wp2
        go_roundw
        case rel => exact ⟨_, _, ss ++ [j], HRG4.out, by have h1 := HCS.out; have h2 := HLT.out; simp only [List.length_append, List.length_singleton]; omega, HC2.out, HJ3.out, hsz3⟩
        case measure => rw [HRG4.out.left_eq, HRL.out]; exact HLT.out
      · -- a round says: no more
        gi_wp2
        refine bodyPost_ret (results_none rfl _ _ _) rfl ?_
        exact ⟨⟨_, rfl⟩, .inr ⟨ss ++ [j], trivial, hJx3⟩⟩

/-- maps.Keys(m): the map is boxed -/
theorem keys_any (mb : Option Nat) (w : World) :
    Calls Tryd.prog 75 #[.map mb] w fun e w' => e = .returned (.func (.func 82) #[] #[.pointer (some ⟨w.heap.size, 0, none⟩)]) ∧ w' = w.alloc (.cells #[.map mb] 71) := by
  go_enter Tryd.func75, Tryd.ntmps75
  go_wp2_with fail
  go_ret
  exact ⟨rfl, rfl⟩
/-- its iterator's contract -/
theorem keys_stops (keep : Nat → Bool) (n : Nat) (hn : 1 ≤ n) (Bm B N : Nat) (ws : List Bd) (bl : List Nat) (hwf : ∀ b, b ∈ ws → BdW b) (hu : Uniq ws) (hN : ws.length = N) (w : World) (hBm : Bm < w.heap.size)
    (hm : w.cell? ⟨Bm, 0, none⟩ = some (.map (some B))) (hown : w.ownsMap Tryd.prog 26 Rp B N (D0K ws bl keep N)) :
    SeqStopsK Fence.wide n Tryd.prog 82 #[.pointer (some ⟨Bm, 0, none⟩)] (fun j => #[(gb ws j).id.v]) KeepsWalks (KeyP keep N) (fun _ => True) N w := fun l J Jx W hW hJ _ hY h0 => by
  have hown' : W.ownsMap Tryd.prog 26 Rp B N (D0K ws bl keep N) := by
    have hbl := hown.lt
    obtain ⟨es, clock, hb, Ft, hs, hD⟩ := hown
    exact ⟨es, clock, (hW.block B hbl).trans hb, Ft, hs, hD⟩
  exact keys1_in keep n hn l Bm B N ws bl hwf hu hN J Jx hY W hJ ((hW.cell (p := ⟨Bm, 0, none⟩) hBm).trans hm) hown' h0
end Go.Proofs.YtcjlbpndgjapiaaDoor
namespace Go.Proofs.YtcjlbpndgjapiaaDoor
open Go.RowKit Go.Shelf
set_option linter.unusedSimpArgs false
set_option linter.unusedVariables false
set_option maxRecDepth 100000
attribute [local go_sem] Oper.semAt_some

section
variable {P : Program}
theorem range_box1 {α : Type} {g : Operand} {p1 : Tmp} {assign body : Code} {Q : Exit → Act → World → Prop} {a : Act} {w : World} {gf : Nat} {lb : Array Value} (n : Nat) (T : TypeId) (asg : Array Value → α → Nat → Array Value) (h1 : 1 ≤ n)
    (hg : a.eval g = .func (.func gf) #[] lb) (eg : ∀ args w, (callFunc gf args).run P w = .ok (.enter gf args) w)
    {cs : α → Array Value} {Kp : World → World → Prop} {S Sp : List α → Prop} {N : Nat}
    (hseq : SeqStopsK Fence.wide (n - 1) P gf lb (fun x => #[.agg (cs x)]) Kp S Sp N w)
    (hKt : ∀ {A B C : World}, Kp A B → Kp B C → Kp A C) (hKb : ∀ (W : World) (l : Nat) (o o' : Obj), w.heap.size ≤ l → W.heap[l]? = some o → o.isCells = false → o.isWalk = false → Kp W (W.putObj l o'))
    (hKa : ∀ (W : World) (o : Obj), w.heap.size ≤ W.heap.size → Kp W (W.alloc o))
    (I : List α → World → Prop) (hI : OwnFrom w.heap.size I) (hIz : ∀ pre W, I pre W → w.heap.size ≤ W.heap.size) (h0 : I [] w)
    (hassign : ∀ (l : Nat) (pre : List α) (x : α) (W : World) (K : Act → World → Prop), I pre W →
      K { tmps := asg a.tmps x W.heap.size, defers := [] } (W.alloc (.cells (cs x) T)) →
      assign.wpIn (Fence.wide.inRound l) (n - 1 - 1) P (Exit.then K (fun _ _ _ => False)) { tmps := a.tmps.setIfInBounds p1 (.agg (cs x)), defers := [] } W)
    (hbody : ∀ (l : Nat) (pre : List α) (x : α) (Bx : Nat) (W : World), I pre W → w.heap.size ≤ Bx → BoxN W Bx T (cs x) → pre.length < N →
      body.wpIn (Fence.wide.inRound l) (n - 1 - 1) P (ownPostG w.heap.size Kp I (fun _ _ _ => False) (pre ++ [x]) W) { tmps := asg a.tmps x Bx, defers := [] } W)
    (hdone : ∀ (D : Nat) (xs : List α) (W : World), w.heap.size ≤ D → S xs → I xs W → W.heap[D]? = some (.deferred (some [])) → Q .normal { a with defers := { target := .collected D, args := #[] } :: a.defers } W) :
    (Code.rangeFunc g #[p1] assign body).wp P Q a w := by
  refine (wpIn_wide (n := n)).1 ?_
  refine wpIn_rangeFunc_ownH (F := Fence.wide) rfl h1 hg trivial eg hseq hKt hKb (Below.refl _ _) (fun _ => rfl) I (fun _ _ _ => False) hI (fun _ _ _ _ _ hs _ _ => hs) h0
    (fun x a' W => ∃ Bx, w.heap.size ≤ Bx ∧ BoxN W Bx T (cs x) ∧ a' = { tmps := asg a.tmps x Bx, defers := [] })
    (fun x a' _ X Y row hs hg hr => by obtain ⟨Bx, h1, h2, h3⟩ := hs; exact ⟨Bx, h1, BoxN.own Bx T (fun (_ : Unit) => cs x) () X Y row h2 hg (fun r e => (hr r e).2), h3⟩)
    ?_ ?_ hdone ?_
  · intro l pre x W K hIp hK
    rw [zip1_fold]
    exact hassign l pre x W K hIp (hK _ _ ((KeepsOthers.alloc _ _).from _) (hKa W _ (hIz pre W hIp)) (hI.alloc _ hIp) ⟨W.heap.size, hIz pre W hIp, BoxN.new W T (cs x), rfl⟩)
  · rintro l pre x a' W hl hr hIp ⟨Bx, hBx, hbx, rfl⟩ hlt
    exact hbody l pre x Bx W hIp hBx hbx hlt
  · rintro D c pre W _ _ h _
    exact h.elim
end
theorem own_keepO {A B : World} {base : Nat} {e : TypeId} {size : Nat} {v : Value} {n : Nat} {xs : List Value} {row : Option Nat} (h : A.ownsRow base e size v n xs) (hg : A.grownBy B row) (hr : ∀ r, row = some r → ∃ o : Obj, A.heap[r]? = some o ∧ o.isCells = false) : B.ownsRow base e size v n xs := by
  refine ⟨h.1, ?_⟩
  rcases h.2 with h2 | ⟨g, cap, cur, hv2, hb, hh, rest⟩
  · exact .inl h2
  · refine .inr ⟨g, cap, cur, hv2, hb, (hg.block g (Array.getElem?_eq_some_iff.1 hh).1 (fun e => ?_)).trans hh, rest⟩
    obtain ⟨o, ho, hc⟩ := hr g e.symm
    rw [hh] at ho; cases ho; cases hc
theorem owns_mono {w : World} {base base' : Nat} {e : TypeId} {size : Nat} {v : Value} {n : Nat} {xs : List Value} (h : w.ownsRow base e size v n xs) (hb : base' ≤ base) : w.ownsRow base' e size v n xs := by
  refine ⟨h.1, ?_⟩
  rcases h.2 with h2 | ⟨g, cap, cur, hv, hg, rest⟩
  · exact .inl h2
  · exact .inr ⟨g, cap, cur, hv, Nat.le_trans hb hg, rest⟩
theorem own_not_walk {W : World} {base : Nat} {e : TypeId} {size : Nat} {v : Value} {k : Nat} {xs : List Value} (h : W.ownsRow base e size v k xs) : ∀ (j : Nat) (o : Obj), v.ownBlock = some j → W.heap[j]? = some o → o.isWalk = false := by
  intro j o hj ho
  rcases h.2 with ⟨rfl, _⟩ | ⟨g, cap, cur, rfl, _, hgb, _⟩
  · simp [Value.ownBlock] at hj
  · have : g = j := by simpa [Value.ownBlock] using hj
    subst this; rw [hgb] at ho; cases ho; rfl
theorem Idn.cs_one (i : Idn) : ∀ u, u ∈ i.cs → u.oneCell' = true := idR.one i
/-- the IDs of some bundles -/
def idsK (ws : List Bd) (ss : List Nat) : List Idn := ss.map fun j => (gb ws j).id
theorem idsK_snoc (ws : List Bd) (ss : List Nat) (j : Nat) : idsK ws (ss ++ [j]) = idsK ws ss ++ [(gb ws j).id] := by simp [idsK]
theorem idsK_len (ws : List Bd) (ss : List Nat) : (idsK ws ss).length = ss.length := by simp [idsK]

set_option maxHeartbeats 4000000 in
theorem appseq_any (keep : Nat → Bool) (Bm B N : Nat) (ws : List Bd) (bl : List Nat) (hwf : ∀ b, b ∈ ws → BdW b) (hu : Uniq ws) (hN : ws.length = N) (hNL : N ≤ 1000) (w : World)
    (hm : BoxN w Bm 71 #[.map (some B)]) (hown : w.ownsMap Tryd.prog 26 Rp B N (D0K ws bl keep N)) :
    Calls Tryd.prog 86 #[.slice none 0 0, .func (.func 82) #[] #[.pointer (some ⟨Bm, 0, none⟩)]] w fun e w' => ∃ ss a n c, e = .returned (.slice a n c) ∧ ss.length = n ∧ KeyP keep N ss ∧ w'.ownsRow w.heap.size 26 3 (.slice a n c) n (rcs idR (idsK ws ss)) ∧ Below w.heap.size w w' := by
  obtain ⟨W, hW⟩ : ∃ W : World, W = w.alloc (.cells #[.slice none 0 0] 48) := ⟨_, rfl⟩
  have hB : Below w.heap.size w W := by rw [hW]; exact (by repeat (first | assumption | exact Below.refl _ _ | apply Below.al | apply below_drewN | apply Below.drew | refine Below.next ?_ (by assumption)))
  have bR : Boxed W w.heap.size 48 (.slice none 0 0) := by rw [hW]; exact Boxed.new w _ _
  have hz : W.heap.size = w.heap.size + 1 := by rw [hW]; simp
  have hBmL : Bm < W.heap.size := by have := hm.lt; omega
  have hownW : W.ownsMap Tryd.prog 26 Rp B N (D0K ws bl keep N) := by
    have hbl := hown.lt
    obtain ⟨es, clock, hb, Ft, hs, hD⟩ := hown
    exact ⟨es, clock, (hB.block B hbl).trans hb, Ft, hs, hD⟩
  have HSEQ := Lib.hid (keys_stops keep 8 (by omega) Bm B N ws bl hwf hu hN W hBmL ((hm.below hB).cell 0) hownW)
  have HNL := Lib.hid hNL
  have HBR := Lib.hid bR
  have HB := Lib.hid hB
  have HZ := Lib.hid hz
  clear hz hB bR hm hown hownW hNL hwf hu hN hBmL
  refine (callsIn_wide (n := 9)).1 ?_
  refine callsIn_of_wp_marks Tryd.func86 rfl trivial ?_ rfl
  refine wpIn_wide.2 ?_
  simp only [Tryd.ntmps86, List.size_toArray, List.length_cons, List.length_nil, Nat.reduceAdd, Nat.reduceSub, Array.replicate_succ, Array.replicate_zero, List.push_toArray, List.append_toArray, List.nil_append, List.cons_append]
  go_upto_region 1 with fail
  rw [← hW]
  clear hW
  go_wp2_with fail
  refine range_box1 (gf := 82) (lb := #[.pointer (some ⟨Bm, 0, none⟩)]) 9 26 (fun tm j Bx => (tm.setIfInBounds 7 (.agg (gb ws j).id.cs.toArray)).setIfInBounds 5 (.pointer (some ⟨Bx, 0, none⟩))) (by omega) ?hg ?eg
    (cs := fun j => (gb ws j).id.cs.toArray) (Kp := KeepsWalks) (S := KeyP keep N) (Sp := fun _ => True) (N := N) ?hseq walksK_t ?hKb ?hKa
    (fun ss Wx => (∃ a c, Boxed Wx w.heap.size 48 (.slice a ss.length c) ∧ Wx.ownsRow W.heap.size 26 3 (.slice a ss.length c) ss.length (rcs idR (idsK ws ss))) ∧ Below w.heap.size w Wx ∧ W.heap.size ≤ Wx.heap.size) ?hI ?hIz ?h0 ?assign ?body ?done
  case hg => rfl
  case eg => exact enters_of Tryd.func82 (by kernel_rfl) rfl
  case hseq => exact HSEQ.out
  case hKb => exact fun Wx l o o' hl ho hc hwk => walksK_b (w := W) Wx l o o' hl ho hc hwk
  case hKa => exact fun Wx o _ => KeepsWalks.alloc Wx o
  case hI =>
    rintro ss A A' row ⟨⟨a, c, hb, ho⟩, hw, hs⟩ hg hr
    have hr2 : ∀ r, row = some r → ∃ o : Obj, A.heap[r]? = some o ∧ o.isCells = false := fun r e => (hr r e).2
    refine ⟨⟨a, c, hb.kept hg (fun e => ?_), own_keepO ho hg hr2⟩, hw.grown hg hw.size (fun k e => by have := (hr k e).1; have := HZ.out; omega), Nat.le_trans hs hg.size⟩
    have h9 := (hr _ e.symm).1
    have := HZ.out
    omega
  case hIz => exact fun pre Wx h => h.2.2
  case h0 => exact ⟨⟨none, 0, HBR.out, rfl, .inl ⟨rfl, rfl⟩⟩, HB.out, Nat.le_refl _⟩
  case assign =>
    intro l pre j Wx K hI hK
    obtain ⟨x, hx⟩ : ∃ x, (gb ws j).id = x := ⟨_, rfl⟩
    rw [hx] at hK ⊢
    clear hx hI
    simp only [Idn.cs, List.setIfInBounds_toArray, List.set_cons_zero, List.set_cons_succ] at hK ⊢
    gi_wp2
    exact hK
  case body =>
    obtain ⟨j0, hj, hjz, hjs, hjb⟩ := info_parts EId.hi
    rintro l' pre j Bx Wb ⟨⟨a, c, bL, hown⟩, hBW, hSW⟩ hBx bT hkN
    obtain ⟨t, ht⟩ : ∃ t, (gb ws j).id = t := ⟨_, rfl⟩
    have HNX : Hid (idsK ws (pre ++ [j]) = idsK ws pre ++ [t]) := by unfold Hid; rw [← ht]; exact idsK_snoc ws pre j
    have HLN : Hid ((pre ++ [j]).length = pre.length + 1) := by unfold Hid; simp
    rw [ht] at bT ⊢
    clear ht
    simp only [Idn.cs, List.setIfInBounds_toArray, List.set_cons_zero, List.set_cons_succ] at bT ⊢
    have c0 : Wb.cell? ⟨Bx, 0, none⟩ = some (.int .i64 t.nd) := (bT.cell 0).trans rfl
    have c1 : Wb.cell? ⟨Bx, 1, none⟩ = some (.int .u64 t.sq) := (bT.cell 1).trans rfl
    have c2 : Wb.cell? ⟨Bx, 2, none⟩ = some (.int .i64 t.off) := (bT.cell 2).trans rfl
    obtain ⟨k, hk⟩ : ∃ k, pre.length = k := ⟨_, rfl⟩
    rw [hk] at bL hown hkN HLN
    have bcell := bL.cell
    have HBL := Lib.hid bL
    have HOWN := Lib.hid hown
    have HOWN2 := Lib.hid (hown.alloc (.cells #[.int .i64 t.nd, .int .u64 t.sq, .int .i64 t.off] 26))
    have hkl : k < 1000 := by have := HNL.out; omega
    clear hown bL bT hk
    gi_wp2_with (gi_at_builtin; refine wpListIn_append_own _ rfl (.tmp 8) (.tmp 10) 48 rfl W.heap.size 26 j0 (.agg #[.int .i64 0, .int .u64 0, .int .i64 0]) 3 24 Tryd.underlying48 hj hjz hjs hjb rfl (by decide) _ k (rcs idR (idsK ws pre)) rfl HOWN2.out ⟨Wb.heap.size, 0, none⟩ 1 1 (Idn.cs t) rfl rfl ?_ ?_ ?_ ?_ ?_ ?_)
    · intro j u hj
      rw [Addr.add_mid]
      match j, hj with
      | 0, hj => simp [Idn.cs] at hj; subst hj; simp [go_sem]
      | 1, hj => simp [Idn.cs] at hj; subst hj; simp [go_sem]
      | 2, hj => simp [Idn.cs] at hj; subst hj; simp [go_sem]
      | j + 3, hj => simp [Idn.cs] at hj
    · exact Idn.cs_one _
    · unfold maxLen; omega
    · omega
    · simp; omega
    intro v' w3 hown' hgrow _
    obtain ⟨a3, c3', rfl⟩ := owns_form hown'
    have hz2 := HZ.out
    have HGR := Lib.hid hgrow
    have HOW := Lib.hid hown'
    obtain ⟨hv1, hv2, _, hk2, hb2⟩ := HBL.out.appended (n₀ := w.heap.size) (by decide) (owns_mono HOWN.out (by omega)) (by omega) (by omega) (owns_mono hown' (by omega)) hgrow
    have hr2 := HOW.out.kept (grownBy_setCell' w3 w.heap.size (.slice a3 (k + 1) c3')) (.inr (hv1.not_row (by decide) HOW.out).symm)
    have hq : KeepsWalks Wb (w3.setCell ⟨w.heap.size, 0, none⟩ (.slice a3 (k + 1) c3')) :=
      ((KeepsWalks.alloc Wb _).trans (KeepsWalks.of_grownBy HGR.out (own_not_walk HOWN2.out))).trans (KeepsWalks.setCell _ _ _)
    have hc1 := hv1.cell
    have hf1 := hv1.frozen
    have HV2 := Lib.hid hv2
    have HR2 := Lib.hid hr2
    have HK2 := Lib.hid hk2
    have HBB2 := Lib.hid hb2
    have HQ := Lib.hid hq
    clear hgrow hown' bcell c0 c1 c2 hv1 hv2 hk2 hb2 hr2 hq hz2
    gi_wp2
    exact ⟨HK2.out.from _, HQ.out, ⟨⟨a3, c3', by rw [HLN.out]; exact HV2.out, by rw [HLN.out, HNX.out, rcs_append]; exact HR2.out⟩, hBW.trans HBB2.out, Nat.le_trans hSW HBB2.out.size⟩⟩
  case done =>
    rintro D ss Wd hD hS ⟨⟨a, c, bL, hown⟩, hBW, hSW⟩ hK
    have cL := bL.cell
    have HO := Lib.hid (ownsRow_putObj hown (.deferred none) hK rfl)
    have HF := Lib.hid (hBW.trans (below_putK2 (l := D) (by have := HZ.out; omega) (.deferred none)))
    have HS := Lib.hid hS
    clear hown bL hBW hS
    go_wp2_with fail
    refine ⟨by simp, .inl ⟨_, _, rfl, run_takeDeferred hK, ?_⟩⟩
    refine ⟨.slice a ss.length c, by simp [results, Tryd.results86, go_sem], ss, a, ss.length, c, rfl, rfl, HS.out, ?_, HF.out⟩
    exact owns_mono HO.out (by have := HZ.out; omega)
theorem collect_any (keep : Nat → Bool) (Bm B N : Nat) (ws : List Bd) (bl : List Nat) (hwf : ∀ b, b ∈ ws → BdW b) (hu : Uniq ws) (hN : ws.length = N) (hNL : N ≤ 1000) (w : World)
    (hm : BoxN w Bm 71 #[.map (some B)]) (hown : w.ownsMap Tryd.prog 26 Rp B N (D0K ws bl keep N)) :
    Calls Tryd.prog 80 #[.func (.func 82) #[] #[.pointer (some ⟨Bm, 0, none⟩)]] w fun e w' => ∃ ss a n c, e = .returned (.slice a n c) ∧ ss.length = n ∧ KeyP keep N ss ∧ w'.ownsRow w.heap.size 26 3 (.slice a n c) n (rcs idR (idsK ws ss)) ∧ Below w.heap.size w w' := by
  have HP := Lib.hid (appseq_any keep Bm B N ws bl hwf hu hN hNL w hm hown)
  clear hm hown hu hwf hN hNL
  go_enter Tryd.func80, Tryd.ntmps80
  go_wp2_with fail
  refine HP.out.mono ?_
  rintro e w1 ⟨ss, a, n, c, rfl, hl, hk, ho, hb⟩
  have HO := Lib.hid (And.intro hl (And.intro hk ho))
  clear ho hk hl HP
  go_wp2_with fail
  go_ret
  exact ⟨ss, a, n, c, rfl, HO.out.1, HO.out.2.1, HO.out.2.2, hb⟩
end Go.Proofs.YtcjlbpndgjapiaaDoor
