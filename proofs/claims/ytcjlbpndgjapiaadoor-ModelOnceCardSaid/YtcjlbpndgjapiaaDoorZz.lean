/- The IDs that stay, in the order of the world. those, Lost, Delivered, in the program. -/
import Derived.Test.YtcjlbpndgjapiaaDoorZv
import Derived.Test.YtcjlbpndgjapiaaDoorZx
import Derived.Test.YtcjlbpndgjapiaaDoorSl
import Derived.Sort.OwnSorted
import Derived.Test.YtcjlbpndgjapiaaDoorPf
import Derived.Laws.EntriesVeiled
namespace Go.Proofs.YtcjlbpndgjapiaaDoor
open Go.RowKit Go.Shelf Go.Lib Go.Sort
set_option linter.unusedSimpArgs false
set_option linter.unusedVariables false
set_option maxRecDepth 100000

section
variable {N : Nat}
def cfI (x y : Fin N) : Int := cmpI x.1 y.1
theorem ltOf_I (x y : Fin N) : ltOf cfI x y = decide (x.1 < y.1) := by
  unfold ltOf cfI cmpI
  by_cases h : x.1 < y.1
  · rw [if_pos (by omega), yb h]; rfl
  · rw [if_neg (by omega), nb h]
    by_cases h2 : y.1 < x.1
    · rw [if_pos (by omega)]; rfl
    · rw [if_neg (by omega)]; rfl
theorem swoI : SWO (ltOf (cfI (N := N))) where
  irrefl x := by rw [ltOf_I]; exact nb (Nat.lt_irrefl _)
  trans x y z h1 h2 := by
    rw [ltOf_I, decide_eq_true_eq] at *
    omega
  ntrans x y z h1 h2 := by
    rw [ltOf_I, decide_eq_false_iff_not] at *
    omega
theorem totI (x y : Fin N) (h1 : ltOf cfI x y = false) (h2 : ltOf cfI y x = false) : x = y := by
  rw [ltOf_I, decide_eq_false_iff_not] at *
  exact Fin.ext (by omega)
end
/-- those that stay, in order -/
def keepL (keep : Nat → Bool) (N : Nat) : List Nat := (List.range N).filter keep
theorem sorted_keep {keep : Nat → Bool} {N : Nat} {ss : List Nat} (hk : KeyP keep N ss) {l S : List (Fin N)} (hl : l.map (·.1) = ss) (hp : S.Perm l) (hs : S.Pairwise fun x y => x.1 ≤ y.1) : S.map (·.1) = keepL keep N := by
  have hp2 : (S.map (·.1)).Perm (keepL keep N) := by
    refine (hp.map _).trans ?_
    rw [hl]
    refine (List.perm_ext_iff_of_nodup hk.1 ((List.nodup_range).filter _)).2 fun j => ?_
    rw [hk.2 j, List.mem_filter, List.mem_range]
  refine List.Perm.eq_of_pairwise (le := fun a b : Nat => a ≤ b) (fun a b _ _ h1 h2 => Nat.le_antisymm h1 h2) ?_ ?_ hp2
  · exact List.pairwise_map.2 hs
  · exact List.Pairwise.filter _ ((List.pairwise_lt_range).imp (fun h => Nat.le_of_lt h))
theorem KeyP.perm {keep : Nat → Bool} {N : Nat} {ss : List Nat} (hk : KeyP keep N ss) : ss.Perm (keepL keep N) :=
  (List.perm_ext_iff_of_nodup hk.1 ((List.nodup_range).filter _)).2 fun j => by rw [hk.2 j, List.mem_filter, List.mem_range]
theorem KeyP.len {keep : Nat → Bool} {N : Nat} {ss : List Nat} (hk : KeyP keep N ss) : ss.length ≤ N := by
  rw [hk.perm.length_eq]
  unfold keepL
  exact Nat.le_trans (List.length_filter_le ..) (by rw [List.length_range]; exact Nat.le_refl _)
theorem grownBy_sortedK {α : Type} [Inhabited α] (enc : α → List Value) (k : Nat) {w : World} {g n : Nat} {os : Array Obj} (d : Array α) : w.grownBy (sortWorldK enc k w g 0 n d os) (some g) := by
  refine ⟨rfl, rfl, rfl, by simp [sortWorldK, putRowK, putRow, mapBlock, Sort.ahead, grow], fun k hk hne => ?_⟩
  have : g ≠ k := fun e => hne (by rw [e])
  unfold sortWorldK
  rw [heap_grow_old _ _ (by simpa [putRowK, putRow, mapBlock, Sort.ahead] using hk)]
  simp [putRowK, putRow, mapBlock, Sort.ahead, Array.getElem?_modify, this]
theorem holdsI_own {w : World} {base n c q N : Nat} {ws : List Bd} [Inhabited (Fin N)] {l : List (Fin N)} (h : w.ownsRow base 26 3 (.slice (some ⟨q, 0, none⟩) n c) n (rcs idR (l.map fun j => (gb ws j.1).id))) (hl : l.length = n) : HoldsK (fun j : Fin N => (gb ws j.1).id.cs) 3 w q 0 l.toArray := by
  intro j hj
  rw [size_flatK, List.size_toArray, hl] at hj
  rw [get_flatK _ _ _ _ (by rw [List.size_toArray, hl]; exact hj), Nat.zero_add]
  refine ⟨?_, h.frozenAt j⟩
  have hdm : j / 3 * 3 + j % 3 = j := by omega
  have e := rcs_get idR (l.map fun j => (gb ws j.1).id) (j / 3) (j % 3) (by rw [List.length_map]; omega) (by show j % 3 < 3; omega)
  rw [h.cellAt j hj]
  have e3 : j / 3 * idR.size + j % 3 = j := hdm
  rw [e3] at e
  rw [e]
  have hlt : j / 3 < l.length := by omega
  have hd : l.toArray[j / 3]! = l[j / 3] := by simp [hlt]
  rw [hd]
  have hg : (l.map fun j => (gb ws j.1).id).getD (j / 3) idR.zero = (gb ws (l[j / 3]).1).id := by
    rw [List.getD_eq_getElem?_getD, List.getElem?_map, List.getElem?_eq_getElem hlt]; rfl
  rw [hg]
  have hlen : j % 3 < ((gb ws (l[j / 3]).1).id.cs).length := by show j % 3 < 3; omega
  show ((gb ws (l[j / 3]).1).id.cs)[j % 3]? = _
  rw [List.getElem?_eq_getElem hlen, getElem!_pos ((gb ws (l[j / 3]).1).id.cs) (j % 3) hlen]
  rfl
theorem rdd_holds {w : World} {c q N : Nat} {ws : List Bd} [Inhabited (Fin N)] {l : List (Fin N)} (h : HoldsK (fun j : Fin N => (gb ws j.1).id.cs) 3 w q 0 l.toArray) (hm : l.length ≤ maxLen) (hc : l.length ≤ c) (n : Nat) (hn : l.length = n) : RdD w (.slice (some ⟨q, 0, none⟩) n c) (l.map fun j => (gb ws j.1).id) := by
  subst hn
  have hln : (l.map fun j => (gb ws j.1).id).length = l.length := List.length_map ..
  unfold RdD RdL
  rw [hln]
  refine ⟨by rw [rcs_length, hln], hm, .inr ⟨q, 0, c, rfl, hc, fun j u hj => ?_⟩⟩
  have hjl : j < l.length * 3 := by
    have := (List.getElem?_eq_some_iff.1 hj).1
    rw [rcs_length, hln] at this
    exact this
  have h1 := h j (by rw [size_flatK, List.size_toArray]; exact hjl)
  rw [h1.1, get_flatK _ _ _ _ (by rw [List.size_toArray]; exact hjl)]
  have hdm : j / 3 * 3 + j % 3 = j := by omega
  have e := rcs_get idR (l.map fun j => (gb ws j.1).id) (j / 3) (j % 3) (by rw [List.length_map]; omega) (by show j % 3 < 3; omega)
  have e3 : j / 3 * idR.size + j % 3 = j := hdm
  rw [e3, hj] at e
  have hlt : j / 3 < l.length := by omega
  have hd : l.toArray[j / 3]! = l[j / 3] := by simp [hlt]
  rw [hd]
  have hg : (l.map fun j => (gb ws j.1).id).getD (j / 3) idR.zero = (gb ws (l[j / 3]).1).id := by
    rw [List.getD_eq_getElem?_getD, List.getElem?_map, List.getElem?_eq_getElem hlt]; rfl
  rw [hg] at e
  have hlen : j % 3 < ((gb ws (l[j / 3]).1).id.cs).length := by show j % 3 < 3; omega
  have e5 : some u = ((gb ws (l[j / 3]).1).id.cs)[j % 3]? := e
  rw [List.getElem?_eq_getElem hlen] at e5
  show some (id _) = _
  rw [getElem!_pos ((gb ws (l[j / 3]).1).id.cs) (j % 3) hlen]
  exact e5.symm
theorem own_addr {w : World} {base n c : Nat} {a : Option Addr} {l : List Idn} (h : w.ownsRow base 26 3 (.slice a n c) n (rcs idR l)) (hn : n ≠ 0) : ∃ q, a = some ⟨q, 0, none⟩ ∧ base ≤ q ∧ q < w.heap.size := by
  rcases h.2 with ⟨_, h0⟩ | ⟨q, cap, cur, hv, hb, hh, _⟩
  · exact absurd h0 hn
  · simp only [Value.slice.injEq] at hv
    exact ⟨q, hv.1, hb, (Array.getElem?_eq_some_iff.1 hh).1⟩
set_option maxHeartbeats 1000000 in
theorem sort_any (keep : Nat → Bool) (base d N : Nat) (ws : List Bd) (ss : List Nat) (a : Option Addr) (n c : Nat) (hNL : N ≤ 1000) (hl : ss.length = n) (hk : KeyP keep N ss) (w : World) (h : w.ownsRow base 26 3 (.slice a n c) n (rcs idR (idsK ws ss)))
    (hC : ∀ X, Below base w X → ∀ j k, j < N → k < N → Calls Tryd.prog 76 #[(gb ws j).id.v, (gb ws k).id.v, .pointer (some ⟨d, 0, none⟩)] X fun e w' => e = .returned (.int .i64 (cmpI j k)) ∧ Gr X w') :
    Calls Tryd.prog 81 #[.slice a n c, .func (.func 76) #[] #[.pointer (some ⟨d, 0, none⟩)]] w fun e w' => e = .returned (.tuple #[]) ∧ RdD w' (.slice a n c) (idsK ws (keepL keep N)) ∧ Below base w w' := by
  by_cases h0 : n = 0
  · subst h0
    obtain rfl : ss = [] := List.eq_nil_of_length_eq_zero hl
    have hcon := AnyF.slices_SortFunc_none { Tryd.laysF06 with } a c (.func (.func 76) #[] #[.pointer (some ⟨d, 0, none⟩)]) w
    change Calls Tryd.prog 81 _ _ _ at hcon
    refine hcon.mono fun e w' ⟨he, hw⟩ => ⟨he, ?_, by rw [hw]; exact Below.refl _ _⟩
    have hkl : keepL keep N = [] := List.eq_nil_iff_forall_not_mem.2 fun j hj => by
      have h1 := List.mem_filter.1 hj
      have := (hk.2 j).2 ⟨List.mem_range.1 h1.1, h1.2⟩
      cases this
    rw [hkl, hw]
    exact RdL.of_owns h
  · have hlt : ∀ j, j ∈ ss → j < N := fun j hj => ((hk.2 j).1 hj).1
    have hN : 0 < N := by
      cases ss with
      | nil => exact absurd hl.symm h0
      | cons j _ => have := hlt j (List.mem_cons_self ..); omega
    haveI : Inhabited (Fin N) := ⟨⟨0, hN⟩⟩
    obtain ⟨l, hll⟩ : ∃ l : List (Fin N), l.map (·.1) = ss := ⟨ss.pmap (fun j hj => ⟨j, hj⟩) hlt, by rw [List.map_pmap]; simp⟩
    have hln : l.length = n := by rw [← hl, ← hll, List.length_map]
    obtain ⟨q, rfl, hq1, hq2⟩ := own_addr h (by omega)
    have hids : idsK ws ss = l.map fun j => (gb ws j.1).id := by rw [← hll]; unfold idsK; rw [List.map_map]; rfl
    rw [hids] at h
    have hH := holdsI_own h hln
    have hcap : n ≤ c ∧ c ≤ maxLen := by
      rcases h.2 with ⟨h2, _⟩ | ⟨g, cap, cur, hv, _, _, h5, h6, _⟩
      · cases h2
      · cases hv; exact ⟨h5, h6⟩
    unfold maxLen at hcap
    have eg : ∀ args w, (callFunc 76 args).run Tryd.prog w = .ok (.enter 76 args) w := enters_of Tryd.func76 (by kernel_rfl) rfl
    have hle := hk.len
    have hlays : CmpLays Tryd.prog 76 #[.pointer (some ⟨d, 0, none⟩)] (fun j : Fin N => (gb ws j.1).id.cs) 3 cfI q 0 l.toArray.size w := fun m os dk _ x y => by
      have hb : Below base w (sortWorldK (fun j : Fin N => (gb ws j.1).id.cs) 3 w q 0 m dk os) := (Below.refl base w).grown (grownBy_sortedK _ _ dk) ((by omega)) (fun k e => by cases e; exact hq1)
      exact hC _ hb x.1 y.1 x.2 y.2
    have hcon := AnyQ.slices_SortFunc_total Tryd.laysF06 3 Tryd.isAgg26 Tryd.sizeOf26 (fun j : Fin N => (gb ws j.1).id.cs) (fun _ => rfl) (fun x v hv => Idn.cs_one _ v hv) cfI swoI 76 #[.pointer (some ⟨d, 0, none⟩)] q 0 c l.toArray w eg hlays hH hq2 (by rw [List.size_toArray, hln]; omega) totI
    change Calls Tryd.prog 81 _ _ _ at hcon
    rw [List.size_toArray, hln] at hcon
    refine hcon.mono ?_
    rintro e w' ⟨he, m, os, hw⟩
    obtain ⟨S, hS⟩ : ∃ S, l.mergeSort (fun x y => !(ltOf cfI) y x) = S := ⟨_, rfl⟩
    rw [show l.toArray.toList = l from rfl, hS] at hw
    have hp : S.Perm l := by rw [← hS]; exact List.mergeSort_perm ..
    have hsl : S.length = l.length := hp.length_eq
    have hpw : S.Pairwise fun x y => x.1 ≤ y.1 := by
      have h1 := List.pairwise_mergeSort (le := fun x y : Fin N => !(ltOf cfI) y x) (fun a b c h1 h2 => by simp only [ltOf_I, Bool.not_eq_true', decide_eq_false_iff_not] at *; omega) (fun a b => by simp only [ltOf_I, Bool.or_eq_true, Bool.not_eq_true', decide_eq_false_iff_not]; omega) l
      rw [hS] at h1
      exact h1.imp fun {a b} hab => by simp only [ltOf_I, Bool.not_eq_true', decide_eq_false_iff_not] at hab; omega
    have hkeep := sorted_keep hk hll hp hpw
    have hHS : HoldsK (fun j : Fin N => (gb ws j.1).id.cs) 3 w' q 0 S.toArray := by
      rw [hw]
      exact holdsK_sortWorldK_c _ _ _ _ _ l.toArray S.toArray m os hH hq2 (by rw [List.size_toArray, List.size_toArray, hsl])
    refine ⟨he, ?_, ?_⟩
    · have h3 := rdd_holds (c := c) hHS (by unfold maxLen; have : S.length ≤ N := (by
        have h4 : (keepL keep N).length ≤ N := by unfold keepL; exact Nat.le_trans (List.length_filter_le ..) (by rw [List.length_range]; exact Nat.le_refl _)
        rw [← hkeep, List.length_map] at h4; exact h4); omega) (by omega) n (by omega)
      have h5 : idsK ws (keepL keep N) = S.map fun j => (gb ws j.1).id := by rw [← hkeep]; unfold idsK; rw [List.map_map]; rfl
      rw [h5]; exact h3
    · rw [hw]
      exact (Below.refl base w).grown (grownBy_sortedK _ _ _) ((by omega)) (fun k e => by cases e; exact hq1)
end Go.Proofs.YtcjlbpndgjapiaaDoor
namespace Go.Proofs.YtcjlbpndgjapiaaDoor
open Go.RowKit Go.Maps
set_option linter.unusedSimpArgs false
set_option linter.unusedVariables false
set_option maxRecDepth 100000

theorem sortedfunc_any (keep : Nat → Bool) (Bm B N d : Nat) (ws : List Bd) (bl : List Nat) (hwf : ∀ b, b ∈ ws → BdW b) (hu : Uniq ws) (hN : ws.length = N) (hNL : N ≤ 1000) (w : World)
    (hm : BoxN w Bm 71 #[.map (some B)]) (hown : w.ownsMap Tryd.prog 26 Rp B N (D0K ws bl keep N))
    (hC : ∀ X, Below w.heap.size w X → ∀ j k, j < N → k < N → Calls Tryd.prog 76 #[(gb ws j).id.v, (gb ws k).id.v, .pointer (some ⟨d, 0, none⟩)] X fun e w' => e = .returned (.int .i64 (cmpI j k)) ∧ Gr X w') :
    Calls Tryd.prog 74 #[.func (.func 82) #[] #[.pointer (some ⟨Bm, 0, none⟩)], .func (.func 76) #[] #[.pointer (some ⟨d, 0, none⟩)]] w fun e w' => ∃ a n c, e = .returned (.slice a n c) ∧ RdD w' (.slice a n c) (idsK ws (keepL keep N)) ∧ Below w.heap.size w w' := by
  have HP := Lib.hid (collect_any keep Bm B N ws bl hwf hu hN hNL w hm hown)
  have HC := Lib.hid hC
  clear hm hown hu hwf hN hC
  go_enter Tryd.func74, Tryd.ntmps74
  go_wp2_with fail
  refine HP.out.mono ?_
  rintro e w1 ⟨ss, a, n, c, rfl, hl, hk, ho, hb⟩
  have HS := Lib.hid (sort_any keep w.heap.size d N ws ss a n c hNL hl hk w1 ho (fun X hX => HC.out X (hb.trans hX)))
  have HB := Lib.hid hb
  clear ho hk hl HP hb
  go_wp2_with fail
  refine HS.out.mono ?_
  rintro e w2 ⟨rfl, hr, hb2⟩
  have HR := Lib.hid hr
  have HB2 := Lib.hid (HB.out.trans hb2)
  clear hr hb2 HS
  go_wp2_with fail
  go_ret
  exact ⟨a, n, c, rfl, HR.out, HB2.out⟩
theorem selI_keep (ws : List Bd) (S : List Ft) (p : Bd → Ft → Bool) (N : Nat) (hN : ws.length = N) : selI ws S p = idsK ws (keepL (fun j => p (gb ws j) (S.getD j f0)) N) := by
  unfold selI idsK keepL
  rw [hN]
/-- what those answers -/
def thV (ws : List Bd) (l : List Oc) (p : Bd → Ft → Bool) : List Idn := if fatE ws l = 0 then selI ws (folW ws l).1 p else []
def ThR (w : World) (ws : List Bd) (l : List Oc) (p : Bd → Ft → Bool) (e : Ending) (w' : World) : Prop := ∃ x, e = .returned (.tuple #[x, .int .i64 (fatE ws l)]) ∧ RdD w' x (thV ws l p) ∧ Below w.heap.size w w'
set_option maxHeartbeats 4000000 in
theorem those_any (v u : Value) (ws : List Bd) (l : List Oc) (p : Bd → Ft → Bool) (F : Nat) (cb : Array Value) (eg : ∀ args w, (callFunc F args).run Tryd.prog w = .ok (.enter F args) w) (w : World) (h : Wd w v u ws l)
    (hF : ∀ X, Below w.heap.size w X → fatE ws l = 0 → ∀ j A, j < ws.length → FtB X A (gb ws j) ((folW ws l).1.getD j f0) → Calls Tryd.prog F (#[.pointer (some ⟨A, 0, none⟩)] ++ cb) X fun e w' => e = .returned (.bool (p (gb ws j) ((folW ws l).1.getD j f0))) ∧ Below X.heap.size X w') :
    Calls Tryd.prog 52 #[v, u, .func (.func F) #[] cb] w (ThR w ws l p) := by
  obtain ⟨a0, m0, hv⟩ := h.rb.form
  obtain ⟨M0, hM0⟩ : ∃ M0, ws.length = M0 := ⟨_, rfl⟩
  rw [hM0] at hv
  clear hM0
  subst hv
  obtain ⟨v, hv⟩ : ∃ v : Value, v = .slice a0 M0 m0 := ⟨_, rfl⟩
  rw [← hv] at h ⊢
  obtain ⟨W, hW⟩ : ∃ W : World, W = (w.alloc (.cells #[v] 22)).alloc (.cells #[.func (.func F) #[] cb] 96) := ⟨_, rfl⟩
  have hB : Below w.heap.size w W := by rw [hW]; exact (by repeat (first | assumption | exact Below.refl _ _ | apply Below.al | apply below_drewN | apply Below.drew | refine Below.next ?_ (by assumption)))
  have bI : BoxN W w.heap.size 22 #[v] := by rw [hW]; exact (BoxN.new w _ _).alloc _
  have oI : BoxN W (w.heap.size + 1) 96 #[.func (.func F) #[] cb] := by
    have := BoxN.new (w.alloc (.cells #[v] 22)) 96 #[.func (.func F) #[] cb]
    rw [World.alloc_size] at this
    rw [hW]; exact this
  have n0 : W.cell? ⟨w.heap.size, 0, none⟩ = some v := bI.cell 0
  have HB := Lib.hid hB
  have HWd := Lib.hid (h.keep hB)
  have HF := Lib.hid hF
  have HCF := Lib.hid (fates_any v u ws l W HWd.out)
  obtain ⟨z, hz⟩ : ∃ z, fatE ws l = z := ⟨_, rfl⟩
  have HZ := Lib.hid hz
  obtain ⟨q, hq⟩ : ∃ q, thV ws l p = q := ⟨_, rfl⟩
  have HQ := Lib.hid hq
  obtain ⟨Q, hQ⟩ : ∃ Q, w.heap.size = Q := ⟨_, rfl⟩
  have HSZ := Lib.hid hQ
  have HW2 : Hid (W.heap.size = Q + 2) := Lib.hid (by rw [hW]; simp; omega)
  rw [hQ] at n0 oI bI
  unfold ThR
  rw [hz, hq]
  have HW0 := Lib.hid h
  clear hB h hF hz hq hQ
  subst hv
  go_enter Tryd.func52, Tryd.ntmps52
  go_upto_region 1 with fail
  rw [← hW, HSZ.out]
  clear hW
  go_wp2_with fail
  refine HCF.out.mono ?_
  rintro e w1 ⟨hb1, hcase⟩
  replace HWd := Lib.hid (HWd.out.keep hb1)
  have n0 := cell_later hb1 n0
  have n1 := BoxN.below oI hb1
  have n2 := BoxN.below bI hb1
  clear oI bI
  have HB1 := Lib.hid (Below.next HB.out hb1)
  clear hb1 HCF HB
  rcases hcase with ⟨hne, rfl⟩ | ⟨he0, B, bl, rfl, hFW⟩
  · have HV : Hid (q = []) := Lib.hid (by rw [← HQ.out]; unfold thV; rw [if_neg hne])
    rw [HZ.out] at hne ⊢
    have d4 : (z != 0) = true := by simpa using hne
    clear hne
    go_wp2_with fail
    go_ret2
    exact ⟨_, rfl, by rw [HV.out]; exact RdL.nil idR _, HB1.out⟩
  · obtain ⟨N, hN⟩ : ∃ N, ws.length = N := ⟨_, rfl⟩
    have HV : Hid (q = idsK ws (keepL (fun j => p (gb ws j) ((folW ws l).1.getD j f0)) N)) := Lib.hid (by rw [← HQ.out]; unfold thV; rw [if_pos he0]; exact selI_keep ws _ p N hN)
    obtain rfl : z = 0 := by rw [← HZ.out, he0]
    have he := fatE_chk he0
    obtain ⟨pw1, pw2, pw3⟩ := chk_world (chkE_parts he).1
    obtain ⟨keep, hkeep⟩ : ∃ keep : Nat → Bool, (fun j => p (gb ws j) ((folW ws l).1.getD j f0)) = keep := ⟨_, rfl⟩
    rw [hkeep] at HV
    have hQ : Q ≤ w1.heap.size := by have := HB1.out.size; have := HSZ.out; omega
    have hBlt := hFW.map.lt
    have hBge : Q + 2 ≤ B := by have := hFW.geB; have := HW2.out; omega
    have hneB : ∀ j, j < N → bl.getD j 0 ≠ B := fun j hj e => hFW.neB (by omega) e.symm
    rw [hN] at hFW
    -- what is asked of each fate
    have HDEL : Hid (∀ X j, j < N → w1.grownBy X (some B) → Calls Tryd.prog 70 #[(gb ws j).id.v, .pointer (some ⟨bl.getD j 0, 0, none⟩), .pointer (some ⟨Q + 1, 0, none⟩)] X fun e w' => e = .returned (.bool (!keep j)) ∧ Below X.heap.size X w') := Lib.hid fun X j hj hg => by
      have hbx : Below w.heap.size w X := HB1.out.grown hg HB1.out.size (fun k e => by cases e; have := HSZ.out; omega)
      have hdX : X.cell? ⟨Q + 1, 0, none⟩ = some (.func (.func F) #[] cb) := (BoxN.kept n1 hg (by simp; omega)).cell 0
      have hft : FtB X (bl.getD j 0) (gb ws j) ((folW ws l).1.getD j f0) := BoxN.kept (hFW.box j hj) hg (fun e => hneB j hj (by cases e; rfl))
      refine those1_any (gb ws j).id (bl.getD j 0) (Q + 1) F cb (keep j) X hdX eg (fun wS hS => ?_)
      rw [← hkeep]
      exact HF.out wS (hbx.trans (hS.mono hbx.size)) he0 j _ (by omega) (FtB.below hft hS)
    have HDF := Lib.hid (delf_any keep B N (Q + 1) ws bl HWd.out.wf pw3 hN w1 hFW.map HDEL.out)
    have HU := Lib.hid pw3
    have HNL : Hid (N ≤ 1000) := Lib.hid (by omega)
    have HN := Lib.hid hN
    have HBG : Hid (Q + 2 ≤ B ∧ B < w1.heap.size) := Lib.hid ⟨hBge, hBlt⟩
    have eg1 := fun (args : Array Value) (wx : World) => Go.Proofs.enters_of Tryd.func70 (by kernel_rfl) rfl args wx
    clear he he0 pw1 pw2 pw3 hkeep hQ hBlt hBge hneB hFW HDEL hN eg1
    go_upto_region 5 with (refine HDF.out.mono ?_; rintro e w2 ⟨rfl, hmap, hg2⟩)
    have hB2 : Below w.heap.size w w2 := HB1.out.grown hg2 HB1.out.size (fun k e => by cases e; have := HSZ.out; have := HBG.out; omega)
    have n0 : w2.cell? ⟨Q, 0, none⟩ = some (.slice a0 M0 m0) := (BoxN.kept n2 hg2 (by have := HBG.out; simp; omega)).cell 0
    replace HWd : Hid (Wd w2 (.slice a0 M0 m0) u ws l) := Lib.hid (HW0.out.keep hB2)
    have HB2 := Lib.hid hB2
    obtain ⟨D5, hD5⟩ : ∃ D5, w2.heap.size = D5 := ⟨_, rfl⟩
    have HD5 := Lib.hid hD5
    obtain ⟨W5, hW5⟩ : ∃ W5 : World, W5 = w2.alloc (.cells #[.func (.func 71) #[] #[.pointer (some ⟨Q, 0, none⟩)]] 116) := ⟨_, rfl⟩
    have hB5 : Below w2.heap.size w2 W5 := by rw [hW5]; exact Below.al (Below.refl _ _) _
    have d5 : W5.cell? ⟨D5, 0, none⟩ = some (.func (.func 71) #[] #[.pointer (some ⟨Q, 0, none⟩)]) := by rw [hW5, ← hD5]; exact (BoxN.new w2 116 _).cell 0
    have n0 := cell_later hB5 n0
    have HMP := Lib.hid (ownsMap_keep hB5 hmap)
    replace HWd := Lib.hid (HWd.out.keep hB5)
    replace HB2 := Lib.hid (Below.next HB2.out hB5)
    clear hB2 hB5 hD5 hg2 hmap HDF n1 n2
    go_upto_region 6 with fail
    rw [← hW5, HD5.out]
    clear hW5
    go_wp2_with fail
    refine (keys_any (some B) W5).mono ?_
    rintro e w6 ⟨rfl, hw6⟩
    obtain ⟨D6, hD6⟩ : ∃ D6, W5.heap.size = D6 := ⟨_, rfl⟩
    have hb6 : Below W5.heap.size W5 w6 := by rw [hw6]; exact Below.al (Below.refl _ _) _
    have bm : BoxN w6 D6 71 #[.map (some B)] := by rw [hw6, ← hD6]; exact BoxN.new W5 _ _
    have hm6 := ownsMap_keep hb6 HMP.out
    have n0 := cell_later hb6 n0
    have d5 := cell_later hb6 d5
    replace HWd := Lib.hid (HWd.out.keep hb6)
    replace HB2 := Lib.hid (Below.next HB2.out hb6)
    have HS := Lib.hid (sortedfunc_any keep D6 B N D5 ws bl HWd.out.wf HU.out HN.out HNL.out w6 bm hm6 (fun X hX j k hj hk => cmpid_gr (.slice a0 M0 m0) ws Q D5 j k HU.out (by have := HN.out; omega) (by have := HN.out; omega) X (cell_later hX n0) (cell_later hX d5) (HWd.out.keep hX).rb))
    rw [hD6]
    clear hw6 hD6 hb6 bm hm6 HMP d5 n0
    go_wp2_with fail
    refine HS.out.mono ?_
    rintro e w7 ⟨a, n, c, rfl, hr, hb7⟩
    have HR := Lib.hid hr
    have HB7 := Lib.hid (Below.next HB2.out hb7)
    clear hr hb7 HS HB2
    go_wp2_with fail
    go_ret2
    exact ⟨_, rfl, by rw [HV.out]; exact HR.out, HB7.out⟩
theorem delivered_any (v u : Value) (ws : List Bd) (l : List Oc) (w : World) (h : Wd w v u ws l) : Calls Tryd.prog 26 #[v, u] w fun e w' => ∃ x, e = .returned (.tuple #[x, .int .i64 (fatE ws l)]) ∧ RdD w' x (deV ws l) ∧ Below w.heap.size w w' := by
  have HT := Lib.hid (those_any v u ws l (fun _ f => f.dl) 56 #[] (enters_of Tryd.func56 (by kernel_rfl) rfl) w h (fun X _ _ j A _ hX => del1_any A _ _ X hX))
  clear h
  obtain ⟨z, hz⟩ : ∃ z, fatE ws l = z := ⟨_, rfl⟩
  have hth : thV ws l (fun _ f => f.dl) = deV ws l := rfl
  unfold ThR at HT
  rw [hth] at HT
  obtain ⟨q, hq⟩ : ∃ q, deV ws l = q := ⟨_, rfl⟩
  rw [hz, hq] at HT ⊢
  clear hz hq hth
  go_enter Tryd.func26, Tryd.ntmps26
  go_wp2_with fail
  refine HT.out.mono ?_
  rintro e w1 ⟨x, rfl, hr, hb⟩
  have HR := Lib.hid (And.intro hr hb)
  clear hr hb HT
  go_wp2_with fail
  go_ret2
  exact ⟨_, rfl, HR.out.1, HR.out.2⟩
theorem fol_nil_ac (ws : List Bd) (j : Nat) : ((folW ws []).1.getD j f0).ac = false := by
  unfold folW fol zeros
  rw [List.getD_eq_getElem?_getD, List.getElem?_replicate]
  split <;> rfl
theorem lost_any (v u : Value) (ws : List Bd) (l : List Oc) (w : World) (h : Wd w v u ws l) : Calls Tryd.prog 24 #[v, u] w fun e w' => ∃ x, e = .returned (.tuple #[x, .int .i64 (fatE ws l)]) ∧ RdD w' x (loV ws l) ∧ Below w.heap.size w w' := by
  obtain ⟨a0, m0, hu⟩ := h.ro.form
  obtain ⟨M0, hM0⟩ : ∃ M0, l.length = M0 := ⟨_, rfl⟩
  rw [hM0] at hu
  clear hM0
  subst hu
  obtain ⟨u, hu⟩ : ∃ u : Value, u = .slice a0 M0 m0 := ⟨_, rfl⟩
  rw [← hu] at h ⊢
  obtain ⟨W, hW⟩ : ∃ W : World, W = w.alloc (.cells #[u] 23) := ⟨_, rfl⟩
  have hB : Below w.heap.size w W := by rw [hW]; exact (by repeat (first | assumption | exact Below.refl _ _ | apply Below.al | apply below_drewN | apply Below.drew | refine Below.next ?_ (by assumption)))
  have bI : BoxN W w.heap.size 23 #[u] := by rw [hW]; exact BoxN.new w _ _
  have n0 : W.cell? ⟨w.heap.size, 0, none⟩ = some u := bI.cell 0
  have HWd := h.keep hB
  have HT := Lib.hid (those_any v u ws l (fun b f => lstF b f (lastT l)) 53 #[.pointer (some ⟨w.heap.size, 0, none⟩)] (enters_of Tryd.func53 (by kernel_rfl) rfl) W HWd (fun X hX he j A hj hFt => by
    have hbk := bk_of ((chk_world (chkE_parts (fatE_chk he)).1).2.1 (gb ws j) (getD_mem (d := b0) hj))
    refine lost1_any A w.heap.size _ _ u l hbk (fun hac => ?_) X hFt (cell_later hX n0) (HWd.keep hX).ro
    cases l with
    | nil => rw [fol_nil_ac] at hac; cases hac
    | cons o t => simp))
  obtain ⟨z, hz⟩ : ∃ z, fatE ws l = z := ⟨_, rfl⟩
  have hth : thV ws l (fun b f => lstF b f (lastT l)) = loV ws l := rfl
  unfold ThR at HT
  rw [hth] at HT
  obtain ⟨q, hq⟩ : ∃ q, loV ws l = q := ⟨_, rfl⟩
  rw [hz, hq] at HT ⊢
  have HB := Lib.hid hB
  obtain ⟨Q, hQ⟩ : ∃ Q, w.heap.size = Q := ⟨_, rfl⟩
  have HQ := Lib.hid hQ
  rw [hQ] at HT n0
  clear hz hq hth hB bI h HWd hQ
  subst hu
  go_enter Tryd.func24, Tryd.ntmps24
  go_upto_region 1 with fail
  rw [← hW, HQ.out]
  clear hW
  go_wp2_with fail
  refine HT.out.mono ?_
  rintro e w1 ⟨x, rfl, hr, hb⟩
  have HR := Lib.hid (And.intro hr (Below.next HB.out hb))
  clear hr hb HT
  go_wp2_with fail
  go_ret2
  exact ⟨_, rfl, HR.out.1, HR.out.2⟩
end Go.Proofs.YtcjlbpndgjapiaaDoor
