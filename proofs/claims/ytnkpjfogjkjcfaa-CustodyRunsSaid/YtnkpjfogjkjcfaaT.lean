


/- Custody: a node starts again: the program. -/
import Derived.Test.YtnkpjfogjkjcfaaSp
import Derived.Test.YtnkpjfogjkjcfaaK
namespace Go.Proofs.Ytnkpjfogjkjcfaa
open Go.RowKit
set_option linter.unusedSimpArgs false
set_option linter.unusedVariables false
set_option maxRecDepth 100000

def Fh (n : Int) (c : Cp) : Cp := if c.tt = n then hld c else c
/-- the copies, the first k looked through -/
def cK (n : Int) (l : List Cp) (k : Nat) : List Cp := (l.take k).map (Fh n) ++ l.drop k
theorem cK_len (n : Int) (l : List Cp) (k : Nat) : (cK n l k).length = l.length := by unfold cK; simp; omega
theorem cK_at (n : Int) (l : List Cp) {k j : Nat} (hk : k ≤ j) (hj : j < l.length) : gc (cK n l k) j = gc l j := by
  unfold gc cK
  rw [List.getD_eq_getElem?_getD, List.getElem?_append_right (by simp; omega), List.getElem?_drop, List.getD_eq_getElem?_getD]
  congr 2
  simp only [List.length_map, List.length_take]
  rw [Nat.min_eq_left (by omega)]
  omega
theorem cK_step (n : Int) (l : List Cp) {k : Nat} (hk : k < l.length) : (cK n l k).set k (Fh n (gc l k)) = cK n l (k + 1) := by
  unfold cK
  have h1 : gc l k = l[k] := by unfold gc; rw [List.getD_eq_getElem?_getD, List.getElem?_eq_getElem hk]; rfl
  have hl : ((l.take k).map (Fh n)).length = k := by simp; omega
  rw [List.set_append_right _ _ (by omega), hl, Nat.sub_self, List.drop_eq_getElem_cons hk, List.set_cons_zero, h1, List.take_succ_eq_append_getElem hk, List.map_append, List.append_assoc]
  rfl
theorem cK_end (n : Int) (l : List Cp) : cK n l l.length = l.map (Fh n) := by unfold cK; simp
theorem cK_zero (n : Int) (l : List Cp) : cK n l 0 = l := by unfold cK; simp
/-- the frames put anew, and the row stored -/
theorem OP.frs {w w1 : World} {B p g cap : Nat} {fv fv' : Value} {q : List Cq} {X : Wd} {F : List Ps} (h : OP w B p g cap fv q X) (hk : Kx (fun k => fv.ownBlock = some k) w w1) (hown : OwP w1 B fv' F) (hwh : ∀ k, fv'.ownBlock = some k → fv.ownBlock = some k ∨ w.heap.size ≤ k) :
    OP (w1.setCell ⟨p, 2, none⟩ fv') B p g cap fv' q { X with fr := F } ∧ Kx (fun k => k = p ∨ Mn g fv q k) w (w1.setCell ⟨p, 2, none⟩ fv') ∧ (∀ k, Mn g fv' q k → Mn g fv q k ∨ w.heap.size ≤ k) ∧ BoxN w1 p 66 #[.int .i64 X.ds, .slice (some ⟨g, 0, none⟩) X.cs.length cap, fv] := by
  have hbox1 := hk.box (fun e => h.ne (.inr (.inl e))) h.box
  have hor := h.or.frames hk hown
  have hkp : Kx (fun k => k = p) w1 (w1.setCell ⟨p, 2, none⟩ fv') := kx_cell w1 p 2 _
  have hnp : ¬ Mn g fv' q p := by
    rintro (e | e | ⟨i, e | e⟩)
    · exact h.ne (.inl e)
    · exact row_ne hown hbox1 (by decide) p e rfl
    · exact h.ne (.inr (.inr ⟨i, .inl e⟩))
    · exact h.ne (.inr (.inr ⟨i, .inr e⟩))
  refine ⟨⟨hbox1.setc 2 _, hor.kx hkp (fun k hk e => hnp (by rw [e] at hk; exact hk)), h.ge⟩, ?_, fun k hk => ?_, hbox1⟩
  · exact (hk.mono (fun k e => .inr (.inr (.inl e)))).trans hkp (fun k _ e => .inl e)
  · rcases hk with e | e | e
    · exact .inl (.inl e)
    · rcases hwh k e with e | e
      · exact .inl (.inr (.inl e))
      · exact .inr e
    · exact .inl (.inr (.inr e))
set_option maxHeartbeats 1000000 in
theorem restart_any (w : World) (B p g cap : Nat) (fv : Value) (q : List Cq) (X : Wd) (n : Int) (hn : isN X n) (hs : Sml X) (hB : B ≤ w.heap.size) (h : OP w B p g cap fv q X) :
    Calls Try.prog 59 #[ptr p, .int .i64 n] w fun e w' => e = .returned (.tuple #[]) ∧ ChgF w B p g cap fv q (rstW X n) w' := by
  obtain ⟨i, hi, hfi, hat0⟩ := atC_get hn
  obtain ⟨W, hW⟩ : ∃ W : World, W = w.alloc (.cells #[.int .i64 n] 3) := ⟨_, rfl⟩
  have hB0 : Below w.heap.size w W := by rw [hW]; exact (by repeat (first | assumption | exact Below.refl _ _ | apply Below.al | apply below_drewN | apply Below.drew | refine Below.next ?_ (by assumption)))
  have b1 : BoxN W w.heap.size 3 #[.int .i64 n] := by rw [hW]; exact BoxN.new _ _ _
  have hO := h.below hB0
  have hmn : ∀ k, Mn g fv q k → k < w.heap.size := fun k e => (h.or.gt_lt e).2
  have hpl := h.box.lt
  have hnm : ¬ Mn g fv q w.heap.size := fun e => by have := hmn _ e; omega
  have n0 : W.cell? ⟨w.heap.size, 0, none⟩ = some (.int .i64 n) := b1.cell 0
  have hat := at_any W p 66 g 0 cap fv q X i hi hO.bw
  rw [Nat.zero_add, ← hfi] at hat
  have HAT := Lib.hid hat
  have HHD := Lib.hid (hold_any W B g cap fv q X i hi hO.or)
  obtain ⟨XE, HXE⟩ : ∃ XE, Hid (rstW X n = XE) := ⟨_, Lib.hid rfl⟩
  rw [HXE.out]
  -- the copies behind the two stores
  obtain ⟨X1, HX1⟩ : ∃ X1, Hid (setI X i { hld (gc X.cs i) with tk := [], kp := [] } = X1) := ⟨_, Lib.hid rfl⟩
  have hend : XE = { X1 with cs := X1.cs.map (Fh n), fr := X.fr.filter (fun f => !dlP n f) } := by
    rw [← HXE.out, ← HX1.out]
    unfold rstW
    rw [hat0]
    have e1 : setC X n { hld (gc X.cs i) with tk := [], kp := [] } = setI X i { hld (gc X.cs i) with tk := [], kp := [] } := by unfold setC setI; rw [show (n - 1).toNat = i by omega]
    have efn : (fun f : Ps => decide (¬ (f.fr = n ∨ f.tt = n))) = (fun f => !dlP n f) := by
      funext f
      unfold dlP
      by_cases hx : f.fr = n ∨ f.tt = n
      · rw [yb hx]; exact nb (fun h => h hx)
      · rw [nb hx]; exact yb hx
    rw [e1, efn]
    rfl
  have HEND := Lib.hid hend
  have HN1 : Hid (X1.cs.length = X.cs.length) := Lib.hid (by rw [← HX1.out]; exact setI_len _ _ _)
  have HO := Lib.hid hO
  have HFI := Lib.hid hfi
  have hsc := hs.cs
  have hsf := hs.fr
  have HB1 := Lib.hid b1
  clear hat hend hO hat0 hfi hn hs b1
  go_enter Try.func59, Try.ntmps59
  go_upto_region 1 with fail
  rw [← hW]
  clear hW
  go_upto_region 2 with (go_at_call 43; refine HAT.out.mono ?_; rintro e w9 ⟨rfl, h9⟩; obtain rfl := h9.symm; clear h9)
  go_upto_region 3 with (refine HHD.out.mono ?_; rintro e w1 ⟨rfl, h1, hk1⟩)
  obtain ⟨y, HY⟩ : ∃ y, Hid (hldq (gq q i) = y) := ⟨_, rfl⟩
  rw [HY.out] at h1
  have hql : i < q.length := by rw [h.or.len]; exact hi
  have hi1 : i < (setI X i (hld (gc X.cs i))).cs.length := by rw [setI_len]; exact hi
  have hq1 : gq (q.set i y) i = y := by rw [gq_set hql, if_pos rfl]
  have hc1 : gc (setI X i (hld (gc X.cs i))).cs i = hld (gc X.cs i) := by show gc (X.cs.set i _) i = _; rw [gc_set hi, if_pos rfl]
  obtain ⟨h2, hk2⟩ := h1.tag hi1 (a := none) (c := 0) (l := []) (Kx.refl _ _) ⟨rfl, .inl ⟨rfl, rfl⟩⟩ (fun k e => by simp [Value.ownBlock] at e)
  have hrow1 := h1.at i hi1
  have hfz1 := h1.there
  rw [hq1] at h2 hrow1
  rw [hc1] at h2
  rw [List.set_set, setI_setI] at h2
  have hi2 : i < (setI X i { hld (gc X.cs i) with tk := [] }).cs.length := by rw [setI_len]; exact hi
  have hq2 : gq (q.set i { y with ta := none, tn := [].length (α := Tg), tc := 0 }) i = { y with ta := none, tn := [].length (α := Tg), tc := 0 } := by rw [gq_set hql, if_pos rfl]
  have hc2 : gc (setI X i { hld (gc X.cs i) with tk := [] }).cs i = { hld (gc X.cs i) with tk := [] } := by show gc (X.cs.set i _) i = _; rw [gc_set hi, if_pos rfl]
  obtain ⟨h3, hk3⟩ := h2.kept hi2 (a := none) (c := 0) (l := []) (Kx.refl _ _) ⟨rfl, .inl ⟨rfl, rfl⟩⟩ (fun k e => by simp [Value.ownBlock] at e)
  rw [hq2] at h3
  rw [hc2] at h3
  rw [List.set_set, setI_setI] at h3
  obtain ⟨w3, hw3⟩ : ∃ w3 : World, w3 = (w1.setCell ⟨g, i * 6 + 4, none⟩ (.slice none 0 0)).setCell ⟨g, i * 6 + 5, none⟩ (.slice none 0 0) := ⟨_, rfl⟩
  have hkk : Kx (fun k => k = g) w1 w3 := by rw [hw3]; exact (kx_cell w1 g _ _).setCell (.inl rfl) _
  have h3 : OR w3 B g cap fv (q.set i { y with ta := none, tn := 0, tc := 0, ka := none, kn := 0, kc := 0 }) (setI X i { hld (gc X.cs i) with tk := [], kp := [] }) := by rw [hw3]; exact h3
  rw [HX1.out] at h3
  have hkw3 : Kx (Mn g fv q) w w3 := ((Kx.of_below (X := Mn g fv q) hB0).trans hk1 (fun k _ e => .inl e)).trans hkk (fun k _ e => .inl e)
  have hmn3 : ∀ k, Mn g fv (q.set i { y with ta := none, tn := 0, tc := 0, ka := none, kn := 0, kc := 0 }) k → Mn g fv q k := fun k hk => by
    rcases mn_set hql hk with e | e | e
    · exact e
    · simp [Value.ownBlock] at e
    · simp [Value.ownBlock] at e
  have hkW3 : Kx (fun k => k = g) W w3 := hk1.trans hkk (fun _ _ e => e)
  have hpg : ¬ p = g := fun e => h.ne (.inl e)
  have hop3 : OP w3 B p g cap fv (q.set i { y with ta := none, tn := 0, tc := 0, ka := none, kn := 0, kc := 0 }) X1 := ⟨by
    have := hkW3.box hpg HO.out.box
    have e2 : X1.ds = X.ds := by rw [← HX1.out]; rfl
    rw [e2, HN1.out]
    exact this, h3, h.ge⟩
  have hbn : BoxN w3 w.heap.size 3 #[.int .i64 n] := hkW3.box (fun e => by have := hmn g (.inl rfl); omega) HB1.out
  obtain ⟨q3, HQ3⟩ : ∃ q3, Hid (q.set i { y with ta := none, tn := 0, tc := 0, ka := none, kn := 0, kc := 0 } = q3) := ⟨_, Lib.hid rfl⟩
  rw [HQ3.out] at hop3 hmn3
  have HOP3 := Lib.hid hop3
  have HMN3 := Lib.hid hmn3
  have HKW3 := Lib.hid hkw3
  have HBN := Lib.hid hbn
  have v4 : w1.cell? ⟨g, i * 6 + 4, none⟩ = some y.tv := hrow1.2.2.2.2.1
  have v5 : w1.cell? ⟨g, i * 6 + 5, none⟩ = some y.kv := hrow1.2.2.2.2.2
  have f4 := hfz1 (i * 6 + 4)
  have f5 := hfz1 (i * 6 + 5)
  clear h1 h2 h3 hk1 hk2 hk3 hq1 hc1 hq2 hc2 hi1 hi2 hrow1 hfz1 hkk hkw3 hmn3 hkW3 hop3 hbn hpg
  obtain ⟨N, hN⟩ : ∃ N, X1.cs.length = N := ⟨_, rfl⟩
  have HN2 := Lib.hid hN
  have hNs : N ≤ 100000 := by rw [← hN, HN1.out]; exact hsc
  clear hN
  go_upto_region 4 with fail
  rw [← hw3]
  clear hw3 v4 v5 f4 f5
  have c1 : w3.cell? ⟨p, 1, none⟩ = some (.slice (some ⟨g, 0, none⟩) N cap) := by rw [← HN2.out]; exact HOP3.out.box.cell 1
  go_wp2_with fail
  go_loopw [23] (fun j wr => ∃ (k : Nat) (qk : List Cq), k ≤ N ∧ j = .int .i64 k ∧ OP wr B p g cap fv qk { X1 with cs := cK n X1.cs k } ∧ Kx (Mn g fv q) w wr ∧ (∀ b, Mn g fv qk b → Mn g fv q b) ∧ BoxN wr w.heap.size 3 #[.int .i64 n]) (fun j _ => N - (intOf j).toNat)
  case atStart => exact ⟨0, q3, Nat.zero_le _, rfl, by rw [cK_zero]; exact HOP3.out, HKW3.out, HMN3.out, HBN.out⟩
  case round =>
    obtain ⟨k, qk, hk, rfl, hop, hkx, hmk, hbx⟩ := hrel
    have HOP := Lib.hid hop
    have HKX := Lib.hid hkx
    have HMK := Lib.hid hmk
    have HBX := Lib.hid hbx
    clear hop hkx hmk hbx c1
    have hlk : (cK n X1.cs k).length = N := by rw [cK_len]; exact HN2.out
    by_cases hlt : k < N
    · have d2 : decide ((k : Int) < (N : Int)) = true := yb (by omega)
      have hkl : k < (cK n X1.cs k).length := by omega
      have c1 : wr.cell? ⟨p, 1, none⟩ = some (.slice (some ⟨g, 0, none⟩) N cap) := by rw [← hlk]; exact HOP.out.box.cell 1
      have n0 : wr.cell? ⟨w.heap.size, 0, none⟩ = some (.int .i64 n) := HBX.out.cell 0
      have hrow := HOP.out.or.at k hkl
      have hck := cK_at n X1.cs (Nat.le_refl k) (by rw [HN2.out]; exact hlt)
      have htt := (HOP.out.or.cop k).tt
      have hck' : gc ({ X1 with cs := cK n X1.cs k } : Wd).cs k = gc X1.cs k := hck
      obtain ⟨z, HZ⟩ : ∃ z, Hid (gq qk k = z) := ⟨_, rfl⟩
      obtain ⟨c, HC⟩ : ∃ c, Hid (gc X1.cs k = c) := ⟨_, rfl⟩
      rw [HC.out] at hck'
      rw [HZ.out, hck'] at htt
      rw [HZ.out] at hrow
      obtain ⟨r0, r1, r2, r3, r4, r5⟩ := hrow
      have hst := cK_step n X1.cs (k := k) (by rw [HN2.out]; exact hlt)
      rw [HC.out] at hst
      have HST := Lib.hid hst
      have HCK := Lib.hid hck'
      have i1 : (0 : Int) ≤ (k : Int) := by omega
      have i2 : (k : Int) < (N : Int) := by omega
      have hwk : IntKind.i64.wrap (k : Int) = (k : Int) := IntWalk.i64_in _ (by omega)
      clear hst hck hck' hkl hlk
      by_cases he : c.tt = n
      · have d3 : (z.tt == n) = true := by simp [htt, he]
        have HFh : Hid (Fh n c = hld c) := Lib.hid (by unfold Fh; rw [if_pos he])
        clear htt he
        go_upto_region 7 with fail
        go_quiet (fail)
        have hdr := below_drewN (Below.refl wr.heap.size wr) nq
        have HO4 := Lib.hid (HOP.out.below hdr)
        have HHH := Lib.hid (hold_any (wr.drewN nq) B g cap fv qk _ k (by rw [cK_len, HN2.out]; exact hlt) HO4.out.or)
        go_wp2_with fail
        refine HHH.out.mono ?_
        rintro e w5 ⟨rfl, h5, hk5⟩
        have hlq : k < qk.length := by rw [HOP.out.or.len, cK_len, HN2.out]; exact hlt
        rw [HCK.out] at h5
        have hX : setI ({ X1 with cs := cK n X1.cs k } : Wd) k (hld c) = { X1 with cs := cK n X1.cs (k + 1) } := by
          unfold setI
          rw [← HST.out, HFh.out]
        rw [hX] at h5
        have hpg : ¬ p = g := fun e => HOP.out.ne (.inl e)
        have HR : Hid (OP w5 B p g cap fv (qk.set k (hldq (gq qk k))) { X1 with cs := cK n X1.cs (k + 1) } ∧ Kx (Mn g fv q) w w5 ∧ (∀ b, Mn g fv (qk.set k (hldq (gq qk k))) b → Mn g fv q b) ∧ BoxN w5 w.heap.size 3 #[.int .i64 n]) := Lib.hid (by
          refine ⟨⟨?_, h5, h.ge⟩, (HKX.out.next hdr).trans hk5 (fun b _ e => .inl e), fun b hb => ?_, hk5.box (fun e => by have := hmn g (.inl rfl); omega) (HBX.out.below hdr)⟩
          · have := hk5.box hpg HO4.out.box
            have e2 : ({ X1 with cs := cK n X1.cs (k + 1) } : Wd).cs.length = ({ X1 with cs := cK n X1.cs k } : Wd).cs.length := by show (cK n X1.cs (k + 1)).length = (cK n X1.cs k).length; rw [cK_len, cK_len]
            rw [e2]
            exact this
          · rcases mn_set hlq hb with e | e | e
            · exact HMK.out b e
            · rw [hldq_tv] at e
              exact HMK.out b (.inr (.inr ⟨k, .inl e⟩))
            · rw [hldq_kv] at e
              exact HMK.out b (.inr (.inr ⟨k, .inr e⟩)))
        clear h5 hk5 hX hpg hdr r0 r1 r2 r3 r4 r5 n0 c1
        go_wp2_with fail
        go_roundw
        case rel => exact ⟨k + 1, _, by omega, by go_num, HR.out.1, HR.out.2.1, HR.out.2.2.1, HR.out.2.2.2⟩
        case measure => simp [intOf]; omega
      · have d3 : (z.tt == n) = false := by simp [htt, he]
        have hX : cK n X1.cs (k + 1) = cK n X1.cs k := by
          rw [← HST.out]
          unfold Fh
          rw [if_neg he, ← HC.out]
          have h1 := cK_at n X1.cs (Nat.le_refl k) (by rw [HN2.out]; exact hlt)
          have hk1 : k < (cK n X1.cs k).length := by rw [cK_len, HN2.out]; exact hlt
          rw [← h1]
          apply List.ext_getElem?
          intro j
          rw [List.getElem?_set]
          split
          · rename_i e; subst e
            (try rw [if_pos hk1])
            unfold gc
            rw [List.getD_eq_getElem?_getD, List.getElem?_eq_getElem hk1]
            rfl
          · rfl
        have HX := Lib.hid hX
        clear htt he hX
        go_upto_region 7 with fail
        go_quiet (fail)
        have hdr := below_drewN (Below.refl wr.heap.size wr) nq
        have HR : Hid (OP (wr.drewN nq) B p g cap fv qk { X1 with cs := cK n X1.cs (k + 1) } ∧ Kx (Mn g fv q) w (wr.drewN nq) ∧ BoxN (wr.drewN nq) w.heap.size 3 #[.int .i64 n]) := Lib.hid ⟨by rw [HX.out]; exact HOP.out.below hdr, HKX.out.next hdr, HBX.out.below hdr⟩
        clear hdr r0 r1 r2 r3 r4 r5 n0 c1
        go_wp2_with fail
        go_roundw
        case rel => exact ⟨k + 1, qk, by omega, by go_num, HR.out.1, HR.out.2.1, HMK.out, HR.out.2.2⟩
        case measure => simp [intOf]; omega
    · obtain rfl : k = N := by omega
      have d2 : decide ((k : Int) < (k : Int)) = false := nb (by omega)
      have hcs : cK n X1.cs k = X1.cs.map (Fh n) := by rw [← HN2.out]; exact cK_end n X1.cs
      have hop := HOP.out
      rw [hcs] at hop
      have hfr1 : X1.fr = X.fr := by rw [← HX1.out]; rfl
      have hfrs : OwP wr B fv X.fr := by rw [← hfr1]; exact hop.or.frs
      have c2 : wr.cell? ⟨p, 2, none⟩ = some fv := hop.box.cell 2
      have n0 : wr.cell? ⟨w.heap.size, 0, none⟩ = some (.int .i64 n) := HBX.out.cell 0
      have hws := HKX.out.size
      have HDF := Lib.hid (deleteFunc_any wr B fv X.fr w.heap.size n (by omega) (by omega) hfrs n0 (fun b e e2 => hnm (by subst e2; exact HMK.out _ (.inr (.inl e)))))
      have HOPF := Lib.hid hop
      clear hop hcs hfrs hlk
      go_wp2_with fail
      refine HDF.out.mono ?_
      rintro e w5 ⟨a, cc, rfl, h5, hk5, hm5⟩
      obtain ⟨r1, r2, r3, r4⟩ := HOPF.out.frs hk5 h5 hm5
      have v0 : w5.cell? ⟨p, 2, none⟩ = some fv := r4.cell 2
      have v1 := r4.frozen 2
      have HR : Hid (ChgF w B p g cap fv q XE (w5.setCell ⟨p, 2, none⟩ (.slice a (X.fr.filter (fun f => !dlP n f)).length cc))) := Lib.hid (by
        rw [HEND.out]
        refine ⟨_, _, r1, (HKX.out.mono (fun b e => .inr e)).trans r2 (fun b hb e => ?_), fun b hb => ?_⟩
        · rcases e with e | e
          · exact .inl e
          · exact .inr (HMK.out b e)
        · rcases r3 b hb with e | e
          · exact .inl (HMK.out b e)
          · exact .inr (by omega))
      clear r1 r2 r3 r4 h5 hk5 hm5
      go_wp2_with fail
      exact bodyPost_end (results_none rfl _ _ _) rfl ⟨rfl, HR.out⟩
end Go.Proofs.Ytnkpjfogjkjcfaa
