/- What is asked of a fate: delivered, lost. Places compared, in the program. IDs compared by their places, in the program. The closure that tells which fates go, in the program. IDs compared by their places: the comparison leaves nothing but new blocks and draws. -/
import Derived.Test.YtcjlbpndgjapiaaDoorZc
import Derived.Test.YtcjlbpndgjapiaaDoorZg
import Derived.Sort.Grow
namespace Go.Proofs.YtcjlbpndgjapiaaDoor
open Go.RowKit
set_option linter.unusedSimpArgs false
set_option linter.unusedVariables false
set_option maxRecDepth 100000

theorem del1_any (B : Nat) (b : Bd) (f : Ft) (w : World) (h : FtB w B b f) : Calls Tryd.prog 56 #[.pointer (some ⟨B, 0, none⟩)] w fun e w' => e = .returned (.bool f.dl) ∧ Below w.heap.size w w' := by
  have cd : w.cell? ⟨B, 10, none⟩ = some (.bool f.dl) := BoxN.cell h 10
  clear h
  go_enter Tryd.func56, Tryd.ntmps56
  go_wp2_with fail
  go_ret
  exact ⟨rfl, Below.refl _ _⟩
set_option maxHeartbeats 2000000 in
theorem lost1_any (B c : Nat) (b : Bd) (f : Ft) (u : Value) (l : List Oc) (hb : BdK b) (hp : f.ac = true → 1 ≤ l.length) (w : World) (h : FtB w B b f) (hc : w.cell? ⟨c, 0, none⟩ = some u) (hl : RdO w u l) :
    Calls Tryd.prog 53 #[.pointer (some ⟨B, 0, none⟩), .pointer (some ⟨c, 0, none⟩)] w fun e w' => e = .returned (.bool (lstF b f (lastT l))) ∧ Below w.heap.size w w' := by
  obtain ⟨a1, n1, rfl⟩ := hl.form
  have hmx := hl.2.1
  unfold maxLen at hmx
  obtain ⟨M, hM⟩ : ∃ M, l.length = M := ⟨_, rfl⟩
  have HM := Lib.hid hM
  rw [hM] at hl hp hmx hc
  have HL := Lib.hid hl
  obtain ⟨R, hR⟩ : ∃ R, lstF b f (lastT l) = R := ⟨_, rfl⟩
  rw [hR]
  have HR := Lib.hid hR
  have HH := Lib.hid h
  have HP := Lib.hid hp
  have HBK := Lib.hid hb
  have c9 : w.cell? ⟨B, 9, none⟩ = some (.bool f.ac) := BoxN.cell h 9
  have c10 : w.cell? ⟨B, 10, none⟩ = some (.bool f.dl) := BoxN.cell h 10
  have c11 : w.cell? ⟨B, 11, none⟩ = some (.int .u32 (f.nw : Int)) := BoxN.cell h 11
  clear hl hM hR h hp hb
  go_enter Tryd.func53, Tryd.ntmps53
  cases hA : f.ac with
  | false =>
    rw [hA] at c9
    obtain rfl : R = false := by rw [← HR.out]; unfold lstF; rw [hA]; rfl
    go_wp2_with fail
    go_ret
    exact ⟨rfl, Below.refl _ _⟩
  | true =>
    rw [hA] at c9
    have hpos := HP.out hA
    cases hD : f.dl with
    | true =>
      rw [hD] at c10
      obtain rfl : R = false := by rw [← HR.out]; unfold lstF; rw [hA, hD]; rfl
      go_wp2_with fail
      go_ret
      exact ⟨rfl, Below.refl _ _⟩
    | false =>
      rw [hD] at c10
      by_cases hN : f.nw = 0
      · obtain ⟨p, hpp⟩ : ∃ p, M = p + 1 := ⟨M - 1, by omega⟩
        obtain ⟨b4, o4, he4, hc4, hro⟩ := RdO.at HL.out HM.out p (by omega)
        obtain rfl := he4
        obtain ⟨tk, htk⟩ : ∃ tk, (gx l p).tk = tk := ⟨_, rfl⟩
        have HTK : Hid (lastT l = tk) := Lib.hid (by unfold lastT; rw [HM.out, hpp]; exact htk)
        obtain ⟨tc, _⟩ := hro
        rw [htk] at tc
        have j1 : (0 : Int) ≤ (p : Int) := by omega
        have j2 : (p : Int) < (M : Int) := by omega
        have hwp : IntKind.i64.wrap (p : Int) = (p : Int) := IntWalk.i64_in _ (by omega)
        have hwM : IntKind.i64.wrap ((M : Int) - 1) = (p : Int) := by rw [show (M : Int) - 1 = (p : Int) by omega]; exact hwp
        have HLT := Lib.hid (fun wS (hS : Below w.heap.size w wS) => late_any B b f tk HBK.out.born wS (BoxN.below HH.out hS))
        have hR2 : R = !decide (b.born + b.life ≤ tk) := by
          rw [← HR.out, HTK.out]; unfold lstF; rw [hA, hD, hN]
          have e : decide (tk < b.born + b.life) = !decide (b.born + b.life ≤ tk) := by
            by_cases ht : tk < b.born + b.life
            · rw [yb ht, nb (show ¬ b.born + b.life ≤ tk by omega)]; rfl
            · rw [nb ht, yb (show b.born + b.life ≤ tk by omega)]; rfl
          rw [e]
          simp
        obtain ⟨E, hE⟩ : ∃ E, decide (b.born + b.life ≤ tk) = E := ⟨_, rfl⟩
        rw [hE] at HLT hR2
        rw [hN] at c11
        subst hR2
        clear hE htk hpp hpos hA hD hN hc4 hwp
        go_wp2_with fail
        refine (HLT.out _ (Below.refl _ _)).mono ?_
        rintro e w2 ⟨rfl, hb2⟩
        go_wp2_with fail
        go_ret
        exact ⟨rfl, hb2⟩
      · have d5 : ((f.nw : Int) == 0) = false := by simpa using hN
        obtain rfl : R = false := by rw [← HR.out]; unfold lstF; rw [hA, hD, nb hN]; rfl
        clear hN
        go_wp2_with fail
        go_ret
        exact ⟨rfl, Below.refl _ _⟩
end Go.Proofs.YtcjlbpndgjapiaaDoor
namespace Go.Proofs.YtcjlbpndgjapiaaDoor
open Go.RowKit
set_option linter.unusedSimpArgs false
set_option linter.unusedVariables false
set_option maxRecDepth 100000

theorem isnan_any (a : Int) (w : World) : Calls Tryd.prog 83 #[.int .i64 a] w fun e w' => e = .returned (.bool false) ∧ w = w' := by
  go_enter Tryd.func83, Tryd.ntmps83
  go_wp2_with fail
  go_ret
  exact ⟨rfl, rfl⟩
def cmpI (a b : Int) : Int := if a < b then -1 else if b < a then 1 else 0
theorem cmp_any (a b : Int) (w : World) : Calls Tryd.prog 77 #[.int .i64 a, .int .i64 b] w fun e w' => e = .returned (.int .i64 (cmpI a b)) ∧ w = w' := by
  obtain ⟨R, hR⟩ : ∃ R, cmpI a b = R := ⟨_, rfl⟩
  rw [hR]
  have HA := Lib.hid (isnan_any a)
  have HB := Lib.hid (isnan_any b)
  go_enter Tryd.func77, Tryd.ntmps77
  go_wp2_with fail
  refine (HA.out _).mono ?_
  rintro e w1 ⟨rfl, rfl⟩
  go_wp2_with fail
  refine (HB.out _).mono ?_
  rintro e w2 ⟨rfl, rfl⟩
  by_cases h1 : a < b
  · obtain rfl : R = -1 := by rw [← hR]; unfold cmpI; rw [if_pos h1]
    have d1 : decide (a < b) = true := yb h1
    clear h1 hR
    go_wp2_with fail
    go_ret
    exact ⟨rfl, rfl⟩
  · have d1 : decide (a < b) = false := nb h1
    by_cases h2 : b < a
    · obtain rfl : R = 1 := by rw [← hR]; unfold cmpI; rw [if_neg h1, if_pos h2]
      have d2 : decide (b < a) = true := yb h2
      have d3 : decide (a > b) = true := yb h2
      clear h1 h2 hR
      go_wp2_with fail
      go_ret
      exact ⟨rfl, rfl⟩
    · obtain rfl : R = 0 := by rw [← hR]; unfold cmpI; rw [if_neg h1, if_neg h2]
      have d2 : decide (b < a) = false := nb h2
      have d3 : decide (a > b) = false := nb h2
      clear h1 h2 hR
      go_wp2_with fail
      go_ret
      exact ⟨rfl, rfl⟩
/-- the place of an ID (those$2): c: the box of the world -/
theorem place_any (v : Value) (ws : List Bd) (c : Nat) (i : Idn) (w : World) (hc : w.cell? ⟨c, 0, none⟩ = some v) (h : RdB w v ws) :
    Calls Tryd.prog 71 #[i.v, .pointer (some ⟨c, 0, none⟩)] w fun e w' => (∃ r : Int, e = .returned (.int .i64 r) ∧ SrI ws i ws.length r) ∧ Below w.heap.size w w' := by
  obtain ⟨W, hW⟩ : ∃ W : World, W = w.alloc (.cells #[.int .i64 i.nd, .int .u64 i.sq, .int .i64 i.off] 26) := ⟨_, rfl⟩
  have hB : Below w.heap.size w W := by rw [hW]; exact (by repeat (first | assumption | exact Below.refl _ _ | apply Below.al | apply below_drewN | apply Below.drew | refine Below.next ?_ (by assumption)))
  have bI : BoxN W w.heap.size 26 #[.int .i64 i.nd, .int .u64 i.sq, .int .i64 i.off] := by rw [hW]; exact BoxN.new w _ _
  have h0 : W.cell? ⟨w.heap.size, 0, none⟩ = some (.int .i64 i.nd) := bI.cell 0
  have h1 : W.cell? ⟨w.heap.size, 1, none⟩ = some (.int .u64 i.sq) := bI.cell 1
  have h2 : W.cell? ⟨w.heap.size, 2, none⟩ = some (.int .i64 i.off) := bI.cell 2
  clear bI
  have n0 := cell_later hB hc
  have HP := Lib.hid (th2_ix v ws w.heap.size i W h0 h1 h2 (h.keep hB))
  have HB := Lib.hid hB
  obtain ⟨Q, hQ⟩ : ∃ Q, w.heap.size = Q := ⟨_, rfl⟩
  have HQ := Lib.hid hQ
  rw [hQ] at h0 h1 h2 HP
  clear hB h hc hQ
  go_enter Tryd.func71, Tryd.ntmps71
  go_upto_region 1 with fail
  rw [← hW, HQ.out]
  clear hW
  go_wp2_with fail
  refine HP.out.mono ?_
  rintro e w1 ⟨⟨r, rfl, hr⟩, hb⟩
  have HRR := Lib.hid hr
  have HB1 := Lib.hid (Below.next HB.out hb)
  clear hr hb HP HB
  go_wp2_with fail
  go_ret
  exact ⟨⟨r, rfl, HRR.out⟩, HB1.out⟩
end Go.Proofs.YtcjlbpndgjapiaaDoor
namespace Go.Proofs.YtcjlbpndgjapiaaDoor
open Go.RowKit
set_option linter.unusedSimpArgs false
set_option linter.unusedVariables false
set_option maxRecDepth 100000

theorem place_at (v : Value) (ws : List Bd) (c j : Nat) (hu : Uniq ws) (hj : j < ws.length) (w : World) (hc : w.cell? ⟨c, 0, none⟩ = some v) (h : RdB w v ws) :
    Calls Tryd.prog 71 #[(gb ws j).id.v, .pointer (some ⟨c, 0, none⟩)] w fun e w' => e = .returned (.int .i64 (j : Int)) ∧ Below w.heap.size w w' := by
  refine (place_any v ws c (gb ws j).id w hc h).mono ?_
  rintro e w' ⟨⟨r, rfl, hr⟩, hb⟩
  refine ⟨?_, hb⟩
  rcases SrI.end hu hr with ⟨_, h1⟩ | ⟨k, _, rfl, h1⟩
  · rw [idx_at hu hj] at h1; cases h1
  · rw [idx_at hu hj] at h1
    cases h1; rfl
set_option maxHeartbeats 2000000 in
theorem cmpid_any (v : Value) (ws : List Bd) (c d j k : Nat) (hu : Uniq ws) (hj : j < ws.length) (hk : k < ws.length) (w : World) (hc : w.cell? ⟨c, 0, none⟩ = some v) (hd : w.cell? ⟨d, 0, none⟩ = some (.func (.func 71) #[] #[.pointer (some ⟨c, 0, none⟩)])) (h : RdB w v ws) :
    Calls Tryd.prog 76 #[(gb ws j).id.v, (gb ws k).id.v, .pointer (some ⟨d, 0, none⟩)] w fun e w' => e = .returned (.int .i64 (cmpI j k)) ∧ Below w.heap.size w w' := by
  have HPJ := Lib.hid (fun wS (hS : Below w.heap.size w wS) => place_at v ws c j hu hj wS (cell_later hS hc) (h.keep hS))
  have HPK := Lib.hid (fun wS (hS : Below w.heap.size w wS) => place_at v ws c k hu hk wS (cell_later hS hc) (h.keep hS))
  obtain ⟨p, hp⟩ : ∃ p, (gb ws j).id = p := ⟨_, rfl⟩
  obtain ⟨q, hq⟩ : ∃ q, (gb ws k).id = q := ⟨_, rfl⟩
  rw [hp] at HPJ ⊢
  rw [hq] at HPK ⊢
  obtain ⟨W, hW⟩ : ∃ W : World, W = (w.alloc (.cells #[.int .i64 p.nd, .int .u64 p.sq, .int .i64 p.off] 26)).alloc (.cells #[.int .i64 q.nd, .int .u64 q.sq, .int .i64 q.off] 26) := ⟨_, rfl⟩
  have hB : Below w.heap.size w W := by rw [hW]; exact (by repeat (first | assumption | exact Below.refl _ _ | apply Below.al | apply below_drewN | apply Below.drew | refine Below.next ?_ (by assumption)))
  have bI : BoxN W w.heap.size 26 #[.int .i64 p.nd, .int .u64 p.sq, .int .i64 p.off] := by rw [hW]; exact (BoxN.new w _ _).alloc _
  have oI : BoxN W (w.heap.size + 1) 26 #[.int .i64 q.nd, .int .u64 q.sq, .int .i64 q.off] := by
    have := BoxN.new (w.alloc (.cells #[.int .i64 p.nd, .int .u64 p.sq, .int .i64 p.off] 26)) 26 #[.int .i64 q.nd, .int .u64 q.sq, .int .i64 q.off]
    rw [World.alloc_size] at this
    rw [hW]; exact this
  have p0 : W.cell? ⟨w.heap.size, 0, none⟩ = some (.int .i64 p.nd) := bI.cell 0
  have p1 : W.cell? ⟨w.heap.size, 1, none⟩ = some (.int .u64 p.sq) := bI.cell 1
  have p2 : W.cell? ⟨w.heap.size, 2, none⟩ = some (.int .i64 p.off) := bI.cell 2
  have q0 : W.cell? ⟨w.heap.size + 1, 0, none⟩ = some (.int .i64 q.nd) := oI.cell 0
  have q1 : W.cell? ⟨w.heap.size + 1, 1, none⟩ = some (.int .u64 q.sq) := oI.cell 1
  have q2 : W.cell? ⟨w.heap.size + 1, 2, none⟩ = some (.int .i64 q.off) := oI.cell 2
  have hdW := cell_later hB hd
  have HB := Lib.hid hB
  obtain ⟨Q, hQ⟩ : ∃ Q, w.heap.size = Q := ⟨_, rfl⟩
  have HQ := Lib.hid hQ
  rw [hQ] at p0 p1 p2 q0 q1 q2
  clear bI oI hB hQ hp hq hc hd h hu hj hk
  go_enter Tryd.func76, Tryd.ntmps76
  go_upto_region 1 with fail
  rw [← hW, HQ.out]
  clear hW
  refine wp_region_calm (fun w' => Below W.heap.size W w') 99 (by kernel_rfl) ((Below.refl _ W).drew) ?_
  refine cm_run 0 6 (v := ?_) rfl rfl (by kernel_rfl) (by kernel_rfl) (by kernel_rfl) (by kernel_rfl) (by kernel_rfl) (fun _ _ _ h => h) (by rfl) ?_ ?_
  rotate_left
  · (intro wS hS; have x0 := cell_later hS hdW; go_simp; (try with_reducible rfl))
  simp only [List.setIfInBounds_toArray, List.set_cons_zero, List.set_cons_succ]
  refine cm_run 1 7 (v := ?_) rfl rfl (by kernel_rfl) (by kernel_rfl) (by kernel_rfl) (by kernel_rfl) (by kernel_rfl) (fun _ _ _ h => h) (by rfl) ?_ ?_
  rotate_left
  · (intro wS hS; (have x0 := cell_later hS p0; have x1 := cell_later hS p1; have x2 := cell_later hS p2); go_simp; (try with_reducible rfl))
  simp only [List.setIfInBounds_toArray, List.set_cons_zero, List.set_cons_succ]
  refine cm_call 2 8 71 (v := .int .i64 (j : Int)) (args := ?_) rfl rfl (by kernel_rfl) (by kernel_rfl) (by kernel_rfl) (by kernel_rfl) (by kernel_rfl) (fun _ _ _ h => h) (by rfl) ?_ ?_ ?_
  rotate_left 1
  · (intro wS hS; go_simp; (try with_reducible rfl))
  · (intro wS hS; refine (HPJ.out _ (Below.next HB.out hS)).mono ?_; (rintro e w3 ⟨rfl, hb⟩; exact ⟨rfl, Below.next hS hb⟩))
  simp only [List.setIfInBounds_toArray, List.set_cons_zero, List.set_cons_succ]
  refine cm_run 3 9 (v := ?_) rfl rfl (by kernel_rfl) (by kernel_rfl) (by kernel_rfl) (by kernel_rfl) (by kernel_rfl) (fun _ _ _ h => h) (by rfl) ?_ ?_
  rotate_left
  · (intro wS hS; have x0 := cell_later hS hdW; go_simp; (try with_reducible rfl))
  simp only [List.setIfInBounds_toArray, List.set_cons_zero, List.set_cons_succ]
  refine cm_run 4 10 (v := ?_) rfl rfl (by kernel_rfl) (by kernel_rfl) (by kernel_rfl) (by kernel_rfl) (by kernel_rfl) (fun _ _ _ h => h) (by rfl) ?_ ?_
  rotate_left
  · (intro wS hS; (have x0 := cell_later hS q0; have x1 := cell_later hS q1; have x2 := cell_later hS q2); go_simp; (try with_reducible rfl))
  simp only [List.setIfInBounds_toArray, List.set_cons_zero, List.set_cons_succ]
  refine cm_call 5 11 71 (v := .int .i64 (k : Int)) (args := ?_) rfl rfl (by kernel_rfl) (by kernel_rfl) (by kernel_rfl) (by kernel_rfl) (by kernel_rfl) (fun _ _ _ h => h) (by rfl) ?_ ?_ ?_
  rotate_left 1
  · (intro wS hS; go_simp; (try with_reducible rfl))
  · (intro wS hS; refine (HPK.out _ (Below.next HB.out hS)).mono ?_; (rintro e w3 ⟨rfl, hb⟩; exact ⟨rfl, Below.next hS hb⟩))
  simp only [List.setIfInBounds_toArray, List.set_cons_zero, List.set_cons_succ]
  refine cm_call 6 12 77 (v := .int .i64 (cmpI j k)) (args := ?_) rfl rfl (by kernel_rfl) (by kernel_rfl) (by kernel_rfl) (by kernel_rfl) (by kernel_rfl) (fun _ _ _ h => h) (by rfl) ?_ ?_ ?_
  rotate_left 1
  · (intro wS hS; go_simp; (try with_reducible rfl))
  · (intro wS hS; refine (cmp_any _ _ _).mono ?_; (rintro e w3 ⟨rfl, rfl⟩; exact ⟨rfl, hS⟩))
  simp only [List.setIfInBounds_toArray, List.set_cons_zero, List.set_cons_succ]
  refine cm_run 7 5 (v := ?_) rfl rfl (by kernel_rfl) (by kernel_rfl) (by kernel_rfl) (by kernel_rfl) (by kernel_rfl) (fun _ _ _ h => h) (by rfl) ?_ ?_
  rotate_left
  · (intro wS hS; skip; go_simp; (try with_reducible rfl))
  simp only [List.setIfInBounds_toArray, List.set_cons_zero, List.set_cons_succ]
  refine cm_done (by kernel_rfl) ?_
  intro wS hS
  refine NoPanic.normal ?_
  have HB2 := Lib.hid (Below.next HB.out hS)
  clear hS p0 p1 p2 q0 q1 q2 hdW
  go_wp2_with fail
  go_ret
  exact ⟨rfl, HB2.out⟩
end Go.Proofs.YtcjlbpndgjapiaaDoor
namespace Go.Proofs.YtcjlbpndgjapiaaDoor
open Go.RowKit
set_option linter.unusedSimpArgs false
set_option linter.unusedVariables false
set_option maxRecDepth 100000

theorem those1_any (i : Idn) (A d F : Nat) (cb : Array Value) (r : Bool) (w : World) (hd : w.cell? ⟨d, 0, none⟩ = some (.func (.func F) #[] cb)) (eg : ∀ args w, (callFunc F args).run Tryd.prog w = .ok (.enter F args) w)
    (hF : ∀ wS, Below w.heap.size w wS → Calls Tryd.prog F (#[.pointer (some ⟨A, 0, none⟩)] ++ cb) wS fun e w' => e = .returned (.bool r) ∧ Below wS.heap.size wS w') :
    Calls Tryd.prog 70 #[i.v, .pointer (some ⟨A, 0, none⟩), .pointer (some ⟨d, 0, none⟩)] w fun e w' => e = .returned (.bool (!r)) ∧ Below w.heap.size w w' := by
  obtain ⟨W, hW⟩ : ∃ W : World, W = w.alloc (.cells #[.int .i64 i.nd, .int .u64 i.sq, .int .i64 i.off] 26) := ⟨_, rfl⟩
  have hB : Below w.heap.size w W := by rw [hW]; exact (by repeat (first | assumption | exact Below.refl _ _ | apply Below.al | apply below_drewN | apply Below.drew | refine Below.next ?_ (by assumption)))
  have hdW := cell_later hB hd
  have HF := Lib.hid (hF W hB)
  have HB := Lib.hid hB
  clear hB hd hF
  go_enter Tryd.func70, Tryd.ntmps70
  go_upto_region 1 with fail
  rw [← hW]
  clear hW
  go_wp2_with fail
  refine HF.out.mono ?_
  rintro e w1 ⟨rfl, hb⟩
  have HB1 := Lib.hid (Below.next HB.out hb)
  clear hb HF HB
  go_wp2_with fail
  go_ret
  exact ⟨rfl, HB1.out⟩
end Go.Proofs.YtcjlbpndgjapiaaDoor
namespace Go.Proofs.YtcjlbpndgjapiaaDoor
open Go.RowKit
set_option linter.unusedSimpArgs false
set_option linter.unusedVariables false
set_option maxRecDepth 100000

/-- nothing but new blocks and draws -/
def Gr (w w' : World) : Prop := ∃ q os, w' = Sort.grow (w.drewN q) os
theorem grow_empty' (w : World) : Sort.grow w #[] = w := by simp only [Sort.grow, Array.append_empty]
theorem Gr.refl (w : World) : Gr w w := ⟨0, #[], (grow_empty' w).symm⟩
theorem Gr.trans {a b c : World} (h : Gr a b) (k : Gr b c) : Gr a c := by
  obtain ⟨q, os, rfl⟩ := h
  obtain ⟨q2, os2, rfl⟩ := k
  exact ⟨q + q2, os ++ os2, by simp only [Sort.grow, World.drewN, Array.append_assoc, Nat.add_assoc]⟩
theorem Gr.al {a b : World} (h : Gr a b) {o : Obj} : Gr a (b.alloc o) := h.trans ⟨0, #[o], by rw [Sort.alloc_eq_grow]; rfl⟩
theorem Gr.drew {a b : World} (h : Gr a b) : Gr a b.drew := h.trans ⟨1, #[], by rw [grow_empty']; rfl⟩
theorem Gr.drewN {a b : World} (h : Gr a b) (n : Nat) : Gr a (b.drewN n) := h.trans ⟨n, #[], by rw [grow_empty']⟩
theorem Gr.below {a b : World} (h : Gr a b) : Below a.heap.size a b := by
  obtain ⟨q, os, rfl⟩ := h
  refine ⟨rfl, rfl, rfl, ?_, fun k hk => Array.getElem?_append_left hk⟩
  show _ ≤ (_ ++ os).size
  rw [Array.size_append]
  exact Nat.le_add_right _ _
set_option maxHeartbeats 1000000 in
theorem th2_pg (y : Bd) (b : Nat) (i : Idn) (w : World) (m0 : w.cell? ⟨b, 0, none⟩ = some (.int .i64 i.nd)) (m1 : w.cell? ⟨b, 1, none⟩ = some (.int .u64 i.sq)) (m2 : w.cell? ⟨b, 2, none⟩ = some (.int .i64 i.off)) :
    Calls Tryd.prog 73 #[y.v, .pointer (some ⟨b, 0, none⟩)] w fun e w' => e = .returned (.bool (decide (y.id = i))) ∧ Gr w w' := by
  obtain ⟨W, hW⟩ : ∃ W : World, W = w.alloc (.cells #[.int .i64 y.id.nd, .int .u64 y.id.sq, .int .i64 y.id.off, .int .i64 y.dst, .int .i64 y.pri, .int .i64 y.born, .int .i64 y.life, .int .i64 y.tot, .string y.dat] 41) := ⟨_, rfl⟩
  have hB : Below w.heap.size w W := by rw [hW]; exact (by repeat (first | assumption | exact Below.refl _ _ | apply Below.al | apply below_drewN | apply Below.drew | refine Below.next ?_ (by assumption)))
  have bI : BoxN W w.heap.size 41 #[.int .i64 y.id.nd, .int .u64 y.id.sq, .int .i64 y.id.off, .int .i64 y.dst, .int .i64 y.pri, .int .i64 y.born, .int .i64 y.life, .int .i64 y.tot, .string y.dat] := by rw [hW]; exact BoxN.new w _ _
  have h0 : W.cell? ⟨w.heap.size, 0, none⟩ = some (.int .i64 y.id.nd) := bI.cell 0
  have h1 : W.cell? ⟨w.heap.size, 1, none⟩ = some (.int .u64 y.id.sq) := bI.cell 1
  have h2 : W.cell? ⟨w.heap.size, 2, none⟩ = some (.int .i64 y.id.off) := bI.cell 2
  have h3 : W.cell? ⟨w.heap.size, 3, none⟩ = some (.int .i64 y.dst) := bI.cell 3
  have h4 : W.cell? ⟨w.heap.size, 4, none⟩ = some (.int .i64 y.pri) := bI.cell 4
  have h5 : W.cell? ⟨w.heap.size, 5, none⟩ = some (.int .i64 y.born) := bI.cell 5
  have h6 : W.cell? ⟨w.heap.size, 6, none⟩ = some (.int .i64 y.life) := bI.cell 6
  have h7 : W.cell? ⟨w.heap.size, 7, none⟩ = some (.int .i64 y.tot) := bI.cell 7
  have h8 : W.cell? ⟨w.heap.size, 8, none⟩ = some (.string y.dat) := bI.cell 8
  clear bI
  have n0 := cell_later hB m0
  have n1 := cell_later hB m1
  have n2 := cell_later hB m2
  have HB := Lib.hid (show Gr w W by rw [hW]; exact (Gr.refl w).al)
  obtain ⟨Q, hQ⟩ : ∃ Q, w.heap.size = Q := ⟨_, rfl⟩
  have HQ := Lib.hid hQ
  rw [hQ] at h0 h1 h2
  clear hB hQ h3 h4 h5 h6 h7 h8 m0 m1 m2
  obtain ⟨r, hr⟩ : ∃ r, decide (y.id = i) = r := ⟨_, rfl⟩
  rw [hr]
  go_enter Tryd.func73, Tryd.ntmps73
  go_upto_region 1 with fail
  rw [← hW, HQ.out]
  clear hW
  by_cases hid : y.id = i
  · obtain ⟨e1, e2, e3⟩ := id_eq hid
    obtain rfl : r = true := by rw [← hr]; exact yb hid
    clear hid hr
    go_wp2_with fail
    try (go_quiet (fail); go_wp2_with fail)
    go_ret
    exact ⟨rfl, by first | exact HB.out | exact HB.out.drewN _⟩
  · have hne := id_ne hid
    obtain rfl : r = false := by rw [← hr]; exact nb hid
    clear hid hr
    rcases hne with e1 | ⟨e1, e2⟩ | ⟨e1, e2, e3⟩
    all_goals
      go_wp2_with fail
      try (go_quiet (fail); go_wp2_with fail)
      go_ret
      exact ⟨rfl, by first | exact HB.out | exact HB.out.drewN _⟩
set_option maxHeartbeats 1000000 in
theorem th2_ixg (v : Value) (ws : List Bd) (b : Nat) (i : Idn) (w : World) (m0 : w.cell? ⟨b, 0, none⟩ = some (.int .i64 i.nd)) (m1 : w.cell? ⟨b, 1, none⟩ = some (.int .u64 i.sq)) (m2 : w.cell? ⟨b, 2, none⟩ = some (.int .i64 i.off)) (h : RdB w v ws) :
    Calls Tryd.prog 72 #[v, .func (.func 73) #[] #[.pointer (some ⟨b, 0, none⟩)]] w fun e w' => (∃ r : Int, e = .returned (.int .i64 r) ∧ SrI ws i ws.length r) ∧ Gr w w' := by
  obtain ⟨a0, n0, rfl⟩ := h.form
  have hmx := h.2.1
  unfold maxLen at hmx
  obtain ⟨N, hN⟩ : ∃ N, ws.length = N := ⟨_, rfl⟩
  rw [hN] at h hmx ⊢
  have HN := Lib.hid hN
  have HR := Lib.hid h
  clear hN h
  go_enter Tryd.func72, Tryd.ntmps72
  go_wp2_with fail
  go_loopw [8] (fun i' wr => ∃ k : Nat, k ≤ N ∧ i' = .int .i64 k ∧ Gr w wr ∧ Hid (∀ j, j < k → (gb ws j).id ≠ i)) (fun i' _ => N - (intOf i').toNat)
  case atStart => exact ⟨0, Nat.zero_le _, rfl, Gr.refl _, Lib.hid fun j hj => absurd hj (Nat.not_lt_zero _)⟩
  case round =>
    obtain ⟨k, hkN, rfl, hB, HZ⟩ := hrel
    by_cases hlt : k < N
    · have d2 : decide ((k : Int) < (N : Int)) = true := yb (by omega)
      obtain ⟨b1, o1, rfl, hc1, g0, g1, g2, g3, g4, g5, g6, g7, g8⟩ := RdB.at (HR.out.keep hB.below) HN.out k hlt
      obtain ⟨y, HY⟩ : ∃ y, Hid (gb ws k = y) := ⟨_, Lib.hid rfl⟩
      rw [HY.out] at g0 g1 g2 g3 g4 g5 g6 g7 g8
      have i1 : (0 : Int) ≤ (k : Int) := by omega
      have i2 : (k : Int) < (N : Int) := by omega
      have hwk : IntKind.i64.wrap (k : Int) = (k : Int) := IntWalk.i64_in _ (by omega)
      have hP := th2_pg y b i wr (cell_later hB.below m0) (cell_later hB.below m1) (cell_later hB.below m2)
      by_cases hs : y.id = i
      · rw [yb hs] at hP
        have HPP := Lib.hid hP
        have HS : Hid (SrI ws i N k) := Lib.hid (.inr ⟨k, hlt, by rw [HY.out]; exact hs, rfl⟩)
        clear hP hs m0 m1 m2
        go_wp2_with fail
        refine HPP.out.mono ?_
        rintro e w1 ⟨rfl, hb1⟩
        have hB1 := hB.trans hb1
        clear hb1
        go_wp2_with fail
        go_ret
        exact ⟨⟨_, rfl, HS.out⟩, hB1⟩
      · rw [nb hs] at hP
        have HPP := Lib.hid hP
        have HS := Lib.hid hs
        clear hP hs
        have M0 := Lib.hid m0
        have M1 := Lib.hid m1
        have M2 := Lib.hid m2
        clear m0 m1 m2
        go_wp2_with fail
        refine HPP.out.mono ?_
        rintro e w1 ⟨rfl, hb1⟩
        have hB1 := hB.trans hb1
        clear hb1
        go_wp2_with fail
        go_roundw
        case rel => exact ⟨k + 1, by omega, by go_num, hB1, Lib.hid fun j hj => by
          rcases Nat.lt_succ_iff_lt_or_eq.1 hj with hj | rfl
          · exact HZ.out j hj
          · rw [HY.out]; exact HS.out⟩
        case measure => simp [intOf]; omega
    · obtain rfl : k = N := by omega
      have d2 : decide ((k : Int) < (k : Int)) = false := nb (by omega)
      have HS : Hid (SrI ws i k (-1)) := Lib.hid (.inl ⟨rfl, HZ.out⟩)
      clear m0 m1 m2
      go_wp2_with fail
      go_ret
      exact ⟨⟨_, rfl, HS.out⟩, hB⟩
/-- the place of an ID (those$2): c: the box of the world -/
theorem place_gr (v : Value) (ws : List Bd) (c : Nat) (i : Idn) (w : World) (hc : w.cell? ⟨c, 0, none⟩ = some v) (h : RdB w v ws) :
    Calls Tryd.prog 71 #[i.v, .pointer (some ⟨c, 0, none⟩)] w fun e w' => (∃ r : Int, e = .returned (.int .i64 r) ∧ SrI ws i ws.length r) ∧ Gr w w' := by
  obtain ⟨W, hW⟩ : ∃ W : World, W = w.alloc (.cells #[.int .i64 i.nd, .int .u64 i.sq, .int .i64 i.off] 26) := ⟨_, rfl⟩
  have hB : Below w.heap.size w W := by rw [hW]; exact (by repeat (first | assumption | exact Below.refl _ _ | apply Below.al | apply below_drewN | apply Below.drew | refine Below.next ?_ (by assumption)))
  have bI : BoxN W w.heap.size 26 #[.int .i64 i.nd, .int .u64 i.sq, .int .i64 i.off] := by rw [hW]; exact BoxN.new w _ _
  have h0 : W.cell? ⟨w.heap.size, 0, none⟩ = some (.int .i64 i.nd) := bI.cell 0
  have h1 : W.cell? ⟨w.heap.size, 1, none⟩ = some (.int .u64 i.sq) := bI.cell 1
  have h2 : W.cell? ⟨w.heap.size, 2, none⟩ = some (.int .i64 i.off) := bI.cell 2
  clear bI
  have n0 := cell_later hB hc
  have HP := Lib.hid (th2_ixg v ws w.heap.size i W h0 h1 h2 (h.keep hB))
  have HB := Lib.hid (show Gr w W by rw [hW]; exact (Gr.refl w).al)
  obtain ⟨Q, hQ⟩ : ∃ Q, w.heap.size = Q := ⟨_, rfl⟩
  have HQ := Lib.hid hQ
  rw [hQ] at h0 h1 h2 HP
  clear hB h hc hQ
  go_enter Tryd.func71, Tryd.ntmps71
  go_upto_region 1 with fail
  rw [← hW, HQ.out]
  clear hW
  go_wp2_with fail
  refine HP.out.mono ?_
  rintro e w1 ⟨⟨r, rfl, hr⟩, hb⟩
  have HRR := Lib.hid hr
  have HB1 := Lib.hid (HB.out.trans hb)
  clear hr hb HP HB
  go_wp2_with fail
  go_ret
  exact ⟨⟨r, rfl, HRR.out⟩, HB1.out⟩
theorem place_atg (v : Value) (ws : List Bd) (c j : Nat) (hu : Uniq ws) (hj : j < ws.length) (w : World) (hc : w.cell? ⟨c, 0, none⟩ = some v) (h : RdB w v ws) :
    Calls Tryd.prog 71 #[(gb ws j).id.v, .pointer (some ⟨c, 0, none⟩)] w fun e w' => e = .returned (.int .i64 (j : Int)) ∧ Gr w w' := by
  refine (place_gr v ws c (gb ws j).id w hc h).mono ?_
  rintro e w' ⟨⟨r, rfl, hr⟩, hb⟩
  refine ⟨?_, hb⟩
  rcases SrI.end hu hr with ⟨_, h1⟩ | ⟨k, _, rfl, h1⟩
  · rw [idx_at hu hj] at h1; cases h1
  · rw [idx_at hu hj] at h1
    cases h1; rfl
set_option maxHeartbeats 2000000 in
theorem cmpid_gr (v : Value) (ws : List Bd) (c d j k : Nat) (hu : Uniq ws) (hj : j < ws.length) (hk : k < ws.length) (w : World) (hc : w.cell? ⟨c, 0, none⟩ = some v) (hd : w.cell? ⟨d, 0, none⟩ = some (.func (.func 71) #[] #[.pointer (some ⟨c, 0, none⟩)])) (h : RdB w v ws) :
    Calls Tryd.prog 76 #[(gb ws j).id.v, (gb ws k).id.v, .pointer (some ⟨d, 0, none⟩)] w fun e w' => e = .returned (.int .i64 (cmpI j k)) ∧ Gr w w' := by
  have HPJ := Lib.hid (fun wS (hS : Gr w wS) => place_atg v ws c j hu hj wS (cell_later hS.below hc) (h.keep hS.below))
  have HPK := Lib.hid (fun wS (hS : Gr w wS) => place_atg v ws c k hu hk wS (cell_later hS.below hc) (h.keep hS.below))
  obtain ⟨p, hp⟩ : ∃ p, (gb ws j).id = p := ⟨_, rfl⟩
  obtain ⟨q, hq⟩ : ∃ q, (gb ws k).id = q := ⟨_, rfl⟩
  rw [hp] at HPJ ⊢
  rw [hq] at HPK ⊢
  obtain ⟨W, hW⟩ : ∃ W : World, W = (w.alloc (.cells #[.int .i64 p.nd, .int .u64 p.sq, .int .i64 p.off] 26)).alloc (.cells #[.int .i64 q.nd, .int .u64 q.sq, .int .i64 q.off] 26) := ⟨_, rfl⟩
  have hB : Below w.heap.size w W := by rw [hW]; exact (by repeat (first | assumption | exact Below.refl _ _ | apply Below.al | apply below_drewN | apply Below.drew | refine Below.next ?_ (by assumption)))
  have bI : BoxN W w.heap.size 26 #[.int .i64 p.nd, .int .u64 p.sq, .int .i64 p.off] := by rw [hW]; exact (BoxN.new w _ _).alloc _
  have oI : BoxN W (w.heap.size + 1) 26 #[.int .i64 q.nd, .int .u64 q.sq, .int .i64 q.off] := by
    have := BoxN.new (w.alloc (.cells #[.int .i64 p.nd, .int .u64 p.sq, .int .i64 p.off] 26)) 26 #[.int .i64 q.nd, .int .u64 q.sq, .int .i64 q.off]
    rw [World.alloc_size] at this
    rw [hW]; exact this
  have p0 : W.cell? ⟨w.heap.size, 0, none⟩ = some (.int .i64 p.nd) := bI.cell 0
  have p1 : W.cell? ⟨w.heap.size, 1, none⟩ = some (.int .u64 p.sq) := bI.cell 1
  have p2 : W.cell? ⟨w.heap.size, 2, none⟩ = some (.int .i64 p.off) := bI.cell 2
  have q0 : W.cell? ⟨w.heap.size + 1, 0, none⟩ = some (.int .i64 q.nd) := oI.cell 0
  have q1 : W.cell? ⟨w.heap.size + 1, 1, none⟩ = some (.int .u64 q.sq) := oI.cell 1
  have q2 : W.cell? ⟨w.heap.size + 1, 2, none⟩ = some (.int .i64 q.off) := oI.cell 2
  have hdW := cell_later hB hd
  have HB := Lib.hid (show Gr w W by rw [hW]; exact (Gr.refl w).al.al)
  obtain ⟨Q, hQ⟩ : ∃ Q, w.heap.size = Q := ⟨_, rfl⟩
  have HQ := Lib.hid hQ
  rw [hQ] at p0 p1 p2 q0 q1 q2
  clear bI oI hB hQ hp hq hc hd h hu hj hk
  go_enter Tryd.func76, Tryd.ntmps76
  go_upto_region 1 with fail
  rw [← hW, HQ.out]
  clear hW
  refine wp_region_calm (fun w' => Gr W w') 99 (by kernel_rfl) ((Gr.refl W).drew) ?_
  refine cm_run 0 6 (v := ?_) rfl rfl (by kernel_rfl) (by kernel_rfl) (by kernel_rfl) (by kernel_rfl) (by kernel_rfl) (fun _ _ _ h => h) (by rfl) ?_ ?_
  rotate_left
  · (intro wS hS; have x0 := cell_later hS.below hdW; go_simp; (try with_reducible rfl))
  simp only [List.setIfInBounds_toArray, List.set_cons_zero, List.set_cons_succ]
  refine cm_run 1 7 (v := ?_) rfl rfl (by kernel_rfl) (by kernel_rfl) (by kernel_rfl) (by kernel_rfl) (by kernel_rfl) (fun _ _ _ h => h) (by rfl) ?_ ?_
  rotate_left
  · (intro wS hS; (have x0 := cell_later hS.below p0; have x1 := cell_later hS.below p1; have x2 := cell_later hS.below p2); go_simp; (try with_reducible rfl))
  simp only [List.setIfInBounds_toArray, List.set_cons_zero, List.set_cons_succ]
  refine cm_call 2 8 71 (v := .int .i64 (j : Int)) (args := ?_) rfl rfl (by kernel_rfl) (by kernel_rfl) (by kernel_rfl) (by kernel_rfl) (by kernel_rfl) (fun _ _ _ h => h) (by rfl) ?_ ?_ ?_
  rotate_left 1
  · (intro wS hS; go_simp; (try with_reducible rfl))
  · (intro wS hS; refine (HPJ.out _ (HB.out.trans hS)).mono ?_; (rintro e w3 ⟨rfl, hb⟩; exact ⟨rfl, hS.trans hb⟩))
  simp only [List.setIfInBounds_toArray, List.set_cons_zero, List.set_cons_succ]
  refine cm_run 3 9 (v := ?_) rfl rfl (by kernel_rfl) (by kernel_rfl) (by kernel_rfl) (by kernel_rfl) (by kernel_rfl) (fun _ _ _ h => h) (by rfl) ?_ ?_
  rotate_left
  · (intro wS hS; have x0 := cell_later hS.below hdW; go_simp; (try with_reducible rfl))
  simp only [List.setIfInBounds_toArray, List.set_cons_zero, List.set_cons_succ]
  refine cm_run 4 10 (v := ?_) rfl rfl (by kernel_rfl) (by kernel_rfl) (by kernel_rfl) (by kernel_rfl) (by kernel_rfl) (fun _ _ _ h => h) (by rfl) ?_ ?_
  rotate_left
  · (intro wS hS; (have x0 := cell_later hS.below q0; have x1 := cell_later hS.below q1; have x2 := cell_later hS.below q2); go_simp; (try with_reducible rfl))
  simp only [List.setIfInBounds_toArray, List.set_cons_zero, List.set_cons_succ]
  refine cm_call 5 11 71 (v := .int .i64 (k : Int)) (args := ?_) rfl rfl (by kernel_rfl) (by kernel_rfl) (by kernel_rfl) (by kernel_rfl) (by kernel_rfl) (fun _ _ _ h => h) (by rfl) ?_ ?_ ?_
  rotate_left 1
  · (intro wS hS; go_simp; (try with_reducible rfl))
  · (intro wS hS; refine (HPK.out _ (HB.out.trans hS)).mono ?_; (rintro e w3 ⟨rfl, hb⟩; exact ⟨rfl, hS.trans hb⟩))
  simp only [List.setIfInBounds_toArray, List.set_cons_zero, List.set_cons_succ]
  refine cm_call 6 12 77 (v := .int .i64 (cmpI j k)) (args := ?_) rfl rfl (by kernel_rfl) (by kernel_rfl) (by kernel_rfl) (by kernel_rfl) (by kernel_rfl) (fun _ _ _ h => h) (by rfl) ?_ ?_ ?_
  rotate_left 1
  · (intro wS hS; go_simp; (try with_reducible rfl))
  · (intro wS hS; refine (cmp_any _ _ _).mono ?_; (rintro e w3 ⟨rfl, rfl⟩; exact ⟨rfl, hS⟩))
  simp only [List.setIfInBounds_toArray, List.set_cons_zero, List.set_cons_succ]
  refine cm_run 7 5 (v := ?_) rfl rfl (by kernel_rfl) (by kernel_rfl) (by kernel_rfl) (by kernel_rfl) (by kernel_rfl) (fun _ _ _ h => h) (by rfl) ?_ ?_
  rotate_left
  · (intro wS hS; skip; go_simp; (try with_reducible rfl))
  simp only [List.setIfInBounds_toArray, List.set_cons_zero, List.set_cons_succ]
  refine cm_done (by kernel_rfl) ?_
  intro wS hS
  refine NoPanic.normal ?_
  have HB2 := Lib.hid (HB.out.trans hS)
  clear hS p0 p1 p2 q0 q1 q2 hdW
  go_wp2_with fail
  go_ret
  exact ⟨rfl, HB2.out⟩
end Go.Proofs.YtcjlbpndgjapiaaDoor
