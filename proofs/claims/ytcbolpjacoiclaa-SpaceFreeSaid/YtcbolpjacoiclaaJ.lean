
/- SpaceSwaps: steps for different nodes may be exchanged: the walk of the law. -/
import Derived.Test.YtcbolpjacoiclaaI
namespace Go.Proofs.Ytcbolpjacoiclaa
open Go.RowKit

def up (k : Nat) (d : Int) (xs : List Int) : List Int := xs.set k (xs.getD k 0 + d)
theorem up_zero {k : Nat} {xs : List Int} (h : k < xs.length) : up k 0 xs = xs := by
  unfold up; simp [List.getElem?_eq_getElem h]
theorem up_len (k : Nat) (d : Int) (xs : List Int) : (up k d xs).length = xs.length := by simp [up]
theorem up_comm {k1 k2 : Nat} (hne : k1 ≠ k2) (d1 d2 : Int) (xs : List Int) : up k1 d1 (up k2 d2 xs) = up k2 d2 (up k1 d1 xs) := by
  unfold up
  simp only [List.getD_eq_getElem?_getD]
  rw [List.getElem?_set_ne (Ne.symm hne), List.getElem?_set_ne hne, List.set_comm _ _ hne]
def dS (kind n : Int) : Int := if kind = 2 then n else if kind = 3 then n else if kind = 4 then -n else 0
def dX (kind n : Int) : Int := if kind = 0 then n else if kind = 1 then -n else if kind = 2 then -n else 0
theorem St.ok {q st : Int} {xs : List Int} {node n kind q' st' : Int} {ys : List Int} (hl : xs.length = 16) {k : Nat} (hk : k < 16) (hn : node = (k : Int) + 1) (h : St q st xs node n kind q' st' ys 0) :
    q' = q ∧ st' = st + dS kind n ∧ ys = up k (dX kind n) xs := by
  have key : ∀ k' : Nat, node = (k' : Int) + 1 → k' = k := fun k' h' => by omega
  cases h with
  | bad _ _ _ hc hne => exact absurd rfl hne
  | rfine hc k' hk' he hf => obtain rfl := key _ he; exact ⟨rfl, by simp [dS], rfl⟩
  | lfine hc k' hk' he hf => obtain rfl := key _ he; exact ⟨rfl, by simp [dS], by simp [dX, up, Int.sub_eq_add_neg]⟩
  | mfine hc k' hk' he hf => obtain rfl := key _ he; exact ⟨rfl, by simp [dS], by simp [dX, up, Int.sub_eq_add_neg]⟩
  | afine hc hf => exact ⟨rfl, by simp [dS], by simp [dX]; exact (up_zero (by omega)).symm⟩
  | dfine hc hf => exact ⟨rfl, by simp [dS, Int.sub_eq_add_neg], by simp [dX]; exact (up_zero (by omega)).symm⟩
theorem Good.take {q st : Int} {xs : List Int} (g : Good q st xs) {k : Nat} (hk : k < 16) {n : Int} (hn : 0 ≤ n) (hf : n ≤ xs.getD k 0) : Good q st (xs.set k (xs.getD k 0 - n)) ∧ Good q (st + n) (xs.set k (xs.getD k 0 - n)) := by
  have h1 := g.gle; have h2 := g.gst; have h3 := g.gn
  have hx := g.gxs.get k (by omega)
  have hs : (xs.set k (xs.getD k 0 - n)).sum = xs.sum - n := by rw [sum_set (by omega)]; omega
  have hN : Nn (xs.set k (xs.getD k 0 - n)) := g.gxs.set k (by omega)
  exact ⟨⟨g.gq, h2, by simp [h3], hN, by omega⟩, ⟨g.gq, by omega, by simp [h3], hN, by omega⟩⟩
theorem St.good {q st : Int} {xs : List Int} {node n kind q' st' : Int} {ys : List Int} (i : Inp q st xs) (hn : 0 ≤ n) (h : St q st xs node n kind q' st' ys 0) : Good q' st' ys := by
  cases h with
  | bad _ _ _ hc hne => exact absurd rfl hne
  | rfine hc k hk he hf => exact (Good.of i hc).reserve hk hn hf
  | lfine hc k hk he hf => exact ((Good.of i hc).take hk hn hf).1
  | mfine hc k hk he hf => exact ((Good.of i hc).take hk hn hf).2
  | afine hc hf => exact (Good.of i hc).add hn hf
  | dfine hc hf =>
    have g := Good.of i hc
    have h1 := g.gle; have h2 := g.gst
    exact ⟨g.gq, by omega, g.gn, g.gxs, by omega⟩
theorem St.swap {q st : Int} {xs : List Int} (hl : xs.length = 16) {k1 k2 : Nat} (h1 : k1 < 16) (h2 : k2 < 16) (hne : k1 ≠ k2) {n m ka kb : Int}
    {q1 s1 : Int} {x1 : List Int} (a1 : St q st xs ((k1 : Int) + 1) n ka q1 s1 x1 0) {q2 s2 : Int} {x2 : List Int} (b1 : St q st xs ((k2 : Int) + 1) m kb q2 s2 x2 0)
    {q3 s3 : Int} {x3 : List Int} (a2 : St q1 s1 x1 ((k2 : Int) + 1) m kb q3 s3 x3 0) {q4 s4 : Int} {x4 : List Int} (b2 : St q2 s2 x2 ((k1 : Int) + 1) n ka q4 s4 x4 0) : q3 = q4 ∧ s3 = s4 ∧ x3 = x4 := by
  obtain ⟨rfl, rfl, rfl⟩ := a1.ok hl h1 rfl
  obtain ⟨rfl, rfl, rfl⟩ := b1.ok hl h2 rfl
  obtain ⟨rfl, rfl, rfl⟩ := a2.ok (by rw [up_len]; exact hl) h2 rfl
  obtain ⟨rfl, rfl, rfl⟩ := b2.ok (by rw [up_len]; exact hl) h1 rfl
  exact ⟨rfl, by omega, up_comm (Ne.symm hne) _ _ _⟩

abbrev FZ (w : World) (b : Nat) : Prop := w.frozen? ⟨b, 0, none⟩ = false ∧ w.frozen? ⟨b, 1, none⟩ = false ∧ w.frozen? ⟨b, 2, none⟩ = false

set_option maxHeartbeats 4000000 in
theorem lawSwaps (v : Value) (l : List Int) (hl : Ib l) (x y : Int) (hx : -9223372036854775808 ≤ x ∧ x ≤ 9223372036854775807) (hy : -9223372036854775808 ≤ y ∧ y ≤ 9223372036854775807) (w : World) (h : RdI .i64 w v l) :
    Calls Try.prog 6 #[v, .int .i64 x, .int .i64 y] w fun e w' => e = .returned (.bool true) ∧ Below w.heap.size w w' := by
  obtain ⟨s0, HS⟩ : ∃ s, Hid (l.getD 0 0 % 300 = s) := ⟨_, rfl⟩
  have hs : 0 ≤ s0 ∧ s0 < 300 := by rw [← HS.out]; omega
  obtain ⟨a, HA⟩ : ∃ a, Hid (x % 1048576 = a) := ⟨_, rfl⟩
  have ha : 0 ≤ a ∧ a < 1048576 := by rw [← HA.out]; omega
  obtain ⟨b, HB⟩ : ∃ a, Hid (y % 1048576 = a) := ⟨_, rfl⟩
  have hb : 0 ≤ b ∧ b < 1048576 := by rw [← HB.out]; omega
  have g : Good 1000 s0 (mk l) := mk_good l s0 hs
  obtain ⟨xs, HX⟩ : ∃ xs, Hid (mk l = xs) := ⟨_, rfl⟩
  rw [HX.out] at g
  obtain ⟨k1, hk1, HK1⟩ : ∃ k : Nat, k < 8 ∧ Hid (1 + a / 5 % 8 = (k : Int) + 1) := ⟨(a / 5 % 8).toNat, by omega, by unfold Hid; omega⟩
  obtain ⟨k2, hk2, hk2', HK2⟩ : ∃ k : Nat, 8 ≤ k ∧ k < 16 ∧ Hid (9 + b / 5 % 8 = (k : Int) + 1) := ⟨(8 + b / 5 % 8).toNat, by omega, by omega, by unfold Hid; omega⟩
  have hn : 0 ≤ a / 40 % 400 := by omega
  have hm : 0 ≤ b / 40 % 400 := by omega
  have hka : 0 ≤ a % 5 ∧ a % 5 ≤ 4 := by omega
  have hkb : 0 ≤ b % 5 ∧ b % 5 ≤ 4 := by omega
  obtain ⟨qA, tA, xA, eA, sA⟩ := St.ex 1000 s0 xs (1 + a / 5 % 8) (a / 40 % 400) (a % 5) hka
  obtain ⟨qB, tB, xB, eB, sB⟩ := St.ex 1000 s0 xs (9 + b / 5 % 8) (b / 40 % 400) (b % 5) hkb
  have HSA := Lib.hid sA
  have HSB := Lib.hid sB
  clear sA sB
  have HR := Lib.hid h
  have HL := Lib.hid hl
  have HG := Lib.hid g
  clear h hl g
  by_cases heA : eA = 0
  · subst heA
    by_cases heB : eB = 0
    · subst heB
      have gA := HSA.out.good HG.out.inp hn
      have gB := HSB.out.good HG.out.inp hm
      obtain ⟨qC, tC, xC, eC, sC⟩ := St.ex qA tA xA (9 + b / 5 % 8) (b / 40 % 400) (b % 5) hkb
      obtain ⟨qD, tD, xD, eD, sD⟩ := St.ex qB tB xB (1 + a / 5 % 8) (a / 40 % 400) (a % 5) hka
      have HSW : Hid (eC = 0 → eD = 0 → qC = qD ∧ tC = tD ∧ xC = xD) := by
        intro h1 h2; subst h1; subst h2
        have p1 := HSA.out; have p2 := HSB.out
        rw [HK1.out] at p1 sD; rw [HK2.out] at p2 sC
        exact St.swap HG.out.gn (by omega) hk2' (by omega) p1 p2 sC sD
      have HGA := Lib.hid gA; have HGB := Lib.hid gB; have HSC := Lib.hid sC; have HSD := Lib.hid sD
      clear gA gB sC sD
      go_enter Try.func6, Try.ntmps6
      go_wp2_with fail
      refine (made_any v l HL.out _ (HR.out.keep (by repeat (first | assumption | exact Below.refl _ _ | apply Below.al | apply below_drewN | apply Below.drew | refine Below.next ?_ (by assumption) | refine Below.st ?_ (by first | exact Nat.le_refl _ | (simp; done) | (simp; omega)) _)))).mono ?_
      rw [HS.out, HX.out]
      rintro e w1 ⟨v1, rfl, hr, hF, b1⟩
      obtain ⟨a1, c1, rfl⟩ := hr.form
      have R1 := Lib.hid hr
      clear hr hF
      go_wp2_with fail
      refine (mod_any x 1048576 (by decide) (by decide) hx _).mono ?_
      rw [HA.out]
      rintro e w2 ⟨rfl, rfl⟩
      go_wp2_with fail
      refine (mod_any y 1048576 (by decide) (by decide) hy _).mono ?_
      rw [HB.out]
      rintro e w2 ⟨rfl, rfl⟩
      go_wp2_with fail
      refine (step_any 1000 s0 _ xs HG.out.inp _ _ hn _ hka _ _ _ _ HSA.out _ (R1.out.keep (by repeat (first | assumption | exact Below.refl _ _ | apply Below.al | apply below_drewN | apply Below.drew | refine Below.next ?_ (by assumption) | refine Below.st ?_ (by first | exact Nat.le_refl _ | (simp; done) | (simp; omega)) _)))).mono ?_
      rintro e w2 ⟨v2, rfl, hr, hF, b2⟩
      obtain ⟨a2, c2, rfl⟩ := hr.form
      have R2 := Lib.hid hr
      clear hr hF
      have hA : BS w2 w1.heap.size 1000 s0 (.slice a1 xs.length c1) := BS.keep b2 (by simp [BS, go_sem])
      have lAw2 : w1.heap.size < w2.heap.size := cell_lt hA.1
      go_wp2_with fail
      refine (step_any 1000 s0 _ xs HG.out.inp _ _ hm _ hkb _ _ _ _ HSB.out _ (R1.out.keep (by repeat (first | assumption | exact Below.refl _ _ | apply Below.al | apply below_drewN | apply Below.drew | refine Below.next ?_ (by assumption) | refine Below.st ?_ (by first | exact Nat.le_refl _ | (simp; done) | (simp; omega)) _)))).mono ?_
      rintro e w3 ⟨v3, rfl, hr, hF3, b3⟩
      obtain ⟨a3, c3, rfl⟩ := hr.form
      have R3 := Lib.hid hr
      clear hr
      have hA : BS w3 w1.heap.size 1000 s0 (.slice a1 xs.length c1) := by first | with_reducible exact BS.keep b3 hA | with_reducible exact BS.keep b3 (BS.al _ hA)
      have lAw3 : w1.heap.size < w3.heap.size := cell_lt hA.1
      have hB : BS w3 w2.heap.size qA tA (.slice a2 xA.length c2) := BS.keep b3 (by simp [BS, go_sem])
      have lBw3 : w2.heap.size < w3.heap.size := cell_lt hB.1
      go_wp2_with fail
      refine (step_any qA tA _ xA HGA.out.inp _ _ hm _ hkb _ _ _ _ HSC.out _ (R2.out.keep (by repeat (first | assumption | exact Below.refl _ _ | apply Below.al | apply below_drewN | apply Below.drew | refine Below.next ?_ (by assumption) | refine Below.st ?_ (by first | exact Nat.le_refl _ | (simp; done) | (simp; omega)) _)))).mono ?_
      rintro e w4 ⟨v4, rfl, hr, hF4, b4⟩
      obtain ⟨a4, c4, rfl⟩ := hr.form
      have R4 := Lib.hid hr
      clear hr
      have hA : BS w4 w2.heap.size qA tA (.slice a2 xA.length c2) := by first | with_reducible exact BS.keep b4 hB | with_reducible exact BS.keep b4 (BS.al _ hB)
      have hB : BS w4 w3.heap.size qB tB (.slice a3 xB.length c3) := BS.keep b4 (by simp [BS, go_sem])
      have z1 : w2.heap.size < w3.heap.size := lBw3
      have z2 : w3.heap.size < w4.heap.size := cell_lt hB.1
      have z3 : w2.heap.size < w4.heap.size := cell_lt hA.1
      have n1 : w2.heap.size ≠ w3.heap.size := by omega
      have n2 : w3.heap.size ≠ w2.heap.size := by omega
      have fA : FZ w4 w2.heap.size := ⟨fz_later (w := w2.alloc (.cells #[.int .u64 qA, .int .u64 tA, .slice a2 xA.length c2] 25)) (by repeat (first | assumption | exact Below.refl _ _ | apply Below.al | apply below_drewN | apply Below.drew | refine Below.next ?_ (by assumption) | refine Below.st ?_ (by first | exact Nat.le_refl _ | (simp; done) | (simp; omega)) _)) (by simp) (by simp [go_sem]), fz_later (w := w2.alloc (.cells #[.int .u64 qA, .int .u64 tA, .slice a2 xA.length c2] 25)) (by repeat (first | assumption | exact Below.refl _ _ | apply Below.al | apply below_drewN | apply Below.drew | refine Below.next ?_ (by assumption) | refine Below.st ?_ (by first | exact Nat.le_refl _ | (simp; done) | (simp; omega)) _)) (by simp) (by simp [go_sem]), fz_later (w := w2.alloc (.cells #[.int .u64 qA, .int .u64 tA, .slice a2 xA.length c2] 25)) (by repeat (first | assumption | exact Below.refl _ _ | apply Below.al | apply below_drewN | apply Below.drew | refine Below.next ?_ (by assumption) | refine Below.st ?_ (by first | exact Nat.le_refl _ | (simp; done) | (simp; omega)) _)) (by simp) (by simp [go_sem])⟩
      have fB : FZ w4 w3.heap.size := ⟨fz_later (w := w3.alloc (.cells #[.int .u64 qB, .int .u64 tB, .slice a3 xB.length c3] 25)) (by repeat (first | assumption | exact Below.refl _ _ | apply Below.al | apply below_drewN | apply Below.drew | refine Below.next ?_ (by assumption) | refine Below.st ?_ (by first | exact Nat.le_refl _ | (simp; done) | (simp; omega)) _)) (by simp) (by simp [go_sem]), fz_later (w := w3.alloc (.cells #[.int .u64 qB, .int .u64 tB, .slice a3 xB.length c3] 25)) (by repeat (first | assumption | exact Below.refl _ _ | apply Below.al | apply below_drewN | apply Below.drew | refine Below.next ?_ (by assumption) | refine Below.st ?_ (by first | exact Nat.le_refl _ | (simp; done) | (simp; omega)) _)) (by simp) (by simp [go_sem]), fz_later (w := w3.alloc (.cells #[.int .u64 qB, .int .u64 tB, .slice a3 xB.length c3] 25)) (by repeat (first | assumption | exact Below.refl _ _ | apply Below.al | apply below_drewN | apply Below.drew | refine Below.next ?_ (by assumption) | refine Below.st ?_ (by first | exact Nat.le_refl _ | (simp; done) | (simp; omega)) _)) (by simp) (by simp [go_sem])⟩
      have HR3 : Hid (RdI .u64 w4 (.slice a3 xB.length c3) xB) := Lib.hid (R3.out.keep (by repeat (first | assumption | exact Below.refl _ _ | apply Below.al | apply below_drewN | apply Below.drew | refine Below.next ?_ (by assumption) | refine Below.st ?_ (by first | exact Nat.le_refl _ | (simp; done) | (simp; omega)) _)))
      have hB4 : Below w.heap.size w w4 := (by repeat (first | assumption | exact Below.refl _ _ | apply Below.al | apply below_drewN | apply Below.drew | refine Below.next ?_ (by assumption) | refine Below.st ?_ (by first | exact Nat.le_refl _ | (simp; done) | (simp; omega)) _))
      have z0 : w.heap.size ≤ w2.heap.size := (show Below w.heap.size w w2 from (by repeat (first | assumption | exact Below.refl _ _ | apply Below.al | apply below_drewN | apply Below.drew | refine Below.next ?_ (by assumption) | refine Below.st ?_ (by first | exact Nat.le_refl _ | (simp; done) | (simp; omega)) _))).size
      go_wp2_with fail
      obtain ⟨W4, hW4⟩ : ∃ W4 : World, W4 = ((w4.setCell ⟨w2.heap.size, 0, none⟩ (.int .u64 qC)).setCell ⟨w2.heap.size, 1, none⟩ (.int .u64 tC)).setCell ⟨w2.heap.size, 2, none⟩ (.slice a4 xC.length c4) := ⟨_, rfl⟩
      rw [← hW4]
      have gA4 : BS W4 w2.heap.size qC tC (.slice a4 xC.length c4) := by rw [hW4]; simp [BS, go_sem, hA]
      have gB4 : BS W4 w3.heap.size qB tB (.slice a3 xB.length c3) := by rw [hW4]; exact ⟨cell_set3 _ _ _ n2 n2 n2 hB.1, cell_set3 _ _ _ n2 n2 n2 hB.2.1, cell_set3 _ _ _ n2 n2 n2 hB.2.2⟩
      have gF4 : FZ W4 w3.heap.size := by rw [hW4]; exact ⟨fz_set _ (fz_set _ (fz_set _ fB.1)), fz_set _ (fz_set _ (fz_set _ fB.2.1)), fz_set _ (fz_set _ (fz_set _ fB.2.2))⟩
      have p3 : (⟨w2.heap.size, 0, none⟩ : Addr).block < (w2.alloc (.cells #[.int .u64 qA, .int .u64 tA, .slice a2 xA.length c2] 25)).heap.size := by simp
      have HR3b : Hid (RdI .u64 W4 (.slice a3 xB.length c3) xB) := by rw [hW4]; exact RdI.set _ (RdI.set _ (RdI.set _ HR3.out hF3 p3) hF3 p3) hF3 p3
      have p4 : (⟨w2.heap.size, 0, none⟩ : Addr).block < (w3.alloc (.cells #[.int .u64 qB, .int .u64 tB, .slice a3 xB.length c3] 25)).heap.size := by simp; omega
      have HR4b : Hid (RdI .u64 W4 (.slice a4 xC.length c4) xC) := by rw [hW4]; exact RdI.set _ (RdI.set _ (RdI.set _ R4.out hF4 p4) hF4 p4) hF4 p4
      have gW4 : Below w.heap.size w W4 := by rw [hW4]; exact Below.st (Below.st (Below.st hB4 z0 _) z0 _) z0 _
      have y2 : w3.heap.size < W4.heap.size := cell_lt gB4.1
      have y3 : w2.heap.size < W4.heap.size := cell_lt gA4.1
      clear hW4 hA hB fA fB R3 R4 hB4 HR3
      refine (step_any qB tB _ xB HGB.out.inp _ _ hn _ hka _ _ _ _ HSD.out _ HR3b.out).mono ?_
      rintro e w5 ⟨v5, rfl, hr, hF5, b5⟩
      obtain ⟨a5, c5, rfl⟩ := hr.form
      have R5 := Lib.hid hr
      clear hr
      have gA5 := BS.keep b5 gA4
      have gB5 := BS.keep b5 gB4
      have gF5 : FZ w5 w3.heap.size := ⟨fz_later b5 y2 gF4.1, fz_later b5 y2 gF4.2.1, fz_later b5 y2 gF4.2.2⟩
      have x2 : w3.heap.size < w5.heap.size := cell_lt gB5.1
      have x3 : w2.heap.size < w5.heap.size := cell_lt gA5.1
      have hB5 : Below w.heap.size w w5 := (by repeat (first | assumption | exact Below.refl _ _ | apply Below.al | apply below_drewN | apply Below.drew | refine Below.next ?_ (by assumption) | refine Below.st ?_ (by first | exact Nat.le_refl _ | (simp; done) | (simp; omega)) _))
      have HR4c : Hid (RdI .u64 w5 (.slice a4 xC.length c4) xC) := Lib.hid (HR4b.out.keep b5)
      have z4 : w.heap.size ≤ w3.heap.size := by omega
      have p5 : (⟨w3.heap.size, 0, none⟩ : Addr).block < W4.heap.size := y2
      have p6 : (⟨w3.heap.size, 0, none⟩ : Addr).block < (w3.alloc (.cells #[.int .u64 qB, .int .u64 tB, .slice a3 xB.length c3] 25)).heap.size := by simp
      clear gA4 gB4 gF4
      by_cases heC : eC = 0
      · by_cases heD : eD = 0
        · obtain ⟨e1, e2, e3⟩ := HSW.out heC heD
          subst heC heD e1 e2 e3
          go_wp2_with fail
          refine (same_yes qC tC _ _ xC _ (RdI.set _ (RdI.set _ (RdI.set _ HR4c.out hF4 p6) hF4 p6) hF4 p6) (RdI.set _ (RdI.set _ (RdI.set _ R5.out hF5 p5) hF5 p5) hF5 p5)).mono ?_
          rintro e w8 ⟨rfl, b8⟩
          go_wp2_with fail
          refine (awake_any _).mono ?_
          rintro e w9 ⟨rfl, b9⟩
          go_wp2_with fail
          go_ret
          exact ⟨rfl, (by repeat (first | assumption | exact Below.refl _ _ | apply Below.al | apply below_drewN | apply Below.drew | refine Below.next ?_ (by assumption) | refine Below.st ?_ (by first | exact Nat.le_refl _ | (simp; done) | (simp; omega)) _))⟩
        · have hneD : (eD != 0) = true := by simpa using heD
          subst heC
          go_wp2_with fail
          refine (awake_any _).mono ?_
          rintro e w9 ⟨rfl, b9⟩
          go_wp2_with fail
          go_ret
          exact ⟨rfl, (by repeat (first | assumption | exact Below.refl _ _ | apply Below.al | apply below_drewN | apply Below.drew | refine Below.next ?_ (by assumption) | refine Below.st ?_ (by first | exact Nat.le_refl _ | (simp; done) | (simp; omega)) _))⟩
      · have hneC : (eC != 0) = true := by simpa using heC
        go_wp2_with fail
        refine (awake_any _).mono ?_
        rintro e w9 ⟨rfl, b9⟩
        go_wp2_with fail
        go_ret
        exact ⟨rfl, (by repeat (first | assumption | exact Below.refl _ _ | apply Below.al | apply below_drewN | apply Below.drew | refine Below.next ?_ (by assumption) | refine Below.st ?_ (by first | exact Nat.le_refl _ | (simp; done) | (simp; omega)) _))⟩
    · have hneB : (eB != 0) = true := by simpa using heB
      go_enter Try.func6, Try.ntmps6
      go_wp2_with fail
      refine (made_any v l HL.out _ (HR.out.keep (by repeat (first | assumption | exact Below.refl _ _ | apply Below.al | apply below_drewN | apply Below.drew | refine Below.next ?_ (by assumption) | refine Below.st ?_ (by first | exact Nat.le_refl _ | (simp; done) | (simp; omega)) _)))).mono ?_
      rw [HS.out, HX.out]
      rintro e w1 ⟨v1, rfl, hr, hF, b1⟩
      obtain ⟨a1, c1, rfl⟩ := hr.form
      have R1 := Lib.hid hr
      clear hr hF
      go_wp2_with fail
      refine (mod_any x 1048576 (by decide) (by decide) hx _).mono ?_
      rw [HA.out]
      rintro e w2 ⟨rfl, rfl⟩
      go_wp2_with fail
      refine (mod_any y 1048576 (by decide) (by decide) hy _).mono ?_
      rw [HB.out]
      rintro e w2 ⟨rfl, rfl⟩
      go_wp2_with fail
      refine (step_any 1000 s0 _ xs HG.out.inp _ _ hn _ hka _ _ _ _ HSA.out _ (R1.out.keep (by repeat (first | assumption | exact Below.refl _ _ | apply Below.al | apply below_drewN | apply Below.drew | refine Below.next ?_ (by assumption) | refine Below.st ?_ (by first | exact Nat.le_refl _ | (simp; done) | (simp; omega)) _)))).mono ?_
      rintro e w2 ⟨v2, rfl, hr, hF, b2⟩
      obtain ⟨a2, c2, rfl⟩ := hr.form
      have R2 := Lib.hid hr
      clear hr hF
      have hA : BS w2 w1.heap.size 1000 s0 (.slice a1 xs.length c1) := BS.keep b2 (by simp [BS, go_sem])
      have lAw2 : w1.heap.size < w2.heap.size := cell_lt hA.1
      go_wp2_with fail
      refine (step_any 1000 s0 _ xs HG.out.inp _ _ hm _ hkb _ _ _ _ HSB.out _ (R1.out.keep (by repeat (first | assumption | exact Below.refl _ _ | apply Below.al | apply below_drewN | apply Below.drew | refine Below.next ?_ (by assumption) | refine Below.st ?_ (by first | exact Nat.le_refl _ | (simp; done) | (simp; omega)) _)))).mono ?_
      rintro e w3 ⟨v3, rfl, hr, hF3, b3⟩
      obtain ⟨a3, c3, rfl⟩ := hr.form
      have R3 := Lib.hid hr
      clear hr
      have hA : BS w3 w1.heap.size 1000 s0 (.slice a1 xs.length c1) := by first | with_reducible exact BS.keep b3 hA | with_reducible exact BS.keep b3 (BS.al _ hA)
      have lAw3 : w1.heap.size < w3.heap.size := cell_lt hA.1
      have hB : BS w3 w2.heap.size qA tA (.slice a2 xA.length c2) := BS.keep b3 (by simp [BS, go_sem])
      have lBw3 : w2.heap.size < w3.heap.size := cell_lt hB.1
      go_wp2_with fail
      refine (awake_any _).mono ?_
      rintro e w9 ⟨rfl, b9⟩
      go_wp2_with fail
      go_ret
      exact ⟨rfl, (by repeat (first | assumption | exact Below.refl _ _ | apply Below.al | apply below_drewN | apply Below.drew | refine Below.next ?_ (by assumption) | refine Below.st ?_ (by first | exact Nat.le_refl _ | (simp; done) | (simp; omega)) _))⟩
  · have hneA : (eA != 0) = true := by simpa using heA
    go_enter Try.func6, Try.ntmps6
    go_wp2_with fail
    refine (made_any v l HL.out _ (HR.out.keep (by repeat (first | assumption | exact Below.refl _ _ | apply Below.al | apply below_drewN | apply Below.drew | refine Below.next ?_ (by assumption) | refine Below.st ?_ (by first | exact Nat.le_refl _ | (simp; done) | (simp; omega)) _)))).mono ?_
    rw [HS.out, HX.out]
    rintro e w1 ⟨v1, rfl, hr, hF, b1⟩
    obtain ⟨a1, c1, rfl⟩ := hr.form
    have R1 := Lib.hid hr
    clear hr hF
    go_wp2_with fail
    refine (mod_any x 1048576 (by decide) (by decide) hx _).mono ?_
    rw [HA.out]
    rintro e w2 ⟨rfl, rfl⟩
    go_wp2_with fail
    refine (mod_any y 1048576 (by decide) (by decide) hy _).mono ?_
    rw [HB.out]
    rintro e w2 ⟨rfl, rfl⟩
    go_wp2_with fail
    refine (step_any 1000 s0 _ xs HG.out.inp _ _ hn _ hka _ _ _ _ HSA.out _ (R1.out.keep (by repeat (first | assumption | exact Below.refl _ _ | apply Below.al | apply below_drewN | apply Below.drew | refine Below.next ?_ (by assumption) | refine Below.st ?_ (by first | exact Nat.le_refl _ | (simp; done) | (simp; omega)) _)))).mono ?_
    rintro e w2 ⟨v2, rfl, hr, hF, b2⟩
    obtain ⟨a2, c2, rfl⟩ := hr.form
    have R2 := Lib.hid hr
    clear hr hF
    have hA : BS w2 w1.heap.size 1000 s0 (.slice a1 xs.length c1) := BS.keep b2 (by simp [BS, go_sem])
    have lAw2 : w1.heap.size < w2.heap.size := cell_lt hA.1
    go_wp2_with fail
    refine (step_any 1000 s0 _ xs HG.out.inp _ _ hm _ hkb _ _ _ _ HSB.out _ (R1.out.keep (by repeat (first | assumption | exact Below.refl _ _ | apply Below.al | apply below_drewN | apply Below.drew | refine Below.next ?_ (by assumption) | refine Below.st ?_ (by first | exact Nat.le_refl _ | (simp; done) | (simp; omega)) _)))).mono ?_
    rintro e w3 ⟨v3, rfl, hr, hF3, b3⟩
    obtain ⟨a3, c3, rfl⟩ := hr.form
    have R3 := Lib.hid hr
    clear hr
    have hA : BS w3 w1.heap.size 1000 s0 (.slice a1 xs.length c1) := by first | with_reducible exact BS.keep b3 hA | with_reducible exact BS.keep b3 (BS.al _ hA)
    have lAw3 : w1.heap.size < w3.heap.size := cell_lt hA.1
    have hB : BS w3 w2.heap.size qA tA (.slice a2 xA.length c2) := BS.keep b3 (by simp [BS, go_sem])
    have lBw3 : w2.heap.size < w3.heap.size := cell_lt hB.1
    go_wp2_with fail
    refine (awake_any _).mono ?_
    rintro e w9 ⟨rfl, b9⟩
    go_wp2_with fail
    go_ret
    exact ⟨rfl, (by repeat (first | assumption | exact Below.refl _ _ | apply Below.al | apply below_drewN | apply Below.drew | refine Below.next ?_ (by assumption) | refine Below.st ?_ (by first | exact Nat.le_refl _ | (simp; done) | (simp; omega)) _))⟩

end Go.Proofs.Ytcbolpjacoiclaa
