






/- SpaceKnown: the chapter's examples. -/
import Derived.Test.YtcbolpjacoiclaaM
import Derived.Test.YtcbolpjacoiclaaO
import Derived.Test.YtcbolpjacoiclaaRows
namespace Go.Proofs.Ytcbolpjacoiclaa
open Go.RowKit
set_option linter.unusedSimpArgs false
set_option linter.unusedVariables false

def b2 : List Int := a1.set 1 (a1.getD 1 0 - 25)
def b3 : List Int := b2.set 1 (b2.getD 1 0 - 35)
theorem gA : Good 100 40 a1 := g1.add (n := 40) (by decide) (by decide)
theorem gM : Good 100 65 b2 := (gA.take (k := 1) (by decide) (n := 25) (by decide) (by decide)).2
theorem gD : Good 100 0 b2 := ⟨by decide, by decide, rfl, gM.gxs, by decide⟩
theorem gR : Good 100 0 b3 := (gD.take (k := 1) (by decide) (n := 35) (by decide) (by decide)).1
theorem kA : St 100 0 a1 0 40 3 100 40 a1 0 := .afine g1.chk (by decide)
theorem kM : St 100 40 a1 2 25 2 100 65 b2 0 := .mfine gA.chk 1 (by decide) rfl (by decide)
theorem kM2 : St 100 65 b2 2 36 2 0 0 [] 14 := .credit 2 (by decide) gM.chk 1 (by decide) rfl (by decide)
theorem kD : St 100 65 b2 0 65 4 100 0 b2 0 := .dfine gM.chk (by decide)
theorem kD2 : St 100 0 b2 0 1 4 0 0 [] 12 := .dstate gD.chk (by decide)
theorem kR : St 100 0 b2 2 35 1 100 0 b3 0 := .lfine gD.chk 1 (by decide) rfl (by decide)
theorem kV1 : St 100 0 b3 0 1 0 0 0 [] 2 := .node 0 gR.chk (by decide) (by decide)
theorem kV2 : St 100 0 b3 17 0 0 0 0 [] 2 := .node 0 gR.chk (by decide) (by decide)
theorem kmost : mostTo b3 16 = (0, 0) := by decide
theorem kheld : b2.sum = 35 := by decide

set_option maxRecDepth 100000 in
set_option maxHeartbeats 4000000 in
theorem lawKnown (w : World) : Calls Try.prog 8 #[] w fun e w' => e = .returned (.bool true) ∧ Below w.heap.size w w' := by
  go_enter Try.func8, Try.ntmps8
  go_wp2_with fail
  refine (chk_make 100 (by decide) _).mono ?_
  rintro e w1 ⟨v1, rfl, hr1, hF1, hb1⟩
  obtain ⟨a, c, hv⟩ := hr1.form
  rw [show z16.length = 16 from rfl] at hv
  subst hv
  have R1 := Lib.hid hr1
  clear hr1 hF1
  obtain ⟨B, hBd⟩ : ∃ B : Nat, B = w1.heap.size := ⟨_, rfl⟩
  obtain ⟨W, hW⟩ : ∃ W : World, W = w1.alloc (.cells #[.int .u64 100, .int .u64 0, .slice a 16 c] 25) := ⟨_, rfl⟩
  have hA : BS W B 100 0 (.slice a 16 c) := by rw [hW, hBd]; simp [BS, go_sem]
  have hZ : FZ W B := by rw [hW, hBd]; simp [FZ, go_sem]
  have R : Hid (RdI .u64 W (.slice a 16 c) z16) := by rw [hW]; exact R1.out.keep (by repeat (first | with_reducible assumption | with_reducible exact Below.refl _ _ | with_reducible apply Below.al | with_reducible apply Below.drew | with_reducible refine Below.next ?_ (by assumption) | with_reducible refine Below.st ?_ (by first | exact Nat.le_refl _ | (simp; done) | (simp; omega)) _))
  have hB : Below w.heap.size w W := by rw [hW]; exact (by repeat (first | with_reducible assumption | with_reducible exact Below.refl _ _ | with_reducible apply Below.al | with_reducible apply Below.drew | with_reducible refine Below.next ?_ (by assumption) | with_reducible refine Below.st ?_ (by first | exact Nat.le_refl _ | (simp; done) | (simp; omega)) _))
  have hS0 : w.heap.size ≤ B := by rw [hBd]; exact hb1.size
  go_upto_region 2 with fail
  rw [← hW, ← hBd]
  clear hW hBd R1 hb1
  go_wp2_with fail
  refine (reserve_any 100 0 _ z16 g0.inp 2 60 (by decide) _ _ _ _ s1 _ R.out).mono ?_
  rintro e wn ⟨v2, rfl, hr2, hF2, hb⟩
  obtain ⟨a2, c2, hv2⟩ := hr2.form
  rw [show a1.length = 16 from rfl] at hv2
  subst hv2
  have R2 := Lib.hid hr2
  have hlt := cell_lt hA.1
  have hZ : FZ wn B := ⟨fz_later hb hlt hZ.1, fz_later hb hlt hZ.2.1, fz_later hb hlt hZ.2.2⟩
  have hA : BS wn B 100 0 _ := BS.keep hb hA
  have hB : Below w.heap.size w wn := (by repeat (first | with_reducible assumption | with_reducible exact Below.refl _ _ | with_reducible apply Below.al | with_reducible apply Below.drew | with_reducible refine Below.next ?_ (by assumption) | with_reducible refine Below.st ?_ (by first | exact Nat.le_refl _ | (simp; done) | (simp; omega)) _))
  clear hr2
  obtain ⟨W2, hW2⟩ : ∃ W2 : World, W2 = ((wn.setCell ⟨B, 0, none⟩ (.int .u64 100)).setCell ⟨B, 1, none⟩ (.int .u64 0)).setCell ⟨B, 2, none⟩ (.slice a2 16 c2) := ⟨_, rfl⟩
  have hA : BS W2 B 100 0 (.slice a2 16 c2) := by rw [hW2]; simp [BS, go_sem, hA, hZ]
  have hZ : FZ W2 B := by rw [hW2]; exact ⟨fz_set _ (fz_set _ (fz_set _ hZ.1)), fz_set _ (fz_set _ (fz_set _ hZ.2.1)), fz_set _ (fz_set _ (fz_set _ hZ.2.2))⟩
  have R : Hid (RdI .u64 W2 (.slice a2 16 c2) a1) := by rw [hW2]; exact RdI.set _ (RdI.set _ (RdI.set _ R2.out hF2 hlt) hF2 hlt) hF2 hlt
  have hB : Below w.heap.size w W2 := by
    rw [hW2]; exact Below.st (Below.st (Below.st hB (by show w.heap.size ≤ B; omega) _) (by show w.heap.size ≤ B; omega) _) (by show w.heap.size ≤ B; omega) _
  go_upto_region 3 with fail
  rw [← hW2]
  clear hW2 R2 hb hF2 hlt
  go_wp2_with fail
  refine (add_any 100 0 _ a1 g1.inp 0 40 (by decide) _ _ _ _ kA _ R.out).mono ?_
  rintro e wn ⟨v2, rfl, hr2, hF2, hb⟩
  obtain ⟨a2, c2, hv2⟩ := hr2.form
  rw [show a1.length = 16 from rfl] at hv2
  subst hv2
  have R2 := Lib.hid hr2
  have hlt := cell_lt hA.1
  have hZ : FZ wn B := ⟨fz_later hb hlt hZ.1, fz_later hb hlt hZ.2.1, fz_later hb hlt hZ.2.2⟩
  have hA : BS wn B 100 0 _ := BS.keep hb hA
  have hB : Below w.heap.size w wn := (by repeat (first | with_reducible assumption | with_reducible exact Below.refl _ _ | with_reducible apply Below.al | with_reducible apply Below.drew | with_reducible refine Below.next ?_ (by assumption) | with_reducible refine Below.st ?_ (by first | exact Nat.le_refl _ | (simp; done) | (simp; omega)) _))
  clear hr2
  obtain ⟨W2, hW2⟩ : ∃ W2 : World, W2 = ((wn.setCell ⟨B, 0, none⟩ (.int .u64 100)).setCell ⟨B, 1, none⟩ (.int .u64 40)).setCell ⟨B, 2, none⟩ (.slice a2 16 c2) := ⟨_, rfl⟩
  have hA : BS W2 B 100 40 (.slice a2 16 c2) := by rw [hW2]; simp [BS, go_sem, hA, hZ]
  have hZ : FZ W2 B := by rw [hW2]; exact ⟨fz_set _ (fz_set _ (fz_set _ hZ.1)), fz_set _ (fz_set _ (fz_set _ hZ.2.1)), fz_set _ (fz_set _ (fz_set _ hZ.2.2))⟩
  have R : Hid (RdI .u64 W2 (.slice a2 16 c2) a1) := by rw [hW2]; exact RdI.set _ (RdI.set _ (RdI.set _ R2.out hF2 hlt) hF2 hlt) hF2 hlt
  have hB : Below w.heap.size w W2 := by
    rw [hW2]; exact Below.st (Below.st (Below.st hB (by show w.heap.size ≤ B; omega) _) (by show w.heap.size ≤ B; omega) _) (by show w.heap.size ≤ B; omega) _
  go_upto_region 4 with fail
  rw [← hW2]
  clear hW2 R2 hb hF2 hlt
  go_wp2_with fail
  refine (free_yes 100 40 _ a1 gA 0 (by decide) _ R.out).mono ?_
  rintro e wn ⟨rfl, hb⟩
  have hlt := cell_lt hA.1
  have hZ : FZ wn B := ⟨fz_later hb hlt hZ.1, fz_later hb hlt hZ.2.1, fz_later hb hlt hZ.2.2⟩
  have hA := BS.keep hb hA
  have R := Lib.hid (R.out.keep hb)
  have hB : Below w.heap.size w wn := (by repeat (first | with_reducible assumption | with_reducible exact Below.refl _ _ | with_reducible apply Below.al | with_reducible apply Below.drew | with_reducible refine Below.next ?_ (by assumption) | with_reducible refine Below.st ?_ (by first | exact Nat.le_refl _ | (simp; done) | (simp; omega)) _))
  clear hb hlt
  go_wp2_with fail
  refine (move_any 100 40 _ a1 gA.inp 2 25 (by decide) _ _ _ _ kM _ R.out).mono ?_
  rintro e wn ⟨v2, rfl, hr2, hF2, hb⟩
  obtain ⟨a2, c2, hv2⟩ := hr2.form
  rw [show b2.length = 16 from rfl] at hv2
  subst hv2
  have R2 := Lib.hid hr2
  have hlt := cell_lt hA.1
  have hZ : FZ wn B := ⟨fz_later hb hlt hZ.1, fz_later hb hlt hZ.2.1, fz_later hb hlt hZ.2.2⟩
  have hA : BS wn B 100 40 _ := BS.keep hb hA
  have hB : Below w.heap.size w wn := (by repeat (first | with_reducible assumption | with_reducible exact Below.refl _ _ | with_reducible apply Below.al | with_reducible apply Below.drew | with_reducible refine Below.next ?_ (by assumption) | with_reducible refine Below.st ?_ (by first | exact Nat.le_refl _ | (simp; done) | (simp; omega)) _))
  clear hr2
  obtain ⟨W2, hW2⟩ : ∃ W2 : World, W2 = ((wn.setCell ⟨B, 0, none⟩ (.int .u64 100)).setCell ⟨B, 1, none⟩ (.int .u64 65)).setCell ⟨B, 2, none⟩ (.slice a2 16 c2) := ⟨_, rfl⟩
  have hA : BS W2 B 100 65 (.slice a2 16 c2) := by rw [hW2]; simp [BS, go_sem, hA, hZ]
  have hZ : FZ W2 B := by rw [hW2]; exact ⟨fz_set _ (fz_set _ (fz_set _ hZ.1)), fz_set _ (fz_set _ (fz_set _ hZ.2.1)), fz_set _ (fz_set _ (fz_set _ hZ.2.2))⟩
  have R : Hid (RdI .u64 W2 (.slice a2 16 c2) b2) := by rw [hW2]; exact RdI.set _ (RdI.set _ (RdI.set _ R2.out hF2 hlt) hF2 hlt) hF2 hlt
  have hB : Below w.heap.size w W2 := by
    rw [hW2]; exact Below.st (Below.st (Below.st hB (by show w.heap.size ≤ B; omega) _) (by show w.heap.size ≤ B; omega) _) (by show w.heap.size ≤ B; omega) _
  go_upto_region 7 with fail
  rw [← hW2]
  clear hW2 R2 hb hF2 hlt
  go_wp2_with fail
  refine (heldS_ok 100 65 _ b2 gM _ R.out).mono ?_
  rintro e wn ⟨rfl, hb⟩
  have hlt := cell_lt hA.1
  have hZ : FZ wn B := ⟨fz_later hb hlt hZ.1, fz_later hb hlt hZ.2.1, fz_later hb hlt hZ.2.2⟩
  have hA := BS.keep hb hA
  have R := Lib.hid (R.out.keep hb)
  have hB : Below w.heap.size w wn := (by repeat (first | with_reducible assumption | with_reducible exact Below.refl _ _ | with_reducible apply Below.al | with_reducible apply Below.drew | with_reducible refine Below.next ?_ (by assumption) | with_reducible refine Below.st ?_ (by first | exact Nat.le_refl _ | (simp; done) | (simp; omega)) _))
  clear hb hlt
  rw [kheld]
  go_wp2_with fail
  refine (move_any 100 65 _ b2 gM.inp 2 36 (by decide) _ _ _ _ kM2 _ R.out).mono ?_
  rintro e wn ⟨v3, rfl, hr3, hF3, hb⟩
  have hlt := cell_lt hA.1
  have hZ : FZ wn B := ⟨fz_later hb hlt hZ.1, fz_later hb hlt hZ.2.1, fz_later hb hlt hZ.2.2⟩
  have hA := BS.keep hb hA
  have R := Lib.hid (R.out.keep hb)
  have hB : Below w.heap.size w wn := (by repeat (first | with_reducible assumption | with_reducible exact Below.refl _ _ | with_reducible apply Below.al | with_reducible apply Below.drew | with_reducible refine Below.next ?_ (by assumption) | with_reducible refine Below.st ?_ (by first | exact Nat.le_refl _ | (simp; done) | (simp; omega)) _))
  clear hb hlt
  obtain ⟨a3, c3, hv3⟩ := hr3.form; subst hv3; clear hr3 hF3
  go_wp2_with fail
  refine (free_yes 100 65 _ b2 gM 0 (by decide) _ R.out).mono ?_
  rintro e wn ⟨rfl, hb⟩
  have hlt := cell_lt hA.1
  have hZ : FZ wn B := ⟨fz_later hb hlt hZ.1, fz_later hb hlt hZ.2.1, fz_later hb hlt hZ.2.2⟩
  have hA := BS.keep hb hA
  have R := Lib.hid (R.out.keep hb)
  have hB : Below w.heap.size w wn := (by repeat (first | with_reducible assumption | with_reducible exact Below.refl _ _ | with_reducible apply Below.al | with_reducible apply Below.drew | with_reducible refine Below.next ?_ (by assumption) | with_reducible refine Below.st ?_ (by first | exact Nat.le_refl _ | (simp; done) | (simp; omega)) _))
  clear hb hlt
  go_wp2_with fail
  refine (drop_any 100 65 _ b2 gM.inp 0 65 (by decide) _ _ _ _ kD _ R.out).mono ?_
  rintro e wn ⟨v2, rfl, hr2, hF2, hb⟩
  obtain ⟨a2, c2, hv2⟩ := hr2.form
  rw [show b2.length = 16 from rfl] at hv2
  subst hv2
  have R2 := Lib.hid hr2
  have hlt := cell_lt hA.1
  have hZ : FZ wn B := ⟨fz_later hb hlt hZ.1, fz_later hb hlt hZ.2.1, fz_later hb hlt hZ.2.2⟩
  have hA : BS wn B 100 65 _ := BS.keep hb hA
  have hB : Below w.heap.size w wn := (by repeat (first | with_reducible assumption | with_reducible exact Below.refl _ _ | with_reducible apply Below.al | with_reducible apply Below.drew | with_reducible refine Below.next ?_ (by assumption) | with_reducible refine Below.st ?_ (by first | exact Nat.le_refl _ | (simp; done) | (simp; omega)) _))
  clear hr2
  obtain ⟨W2, hW2⟩ : ∃ W2 : World, W2 = ((wn.setCell ⟨B, 0, none⟩ (.int .u64 100)).setCell ⟨B, 1, none⟩ (.int .u64 0)).setCell ⟨B, 2, none⟩ (.slice a2 16 c2) := ⟨_, rfl⟩
  have hA : BS W2 B 100 0 (.slice a2 16 c2) := by rw [hW2]; simp [BS, go_sem, hA, hZ]
  have hZ : FZ W2 B := by rw [hW2]; exact ⟨fz_set _ (fz_set _ (fz_set _ hZ.1)), fz_set _ (fz_set _ (fz_set _ hZ.2.1)), fz_set _ (fz_set _ (fz_set _ hZ.2.2))⟩
  have R : Hid (RdI .u64 W2 (.slice a2 16 c2) b2) := by rw [hW2]; exact RdI.set _ (RdI.set _ (RdI.set _ R2.out hF2 hlt) hF2 hlt) hF2 hlt
  have hB : Below w.heap.size w W2 := by
    rw [hW2]; exact Below.st (Below.st (Below.st hB (by show w.heap.size ≤ B; omega) _) (by show w.heap.size ≤ B; omega) _) (by show w.heap.size ≤ B; omega) _
  go_upto_region 12 with fail
  rw [← hW2]
  clear hW2 R2 hb hF2 hlt
  go_wp2_with fail
  refine (drop_any 100 0 _ b2 gD.inp 0 1 (by decide) _ _ _ _ kD2 _ R.out).mono ?_
  rintro e wn ⟨v4, rfl, hr4, hF4, hb⟩
  have hlt := cell_lt hA.1
  have hZ : FZ wn B := ⟨fz_later hb hlt hZ.1, fz_later hb hlt hZ.2.1, fz_later hb hlt hZ.2.2⟩
  have hA := BS.keep hb hA
  have R := Lib.hid (R.out.keep hb)
  have hB : Below w.heap.size w wn := (by repeat (first | with_reducible assumption | with_reducible exact Below.refl _ _ | with_reducible apply Below.al | with_reducible apply Below.drew | with_reducible refine Below.next ?_ (by assumption) | with_reducible refine Below.st ?_ (by first | exact Nat.le_refl _ | (simp; done) | (simp; omega)) _))
  clear hb hlt
  obtain ⟨a4, c4, hv4⟩ := hr4.form; subst hv4; clear hr4 hF4
  go_wp2_with fail
  refine (release_any 100 0 _ b2 gD.inp 2 35 (by decide) _ _ _ _ kR _ R.out).mono ?_
  rintro e wn ⟨v2, rfl, hr2, hF2, hb⟩
  obtain ⟨a2, c2, hv2⟩ := hr2.form
  rw [show b3.length = 16 from rfl] at hv2
  subst hv2
  have R2 := Lib.hid hr2
  have hlt := cell_lt hA.1
  have hZ : FZ wn B := ⟨fz_later hb hlt hZ.1, fz_later hb hlt hZ.2.1, fz_later hb hlt hZ.2.2⟩
  have hA : BS wn B 100 0 _ := BS.keep hb hA
  have hB : Below w.heap.size w wn := (by repeat (first | with_reducible assumption | with_reducible exact Below.refl _ _ | with_reducible apply Below.al | with_reducible apply Below.drew | with_reducible refine Below.next ?_ (by assumption) | with_reducible refine Below.st ?_ (by first | exact Nat.le_refl _ | (simp; done) | (simp; omega)) _))
  clear hr2
  obtain ⟨W2, hW2⟩ : ∃ W2 : World, W2 = ((wn.setCell ⟨B, 0, none⟩ (.int .u64 100)).setCell ⟨B, 1, none⟩ (.int .u64 0)).setCell ⟨B, 2, none⟩ (.slice a2 16 c2) := ⟨_, rfl⟩
  have hA : BS W2 B 100 0 (.slice a2 16 c2) := by rw [hW2]; simp [BS, go_sem, hA, hZ]
  have hZ : FZ W2 B := by rw [hW2]; exact ⟨fz_set _ (fz_set _ (fz_set _ hZ.1)), fz_set _ (fz_set _ (fz_set _ hZ.2.1)), fz_set _ (fz_set _ (fz_set _ hZ.2.2))⟩
  have R : Hid (RdI .u64 W2 (.slice a2 16 c2) b3) := by rw [hW2]; exact RdI.set _ (RdI.set _ (RdI.set _ R2.out hF2 hlt) hF2 hlt) hF2 hlt
  have hB : Below w.heap.size w W2 := by
    rw [hW2]; exact Below.st (Below.st (Below.st hB (by show w.heap.size ≤ B; omega) _) (by show w.heap.size ≤ B; omega) _) (by show w.heap.size ≤ B; omega) _
  go_upto_region 14 with fail
  rw [← hW2]
  clear hW2 R2 hb hF2 hlt
  go_wp2_with fail
  refine (free_yes 100 0 _ b3 gR 100 (by decide) _ R.out).mono ?_
  rintro e wn ⟨rfl, hb⟩
  have hlt := cell_lt hA.1
  have hZ : FZ wn B := ⟨fz_later hb hlt hZ.1, fz_later hb hlt hZ.2.1, fz_later hb hlt hZ.2.2⟩
  have hA := BS.keep hb hA
  have R := Lib.hid (R.out.keep hb)
  have hB : Below w.heap.size w wn := (by repeat (first | with_reducible assumption | with_reducible exact Below.refl _ _ | with_reducible apply Below.al | with_reducible apply Below.drew | with_reducible refine Below.next ?_ (by assumption) | with_reducible refine Below.st ?_ (by first | exact Nat.le_refl _ | (simp; done) | (simp; omega)) _))
  clear hb hlt
  go_wp2_with fail
  refine (reserve_any 100 0 _ b3 gR.inp 0 1 (by decide) _ _ _ _ kV1 _ R.out).mono ?_
  rintro e wn ⟨v5, rfl, hr5, hF5, hb⟩
  have hlt := cell_lt hA.1
  have hZ : FZ wn B := ⟨fz_later hb hlt hZ.1, fz_later hb hlt hZ.2.1, fz_later hb hlt hZ.2.2⟩
  have hA := BS.keep hb hA
  have R := Lib.hid (R.out.keep hb)
  have hB : Below w.heap.size w wn := (by repeat (first | with_reducible assumption | with_reducible exact Below.refl _ _ | with_reducible apply Below.al | with_reducible apply Below.drew | with_reducible refine Below.next ?_ (by assumption) | with_reducible refine Below.st ?_ (by first | exact Nat.le_refl _ | (simp; done) | (simp; omega)) _))
  clear hb hlt
  obtain ⟨a5, c5, hv5⟩ := hr5.form; subst hv5; clear hr5 hF5
  go_wp2_with fail
  refine (reserve_any 100 0 _ b3 gR.inp 17 0 (by decide) _ _ _ _ kV2 _ R.out).mono ?_
  rintro e wn ⟨v6, rfl, hr6, hF6, hb⟩
  have hlt := cell_lt hA.1
  have hZ : FZ wn B := ⟨fz_later hb hlt hZ.1, fz_later hb hlt hZ.2.1, fz_later hb hlt hZ.2.2⟩
  have hA := BS.keep hb hA
  have R := Lib.hid (R.out.keep hb)
  have hB : Below w.heap.size w wn := (by repeat (first | with_reducible assumption | with_reducible exact Below.refl _ _ | with_reducible apply Below.al | with_reducible apply Below.drew | with_reducible refine Below.next ?_ (by assumption) | with_reducible refine Below.st ?_ (by first | exact Nat.le_refl _ | (simp; done) | (simp; omega)) _))
  clear hb hlt
  obtain ⟨a6, c6, hv6⟩ := hr6.form; subst hv6; clear hr6 hF6
  go_wp2_with fail
  refine (most_ok 100 0 _ b3 gR _ R.out).mono ?_
  rintro e wn ⟨rfl, hb⟩
  have hlt := cell_lt hA.1
  have hZ : FZ wn B := ⟨fz_later hb hlt hZ.1, fz_later hb hlt hZ.2.1, fz_later hb hlt hZ.2.2⟩
  have hA := BS.keep hb hA
  have R := Lib.hid (R.out.keep hb)
  have hB : Below w.heap.size w wn := (by repeat (first | with_reducible assumption | with_reducible exact Below.refl _ _ | with_reducible apply Below.al | with_reducible apply Below.drew | with_reducible refine Below.next ?_ (by assumption) | with_reducible refine Below.st ?_ (by first | exact Nat.le_refl _ | (simp; done) | (simp; omega)) _))
  clear hb hlt
  rw [kmost]
  go_wp2_with fail
  refine (make_big 1099511627777 (by decide) _).mono ?_
  rintro e wn ⟨v7, rfl, hr7, hF7, hb⟩
  obtain ⟨a7, c7, hv7⟩ := hr7.form; subst hv7; clear hr7 hF7
  have hB : Below w.heap.size w wn := (by repeat (first | with_reducible assumption | with_reducible exact Below.refl _ _ | with_reducible apply Below.al | with_reducible apply Below.drew | with_reducible refine Below.next ?_ (by assumption) | with_reducible refine Below.st ?_ (by first | exact Nat.le_refl _ | (simp; done) | (simp; omega)) _))
  go_wp2_with fail
  refine (awake_any _).mono ?_
  rintro e wz ⟨rfl, hb2⟩
  go_wp2_with fail
  go_ret
  exact ⟨rfl, (by repeat (first | with_reducible assumption | with_reducible exact Below.refl _ _ | with_reducible apply Below.al | with_reducible apply Below.drew | with_reducible refine Below.next ?_ (by assumption) | with_reducible refine Below.st ?_ (by first | exact Nat.le_refl _ | (simp; done) | (simp; omega)) _))⟩

open Go.ChangeShapes Go.WideShapes Go.ChangeAt Go.Joins Go.Deep
theorem Try.own : ownKnob Try.prog.godebug = none := by kernel_rfl
theorem Try.laidOut : laidOutB Try.prog = true := by kernel_rfl

set_option maxRecDepth 100000 in
theorem spaceKnown_lifted (os : Os) (started : os.Started) (H : Type) (enc : TypeId × Value → H) :
    ReturnsInHanded {} Try.checked os 8 .any (Rows.spaceKnownSpec.pre6 enc Try.prog Try.f8 Rows.spaceKnownRow.domain false) (Rows.spaceKnownSpec.post enc Try.prog Try.f8 false true false false) := by
  refine returnsInHanded_of_change (C := Try.checked) Try.own started (by kernel_rfl) Try.func8
    (ChangeSpec.witness6 (enc := enc) (C := Try.checked) false ⟨#[], #[], []⟩ 8 (by kernel_rfl) (by kernel_rfl) (by kernel_rfl) (by kernel_rfl)) ?_
  intro W base args ds gs before hval0 hW hcnd _
  have hval : ∀ (j : Nat) t v, Try.f8.params[j]? = some t → args[j]? = some v → Value.okWide Try.prog W .any base t v := hval0
  have hW' := hW
  obtain ⟨p, q, hA0, hV, rfl, hfz, hnd⟩ := hW
  have hA : DataW.TrodAll enc Try.prog W 0 (fun _ => true) true Try.f8.params.toList args.toList ds p := hA0
  rw [Try.params8] at hA hval
  obtain ⟨rfl, rfl, rfl⟩ := trodAll_none hA
  obtain ⟨rfl, rfl⟩ := trodVars_none hV
  clear hA0 hval0
  refine (lawKnown _).mono fun e W' ⟨he, hb⟩ => ?_
  subst he
  exact ⟨_, rfl, post_law Try.laidOut (by kernel_rfl) rfl rfl Try.underlying4 hW' rfl hb⟩

theorem spaceKnown_holds : Rows.SpaceKnownSaid :=
  OpenClaim.holds_of_wide 8 Try.f8 rfl rfl rfl rfl rfl rfl rfl ⟨rfl, rfl, rfl, rfl, rfl⟩ rfl rfl rfl rfl rfl (by kernel_rfl) Try.func8 (by kernel_rfl)
    (of_decide_eq_true (by kernel_rfl)) (by unfold Func.isWrapper; rw [if_neg (of_decide_eq_false (by kernel_rfl))]; exact ⟨rfl, rfl⟩)
    (fun os started H enc _ => spaceKnown_lifted os started H enc)
#print axioms spaceKnown_holds
end Go.Proofs.Ytcbolpjacoiclaa
