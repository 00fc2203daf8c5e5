
/- SpaceUndo: Release undoes Reserve, Drop undoes Add, Move changes nothing that is free: the walk of the law. -/
import Derived.Test.YtcbolpjacoiclaaH
namespace Go.Proofs.Ytcbolpjacoiclaa
open Go.RowKit

theorem mk_nn (l : List Int) : Nn (mk l) := fun x hx => by
  obtain ⟨i, _, rfl⟩ := List.mem_map.1 hx
  have := f40_bd l i
  omega
theorem sum_le_of {xs : List Int} {B : Int} (h : ∀ x, x ∈ xs → x ≤ B) : xs.sum ≤ B * xs.length := by
  induction xs with
  | nil => simp
  | cons a xs ih =>
    have h1 := ih (fun x hx => h x (List.mem_cons_of_mem _ hx))
    have h2 := h a List.mem_cons_self
    simp only [List.sum_cons, List.length_cons]
    rw [Int.natCast_add, Int.mul_add]
    simp; omega
theorem mk_sum (l : List Int) : (mk l).sum ≤ 624 := by
  have := sum_le_of (xs := mk l) (B := 39) (fun x hx => by
    obtain ⟨i, _, rfl⟩ := List.mem_map.1 hx
    have := f40_bd l i
    omega)
  rw [mk_len] at this
  omega
theorem mk_good (l : List Int) (s : Int) (h : 0 ≤ s ∧ s < 300) : Good 1000 s (mk l) := by
  have := mk_sum l
  exact ⟨by decide, h.1, mk_len l, mk_nn l, by omega⟩
theorem Good.add {q st : Int} {xs : List Int} (g : Good q st xs) {n : Int} (hn : 0 ≤ n) (hf : n ≤ q - st - xs.sum) : Good q (st + n) xs := by
  have := g.gst
  exact ⟨g.gq, by omega, g.gn, g.gxs, by omega⟩


set_option maxHeartbeats 4000000 in
theorem lawUndo (v : Value) (l : List Int) (hl : Ib l) (node n : Int) (hnode : -9223372036854775808 ≤ node ∧ node ≤ 9223372036854775807) (hn : -9223372036854775808 ≤ n ∧ n ≤ 9223372036854775807) (w : World) (h : RdI .i64 w v l) :
    Calls Try.prog 5 #[v, .int .i64 node, .int .i64 n] w fun e w' => e = .returned (.bool true) ∧ Below w.heap.size w w' := by
  obtain ⟨s0, HS⟩ : ∃ s, Hid (l.getD 0 0 % 300 = s) := ⟨_, rfl⟩
  have hs : 0 ≤ s0 ∧ s0 < 300 := by rw [← HS.out]; omega
  obtain ⟨i, HI⟩ : ∃ i, Hid (node % 16 = i) := ⟨_, rfl⟩
  have hi : 0 ≤ i ∧ i < 16 := by rw [← HI.out]; omega
  obtain ⟨m, HM⟩ : ∃ i, Hid (n % 50 = i) := ⟨_, rfl⟩
  have hm : 0 ≤ m ∧ m < 50 := by rw [← HM.out]; omega
  have g : Good 1000 s0 (mk l) := mk_good l s0 hs
  have hsum := mk_sum l
  obtain ⟨xs, HX⟩ : ∃ xs, Hid (mk l = xs) := ⟨_, rfl⟩
  rw [HX.out] at g hsum
  obtain ⟨k, hk, HK⟩ : ∃ k : Nat, k < 16 ∧ Hid (1 + i = (k : Int) + 1) := ⟨i.toNat, by omega, by unfold Hid; omega⟩
  have hn16 := g.gn
  have hx0 := g.gxs.get k (by omega)
  have gA : Good 1000 s0 (xs.set k (xs.getD k 0 + m)) := g.reserve hk hm.1 (by omega)
  have gC : Good 1000 (s0 + m) xs := g.add hm.1 (by omega)
  have hget : (xs.set k (xs.getD k 0 + m)).getD k 0 = xs.getD k 0 + m := set_get (by omega) _
  have hback : (xs.set k (xs.getD k 0 + m)).set k ((xs.set k (xs.getD k 0 + m)).getD k 0 - m) = xs := set_set_back (by omega) m
  have sR : St 1000 s0 xs (1 + i) m 0 1000 s0 (xs.set k (xs.getD k 0 + m)) 0 := .rfine g.chk k hk HK.out (by omega)
  have sL : St 1000 s0 (xs.set k (xs.getD k 0 + m)) (1 + i) m 1 1000 s0 xs 0 := by
    have := St.lfine (n := m) gA.chk k hk HK.out (by omega)
    rwa [hback] at this
  have sM : St 1000 s0 (xs.set k (xs.getD k 0 + m)) (1 + i) m 2 1000 (s0 + m) xs 0 := by
    have := St.mfine (n := m) gA.chk k hk HK.out (by omega)
    rwa [hback] at this
  have sA : St 1000 s0 xs (1 + i) m 3 1000 (s0 + m) xs 0 := .afine g.chk (by omega)
  have sD : St 1000 (s0 + m) xs (1 + i) m 4 1000 s0 xs 0 := by
    have := St.dfine (node := 1 + i) (n := m) gC.chk (by omega)
    rwa [show s0 + m - m = s0 by omega] at this
  have hsumA : (xs.set k (xs.getD k 0 + m)).sum = xs.sum + m := by rw [sum_set (by omega)]; omega
  obtain ⟨ys, HY⟩ : ∃ ys, Hid (xs.set k (xs.getD k 0 + m) = ys) := ⟨_, rfl⟩
  rw [HY.out] at gA sR sL sM hsumA
  have HF : Hid (1000 - s0 - ys.sum = 1000 - (s0 + m) - xs.sum) := by unfold Hid; omega
  have H := And.intro (And.intro g gA) (And.intro gC (And.intro sR (And.intro sL (And.intro sM (And.intro sA sD)))))
  have HG := Lib.hid H
  have HR := Lib.hid h
  have HL := Lib.hid hl
  have hw1 : IntKind.u64.wrap m = m := IntWalk.u64_in m (by omega)
  clear H g gA gC sR sL sM sA sD hsumA hsum hget hback hx0 hn16 h hl
  go_enter Try.func5, Try.ntmps5
  go_wp2_with fail
  refine (made_any v l HL.out _ (HR.out.keep (by repeat (first | assumption | exact Below.refl _ _ | apply Below.al | apply below_drewN | apply Below.drew | refine Below.next ?_ (by assumption) | refine Below.st ?_ (by first | exact Nat.le_refl _ | (simp; done) | (simp; omega)) _)))).mono ?_
  rw [HS.out, HX.out]
  rintro e w1 ⟨v1, rfl, hr, hF, b1⟩
  obtain ⟨a1, c1, rfl⟩ := hr.form
  have R1 := Lib.hid hr
  clear hr hF
  go_wp2_with fail
  refine (mod_any node 16 (by decide) (by decide) hnode _).mono ?_
  rw [HI.out]
  rintro e w2 ⟨rfl, rfl⟩
  go_wp2_with fail
  refine (mod_any n 50 (by decide) (by decide) hn _).mono ?_
  rw [HM.out]
  rintro e w2 ⟨rfl, rfl⟩
  go_wp2_with fail
  refine (reserve_any 1000 s0 _ xs HG.out.1.1.inp (1 + i) m hm.1 _ _ _ _ HG.out.2.2.1 _ (R1.out.keep (by repeat (first | assumption | exact Below.refl _ _ | apply Below.al | apply below_drewN | apply Below.drew | refine Below.next ?_ (by assumption) | refine Below.st ?_ (by first | exact Nat.le_refl _ | (simp; done) | (simp; omega)) _)))).mono ?_
  rintro e w2 ⟨v2, rfl, hr, hF, b2⟩
  obtain ⟨a2, c2, rfl⟩ := hr.form
  have R2 := Lib.hid hr
  clear hr hF
  have hA : BS w2 w1.heap.size 1000 s0 (.slice a1 xs.length c1) := BS.keep b2 (by simp [BS, go_sem])
  have l2 : w1.heap.size < w2.heap.size := cell_lt hA.1
  go_wp2_with fail
  refine (release_any 1000 s0 _ ys HG.out.1.2.inp (1 + i) m hm.1 _ _ _ _ HG.out.2.2.2.1 _ (R2.out.keep (by repeat (first | assumption | exact Below.refl _ _ | apply Below.al | apply below_drewN | apply Below.drew | refine Below.next ?_ (by assumption) | refine Below.st ?_ (by first | exact Nat.le_refl _ | (simp; done) | (simp; omega)) _)))).mono ?_
  rintro e w3 ⟨v3, rfl, hr, hF, b3⟩
  obtain ⟨a3, c3, rfl⟩ := hr.form
  have R3 := Lib.hid hr
  clear hr hF
  have hA : BS w3 w1.heap.size 1000 s0 (.slice a1 xs.length c1) := BS.keep b3 (BS.al _ hA)
  have hB : BS w3 w2.heap.size 1000 s0 (.slice a2 ys.length c2) := BS.keep b3 (by simp [BS, go_sem])
  have l3 : w2.heap.size < w3.heap.size := cell_lt hB.1
  have l3' : w1.heap.size < w3.heap.size := cell_lt hA.1
  go_wp2_with fail
  refine (add_any 1000 s0 _ xs HG.out.1.1.inp (1 + i) m hm.1 _ _ _ _ HG.out.2.2.2.2.2.1 _ (R1.out.keep (by repeat (first | assumption | exact Below.refl _ _ | apply Below.al | apply below_drewN | apply Below.drew | refine Below.next ?_ (by assumption) | refine Below.st ?_ (by first | exact Nat.le_refl _ | (simp; done) | (simp; omega)) _)))).mono ?_
  rintro e w4 ⟨v4, rfl, hr, hF, b4⟩
  obtain ⟨a4, c4, rfl⟩ := hr.form
  have R4 := Lib.hid hr
  clear hr hF
  have hA : BS w4 w1.heap.size 1000 s0 (.slice a1 xs.length c1) := by first | with_reducible exact BS.keep b4 hA | with_reducible exact BS.keep b4 (BS.al _ hA)
  have lAw4 : w1.heap.size < w4.heap.size := cell_lt hA.1
  have hB : BS w4 w2.heap.size 1000 s0 (.slice a2 ys.length c2) := by first | with_reducible exact BS.keep b4 hB | with_reducible exact BS.keep b4 (BS.al _ hB)
  have lBw4 : w2.heap.size < w4.heap.size := cell_lt hB.1
  have hC : BS w4 w3.heap.size 1000 s0 (.slice a3 xs.length c3) := BS.keep b4 (by simp [BS, go_sem])
  have lCw4 : w3.heap.size < w4.heap.size := cell_lt hC.1
  go_wp2_with fail
  refine (drop_any 1000 (s0 + m) _ xs HG.out.2.1.inp (1 + i) m hm.1 _ _ _ _ HG.out.2.2.2.2.2.2 _ (R4.out.keep (by repeat (first | assumption | exact Below.refl _ _ | apply Below.al | apply below_drewN | apply Below.drew | refine Below.next ?_ (by assumption) | refine Below.st ?_ (by first | exact Nat.le_refl _ | (simp; done) | (simp; omega)) _)))).mono ?_
  rintro e w5 ⟨v5, rfl, hr, hF, b5⟩
  obtain ⟨a5, c5, rfl⟩ := hr.form
  have R5 := Lib.hid hr
  clear hr hF
  have hA : BS w5 w1.heap.size 1000 s0 (.slice a1 xs.length c1) := by first | with_reducible exact BS.keep b5 hA | with_reducible exact BS.keep b5 (BS.al _ hA)
  have lAw5 : w1.heap.size < w5.heap.size := cell_lt hA.1
  have hB : BS w5 w2.heap.size 1000 s0 (.slice a2 ys.length c2) := by first | with_reducible exact BS.keep b5 hB | with_reducible exact BS.keep b5 (BS.al _ hB)
  have lBw5 : w2.heap.size < w5.heap.size := cell_lt hB.1
  have hC : BS w5 w3.heap.size 1000 s0 (.slice a3 xs.length c3) := by first | with_reducible exact BS.keep b5 hC | with_reducible exact BS.keep b5 (BS.al _ hC)
  have lCw5 : w3.heap.size < w5.heap.size := cell_lt hC.1
  have hD : BS w5 w4.heap.size 1000 (s0 + m) (.slice a4 xs.length c4) := BS.keep b5 (by simp [BS, go_sem])
  have lDw5 : w4.heap.size < w5.heap.size := cell_lt hD.1
  go_wp2_with fail
  refine (same_yes 1000 s0 _ _ xs _ (R3.out.keep (by repeat (first | assumption | exact Below.refl _ _ | apply Below.al | apply below_drewN | apply Below.drew | refine Below.next ?_ (by assumption) | refine Below.st ?_ (by first | exact Nat.le_refl _ | (simp; done) | (simp; omega)) _))) (R1.out.keep (by repeat (first | assumption | exact Below.refl _ _ | apply Below.al | apply below_drewN | apply Below.drew | refine Below.next ?_ (by assumption) | refine Below.st ?_ (by first | exact Nat.le_refl _ | (simp; done) | (simp; omega)) _)))).mono ?_
  rintro e w6 ⟨rfl, b6⟩
  have hA : BS w6 w1.heap.size 1000 s0 (.slice a1 xs.length c1) := by first | with_reducible exact BS.keep b6 hA | with_reducible exact BS.keep b6 (BS.al _ hA)
  have lAw6 : w1.heap.size < w6.heap.size := cell_lt hA.1
  have hB : BS w6 w2.heap.size 1000 s0 (.slice a2 ys.length c2) := by first | with_reducible exact BS.keep b6 hB | with_reducible exact BS.keep b6 (BS.al _ hB)
  have lBw6 : w2.heap.size < w6.heap.size := cell_lt hB.1
  have hC : BS w6 w3.heap.size 1000 s0 (.slice a3 xs.length c3) := by first | with_reducible exact BS.keep b6 hC | with_reducible exact BS.keep b6 (BS.al _ hC)
  have lCw6 : w3.heap.size < w6.heap.size := cell_lt hC.1
  have hD : BS w6 w4.heap.size 1000 (s0 + m) (.slice a4 xs.length c4) := by first | with_reducible exact BS.keep b6 hD | with_reducible exact BS.keep b6 (BS.al _ hD)
  have lDw6 : w4.heap.size < w6.heap.size := cell_lt hD.1
  have hE : BS w6 w5.heap.size 1000 s0 (.slice a5 xs.length c5) := BS.keep b6 (by simp [BS, go_sem])
  have lEw6 : w5.heap.size < w6.heap.size := cell_lt hE.1
  go_wp2_with fail
  refine (same_yes 1000 s0 _ _ xs _ (R5.out.keep (by repeat (first | assumption | exact Below.refl _ _ | apply Below.al | apply below_drewN | apply Below.drew | refine Below.next ?_ (by assumption) | refine Below.st ?_ (by first | exact Nat.le_refl _ | (simp; done) | (simp; omega)) _))) (R1.out.keep (by repeat (first | assumption | exact Below.refl _ _ | apply Below.al | apply below_drewN | apply Below.drew | refine Below.next ?_ (by assumption) | refine Below.st ?_ (by first | exact Nat.le_refl _ | (simp; done) | (simp; omega)) _)))).mono ?_
  rintro e w7 ⟨rfl, b7⟩
  have hA : BS w7 w1.heap.size 1000 s0 (.slice a1 xs.length c1) := by first | with_reducible exact BS.keep b7 hA | with_reducible exact BS.keep b7 (BS.al _ hA)
  have lAw7 : w1.heap.size < w7.heap.size := cell_lt hA.1
  have hB : BS w7 w2.heap.size 1000 s0 (.slice a2 ys.length c2) := by first | with_reducible exact BS.keep b7 hB | with_reducible exact BS.keep b7 (BS.al _ hB)
  have lBw7 : w2.heap.size < w7.heap.size := cell_lt hB.1
  clear hC hD hE
  go_wp2_with fail
  refine (freeS_ok 1000 s0 _ ys HG.out.1.2 _ (R2.out.keep (by repeat (first | assumption | exact Below.refl _ _ | apply Below.al | apply below_drewN | apply Below.drew | refine Below.next ?_ (by assumption) | refine Below.st ?_ (by first | exact Nat.le_refl _ | (simp; done) | (simp; omega)) _)))).mono ?_
  rintro e w8 ⟨rfl, b8⟩
  have hA : BS w8 w1.heap.size 1000 s0 (.slice a1 xs.length c1) := by first | with_reducible exact BS.keep b8 hA | with_reducible exact BS.keep b8 (BS.al _ hA)
  have lAw8 : w1.heap.size < w8.heap.size := cell_lt hA.1
  have hB : BS w8 w2.heap.size 1000 s0 (.slice a2 ys.length c2) := by first | with_reducible exact BS.keep b8 hB | with_reducible exact BS.keep b8 (BS.al _ hB)
  have lBw8 : w2.heap.size < w8.heap.size := cell_lt hB.1
  go_wp2_with fail
  refine (move_any 1000 s0 _ ys HG.out.1.2.inp (1 + i) m hm.1 _ _ _ _ HG.out.2.2.2.2.1 _ (R2.out.keep (by repeat (first | assumption | exact Below.refl _ _ | apply Below.al | apply below_drewN | apply Below.drew | refine Below.next ?_ (by assumption) | refine Below.st ?_ (by first | exact Nat.le_refl _ | (simp; done) | (simp; omega)) _)))).mono ?_
  rintro e w9 ⟨v9, rfl, hr, hF, b9⟩
  obtain ⟨a9, c9, rfl⟩ := hr.form
  have R9 := Lib.hid hr
  clear hr hF
  have hA : BS w9 w1.heap.size 1000 s0 (.slice a1 xs.length c1) := by first | with_reducible exact BS.keep b9 hA | with_reducible exact BS.keep b9 (BS.al _ hA)
  have lAw9 : w1.heap.size < w9.heap.size := cell_lt hA.1
  have hB : BS w9 w2.heap.size 1000 s0 (.slice a2 ys.length c2) := by first | with_reducible exact BS.keep b9 hB | with_reducible exact BS.keep b9 (BS.al _ hB)
  have lBw9 : w2.heap.size < w9.heap.size := cell_lt hB.1
  go_wp2_with fail
  refine (freeS_ok 1000 (s0 + m) _ xs HG.out.2.1 _ (R9.out.keep (by repeat (first | assumption | exact Below.refl _ _ | apply Below.al | apply below_drewN | apply Below.drew | refine Below.next ?_ (by assumption) | refine Below.st ?_ (by first | exact Nat.le_refl _ | (simp; done) | (simp; omega)) _)))).mono ?_
  rintro e w10 ⟨rfl, b10⟩
  have hA : BS w10 w1.heap.size 1000 s0 (.slice a1 xs.length c1) := by first | with_reducible exact BS.keep b10 hA | with_reducible exact BS.keep b10 (BS.al _ hA)
  have lAw10 : w1.heap.size < w10.heap.size := cell_lt hA.1
  have hF : BS w10 w9.heap.size 1000 (s0 + m) (.slice a9 xs.length c9) := BS.keep b10 (by simp [BS, go_sem])
  have lFw10 : w9.heap.size < w10.heap.size := cell_lt hF.1
  rw [← HF.out]
  go_wp2_with fail
  refine (awake_any _).mono ?_
  rintro e w11 ⟨rfl, b11⟩
  go_wp2_with fail
  go_ret
  exact ⟨rfl, (by repeat (first | assumption | exact Below.refl _ _ | apply Below.al | apply below_drewN | apply Below.drew | refine Below.next ?_ (by assumption) | refine Below.st ?_ (by first | exact Nat.le_refl _ | (simp; done) | (simp; omega)) _))⟩
end Go.Proofs.Ytcbolpjacoiclaa
