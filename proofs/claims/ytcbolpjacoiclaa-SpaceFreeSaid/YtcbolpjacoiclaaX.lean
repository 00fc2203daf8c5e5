
/- Space: the reference's Make, Check, asks, own, Held, Free, Most. -/
import Derived.Test.YtcbolpjacoiclaaM
import Derived.Lib.SmallJoins
namespace Go.Proofs.Ytcbolpjacoiclaa
open Go.RowKit
set_option linter.unusedSimpArgs false
set_option linter.unusedVariables false

/-- a slice of numbers whose cells are read in a loop -/
theorem rd_cells {w : World} {v : Value} {xs : List Int} (h : RdI .u64 w v xs) (hl : xs.length = 16) : ∃ b off c, v = .slice (some ⟨b, off, none⟩) 16 c ∧ ∀ i, i < 16 → w.cell? ⟨b, off + i, none⟩ = some (.int .u64 (xs.getD i 0)) := by
  obtain ⟨hm, ⟨a0, cap0, rfl, rfl⟩ | ⟨b, off, cap, rfl, hc, hr⟩⟩ := h.cases
  · cases hl
  · exact ⟨b, off, cap, by rw [hl], fun i hi => hr i (by omega)⟩

theorem rmake_big (q : Int) (hq : 1099511627776 < q) (w : World) : Calls Try.prog 12 #[.int .u64 q] w (SpRes w 0 0 [] 2) := by
  have hd := yb hq
  go_enter Try.func12, Try.ntmps12
  go_wp2
  refine bodyPost_ret (v := .tuple #[Sv 0 0 (.slice none 0 0), .int .i64 2]) ?_ rfl (sv_nil _ _ _ (by repeat (first | assumption | exact Below.refl _ _ | apply Below.al | apply below_drewN | apply Below.drew | refine Below.next ?_ (by assumption) | refine Below.st ?_ (by first | exact Nat.le_refl _ | (simp; done) | (simp; omega)) _)))
  simp [results, Try.results12, go_sem]

theorem rmake_ok (q : Int) (hq : q ≤ 1099511627776) (w : World) : Calls Try.prog 12 #[.int .u64 q] w (SpRes w q 0 z16 0) := by
  have hd : decide (1099511627776 < q) = false := nb (by omega)
  have hmk : ∀ w' : World, (Instr.makeSlice 23 (.int .i64 16) (.int .i64 16)).run Try.prog w' = .ok (.slice (some ⟨w'.heap.size, 0, none⟩) 16 16) (w'.alloc (.cells #[.int .u64 0, .int .u64 0, .int .u64 0, .int .u64 0, .int .u64 0, .int .u64 0, .int .u64 0, .int .u64 0, .int .u64 0, .int .u64 0, .int .u64 0, .int .u64 0, .int .u64 0, .int .u64 0, .int .u64 0, .int .u64 0] 22)) := fun _ => by kernel_rfl
  go_enter Try.func12, Try.ntmps12
  go_wp2
  refine bodyPost_ret (v := .tuple #[Sv q 0 (.slice (some ⟨w.heap.size + 1, 0, none⟩) 16 16), .int .i64 0]) (by simp [results, Try.results12, go_sem]) rfl ?_
  have hown := owns_block ((w.alloc (.cells #[.int .u64 q, .int .u64 0, .slice (some ⟨w.heap.size + 1, 0, none⟩) 16 16] 25)).alloc (.cells (ic .u64 z16).toArray 22)) (w.heap.size + 1) 22 1 16 (ic .u64 z16) (w.heap.size + 1) (Nat.le_refl _)
    (by have := heap_last (w.alloc (.cells #[.int .u64 q, .int .u64 0, .slice (some ⟨w.heap.size + 1, 0, none⟩) 16 16] 25)) (.cells (ic .u64 z16).toArray 22); rw [show (w.alloc (.cells #[.int .u64 q, .int .u64 0, .slice (some ⟨w.heap.size + 1, 0, none⟩) 16 16] 25)).heap.size = w.heap.size + 1 by simp] at this; exact this) rfl (by decide)
  exact ⟨_, rfl, RdS.of_owns hown (by decide), (Fresh.of_owns hown).mono (by omega), (by repeat (first | assumption | exact Below.refl _ _ | apply Below.al | apply below_drewN | apply Below.drew | refine Below.next ?_ (by assumption) | refine Below.st ?_ (by first | exact Nat.le_refl _ | (simp; done) | (simp; omega)) _))⟩

set_option maxHeartbeats 1000000 in
theorem rcheck_aux (q st : Int) (rs : Value) (xs : List Int) (i : Inp q st xs) (er : Int) (he : chk q st xs = er) (w : World) (h : RdI .u64 w rs xs) :
    Calls Try.prog 15 #[Sv q st rs] w fun e w' => e = .returned (.int .i64 er) ∧ Below w.heap.size w w' := by
  have hq0 := i.iq; have hs0 := i.ist
  by_cases h1 : 1099511627776 < q
  · obtain rfl : er = 2 := by rw [← he]; exact if_pos h1
    have hd := yb h1
    clear he
    clear h
    go_enter Try.func15, Try.ntmps15
    go_wp2
    go_ret
    exact ⟨rfl, (by repeat (first | assumption | exact Below.refl _ _ | apply Below.al | apply below_drewN | apply Below.drew | refine Below.next ?_ (by assumption) | refine Below.st ?_ (by first | exact Nat.le_refl _ | (simp; done) | (simp; omega)) _))⟩
  have hd := nb h1
  by_cases h2 : xs.length ≠ 16
  · obtain rfl : er = 3 := by rw [← he]; unfold chk; rw [if_neg h1, if_pos h2]
    clear he
    obtain ⟨a, c, rfl⟩ := h.form
    obtain ⟨N, hN⟩ : ∃ N, xs.length = N := ⟨_, rfl⟩
    rw [hN] at h2 ⊢
    have hl2 : (((N : Nat) : Int) != 16) = true := by simp; omega
    clear h hN h2
    go_enter Try.func15, Try.ntmps15
    go_wp2
    go_ret
    exact ⟨rfl, (by repeat (first | assumption | exact Below.refl _ _ | apply Below.al | apply below_drewN | apply Below.drew | refine Below.next ?_ (by assumption) | refine Below.st ?_ (by first | exact Nat.le_refl _ | (simp; done) | (simp; omega)) _))⟩
  have h16 : xs.length = 16 := by omega
  obtain ⟨b, off, cap, rfl, hr⟩ := rd_cells h h16
  have hn := i.ixs
  have HNN := Lib.hid hn
  have H16 := Lib.hid h16
  by_cases h3 : q < st
  · obtain rfl : er = 5 := by
      have := sum_nn hn
      rw [← he]; unfold chk; rw [if_neg h1, if_neg h2, if_pos (by omega)]
    have hd3 := yb h3
    clear he
    clear h hr h2 h16
    go_enter Try.func15, Try.ntmps15
    go_wp2
    go_ret
    exact ⟨rfl, (by repeat (first | assumption | exact Below.refl _ _ | apply Below.al | apply below_drewN | apply Below.drew | refine Below.next ?_ (by assumption) | refine Below.st ?_ (by first | exact Nat.le_refl _ | (simp; done) | (simp; omega)) _))⟩
  have hd3 := nb h3
  have HE : Hid ((if q < st + xs.sum then 5 else 0) = er) := by unfold Hid; rw [← he]; unfold chk; rw [if_neg h1, if_neg h2]
  clear he
  have HR := Lib.hid hr
  clear h hr h2 h16 hn
  go_enter Try.func15, Try.ntmps15
  go_wp2
  go_loop [3, 4] (fun f i => ∃ (k : Nat) (s : Int), k ≤ 16 ∧ Hid ((xs.take k).sum = s) ∧ 0 ≤ s ∧ s ≤ q - st ∧ f = .int .u64 (q - st - s) ∧ i = .int .i64 k) (fun _ i => 16 - (intOf i).toNat)
  case atStart => exact ⟨0, 0, by omega, by simp [Hid], by omega, by omega, by simp, rfl⟩
  case round =>
    obtain ⟨k, s, hk, HS, hs1, hs2, rfl, rfl⟩ := hrel
    by_cases hlt : k < 16
    · obtain ⟨x, HX⟩ : ∃ x, Hid (xs.getD k 0 = x) := ⟨_, rfl⟩
      have hc := cell_al (.cells #[.int .u64 q, .int .u64 st, .slice (some ⟨b, off, none⟩) 16 cap] 25) (HR.out k hlt)
      rw [HX.out] at hc
      have hx := HNN.out.get k (by rw [H16.out]; exact hlt)
      rw [HX.out] at hx
      have HS2 : Hid ((xs.take (k + 1)).sum = s + x) := by unfold Hid; rw [sum_take_succ xs k (by rw [H16.out]; exact hlt), HS.out, HX.out]
      have i1 : (0 : Int) ≤ (k : Int) := by omega
      have i2 : (k : Int) < 16 := by omega
      by_cases hbig : q - st - s < x
      · obtain rfl : er = 5 := by
          have h1 := HS2.out; have h2 := sum_take_le HNN.out (k + 1)
          rw [← HE.out, if_pos (by omega)]
        have hd5 := yb hbig
        go_wp2
        go_ret
        exact ⟨rfl, (by repeat (first | assumption | exact Below.refl _ _ | apply Below.al | apply below_drewN | apply Below.drew | refine Below.next ?_ (by assumption) | refine Below.st ?_ (by first | exact Nat.le_refl _ | (simp; done) | (simp; omega)) _))⟩
      · have hd5 := nb hbig
        go_wp2
        go_round
        case rel => exact ⟨k + 1, s + x, by omega, HS2, by omega, by omega, by congr 1; omega, by go_num⟩
        case measure => simp [intOf]; omega
    · obtain rfl : er = 0 := by
        have h1 := HS.out
        rw [show k = xs.length by rw [H16.out]; omega, List.take_length] at h1
        rw [← HE.out, if_neg (by omega)]
      go_wp2
      go_ret
      exact ⟨rfl, (by repeat (first | assumption | exact Below.refl _ _ | apply Below.al | apply below_drewN | apply Below.drew | refine Below.next ?_ (by assumption) | refine Below.st ?_ (by first | exact Nat.le_refl _ | (simp; done) | (simp; omega)) _))⟩

theorem rcheck_any (q st : Int) (rs : Value) (xs : List Int) (i : Inp q st xs) (w : World) (h : RdI .u64 w rs xs) :
    Calls Try.prog 15 #[Sv q st rs] w fun e w' => e = .returned (.int .i64 (chk q st xs)) ∧ Below w.heap.size w w' := rcheck_aux q st rs xs i _ rfl w h

theorem rasks_bad (q st : Int) (rs : Value) (xs : List Int) (i : Inp q st xs) (er : Int) (he : chk q st xs = er) (hne : er ≠ 0) (node : Int) (w : World) (h : RdI .u64 w rs xs) :
    Calls Try.prog 47 #[Sv q st rs, .int .i64 node] w fun e w' => e = .returned (.int .i64 er) ∧ Below w.heap.size w w' := by
  have HE := Lib.hid he; have HR := Lib.hid h
  clear he h
  have hne3 : (er != 0) = true := by simpa using hne
  go_enter Try.func47, Try.ntmps47
  go_wp2_with fail
  refine (rcheck_any q st rs xs i _ (HR.out.keep (by repeat (first | assumption | exact Below.refl _ _ | apply Below.al | apply below_drewN | apply Below.drew | refine Below.next ?_ (by assumption) | refine Below.st ?_ (by first | exact Nat.le_refl _ | (simp; done) | (simp; omega)) _)))).mono ?_
  rw [HE.out]
  rintro e w1 ⟨rfl, hb⟩
  go_wp2_with fail
  go_ret
  exact ⟨rfl, (by repeat (first | assumption | exact Below.refl _ _ | apply Below.al | apply below_drewN | apply Below.drew | refine Below.next ?_ (by assumption) | refine Below.st ?_ (by first | exact Nat.le_refl _ | (simp; done) | (simp; omega)) _))⟩
theorem rasks_node (q st : Int) (rs : Value) (xs : List Int) (g : Good q st xs) (node : Int) (hk : node < 1 ∨ 16 < node) (w : World) (h : RdI .u64 w rs xs) :
    Calls Try.prog 47 #[Sv q st rs, .int .i64 node] w fun e w' => e = .returned (.int .i64 2) ∧ Below w.heap.size w w' := by
  have HE := Lib.hid g.chk; have HR := Lib.hid h; have HI := Lib.hid g.inp
  clear g h
  by_cases h1 : node < 1
  · have d1 := yb h1
    clear hk
    go_enter Try.func47, Try.ntmps47
    go_wp2_with fail
    refine (rcheck_any q st rs xs HI.out _ (HR.out.keep (by repeat (first | assumption | exact Below.refl _ _ | apply Below.al | apply below_drewN | apply Below.drew | refine Below.next ?_ (by assumption) | refine Below.st ?_ (by first | exact Nat.le_refl _ | (simp; done) | (simp; omega)) _)))).mono ?_
    rw [HE.out]
    rintro e w1 ⟨rfl, hb⟩
    go_wp2_with fail
    go_ret
    exact ⟨rfl, (by repeat (first | assumption | exact Below.refl _ _ | apply Below.al | apply below_drewN | apply Below.drew | refine Below.next ?_ (by assumption) | refine Below.st ?_ (by first | exact Nat.le_refl _ | (simp; done) | (simp; omega)) _))⟩
  · have d1 := nb h1
    have d2 : decide (16 < node) = true := yb (by omega)
    clear hk
    go_enter Try.func47, Try.ntmps47
    go_wp2_with fail
    refine (rcheck_any q st rs xs HI.out _ (HR.out.keep (by repeat (first | assumption | exact Below.refl _ _ | apply Below.al | apply below_drewN | apply Below.drew | refine Below.next ?_ (by assumption) | refine Below.st ?_ (by first | exact Nat.le_refl _ | (simp; done) | (simp; omega)) _)))).mono ?_
    rw [HE.out]
    rintro e w1 ⟨rfl, hb⟩
    go_wp2_with fail
    go_ret
    exact ⟨rfl, (by repeat (first | assumption | exact Below.refl _ _ | apply Below.al | apply below_drewN | apply Below.drew | refine Below.next ?_ (by assumption) | refine Below.st ?_ (by first | exact Nat.le_refl _ | (simp; done) | (simp; omega)) _))⟩
theorem rasks_ok (q st : Int) (rs : Value) (xs : List Int) (g : Good q st xs) (k : Nat) (hk : k < 16) (w : World) (h : RdI .u64 w rs xs) :
    Calls Try.prog 47 #[Sv q st rs, .int .i64 ((k : Int) + 1)] w fun e w' => e = .returned (.int .i64 0) ∧ Below w.heap.size w w' := by
  have HE := Lib.hid g.chk; have HR := Lib.hid h; have HI := Lib.hid g.inp
  clear g h
  have d1 : decide ((k : Int) + 1 < 1) = false := nb (by omega)
  have d2 : decide (16 < (k : Int) + 1) = false := nb (by omega)
  go_enter Try.func47, Try.ntmps47
  go_wp2_with fail
  refine (rcheck_any q st rs xs HI.out _ (HR.out.keep (by repeat (first | assumption | exact Below.refl _ _ | apply Below.al | apply below_drewN | apply Below.drew | refine Below.next ?_ (by assumption) | refine Below.st ?_ (by first | exact Nat.le_refl _ | (simp; done) | (simp; omega)) _)))).mono ?_
  rw [HE.out]
  rintro e w1 ⟨rfl, hb⟩
  go_wp2_with fail
  go_ret
  exact ⟨rfl, (by repeat (first | assumption | exact Below.refl _ _ | apply Below.al | apply below_drewN | apply Below.drew | refine Below.next ?_ (by assumption) | refine Below.st ?_ (by first | exact Nat.le_refl _ | (simp; done) | (simp; omega)) _))⟩

theorem rheld_bad (q st : Int) (rs : Value) (xs : List Int) (i : Inp q st xs) (er : Int) (he : chk q st xs = er) (hne : er ≠ 0) (w : World) (h : RdI .u64 w rs xs) :
    Calls Try.prog 19 #[Sv q st rs] w fun e w' => e = .returned (.tuple #[.int .u64 0, .int .i64 er]) ∧ Below w.heap.size w w' := by
  have HE := Lib.hid he; have HR := Lib.hid h
  clear he h
  have hne3 : (er != 0) = true := by simpa using hne
  go_enter Try.func19, Try.ntmps19
  go_wp2_with fail
  refine (rcheck_any q st rs xs i _ (HR.out.keep (by repeat (first | assumption | exact Below.refl _ _ | apply Below.al | apply below_drewN | apply Below.drew | refine Below.next ?_ (by assumption) | refine Below.st ?_ (by first | exact Nat.le_refl _ | (simp; done) | (simp; omega)) _)))).mono ?_
  rw [HE.out]
  rintro e w1 ⟨rfl, hb⟩
  go_wp2_with fail
  go_ret2
  exact ⟨rfl, (by repeat (first | assumption | exact Below.refl _ _ | apply Below.al | apply below_drewN | apply Below.drew | refine Below.next ?_ (by assumption) | refine Below.st ?_ (by first | exact Nat.le_refl _ | (simp; done) | (simp; omega)) _))⟩
theorem rheld_ok (q st : Int) (rs : Value) (xs : List Int) (g : Good q st xs) (w : World) (h : RdI .u64 w rs xs) :
    Calls Try.prog 19 #[Sv q st rs] w fun e w' => e = .returned (.tuple #[.int .u64 xs.sum, .int .i64 0]) ∧ Below w.heap.size w w' := by
  have HE := Lib.hid g.chk; have HR := Lib.hid h; have HG := Lib.hid g
  obtain ⟨b, off, cap, hv, hr⟩ := rd_cells h g.gn
  have HC := Lib.hid hr
  have HV := Lib.hid hv
  obtain ⟨S, hS⟩ : ∃ S, xs.sum = S := ⟨_, rfl⟩
  have HS := Lib.hid hS
  rw [hS]
  clear g h hr hv hS
  go_enter Try.func19, Try.ntmps19
  go_wp2_with fail
  refine (rcheck_any q st rs xs HG.out.inp _ (HR.out.keep (by repeat (first | assumption | exact Below.refl _ _ | apply Below.al | apply below_drewN | apply Below.drew | refine Below.next ?_ (by assumption) | refine Below.st ?_ (by first | exact Nat.le_refl _ | (simp; done) | (simp; omega)) _)))).mono ?_
  rw [HE.out]
  rintro e w1 ⟨rfl, hb⟩
  have hB : Below w.heap.size w w1 := (by repeat (first | assumption | exact Below.refl _ _ | apply Below.al | apply below_drewN | apply Below.drew | refine Below.next ?_ (by assumption) | refine Below.st ?_ (by first | exact Nat.le_refl _ | (simp; done) | (simp; omega)) _))
  have hA : BS w1 w.heap.size q st rs := BS.keep hb (by simp [BS, go_sem])
  rw [HV.out] at hA
  clear hb
  go_wp2_with fail
  go_loop [5, 6] (fun f i => ∃ (k : Nat) (s : Int), k ≤ 16 ∧ Hid ((xs.take k).sum = s) ∧ 0 ≤ s ∧ s ≤ 1099511627776 ∧ f = .int .u64 s ∧ i = .int .i64 k) (fun _ i => 16 - (intOf i).toNat)
  case atStart => exact ⟨0, 0, by omega, by simp [Hid], by omega, by omega, rfl, rfl⟩
  case round =>
    obtain ⟨k, s, hk, HT, hs1, hs2, rfl, rfl⟩ := hrel
    by_cases hlt : k < 16
    · obtain ⟨x, HX⟩ : ∃ x, Hid (xs.getD k 0 = x) := ⟨_, rfl⟩
      have hc := HC.out k hlt
      have hc := cell_later hB hc
      rw [HX.out] at hc
      have hx := HG.out.gxs.get k (by rw [HG.out.gn]; exact hlt)
      rw [HX.out] at hx
      have HT2 : Hid ((xs.take (k + 1)).sum = s + x) := by unfold Hid; rw [sum_take_succ xs k (by rw [HG.out.gn]; exact hlt), HT.out, HX.out]
      have hle : s + x ≤ 1099511627776 := by
        have h1 := HT2.out; have h2 := sum_take_le HG.out.gxs (k + 1); have := HG.out.gle; have := HG.out.gq; have := HG.out.gst
        omega
      have i1 : (0 : Int) ≤ (k : Int) := by omega
      have i2 : (k : Int) < 16 := by omega
      go_wp2
      go_round
      case rel => exact ⟨k + 1, s + x, by omega, HT2, by omega, by omega, by go_num, by go_num⟩
      case measure => simp [intOf]; omega
    · have hk16 : k = 16 := by omega
      obtain rfl : S = s := by
        have h1 := HT.out
        rw [hk16, ← HG.out.gn, List.take_length, HS.out] at h1
        exact h1
      go_wp2
      go_ret2
      exact ⟨rfl, (by repeat (first | assumption | exact Below.refl _ _ | apply Below.al | apply below_drewN | apply Below.drew | refine Below.next ?_ (by assumption) | refine Below.st ?_ (by first | exact Nat.le_refl _ | (simp; done) | (simp; omega)) _))⟩
theorem rfree_bad (q st : Int) (rs : Value) (xs : List Int) (i : Inp q st xs) (er : Int) (he : chk q st xs = er) (hne : er ≠ 0) (w : World) (h : RdI .u64 w rs xs) :
    Calls Try.prog 17 #[Sv q st rs] w fun e w' => e = .returned (.tuple #[.int .u64 0, .int .i64 er]) ∧ Below w.heap.size w w' := by
  have HE := Lib.hid he; have HR := Lib.hid h
  clear he h
  have hne3 : (er != 0) = true := by simpa using hne
  go_enter Try.func17, Try.ntmps17
  go_wp2_with fail
  refine (rheld_bad q st rs xs i er HE.out hne _ (HR.out.keep (by repeat (first | assumption | exact Below.refl _ _ | apply Below.al | apply below_drewN | apply Below.drew | refine Below.next ?_ (by assumption) | refine Below.st ?_ (by first | exact Nat.le_refl _ | (simp; done) | (simp; omega)) _)))).mono ?_
  rintro e w1 ⟨rfl, hb⟩
  go_wp2_with fail
  go_ret2
  exact ⟨rfl, (by repeat (first | assumption | exact Below.refl _ _ | apply Below.al | apply below_drewN | apply Below.drew | refine Below.next ?_ (by assumption) | refine Below.st ?_ (by first | exact Nat.le_refl _ | (simp; done) | (simp; omega)) _))⟩
theorem rfree_ok (q st : Int) (rs : Value) (xs : List Int) (g : Good q st xs) (w : World) (h : RdI .u64 w rs xs) :
    Calls Try.prog 17 #[Sv q st rs] w fun e w' => e = .returned (.tuple #[.int .u64 (q - st - xs.sum), .int .i64 0]) ∧ Below w.heap.size w w' := by
  have HR := Lib.hid h; have HG := Lib.hid g
  have hs0 := g.sum; have h1 := g.gle; have h2 := g.gq; have h3 := g.gst
  obtain ⟨S, hS⟩ : ∃ S, xs.sum = S := ⟨_, rfl⟩
  rw [hS] at hs0 h1 ⊢
  have HS := Lib.hid hS
  clear g h hS
  go_enter Try.func17, Try.ntmps17
  go_wp2_with fail
  refine (rheld_ok q st rs xs HG.out _ (HR.out.keep (by repeat (first | assumption | exact Below.refl _ _ | apply Below.al | apply below_drewN | apply Below.drew | refine Below.next ?_ (by assumption) | refine Below.st ?_ (by first | exact Nat.le_refl _ | (simp; done) | (simp; omega)) _)))).mono ?_
  rw [HS.out]
  rintro e w1 ⟨rfl, hb⟩
  have hA : BS w1 w.heap.size q st rs := BS.keep hb (by simp [BS, go_sem])
  go_wp2_with fail
  go_ret2
  exact ⟨by go_num, (by repeat (first | assumption | exact Below.refl _ _ | apply Below.al | apply below_drewN | apply Below.drew | refine Below.next ?_ (by assumption) | refine Below.st ?_ (by first | exact Nat.le_refl _ | (simp; done) | (simp; omega)) _))⟩

/-- a space whose numbers lie in new memory of the call's own -/
def OwnRes (w : World) (q st : Int) (xs : List Int) (e : Ending) (w' : World) : Prop :=
  ∃ b c, e = .returned (Sv q st (.slice (some ⟨b, 0, none⟩) 16 c)) ∧ w'.ownsRow w.heap.size 22 1 (.slice (some ⟨b, 0, none⟩) 16 c) 16 (ic .u64 xs) ∧ Below w.heap.size w w'
theorem rown_any (q st : Int) (rs : Value) (xs : List Int) (hl : xs.length = 16) (w : World) (h : RdI .u64 w rs xs) :
    Calls Try.prog 48 #[Sv q st rs] w (OwnRes w q st xs) := by
  obtain ⟨W, hW⟩ : ∃ W : World, W = ((w.alloc (.cells #[.int .u64 q, .int .u64 st, rs] 25)).alloc (.cells #[.int .u64 0, .int .u64 0, .slice none 0 0] 25)).alloc (.cells #[] 22) := ⟨_, rfl⟩
  have hrd0 : RdS W 1 rs xs.length (ic .u64 xs) := by rw [hW]; exact RdI.keep (k := .u64) (by repeat (first | assumption | exact Below.refl _ _ | apply Below.al | apply below_drewN | apply Below.drew | refine Below.next ?_ (by assumption) | refine Below.st ?_ (by first | exact Nat.le_refl _ | (simp; done) | (simp; omega)) _)) h
  have hown0 : W.ownsRow (w.heap.size + 1 + 1) 22 1 (.slice (some ⟨w.heap.size + 1 + 1, 0, none⟩) 0 0) 0 [] := by
    rw [hW]; exact owns_block _ _ 22 1 0 [] _ (Nat.le_refl _) (by have := heap_last ((w.alloc (.cells #[.int .u64 q, .int .u64 st, rs] 25)).alloc (.cells #[.int .u64 0, .int .u64 0, .slice none 0 0] 25)) (.cells #[] 22); rw [show ((w.alloc (.cells #[.int .u64 q, .int .u64 st, rs] 25)).alloc (.cells #[.int .u64 0, .int .u64 0, .slice none 0 0] 25)).heap.size = w.heap.size + 1 + 1 by simp] at this; exact this) rfl (by decide)
  have hB0 : Below w.heap.size w W := by rw [hW]; exact (by repeat (first | assumption | exact Below.refl _ _ | apply Below.al | apply below_drewN | apply Below.drew | refine Below.next ?_ (by assumption) | refine Below.st ?_ (by first | exact Nat.le_refl _ | (simp; done) | (simp; omega)) _))
  have hsz : W.heap.size = w.heap.size + 1 + 1 + 1 := by rw [hW]; simp
  have hA : BS W w.heap.size q st rs := by rw [hW]; simp [BS, go_sem]
  have hC : RC W (w.heap.size + 1) := by rw [hW]; simp [RC, go_sem]
  have hFA : FZ W w.heap.size := by rw [hW]; simp [FZ, go_sem]
  rw [hl] at hrd0
  have HRD := Lib.hid hrd0
  have HOWN := Lib.hid hown0
  have HL := Lib.hid hl
  go_enter Try.func48, Try.ntmps48
  clear hrd0 hown0 h hl
  go_wp2_with (at_builtin; rw [← hW]; refine wpList_app rfl (.tmp 3) (.tmp 5) 23 rfl (w.heap.size + 1 + 1) 22 (.int .u64 0) 1 8 E22 _ 0 [] rfl HOWN.out _ 16 (ic .u64 xs) rfl HRD.out (ic_one _ _) ?c1 ?c2 ?c3 ?c4)
  case c1 => unfold maxLen; omega
  case c2 => omega
  case c3 => omega
  case c4 =>
    intro a3 c3 w3 hown3 hg3 hb3
    have hb3 : Below (w.heap.size + 1 + 1) W w3 := by rw [hW]; exact hb3
    have hown3 : w3.ownsRow (w.heap.size + 1 + 1) 22 1 (.slice a3 16 c3) 16 (ic .u64 xs) := by with_reducible exact hown3
    obtain ⟨g, cap, hgv⟩ := Go.Joins.ownsRow_form hown3 (by decide)
    injection hgv with h1 _ h2
    subst h1 h2
    have HO := Lib.hid hown3
    have hA3 : BS w3 w.heap.size q st rs := ⟨(hb3.cell (by simp; omega)).trans hA.1, (hb3.cell (by simp; omega)).trans hA.2.1, (hb3.cell (by simp; omega)).trans hA.2.2⟩
    have hC3 : RC w3 (w.heap.size + 1) := ⟨(hb3.cell (by simp)).trans hC.1, (hb3.cell (by simp)).trans hC.2.1, (hb3.cell (by simp)).trans hC.2.2.1, (hb3.frozen (by simp)).trans hC.2.2.2.1, (hb3.frozen (by simp)).trans hC.2.2.2.2.1, (hb3.frozen (by simp)).trans hC.2.2.2.2.2⟩
    have hF3 : FZ w3 w.heap.size := ⟨(hb3.frozen (by simp; omega)).trans hFA.1, (hb3.frozen (by simp; omega)).trans hFA.2.1, (hb3.frozen (by simp; omega)).trans hFA.2.2⟩
    have hB : Below w.heap.size w w3 := hB0.trans (hb3.mono (by omega))
    have hlt : w.heap.size < w3.heap.size := cell_lt hA3.1
    have hlt2 : w.heap.size + 1 < w3.heap.size := cell_lt hC3.1
    have hne : w.heap.size + 1 ≠ w.heap.size := by omega
    clear hown3 hg3 hA hC hFA hb3
    go_wp2
    refine bodyPost_ret (v := Sv q st (.slice (some ⟨g, 0, none⟩) 16 c3)) ?_ rfl ?_
    · simp [results, Try.results48, go_sem, hC3]
    · refine ⟨g, c3, rfl, Go.Joins.ownsRow_le ?_ (Nat.le_succ_of_le (Nat.le_succ _)), (by repeat (first | assumption | exact Below.refl _ _ | apply Below.al | apply below_drewN | apply Below.drew | refine Below.next ?_ (by assumption) | refine Below.st ?_ (by first | exact Nat.le_refl _ | (simp; done) | (simp; omega)) _))⟩
      exact ownsRow_setCell_below (ownsRow_setCell_below (ownsRow_setCell_below (ownsRow_setCell_below HO.out (by show w.heap.size < _; omega) _) (by show w.heap.size + 1 < _; omega) _) (by show w.heap.size + 1 < _; omega) _) (by show w.heap.size + 1 < _; omega) _
end Go.Proofs.Ytcbolpjacoiclaa
