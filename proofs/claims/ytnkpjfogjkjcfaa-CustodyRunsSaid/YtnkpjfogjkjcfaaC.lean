


/- Custody: whether a tag is among tags, as Go's library looks for it; the closures of the checks. -/
import Derived.Test.YtnkpjfogjkjcfaaB
namespace Go.Proofs.Ytnkpjfogjkjcfaa
open Go.RowKit
set_option linter.unusedSimpArgs false
set_option linter.unusedVariables false
set_option maxRecDepth 100000

theorem tg_cases (t y : Tg) : (t = y ∧ (t.nd == y.nd) = true ∧ (t.of == y.of) = true) ∨ (t ≠ y ∧ (t.nd == y.nd) = false) ∨ (t ≠ y ∧ (t.nd == y.nd) = true ∧ (t.of == y.of) = false) := by
  by_cases h1 : t.nd = y.nd
  · by_cases h2 : t.of = y.of
    · exact .inl ⟨tg_ext h1 h2, by simp [h1], by simp [h2]⟩
    · exact .inr (.inr ⟨fun h => h2 (by rw [h]), by simp [h1], by simp [h2]⟩)
  · exact .inr (.inl ⟨fun h => h1 (by rw [h]), by simp [h1]⟩)
theorem gt_mem {l : List Tg} {k : Nat} (hk : k < l.length) : gt l k ∈ l := by rw [gt_at hk]; exact List.getElem_mem hk
theorem mem_gt {l : List Tg} {t : Tg} : t ∈ l ↔ ∃ k, k < l.length ∧ gt l k = t := by
  constructor
  · intro h
    obtain ⟨k, hk, rfl⟩ := List.getElem_of_mem h
    exact ⟨k, hk, gt_at hk⟩
  · rintro ⟨k, hk, rfl⟩
    exact gt_mem hk
set_option maxHeartbeats 1000000 in
theorem index_any (v : Value) (l : List Tg) (t : Tg) (w : World) (h : RdG w v l) : Calls Try.prog 77 #[v, t.v] w fun e w' => (∃ r : Int, e = .returned (.int .i64 r) ∧ decide (0 ≤ r) = decide (t ∈ l)) ∧ Below w.heap.size w w' := by
  obtain ⟨a0, n0, rfl⟩ := h.form
  have hmx := h.2.1
  unfold maxLen at hmx
  obtain ⟨N, hN⟩ : ∃ N, l.length = N := ⟨_, rfl⟩
  rw [hN] at h hmx ⊢
  have HN := Lib.hid hN
  obtain ⟨r, hr⟩ : ∃ r, decide (t ∈ l) = r := ⟨_, rfl⟩
  rw [hr]
  have HF := Lib.hid hr
  obtain ⟨W, hW⟩ : ∃ W : World, W = w.alloc (.cells #[.int .i64 t.nd, .int .i64 t.of] 80) := ⟨_, rfl⟩
  have hB0 : Below w.heap.size w W := by rw [hW]; exact (by repeat (first | assumption | exact Below.refl _ _ | apply Below.al | apply below_drewN | apply Below.drew | refine Below.next ?_ (by assumption)))
  have bI : BoxN W w.heap.size 80 #[.int .i64 t.nd, .int .i64 t.of] := by rw [hW]; exact BoxN.new _ _ _
  have i0 : W.cell? ⟨w.heap.size, 0, none⟩ = some (.int .i64 t.nd) := bI.cell 0
  have i1 : W.cell? ⟨w.heap.size, 1, none⟩ = some (.int .i64 t.of) := bI.cell 1
  have HR := Lib.hid (h.keep hB0)
  clear hN h hr bI
  go_enter Try.func77, Try.ntmps77
  go_upto_region 1 with fail
  rw [← hW]
  clear hW
  go_wp2_with fail
  go_loopw [8] (fun i wr => ∃ k : Nat, k ≤ N ∧ i = .int .i64 k ∧ Below W.heap.size W wr ∧ ∀ j, j < k → t ≠ gt l j) (fun i _ => N - (intOf i).toNat)
  case atStart => exact ⟨0, Nat.zero_le _, rfl, Below.refl _ _, fun j hj => by omega⟩
  case round =>
    obtain ⟨k, hkN, rfl, hB, hz0⟩ := hrel
    have HZ0 := Lib.hid hz0
    clear hz0
    by_cases hlt : k < N
    · have d2 : decide ((k : Int) < (N : Int)) = true := yb (by omega)
      obtain ⟨b1, o1, rfl, hc1, g0, g1⟩ := RdG.at (HR.out.keep hB) HN.out k hlt
      obtain ⟨y, HY⟩ : ∃ y, Hid (gt l k = y) := ⟨_, rfl⟩
      rw [HY.out] at g0 g1
      have j0 := cell_later hB i0
      have j1 := cell_later hB i1
      have n1 : (0 : Int) ≤ (k : Int) := by omega
      have n2 : (k : Int) < (N : Int) := by omega
      have hwk : IntKind.i64.wrap (k : Int) = (k : Int) := IntWalk.i64_in _ (by omega)
      rcases tg_cases t y with ⟨he, d3, d4⟩ | ⟨hne, d3⟩ | ⟨hne, d3, d4⟩
      · obtain rfl : r = true := by rw [← HF.out]; exact yb (mem_gt.2 ⟨k, by rw [HN.out]; exact hlt, by rw [HY.out, he]⟩)
        clear he
        go_wp2_with fail
        go_quiet (fail)
        go_wp2_with fail
        go_ret
        exact ⟨⟨_, rfl, yb (by omega)⟩, Below.next hB0 (below_drewN hB _)⟩
      · have HNE := Lib.hid hne
        clear hne
        obtain ⟨c4, d4⟩ : ∃ c, (t.of == y.of) = c := ⟨_, rfl⟩
        cases c4
        all_goals
          go_wp2_with fail
          go_quiet (fail)
          go_wp2_with fail
          go_roundw
          case rel => exact ⟨k + 1, by omega, by go_num, below_drewN hB _, fun j hj => by
            by_cases hjk : j = k
            · subst hjk; rw [HY.out]; exact HNE.out
            · exact HZ0.out j (by omega)⟩
          case measure => simp [intOf]; omega
      · have HNE := Lib.hid hne
        clear hne
        go_wp2_with fail
        go_quiet (fail)
        go_wp2_with fail
        go_roundw
        case rel => exact ⟨k + 1, by omega, by go_num, below_drewN hB _, fun j hj => by
          by_cases hjk : j = k
          · subst hjk; rw [HY.out]; exact HNE.out
          · exact HZ0.out j (by omega)⟩
        case measure => simp [intOf]; omega
    · obtain rfl : k = N := by omega
      have d2 : decide ((k : Int) < (k : Int)) = false := nb (by omega)
      obtain rfl : r = false := by
        rw [← HF.out]
        refine nb (fun hm => ?_)
        obtain ⟨j, hj, he⟩ := mem_gt.1 hm
        exact HZ0.out j (by rw [HN.out] at hj; exact hj) he.symm
      go_wp2_with fail
      go_ret
      exact ⟨⟨_, rfl, nb (by omega)⟩, Below.next hB0 hB⟩
theorem contains_any (v : Value) (l : List Tg) (t : Tg) (w : World) (h : RdG w v l) : Calls Try.prog 68 #[v, t.v] w fun e w' => e = .returned (.bool (decide (t ∈ l))) ∧ Below w.heap.size w w' := by
  obtain ⟨W, hW⟩ : ∃ W : World, W = w.alloc (.cells #[.int .i64 t.nd, .int .i64 t.of] 80) := ⟨_, rfl⟩
  have hB0 : Below w.heap.size w W := by rw [hW]; exact (by repeat (first | assumption | exact Below.refl _ _ | apply Below.al | apply below_drewN | apply Below.drew | refine Below.next ?_ (by assumption)))
  have bI : BoxN W w.heap.size 80 #[.int .i64 t.nd, .int .i64 t.of] := by rw [hW]; exact BoxN.new _ _ _
  have i0 : W.cell? ⟨w.heap.size, 0, none⟩ = some (.int .i64 t.nd) := bI.cell 0
  have i1 : W.cell? ⟨w.heap.size, 1, none⟩ = some (.int .i64 t.of) := bI.cell 1
  have HP := Lib.hid (index_any v l t W (h.keep hB0))
  obtain ⟨a0, n0, rfl⟩ := h.form
  obtain ⟨r, hr⟩ : ∃ r, decide (t ∈ l) = r := ⟨_, rfl⟩
  rw [hr] at HP ⊢
  clear h bI hr
  go_enter Try.func68, Try.ntmps68
  go_upto_region 1 with fail
  rw [← hW]
  clear hW
  go_wp2_with fail
  refine HP.out.mono ?_
  rintro e w1 ⟨⟨x, rfl, hx⟩, hb⟩
  have hB := Below.next hB0 hb
  clear hb
  go_wp2_with fail
  go_ret
  exact ⟨rfl, hB⟩
set_option maxHeartbeats 1000000 in
theorem wrong_ix (v : Value) (l : List Tg) (p : Tg → Bool) (b c : Nat) (w : World) (h : RdG w v l) (hp : ∀ (y : Tg) (wr : World), Below w.heap.size w wr → Calls Try.prog 65 #[y.v, ptr b, ptr c] wr fun e w' => e = .returned (.bool (p y)) ∧ Below wr.heap.size wr w') :
    Calls Try.prog 78 #[v, .func (.func 65) #[] #[ptr b, ptr c]] w fun e w' => (∃ r : Int, e = .returned (.int .i64 r) ∧ decide (0 ≤ r) = l.any p) ∧ Below w.heap.size w w' := by
  obtain ⟨a0, n0, rfl⟩ := h.form
  have hmx := h.2.1
  unfold maxLen at hmx
  obtain ⟨N, hN⟩ : ∃ N, l.length = N := ⟨_, rfl⟩
  rw [hN] at h hmx ⊢
  have HN := Lib.hid hN
  obtain ⟨r, hr⟩ : ∃ r, l.any p = r := ⟨_, rfl⟩
  rw [hr]
  have HF := Lib.hid hr
  have HR := Lib.hid h
  have HP := Lib.hid hp
  clear hN h hr hp
  go_enter Try.func78, Try.ntmps78
  go_wp2_with fail
  go_loopw [8] (fun i wr => ∃ k : Nat, k ≤ N ∧ i = .int .i64 k ∧ Below w.heap.size w wr ∧ ∀ j, j < k → p (gt l j) = false) (fun i _ => N - (intOf i).toNat)
  case atStart => exact ⟨0, Nat.zero_le _, rfl, Below.refl _ _, fun j hj => by omega⟩
  case round =>
    obtain ⟨k, hkN, rfl, hB, hz0⟩ := hrel
    have HZ0 := Lib.hid hz0
    clear hz0
    by_cases hlt : k < N
    · have d2 : decide ((k : Int) < (N : Int)) = true := yb (by omega)
      obtain ⟨b1, o1, rfl, hc1, g0, g1⟩ := RdG.at (HR.out.keep hB) HN.out k hlt
      obtain ⟨y, HY⟩ : ∃ y, Hid (gt l k = y) := ⟨_, rfl⟩
      rw [HY.out] at g0 g1
      have n1 : (0 : Int) ≤ (k : Int) := by omega
      have n2 : (k : Int) < (N : Int) := by omega
      have hwk : IntKind.i64.wrap (k : Int) = (k : Int) := IntWalk.i64_in _ (by omega)
      have hP := HP.out y wr hB
      cases hs : p y
      · rw [hs] at hP
        have HPP := Lib.hid hP
        have HS := Lib.hid hs
        clear hP hs
        go_wp2_with fail
        refine HPP.out.mono ?_
        rintro e w1 ⟨rfl, hb1⟩
        have hB1 := Below.next hB hb1
        clear hb1
        go_wp2_with fail
        go_roundw
        case rel => exact ⟨k + 1, by omega, by go_num, hB1, fun j hj => by
          by_cases hjk : j = k
          · subst hjk; rw [HY.out]; exact HS.out
          · exact HZ0.out j (by omega)⟩
        case measure => simp [intOf]; omega
      · obtain rfl : r = true := by
          rw [← HF.out]
          exact List.any_eq_true.2 ⟨y, by rw [← HY.out]; exact gt_mem (by rw [HN.out]; exact hlt), hs⟩
        rw [hs] at hP
        have HPP := Lib.hid hP
        clear hP hs
        go_wp2_with fail
        refine HPP.out.mono ?_
        rintro e w1 ⟨rfl, hb1⟩
        have hB1 := Below.next hB hb1
        clear hb1
        go_wp2_with fail
        go_ret
        exact ⟨⟨_, rfl, yb (by omega)⟩, hB1⟩
    · obtain rfl : k = N := by omega
      have d2 : decide ((k : Int) < (k : Int)) = false := nb (by omega)
      obtain rfl : r = false := by
        rw [← HF.out]
        refine List.any_eq_false.2 (fun x hx => ?_)
        obtain ⟨j, hj, rfl⟩ := mem_gt.1 hx
        rw [HZ0.out j (by rw [HN.out] at hj; exact hj)]
        decide
      go_wp2_with fail
      go_ret
      exact ⟨⟨_, rfl, nb (by omega)⟩, hB⟩
theorem wrong_has (v : Value) (l : List Tg) (p : Tg → Bool) (b c : Nat) (w : World) (h : RdG w v l) (hp : ∀ (y : Tg) (wr : World), Below w.heap.size w wr → Calls Try.prog 65 #[y.v, ptr b, ptr c] wr fun e w' => e = .returned (.bool (p y)) ∧ Below wr.heap.size wr w') (r : Bool) (hr : l.any p = r) :
    Calls Try.prog 69 #[v, .func (.func 65) #[] #[ptr b, ptr c]] w fun e w' => e = .returned (.bool r) ∧ Below w.heap.size w w' := by
  obtain ⟨a0, n0, rfl⟩ := h.form
  have hP := wrong_ix (.slice a0 l.length n0) l p b c w h hp
  rw [hr] at hP
  have HP := Lib.hid hP
  clear h hp hP hr
  go_enter Try.func69, Try.ntmps69
  go_wp2_with fail
  refine HP.out.mono ?_
  rintro e w1 ⟨⟨x, rfl, hx⟩, hb⟩
  go_wp2_with fail
  go_ret
  exact ⟨rfl, hb⟩
set_option maxHeartbeats 1000000 in
theorem lacks_ix (v : Value) (l : List Tg) (p : Tg → Bool) (b : Nat) (w : World) (h : RdG w v l) (hp : ∀ (y : Tg) (wr : World), Below w.heap.size w wr → Calls Try.prog 67 #[y.v, ptr b] wr fun e w' => e = .returned (.bool (p y)) ∧ Below wr.heap.size wr w') :
    Calls Try.prog 78 #[v, .func (.func 67) #[] #[ptr b]] w fun e w' => (∃ r : Int, e = .returned (.int .i64 r) ∧ decide (0 ≤ r) = l.any p) ∧ Below w.heap.size w w' := by
  obtain ⟨a0, n0, rfl⟩ := h.form
  have hmx := h.2.1
  unfold maxLen at hmx
  obtain ⟨N, hN⟩ : ∃ N, l.length = N := ⟨_, rfl⟩
  rw [hN] at h hmx ⊢
  have HN := Lib.hid hN
  obtain ⟨r, hr⟩ : ∃ r, l.any p = r := ⟨_, rfl⟩
  rw [hr]
  have HF := Lib.hid hr
  have HR := Lib.hid h
  have HP := Lib.hid hp
  clear hN h hr hp
  go_enter Try.func78, Try.ntmps78
  go_wp2_with fail
  go_loopw [8] (fun i wr => ∃ k : Nat, k ≤ N ∧ i = .int .i64 k ∧ Below w.heap.size w wr ∧ ∀ j, j < k → p (gt l j) = false) (fun i _ => N - (intOf i).toNat)
  case atStart => exact ⟨0, Nat.zero_le _, rfl, Below.refl _ _, fun j hj => by omega⟩
  case round =>
    obtain ⟨k, hkN, rfl, hB, hz0⟩ := hrel
    have HZ0 := Lib.hid hz0
    clear hz0
    by_cases hlt : k < N
    · have d2 : decide ((k : Int) < (N : Int)) = true := yb (by omega)
      obtain ⟨b1, o1, rfl, hc1, g0, g1⟩ := RdG.at (HR.out.keep hB) HN.out k hlt
      obtain ⟨y, HY⟩ : ∃ y, Hid (gt l k = y) := ⟨_, rfl⟩
      rw [HY.out] at g0 g1
      have n1 : (0 : Int) ≤ (k : Int) := by omega
      have n2 : (k : Int) < (N : Int) := by omega
      have hwk : IntKind.i64.wrap (k : Int) = (k : Int) := IntWalk.i64_in _ (by omega)
      have hP := HP.out y wr hB
      cases hs : p y
      · rw [hs] at hP
        have HPP := Lib.hid hP
        have HS := Lib.hid hs
        clear hP hs
        go_wp2_with fail
        refine HPP.out.mono ?_
        rintro e w1 ⟨rfl, hb1⟩
        have hB1 := Below.next hB hb1
        clear hb1
        go_wp2_with fail
        go_roundw
        case rel => exact ⟨k + 1, by omega, by go_num, hB1, fun j hj => by
          by_cases hjk : j = k
          · subst hjk; rw [HY.out]; exact HS.out
          · exact HZ0.out j (by omega)⟩
        case measure => simp [intOf]; omega
      · obtain rfl : r = true := by
          rw [← HF.out]
          exact List.any_eq_true.2 ⟨y, by rw [← HY.out]; exact gt_mem (by rw [HN.out]; exact hlt), hs⟩
        rw [hs] at hP
        have HPP := Lib.hid hP
        clear hP hs
        go_wp2_with fail
        refine HPP.out.mono ?_
        rintro e w1 ⟨rfl, hb1⟩
        have hB1 := Below.next hB hb1
        clear hb1
        go_wp2_with fail
        go_ret
        exact ⟨⟨_, rfl, yb (by omega)⟩, hB1⟩
    · obtain rfl : k = N := by omega
      have d2 : decide ((k : Int) < (k : Int)) = false := nb (by omega)
      obtain rfl : r = false := by
        rw [← HF.out]
        refine List.any_eq_false.2 (fun x hx => ?_)
        obtain ⟨j, hj, rfl⟩ := mem_gt.1 hx
        rw [HZ0.out j (by rw [HN.out] at hj; exact hj)]
        decide
      go_wp2_with fail
      go_ret
      exact ⟨⟨_, rfl, nb (by omega)⟩, hB⟩
theorem lacks_has (v : Value) (l : List Tg) (p : Tg → Bool) (b : Nat) (w : World) (h : RdG w v l) (hp : ∀ (y : Tg) (wr : World), Below w.heap.size w wr → Calls Try.prog 67 #[y.v, ptr b] wr fun e w' => e = .returned (.bool (p y)) ∧ Below wr.heap.size wr w') (r : Bool) (hr : l.any p = r) :
    Calls Try.prog 69 #[v, .func (.func 67) #[] #[ptr b]] w fun e w' => e = .returned (.bool r) ∧ Below w.heap.size w w' := by
  obtain ⟨a0, n0, rfl⟩ := h.form
  have hP := lacks_ix (.slice a0 l.length n0) l p b w h hp
  rw [hr] at hP
  have HP := Lib.hid hP
  clear h hp hP hr
  go_enter Try.func69, Try.ntmps69
  go_wp2_with fail
  refine HP.out.mono ?_
  rintro e w1 ⟨⟨x, rfl, hx⟩, hb⟩
  go_wp2_with fail
  go_ret
  exact ⟨rfl, hb⟩
set_option maxHeartbeats 1000000 in
theorem eqt_ix (v : Value) (l : List Tg) (p : Tg → Bool) (b : Nat) (w : World) (h : RdG w v l) (hp : ∀ (y : Tg) (wr : World), Below w.heap.size w wr → Calls Try.prog 79 #[y.v, ptr b] wr fun e w' => e = .returned (.bool (p y)) ∧ Below wr.heap.size wr w') :
    Calls Try.prog 78 #[v, .func (.func 79) #[] #[ptr b]] w fun e w' => (∃ r : Int, e = .returned (.int .i64 r) ∧ decide (0 ≤ r) = l.any p) ∧ Below w.heap.size w w' := by
  obtain ⟨a0, n0, rfl⟩ := h.form
  have hmx := h.2.1
  unfold maxLen at hmx
  obtain ⟨N, hN⟩ : ∃ N, l.length = N := ⟨_, rfl⟩
  rw [hN] at h hmx ⊢
  have HN := Lib.hid hN
  obtain ⟨r, hr⟩ : ∃ r, l.any p = r := ⟨_, rfl⟩
  rw [hr]
  have HF := Lib.hid hr
  have HR := Lib.hid h
  have HP := Lib.hid hp
  clear hN h hr hp
  go_enter Try.func78, Try.ntmps78
  go_wp2_with fail
  go_loopw [8] (fun i wr => ∃ k : Nat, k ≤ N ∧ i = .int .i64 k ∧ Below w.heap.size w wr ∧ ∀ j, j < k → p (gt l j) = false) (fun i _ => N - (intOf i).toNat)
  case atStart => exact ⟨0, Nat.zero_le _, rfl, Below.refl _ _, fun j hj => by omega⟩
  case round =>
    obtain ⟨k, hkN, rfl, hB, hz0⟩ := hrel
    have HZ0 := Lib.hid hz0
    clear hz0
    by_cases hlt : k < N
    · have d2 : decide ((k : Int) < (N : Int)) = true := yb (by omega)
      obtain ⟨b1, o1, rfl, hc1, g0, g1⟩ := RdG.at (HR.out.keep hB) HN.out k hlt
      obtain ⟨y, HY⟩ : ∃ y, Hid (gt l k = y) := ⟨_, rfl⟩
      rw [HY.out] at g0 g1
      have n1 : (0 : Int) ≤ (k : Int) := by omega
      have n2 : (k : Int) < (N : Int) := by omega
      have hwk : IntKind.i64.wrap (k : Int) = (k : Int) := IntWalk.i64_in _ (by omega)
      have hP := HP.out y wr hB
      cases hs : p y
      · rw [hs] at hP
        have HPP := Lib.hid hP
        have HS := Lib.hid hs
        clear hP hs
        go_wp2_with fail
        refine HPP.out.mono ?_
        rintro e w1 ⟨rfl, hb1⟩
        have hB1 := Below.next hB hb1
        clear hb1
        go_wp2_with fail
        go_roundw
        case rel => exact ⟨k + 1, by omega, by go_num, hB1, fun j hj => by
          by_cases hjk : j = k
          · subst hjk; rw [HY.out]; exact HS.out
          · exact HZ0.out j (by omega)⟩
        case measure => simp [intOf]; omega
      · obtain rfl : r = true := by
          rw [← HF.out]
          exact List.any_eq_true.2 ⟨y, by rw [← HY.out]; exact gt_mem (by rw [HN.out]; exact hlt), hs⟩
        rw [hs] at hP
        have HPP := Lib.hid hP
        clear hP hs
        go_wp2_with fail
        refine HPP.out.mono ?_
        rintro e w1 ⟨rfl, hb1⟩
        have hB1 := Below.next hB hb1
        clear hb1
        go_wp2_with fail
        go_ret
        exact ⟨⟨_, rfl, yb (by omega)⟩, hB1⟩
    · obtain rfl : k = N := by omega
      have d2 : decide ((k : Int) < (k : Int)) = false := nb (by omega)
      obtain rfl : r = false := by
        rw [← HF.out]
        refine List.any_eq_false.2 (fun x hx => ?_)
        obtain ⟨j, hj, rfl⟩ := mem_gt.1 hx
        rw [HZ0.out j (by rw [HN.out] at hj; exact hj)]
        decide
      go_wp2_with fail
      go_ret
      exact ⟨⟨_, rfl, nb (by omega)⟩, hB⟩
theorem eqt_has (v : Value) (l : List Tg) (p : Tg → Bool) (b : Nat) (w : World) (h : RdG w v l) (hp : ∀ (y : Tg) (wr : World), Below w.heap.size w wr → Calls Try.prog 79 #[y.v, ptr b] wr fun e w' => e = .returned (.bool (p y)) ∧ Below wr.heap.size wr w') (r : Bool) (hr : l.any p = r) :
    Calls Try.prog 69 #[v, .func (.func 79) #[] #[ptr b]] w fun e w' => e = .returned (.bool r) ∧ Below w.heap.size w w' := by
  obtain ⟨a0, n0, rfl⟩ := h.form
  have hP := eqt_ix (.slice a0 l.length n0) l p b w h hp
  rw [hr] at hP
  have HP := Lib.hid hP
  clear h hp hP hr
  go_enter Try.func69, Try.ntmps69
  go_wp2_with fail
  refine HP.out.mono ?_
  rintro e w1 ⟨⟨x, rfl, hx⟩, hb⟩
  go_wp2_with fail
  go_ret
  exact ⟨rfl, hb⟩
/-- the closure 'wrong' -/
theorem wrong_any (w : World) (b c p T : Nat) (cv fv : Value) (q : List Cq) (X : Wd) (n : Int) (t : Tg) (h : BW w p T cv fv q X) (h0 : w.cell? ⟨b, 0, none⟩ = some (ptr p)) (h1 : w.cell? ⟨c, 0, none⟩ = some (.int .i64 n)) :
    Calls Try.prog 65 #[t.v, ptr b, ptr c] w fun e w' => e = .returned (.bool (!decide (tagOK X t n))) ∧ Below w.heap.size w w' := by
  obtain ⟨W, hW⟩ : ∃ W : World, W = w.alloc (.cells #[.int .i64 t.nd, .int .i64 t.of] 80) := ⟨_, rfl⟩
  have hB0 : Below w.heap.size w W := by rw [hW]; exact (by repeat (first | assumption | exact Below.refl _ _ | apply Below.al | apply below_drewN | apply Below.drew | refine Below.next ?_ (by assumption)))
  have bI : BoxN W w.heap.size 80 #[.int .i64 t.nd, .int .i64 t.of] := by rw [hW]; exact BoxN.new _ _ _
  have i0 : W.cell? ⟨w.heap.size, 0, none⟩ = some (.int .i64 t.nd) := bI.cell 0
  have i1 : W.cell? ⟨w.heap.size, 1, none⟩ = some (.int .i64 t.of) := bI.cell 1
  have j0 := cell_later hB0 h0
  have j1 := cell_later hB0 h1
  have HP := Lib.hid (tag_any W p T cv fv q X t n (h.keep hB0))
  obtain ⟨r, hr⟩ : ∃ r, decide (tagOK X t n) = r := ⟨_, rfl⟩
  rw [hr] at HP ⊢
  clear h bI hr h0 h1
  go_enter Try.func65, Try.ntmps65
  go_upto_region 1 with fail
  rw [← hW]
  clear hW
  go_wp2_with fail
  refine HP.out.mono ?_
  rintro e w1 ⟨rfl, hb⟩
  have hB := Below.next hB0 hb
  clear hb
  go_wp2_with fail
  go_ret
  exact ⟨rfl, hB⟩
/-- the closure 'lacks' -/
theorem lacks_any (w : World) (b g o : Nat) (y : Cq) (l : List Tg) (t : Tg) (h0 : w.cell? ⟨b, 0, none⟩ = some (.pointer (some ⟨g, o, none⟩))) (h1 : w.cell? ⟨g, o + 4, none⟩ = some y.tv) (h : RdG w y.tv l) :
    Calls Try.prog 67 #[t.v, ptr b] w fun e w' => e = .returned (.bool (!decide (t ∈ l))) ∧ Below w.heap.size w w' := by
  obtain ⟨W, hW⟩ : ∃ W : World, W = w.alloc (.cells #[.int .i64 t.nd, .int .i64 t.of] 80) := ⟨_, rfl⟩
  have hB0 : Below w.heap.size w W := by rw [hW]; exact (by repeat (first | assumption | exact Below.refl _ _ | apply Below.al | apply below_drewN | apply Below.drew | refine Below.next ?_ (by assumption)))
  have bI : BoxN W w.heap.size 80 #[.int .i64 t.nd, .int .i64 t.of] := by rw [hW]; exact BoxN.new _ _ _
  have i0 : W.cell? ⟨w.heap.size, 0, none⟩ = some (.int .i64 t.nd) := bI.cell 0
  have i1 : W.cell? ⟨w.heap.size, 1, none⟩ = some (.int .i64 t.of) := bI.cell 1
  have j0 := cell_later hB0 h0
  have j1 := cell_later hB0 h1
  have HR := Lib.hid (h.keep hB0)
  obtain ⟨r, hr⟩ : ∃ r, decide (t ∈ l) = r := ⟨_, rfl⟩
  have HRr := Lib.hid hr
  rw [hr]
  clear h bI hr h0 h1
  go_enter Try.func67, Try.ntmps67
  go_upto_region 1 with fail
  rw [← hW]
  clear hW
  refine wp_region_calm (fun w' => Below W.heap.size W w') 99 (by kernel_rfl) ((Below.refl _ W).drew) ?_
  refine cm_run 0 4 (v := ?_) rfl rfl (by kernel_rfl) (by kernel_rfl) (by kernel_rfl) (by kernel_rfl) (by kernel_rfl) (fun _ _ _ h => h) (by rfl) ?_ ?_
  rotate_left
  · (intro wS hS; have g := cell_later hS j0; go_simp; (try with_reducible rfl))
  simp only [List.setIfInBounds_toArray, List.set_cons_zero, List.set_cons_succ]
  refine cm_run 1 5 (v := ?_) rfl rfl (by kernel_rfl) (by kernel_rfl) (by kernel_rfl) (by kernel_rfl) (by kernel_rfl) (fun _ _ _ h => h) (by rfl) ?_ ?_
  rotate_left
  · (intro wS hS; skip; go_simp; (try with_reducible rfl))
  simp only [List.setIfInBounds_toArray, List.set_cons_zero, List.set_cons_succ]
  refine cm_run 2 6 (v := ?_) rfl rfl (by kernel_rfl) (by kernel_rfl) (by kernel_rfl) (by kernel_rfl) (by kernel_rfl) (fun _ _ _ h => h) (by rfl) ?_ ?_
  rotate_left
  · (intro wS hS; skip; go_simp; (try with_reducible rfl))
  simp only [List.setIfInBounds_toArray, List.set_cons_zero, List.set_cons_succ]
  refine cm_run 3 7 (v := ?_) rfl rfl (by kernel_rfl) (by kernel_rfl) (by kernel_rfl) (by kernel_rfl) (by kernel_rfl) (fun _ _ _ h => h) (by rfl) ?_ ?_
  rotate_left
  · (intro wS hS; have g := cell_later hS j1; go_simp; (try with_reducible rfl))
  simp only [List.setIfInBounds_toArray, List.set_cons_zero, List.set_cons_succ]
  refine cm_run 4 8 (v := ?_) rfl rfl (by kernel_rfl) (by kernel_rfl) (by kernel_rfl) (by kernel_rfl) (by kernel_rfl) (fun _ _ _ h => h) (by rfl) ?_ ?_
  rotate_left
  · (intro wS hS; (have g := cell_later hS i0; have g2 := cell_later hS i1); go_simp; (try with_reducible rfl))
  simp only [List.setIfInBounds_toArray, List.set_cons_zero, List.set_cons_succ]
  refine cm_call 5 9 68 (v := .bool r) (args := ?_) rfl rfl (by kernel_rfl) (by kernel_rfl) (by kernel_rfl) (by kernel_rfl) (by kernel_rfl) (fun _ _ _ h => h) (by rfl) ?_ ?_ ?_
  rotate_left 1
  · (intro wS hS; go_simp; (try with_reducible rfl))
  · (intro wS hS; refine (contains_any y.tv l t _ (HR.out.keep hS)).mono ?_; (rw [HRr.out]; rintro e w2 ⟨rfl, hb⟩; exact ⟨rfl, Below.next hS hb⟩))
  simp only [List.setIfInBounds_toArray, List.set_cons_zero, List.set_cons_succ]
  refine cm_run 6 10 (v := ?_) rfl rfl (by kernel_rfl) (by kernel_rfl) (by kernel_rfl) (by kernel_rfl) (by kernel_rfl) (fun _ _ _ h => h) (by rfl) ?_ ?_
  rotate_left
  · (intro wS hS; skip; go_simp; (try with_reducible rfl))
  simp only [List.setIfInBounds_toArray, List.set_cons_zero, List.set_cons_succ]
  refine cm_run 7 3 (v := ?_) rfl rfl (by kernel_rfl) (by kernel_rfl) (by kernel_rfl) (by kernel_rfl) (by kernel_rfl) (fun _ _ _ h => h) (by rfl) ?_ ?_
  rotate_left
  · (intro wS hS; skip; go_simp; (try with_reducible rfl))
  simp only [List.setIfInBounds_toArray, List.set_cons_zero, List.set_cons_succ]
  refine cm_done (by kernel_rfl) ?_
  intro wS hS
  refine NoPanic.normal ?_
  have hB1 := Below.next hB0 hS
  go_wp2_with fail
  go_ret
  exact ⟨rfl, hB1⟩
end Go.Proofs.Ytnkpjfogjkjcfaa
