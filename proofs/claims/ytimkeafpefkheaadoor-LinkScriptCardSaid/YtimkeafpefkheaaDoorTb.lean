

/- Links: a fault made of a number. -/
import Derived.Test.YtimkeafpefkheaaDoorBy
namespace Go.Proofs.YtimkeafpefkheaaDoor
open Go.RowKit
set_option linter.unusedSimpArgs false
set_option linter.unusedVariables false
set_option maxRecDepth 100000

theorem chk_ok {l : List Fr} (hl : l.length ≤ 64) (hs : ∀ s, s ∈ l → 1 ≤ s.size ∧ s.size ≤ 1200) : chkL l = (0, 0) := by
  unfold chkL
  rw [if_neg (by omega)]
  refine scanL_zero _ fun j hj => ?_
  have := hs (l.getD j e0) (by rw [List.getD_eq_getElem?_getD, List.getElem?_eq_getElem hj]; exact List.getElem_mem hj)
  unfold oneE
  rw [if_neg (by omega), if_neg (by omega)]
/-- the fault that a number makes for a link -/
def trbV (l : List Fr) (n : Int) : Tr :=
  let i := n / 5 % l.length
  let z := ((l.getD i.toNat e0).size : Int)
  if n % 5 = 2 then ⟨3, i, n / 100 % l.length, 0⟩
  else if n % 5 = 3 then ⟨4, i, n / 100 % z, 1 + n / 1000 % 255⟩
  else if n % 5 = 4 then (if z = 1 then ⟨2, i, 0, 0⟩ else ⟨5, i, 1, 0⟩)
  else ⟨1 + n % 5, i, 0, 0⟩
theorem trb_ok {l : List Fr} (h0 : l.length ≠ 0) (h63 : l.length ≤ 63) (hs : ∀ s, s ∈ l → 1 ≤ s.size ∧ s.size ≤ 1200) (n : Int) (hn : 0 ≤ n) : apE l (trbV l n) = 0 ∧ TrOk (trbV l n) := by
  have hi : 0 ≤ n / 5 % l.length ∧ n / 5 % l.length < l.length := ⟨Int.emod_nonneg _ (by omega), Int.emod_lt_of_pos _ (by omega)⟩
  have hj : 0 ≤ n / 100 % l.length ∧ n / 100 % l.length < l.length := ⟨Int.emod_nonneg _ (by omega), Int.emod_lt_of_pos _ (by omega)⟩
  unfold trbV
  dsimp only
  generalize n / 5 % (l.length : Int) = i at hi ⊢
  generalize n / 100 % (l.length : Int) = j at hj ⊢
  have hz := hs (l.getD i.toNat e0) (by rw [List.getD_eq_getElem?_getD, List.getElem?_eq_getElem (by omega)]; exact List.getElem_mem _)
  have hk : 0 ≤ n / 100 % ((l.getD i.toNat e0).size : Int) ∧ n / 100 % ((l.getD i.toNat e0).size : Int) < ((l.getD i.toNat e0).size : Int) := ⟨Int.emod_nonneg _ (by omega), Int.emod_lt_of_pos _ (by omega)⟩
  generalize n / 100 % ((l.getD i.toNat e0).size : Int) = k at hk ⊢
  have hc : (chkL l).1 = 0 := by rw [chk_ok (by omega) hs]
  have key : ∀ t : Tr, t.i = i → 1 ≤ t.k → t.k ≤ 5 → fitT l t = true → apE l t = 0 := fun t h1 h2 h3 h4 => by
    unfold apE
    rw [if_neg (by simpa using hc), if_neg (by omega), if_neg (by omega), if_neg (by omega), if_neg (by simp [h4])]
  have q : n % 5 = 0 ∨ n % 5 = 1 ∨ n % 5 = 2 ∨ n % 5 = 3 ∨ n % 5 = 4 := by omega
  have hb : 0 ≤ n / 1000 % 255 ∧ n / 1000 % 255 < 255 := by omega
  generalize n / 1000 % 255 = b at hb ⊢
  have hok : ∀ a b c d : Int, 0 ≤ a → a ≤ 100000 → 0 ≤ b → b ≤ 100000 → 0 ≤ c → c ≤ 100000 → 0 ≤ d → d ≤ 100000 → TrOk ⟨a, b, c, d⟩ := fun a b c d _ _ _ _ _ _ _ _ => ⟨⟨by dsimp only; omega, by dsimp only; omega⟩, ⟨by dsimp only; omega, by dsimp only; omega⟩, ⟨by dsimp only; omega, by dsimp only; omega⟩, ⟨by dsimp only; omega, by dsimp only; omega⟩⟩
  rcases q with q | q | q | q | q <;> rw [q]
  · rw [if_neg (by decide), if_neg (by decide), if_neg (by decide)]
    exact ⟨key _ rfl (by dsimp only; omega) (by dsimp only; omega) (by simp [fitT]), hok _ _ _ _ (by omega) (by omega) (by omega) (by omega) (by omega) (by omega) (by omega) (by omega)⟩
  · rw [if_neg (by decide), if_neg (by decide), if_neg (by decide)]
    exact ⟨key _ rfl (by dsimp only; omega) (by dsimp only; omega) (by simp [fitT]), hok _ _ _ _ (by omega) (by omega) (by omega) (by omega) (by omega) (by omega) (by omega) (by omega)⟩
  · rw [if_pos rfl]
    exact ⟨key _ rfl (by dsimp only; omega) (by dsimp only; omega) (by simp [fitT]; omega), hok _ _ _ _ (by omega) (by omega) (by omega) (by omega) (by omega) (by omega) (by omega) (by omega)⟩
  · rw [if_neg (by decide), if_pos rfl]
    refine ⟨key _ rfl (by dsimp only; omega) (by dsimp only; omega) ?_, hok _ _ _ _ (by omega) (by omega) (by omega) (by omega) (by omega) (by omega) (by omega) (by omega)⟩
    unfold fitT
    dsimp only
    rw [if_neg (by decide), if_neg (by decide), if_pos rfl]
    simp only [Bool.and_eq_true, decide_eq_true_eq]
    omega
  · rw [if_neg (by decide), if_neg (by decide), if_pos rfl]
    by_cases h1 : ((l.getD i.toNat e0).size : Int) = 1
    · rw [if_pos h1]
      exact ⟨key _ rfl (by dsimp only; omega) (by dsimp only; omega) (by simp [fitT]), hok _ _ _ _ (by omega) (by omega) (by omega) (by omega) (by omega) (by omega) (by omega) (by omega)⟩
    · rw [if_neg h1]
      refine ⟨key _ rfl (by dsimp only; omega) (by dsimp only; omega) ?_, hok _ _ _ _ (by omega) (by omega) (by omega) (by omega) (by omega) (by omega) (by omega) (by omega)⟩
      unfold fitT
      dsimp only
      rw [if_neg (by decide), if_neg (by decide), if_neg (by decide)]
      rw [yb (show (1 : Int) ≤ 1 by omega), yb (show (1 : Int) < ((l.getD i.toNat e0).size : Int) by omega), yb (show (0 : Int) = 0 from rfl)]
      rfl
set_option maxHeartbeats 4000000 in
theorem trouble_any (v : Value) (l : List Fr) (x : Int) (hx : Ib x) (h0 : l.length ≠ 0) (h63 : l.length ≤ 63) (hs : ∀ s, s ∈ l → 1 ≤ s.size ∧ s.size ≤ 1200) (w : World) (h : RdT w v l) :
    Calls Tryd.prog 28 #[v, .int .i64 x] w fun e w' => e = .returned (trbV l (x % 1073741824)).v ∧ Below w.heap.size w w' := by
  obtain ⟨n, hn⟩ : ∃ n, x % 1073741824 = n := ⟨_, rfl⟩
  rw [hn]
  have hn0 : 0 ≤ n ∧ n < 1073741824 := by omega
  have HN2 := Lib.hid hn
  clear hn
  obtain ⟨a0, n0, rfl⟩ := h.form
  obtain ⟨N, hN⟩ : ∃ N, l.length = N := ⟨_, rfl⟩
  have HN := Lib.hid hN
  obtain ⟨t, HT⟩ : ∃ t, Hid (trbV l n = t) := ⟨_, rfl⟩
  rw [HT.out]
  have hT := HT.out
  unfold trbV at hT
  dsimp only at hT
  rw [hN] at h h0 h63 hT ⊢
  have hi0 : 0 ≤ n / 5 % (N : Int) := Int.emod_nonneg _ (by omega)
  have hi1 : n / 5 % (N : Int) < N := Int.emod_lt_of_pos _ (by omega)
  obtain ⟨i, hi⟩ : ∃ i : Nat, n / 5 % (N : Int) = i := ⟨(n / 5 % (N : Int)).toNat, by omega⟩
  rw [hi] at hi0 hi1 hT
  rw [show ((i : Int)).toNat = i by omega] at hT
  obtain ⟨b, off, rfl, hcap, hc⟩ := RdT.at h hN i (by omega)
  obtain ⟨s, hse⟩ : ∃ s, l.getD i e0 = s := ⟨_, rfl⟩
  have hsz := hs (l.getD i e0) (by rw [List.getD_eq_getElem?_getD, List.getElem?_eq_getElem (by omega)]; exact List.getElem_mem _)
  rw [hse] at hc hT hsz
  obtain ⟨W, hW⟩ : ∃ W : World, W = (w.alloc (.cells #[.int .i64 0, .int .i64 0, .int .i64 0, .int .i64 0] 36)).alloc (.cells #[.int .i64 (1 + n % 5), .int .i64 (i : Int), .int .i64 0, .int .i64 0] 36) := ⟨_, rfl⟩
  have hB : Below w.heap.size w W := by rw [hW]; exact (by repeat (first | assumption | exact Below.refl _ _ | apply Below.al | apply below_drewN | apply Below.drew | refine Below.next ?_ (by assumption)))
  have hcW := cell_later hB hc
  have bA : BoxN W w.heap.size 36 #[.int .i64 0, .int .i64 0, .int .i64 0, .int .i64 0] := by rw [hW]; exact (BoxN.new w _ _).below (Below.al (Below.refl _ _) _)
  have bT : BoxN W (w.heap.size + 1) 36 #[.int .i64 (1 + n % 5), .int .i64 (i : Int), .int .i64 0, .int .i64 0] := by
    rw [hW]
    have := BoxN.new (w.alloc (.cells #[.int .i64 0, .int .i64 0, .int .i64 0, .int .i64 0] 36)) 36 #[.int .i64 (1 + n % 5), .int .i64 (i : Int), .int .i64 0, .int .i64 0]
    simpa using this
  have HI := Lib.hid hi
  clear hi h hN
  have q : n % 5 = 0 ∨ n % 5 = 1 ∨ n % 5 = 2 ∨ n % 5 = 3 ∨ n % 5 = 4 := by omega
  have hN0 : ((N : Int) == 0) = false := by simp; omega
  have hblt := cell_lt hc
  dsimp only at hblt
  have hcS : (W.setCell ⟨w.heap.size + 1, 2, none⟩ (.int .i64 1)).cell? ⟨b, off + i, none⟩ = some (.string s) := cell_set _ (by show b ≠ w.heap.size + 1; omega) hcW
  have hw5 : IntKind.i64.wrap (1 + n % 5) = 1 + n % 5 := IntWalk.i64_in _ (by omega)
  rcases q with q | q | q | q | q
  · rw [q, if_neg (by decide), if_neg (by decide), if_neg (by decide)] at hT
    subst hT
    have t0 : W.cell? ⟨w.heap.size + 1, 0, none⟩ = some (.int .i64 1) := by rw [bT.cell]; simp [q]
    have t1 : W.cell? ⟨w.heap.size + 1, 1, none⟩ = some (.int .i64 (i : Int)) := bT.cell 1
    have t2 : W.cell? ⟨w.heap.size + 1, 2, none⟩ = some (.int .i64 0) := bT.cell 2
    have t3 : W.cell? ⟨w.heap.size + 1, 3, none⟩ = some (.int .i64 0) := bT.cell 3
    have r0 : W.cell? ⟨w.heap.size, 0, none⟩ = some (.int .i64 0) := bA.cell 0
    have r1 : W.cell? ⟨w.heap.size, 1, none⟩ = some (.int .i64 0) := bA.cell 1
    have r2 : W.cell? ⟨w.heap.size, 2, none⟩ = some (.int .i64 0) := bA.cell 2
    have r3 : W.cell? ⟨w.heap.size, 3, none⟩ = some (.int .i64 0) := bA.cell 3
    have z0 := bA.frozen 0
    have z1 := bA.frozen 1
    have z2 := bA.frozen 2
    have z3 := bA.frozen 3
    have y0 := bT.frozen 0
    have y1 := bT.frozen 1
    have y2 := bT.frozen 2
    have y3 := bT.frozen 3
    clear bA bT
    clear q
    go_enter Tryd.func28, Tryd.ntmps28
    go_wp2_with fail
    refine (mod_any x 1073741824 (by omega) (by omega) hx _).mono ?_
    rw [HN2.out]
    rintro e w1 ⟨rfl, rfl⟩
    go_upto_region 3 with fail
    rw [HI.out, ← hW]
    clear hW
    go_wp2_with fail
    refine bodyPost_ret (v := .agg #[.int .i64 1, .int .i64 (i : Int), .int .i64 0, .int .i64 0]) (by simp [results, Tryd.results28, go_sem, r0, r1, r2, r3]) rfl ⟨rfl, ?_⟩
    exact ((((hB).setCell (p := ⟨w.heap.size, 0, none⟩) (Nat.le_refl _) _).setCell (p := ⟨w.heap.size, 1, none⟩) (Nat.le_refl _) _).setCell (p := ⟨w.heap.size, 2, none⟩) (Nat.le_refl _) _).setCell (p := ⟨w.heap.size, 3, none⟩) (Nat.le_refl _) _
  · rw [q, if_neg (by decide), if_neg (by decide), if_neg (by decide)] at hT
    subst hT
    have t0 : W.cell? ⟨w.heap.size + 1, 0, none⟩ = some (.int .i64 2) := by rw [bT.cell]; simp [q]
    have t1 : W.cell? ⟨w.heap.size + 1, 1, none⟩ = some (.int .i64 (i : Int)) := bT.cell 1
    have t2 : W.cell? ⟨w.heap.size + 1, 2, none⟩ = some (.int .i64 0) := bT.cell 2
    have t3 : W.cell? ⟨w.heap.size + 1, 3, none⟩ = some (.int .i64 0) := bT.cell 3
    have r0 : W.cell? ⟨w.heap.size, 0, none⟩ = some (.int .i64 0) := bA.cell 0
    have r1 : W.cell? ⟨w.heap.size, 1, none⟩ = some (.int .i64 0) := bA.cell 1
    have r2 : W.cell? ⟨w.heap.size, 2, none⟩ = some (.int .i64 0) := bA.cell 2
    have r3 : W.cell? ⟨w.heap.size, 3, none⟩ = some (.int .i64 0) := bA.cell 3
    have z0 := bA.frozen 0
    have z1 := bA.frozen 1
    have z2 := bA.frozen 2
    have z3 := bA.frozen 3
    have y0 := bT.frozen 0
    have y1 := bT.frozen 1
    have y2 := bT.frozen 2
    have y3 := bT.frozen 3
    clear bA bT
    clear q
    go_enter Tryd.func28, Tryd.ntmps28
    go_wp2_with fail
    refine (mod_any x 1073741824 (by omega) (by omega) hx _).mono ?_
    rw [HN2.out]
    rintro e w1 ⟨rfl, rfl⟩
    go_upto_region 3 with fail
    rw [HI.out, ← hW]
    clear hW
    go_wp2_with fail
    refine bodyPost_ret (v := .agg #[.int .i64 2, .int .i64 (i : Int), .int .i64 0, .int .i64 0]) (by simp [results, Tryd.results28, go_sem, r0, r1, r2, r3]) rfl ⟨rfl, ?_⟩
    exact ((((hB).setCell (p := ⟨w.heap.size, 0, none⟩) (Nat.le_refl _) _).setCell (p := ⟨w.heap.size, 1, none⟩) (Nat.le_refl _) _).setCell (p := ⟨w.heap.size, 2, none⟩) (Nat.le_refl _) _).setCell (p := ⟨w.heap.size, 3, none⟩) (Nat.le_refl _) _
  · rw [q, if_pos rfl] at hT
    obtain ⟨j, hj⟩ : ∃ j, n / 100 % (N : Int) = j := ⟨_, rfl⟩
    rw [hj] at hT
    subst hT
    have t0 : W.cell? ⟨w.heap.size + 1, 0, none⟩ = some (.int .i64 3) := by rw [bT.cell]; simp [q]
    have t1 : W.cell? ⟨w.heap.size + 1, 1, none⟩ = some (.int .i64 (i : Int)) := bT.cell 1
    have t2 : W.cell? ⟨w.heap.size + 1, 2, none⟩ = some (.int .i64 0) := bT.cell 2
    have t3 : W.cell? ⟨w.heap.size + 1, 3, none⟩ = some (.int .i64 0) := bT.cell 3
    have r0 : W.cell? ⟨w.heap.size, 0, none⟩ = some (.int .i64 0) := bA.cell 0
    have r1 : W.cell? ⟨w.heap.size, 1, none⟩ = some (.int .i64 0) := bA.cell 1
    have r2 : W.cell? ⟨w.heap.size, 2, none⟩ = some (.int .i64 0) := bA.cell 2
    have r3 : W.cell? ⟨w.heap.size, 3, none⟩ = some (.int .i64 0) := bA.cell 3
    have z0 := bA.frozen 0
    have z1 := bA.frozen 1
    have z2 := bA.frozen 2
    have z3 := bA.frozen 3
    have y0 := bT.frozen 0
    have y1 := bT.frozen 1
    have y2 := bT.frozen 2
    have y3 := bT.frozen 3
    clear bA bT
    clear q
    go_enter Tryd.func28, Tryd.ntmps28
    go_wp2_with fail
    refine (mod_any x 1073741824 (by omega) (by omega) hx _).mono ?_
    rw [HN2.out]
    rintro e w1 ⟨rfl, rfl⟩
    go_upto_region 3 with fail
    rw [HI.out, ← hW]
    clear hW
    go_wp2_with fail
    refine bodyPost_ret (v := .agg #[.int .i64 3, .int .i64 (i : Int), .int .i64 j, .int .i64 0]) (by simp [results, Tryd.results28, go_sem, r0, r1, r2, r3]) rfl ⟨rfl, ?_⟩
    exact (((((hB).setCell (p := ⟨w.heap.size + 1, 2, none⟩) (Nat.le_succ _) _).setCell (p := ⟨w.heap.size, 0, none⟩) (Nat.le_refl _) _).setCell (p := ⟨w.heap.size, 1, none⟩) (Nat.le_refl _) _).setCell (p := ⟨w.heap.size, 2, none⟩) (Nat.le_refl _) _).setCell (p := ⟨w.heap.size, 3, none⟩) (Nat.le_refl _) _
  · rw [q, if_neg (by decide), if_pos rfl] at hT
    obtain ⟨j, hj⟩ : ∃ j, n / 100 % (s.size : Int) = j := ⟨_, rfl⟩
    have hw6 : IntKind.i64.wrap (1 + n / 1000 % 255) = 1 + n / 1000 % 255 := IntWalk.i64_in _ (by omega)
    rw [hj] at hT
    subst hT
    have t0 : W.cell? ⟨w.heap.size + 1, 0, none⟩ = some (.int .i64 4) := by rw [bT.cell]; simp [q]
    have t1 : W.cell? ⟨w.heap.size + 1, 1, none⟩ = some (.int .i64 (i : Int)) := bT.cell 1
    have t2 : W.cell? ⟨w.heap.size + 1, 2, none⟩ = some (.int .i64 0) := bT.cell 2
    have t3 : W.cell? ⟨w.heap.size + 1, 3, none⟩ = some (.int .i64 0) := bT.cell 3
    have r0 : W.cell? ⟨w.heap.size, 0, none⟩ = some (.int .i64 0) := bA.cell 0
    have r1 : W.cell? ⟨w.heap.size, 1, none⟩ = some (.int .i64 0) := bA.cell 1
    have r2 : W.cell? ⟨w.heap.size, 2, none⟩ = some (.int .i64 0) := bA.cell 2
    have r3 : W.cell? ⟨w.heap.size, 3, none⟩ = some (.int .i64 0) := bA.cell 3
    have z0 := bA.frozen 0
    have z1 := bA.frozen 1
    have z2 := bA.frozen 2
    have z3 := bA.frozen 3
    have y0 := bT.frozen 0
    have y1 := bT.frozen 1
    have y2 := bT.frozen 2
    have y3 := bT.frozen 3
    clear bA bT
    clear q
    go_enter Tryd.func28, Tryd.ntmps28
    go_wp2_with fail
    refine (mod_any x 1073741824 (by omega) (by omega) hx _).mono ?_
    rw [HN2.out]
    rintro e w1 ⟨rfl, rfl⟩
    go_upto_region 3 with fail
    rw [HI.out, ← hW]
    clear hW
    go_wp2_with fail
    refine bodyPost_ret (v := .agg #[.int .i64 4, .int .i64 (i : Int), .int .i64 j, .int .i64 (1 + n / 1000 % 255)]) (by simp [results, Tryd.results28, go_sem, r0, r1, r2, r3]) rfl ⟨rfl, ?_⟩
    exact ((((((hB).setCell (p := ⟨w.heap.size + 1, 2, none⟩) (Nat.le_succ _) _).setCell (p := ⟨w.heap.size + 1, 3, none⟩) (Nat.le_succ _) _).setCell (p := ⟨w.heap.size, 0, none⟩) (Nat.le_refl _) _).setCell (p := ⟨w.heap.size, 1, none⟩) (Nat.le_refl _) _).setCell (p := ⟨w.heap.size, 2, none⟩) (Nat.le_refl _) _).setCell (p := ⟨w.heap.size, 3, none⟩) (Nat.le_refl _) _
  · rw [q, if_neg (by decide), if_neg (by decide), if_pos rfl] at hT
    by_cases h1 : ((s.size : Int)) = 1
    · rw [if_pos h1] at hT
      have d1 : ((s.size : Int) == 1) = true := by simp [h1]
      have d1' : (s.size == 1) = true := by simp; omega
      clear h1
      subst hT
      have t0 : W.cell? ⟨w.heap.size + 1, 0, none⟩ = some (.int .i64 5) := by rw [bT.cell]; simp [q]
      have t1 : W.cell? ⟨w.heap.size + 1, 1, none⟩ = some (.int .i64 (i : Int)) := bT.cell 1
      have t2 : W.cell? ⟨w.heap.size + 1, 2, none⟩ = some (.int .i64 0) := bT.cell 2
      have t3 : W.cell? ⟨w.heap.size + 1, 3, none⟩ = some (.int .i64 0) := bT.cell 3
      have r0 : W.cell? ⟨w.heap.size, 0, none⟩ = some (.int .i64 0) := bA.cell 0
      have r1 : W.cell? ⟨w.heap.size, 1, none⟩ = some (.int .i64 0) := bA.cell 1
      have r2 : W.cell? ⟨w.heap.size, 2, none⟩ = some (.int .i64 0) := bA.cell 2
      have r3 : W.cell? ⟨w.heap.size, 3, none⟩ = some (.int .i64 0) := bA.cell 3
      have z0 := bA.frozen 0
      have z1 := bA.frozen 1
      have z2 := bA.frozen 2
      have z3 := bA.frozen 3
      have y0 := bT.frozen 0
      have y1 := bT.frozen 1
      have y2 := bT.frozen 2
      have y3 := bT.frozen 3
      clear bA bT
      clear q
      go_enter Tryd.func28, Tryd.ntmps28
      go_wp2_with fail
      refine (mod_any x 1073741824 (by omega) (by omega) hx _).mono ?_
      rw [HN2.out]
      rintro e w1 ⟨rfl, rfl⟩
      go_upto_region 3 with fail
      rw [HI.out, ← hW]
      clear hW
      go_wp2_with fail
      refine bodyPost_ret (v := .agg #[.int .i64 2, .int .i64 (i : Int), .int .i64 0, .int .i64 0]) (by simp [results, Tryd.results28, go_sem, r0, r1, r2, r3]) rfl ⟨rfl, ?_⟩
      exact (((((((((hB).setCell (p := ⟨w.heap.size + 1, 2, none⟩) (Nat.le_succ _) _).setCell (p := ⟨w.heap.size + 1, 0, none⟩) (Nat.le_succ _) _).setCell (p := ⟨w.heap.size + 1, 1, none⟩) (Nat.le_succ _) _).setCell (p := ⟨w.heap.size + 1, 2, none⟩) (Nat.le_succ _) _).setCell (p := ⟨w.heap.size + 1, 3, none⟩) (Nat.le_succ _) _).setCell (p := ⟨w.heap.size, 0, none⟩) (Nat.le_refl _) _).setCell (p := ⟨w.heap.size, 1, none⟩) (Nat.le_refl _) _).setCell (p := ⟨w.heap.size, 2, none⟩) (Nat.le_refl _) _).setCell (p := ⟨w.heap.size, 3, none⟩) (Nat.le_refl _) _
    · rw [if_neg h1] at hT
      have d1 : ((s.size : Int) == 1) = false := by simp; omega
      have d1' : (s.size == 1) = false := by simp; omega
      clear h1
      subst hT
      have t0 : W.cell? ⟨w.heap.size + 1, 0, none⟩ = some (.int .i64 5) := by rw [bT.cell]; simp [q]
      have t1 : W.cell? ⟨w.heap.size + 1, 1, none⟩ = some (.int .i64 (i : Int)) := bT.cell 1
      have t2 : W.cell? ⟨w.heap.size + 1, 2, none⟩ = some (.int .i64 0) := bT.cell 2
      have t3 : W.cell? ⟨w.heap.size + 1, 3, none⟩ = some (.int .i64 0) := bT.cell 3
      have r0 : W.cell? ⟨w.heap.size, 0, none⟩ = some (.int .i64 0) := bA.cell 0
      have r1 : W.cell? ⟨w.heap.size, 1, none⟩ = some (.int .i64 0) := bA.cell 1
      have r2 : W.cell? ⟨w.heap.size, 2, none⟩ = some (.int .i64 0) := bA.cell 2
      have r3 : W.cell? ⟨w.heap.size, 3, none⟩ = some (.int .i64 0) := bA.cell 3
      have z0 := bA.frozen 0
      have z1 := bA.frozen 1
      have z2 := bA.frozen 2
      have z3 := bA.frozen 3
      have y0 := bT.frozen 0
      have y1 := bT.frozen 1
      have y2 := bT.frozen 2
      have y3 := bT.frozen 3
      clear bA bT
      clear q
      go_enter Tryd.func28, Tryd.ntmps28
      go_wp2_with fail
      refine (mod_any x 1073741824 (by omega) (by omega) hx _).mono ?_
      rw [HN2.out]
      rintro e w1 ⟨rfl, rfl⟩
      go_upto_region 3 with fail
      rw [HI.out, ← hW]
      clear hW
      go_wp2_with fail
      refine bodyPost_ret (v := .agg #[.int .i64 5, .int .i64 (i : Int), .int .i64 1, .int .i64 0]) (by simp [results, Tryd.results28, go_sem, r0, r1, r2, r3]) rfl ⟨rfl, ?_⟩
      exact (((((hB).setCell (p := ⟨w.heap.size + 1, 2, none⟩) (Nat.le_succ _) _).setCell (p := ⟨w.heap.size, 0, none⟩) (Nat.le_refl _) _).setCell (p := ⟨w.heap.size, 1, none⟩) (Nat.le_refl _) _).setCell (p := ⟨w.heap.size, 2, none⟩) (Nat.le_refl _) _).setCell (p := ⟨w.heap.size, 3, none⟩) (Nat.le_refl _) _
end Go.Proofs.YtimkeafpefkheaaDoor
