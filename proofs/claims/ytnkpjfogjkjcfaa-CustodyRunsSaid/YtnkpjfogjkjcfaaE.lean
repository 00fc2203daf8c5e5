


/- Custody: the reference's looks at a world: nodes, offers that were made, whether a tag is among tags. -/
import Derived.Test.YtnkpjfogjkjcfaaC
import Derived.Test.YtnkpjfogjkjcfaaSY
namespace Go.Proofs.Ytnkpjfogjkjcfaa
open Go.RowKit
set_option linter.unusedSimpArgs false
set_option linter.unusedVariables false
set_option maxRecDepth 100000

theorem rnode_any (w : World) (cv fv : Value) (q : List Cq) (X : Wd) (n : Int) (h : PtW w cv fv q X) : Calls Try.prog 49 #[wV X cv fv, .int .i64 n] w fun e w' => e = .returned (.bool (decide (isN X n))) ∧ Below w.heap.size w w' := by
  obtain ⟨a, c, rfl⟩ := h.rows.form
  obtain ⟨fa, fc, rfl⟩ := h.frs.form
  have hl := h.len
  obtain ⟨N, hN⟩ : ∃ N, q.length = N := ⟨_, rfl⟩
  obtain ⟨F, hF⟩ : ∃ F, X.fr.length = F := ⟨_, rfl⟩
  obtain ⟨r, hr⟩ : ∃ r, decide (1 ≤ n ∧ n ≤ (N : Int)) = r := ⟨_, rfl⟩
  rw [show decide (isN X n) = r by rw [← hr]; apply decide_eq_decide.2; unfold isN; rw [← hl, hN]]
  rw [hN, hF]
  have h1 : (w.alloc (.cells #[.int .i64 X.ds, .slice a N c, .slice fa F fc] 25)).cell? ⟨w.heap.size, 1, none⟩ = some (.slice a N c) := (BoxN.new w 25 #[.int .i64 X.ds, .slice a N c, .slice fa F fc]).cell 1
  clear h hl hN hF
  by_cases c1 : 1 ≤ n
  · have d1 := yb c1
    by_cases c2 : n ≤ (N : Int)
    · have d2 := yb c2
      obtain rfl : r = true := by rw [← hr]; exact yb ⟨c1, c2⟩
      clear hr c1 c2
      go_enter Try.func49, Try.ntmps49
      go_wp2_with fail
      go_ret
      exact ⟨rfl, (by repeat (first | assumption | exact Below.refl _ _ | apply Below.al | apply below_drewN | apply Below.drew | refine Below.next ?_ (by assumption)))⟩
    · have d2 := nb c2
      obtain rfl : r = false := by rw [← hr]; exact nb (by omega)
      clear hr c1 c2
      go_enter Try.func49, Try.ntmps49
      go_wp2_with fail
      go_ret
      exact ⟨rfl, (by repeat (first | assumption | exact Below.refl _ _ | apply Below.al | apply below_drewN | apply Below.drew | refine Below.next ?_ (by assumption)))⟩
  · have d1 := nb c1
    obtain rfl : r = false := by rw [← hr]; exact nb (by omega)
    clear hr c1
    go_enter Try.func49, Try.ntmps49
    go_wp2_with fail
    go_ret
    exact ⟨rfl, (by repeat (first | assumption | exact Below.refl _ _ | apply Below.al | apply below_drewN | apply Below.drew | refine Below.next ?_ (by assumption)))⟩
def madeP (X : Wd) (n off : Int) : Prop := isN X n ∧ 0 ≤ off ∧ off < (atC X n).nx
instance (X : Wd) (n off : Int) : Decidable (madeP X n off) := by unfold madeP; infer_instance
theorem tagOK_made (X : Wd) (t : Tg) (n : Int) : tagOK X t n ↔ t.nd ≠ n ∧ madeP X t.nd t.of := by
  unfold tagOK madeP
  constructor
  · rintro ⟨h1, h2, h3, h4⟩; exact ⟨h2, h1, h3, h4⟩
  · rintro ⟨h2, h1, h3, h4⟩; exact ⟨h1, h2, h3, h4⟩
theorem rmade_any (w : World) (cv fv : Value) (q : List Cq) (X : Wd) (n off : Int) (h : PtW w cv fv q X) : Calls Try.prog 51 #[wV X cv fv, .int .i64 n, .int .i64 off] w fun e w' => e = .returned (.bool (decide (madeP X n off))) ∧ Below w.heap.size w w' := by
  obtain ⟨W, hW⟩ : ∃ W : World, W = w.alloc (.cells #[.int .i64 X.ds, cv, fv] 25) := ⟨_, rfl⟩
  have hB0 : Below w.heap.size w W := by rw [hW]; exact (by repeat (first | assumption | exact Below.refl _ _ | apply Below.al | apply below_drewN | apply Below.drew | refine Below.next ?_ (by assumption)))
  have bW : BoxN W w.heap.size 25 #[.int .i64 X.ds, cv, fv] := by rw [hW]; exact BoxN.new _ _ _
  have hh := h.keep hB0
  obtain ⟨r, hr⟩ : ∃ r, decide (madeP X n off) = r := ⟨_, rfl⟩
  rw [hr]
  have hi := rnode_any W cv fv q X n hh
  obtain ⟨a, c, rfl⟩ := h.rows.form
  obtain ⟨fa, fc, rfl⟩ := h.frs.form
  have hl := h.len
  obtain ⟨N, hN⟩ : ∃ N, q.length = N := ⟨_, rfl⟩
  obtain ⟨F, hF⟩ : ∃ F, X.fr.length = F := ⟨_, rfl⟩
  rw [hN, hF] at bW hW
  have s0 : W.cell? ⟨w.heap.size, 0, none⟩ = some (.int .i64 X.ds) := bW.cell 0
  have s1 : W.cell? ⟨w.heap.size, 1, none⟩ = some (.slice a N c) := bW.cell 1
  have s2 : W.cell? ⟨w.heap.size, 2, none⟩ = some (.slice fa F fc) := bW.cell 2
  have hi2 : Calls Try.prog 49 #[wV X (.slice a N c) (.slice fa F fc), .int .i64 n] W fun e w' => e = .returned (.bool (decide (isN X n))) ∧ Below W.heap.size W w' := by rw [← hN, ← hF]; exact hi
  rw [hN, hF]
  have HI := Lib.hid hi2
  clear hi hi2 bW h
  by_cases c1 : isN X n
  · rw [yb c1] at HI
    by_cases c2 : 0 ≤ off
    · have d2 := yb c2
      obtain ⟨i, hi, hti, he⟩ := atC_get c1
      rw [hN] at hh
      obtain ⟨g, o, rfl, _, hrow⟩ := RdC.at hh.rows hN i (by omega)
      have hnx := (hh.cop i).nx
      have hmx := hh.rows.2.1
      rw [hN] at hmx
      unfold maxLen at hmx
      obtain ⟨y, HY⟩ : ∃ y, Hid (gq q i = y) := ⟨_, rfl⟩
      rw [HY.out] at hrow hnx
      have g3 := hrow.2.2.2.1
      have i1 : (0 : Int) ≤ (i : Int) := by omega
      have i2 : (i : Int) < (N : Int) := by omega
      have hwi : IntKind.i64.wrap (i : Int) = (i : Int) := IntWalk.i64_in _ (by omega)
      have hwn : IntKind.i64.wrap (n - 1) = (i : Int) := by rw [show n - 1 = (i : Int) by omega]; exact hwi
      by_cases c3 : off < (gc X.cs i).nx
      · obtain rfl : r = true := by rw [← hr]; exact yb ⟨c1, c2, by rw [he]; exact c3⟩
        rw [← hnx] at c3
        have d3 := yb c3
        clear hr c1 c2 c3 hnx he hti hi hh
        go_enter Try.func51, Try.ntmps51
        go_upto_region 1 with fail
        rw [← hW]
        clear hW
        go_wp2_with fail
        refine HI.out.mono ?_
        rintro e w1 ⟨rfl, hb⟩
        have hB := Below.next hB0 hb
        have s0 := cell_later hb s0
        have s1 := cell_later hb s1
        have s2 := cell_later hb s2
        have g3 := cell_later hb g3
        clear hb
        go_wp2_with fail
        go_ret
        exact ⟨rfl, hB⟩
      · obtain rfl : r = false := by rw [← hr]; exact nb (fun hx => c3 (by rw [← he]; exact hx.2.2))
        rw [← hnx] at c3
        have d3 := nb c3
        clear hr c1 c2 c3 hnx he hti hi hh
        go_enter Try.func51, Try.ntmps51
        go_upto_region 1 with fail
        rw [← hW]
        clear hW
        go_wp2_with fail
        refine HI.out.mono ?_
        rintro e w1 ⟨rfl, hb⟩
        have hB := Below.next hB0 hb
        have s0 := cell_later hb s0
        have s1 := cell_later hb s1
        have s2 := cell_later hb s2
        have g3 := cell_later hb g3
        clear hb
        go_wp2_with fail
        go_ret
        exact ⟨rfl, hB⟩
    · have d2 := nb c2
      obtain rfl : r = false := by rw [← hr]; exact nb (fun hx => c2 hx.2.1)
      clear hr c1 c2 hh
      go_enter Try.func51, Try.ntmps51
      go_upto_region 1 with fail
      rw [← hW]
      clear hW
      go_wp2_with fail
      refine HI.out.mono ?_
      rintro e w1 ⟨rfl, hb⟩
      have hB := Below.next hB0 hb
      have s0 := cell_later hb s0
      have s1 := cell_later hb s1
      have s2 := cell_later hb s2
      clear hb
      go_wp2_with fail
      go_ret
      exact ⟨rfl, hB⟩
  · rw [nb c1] at HI
    obtain rfl : r = false := by rw [← hr]; exact nb (fun hx => c1 hx.1)
    clear hr c1 hh
    go_enter Try.func51, Try.ntmps51
    go_upto_region 1 with fail
    rw [← hW]
    clear hW
    go_wp2_with fail
    refine HI.out.mono ?_
    rintro e w1 ⟨rfl, hb⟩
    have hB := Below.next hB0 hb
    have s0 := cell_later hb s0
    have s1 := cell_later hb s1
    have s2 := cell_later hb s2
    clear hb
    go_wp2_with fail
    go_ret
    exact ⟨rfl, hB⟩
set_option maxHeartbeats 1000000 in
theorem rhas_any (v : Value) (l : List Tg) (t : Tg) (w : World) (h : RdG w v l) : Calls Try.prog 71 #[v, t.v] w fun e w' => e = .returned (.bool (decide (t ∈ l))) ∧ Below w.heap.size w w' := by
  obtain ⟨a0, n0, rfl⟩ := h.form
  have hmx := h.2.1
  unfold maxLen at hmx
  obtain ⟨N, hN⟩ : ∃ N, l.length = N := ⟨_, rfl⟩
  rw [hN] at h hmx ⊢
  have HN := Lib.hid hN
  obtain ⟨r, hr⟩ : ∃ r, decide (t ∈ l) = r := ⟨_, rfl⟩
  rw [hr]
  have HF := Lib.hid hr
  obtain ⟨W, hW⟩ : ∃ W : World, W = w.alloc (.cells #[.int .i64 t.nd, .int .i64 t.of] 80) := ⟨_, rfl⟩
  have hB0 : Below w.heap.size w W := by rw [hW]; exact (by repeat (first | assumption | exact Below.refl _ _ | apply Below.al | apply below_drewN | apply Below.drew | refine Below.next ?_ (by assumption)))
  have bI : BoxN W w.heap.size 80 #[.int .i64 t.nd, .int .i64 t.of] := by rw [hW]; exact BoxN.new _ _ _
  have i0 : W.cell? ⟨w.heap.size, 0, none⟩ = some (.int .i64 t.nd) := bI.cell 0
  have i1 : W.cell? ⟨w.heap.size, 1, none⟩ = some (.int .i64 t.of) := bI.cell 1
  have HR := Lib.hid (h.keep hB0)
  clear hN h hr bI
  go_enter Try.func71, Try.ntmps71
  go_upto_region 1 with fail
  rw [← hW]
  clear hW
  go_wp2_with fail
  go_loopw [5] (fun i wr => ∃ k : Nat, k ≤ N ∧ i = .int .i64 k ∧ Below W.heap.size W wr ∧ ∀ j, j < k → t ≠ gt l j) (fun i _ => N - (intOf i).toNat)
  case atStart => exact ⟨0, Nat.zero_le _, rfl, Below.refl _ _, fun j hj => by omega⟩
  case round =>
    obtain ⟨k, hkN, rfl, hB, hz0⟩ := hrel
    have HZ0 := Lib.hid hz0
    clear hz0
    by_cases hlt : k < N
    · have d2 : decide ((k : Int) < (N : Int)) = true := yb (by omega)
      obtain ⟨b1, o1, rfl, hc1, g0, g1⟩ := RdG.at (HR.out.keep hB) HN.out k hlt
      obtain ⟨y, HY⟩ : ∃ y, Hid (gt l k = y) := ⟨_, rfl⟩
      rw [HY.out] at g0 g1
      have j0 := cell_later hB i0
      have j1 := cell_later hB i1
      have n1 : (0 : Int) ≤ (k : Int) := by omega
      have n2 : (k : Int) < (N : Int) := by omega
      have hwk : IntKind.i64.wrap (k : Int) = (k : Int) := IntWalk.i64_in _ (by omega)
      rcases tg_cases y t with ⟨he, d3, d4⟩ | ⟨hne, d3⟩ | ⟨hne, d3, d4⟩
      · obtain rfl : r = true := by rw [← HF.out]; exact yb (mem_gt.2 ⟨k, by rw [HN.out]; exact hlt, by rw [HY.out, he]⟩)
        clear he
        go_wp2_with fail
        go_quiet (fail)
        go_wp2_with fail
        go_ret
        exact ⟨rfl, Below.next hB0 (below_drewN hB _)⟩
      · have HNE := Lib.hid (Ne.symm hne)
        clear hne
        obtain ⟨c4, d4⟩ : ∃ c, (y.of == t.of) = c := ⟨_, rfl⟩
        cases c4
        all_goals
          go_wp2_with fail
          go_quiet (fail)
          go_wp2_with fail
          go_roundw
          case rel => exact ⟨k + 1, by omega, by go_num, below_drewN hB _, fun j hj => by
            by_cases hjk : j = k
            · subst hjk; rw [HY.out]; exact HNE.out
            · exact HZ0.out j (by omega)⟩
          case measure => simp [intOf]; omega
      · have HNE := Lib.hid (Ne.symm hne)
        clear hne
        go_wp2_with fail
        go_quiet (fail)
        go_wp2_with fail
        go_roundw
        case rel => exact ⟨k + 1, by omega, by go_num, below_drewN hB _, fun j hj => by
          by_cases hjk : j = k
          · subst hjk; rw [HY.out]; exact HNE.out
          · exact HZ0.out j (by omega)⟩
        case measure => simp [intOf]; omega
    · obtain rfl : k = N := by omega
      have d2 : decide ((k : Int) < (k : Int)) = false := nb (by omega)
      obtain rfl : r = false := by
        rw [← HF.out]
        refine nb (fun hm => ?_)
        obtain ⟨j, hj, he⟩ := mem_gt.1 hm
        exact HZ0.out j (by rw [HN.out] at hj; exact hj) he.symm
      go_wp2_with fail
      go_ret
      exact ⟨rfl, Below.next hB0 hB⟩
end Go.Proofs.Ytnkpjfogjkjcfaa
