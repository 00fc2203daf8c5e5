


/- Timers: the reference's find, copies and comparisons of lists. -/
import Derived.Test.YtigmhglkohjlhaaD
namespace Go.Proofs.Ytigmhglkohjlhaa
open Go.RowKit
set_option linter.unusedSimpArgs false
set_option linter.unusedVariables false
set_option maxRecDepth 100000

set_option maxHeartbeats 2000000 in
theorem rfind_any (v : Value) (l : List Tm) (t : Tm) (w : World) (h : RdM w v l) :
    Calls Try.prog 42 #[v, .int .i64 t.kd, t.iv] w fun e w' => e = .returned (.int .i64 (fnd l t)) ∧ Below w.heap.size w w' := by
  obtain ⟨a0, n0, rfl⟩ := h.form
  have hmx := h.2.1
  unfold maxLen at hmx
  obtain ⟨N, hN⟩ : ∃ N, l.length = N := ⟨_, rfl⟩
  rw [hN] at h hmx ⊢
  have HN := Lib.hid hN
  obtain ⟨r, hr⟩ : ∃ r, fnd l t = r := ⟨_, rfl⟩
  rw [hr]
  have HF := Lib.hid hr
  obtain ⟨W, hW⟩ : ∃ W : World, W = w.alloc (.cells #[.int .i64 t.nd, .int .u64 t.sq, .int .i64 t.of] 39) := ⟨_, rfl⟩
  have hB0 : Below w.heap.size w W := by rw [hW]; exact (by repeat (first | assumption | exact Below.refl _ _ | apply Below.al | apply below_drewN | apply Below.drew | refine Below.next ?_ (by assumption)))
  have bI : BoxN W w.heap.size 39 #[.int .i64 t.nd, .int .u64 t.sq, .int .i64 t.of] := by rw [hW]; exact BoxN.new _ _ _
  have i0 : W.cell? ⟨w.heap.size, 0, none⟩ = some (.int .i64 t.nd) := bI.cell 0
  have i1 : W.cell? ⟨w.heap.size, 1, none⟩ = some (.int .u64 t.sq) := bI.cell 1
  have i2 : W.cell? ⟨w.heap.size, 2, none⟩ = some (.int .i64 t.of) := bI.cell 2
  have HR := Lib.hid (h.keep hB0)
  clear hN h hr bI
  go_enter Try.func42, Try.ntmps42
  go_upto_region 1 with fail
  rw [← hW]
  clear hW
  go_wp2_with fail
  go_loopw [7] (fun i wr => ∃ k : Nat, k ≤ N ∧ i = .int .i64 k ∧ Below W.heap.size W wr ∧ ∀ j, j < k → ¬ sameK (g l j) t) (fun i _ => N - (intOf i).toNat)
  case atStart => exact ⟨0, Nat.zero_le _, rfl, Below.refl _ _, fun j hj => by omega⟩
  case round =>
    obtain ⟨k, hkN, rfl, hB, hz0⟩ := hrel
    have HZ0 := Lib.hid hz0
    clear hz0
    by_cases hlt : k < N
    · have d2 : decide ((k : Int) < (N : Int)) = true := yb (by omega)
      obtain ⟨b1, o1, rfl, hc1, g0, g1, g2, g3, g4⟩ := RdM.at (HR.out.keep hB) HN.out k hlt
      obtain ⟨y, HY⟩ : ∃ y, Hid (g l k = y) := ⟨_, rfl⟩
      rw [HY.out] at g0 g1 g2 g3 g4
      have j0 := cell_later hB i0
      have j1 := cell_later hB i1
      have j2 := cell_later hB i2
      have n1 : (0 : Int) ≤ (k : Int) := by omega
      have n2 : (k : Int) < (N : Int) := by omega
      have hwk : IntKind.i64.wrap (k : Int) = (k : Int) := IntWalk.i64_in _ (by omega)
      by_cases hs : sameK y t
      · obtain rfl : r = (k : Int) := by rw [← HF.out]; exact fnd_some (by rw [HN.out]; exact hlt) (by rw [HY.out]; exact hs) HZ0.out
        have d3 : (y.kd == t.kd) = true := by simp [hs.1]
        have d4 : (y.nd == t.nd) = true := by simp [hs.2.1]
        have d5 : (y.sq == t.sq) = true := by simp [hs.2.2.1]
        have d6 : (y.of == t.of) = true := by simp [hs.2.2.2]
        clear hs
        go_wp2_with fail
        go_quiet (fail)
        go_wp2_with fail
        go_ret
        exact ⟨rfl, Below.next hB0 (below_drewN hB _)⟩
      · have HS := Lib.hid hs
        have hcs : (y.kd == t.kd) = false ∨ ((y.kd == t.kd) = true ∧ (y.nd == t.nd && (y.sq == t.sq && y.of == t.of)) = false) := by
          by_cases c1 : y.kd = t.kd
          · right
            refine ⟨by simp [c1], ?_⟩
            rw [Bool.eq_false_iff]
            intro h
            simp only [Bool.and_eq_true, beq_iff_eq] at h
            exact hs ⟨c1, h.1, h.2.1, h.2.2⟩
          · left; simp [c1]
        clear hs
        rcases hcs with d3 | ⟨d3, d4⟩
        · go_wp2_with fail
          go_quiet (fail)
          go_wp2_with fail
          go_roundw
          case rel => exact ⟨k + 1, by omega, by go_num, below_drewN hB _, fun j hj => by
            by_cases hjk : j = k
            · subst hjk; rw [HY.out]; exact HS.out
            · exact HZ0.out j (by omega)⟩
          case measure => simp [intOf]; omega
        · obtain ⟨c1, e1⟩ : ∃ c, (y.nd == t.nd) = c := ⟨_, rfl⟩
          obtain ⟨c2, e2⟩ : ∃ c, (y.sq == t.sq) = c := ⟨_, rfl⟩
          obtain ⟨c3, e3⟩ : ∃ c, (y.of == t.of) = c := ⟨_, rfl⟩
          rw [e1, e2, e3] at d4
          have hne : ¬ (c1 = true ∧ c2 = true ∧ c3 = true) := fun ⟨h1, h2, h3⟩ => by rw [h1, h2, h3] at d4; exact absurd d4 (by decide)
          clear d4
          cases c1 <;> cases c2 <;> cases c3 <;> first | exact absurd ⟨rfl, rfl, rfl⟩ hne | clear hne
          all_goals
            go_wp2_with fail
            go_quiet (fail)
            go_wp2_with fail
            go_roundw
            case rel => exact ⟨k + 1, by omega, by go_num, below_drewN hB _, fun j hj => by
              by_cases hjk : j = k
              · subst hjk; rw [HY.out]; exact HS.out
              · exact HZ0.out j (by omega)⟩
            case measure => simp [intOf]; omega
    · obtain rfl : k = N := by omega
      have d2 : decide ((k : Int) < (k : Int)) = false := nb (by omega)
      obtain rfl : r = -1 := by rw [← HF.out]; exact fnd_none (by rw [HN.out]; exact HZ0.out)
      go_wp2_with fail
      go_ret
      exact ⟨rfl, Below.next hB0 hB⟩
theorem ETm : ElemOk Try.prog 22 41 (.agg #[.int .i64 0, .int .i64 0, .int .i64 0, .int .u64 0, .int .i64 0]) 5 40 := ⟨Try.underlying22, by kernel_rfl, rfl, by decide⟩
/-- a call has returned a copy of its own -/
def OM (w : World) (l : List Tm) (x : Ending) (w' : World) : Prop := ∃ a c, x = .returned (.slice a l.length c) ∧ w'.ownsRow w.heap.size 41 5 (.slice a l.length c) l.length (rcs tmR l) ∧ Below w.heap.size w w'
theorem own_any (v : Value) (l : List Tm) (hl : l.length ≤ 1000000) (w : World) (h : RdM w v l) : Calls Try.prog 13 #[v] w (OM w l) := by
  have hrd0 : RdS (w.alloc (.cells #[] 41)) 5 v l.length (rcs tmR l) := h.keep (by repeat (first | assumption | exact Below.refl _ _ | apply Below.al | apply below_drewN | apply Below.drew | refine Below.next ?_ (by assumption)))
  have hown0 : (w.alloc (.cells #[] 41)).ownsRow w.heap.size 41 5 (.slice (some ⟨w.heap.size, 0, none⟩) 0 0) 0 [] := owns_block _ _ 41 5 0 [] _ (Nat.le_refl _) (heap_last w _) rfl (by decide)
  obtain ⟨N, hN⟩ : ∃ N, l.length = N := ⟨_, rfl⟩
  rw [hN] at hl hrd0
  (try rw [hN] at q)
  (try rw [hN])
  have HN := Lib.hid hN
  have HRD := Lib.hid hrd0
  clear hN h hrd0
  go_enter Try.func13, Try.ntmps13
  go_wp2_with (at_builtin; refine wpList_app rfl (.tmp 3) (.tmp 4) 22 rfl w.heap.size 41 _ 5 40 ETm _ 0 [] rfl hown0 _ N (rcs tmR l) rfl HRD.out (rcs_one _ _) ?c1 ?c2 ?c3 ?c4)
  case c1 => unfold maxLen; omega
  case c2 => omega
  case c3 => simp
  case c4 =>
    intro a3 c3 w3 hown3 hg3 hb3
    have hown3 : w3.ownsRow w.heap.size 41 5 (.slice a3 N c3) N (rcs tmR l) := by first | with_reducible exact hown3 | simpa using hown3
    have hB : Below w.heap.size w w3 := Below.trans (Below.al (Below.refl _ _) _) hb3
    have HO := Lib.hid hown3
    clear hown3 hown0 hg3
    go_wp2
    go_ret
    exact ⟨a3, c3, by rw [HN.out]; rfl, by rw [HN.out]; exact HO.out, hB⟩
theorem clone_any (v : Value) (l : List Tm) (hl : l.length ≤ 1000000) (w : World) (h : RdM w v l) : Calls Try.prog 54 #[v] w (OM w l) := by
  obtain ⟨a0, n0, rfl⟩ := h.form
  cases a0 with
  | none =>
    have h0 : l = [] := by
      obtain ⟨_, _, ⟨h0, _⟩ | ⟨b, off, cap, hv, _⟩⟩ := h
      · exact List.length_eq_zero_iff.1 h0
      · cases hv
    subst h0
    have q : (binOp .eql 22 (.slice none 0 n0) (.slice none 0 0)).run Try.prog w = .ok (.bool true) w := Lib.run_eql_slice_nil w _ _ none 0 n0 0 0 Try.underlying22
    clear h
    go_enter Try.func54, Try.ntmps54
    go_wp2
    go_ret
    exact ⟨none, 0, rfl, ⟨rfl, .inl ⟨rfl, rfl⟩⟩, Below.refl _ _⟩
  | some a0 =>
    have q : (binOp .eql 22 (.slice (some a0) l.length n0) (.slice none 0 0)).run Try.prog w = .ok (.bool false) w := Lib.run_eql_slice_nil w _ _ (some a0) _ n0 0 0 Try.underlying22
    obtain ⟨M, hM⟩ : ∃ M, l.length = M := ⟨_, rfl⟩
    rw [hM] at h q ⊢
    have h : RdM w (.slice (some a0) M n0) l := h
    rw [← hM]
    rw [← hM] at h q
    clear hM
    have hrd0 : RdS (w.alloc (.cells #[] 41)) 5 (.slice (some a0) l.length n0) l.length (rcs tmR l) := h.keep (by repeat (first | assumption | exact Below.refl _ _ | apply Below.al | apply below_drewN | apply Below.drew | refine Below.next ?_ (by assumption)))
    have hown0 : (w.alloc (.cells #[] 41)).ownsRow w.heap.size 41 5 (.slice (some ⟨w.heap.size, 0, none⟩) 0 0) 0 [] := owns_block _ _ 41 5 0 [] _ (Nat.le_refl _) (heap_last w _) rfl (by decide)
    obtain ⟨N, hN⟩ : ∃ N, l.length = N := ⟨_, rfl⟩
    rw [hN] at hl hrd0
    (try rw [hN] at q)
    (try rw [hN])
    have HN := Lib.hid hN
    have HRD := Lib.hid hrd0
    clear hN h hrd0
    go_enter Try.func54, Try.ntmps54
    go_wp2_with (at_builtin; refine wpList_app rfl (.tmp 5) (.tmp 6) 22 rfl w.heap.size 41 _ 5 40 ETm _ 0 [] rfl hown0 _ N (rcs tmR l) rfl HRD.out (rcs_one _ _) ?c1 ?c2 ?c3 ?c4)
    case c1 => unfold maxLen; omega
    case c2 => omega
    case c3 => simp
    case c4 =>
      intro a3 c3 w3 hown3 hg3 hb3
      have hown3 : w3.ownsRow w.heap.size 41 5 (.slice a3 N c3) N (rcs tmR l) := by first | with_reducible exact hown3 | simpa using hown3
      have hB : Below w.heap.size w w3 := Below.trans (Below.al (Below.refl _ _) _) hb3
      have HO := Lib.hid hown3
      clear hown3 hown0 hg3
      go_wp2
      go_ret
      exact ⟨a3, c3, by rw [HN.out]; rfl, by rw [HN.out]; exact HO.out, hB⟩
set_option maxHeartbeats 1000000 in
theorem same_eq (v u : Value) (l : List Tm) (w : World) (h : RdM w v l) (hu : RdM w u l) :
    Calls Try.prog 15 #[v, u] w fun x w' => x = .returned (.bool true) ∧ Below w.heap.size w w' := by
  have hmx := h.2.1
  unfold maxLen at hmx
  obtain ⟨a0, n0, rfl⟩ := h.form
  obtain ⟨a1, n1, rfl⟩ := hu.form
  obtain ⟨N, hN⟩ : ∃ N, l.length = N := ⟨_, rfl⟩
  rw [hN] at h hu hmx ⊢
  have HR := Lib.hid h
  have HU := Lib.hid hu
  have HN := Lib.hid hN
  clear h hu hN
  have d0 : ((N : Int) != (N : Int)) = false := by simp
  go_enter Try.func15, Try.ntmps15
  go_wp2_with fail
  go_loopw [5] (fun i wr => ∃ k : Nat, k ≤ N ∧ i = .int .i64 k ∧ Below w.heap.size w wr) (fun i _ => N - (intOf i).toNat)
  case atStart => exact ⟨0, Nat.zero_le _, rfl, Below.refl _ _⟩
  case round =>
    obtain ⟨k, hk, rfl, hB⟩ := hrel
    by_cases hlt : k < N
    · have d2 : decide ((k : Int) < (N : Int)) = true := yb (by omega)
      obtain ⟨b1, o1, rfl, hc1, p0, p1, p2, p3, p4⟩ := RdM.at (HR.out.keep hB) HN.out k hlt
      obtain ⟨b2, o2, rfl, hc2, q0, q1, q2, q3, q4⟩ := RdM.at (HU.out.keep hB) HN.out k hlt
      obtain ⟨y, HY⟩ : ∃ y, Hid (g l k = y) := ⟨_, rfl⟩
      rw [HY.out] at p0 p1 p2 p3 p4 q0 q1 q2 q3 q4
      have i1 : (0 : Int) ≤ (k : Int) := by omega
      have i2 : (k : Int) < (N : Int) := by omega
      have hwk : IntKind.i64.wrap (k : Int) = (k : Int) := IntWalk.i64_in _ (by omega)
      go_wp2_with fail
      go_quiet (fail)
      go_wp2_with fail
      go_roundw
      case rel => exact ⟨k + 1, by omega, by go_num, below_drewN hB _⟩
      case measure => simp [intOf]; omega
    · obtain rfl : k = N := by omega
      have d2 : decide ((k : Int) < (k : Int)) = false := nb (by omega)
      go_wp2_with fail
      go_ret
      exact ⟨rfl, hB⟩
end Go.Proofs.Ytigmhglkohjlhaa
