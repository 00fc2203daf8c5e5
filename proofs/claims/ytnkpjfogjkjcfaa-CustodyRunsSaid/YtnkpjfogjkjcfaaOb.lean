


/- Custody: slices.Clone at copies, frames and tags. -/
import Derived.Test.YtnkpjfogjkjcfaaN
namespace Go.Proofs.Ytnkpjfogjkjcfaa
open Go.RowKit
set_option linter.unusedSimpArgs false
set_option linter.unusedVariables false
set_option maxRecDepth 100000

theorem ECp : ElemOk Try.prog 22 45 (.agg #[.int .i64 0, .int .i64 0, .int .i64 0, .int .i64 0, .slice none 0 0, .slice none 0 0]) 6 80 := ⟨Try.underlying22, by kernel_rfl, rfl, by decide⟩
/-- a call has returned a copy of its own -/
def OM {α : Type} (R : RowT α) (T : TypeId) (w : World) (l : List α) (x : Ending) (w' : World) : Prop := ∃ a c, x = .returned (.slice a l.length c) ∧ w'.ownsRow w.heap.size T R.size (.slice a l.length c) l.length (rcs R l) ∧ Below w.heap.size w w'
theorem cloneG_any (v : Value) (l : List Tg) (hl : l.length ≤ 1000000) (w : World) (h : RdL tgR w v l) : Calls Try.prog 54 #[v] w (OM tgR 80 w l) := by
  obtain ⟨a0, n0, rfl⟩ := h.form
  cases a0 with
  | none =>
    have h0 : l = [] := by
      obtain ⟨_, _, ⟨h0, _⟩ | ⟨b, off, cap, hv, _⟩⟩ := h
      · exact List.length_eq_zero_iff.1 h0
      · cases hv
    subst h0
    have q : (binOp .eql 43 (.slice none 0 n0) (.slice none 0 0)).run Try.prog w = .ok (.bool true) w := Lib.run_eql_slice_nil w _ _ none 0 n0 0 0 Try.underlying43
    clear h
    go_enter Try.func54, Try.ntmps54
    go_wp2
    go_ret
    exact ⟨none, 0, rfl, ⟨rfl, .inl ⟨rfl, rfl⟩⟩, Below.refl _ _⟩
  | some a0 =>
    have q : (binOp .eql 43 (.slice (some a0) l.length n0) (.slice none 0 0)).run Try.prog w = .ok (.bool false) w := Lib.run_eql_slice_nil w _ _ (some a0) _ n0 0 0 Try.underlying43
    have h : RdS w 2 (.slice (some a0) l.length n0) l.length (rcs tgR l) := h
    have hrd0 : RdS (w.alloc (.cells #[] 80)) 2 (.slice (some a0) l.length n0) l.length (rcs tgR l) := h.keep (by repeat (first | assumption | exact Below.refl _ _ | apply Below.al | apply below_drewN | apply Below.drew | refine Below.next ?_ (by assumption)))
    have hown0 : (w.alloc (.cells #[] 80)).ownsRow w.heap.size 80 2 (.slice (some ⟨w.heap.size, 0, none⟩) 0 0) 0 [] := owns_block _ _ 80 2 0 [] _ (Nat.le_refl _) (heap_last w _) rfl (by decide)
    obtain ⟨N, hN⟩ : ∃ N, l.length = N := ⟨_, rfl⟩
    rw [hN] at hl hrd0
    (try rw [hN] at q)
    (try rw [hN])
    have HN := Lib.hid hN
    have HRD := Lib.hid hrd0
    clear hN h hrd0
    go_enter Try.func54, Try.ntmps54
    go_wp2_with (at_builtin; refine wpList_app rfl (.tmp 5) (.tmp 6) 43 rfl w.heap.size 80 _ 2 16 ETg _ 0 [] rfl hown0 _ N (rcs tgR l) rfl HRD.out (rcs_one _ _) ?c1 ?c2 ?c3 ?c4)
    case c1 => unfold maxLen; omega
    case c2 => omega
    case c3 => simp
    case c4 =>
      intro a3 c3 w3 hown3 hg3 hb3
      have hown3 : w3.ownsRow w.heap.size 80 2 (.slice a3 N c3) N (rcs tgR l) := by first | with_reducible exact hown3 | simpa using hown3
      have hB : Below w.heap.size w w3 := Below.trans (Below.al (Below.refl _ _) _) hb3
      have HO := Lib.hid hown3
      clear hown3 hown0 hg3
      go_wp2
      go_ret
      exact ⟨a3, c3, by rw [HN.out]; rfl, by rw [HN.out]; exact HO.out, hB⟩
theorem cloneP_any (v : Value) (l : List Ps) (hl : l.length ≤ 1000000) (w : World) (h : RdL psR w v l) : Calls Try.prog 53 #[v] w (OM psR 47 w l) := by
  obtain ⟨a0, n0, rfl⟩ := h.form
  cases a0 with
  | none =>
    have h0 : l = [] := by
      obtain ⟨_, _, ⟨h0, _⟩ | ⟨b, off, cap, hv, _⟩⟩ := h
      · exact List.length_eq_zero_iff.1 h0
      · cases hv
    subst h0
    have q : (binOp .eql 23 (.slice none 0 n0) (.slice none 0 0)).run Try.prog w = .ok (.bool true) w := Lib.run_eql_slice_nil w _ _ none 0 n0 0 0 Try.underlying23
    clear h
    go_enter Try.func53, Try.ntmps53
    go_wp2
    go_ret
    exact ⟨none, 0, rfl, ⟨rfl, .inl ⟨rfl, rfl⟩⟩, Below.refl _ _⟩
  | some a0 =>
    have q : (binOp .eql 23 (.slice (some a0) l.length n0) (.slice none 0 0)).run Try.prog w = .ok (.bool false) w := Lib.run_eql_slice_nil w _ _ (some a0) _ n0 0 0 Try.underlying23
    have h : RdS w 4 (.slice (some a0) l.length n0) l.length (rcs psR l) := h
    have hrd0 : RdS (w.alloc (.cells #[] 47)) 4 (.slice (some a0) l.length n0) l.length (rcs psR l) := h.keep (by repeat (first | assumption | exact Below.refl _ _ | apply Below.al | apply below_drewN | apply Below.drew | refine Below.next ?_ (by assumption)))
    have hown0 : (w.alloc (.cells #[] 47)).ownsRow w.heap.size 47 4 (.slice (some ⟨w.heap.size, 0, none⟩) 0 0) 0 [] := owns_block _ _ 47 4 0 [] _ (Nat.le_refl _) (heap_last w _) rfl (by decide)
    obtain ⟨N, hN⟩ : ∃ N, l.length = N := ⟨_, rfl⟩
    rw [hN] at hl hrd0
    (try rw [hN] at q)
    (try rw [hN])
    have HN := Lib.hid hN
    have HRD := Lib.hid hrd0
    clear hN h hrd0
    go_enter Try.func53, Try.ntmps53
    go_wp2_with (at_builtin; refine wpList_app rfl (.tmp 5) (.tmp 6) 23 rfl w.heap.size 47 _ 4 32 EPs _ 0 [] rfl hown0 _ N (rcs psR l) rfl HRD.out (rcs_one _ _) ?c1 ?c2 ?c3 ?c4)
    case c1 => unfold maxLen; omega
    case c2 => omega
    case c3 => simp
    case c4 =>
      intro a3 c3 w3 hown3 hg3 hb3
      have hown3 : w3.ownsRow w.heap.size 47 4 (.slice a3 N c3) N (rcs psR l) := by first | with_reducible exact hown3 | simpa using hown3
      have hB : Below w.heap.size w w3 := Below.trans (Below.al (Below.refl _ _) _) hb3
      have HO := Lib.hid hown3
      clear hown3 hown0 hg3
      go_wp2
      go_ret
      exact ⟨a3, c3, by rw [HN.out]; rfl, by rw [HN.out]; exact HO.out, hB⟩
theorem cloneC_any (v : Value) (l : List Cq) (hl : l.length ≤ 1000000) (w : World) (h : RdL cpR w v l) : Calls Try.prog 52 #[v] w (OM cpR 45 w l) := by
  obtain ⟨a0, n0, rfl⟩ := h.form
  cases a0 with
  | none =>
    have h0 : l = [] := by
      obtain ⟨_, _, ⟨h0, _⟩ | ⟨b, off, cap, hv, _⟩⟩ := h
      · exact List.length_eq_zero_iff.1 h0
      · cases hv
    subst h0
    have q : (binOp .eql 22 (.slice none 0 n0) (.slice none 0 0)).run Try.prog w = .ok (.bool true) w := Lib.run_eql_slice_nil w _ _ none 0 n0 0 0 Try.underlying22
    clear h
    go_enter Try.func52, Try.ntmps52
    go_wp2
    go_ret
    exact ⟨none, 0, rfl, ⟨rfl, .inl ⟨rfl, rfl⟩⟩, Below.refl _ _⟩
  | some a0 =>
    have q : (binOp .eql 22 (.slice (some a0) l.length n0) (.slice none 0 0)).run Try.prog w = .ok (.bool false) w := Lib.run_eql_slice_nil w _ _ (some a0) _ n0 0 0 Try.underlying22
    have h : RdS w 6 (.slice (some a0) l.length n0) l.length (rcs cpR l) := h
    have hrd0 : RdS (w.alloc (.cells #[] 45)) 6 (.slice (some a0) l.length n0) l.length (rcs cpR l) := h.keep (by repeat (first | assumption | exact Below.refl _ _ | apply Below.al | apply below_drewN | apply Below.drew | refine Below.next ?_ (by assumption)))
    have hown0 : (w.alloc (.cells #[] 45)).ownsRow w.heap.size 45 6 (.slice (some ⟨w.heap.size, 0, none⟩) 0 0) 0 [] := owns_block _ _ 45 6 0 [] _ (Nat.le_refl _) (heap_last w _) rfl (by decide)
    obtain ⟨N, hN⟩ : ∃ N, l.length = N := ⟨_, rfl⟩
    rw [hN] at hl hrd0
    (try rw [hN] at q)
    (try rw [hN])
    have HN := Lib.hid hN
    have HRD := Lib.hid hrd0
    clear hN h hrd0
    go_enter Try.func52, Try.ntmps52
    go_wp2_with (at_builtin; refine wpList_app rfl (.tmp 5) (.tmp 6) 22 rfl w.heap.size 45 _ 6 80 ECp _ 0 [] rfl hown0 _ N (rcs cpR l) rfl HRD.out (rcs_one _ _) ?c1 ?c2 ?c3 ?c4)
    case c1 => unfold maxLen; omega
    case c2 => omega
    case c3 => simp
    case c4 =>
      intro a3 c3 w3 hown3 hg3 hb3
      have hown3 : w3.ownsRow w.heap.size 45 6 (.slice a3 N c3) N (rcs cpR l) := by first | with_reducible exact hown3 | simpa using hown3
      have hB : Below w.heap.size w w3 := Below.trans (Below.al (Below.refl _ _) _) hb3
      have HO := Lib.hid hown3
      clear hown3 hown0 hg3
      go_wp2
      go_ret
      exact ⟨a3, c3, by rw [HN.out]; rfl, by rw [HN.out]; exact HO.out, hB⟩
end Go.Proofs.Ytnkpjfogjkjcfaa
