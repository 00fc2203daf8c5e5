

/- Links: copies, comparisons, Push in both texts. -/
import Derived.Test.YtimkeafpefkheaaDoorA
import Derived.Test.YtimkeafpefkheaaDoorSh
namespace Go.Proofs.YtimkeafpefkheaaDoor
open Go.RowKit
set_option linter.unusedSimpArgs false
set_option linter.unusedVariables false
set_option maxRecDepth 100000

/-- a block of one cell that has just been laid, as a slice of one element -/
theorem RdS.box1 (w : World) (T : TypeId) (u : Value) : RdS (w.alloc (.cells #[u] T)) 1 (.slice (some ⟨w.heap.size, 0, none⟩) 1 1) 1 [u] :=
  ⟨rfl, by decide, .inr ⟨w.heap.size, 0, 1, rfl, Nat.le_refl _, fun j x hj => by
    match j, hj with
    | 0, hj =>
      simp at hj
      subst hj
      simp
    | j + 1, hj => simp at hj⟩⟩
theorem ET : ElemOk Tryd.prog 22 9 (.string ⟨#[]⟩) 1 16 := ⟨Tryd.underlying22, by kernel_rfl, rfl, by decide⟩
/-- a call has returned a copy of its own -/
def OT (w : World) (l : List Fr) (x : Ending) (w' : World) : Prop := ∃ a c, x = .returned (.slice a l.length c) ∧ w'.ownsRow w.heap.size 9 1 (.slice a l.length c) l.length (tcs l) ∧ Below w.heap.size w w'
theorem ownTexts_any (v : Value) (l : List Fr) (hl : l.length ≤ 1000000) (w : World) (h : RdT w v l) : Calls Tryd.prog 12 #[v] w (OT w l) := by
  have hrd0 : RdS (w.alloc (.cells #[] 9)) 1 v l.length (tcs l) := h.keep (by repeat (first | assumption | exact Below.refl _ _ | apply Below.al | apply below_drewN | apply Below.drew | refine Below.next ?_ (by assumption)))
  have hown0 : (w.alloc (.cells #[] 9)).ownsRow w.heap.size 9 1 (.slice (some ⟨w.heap.size, 0, none⟩) 0 0) 0 [] := owns_block _ _ 9 1 0 [] _ (Nat.le_refl _) (heap_last w _) rfl (by decide)
  obtain ⟨N, hN⟩ : ∃ N, l.length = N := ⟨_, rfl⟩
  rw [hN] at hl hrd0
  have HN := Lib.hid hN
  have HRD := Lib.hid hrd0
  clear hN h hrd0
  go_enter Tryd.func12, Tryd.ntmps12
  go_wp2_with (at_builtin; refine wpList_app rfl (.tmp 3) (.tmp 4) 22 rfl w.heap.size 9 (.string ⟨#[]⟩) 1 16 ET _ 0 [] rfl hown0 _ N (tcs l) rfl HRD.out (tcs_one _) ?c1 ?c2 ?c3 ?c4)
  case c1 => unfold maxLen; omega
  case c2 => omega
  case c3 => simp
  case c4 =>
    intro a3 c3 w3 hown3 hg3 hb3
    have hown3 : w3.ownsRow w.heap.size 9 1 (.slice a3 N c3) N (tcs l) := by first | with_reducible exact hown3 | simpa using hown3
    have hB : Below w.heap.size w w3 := Below.trans (Below.al (Below.refl _ _) _) hb3
    have HO := Lib.hid hown3
    clear hown3 hown0 hg3
    go_wp2
    go_ret
    exact ⟨a3, c3, by rw [HN.out]; rfl, by rw [HN.out]; exact HO.out, hB⟩
theorem rown_any (v : Value) (l : List Fr) (hl : l.length ≤ 1000000) (w : World) (h : RdT w v l) : Calls Tryd.prog 35 #[v] w (OT w l) := by
  have hrd0 : RdS (w.alloc (.cells #[] 9)) 1 v l.length (tcs l) := h.keep (by repeat (first | assumption | exact Below.refl _ _ | apply Below.al | apply below_drewN | apply Below.drew | refine Below.next ?_ (by assumption)))
  have hown0 : (w.alloc (.cells #[] 9)).ownsRow w.heap.size 9 1 (.slice (some ⟨w.heap.size, 0, none⟩) 0 0) 0 [] := owns_block _ _ 9 1 0 [] _ (Nat.le_refl _) (heap_last w _) rfl (by decide)
  obtain ⟨N, hN⟩ : ∃ N, l.length = N := ⟨_, rfl⟩
  rw [hN] at hl hrd0
  have HN := Lib.hid hN
  have HRD := Lib.hid hrd0
  clear hN h hrd0
  go_enter Tryd.func35, Tryd.ntmps35
  go_wp2_with (at_builtin; refine wpList_app rfl (.tmp 3) (.tmp 4) 22 rfl w.heap.size 9 (.string ⟨#[]⟩) 1 16 ET _ 0 [] rfl hown0 _ N (tcs l) rfl HRD.out (tcs_one _) ?c1 ?c2 ?c3 ?c4)
  case c1 => unfold maxLen; omega
  case c2 => omega
  case c3 => simp
  case c4 =>
    intro a3 c3 w3 hown3 hg3 hb3
    have hown3 : w3.ownsRow w.heap.size 9 1 (.slice a3 N c3) N (tcs l) := by first | with_reducible exact hown3 | simpa using hown3
    have hB : Below w.heap.size w w3 := Below.trans (Below.al (Below.refl _ _) _) hb3
    have HO := Lib.hid hown3
    clear hown3 hown0 hg3
    go_wp2
    go_ret
    exact ⟨a3, c3, by rw [HN.out]; rfl, by rw [HN.out]; exact HO.out, hB⟩
theorem clone_any (v : Value) (l : List Fr) (hl : l.length ≤ 1000000) (w : World) (h : RdT w v l) : Calls Tryd.prog 34 #[v] w (OT w l) := by
  obtain ⟨h1, h0, ⟨hn, a, cap, rfl, ha⟩ | ⟨b, off, cap, rfl, hc, hr⟩⟩ := h
  · have hln : l = [] := List.length_eq_zero_iff.1 hn
    subst hln
    cases a with
    | none =>
      refine (Tryd.slices_Clone_string_nil 0 cap w).mono ?_
      rintro e w' ⟨rfl, rfl⟩
      exact ⟨none, 0, rfl, ⟨rfl, .inl ⟨rfl, rfl⟩⟩, Below.refl _ _⟩
    | some a =>
      refine (Tryd.slices_Clone_string_zero a cap w).mono ?_
      rintro e w' ⟨v', rfl, ho, _, hb⟩
      obtain ⟨a', c', rfl⟩ := owns_form ho
      exact ⟨a', c', rfl, ho, hb⟩
  · refine (Tryd.slices_Clone_string b off l.length cap l w (Nat.le_refl _) (by omega) (fun j hj => hr j _ (tcs_get l j hj))).mono ?_
    rintro e w' ⟨v', rfl, ho, _, hb⟩
    rw [List.take_length] at ho
    obtain ⟨a', c', rfl⟩ := owns_form ho
    exact ⟨a', c', rfl, ho, hb⟩
set_option maxHeartbeats 1000000 in
theorem sameTexts_eq (v u : Value) (l : List Fr) (hl : l.length ≤ 1000000) (w : World) (h : RdT w v l) (hu : RdT w u l) :
    Calls Tryd.prog 17 #[v, u] w fun e w' => e = .returned (.bool true) ∧ Below w.heap.size w w' := by
  obtain ⟨a0, n0, rfl⟩ := h.form
  obtain ⟨a1, n1, rfl⟩ := hu.form
  obtain ⟨N, hN⟩ : ∃ N, l.length = N := ⟨_, rfl⟩
  rw [hN] at h hu hl ⊢
  have HR := Lib.hid h
  have HU := Lib.hid hu
  have HN := Lib.hid hN
  clear h hu hN
  have d0 : ((N : Int) != (N : Int)) = false := by simp
  go_enter Tryd.func17, Tryd.ntmps17
  go_wp2
  go_loopw [5] (fun i wr => ∃ k : Nat, k ≤ N ∧ i = .int .i64 k ∧ Below w.heap.size w wr) (fun i _ => N - (intOf i).toNat)
  case atStart => exact ⟨0, Nat.zero_le _, rfl, Below.refl _ _⟩
  case round =>
    obtain ⟨k, hk, rfl, hB⟩ := hrel
    by_cases hlt : k < N
    · have d2 : decide ((k : Int) < (N : Int)) = true := yb (by omega)
      obtain ⟨b1, o1, rfl, hc1, h1⟩ := RdT.at HR.out HN.out k hlt
      obtain ⟨b2, o2, rfl, hc2, h2⟩ := RdT.at HU.out HN.out k hlt
      have h1 := cell_later hB h1
      have h2 := cell_later hB h2
      obtain ⟨x, HX⟩ : ∃ x, Hid (l.getD k e0 = x) := ⟨_, rfl⟩
      rw [HX.out] at h1 h2
      have i1 : (0 : Int) ≤ (k : Int) := by omega
      have i2 : (k : Int) < (N : Int) := by omega
      have hwk : IntKind.i64.wrap (k : Int) = (k : Int) := IntWalk.i64_in _ (by omega)
      go_wp2_with fail
      go_quiet (fail)
      go_wp2_with fail
      go_roundw
      case rel => exact ⟨k + 1, by omega, by go_num, below_drewN hB _⟩
      case measure => simp [intOf]; omega
    · have d2 : decide ((k : Int) < (N : Int)) = false := nb (by omega)
      go_wp2_with fail
      go_ret
      exact ⟨rfl, hB⟩
end Go.Proofs.YtimkeafpefkheaaDoor
