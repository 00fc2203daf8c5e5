

/- Links: which lists are equal, in both texts. -/
import Derived.Test.YtimkeafpefkheaaDoorC
namespace Go.Proofs.YtimkeafpefkheaaDoor
open Go.RowKit
set_option linter.unusedSimpArgs false
set_option linter.unusedVariables false
set_option maxRecDepth 100000

theorem ba_ne (s t : ByteArray) (h : ¬ s = t) : (s.toList == t.toList) = false := by
  rw [beq_eq_false_iff_ne]
  intro e
  rw [ByteArray.toList_eq, ByteArray.toList_eq] at e
  cases s; cases t
  simp only [ByteArray.mk.injEq] at h
  exact h (Array.toList_inj.1 e)
theorem below_of_drewN {w : World} (q : Nat) : Below w.heap.size w (w.drewN q) := below_drewN (Below.refl _ _) q
def BoR (w : World) (b : Bool) (x : Ending) (w' : World) : Prop := x = .returned (.bool b) ∧ Below w.heap.size w w'
theorem RdT.addr {w : World} {v : Value} {l : List Fr} (h : RdT w v l) (hl : l.length ≠ 0) : ∃ b off c, v = .slice (some ⟨b, off, none⟩) l.length c ∧ l.length ≤ 9223372036854775807 ∧ ∀ j, j < l.length → w.cell? ⟨b, off + j, none⟩ = some (.string (l.getD j ByteArray.empty)) := by
  obtain ⟨_, hm, ⟨h0, _⟩ | ⟨b, off, cap, hv, hc, hr⟩⟩ := h
  · exact absurd h0 hl
  · exact ⟨b, off, cap, hv, by unfold maxLen at hm; omega, fun j hj => hr j _ (tcs_get l j hj)⟩
theorem equal_any (v u : Value) (l m : List Fr) (w : World) (h : RdT w v l) (hu : RdT w u m) :
    Calls Tryd.prog 41 #[v, u] w (BoR w (decide (l = m))) := by
  by_cases hlen : l.length = m.length
  · by_cases h0 : l.length = 0
    · obtain ⟨a0, n0, rfl⟩ := h.form
      obtain ⟨a1, n1, rfl⟩ := hu.form
      have hl : l = [] := List.length_eq_zero_iff.1 h0
      have hm : m = [] := List.length_eq_zero_iff.1 (by omega)
      subst hl hm
      refine (Tryd.slices_Equal_string_empty a0 a1 n0 0 n1 w (by omega)).mono ?_
      rintro x w1 ⟨rfl, rfl⟩
      exact ⟨by simp, Below.refl _ _⟩
    · obtain ⟨b1, o1, c1, rfl, k1, r1⟩ := h.addr h0
      obtain ⟨b2, o2, c2, rfl, k2, r2⟩ := hu.addr (by omega)
      refine (Tryd.slices_Equal_string b1 o1 l.length c1 b2 o2 m.length c2 l m w (Nat.le_refl _) (Nat.le_refl _) k1 k2 r1 r2).mono ?_
      rintro x w1 ⟨rfl, q, rfl⟩
      exact ⟨by simp, below_of_drewN q⟩
  · obtain ⟨a0, n0, rfl⟩ := h.form
    obtain ⟨a1, n1, rfl⟩ := hu.form
    refine (Tryd.slices_Equal_string_lens a0 a1 l.length n0 m.length n1 w hlen).mono ?_
    rintro x w1 ⟨rfl, rfl⟩
    have : decide (l = m) = false := nb (fun e => hlen (by rw [e]))
    exact ⟨by rw [this], Below.refl _ _⟩
theorem same_any (v u : Value) (l m : List Fr) (w : World) (h : RdT w v l) (hu : RdT w u m) :
    Calls Tryd.prog 31 #[v, u] w (BoR w (decide (l = m))) := by
  obtain ⟨b, hb⟩ : ∃ b, decide (l = m) = b := ⟨_, rfl⟩
  have HE := Lib.hid (equal_any v u l m w h hu)
  rw [hb] at HE ⊢
  clear hb h hu
  go_enter Tryd.func31, Tryd.ntmps31
  go_wp2_with fail
  refine HE.out.mono ?_
  rintro x w1 ⟨rfl, hb1⟩
  go_wp2_with fail
  go_ret
  exact ⟨rfl, hb1⟩
theorem ext_getD {l m : List Fr} (hlen : l.length = m.length) (h : ∀ j, j < l.length → l.getD j e0 = m.getD j e0) : l = m := by
  refine List.ext_getElem hlen fun i h1 h2 => ?_
  have := h i h1
  rwa [List.getD_eq_getElem?_getD, List.getD_eq_getElem?_getD, List.getElem?_eq_getElem h1, List.getElem?_eq_getElem h2] at this
set_option maxHeartbeats 2000000 in
theorem rsame_any (v u : Value) (l m : List Fr) (w : World) (h : RdT w v l) (hu : RdT w u m) :
    Calls Tryd.prog 32 #[v, u] w (BoR w (decide (l = m))) := by
  have hmx := h.2.1
  unfold maxLen at hmx
  obtain ⟨a0, n0, rfl⟩ := h.form
  obtain ⟨a1, n1, rfl⟩ := hu.form
  obtain ⟨N, hN⟩ : ∃ N, l.length = N := ⟨_, rfl⟩
  obtain ⟨M, hM⟩ : ∃ M, m.length = M := ⟨_, rfl⟩
  rw [hN] at h hmx ⊢
  rw [hM] at hu ⊢
  have HR := Lib.hid h
  have HU := Lib.hid hu
  have HN := Lib.hid hN
  have HM := Lib.hid hM
  clear h hu hN hM
  obtain ⟨b, HB⟩ : ∃ b, Hid (decide (l = m) = b) := ⟨_, rfl⟩
  rw [HB.out]
  unfold BoR
  by_cases hlen : N = M
  · subst hlen
    have d0 : ((N : Int) != (N : Int)) = false := by simp
    go_enter Tryd.func32, Tryd.ntmps32
    go_wp2_with fail
    go_loopw [5] (fun i wr => ∃ k : Nat, k ≤ N ∧ i = .int .i64 k ∧ Below w.heap.size w wr ∧ ∀ j, j < k → l.getD j e0 = m.getD j e0) (fun i _ => N - (intOf i).toNat)
    case atStart => exact ⟨0, Nat.zero_le _, rfl, Below.refl _ _, fun j hj => by omega⟩
    case round =>
      obtain ⟨k, hk, rfl, hB, hz0⟩ := hrel
      have HZ0 := Lib.hid hz0
      clear hz0
      by_cases hlt : k < N
      · have d2 : decide ((k : Int) < (N : Int)) = true := yb (by omega)
        obtain ⟨b1, o1, rfl, hc1, h1⟩ := HR.out.at HN.out k hlt
        obtain ⟨b2, o2, rfl, hc2, h2⟩ := HU.out.at HM.out k hlt
        have h1 := cell_later hB h1
        have h2 := cell_later hB h2
        obtain ⟨s, HS⟩ : ∃ x, Hid (l.getD k e0 = x) := ⟨_, rfl⟩
        obtain ⟨t, HT⟩ : ∃ x, Hid (m.getD k e0 = x) := ⟨_, rfl⟩
        rw [HS.out] at h1
        rw [HT.out] at h2
        have i1 : (0 : Int) ≤ (k : Int) := by omega
        have i2 : (k : Int) < (N : Int) := by omega
        have hwk : IntKind.i64.wrap (k : Int) = (k : Int) := IntWalk.i64_in _ (by omega)
        by_cases hst : s = t
        · have HST := Lib.hid hst
          subst hst
          go_wp2_with fail
          go_quiet (fail)
          go_wp2_with fail
          go_roundw
          case rel => exact ⟨k + 1, by omega, by go_num, below_drewN hB _, fun j hj => by
            by_cases hjk : j = k
            · subst hjk; rw [HS.out, HT.out]
            · exact HZ0.out j (by omega)⟩
          case measure => simp [intOf]; omega
        · obtain rfl : b = false := by rw [← HB.out]; exact nb (fun e => hst (by rw [← HS.out, ← HT.out, e]))
          have d3 := ba_ne _ _ hst
          clear hst
          go_wp2_with fail
          go_quiet (fail)
          go_wp2_with fail
          go_ret
          exact ⟨rfl, below_drewN hB _⟩
      · obtain rfl : k = N := by omega
        have d2 : decide ((k : Int) < (k : Int)) = false := nb (by omega)
        obtain rfl : b = true := by rw [← HB.out]; exact yb (ext_getD (by rw [HN.out, HM.out]) (by rw [HN.out]; exact HZ0.out))
        go_wp2_with fail
        go_ret
        exact ⟨rfl, hB⟩
  · have d0 : ((N : Int) != (M : Int)) = true := by simp; omega
    obtain rfl : b = false := by rw [← HB.out]; exact nb (fun e => hlen (by rw [← HN.out, ← HM.out, e]))
    clear hlen
    go_enter Tryd.func32, Tryd.ntmps32
    go_wp2_with fail
    go_ret
    exact ⟨rfl, Below.refl _ _⟩
end Go.Proofs.YtimkeafpefkheaaDoor
