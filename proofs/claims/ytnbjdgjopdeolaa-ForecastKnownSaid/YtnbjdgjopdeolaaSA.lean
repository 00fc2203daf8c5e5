

/- Space: the plain model (sums, errors), total, of. -/
import Derived.Test.YtnbjdgjopdeolaaY
import Derived.Deep.MidRow
import Derived.Deep.RegionHeldLaw
namespace Go.Proofs.Ytnbjdgjopdeolaa
open Go.RowKit
set_option linter.unusedSimpArgs false
set_option linter.unusedVariables false
set_option maxRecDepth 100000

abbrev MQ : Int := 1099511627776
def Nn (xs : List Int) : Prop := ∀ x, x ∈ xs → 0 ≤ x ∧ x < 18446744073709551616
def tot (xs : List Int) : Int := if xs.sum ≤ 1099511627776 then xs.sum else 2199023255552

theorem Nn.tail {x : Int} {xs : List Int} (h : Nn (x :: xs)) : Nn xs := fun y hy => h y (List.mem_cons_of_mem _ hy)
theorem sum_nn : ∀ {xs : List Int}, Nn xs → 0 ≤ xs.sum
  | [], _ => by simp
  | x :: xs, h => by have := sum_nn h.tail; have := (h x List.mem_cons_self).1; simp; omega
theorem Nn.take {xs : List Int} (h : Nn xs) (k : Nat) : Nn (xs.take k) := fun x hx => h x (List.mem_of_mem_take hx)
theorem Nn.drop {xs : List Int} (h : Nn xs) (k : Nat) : Nn (xs.drop k) := fun x hx => h x (List.mem_of_mem_drop hx)
theorem sum_take_succ (xs : List Int) (k : Nat) (h : k < xs.length) : (xs.take (k + 1)).sum = (xs.take k).sum + xs.getD k 0 := by
  rw [List.take_succ_eq_append_getElem h, List.sum_append]; simp [List.getElem?_eq_getElem h]
theorem sum_take_le {xs : List Int} (h : Nn xs) (k : Nat) : (xs.take k).sum ≤ xs.sum := by
  have := sum_nn (h.drop k)
  have e : xs.sum = (xs.take k).sum + (xs.drop k).sum := by rw [← List.sum_append, List.take_append_drop]
  omega
theorem Nn.get {xs : List Int} (h : Nn xs) (k : Nat) (hk : k < xs.length) : 0 ≤ xs.getD k 0 ∧ xs.getD k 0 < 18446744073709551616 := by
  have := h xs[k] (List.getElem_mem hk)
  simpa [List.getElem?_eq_getElem hk] using this

set_option maxHeartbeats 1000000 in
theorem total_any (v : Value) (xs : List Int) (hn : Nn xs) (w : World) (h : RdI .u64 w v xs) :
    Calls Try.prog 110 #[v] w fun e w' => e = .returned (.int .u64 (tot xs)) ∧ w = w' := by
  obtain ⟨hm, ⟨a0, cap0, rfl, rfl⟩ | ⟨b, off, cap, rfl, hc, hr⟩⟩ := h.cases
  · go_enter Try.func110, Try.ntmps110
    go_wp2
    go_loop [3, 8] (fun n i => n = .int .u64 0 ∧ i = .int .i64 0) (fun _ _ => 0)
    case atStart => exact ⟨rfl, rfl⟩
    case round =>
      obtain ⟨rfl, rfl⟩ := hrel
      go_wp2
      go_ret
      exact ⟨rfl, rfl⟩
  · unfold maxLen at hm
    have HR := Lib.hid hr
    clear hr h
    obtain ⟨N, hN⟩ : ∃ N, xs.length = N := ⟨_, rfl⟩
    rw [hN] at hm hc ⊢
    have HN := Lib.hid hN
    clear hN
    have HT : ∀ s : Int, Hid (tot xs = s) → Hid (Value.int .u64 (tot xs) = .int .u64 s) := fun s hs => by rw [hs.out]; rfl
    go_enter Try.func110, Try.ntmps110
    go_wp2
    go_loop [3, 8] (fun n i => ∃ (k : Nat) (s : Int), k ≤ N ∧ Hid ((xs.take k).sum = s) ∧ 0 ≤ s ∧ s ≤ 1099511627776 ∧ n = .int .u64 s ∧ i = .int .i64 k) (fun _ i => N - (intOf i).toNat)
    case atStart => exact ⟨0, 0, Nat.zero_le _, by simp [Hid], by omega, by omega, rfl, rfl⟩
    case round =>
      obtain ⟨k, s, hk, HS, hs0, hs1, rfl, rfl⟩ := hrel
      by_cases hlt : k < N
      · obtain ⟨x, HX, hcell, hx0, hx1⟩ : ∃ x, Hid (xs.getD k 0 = x) ∧ w.cell? ⟨b, off + k, none⟩ = some (.int .u64 x) ∧ 0 ≤ x ∧ x < 18446744073709551616 := by
          have hg := hn.get k (by rw [HN.out]; exact hlt)
          exact ⟨_, rfl, HR.out k (by rw [HN.out]; exact hlt), hg.1, hg.2⟩
        have HS2 : Hid ((xs.take (k + 1)).sum = s + x) := by
          unfold Hid; rw [sum_take_succ xs k (by rw [HN.out]; exact hlt), HS.out, HX.out]
        have HL : Hid ((xs.take (k + 1)).sum ≤ xs.sum) := sum_take_le hn _
        by_cases hbig : 2199023255552 < x
        · have HF : Hid (tot xs = 2199023255552) := by
            have h1 := HS2.out; have h2 := HL.out
            exact if_neg (by omega)
          go_wp2
          go_ret
          exact ⟨by rw [HF.out]; rfl, rfl⟩
        · by_cases hbig2 : 1099511627776 < s + x
          · have HF : Hid (tot xs = 2199023255552) := by
              have h1 := HS2.out; have h2 := HL.out
              exact if_neg (by omega)
            go_wp2
            go_ret
            exact ⟨by rw [HF.out]; rfl, rfl⟩
          · go_wp2
            go_round
            case rel => exact ⟨k + 1, s + x, by omega, HS2, by omega, by omega, rfl, by go_num⟩
            case measure => simp [intOf]; omega
      · have HF : Hid (tot xs = s) := by
          have h1 := HS.out
          rw [show k = xs.length by rw [HN.out]; omega, List.take_length] at h1
          unfold Hid tot
          rw [h1, if_pos hs1]
        go_wp2
        go_ret
        exact ⟨by rw [HF.out]; rfl, rfl⟩

/-- block p is an account: a quota, what is stored, the slice it was made of, and the numbers. -/
def Acc (w : World) (p : Nat) (q st : Int) (rs : Value) (xs : List Int) : Prop :=
  xs.length = 16 ∧ w.heap[p]? = some (.cells ([.int .u64 q, .int .u64 st, rs] ++ ic .u64 xs).toArray 134 (0, 0))

theorem Acc.keep {W w1 : World} {p : Nat} {q st : Int} {rs : Value} {xs : List Int} (hb : Below W.heap.size W w1) (h : Acc W p q st rs xs) : Acc w1 p q st rs xs := by
  refine ⟨h.1, ?_⟩
  rw [hb.block p (by
    rcases Nat.lt_or_ge p W.heap.size with h1 | h1
    · exact h1
    · have := h.2; rw [Array.getElem?_eq_none h1] at this; cases this)]
  exact h.2
theorem Acc.c0 {w : World} {p : Nat} {q st : Int} {rs : Value} {xs : List Int} (h : Acc w p q st rs xs) : w.cell? ⟨p, 0, none⟩ = some (.int .u64 q) := by
  simp [World.cell?, h.2]
theorem Acc.c1 {w : World} {p : Nat} {q st : Int} {rs : Value} {xs : List Int} (h : Acc w p q st rs xs) : w.cell? ⟨p, 1, none⟩ = some (.int .u64 st) := by
  simp [World.cell?, h.2]
theorem Acc.c2 {w : World} {p : Nat} {q st : Int} {rs : Value} {xs : List Int} (h : Acc w p q st rs xs) : w.cell? ⟨p, 2, none⟩ = some rs := by
  simp [World.cell?, h.2]
theorem Acc.ci {w : World} {p : Nat} {q st : Int} {rs : Value} {xs : List Int} (h : Acc w p q st rs xs) (i : Nat) (hi : i < 16) : w.cell? ⟨p, 3 + i, none⟩ = some (.int .u64 (xs.getD i 0)) := by
  have := ic_get .u64 xs i (by rw [h.1]; exact hi)
  simp only [World.cell?, h.2]
  rw [show 3 + i = i + 3 by omega]
  simpa using this
theorem Acc.fz {w : World} {p : Nat} {q st : Int} {rs : Value} {xs : List Int} (h : Acc w p q st rs xs) (i : Nat) : w.frozen? ⟨p, i, none⟩ = false := by
  simp [World.frozen?, h.2]
theorem Acc.rd {w : World} {p : Nat} {q st : Int} {rs : Value} {xs : List Int} (h : Acc w p q st rs xs) : RdI .u64 w (.slice (some ⟨p, 3, none⟩) 16 16) xs := by
  refine ⟨by simp, by rw [h.1]; decide, .inr ⟨p, 3, 16, by rw [h.1], by rw [h.1]; exact Nat.le_refl _, fun j u hj => ?_⟩⟩
  have hjl : j < 16 := by have := (List.getElem?_eq_some_iff.1 hj).1; simp [h.1] at this; exact this
  rw [ic_get .u64 xs j (by rw [h.1]; exact hjl)] at hj
  cases hj
  exact h.ci j hjl
theorem Acc.set {w : World} {p : Nat} {q st : Int} {rs : Value} {xs : List Int} (h : Acc w p q st rs xs) (k : Nat) (hk : k < 16) (y : Int) : Acc (w.setCell ⟨p, 3 + k, none⟩ (.int .u64 y)) p q st rs (xs.set k y) := by
  refine ⟨by simp [h.1], ?_⟩
  simp only [World.setCell, Array.getElem?_modify, if_true, h.2, Option.map_some]
  congr 2
  rw [show 3 + k = k + 3 by omega]
  simp [ic, List.map_set]
theorem Acc.setSt {w : World} {p : Nat} {q st : Int} {rs : Value} {xs : List Int} (h : Acc w p q st rs xs) (y : Int) : Acc (w.setCell ⟨p, 1, none⟩ (.int .u64 y)) p q y rs xs := by
  refine ⟨h.1, ?_⟩
  simp [World.setCell, Array.getElem?_modify, h.2]
theorem Acc.drew {w : World} {p : Nat} {q st : Int} {rs : Value} {xs : List Int} (h : Acc w p q st rs xs) : Acc w.drew p q st rs xs := h

end Go.Proofs.Ytnbjdgjopdeolaa
