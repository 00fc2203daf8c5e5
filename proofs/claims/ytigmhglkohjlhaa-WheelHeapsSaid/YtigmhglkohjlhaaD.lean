


/- Timers: lists of timers in memory; the place of a kind and an ID, in both texts. -/
import Derived.Test.YtigmhglkohjlhaaC
namespace Go.Proofs.Ytigmhglkohjlhaa
open Go.RowKit
set_option linter.unusedSimpArgs false
set_option linter.unusedVariables false
set_option maxRecDepth 100000

def Tm.cs (t : Tm) : List Value := [.int .i64 t.tk, .int .i64 t.kd, .int .i64 t.nd, .int .u64 t.sq, .int .i64 t.of]
def tmR : RowT Tm := ⟨5, Tm.cs, z0, by decide, fun _ => rfl, fun t u hu => by
  simp only [Tm.cs, List.mem_cons, List.mem_nil_iff, or_false] at hu
  rcases hu with rfl | rfl | rfl | rfl | rfl <;> rfl⟩
/-- a timer at a place -/
abbrev MA (w : World) (b o : Nat) (t : Tm) : Prop := w.cell? ⟨b, o, none⟩ = some (.int .i64 t.tk) ∧ w.cell? ⟨b, o + 1, none⟩ = some (.int .i64 t.kd) ∧ w.cell? ⟨b, o + 2, none⟩ = some (.int .i64 t.nd) ∧ w.cell? ⟨b, o + 3, none⟩ = some (.int .u64 t.sq) ∧ w.cell? ⟨b, o + 4, none⟩ = some (.int .i64 t.of)
theorem MA.keep {W w1 : World} {b o : Nat} {t : Tm} (hb : Below W.heap.size W w1) (h : MA W b o t) : MA w1 b o t := ⟨cell_later hb h.1, cell_later hb h.2.1, cell_later hb h.2.2.1, cell_later hb h.2.2.2.1, cell_later hb h.2.2.2.2⟩
theorem RA.ma {w : World} {b o : Nat} {t : Tm} (h : RA tmR w b o t) : MA w b o t := ⟨h 0 _ rfl, h 1 _ rfl, h 2 _ rfl, h 3 _ rfl, h 4 _ rfl⟩
/-- v reads as the timers l -/
abbrev RdM (w : World) (v : Value) (l : List Tm) : Prop := RdL tmR w v l
theorem RdM.at {w : World} {a : Option Addr} {n c : Nat} {l : List Tm} (h : RdM w (.slice a n c) l) (hn : l.length = n) (k : Nat) (hk : k < n) : ∃ b off, a = some ⟨b, off, none⟩ ∧ n ≤ c ∧ MA w b (off + k * 5) (g l k) := by
  obtain ⟨b, off, rfl, hc, ra⟩ := RdL.at h hn k hk
  exact ⟨b, off, rfl, hc, RA.ma ra⟩
/-- the closure of find -/
theorem pred_any (y t : Tm) (b c : Nat) (w : World) (hk : w.cell? ⟨b, 0, none⟩ = some (.int .i64 t.kd)) (h0 : w.cell? ⟨c, 0, none⟩ = some (.int .i64 t.nd)) (h1 : w.cell? ⟨c, 1, none⟩ = some (.int .u64 t.sq)) (h2 : w.cell? ⟨c, 2, none⟩ = some (.int .i64 t.of)) :
    Calls Try.prog 50 #[y.v, .pointer (some ⟨b, 0, none⟩), .pointer (some ⟨c, 0, none⟩)] w fun e w' => e = .returned (.bool (decide (sameK y t))) ∧ Below w.heap.size w w' := by
  have hk' := cell_al (.cells #[.int .i64 y.tk, .int .i64 y.kd, .int .i64 y.nd, .int .u64 y.sq, .int .i64 y.of] 41) hk
  have h0' := cell_al (.cells #[.int .i64 y.tk, .int .i64 y.kd, .int .i64 y.nd, .int .u64 y.sq, .int .i64 y.of] 41) h0
  have h1' := cell_al (.cells #[.int .i64 y.tk, .int .i64 y.kd, .int .i64 y.nd, .int .u64 y.sq, .int .i64 y.of] 41) h1
  have h2' := cell_al (.cells #[.int .i64 y.tk, .int .i64 y.kd, .int .i64 y.nd, .int .u64 y.sq, .int .i64 y.of] 41) h2
  obtain ⟨r, hr⟩ : ∃ r, decide (sameK y t) = r := ⟨_, rfl⟩
  rw [hr]
  unfold sameK at hr
  by_cases c1 : y.kd = t.kd
  · have d1 : (y.kd == t.kd) = true := by simp [c1]
    by_cases c2 : y.nd = t.nd
    · have d2 : (y.nd == t.nd) = true := by simp [c2]
      by_cases c3 : y.sq = t.sq
      · have d3 : (y.sq == t.sq) = true := by simp [c3]
        by_cases c4 : y.of = t.of
        · have d4 : (y.of == t.of) = true := by simp [c4]
          obtain rfl : r = true := by rw [← hr]; exact yb ⟨c1, c2, c3, c4⟩
          clear c1 c2 c3 c4 hr
          go_enter Try.func50, Try.ntmps50
          go_wp2
          go_ret
          exact ⟨rfl, (by repeat (first | assumption | exact Below.refl _ _ | apply Below.al | apply below_drewN | apply Below.drew | refine Below.next ?_ (by assumption)))⟩
        · have d4 : (y.of == t.of) = false := by simp [c4]
          obtain rfl : r = false := by rw [← hr]; exact nb (fun h => c4 h.2.2.2)
          clear c1 c2 c3 c4 hr
          go_enter Try.func50, Try.ntmps50
          go_wp2
          go_ret
          exact ⟨rfl, (by repeat (first | assumption | exact Below.refl _ _ | apply Below.al | apply below_drewN | apply Below.drew | refine Below.next ?_ (by assumption)))⟩
      · have d3 : (y.sq == t.sq) = false := by simp [c3]
        obtain rfl : r = false := by rw [← hr]; exact nb (fun h => c3 h.2.2.1)
        clear c1 c2 c3 hr
        go_enter Try.func50, Try.ntmps50
        go_wp2
        go_ret
        exact ⟨rfl, (by repeat (first | assumption | exact Below.refl _ _ | apply Below.al | apply below_drewN | apply Below.drew | refine Below.next ?_ (by assumption)))⟩
    · have d2 : (y.nd == t.nd) = false := by simp [c2]
      obtain rfl : r = false := by rw [← hr]; exact nb (fun h => c2 h.2.1)
      clear c1 c2 hr
      go_enter Try.func50, Try.ntmps50
      go_wp2
      go_ret
      exact ⟨rfl, (by repeat (first | assumption | exact Below.refl _ _ | apply Below.al | apply below_drewN | apply Below.drew | refine Below.next ?_ (by assumption)))⟩
  · have d1 : (y.kd == t.kd) = false := by simp [c1]
    obtain rfl : r = false := by rw [← hr]; exact nb (fun h => c1 h.1)
    clear c1 hr
    go_enter Try.func50, Try.ntmps50
    go_wp2
    go_ret
    exact ⟨rfl, (by repeat (first | assumption | exact Below.refl _ _ | apply Below.al | apply below_drewN | apply Below.drew | refine Below.next ?_ (by assumption)))⟩
theorem fnd_none {l : List Tm} {t : Tm} (h : ∀ j, j < l.length → ¬ sameK (g l j) t) : fnd l t = -1 := by
  rcases fnd_cases l t with ⟨e, _⟩ | ⟨i, _, h2, h3, _⟩
  · exact e
  · exact absurd h3 (h i h2)
theorem fnd_some {l : List Tm} {t : Tm} {k : Nat} (hk : k < l.length) (h1 : sameK (g l k) t) (h : ∀ j, j < k → ¬ sameK (g l j) t) : fnd l t = (k : Int) := by
  unfold fnd
  rw [fndN_at l 0 k hk h1 h, Nat.zero_add]
set_option maxHeartbeats 1000000 in
theorem index_any (v : Value) (l : List Tm) (t : Tm) (b c : Nat) (w : World) (hk : w.cell? ⟨b, 0, none⟩ = some (.int .i64 t.kd)) (h0 : w.cell? ⟨c, 0, none⟩ = some (.int .i64 t.nd)) (h1 : w.cell? ⟨c, 1, none⟩ = some (.int .u64 t.sq)) (h2 : w.cell? ⟨c, 2, none⟩ = some (.int .i64 t.of)) (h : RdM w v l) :
    Calls Try.prog 49 #[v, .func (.func 50) #[] #[.pointer (some ⟨b, 0, none⟩), .pointer (some ⟨c, 0, none⟩)]] w fun e w' => e = .returned (.int .i64 (fnd l t)) ∧ Below w.heap.size w w' := by
  obtain ⟨a0, n0, rfl⟩ := h.form
  have hmx := h.2.1
  unfold maxLen at hmx
  obtain ⟨N, hN⟩ : ∃ N, l.length = N := ⟨_, rfl⟩
  rw [hN] at h hmx ⊢
  have HN := Lib.hid hN
  have HR := Lib.hid h
  obtain ⟨r, hr⟩ : ∃ r, fnd l t = r := ⟨_, rfl⟩
  rw [hr]
  have HF := Lib.hid hr
  clear hN h hr
  go_enter Try.func49, Try.ntmps49
  go_wp2_with fail
  go_loopw [8] (fun i wr => ∃ k : Nat, k ≤ N ∧ i = .int .i64 k ∧ Below w.heap.size w wr ∧ ∀ j, j < k → ¬ sameK (g l j) t) (fun i _ => N - (intOf i).toNat)
  case atStart => exact ⟨0, Nat.zero_le _, rfl, Below.refl _ _, fun j hj => by omega⟩
  case round =>
    obtain ⟨k, hkN, rfl, hB, hz0⟩ := hrel
    have HZ0 := Lib.hid hz0
    clear hz0
    by_cases hlt : k < N
    · have d2 : decide ((k : Int) < (N : Int)) = true := yb (by omega)
      obtain ⟨b1, o1, rfl, hc1, g0, g1, g2, g3, g4⟩ := RdM.at (HR.out.keep hB) HN.out k hlt
      obtain ⟨y, HY⟩ : ∃ y, Hid (g l k = y) := ⟨_, rfl⟩
      rw [HY.out] at g0 g1 g2 g3 g4
      have i1 : (0 : Int) ≤ (k : Int) := by omega
      have i2 : (k : Int) < (N : Int) := by omega
      have hwk : IntKind.i64.wrap (k : Int) = (k : Int) := IntWalk.i64_in _ (by omega)
      have hP := pred_any y t b c wr (cell_later hB hk) (cell_later hB h0) (cell_later hB h1) (cell_later hB h2)
      by_cases hs : sameK y t
      · obtain rfl : r = (k : Int) := by rw [← HF.out]; exact fnd_some (by rw [HN.out]; exact hlt) (by rw [HY.out]; exact hs) HZ0.out
        rw [yb hs] at hP
        have HPP := Lib.hid hP
        clear hP hs
        go_wp2_with fail
        refine HPP.out.mono ?_
        rintro e w1 ⟨rfl, hb1⟩
        have hB1 := Below.next hB hb1
        clear hb1
        go_wp2_with fail
        go_ret
        exact ⟨rfl, hB1⟩
      · rw [nb hs] at hP
        have HPP := Lib.hid hP
        have HS := Lib.hid hs
        clear hP hs
        go_wp2_with fail
        refine HPP.out.mono ?_
        rintro e w1 ⟨rfl, hb1⟩
        have hB1 := Below.next hB hb1
        clear hb1
        go_wp2_with fail
        go_roundw
        case rel => exact ⟨k + 1, by omega, by go_num, hB1, fun j hj => by
          by_cases hjk : j = k
          · subst hjk; rw [HY.out]; exact HS.out
          · exact HZ0.out j (by omega)⟩
        case measure => simp [intOf]; omega
    · obtain rfl : k = N := by omega
      have d2 : decide ((k : Int) < (k : Int)) = false := nb (by omega)
      obtain rfl : r = -1 := by rw [← HF.out]; exact fnd_none (by rw [HN.out]; exact HZ0.out)
      go_wp2_with fail
      go_ret
      exact ⟨rfl, hB⟩
theorem find_any (v : Value) (l : List Tm) (t : Tm) (w : World) (h : RdM w v l) :
    Calls Try.prog 36 #[v, .int .i64 t.kd, t.iv] w fun e w' => e = .returned (.int .i64 (fnd l t)) ∧ Below w.heap.size w w' := by
  obtain ⟨W, hW⟩ : ∃ W : World, W = (w.alloc (.cells #[.int .i64 t.kd] 3)).alloc (.cells #[.int .i64 t.nd, .int .u64 t.sq, .int .i64 t.of] 39) := ⟨_, rfl⟩
  have hB : Below w.heap.size w W := by rw [hW]; exact (by repeat (first | assumption | exact Below.refl _ _ | apply Below.al | apply below_drewN | apply Below.drew | refine Below.next ?_ (by assumption)))
  have bA : BoxN W w.heap.size 3 #[.int .i64 t.kd] := by rw [hW]; exact (BoxN.new w _ _).below (Below.al (Below.refl _ _) _)
  have bB : BoxN W (w.heap.size + 1) 39 #[.int .i64 t.nd, .int .u64 t.sq, .int .i64 t.of] := by
    rw [hW]
    have := BoxN.new (w.alloc (.cells #[.int .i64 t.kd] 3)) 39 #[.int .i64 t.nd, .int .u64 t.sq, .int .i64 t.of]
    simpa using this
  have HI := Lib.hid (index_any v l t w.heap.size (w.heap.size + 1) W (bA.cell 0) (bB.cell 0) (bB.cell 1) (bB.cell 2) (h.keep hB))
  clear bA bB h
  go_enter Try.func36, Try.ntmps36
  go_upto_region 1 with fail
  rw [← hW]
  clear hW
  go_wp2_with fail
  refine HI.out.mono ?_
  rintro e w1 ⟨rfl, hb1⟩
  have hB1 := Below.next hB hb1
  go_wp2_with fail
  go_ret
  exact ⟨rfl, hB1⟩
end Go.Proofs.Ytigmhglkohjlhaa
