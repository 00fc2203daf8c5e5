


/- Volume: contracts of the small functions of chapter 23 (pipe.volume, position, from, through, Book, Finish, Left, Bytes, and the reference's). -/
import Derived.Test.YtgmfifilgbbogaaChecked
import Derived.Test.YtgmfifilgbbogaaR
import Derived.WalkKit
import Derived.Deep.QuietTactic
import Derived.BigQuiet
import Derived.Lib.Hide
import Derived.BigGuardPart
import Derived.Deep.DeepCutAuto
import Derived.Deep.RegionHeld3
import Derived.WalkSmall
import Derived.WalkSpells
namespace Go.Proofs.Ytgmfifilgbbogaa
open Go.RowKit
set_option linter.unusedSimpArgs false
set_option linter.unusedVariables false

structure Ct where
  fr : Int
  dt : Int
  st : Int
  en : Int
  rt : Int
  dl : Int

def okC (c : Ct) : Prop := (1 ≤ c.fr ∧ c.fr ≤ 16) ∧ (1 ≤ c.dt ∧ c.dt ≤ 16) ∧ c.fr ≠ c.dt ∧ 0 ≤ c.st ∧ c.st < c.en ∧ c.en ≤ 1099511627776 ∧ 1 ≤ c.rt ∧ c.rt ≤ 1048576 ∧ 0 ≤ c.dl ∧ c.dl ≤ 1048576
instance (c : Ct) : Decidable (okC c) := by unfold okC; infer_instance

abbrev Ct.v (c : Ct) : Value := .agg #[.int .i64 c.fr, .int .i64 c.dt, .int .i64 c.st, .int .i64 c.en, .int .i64 c.rt, .int .i64 c.dl]

/-- block b holds the contact c -/
abbrev BC (w : World) (b : Nat) (c : Ct) : Prop := w.cell? ⟨b, 0, none⟩ = some (.int .i64 c.fr) ∧ w.cell? ⟨b, 1, none⟩ = some (.int .i64 c.dt) ∧ w.cell? ⟨b, 2, none⟩ = some (.int .i64 c.st) ∧
  w.cell? ⟨b, 3, none⟩ = some (.int .i64 c.en) ∧ w.cell? ⟨b, 4, none⟩ = some (.int .i64 c.rt) ∧ w.cell? ⟨b, 5, none⟩ = some (.int .i64 c.dl)

theorem BC.keep {W w1 : World} {b : Nat} {c : Ct} (hb : Below W.heap.size W w1) (h : BC W b c) : BC w1 b c :=
  ⟨cell_later hb h.1, cell_later hb h.2.1, cell_later hb h.2.2.1, cell_later hb h.2.2.2.1, cell_later hb h.2.2.2.2.1, cell_later hb h.2.2.2.2.2⟩


def vol (c : Ct) : Int := c.rt * (c.en - c.st)
def pos (c : Ct) (t : Int) : Int := if t ≤ c.st then 0 else c.rt * (min t c.en - c.st)
def thr (c : Ct) (p : Int) : Int := c.st + (p + c.rt - 1) / c.rt

theorem mul_bd {a b A B : Int} (h0 : 0 ≤ a) (h1 : a ≤ A) (h2 : 0 ≤ b) (h3 : b ≤ B) : 0 ≤ a * b ∧ a * b ≤ A * B :=
  ⟨Int.mul_nonneg h0 h2, Int.mul_le_mul h1 h3 h2 (by omega)⟩

theorem vol_bd (c : Ct) (h : okC c) : 0 ≤ c.rt * (c.en - c.st) ∧ c.rt * (c.en - c.st) ≤ 1152921504606846976 := by
  obtain ⟨_, _, _, h1, h2, h3, h4, h5, _⟩ := h
  have := mul_bd (a := c.rt) (b := c.en - c.st) (A := 1048576) (B := 1099511627776) (by omega) (by omega) (by omega) (by omega)
  omega

theorem pos_bd (c : Ct) (h : okC c) (t : Int) (ht : ¬ t ≤ c.st) : 0 ≤ c.rt * (min t c.en - c.st) ∧ c.rt * (min t c.en - c.st) ≤ 1152921504606846976 := by
  obtain ⟨_, _, _, h1, h2, h3, h4, h5, _⟩ := h
  have := mul_bd (a := c.rt) (b := min t c.en - c.st) (A := 1048576) (B := 1099511627776) (by omega) (by omega) (by omega) (by omega)
  omega

theorem pos_nn (c : Ct) (h : okC c) (t : Int) : 0 ≤ pos c t := by
  unfold pos; split
  · omega
  · exact (pos_bd c h t ‹_›).1

theorem pos_le (c : Ct) (h : okC c) (t : Int) : pos c t ≤ vol c := by
  have := vol_bd c h
  unfold pos vol; split
  · exact this.1
  · obtain ⟨_, _, _, h1, h2, h3, h4, h5, _⟩ := h
    exact Int.mul_le_mul_of_nonneg_left (by omega) (by omega)

theorem within_any (x lo hi : Int) (w : World) :
    Calls Try.prog 84 #[.int .i64 x, .int .i64 lo, .int .i64 hi] w fun e w' => e = .returned (.bool (decide (lo ≤ x ∧ x ≤ hi))) ∧ w = w' := by
  by_cases h : lo ≤ x
  all_goals by_cases h2 : x ≤ hi
  all_goals
    go_enter Try.func84, Try.ntmps84
    go_wp2
    go_ret
    simp [*]

theorem vol_any (c : Ct) (h : okC c) (w : World) :
    Calls Try.prog 77 #[c.v] w fun e w' => e = .returned (.int .i64 (vol c)) ∧ Below w.heap.size w w' := by
  have hv := vol_bd c h
  obtain ⟨_, _, _, h1, h2, h3, h4, h5, _⟩ := h
  unfold vol
  go_enter Try.func77, Try.ntmps77
  go_wp2
  go_ret
  exact ⟨rfl, (by repeat (first | assumption | exact Below.refl _ _ | apply Below.al | apply below_drewN | apply Below.drew | refine Below.next ?_ (by assumption)))⟩

theorem rvol_any (c : Ct) (h : okC c) (w : World) :
    Calls Try.prog 82 #[c.v] w fun e w' => e = .returned (.int .i64 (vol c)) ∧ Below w.heap.size w w' := by
  have hv := vol_bd c h
  obtain ⟨_, _, _, h1, h2, h3, h4, h5, _⟩ := h
  unfold vol
  go_enter Try.func82, Try.ntmps82
  go_wp2
  go_ret
  exact ⟨rfl, (by repeat (first | assumption | exact Below.refl _ _ | apply Below.al | apply below_drewN | apply Below.drew | refine Below.next ?_ (by assumption)))⟩

/-- plan.nodes of two numbers -/
theorem nodes_any (x y : Int) (b : Nat) (w : World) (h0 : w.cell? ⟨b, 0, none⟩ = some (.int .i64 x)) (h1 : w.cell? ⟨b, 1, none⟩ = some (.int .i64 y)) :
    Calls Try.prog 75 #[.slice (some ⟨b, 0, none⟩) 2 2] w fun e w' => e = .returned (.bool (decide ((1 ≤ x ∧ x ≤ 16) ∧ 1 ≤ y ∧ y ≤ 16))) ∧ w = w' := by
  go_enter Try.func75, Try.ntmps75
  go_wp2
  refine wp_loop_rounds 3 ?_; rw [rounds_succ]
  go_wp2
  all_goals try rw [rounds_succ]
  all_goals go_wp2
  all_goals try rw [rounds_succ]
  all_goals go_wp2
  all_goals (go_ret; first | exact ⟨rfl, rfl⟩ | (refine ⟨?_, rfl⟩; simp; omega))

set_option maxHeartbeats 400000 in
theorem one_any (c : Ct) (w : World) :
    Calls Try.prog 64 #[c.v] w fun e w' => e = .returned (.int .i64 (if okC c then 0 else 2)) ∧ Below w.heap.size w w' := by
  unfold okC
  go_enter Try.func64, Try.ntmps64
  go_wp2_with (go_at_call 75; refine (nodes_any c.fr c.dt _ _ (by simp [go_sem]) (by simp [go_sem])).mono ?_; rintro e w' ⟨rfl, rfl⟩)
  all_goals (go_ret; exact ⟨rfl, (by repeat (first | assumption | exact Below.refl _ _ | apply Below.al | apply below_drewN | apply Below.drew | refine Below.next ?_ (by assumption)))⟩)

set_option maxHeartbeats 400000 in
theorem rone_any (c : Ct) (w : World) :
    Calls Try.prog 72 #[c.v] w fun e w' => e = .returned (.int .i64 (if okC c then 0 else 2)) ∧ Below w.heap.size w w' := by
  unfold okC
  go_enter Try.func72, Try.ntmps72
  go_wp2
  all_goals (go_ret; first | exact ⟨rfl, (by repeat (first | assumption | exact Below.refl _ _ | apply Below.al | apply below_drewN | apply Below.drew | refine Below.next ?_ (by assumption)))⟩ | (refine ⟨?_, (by repeat (first | assumption | exact Below.refl _ _ | apply Below.al | apply below_drewN | apply Below.drew | refine Below.next ?_ (by assumption)))⟩; congr 2; split <;> omega))

theorem one_yes (c : Ct) (h : okC c) (w : World) :
    Calls Try.prog 64 #[c.v] w fun e w' => e = .returned (.int .i64 0) ∧ Below w.heap.size w w' := by have := one_any c w; rwa [if_pos h] at this
theorem one_no (c : Ct) (h : ¬ okC c) (w : World) :
    Calls Try.prog 64 #[c.v] w fun e w' => e = .returned (.int .i64 2) ∧ Below w.heap.size w w' := by have := one_any c w; rwa [if_neg h] at this
theorem rone_yes (c : Ct) (h : okC c) (w : World) :
    Calls Try.prog 72 #[c.v] w fun e w' => e = .returned (.int .i64 0) ∧ Below w.heap.size w w' := by have := rone_any c w; rwa [if_pos h] at this
theorem rone_no (c : Ct) (h : ¬ okC c) (w : World) :
    Calls Try.prog 72 #[c.v] w fun e w' => e = .returned (.int .i64 2) ∧ Below w.heap.size w w' := by have := rone_any c w; rwa [if_neg h] at this

def tickB (t : Int) : Bool := decide (0 ≤ t ∧ t ≤ 1099511627776)
def bytesB (t : Int) : Bool := decide (1 ≤ t ∧ t ≤ 1099511627776)

theorem tick_any (t : Int) (w : World) :
    Calls Try.prog 76 #[.int .i64 t] w fun e w' => e = .returned (.bool (tickB t)) ∧ w = w' := by
  go_enter Try.func76, Try.ntmps76
  go_wp2_with (go_at_call 84; refine (within_any _ _ _ _).mono ?_; rintro e w' ⟨rfl, rfl⟩)
  go_ret
  exact ⟨by simp [tickB], rfl⟩

theorem rtick_any (t : Int) (w : World) :
    Calls Try.prog 81 #[.int .i64 t] w fun e w' => e = .returned (.bool (tickB t)) ∧ w = w' := by
  unfold tickB
  go_enter Try.func81, Try.ntmps81
  go_wp2
  all_goals (go_ret; first | exact ⟨rfl, rfl⟩ | (refine ⟨?_, rfl⟩; simp; omega))

theorem bytes_any (t : Int) (w : World) :
    Calls Try.prog 78 #[.int .i64 t] w fun e w' => e = .returned (.bool (bytesB t)) ∧ w = w' := by
  go_enter Try.func78, Try.ntmps78
  go_wp2_with (go_at_call 84; refine (within_any _ _ _ _).mono ?_; rintro e w' ⟨rfl, rfl⟩)
  go_ret
  exact ⟨by simp [bytesB], rfl⟩

theorem pos_any (c : Ct) (h : okC c) (t : Int) (w : World) :
    Calls Try.prog 85 #[c.v, .int .i64 t] w fun e w' => e = .returned (.int .i64 (pos c t)) ∧ Below w.heap.size w w' := by
  by_cases ht : t ≤ c.st
  · rw [show pos c t = 0 from if_pos ht]
    go_enter Try.func85, Try.ntmps85
    go_wp2
    go_ret
    exact ⟨rfl, (by repeat (first | assumption | exact Below.refl _ _ | apply Below.al | apply below_drewN | apply Below.drew | refine Below.next ?_ (by assumption)))⟩
  · have hb := pos_bd c h t ht
    rw [show pos c t = c.rt * (min t c.en - c.st) from if_neg ht]
    obtain ⟨_, _, _, h1, h2, h3, h4, h5, _⟩ := h
    by_cases he : c.en < t
    · rw [show min t c.en = c.en by omega] at hb ⊢
      go_enter Try.func85, Try.ntmps85
      go_wp2
      go_ret
      exact ⟨rfl, (by repeat (first | assumption | exact Below.refl _ _ | apply Below.al | apply below_drewN | apply Below.drew | refine Below.next ?_ (by assumption)))⟩
    · rw [show min t c.en = t by omega] at hb ⊢
      go_enter Try.func85, Try.ntmps85
      go_wp2
      go_ret
      exact ⟨rfl, (by repeat (first | assumption | exact Below.refl _ _ | apply Below.al | apply below_drewN | apply Below.drew | refine Below.next ?_ (by assumption)))⟩

theorem rpos_any (c : Ct) (h : okC c) (t : Int) (w : World) :
    Calls Try.prog 83 #[c.v, .int .i64 t] w fun e w' => e = .returned (.int .i64 (pos c t)) ∧ Below w.heap.size w w' := by
  by_cases ht : t ≤ c.st
  · rw [show pos c t = 0 from if_pos ht]
    go_enter Try.func83, Try.ntmps83
    go_wp2
    go_ret
    exact ⟨rfl, (by repeat (first | assumption | exact Below.refl _ _ | apply Below.al | apply below_drewN | apply Below.drew | refine Below.next ?_ (by assumption)))⟩
  · have hb := pos_bd c h t ht
    rw [show pos c t = c.rt * (min t c.en - c.st) from if_neg ht]
    by_cases he : c.en ≤ t
    · go_enter Try.func83, Try.ntmps83
      go_wp2_with (go_at_call 82; refine (rvol_any c h _).mono ?_; rintro e w' ⟨rfl, hb1⟩)
      go_ret
      exact ⟨by rw [show min t c.en = c.en by omega]; rfl, (by repeat (first | assumption | exact Below.refl _ _ | apply Below.al | apply below_drewN | apply Below.drew | refine Below.next ?_ (by assumption)))⟩
    · rw [show min t c.en = t by omega] at hb ⊢
      obtain ⟨_, _, _, h1, h2, h3, h4, h5, _⟩ := h
      go_enter Try.func83, Try.ntmps83
      go_wp2
      go_ret
      exact ⟨rfl, (by repeat (first | assumption | exact Below.refl _ _ | apply Below.al | apply below_drewN | apply Below.drew | refine Below.next ?_ (by assumption)))⟩

theorem from_any (c : Ct) (h : okC c) (b t : Int) (w : World) :
    Calls Try.prog 79 #[c.v, .int .i64 b, .int .i64 t] w fun e w' => e = .returned (.int .i64 (max b (pos c t))) ∧ Below w.heap.size w w' := by
  go_enter Try.func79, Try.ntmps79
  go_wp2_with (go_at_call 85; refine (pos_any c h t _).mono ?_; rintro e w' ⟨rfl, hb1⟩)
  all_goals
    go_ret
    refine ⟨?_, (by repeat (first | assumption | exact Below.refl _ _ | apply Below.al | apply below_drewN | apply Below.drew | refine Below.next ?_ (by assumption)))⟩
  · rw [show max b (pos c t) = pos c t by omega]; rfl
  · rw [show max b (pos c t) = b by omega]; rfl

theorem thr_any (c : Ct) (h : okC c) (p : Int) (h0 : 0 ≤ p) (h1 : p ≤ vol c) (w : World) :
    Calls Try.prog 80 #[c.v, .int .i64 p] w fun e w' => e = .returned (.int .i64 (thr c p)) ∧ Below w.heap.size w w' := by
  unfold vol at h1
  have hv := vol_bd c h
  obtain ⟨_, _, _, h1, h2, h3, h4, h5, _⟩ := h
  have hq : (p + c.rt - 1) / c.rt ≤ p + c.rt - 1 := Int.ediv_le_self _ (by omega)
  have hq0 : 0 ≤ (p + c.rt - 1) / c.rt := Int.ediv_nonneg (by omega) (by omega)
  unfold thr
  go_enter Try.func80, Try.ntmps80
  go_wp2
  go_quiet (fail)
  go_wp2
  go_ret
  exact ⟨rfl, (by repeat (first | assumption | exact Below.refl _ _ | apply Below.al | apply below_drewN | apply Below.drew | refine Below.next ?_ (by assumption)))⟩

abbrev V3 (x y z : Int) : Value := .tuple #[.int .i64 x, .int .i64 y, .int .i64 z]
abbrev V2 (x y : Int) : Value := .tuple #[.int .i64 x, .int .i64 y]
end Go.Proofs.Ytgmfifilgbbogaa
