


/- Custody: tags, copies, frames and worlds in memory; the order of tags in both texts. -/
import Derived.Test.YtnkpjfogjkjcfaaCw
import Derived.Test.YtnkpjfogjkjcfaaRX
import Derived.Test.YtnkpjfogjkjcfaaRS
import Derived.Test.YtnkpjfogjkjcfaaRQ
import Derived.Test.YtnkpjfogjkjcfaaProg
import Derived.StillTailTactics
namespace Go.Proofs.Ytnkpjfogjkjcfaa
open Go.RowKit
set_option linter.unusedSimpArgs false
set_option linter.unusedVariables false
set_option maxRecDepth 100000

def Tg.cs (t : Tg) : List Value := [.int .i64 t.nd, .int .i64 t.of]
abbrev Tg.v (t : Tg) : Value := .agg #[.int .i64 t.nd, .int .i64 t.of]
def tgR : RowT Tg := ⟨2, Tg.cs, g0, by decide, fun _ => rfl, fun t u hu => by
  simp only [Tg.cs, List.mem_cons, List.mem_nil_iff, or_false] at hu
  rcases hu with rfl | rfl <;> rfl⟩
def Ps.vs (f : Ps) : List Value := [.int .i64 f.kd, .int .i64 f.fr, .int .i64 f.tt, .int .i64 f.of]
abbrev Ps.v (f : Ps) : Value := .agg #[.int .i64 f.kd, .int .i64 f.fr, .int .i64 f.tt, .int .i64 f.of]
def psR : RowT Ps := ⟨4, Ps.vs, p0, by decide, fun _ => rfl, fun t u hu => by
  simp only [Ps.vs, List.mem_cons, List.mem_nil_iff, or_false] at hu
  rcases hu with rfl | rfl | rfl | rfl <;> rfl⟩
/-- a copy as it lies in memory: its numbers, and its two slices -/
structure Cq where
  st : Int
  tt : Int
  of : Int
  nx : Int
  ta : Option Addr
  tn : Nat
  tc : Nat
  ka : Option Addr
  kn : Nat
  kc : Nat
abbrev Cq.tv (c : Cq) : Value := .slice c.ta c.tn c.tc
abbrev Cq.kv (c : Cq) : Value := .slice c.ka c.kn c.kc
def Cq.vs (c : Cq) : List Value := [.int .i64 c.st, .int .i64 c.tt, .int .i64 c.of, .int .i64 c.nx, c.tv, c.kv]
abbrev Cq.v (c : Cq) : Value := .agg #[.int .i64 c.st, .int .i64 c.tt, .int .i64 c.of, .int .i64 c.nx, c.tv, c.kv]
def cq0 : Cq := ⟨0, 0, 0, 0, none, 0, 0, none, 0, 0⟩
def cpR : RowT Cq := ⟨6, Cq.vs, cq0, by decide, fun _ => rfl, fun t u hu => by
  simp only [Cq.vs, List.mem_cons, List.mem_nil_iff, or_false] at hu
  rcases hu with rfl | rfl | rfl | rfl | rfl | rfl <;> rfl⟩
abbrev gq (q : List Cq) (i : Nat) : Cq := q.getD i cq0
abbrev RdG (w : World) (v : Value) (l : List Tg) : Prop := RdL tgR w v l
abbrev RdP (w : World) (v : Value) (l : List Ps) : Prop := RdL psR w v l
abbrev GA (w : World) (b o : Nat) (t : Tg) : Prop := w.cell? ⟨b, o, none⟩ = some (.int .i64 t.nd) ∧ w.cell? ⟨b, o + 1, none⟩ = some (.int .i64 t.of)
abbrev PA (w : World) (b o : Nat) (t : Ps) : Prop := w.cell? ⟨b, o, none⟩ = some (.int .i64 t.kd) ∧ w.cell? ⟨b, o + 1, none⟩ = some (.int .i64 t.fr) ∧ w.cell? ⟨b, o + 2, none⟩ = some (.int .i64 t.tt) ∧ w.cell? ⟨b, o + 3, none⟩ = some (.int .i64 t.of)
abbrev CA (w : World) (b o : Nat) (c : Cq) : Prop := w.cell? ⟨b, o, none⟩ = some (.int .i64 c.st) ∧ w.cell? ⟨b, o + 1, none⟩ = some (.int .i64 c.tt) ∧ w.cell? ⟨b, o + 2, none⟩ = some (.int .i64 c.of) ∧ w.cell? ⟨b, o + 3, none⟩ = some (.int .i64 c.nx) ∧ w.cell? ⟨b, o + 4, none⟩ = some c.tv ∧ w.cell? ⟨b, o + 5, none⟩ = some c.kv
theorem CA.keep {W w1 : World} {b o : Nat} {c : Cq} (hb : Below W.heap.size W w1) (h : CA W b o c) : CA w1 b o c := ⟨cell_later hb h.1, cell_later hb h.2.1, cell_later hb h.2.2.1, cell_later hb h.2.2.2.1, cell_later hb h.2.2.2.2.1, cell_later hb h.2.2.2.2.2⟩
theorem RdG.at {w : World} {a : Option Addr} {n c : Nat} {l : List Tg} (h : RdG w (.slice a n c) l) (hn : l.length = n) (k : Nat) (hk : k < n) : ∃ b off, a = some ⟨b, off, none⟩ ∧ n ≤ c ∧ GA w b (off + k * 2) (gt l k) := by
  obtain ⟨b, off, rfl, hc, ra⟩ := RdL.at h hn k hk
  exact ⟨b, off, rfl, hc, ra 0 _ rfl, ra 1 _ rfl⟩
theorem RdP.at {w : World} {a : Option Addr} {n c : Nat} {l : List Ps} (h : RdP w (.slice a n c) l) (hn : l.length = n) (k : Nat) (hk : k < n) : ∃ b off, a = some ⟨b, off, none⟩ ∧ n ≤ c ∧ PA w b (off + k * 4) (gp l k) := by
  obtain ⟨b, off, rfl, hc, ra⟩ := RdL.at h hn k hk
  exact ⟨b, off, rfl, hc, ra 0 _ rfl, ra 1 _ rfl, ra 2 _ rfl, ra 3 _ rfl⟩
theorem RdC.at {w : World} {a : Option Addr} {n c : Nat} {l : List Cq} (h : RdL cpR w (.slice a n c) l) (hn : l.length = n) (k : Nat) (hk : k < n) : ∃ b off, a = some ⟨b, off, none⟩ ∧ n ≤ c ∧ CA w b (off + k * 6) (gq l k) := by
  obtain ⟨b, off, rfl, hc, ra⟩ := RdL.at h hn k hk
  exact ⟨b, off, rfl, hc, ra 0 _ rfl, ra 1 _ rfl, ra 2 _ rfl, ra 3 _ rfl, ra 4 _ rfl, ra 5 _ rfl⟩
/-- y lies in memory as copy c -/
structure CopR (w : World) (y : Cq) (c : Cp) : Prop where
  st : y.st = c.st
  tt : y.tt = c.tt
  of : y.of = c.of
  nx : y.nx = c.nx
  tk : RdG w y.tv c.tk
  kp : RdG w y.kv c.kp
theorem CopR.keep {W w1 : World} {y : Cq} {c : Cp} (hb : Below W.heap.size W w1) (h : CopR W y c) : CopR w1 y c := ⟨h.st, h.tt, h.of, h.nx, h.tk.keep hb, h.kp.keep hb⟩
theorem CopR.zero (w : World) : CopR w cq0 cp0 := ⟨rfl, rfl, rfl, rfl, RdL.nil tgR w, RdL.nil tgR w⟩
/-- the parts of a world in memory -/
structure PtW (w : World) (cv fv : Value) (q : List Cq) (X : Wd) : Prop where
  rows : RdL cpR w cv q
  frs : RdP w fv X.fr
  len : q.length = X.cs.length
  cop : ∀ i, CopR w (gq q i) (gc X.cs i)
theorem PtW.keep {W w1 : World} {cv fv : Value} {q : List Cq} {X : Wd} (hb : Below W.heap.size W w1) (h : PtW W cv fv q X) : PtW w1 cv fv q X := ⟨h.rows.keep hb, h.frs.keep hb, h.len, fun i => (h.cop i).keep hb⟩
abbrev wV (X : Wd) (cv fv : Value) : Value := .agg #[.int .i64 X.ds, cv, fv]
/-- v reads as the world X -/
def RdW (w : World) (v : Value) (X : Wd) : Prop := ∃ cv fv q, v = wV X cv fv ∧ PtW w cv fv q X
theorem RdW.keep {W w1 : World} {v : Value} {X : Wd} (hb : Below W.heap.size W w1) (h : RdW W v X) : RdW w1 v X := by
  obtain ⟨cv, fv, q, hv, hp⟩ := h
  exact ⟨cv, fv, q, hv, hp.keep hb⟩
theorem PtW.zero (w : World) : PtW w (.slice none 0 0) (.slice none 0 0) [] W0 := ⟨RdL.nil cpR w, RdL.nil psR w, rfl, fun i => CopR.zero w⟩
theorem RdW.zero (w : World) : RdW w (.agg #[.int .i64 0, .slice none 0 0, .slice none 0 0]) W0 := ⟨_, _, _, rfl, PtW.zero w⟩

def cmpI (x y : Int) : Int := if x < y then -1 else if y < x then 1 else 0
theorem nan_any (x : Int) (w : World) : Calls Try.prog 87 #[.int .i64 x] w fun e w' => e = .returned (.bool false) ∧ w = w' := by
  have h : (x != x) = false := by simp
  go_enter Try.func87, Try.ntmps87
  go_wp2
  go_ret
  exact ⟨rfl, rfl⟩
theorem cmp_any (x y : Int) (w : World) : Calls Try.prog 84 #[.int .i64 x, .int .i64 y] w fun e w' => e = .returned (.int .i64 (cmpI x y)) ∧ w = w' := by
  have hc : (x < y ∧ cmpI x y = -1) ∨ (¬ x < y ∧ y < x ∧ cmpI x y = 1) ∨ (¬ x < y ∧ ¬ y < x ∧ cmpI x y = 0) := by
    unfold cmpI
    by_cases h1 : x < y <;> by_cases h2 : y < x <;> simp [h1, h2]
  rcases hc with ⟨h1, h⟩ | ⟨h1, h2, h⟩ | ⟨h1, h2, h⟩
  · rw [h]
    have d1 := yb h1
    go_enter Try.func84, Try.ntmps84
    go_wp2_with (go_at_call 87; refine (nan_any _ _).mono ?_; rintro e w1 ⟨rfl, rfl⟩)
    go_ret
    exact ⟨rfl, rfl⟩
  · rw [h]
    have d1 := nb h1; have d2 := yb h2
    go_enter Try.func84, Try.ntmps84
    go_wp2_with (go_at_call 87; refine (nan_any _ _).mono ?_; rintro e w1 ⟨rfl, rfl⟩)
    go_ret
    exact ⟨rfl, rfl⟩
  · rw [h]
    have d1 := nb h1; have d2 := nb h2
    go_enter Try.func84, Try.ntmps84
    go_wp2_with (go_at_call 87; refine (nan_any _ _).mono ?_; rintro e w1 ⟨rfl, rfl⟩)
    go_ret
    exact ⟨rfl, rfl⟩
/-- the first number that is not 0 -/
def or2 (x y : Int) : Int := if x ≠ 0 then x else y
theorem or_any (x y : Int) (b : Nat) (w : World) (h0 : w.cell? ⟨b, 0, none⟩ = some (.int .i64 x)) (h1 : w.cell? ⟨b, 1, none⟩ = some (.int .i64 y)) :
    Calls Try.prog 83 #[.slice (some ⟨b, 0, none⟩) 2 2] w fun e w' => e = .returned (.int .i64 (or2 x y)) ∧ w = w' := by
  have hc : ((x != 0) = true ∧ or2 x y = x) ∨ ((x != 0) = false ∧ (y != 0) = true ∧ or2 x y = y) ∨ ((x != 0) = false ∧ (y != 0) = false ∧ or2 x y = 0) := by
    unfold or2
    by_cases a1 : x = 0 <;> by_cases a2 : y = 0 <;> simp [a1, a2]
  rcases hc with ⟨d1, h⟩ | ⟨d1, d2, h⟩ | ⟨d1, d2, h⟩ <;> rw [h]
  all_goals
    go_enter Try.func83, Try.ntmps83
    go_wp2
    refine wp_loop_rounds 3 ?_; rw [rounds_succ]
    go_wp2
    all_goals try rw [rounds_succ]
    all_goals go_wp2
    all_goals try rw [rounds_succ]
    all_goals go_wp2
    all_goals (go_ret; exact ⟨rfl, rfl⟩)
def cmpG (a b : Tg) : Int := or2 (cmpI a.nd b.nd) (cmpI a.of b.of)
theorem cmpI_cases (x y : Int) : (x < y ∧ cmpI x y = -1) ∨ (y < x ∧ cmpI x y = 1) ∨ (x = y ∧ cmpI x y = 0) := by
  unfold cmpI
  by_cases h1 : x < y
  · left; exact ⟨h1, by rw [if_pos h1]⟩
  · by_cases h2 : y < x
    · right; left; exact ⟨h2, by rw [if_neg h1, if_pos h2]⟩
    · right; right; exact ⟨by omega, by rw [if_neg h1, if_neg h2]⟩
theorem cmpG_lt (a b : Tg) : cmpG a b < 0 ↔ ltG a b := by
  unfold cmpG or2 ltG
  rcases cmpI_cases a.nd b.nd with ⟨h, e⟩ | ⟨h, e⟩ | ⟨h, e⟩ <;> rcases cmpI_cases a.of b.of with ⟨h', e'⟩ | ⟨h', e'⟩ | ⟨h', e'⟩ <;> rw [e, e'] <;> simp <;> omega
theorem cmpG_ge (a b : Tg) : 0 ≤ cmpG a b ↔ ¬ ltG a b := by rw [← cmpG_lt]; omega
theorem or2_cells (w : World) (T : TypeId) (x y : Int) : (w.alloc (.cells #[.int .i64 x, .int .i64 y] T)).cell? ⟨w.heap.size, 0, none⟩ = some (.int .i64 x) ∧ (w.alloc (.cells #[.int .i64 x, .int .i64 y] T)).cell? ⟨w.heap.size, 1, none⟩ = some (.int .i64 y) := by
  have := BoxN.new w T #[.int .i64 x, .int .i64 y]
  exact ⟨this.cell 0, this.cell 1⟩
set_option maxHeartbeats 2000000 in
theorem compare_any (a b : Tg) (w : World) : Calls Try.prog 76 #[a.v, b.v] w fun e w' => e = .returned (.int .i64 (cmpG a b)) ∧ Below w.heap.size w w' := by
  obtain ⟨W, hW⟩ : ∃ W : World, W = (w.alloc (.cells #[.int .i64 a.nd, .int .i64 a.of] 80)).alloc (.cells #[.int .i64 b.nd, .int .i64 b.of] 80) := ⟨_, rfl⟩
  have hB : Below w.heap.size w W := by rw [hW]; exact (by repeat (first | assumption | exact Below.refl _ _ | apply Below.al | apply below_drewN | apply Below.drew | refine Below.next ?_ (by assumption)))
  have bA : BoxN W w.heap.size 80 #[.int .i64 a.nd, .int .i64 a.of] := by rw [hW]; exact (BoxN.new w _ _).below (Below.al (Below.refl _ _) _)
  have bB : BoxN W (w.heap.size + 1) 80 #[.int .i64 b.nd, .int .i64 b.of] := by
    rw [hW]
    have := BoxN.new (w.alloc (.cells #[.int .i64 a.nd, .int .i64 a.of] 80)) 80 #[.int .i64 b.nd, .int .i64 b.of]
    simpa using this
  have a0 : W.cell? ⟨w.heap.size, 0, none⟩ = some (.int .i64 a.nd) := bA.cell 0
  have a1 : W.cell? ⟨w.heap.size, 1, none⟩ = some (.int .i64 a.of) := bA.cell 1
  have b0 : W.cell? ⟨w.heap.size + 1, 0, none⟩ = some (.int .i64 b.nd) := bB.cell 0
  have b1 : W.cell? ⟨w.heap.size + 1, 1, none⟩ = some (.int .i64 b.of) := bB.cell 1
  clear bA bB
  go_enter Try.func76, Try.ntmps76
  go_upto_region 1 with fail
  rw [← hW]
  clear hW
  refine wp_region_noPanic ?_
  refine wp_region_held_drew (S := (fun w' => Below W.heap.size W w')) (by kernel_rfl) ((Below.refl _ W).drew) (fun hHeld => ?_)
  refine reg_tk (v := ?_) 0 5 rfl rfl (by kernel_rfl) (by kernel_rfl) (by kernel_rfl) (fun _ _ _ h => h) (by rfl) ?_ (by assumption) ?_
  rotate_left
  · (intro w hSw; (try dsimp only at hSw); go_simp; (try with_reducible rfl))
  simp only [List.setIfInBounds_toArray, List.set_cons_zero, List.set_cons_succ]
  refine reg_tk (v := .int .i64 a.nd) 1 6 rfl rfl (by kernel_rfl) (by kernel_rfl) (by kernel_rfl) (fun _ _ _ h => h) (by rfl) (fun w3 hS => by have g := cell_later hS a0; go_simp) (by assumption) ?_
  simp only [List.setIfInBounds_toArray, List.set_cons_zero, List.set_cons_succ]
  refine reg_tk (v := ?_) 2 7 rfl rfl (by kernel_rfl) (by kernel_rfl) (by kernel_rfl) (fun _ _ _ h => h) (by rfl) ?_ (by assumption) ?_
  rotate_left
  · (intro w hSw; (try dsimp only at hSw); go_simp; (try with_reducible rfl))
  simp only [List.setIfInBounds_toArray, List.set_cons_zero, List.set_cons_succ]
  refine reg_tk (v := .int .i64 b.nd) 3 8 rfl rfl (by kernel_rfl) (by kernel_rfl) (by kernel_rfl) (fun _ _ _ h => h) (by rfl) (fun w3 hS => by have g := cell_later hS b0; go_simp) (by assumption) ?_
  simp only [List.setIfInBounds_toArray, List.set_cons_zero, List.set_cons_succ]
  refine reg_call 4 9 84 (v := .int .i64 (cmpI a.nd b.nd)) (args := #[.int .i64 a.nd, .int .i64 b.nd]) rfl rfl (by kernel_rfl) (by kernel_rfl) (by kernel_rfl) (fun _ _ _ h => h) (by rfl) (fun w3 hS => by go_simp) (fun w3 hS => (cmp_any _ _ _).mono (by rintro e w4 ⟨rfl, rfl⟩; exact ⟨rfl, rfl⟩)) (by assumption) ?_
  simp only [List.setIfInBounds_toArray, List.set_cons_zero, List.set_cons_succ]
  refine reg_tk (v := ?_) 5 10 rfl rfl (by kernel_rfl) (by kernel_rfl) (by kernel_rfl) (fun _ _ _ h => h) (by rfl) ?_ (by assumption) ?_
  rotate_left
  · (intro w hSw; (try dsimp only at hSw); go_simp; (try with_reducible rfl))
  simp only [List.setIfInBounds_toArray, List.set_cons_zero, List.set_cons_succ]
  refine reg_tk (v := .int .i64 a.of) 6 11 rfl rfl (by kernel_rfl) (by kernel_rfl) (by kernel_rfl) (fun _ _ _ h => h) (by rfl) (fun w3 hS => by have g := cell_later hS a1; go_simp) (by assumption) ?_
  simp only [List.setIfInBounds_toArray, List.set_cons_zero, List.set_cons_succ]
  refine reg_tk (v := ?_) 7 12 rfl rfl (by kernel_rfl) (by kernel_rfl) (by kernel_rfl) (fun _ _ _ h => h) (by rfl) ?_ (by assumption) ?_
  rotate_left
  · (intro w hSw; (try dsimp only at hSw); go_simp; (try with_reducible rfl))
  simp only [List.setIfInBounds_toArray, List.set_cons_zero, List.set_cons_succ]
  refine reg_tk (v := .int .i64 b.of) 8 13 rfl rfl (by kernel_rfl) (by kernel_rfl) (by kernel_rfl) (fun _ _ _ h => h) (by rfl) (fun w3 hS => by have g := cell_later hS b1; go_simp) (by assumption) ?_
  simp only [List.setIfInBounds_toArray, List.set_cons_zero, List.set_cons_succ]
  refine reg_call 9 14 84 (v := .int .i64 (cmpI a.of b.of)) (args := #[.int .i64 a.of, .int .i64 b.of]) rfl rfl (by kernel_rfl) (by kernel_rfl) (by kernel_rfl) (fun _ _ _ h => h) (by rfl) (fun w3 hS => by go_simp) (fun w3 hS => (cmp_any _ _ _).mono (by rintro e w4 ⟨rfl, rfl⟩; exact ⟨rfl, rfl⟩)) (by assumption) ?_
  simp only [List.setIfInBounds_toArray, List.set_cons_zero, List.set_cons_succ]
  refine wpAnyH_ready (rs := [10]) (by kernel_rfl) (by simp) ?_
  refine AllReadyH.cons rfl (fun K hK => ?_) AllReadyH.nil
  go_simp
  obtain ⟨k0, k1⟩ := or2_cells W.drew 3 (cmpI a.nd b.nd) (cmpI a.of b.of)
  refine hK.out _ _ (Below.al hHeld _) (fun hHeld2 => ?_)
  clear hK K hHeld
  have hHeld := hHeld2
  clear hHeld2
  try simp only [Act.put, List.setIfInBounds_toArray, List.set_cons_zero, List.set_cons_succ]
  refine wpAnyH_ready (rs := [11]) (by kernel_rfl) (by simp) ?_
  refine AllReadyH.cons rfl (fun K hK => ?_) AllReadyH.nil
  go_simp
  refine (or_any (cmpI a.nd b.nd) (cmpI a.of b.of) _ _ k0 k1).mono ?_
  rintro e w3 ⟨rfl, rfl⟩
  refine hK.out _ _ hHeld (fun hHeld2 => ?_)
  clear hK K hHeld
  have hHeld := hHeld2
  clear hHeld2
  try simp only [Act.put, List.setIfInBounds_toArray, List.set_cons_zero, List.set_cons_succ]
  refine reg_tk (v := ?_) 12 4 rfl rfl (by kernel_rfl) (by kernel_rfl) (by kernel_rfl) (fun _ _ _ h => h) (by rfl) ?_ (by assumption) ?_
  rotate_left
  · (intro w hSw; (try dsimp only at hSw); go_simp; (try with_reducible rfl))
  simp only [List.setIfInBounds_toArray, List.set_cons_zero, List.set_cons_succ]
  refine wpAnyH_done (by kernel_rfl) ?_ _
  refine NoPanic.normal ?_
  go_wp2_with fail
  go_ret
  exact ⟨rfl, Below.next hB hHeld⟩
theorem rless_any (a b : Tg) (w : World) : Calls Try.prog 70 #[a.v, b.v] w fun e w' => e = .returned (.bool (decide (ltG a b))) ∧ Below w.heap.size w w' := by
  obtain ⟨r, hr⟩ : ∃ r, decide (ltG a b) = r := ⟨_, rfl⟩
  rw [hr]
  unfold ltG at hr
  by_cases c1 : a.nd < b.nd
  · obtain rfl : r = true := by rw [← hr]; exact yb (.inl c1)
    have d1 := yb c1
    clear c1 hr
    go_enter Try.func70, Try.ntmps70
    go_wp2_with fail
    go_ret
    exact ⟨rfl, (by repeat (first | assumption | exact Below.refl _ _ | apply Below.al | apply below_drewN | apply Below.drew | refine Below.next ?_ (by assumption)))⟩
  · have d1 := nb c1
    by_cases c2 : a.nd = b.nd
    · have d2 : (a.nd == b.nd) = true := by simp [c2]
      by_cases c3 : a.of < b.of
      · obtain rfl : r = true := by rw [← hr]; exact yb (.inr ⟨c2, c3⟩)
        have d3 := yb c3
        clear c1 c2 c3 hr
        go_enter Try.func70, Try.ntmps70
        go_wp2_with fail
        go_ret
        exact ⟨rfl, (by repeat (first | assumption | exact Below.refl _ _ | apply Below.al | apply below_drewN | apply Below.drew | refine Below.next ?_ (by assumption)))⟩
      · obtain rfl : r = false := by rw [← hr]; exact nb (by omega)
        have d3 := nb c3
        clear c1 c2 c3 hr
        go_enter Try.func70, Try.ntmps70
        go_wp2_with fail
        go_ret
        exact ⟨rfl, (by repeat (first | assumption | exact Below.refl _ _ | apply Below.al | apply below_drewN | apply Below.drew | refine Below.next ?_ (by assumption)))⟩
    · have d2 : (a.nd == b.nd) = false := by simp [c2]
      obtain rfl : r = false := by rw [← hr]; exact nb (by omega)
      clear c1 c2 hr
      go_enter Try.func70, Try.ntmps70
      go_wp2_with fail
      go_ret
      exact ⟨rfl, (by repeat (first | assumption | exact Below.refl _ _ | apply Below.al | apply below_drewN | apply Below.drew | refine Below.next ?_ (by assumption)))⟩
end Go.Proofs.Ytnkpjfogjkjcfaa
