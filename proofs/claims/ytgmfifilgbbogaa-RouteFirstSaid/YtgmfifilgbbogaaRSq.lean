


/- Routes: the best route by reckoning; the chapter's plan; the kit's comparison of routes. -/
import Derived.Test.YtgmfifilgbbogaaRPq
import Derived.Test.YtgmfifilgbbogaaV
namespace Go.Proofs.Ytgmfifilgbbogaa
open Go.RowKit
set_option linter.unusedSimpArgs false
set_option linter.unusedVariables false
set_option maxRecDepth 100000

def okC' (cs : List Ct) (n v E : Int) (k : Nat) (x s : Int) (i : Nat) : Bool := decide ((cs.getD i c0).fr = x) && match hopO (cs.getD i c0) s n with
  | some s1 => decide (s1 ≤ gI (bkL cs n v E k) (cs.getD i c0).dt)
  | none => false
theorem okC_iff {cs : List Ct} {n v E : Int} (hp : okP cs) (hn : 1 ≤ n) (hv : 1 ≤ v ∧ v ≤ 16) (hE : 0 ≤ E) {k : Nat} {x s : Int} {i : Nat} (hi : i < cs.length) : okC' cs n v E k x s i = true ↔ okI cs n v E k x s i := by
  have hb := bk_all hp hn hv hE k (cs := cs)
  have hok := hp.at hi
  unfold okC' okI
  rw [Bool.and_eq_true, decide_eq_true_eq]
  constructor
  · rintro ⟨h1, h2⟩
    cases hh : hopO (cs.getD i c0) s n with
    | none => rw [hh] at h2; cases h2
    | some s1 =>
      rw [hh] at h2
      have := (hop_gt hok hn hh).2
      exact ⟨h1, s1, rfl, (hb.2.2 _ _ (by have := hok.2.1; omega) (by omega)).1 (of_decide_eq_true h2)⟩
  · rintro ⟨h1, s1, hh, h2⟩
    rw [hh]
    have := (hop_gt hok hn hh).2
    exact ⟨h1, decide_eq_true ((hb.2.2 _ _ (by have := hok.2.1; omega) (by omega)).2 h2)⟩
/-- the first ways on, reckoned -/
def grdC (cs : List Ct) (n v E : Int) : Nat → Int → Int → List Nat
  | 0, _, _ => []
  | k + 1, x, s => match (List.range cs.length).find? (okC' cs n v E k x s) with
    | none => []
    | some i => i :: grdC cs n v E k (cs.getD i c0).dt ((hopO (cs.getD i c0) s n).getD 0)
theorem grdC_grd {cs : List Ct} {n v E : Int} (hp : okP cs) (hn : 1 ≤ n) (hv : 1 ≤ v ∧ v ≤ 16) (hE : 0 ≤ E) : ∀ (k : Nat) (x s : Int), gdP cs n v E k x s → Grd cs n v E k x s (grdC cs n v E k x s) := by
  intro k
  induction k with
  | zero => intro x s _; rfl
  | succ k ih =>
    intro x s h
    obtain ⟨i, hi, hok, hf⟩ := first_of cs.length (gdP_succ.1 h)
    have hfind : (List.range cs.length).find? (okC' cs n v E k x s) = some i := by
      rw [List.find?_range_eq_some]
      refine ⟨(okC_iff hp hn hv hE hi).2 hok, List.mem_range.2 hi, fun j hj => ?_⟩
      cases hh : okC' cs n v E k x s j
      · rfl
      · exact absurd ((okC_iff hp hn hv hE (by omega)).1 hh) (hf j hj)
    obtain ⟨hfr, s1, hs1, hg⟩ := hok
    have e : grdC cs n v E (k + 1) x s = i :: grdC cs n v E k (cs.getD i c0).dt s1 := by
      rw [grdC, hfind]
      simp only [hs1, Option.getD_some]
    rw [e]
    exact ⟨i, _, s1, rfl, hi, hfr, hs1, hg, hf, ih _ _ hg⟩
/-- what Best answers, reckoned -/
def bestV (cs : List Ct) (u v t n : Int) : Int × Int × List Nat := if chkE cs t n [u, v] ≠ 0 then (chkE cs t n [u, v], 0, []) else if arrE cs n u t v < 0 then (15, 0, []) else
  (0, arrE cs n u t v, grdC cs n v (arrE cs n u t v) (((List.range 17).find? fun k => decide (gI (rchL cs n u t k) v = arrE cs n u t v)).getD 0) u t)
theorem bestq_V (cs : List Ct) (u v t n : Int) : BestQ cs u v t n (bestV cs u v t n).1 (bestV cs u v t n).2.1 (bestV cs u v t n).2.2 := by
  unfold bestV
  by_cases h0 : chkE cs t n [u, v] = 0
  · rw [if_neg (by simpa using h0)]
    obtain ⟨hp, hq, hno⟩ := chkE_ok h0
    obtain ⟨hpk, hpl⟩ := planOk hp
    have hu := hno u (by simp)
    have hv := hno v (by simp)
    by_cases hn : arrE cs n u t v < 0
    · rw [if_pos hn]
      exact .inr (.inl ⟨h0, hn, rfl, rfl, rfl⟩)
    · rw [if_neg hn]
      obtain ⟨k, l, hb⟩ := best_ex (arr_least hpk hq.2.2.1 hu hq.1 (by omega) (v := v)) (by omega)
      have h15 := hb.few15 hpk hq.2.2.1 hu
      have hfind : (List.range 17).find? (fun k => decide (gI (rchL cs n u t k) v = arrE cs n u t v)) = some k := by
        rw [List.find?_range_eq_some]
        refine ⟨decide_eq_true ((hb.hops hpk hq.2.2.1 hu hq.1 (by omega) k).2 (Nat.le_refl _)), List.mem_range.2 (by omega), fun j hj => ?_⟩
        have : ¬ gI (rchL cs n u t j) v = arrE cs n u t v := fun hh => by
          have := (hb.hops hpk hq.2.2.1 hu hq.1 (by omega) j).1 hh
          omega
        rw [decide_eq_false this]
        rfl
      rw [hfind]
      refine .inr (.inr ⟨h0, rfl, rfl, k, hb.least, hb.nn, hb.good, hb.few, grdC_grd hpk hq.2.2.1 hv hb.nn k u t hb.good⟩)
  · rw [if_pos h0]
    exact .inl ⟨h0, rfl, rfl, rfl⟩
/-- the chapter's plan -/
def exP : List Ct := [⟨1, 2, 0, 10, 50, 1⟩, ⟨1, 3, 0, 30, 10, 0⟩, ⟨3, 1, 0, 30, 10, 0⟩, ⟨2, 3, 5, 20, 100, 2⟩]
theorem exP_wf : ∀ c, c ∈ exP → Wf c := by
  intro c hc
  simp only [exP, List.mem_cons, List.mem_nil_iff, or_false] at hc
  rcases hc with rfl | rfl | rfl | rfl <;> (unfold Wf; decide)
theorem shown_any (w : World) : Calls Try.prog 27 #[] w fun e w' => ∃ b, e = .returned (.slice (some ⟨b, 0, none⟩) 4 4) ∧ RdC w' (.slice (some ⟨b, 0, none⟩) 4 4) exP ∧ Below w.heap.size w w' := by
  go_enter Try.func27, Try.ntmps27
  go_wp2_with fail
  go_ret
  refine ⟨_, rfl, ?_, (by repeat (first | assumption | exact Below.refl _ _ | apply Below.al | apply below_drewN | apply Below.drew | refine Below.next ?_ (by assumption)))⟩
  have := owns_block (w.alloc (.cells (ccs exP).toArray 52)) w.heap.size 52 6 4 (ccs exP) w.heap.size (Nat.le_refl _) (heap_last w _) (by decide) (by decide)
  exact RdS.of_owns this (by decide)
set_option maxHeartbeats 1000000 in
theorem sameRoute_eq (v u : Value) (a : Int) (l : List Int) (w : World) (h : RdR w v a l) (hu : RdR w u a l) :
    Calls Try.prog 14 #[v, u] w fun e w' => e = .returned (.bool true) ∧ Below w.heap.size w w' := by
  obtain ⟨cv, rfl, hl⟩ := h
  obtain ⟨cu, rfl, hm⟩ := hu
  obtain ⟨a0, n0, rfl⟩ := hl.form
  obtain ⟨a1, n1, rfl⟩ := hm.form
  have hmx := hl.2.1
  unfold maxLen at hmx
  obtain ⟨N, hN⟩ : ∃ N, l.length = N := ⟨_, rfl⟩
  rw [hN] at hl hm hmx ⊢
  obtain ⟨W, hW⟩ : ∃ W : World, W = (w.alloc (.cells #[.slice a0 N n0, .int .i64 a] 27)).alloc (.cells #[.slice a1 N n1, .int .i64 a] 27) := ⟨_, rfl⟩
  have hB0 : Below w.heap.size w W := by rw [hW]; exact (by repeat (first | assumption | exact Below.refl _ _ | apply Below.al | apply below_drewN | apply Below.drew | refine Below.next ?_ (by assumption)))
  have hA : BoxN W w.heap.size 27 #[.slice a0 N n0, .int .i64 a] := by rw [hW]; exact (BoxN.new w _ _).below (by repeat (first | assumption | exact Below.refl _ _ | apply Below.al | apply below_drewN | apply Below.drew | refine Below.next ?_ (by assumption)))
  have hBb : BoxN W (w.heap.size + 1) 27 #[.slice a1 N n1, .int .i64 a] := by
    rw [hW]
    have := BoxN.new (w.alloc (.cells #[.slice a0 N n0, .int .i64 a] 27)) 27 #[.slice a1 N n1, .int .i64 a]
    simpa using this
  have x0 : W.cell? ⟨w.heap.size, 0, none⟩ = some (.slice a0 N n0) := hA.cell 0
  have x1 : W.cell? ⟨w.heap.size, 1, none⟩ = some (.int .i64 a) := hA.cell 1
  have y0 : W.cell? ⟨w.heap.size + 1, 0, none⟩ = some (.slice a1 N n1) := hBb.cell 0
  have y1 : W.cell? ⟨w.heap.size + 1, 1, none⟩ = some (.int .i64 a) := hBb.cell 1
  have HL : Hid (RdI .i64 W (.slice a0 N n0) l) := Lib.hid (hl.keep hB0)
  have HM : Hid (RdI .i64 W (.slice a1 N n1) l) := Lib.hid (hm.keep hB0)
  have HN := Lib.hid hN
  have HB := Lib.hid hB0
  have e1 : (a != a) = false := by simp
  have e2 : ((N : Int) != (N : Int)) = false := by simp
  have e3 : (N != N) = false := by simp
  clear hl hm hN hB0 hA hBb
  go_enter Try.func14, Try.ntmps14
  go_upto_region 1 with fail
  rw [← hW]
  clear hW
  go_wp2_with fail
  go_loopw [5] (fun i wr => ∃ k : Nat, k ≤ N ∧ i = .int .i64 k ∧ Below W.heap.size W wr) (fun i _ => N - (intOf i).toNat)
  case atStart => exact ⟨0, Nat.zero_le _, rfl, Below.refl _ _⟩
  case round =>
    obtain ⟨k, hkN, rfl, hbr⟩ := hrel
    have x0 := cell_later hbr x0
    have y0 := cell_later hbr y0
    by_cases hlt : k < N
    · have d2 : decide ((k : Int) < (N : Int)) = true := yb (by omega)
      obtain ⟨b1, o1, rfl, hc1, g0⟩ := RdI.at (HL.out.keep hbr) HN.out k hlt
      obtain ⟨b2, o2, rfl, hc2, f0⟩ := RdI.at (HM.out.keep hbr) HN.out k hlt
      have n1 : (0 : Int) ≤ (k : Int) := by omega
      have n2 : (k : Int) < (N : Int) := by omega
      have hwk : IntKind.i64.wrap (k : Int) = (k : Int) := IntWalk.i64_in _ (by omega)
      have hwk1 : IntKind.i64.wrap ((k : Int) + 1) = (k : Int) + 1 := IntWalk.i64_in _ (by omega)
      obtain ⟨x, hx⟩ : ∃ y, l.getD k 0 = y := ⟨_, rfl⟩
      rw [hx] at g0 f0
      have e4 : (x != x) = false := by simp
      have hdr := fun nq => Below.next hbr (below_drewN (Below.refl wr.heap.size wr) nq)
      have HDR := Lib.hid hdr
      clear hx hdr
      go_upto_region 6 with fail
      go_quiet (fail)
      go_wp2_with fail
      go_roundw
      case rel => exact ⟨k + 1, by omega, by go_num, HDR.out _⟩
      case measure => simp [intOf]; omega
    · obtain rfl : k = N := by omega
      go_wp2_with fail
      go_ret
      exact ⟨rfl, Below.next HB.out hbr⟩
theorem ex_best : bestV exP 1 3 0 100 = (0, 8, [0, 3]) := by decide +kernel
theorem ex_best2 : bestV exP 1 3 0 20 = (0, 2, [1]) := by decide +kernel
theorem ex_best3 : bestV exP 1 3 9 100 = (0, 19, [1]) := by decide +kernel
theorem ex_best4 : bestV exP 2 2 7 1 = (0, 7, []) := by decide +kernel
theorem ex_fails : bestV exP 1 3 25 100 = (15, 0, []) := by decide +kernel
theorem ex_hop : hopV exP 0 9 50 = (11, 0) := by decide +kernel
theorem ex_hop2 : hopV exP 0 9 51 = (0, 15) := by decide +kernel
theorem ex_is : isV exP 1 3 0 100 = (true, 0) := by decide +kernel
theorem ex_reach : reachV exP 1 0 100 = ([0, 3, 8, -1, -1, -1, -1, -1, -1, -1, -1, -1, -1, -1, -1, -1], 0) := by decide +kernel
theorem ex_check : checkV exP 1 3 0 100 8 [0, 3] = 0 := by decide +kernel
theorem ex_check2 : checkV exP 1 3 0 100 9 [0, 3] = 12 := by decide +kernel
theorem ex_check3 : checkV exP 1 3 0 100 8 [3, 0] = 15 := by decide +kernel
theorem ex_check4 : checkV exP 1 3 0 100 8 [7] = 2 := by decide +kernel
theorem ex_cmp : cmpR 8 [0, 3] 9 [] = -1 := by decide
end Go.Proofs.Ytgmfifilgbbogaa
