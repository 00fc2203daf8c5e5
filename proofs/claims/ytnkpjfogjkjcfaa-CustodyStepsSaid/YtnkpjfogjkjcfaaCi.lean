


/- Custody: Circle, both texts. -/
import Derived.Test.YtnkpjfogjkjcfaaHo
namespace Go.Proofs.Ytnkpjfogjkjcfaa
open Go.RowKit
set_option linter.unusedSimpArgs false
set_option linter.unusedVariables false
set_option maxRecDepth 100000

theorem EMs : ElemOk Try.prog 26 40 (.agg #[.int .i64 0, .int .i64 0, .int .i64 0, .int .i64 0]) 4 32 := ⟨Try.underlying26, by kernel_rfl, rfl, by decide⟩
abbrev OwM (w : World) (B : Nat) (v : Value) (l : List Mv) : Prop := w.ownsRow B 40 4 v l.length (rcs mvR l)
def c4 (i : Nat) : List Mv := [ofr ((i : Int) + 1) ((i : Int) + 2), mk 2, mk 3, ⟨5, (i : Int) + 1, 0, 0⟩]
def cA (k : Nat) : List Mv := (List.range k).flatMap c4
def cB (n k : Nat) : List Mv := cA (n - 1) ++ (List.range k).map (fun i : Nat => ofr ((i : Int) + 1) ((((i + 1) % n : Nat) : Int) + 1))
def cC (n k : Nat) : List Mv := cB n n ++ (List.range k).map (fun _ => mk 2)
theorem cA_step (k : Nat) : cA (k + 1) = cA k ++ c4 k := by
  unfold cA
  rw [List.range_succ, List.flatMap_append]
  simp
theorem cB_zero (n : Nat) : cB n 0 = cA (n - 1) := by simp [cB]
theorem cB_step (n k : Nat) : cB n (k + 1) = cB n k ++ [ofr ((k : Int) + 1) ((((k + 1) % n : Nat) : Int) + 1)] := by
  unfold cB
  rw [List.range_succ, List.map_append, List.append_assoc]
  rfl
theorem cC_zero (n : Nat) : cC n 0 = cB n n := by simp [cC]
theorem cC_step (n k : Nat) : cC n (k + 1) = cC n k ++ [mk 2] := by
  unfold cC
  rw [List.range_succ, List.map_append, List.append_assoc]
  rfl
theorem cC_end (n : Nat) : cC n (2 * n) = cirL n := rfl
theorem cA_len (k : Nat) : (cA k).length = 4 * k := by
  induction k with
  | zero => rfl
  | succ k ih => rw [cA_step, List.length_append, ih]; simp [c4]; omega
theorem cB_len (n k : Nat) : (cB n k).length = 4 * (n - 1) + k := by simp [cB, cA_len]
theorem cC_len (n k : Nat) : (cC n k).length = 4 * (n - 1) + n + k := by simp [cC, cB_len]
theorem rds_lit {α : Type} (R : RowT α) (W : World) (T : TypeId) (l : List α) (n : Nat) (hn : l.length = n) (hm : n ≤ 1000) (hc : ∀ j u, (rcs R l)[j]? = some u → (W.alloc (.cells (rcs R l).toArray T)).cell? ⟨W.heap.size, j, none⟩ = some u) : RdS (W.alloc (.cells (rcs R l).toArray T)) R.size (.slice (some ⟨W.heap.size, 0, none⟩) n n) n (rcs R l) := by
  have := rdl_lit R W T l n hn hm hc
  unfold RdL at this
  rw [hn] at this
  exact this
theorem alloc_cell (W : World) (T : TypeId) (l : List Value) (j : Nat) (u : Value) (h : l[j]? = some u) : (W.alloc (.cells l.toArray T)).cell? ⟨W.heap.size, j, none⟩ = some u := by
  have := (BoxN.new W T l.toArray).cell j
  rw [this]
  simpa using h
def CiR (w : World) (l : List Mv) (er : Int) (e : Ending) (w' : World) : Prop := ∃ s, e = .returned (.tuple #[s, .int .i64 er]) ∧ RdL mvR w' s l ∧ Fresh w.heap.size s ∧ Below w.heap.size w w'
def cirE (n : Int) : Int := if n < 2 ∨ 8 < n then 2 else 0
def cirV (n : Int) : List Mv := if n < 2 ∨ 8 < n then [] else cirL n.toNat
theorem circle_any (w : World) (n : Int) : Calls Try.prog 34 #[.int .i64 n] w (CiR w (cirV n) (cirE n)) := by
  by_cases hb : n < 2 ∨ 8 < n
  · have e1 : cirV n = [] := by unfold cirV; rw [if_pos hb]
    have e2 : cirE n = 2 := by unfold cirE; rw [if_pos hb]
    rw [e1, e2]
    clear e1 e2
    by_cases h1 : n < 2
    · have d1 : decide (n < 2) = true := yb h1
      clear hb h1
      go_enter Try.func34, Try.ntmps34
      go_wp2_with fail
      exact bodyPost_ret (v := .tuple #[.slice none 0 0, .int .i64 2]) (by simp [results, Try.results34, go_sem]) rfl ⟨_, rfl, RdL.nil _ _, Fresh.nil _ _ _, (by repeat (first | assumption | exact Below.refl _ _ | apply Below.al | apply below_drewN | apply Below.drew | refine Below.next ?_ (by assumption)))⟩
    · have d1 : decide (n < 2) = false := nb h1
      have d2 : decide (8 < n) = true := yb (by omega)
      clear hb h1
      go_enter Try.func34, Try.ntmps34
      go_wp2_with fail
      exact bodyPost_ret (v := .tuple #[.slice none 0 0, .int .i64 2]) (by simp [results, Try.results34, go_sem]) rfl ⟨_, rfl, RdL.nil _ _, Fresh.nil _ _ _, (by repeat (first | assumption | exact Below.refl _ _ | apply Below.al | apply below_drewN | apply Below.drew | refine Below.next ?_ (by assumption)))⟩
  obtain ⟨N, rfl⟩ : ∃ N : Nat, n = (N : Int) := ⟨n.toNat, by omega⟩
  have e1 : cirV (N : Int) = cirL N := by unfold cirV; rw [if_neg hb]; rfl
  have e2 : cirE (N : Int) = 0 := by unfold cirE; rw [if_neg hb]
  rw [e1, e2]
  have hN : 2 ≤ N ∧ N ≤ 8 := by omega
  have d1 : decide ((N : Int) < 2) = false := nb (by omega)
  have d2 : decide (8 < (N : Int)) = false := nb (by omega)
  have HNN := Lib.hid hN
  have h2N : IntKind.i64.wrap (2 * (N : Int)) = 2 * (N : Int) := IntWalk.i64_in _ (by omega)
  clear hb e1 e2
  go_enter Try.func34, Try.ntmps34
  go_wp2_with fail
  go_loopw [4, 5] (fun s i wr => ∃ k : Nat, k + 1 ≤ N ∧ i = .int .i64 ((k : Int) + 1) ∧ OwM wr w.heap.size s (cA k) ∧ Below w.heap.size w wr) (fun _ i _ => N + 1 - (intOf i).toNat)
  case atStart => exact ⟨0, by omega, rfl, World.ownsRow_nil _ _ _ _, Below.refl _ _⟩
  case round =>
    obtain ⟨k, hk, rfl, hown, hbr⟩ := hrel
    obtain ⟨va, vc, rfl⟩ := owns_form hown
    have HOW := Lib.hid hown
    have HB := Lib.hid hbr
    have HLK := Lib.hid (cA_len k)
    have hsz : w.heap.size ≤ wr.heap.size := hbr.size
    clear hown hbr
    by_cases hlt : k + 1 < N
    · have d3 : decide ((k : Int) + 1 < (N : Int)) = true := yb (by omega)
      have hwk : IntKind.i64.wrap ((k : Int) + 1 + 1) = (k : Int) + 2 := IntWalk.i64_in _ (by omega)
      go_wp2_with (at_builtin; refine wpList_app rfl (.tmp 18) (.tmp 27) 26 rfl w.heap.size 40 _ 4 32 EMs _ _ _ rfl (HOW.out.alloc _) _ 4 (rcs mvR (c4 k)) rfl (rds_lit mvR _ _ (c4 k) 4 rfl (by decide) (fun j u hj => alloc_cell _ _ _ j u hj)) (rcs_one mvR _) ?c1 ?c2 ?c3 ?_)
      case c1 => have := HLK.out; unfold maxLen; omega
      case c2 => have := HLK.out; omega
      case c3 => simp; omega
      intro a3 c3 w3 hown3 hg3 hb3
      have hown3 : OwM w3 w.heap.size (.slice a3 (cA (k + 1)).length c3) (cA (k + 1)) := by
        have e : (cA (k + 1)).length = (cA k).length + 4 := by rw [cA_len, cA_len]; omega
        unfold OwM
        rw [e, cA_step, rcs_append]
        exact hown3
      have e : (cA k).length + 4 = (cA (k + 1)).length := by rw [cA_len, cA_len]; omega
      have HOW3 := Lib.hid hown3
      have HB3 := Lib.hid ((Below.al HB.out _).trans hb3)
      have HE := Lib.hid e
      clear hown3 hg3 hb3 e
      go_wp2_with fail
      go_roundw
      case rel => exact ⟨k + 1, by omega, by go_num, by rw [HE.out]; exact HOW3.out, HB3.out⟩
      case measure => simp [intOf]; omega
    · have d3 : decide ((k : Int) + 1 < (N : Int)) = false := nb (by omega)
      have hkN : k = N - 1 := by omega
      subst hkN
      go_wp2_with fail
      rename World => w0
      go_loopw [4, 6] (fun s i wr => ∃ k : Nat, k ≤ N ∧ i = .int .i64 ((k : Int) + 1) ∧ OwM wr w.heap.size s (cB N k) ∧ Below w.heap.size w wr) (fun _ i _ => N + 2 - (intOf i).toNat)
      case atStart => exact ⟨0, by omega, rfl, by rw [cB_zero]; exact HOW.out, HB.out⟩
      case round =>
        obtain ⟨k, hk, rfl, hown, hbr⟩ := hrel
        clear HOW HB HLK hsz
        obtain ⟨va, vc, rfl⟩ := owns_form hown
        have HOW := Lib.hid hown
        have HB := Lib.hid hbr
        have HLK := Lib.hid (cB_len N k)
        have hsz : w.heap.size ≤ wr.heap.size := hbr.size
        clear hown hbr
        by_cases hlt : k < N
        · have d4 : decide ((k : Int) + 1 ≤ (N : Int)) = true := yb (by omega)
          have hwk : IntKind.i64.wrap ((k : Int) + 1 + 1) = (k : Int) + 2 := IntWalk.i64_in _ (by omega)
          have hrm : ((k : Int) + 1).tmod (N : Int) = (((k + 1) % N : Nat) : Int) := by rw [Int.tmod_eq_emod_of_nonneg (by omega)]; push_cast; rfl
          have hz : ((N : Int) == 0) = false := by simp; omega
          obtain ⟨r, hr⟩ : ∃ r : Nat, (k + 1) % N = r := ⟨_, rfl⟩
          have hrl : r < N := by rw [← hr]; exact Nat.mod_lt _ (by omega)
          have HST := Lib.hid (cB_step N k)
          rw [hr] at hrm
          have HR := Lib.hid hr
          clear hr
          have hwr : IntKind.i64.wrap ((r : Int) + 1) = (r : Int) + 1 := IntWalk.i64_in _ (by omega)
          have hwr2 : IntKind.i64.wrap (r : Int) = (r : Int) := IntWalk.i64_in _ (by omega)
          go_wp2_with (at_builtin; refine wpList_app rfl (.tmp 34) (.tmp 41) 26 rfl w.heap.size 40 _ 4 32 EMs _ _ _ rfl (HOW.out.alloc _) _ 1 (rcs mvR [ofr ((k : Int) + 1) ((r : Int) + 1)]) rfl (rds_lit mvR _ _ [ofr ((k : Int) + 1) ((r : Int) + 1)] 1 rfl (by decide) (fun j u hj => alloc_cell _ _ _ j u hj)) (rcs_one mvR _) ?c1 ?c2 ?c3 ?_)
          case c1 => have := HLK.out; unfold maxLen; omega
          case c2 => have := HLK.out; omega
          case c3 => simp; omega
          intro a3 c3 w3 hown3 hg3 hb3
          have e : (cB N k).length + 1 = (cB N (k + 1)).length := by rw [cB_len, cB_len]; omega
          have hown3 : OwM w3 w.heap.size (.slice a3 (cB N (k + 1)).length c3) (cB N (k + 1)) := by
            have e2 := HST.out
            rw [HR.out] at e2
            unfold OwM
            rw [← e, e2, rcs_append]
            exact hown3
          have HOW3 := Lib.hid hown3
          have HB3 := Lib.hid ((Below.al HB.out _).trans hb3)
          have HE := Lib.hid e
          clear hown3 hg3 hb3 e
          go_wp2_with fail
          go_roundw
          case rel => exact ⟨k + 1, by omega, by go_num, by rw [HE.out]; exact HOW3.out, HB3.out⟩
          case measure => simp [intOf]; omega
        · have d4 : decide ((k : Int) + 1 ≤ (N : Int)) = false := nb (by omega)
          obtain rfl : k = N := by omega
          rename World => w0'
          go_wp2_with fail
          go_loopw [4, 45] (fun s i wr => ∃ j : Nat, j ≤ 2 * k ∧ i = .int .i64 (j : Int) ∧ OwM wr w.heap.size s (cC k j) ∧ Below w.heap.size w wr) (fun _ i _ => 2 * k + 1 - (intOf i).toNat)
          case atStart => exact ⟨0, by omega, rfl, by rw [cC_zero]; exact HOW.out, HB.out⟩
          case round =>
            obtain ⟨j, hj, rfl, hown, hbr⟩ := hrel
            clear HOW HB HLK hsz
            obtain ⟨va, vc, rfl⟩ := owns_form hown
            have HOW := Lib.hid hown
            have HB := Lib.hid hbr
            have HLK := Lib.hid (cC_len k j)
            have hsz : w.heap.size ≤ wr.heap.size := hbr.size
            clear hown hbr
            by_cases hlt2 : j < 2 * k
            · have d5 : decide ((j : Int) < 2 * (k : Int)) = true := yb (by omega)
              have hwk : IntKind.i64.wrap ((j : Int) + 1) = (j : Int) + 1 := IntWalk.i64_in _ (by omega)
              have HST := Lib.hid (cC_step k j)
              go_wp2_with (at_builtin; refine wpList_app rfl (.tmp 47) (.tmp 49) 26 rfl w.heap.size 40 _ 4 32 EMs _ _ _ rfl (HOW.out.alloc _) _ 1 (rcs mvR [mk 2]) rfl (rds_lit mvR _ _ [mk 2] 1 rfl (by decide) (fun j u hj => alloc_cell _ _ _ j u hj)) (rcs_one mvR _) ?c1 ?c2 ?c3 ?_)
              case c1 => have := HLK.out; unfold maxLen; omega
              case c2 => have := HLK.out; omega
              case c3 => simp; omega
              intro a3 c3 w3 hown3 hg3 hb3
              have e : (cC k j).length + 1 = (cC k (j + 1)).length := by rw [cC_len, cC_len]; omega
              have hown3 : OwM w3 w.heap.size (.slice a3 (cC k (j + 1)).length c3) (cC k (j + 1)) := by
                unfold OwM
                rw [← e, HST.out, rcs_append]
                exact hown3
              have HOW3 := Lib.hid hown3
              have HB3 := Lib.hid ((Below.al HB.out _).trans hb3)
              have HE := Lib.hid e
              clear hown3 hg3 hb3 e
              go_wp2_with fail
              go_roundw
              case rel => exact ⟨j + 1, by omega, by go_num, by rw [HE.out]; exact HOW3.out, HB3.out⟩
              case measure => simp [intOf]; omega
            · have d5 : decide ((j : Int) < 2 * (k : Int)) = false := nb (by omega)
              obtain rfl : j = 2 * k := by omega
              go_wp2_with fail
              have hrd := RdL.of_owns (R := mvR) HOW.out
              exact bodyPost_ret (v := .tuple #[.slice va (cC k (2 * k)).length vc, .int .i64 0]) (by simp [results, Try.results34, go_sem]) rfl ⟨_, rfl, hrd, Fresh.of_owns HOW.out, HB.out⟩
theorem rcircle_any (w : World) (n : Int) : Calls Try.prog 35 #[.int .i64 n] w (CiR w (cirV n) (cirE n)) := by
  by_cases hb : n < 2 ∨ 8 < n
  · have e1 : cirV n = [] := by unfold cirV; rw [if_pos hb]
    have e2 : cirE n = 2 := by unfold cirE; rw [if_pos hb]
    rw [e1, e2]
    clear e1 e2
    by_cases h1 : n < 2
    · have d1 : decide (n < 2) = true := yb h1
      clear hb h1
      go_enter Try.func35, Try.ntmps35
      go_wp2_with fail
      exact bodyPost_ret (v := .tuple #[.slice none 0 0, .int .i64 2]) (by simp [results, Try.results35, go_sem]) rfl ⟨_, rfl, RdL.nil _ _, Fresh.nil _ _ _, (by repeat (first | assumption | exact Below.refl _ _ | apply Below.al | apply below_drewN | apply Below.drew | refine Below.next ?_ (by assumption)))⟩
    · have d1 : decide (n < 2) = false := nb h1
      have d2 : decide (8 < n) = true := yb (by omega)
      clear hb h1
      go_enter Try.func35, Try.ntmps35
      go_wp2_with fail
      exact bodyPost_ret (v := .tuple #[.slice none 0 0, .int .i64 2]) (by simp [results, Try.results35, go_sem]) rfl ⟨_, rfl, RdL.nil _ _, Fresh.nil _ _ _, (by repeat (first | assumption | exact Below.refl _ _ | apply Below.al | apply below_drewN | apply Below.drew | refine Below.next ?_ (by assumption)))⟩
  obtain ⟨N, rfl⟩ : ∃ N : Nat, n = (N : Int) := ⟨n.toNat, by omega⟩
  have e1 : cirV (N : Int) = cirL N := by unfold cirV; rw [if_neg hb]; rfl
  have e2 : cirE (N : Int) = 0 := by unfold cirE; rw [if_neg hb]
  rw [e1, e2]
  have hN : 2 ≤ N ∧ N ≤ 8 := by omega
  have d1 : decide ((N : Int) < 2) = false := nb (by omega)
  have d2 : decide (8 < (N : Int)) = false := nb (by omega)
  have HNN := Lib.hid hN
  have h2N : IntKind.i64.wrap (2 * (N : Int)) = 2 * (N : Int) := IntWalk.i64_in _ (by omega)
  clear hb e1 e2
  go_enter Try.func35, Try.ntmps35
  go_wp2_with fail
  go_loopw [4, 5] (fun s i wr => ∃ k : Nat, k + 1 ≤ N ∧ i = .int .i64 ((k : Int) + 1) ∧ OwM wr w.heap.size s (cA k) ∧ Below w.heap.size w wr) (fun _ i _ => N + 1 - (intOf i).toNat)
  case atStart => exact ⟨0, by omega, rfl, World.ownsRow_nil _ _ _ _, Below.refl _ _⟩
  case round =>
    obtain ⟨k, hk, rfl, hown, hbr⟩ := hrel
    obtain ⟨va, vc, rfl⟩ := owns_form hown
    have HOW := Lib.hid hown
    have HB := Lib.hid hbr
    have HLK := Lib.hid (cA_len k)
    have hsz : w.heap.size ≤ wr.heap.size := hbr.size
    clear hown hbr
    by_cases hlt : k + 1 < N
    · have d3 : decide ((k : Int) + 1 < (N : Int)) = true := yb (by omega)
      have hwk : IntKind.i64.wrap ((k : Int) + 1 + 1) = (k : Int) + 2 := IntWalk.i64_in _ (by omega)
      go_wp2_with (at_builtin; refine wpList_app rfl (.tmp 19) (.tmp 28) 26 rfl w.heap.size 40 _ 4 32 EMs _ _ _ rfl (HOW.out.alloc _) _ 4 (rcs mvR (c4 k)) rfl (rds_lit mvR _ _ (c4 k) 4 rfl (by decide) (fun j u hj => alloc_cell _ _ _ j u hj)) (rcs_one mvR _) ?c1 ?c2 ?c3 ?_)
      case c1 => have := HLK.out; unfold maxLen; omega
      case c2 => have := HLK.out; omega
      case c3 => simp; omega
      intro a3 c3 w3 hown3 hg3 hb3
      have hown3 : OwM w3 w.heap.size (.slice a3 (cA (k + 1)).length c3) (cA (k + 1)) := by
        have e : (cA (k + 1)).length = (cA k).length + 4 := by rw [cA_len, cA_len]; omega
        unfold OwM
        rw [e, cA_step, rcs_append]
        exact hown3
      have e : (cA k).length + 4 = (cA (k + 1)).length := by rw [cA_len, cA_len]; omega
      have HOW3 := Lib.hid hown3
      have HB3 := Lib.hid ((Below.al HB.out _).trans hb3)
      have HE := Lib.hid e
      clear hown3 hg3 hb3 e
      go_wp2_with fail
      go_roundw
      case rel => exact ⟨k + 1, by omega, by go_num, by rw [HE.out]; exact HOW3.out, HB3.out⟩
      case measure => simp [intOf]; omega
    · have d3 : decide ((k : Int) + 1 < (N : Int)) = false := nb (by omega)
      have hkN : k = N - 1 := by omega
      subst hkN
      go_wp2_with fail
      rename World => w0
      go_loopw [4, 6] (fun s i wr => ∃ k : Nat, k ≤ N ∧ i = .int .i64 ((k : Int) + 1) ∧ OwM wr w.heap.size s (cB N k) ∧ Below w.heap.size w wr) (fun _ i _ => N + 2 - (intOf i).toNat)
      case atStart => exact ⟨0, by omega, rfl, by rw [cB_zero]; exact HOW.out, HB.out⟩
      case round =>
        obtain ⟨k, hk, rfl, hown, hbr⟩ := hrel
        clear HOW HB HLK hsz
        obtain ⟨va, vc, rfl⟩ := owns_form hown
        have HOW := Lib.hid hown
        have HB := Lib.hid hbr
        have HLK := Lib.hid (cB_len N k)
        have hsz : w.heap.size ≤ wr.heap.size := hbr.size
        clear hown hbr
        by_cases hlt : k < N
        · have d4 : decide ((k : Int) + 1 ≤ (N : Int)) = true := yb (by omega)
          have hwk : IntKind.i64.wrap ((k : Int) + 1 + 1) = (k : Int) + 2 := IntWalk.i64_in _ (by omega)
          have hrm : ((k : Int) + 1).tmod (N : Int) = (((k + 1) % N : Nat) : Int) := by rw [Int.tmod_eq_emod_of_nonneg (by omega)]; push_cast; rfl
          have hz : ((N : Int) == 0) = false := by simp; omega
          obtain ⟨r, hr⟩ : ∃ r : Nat, (k + 1) % N = r := ⟨_, rfl⟩
          have hrl : r < N := by rw [← hr]; exact Nat.mod_lt _ (by omega)
          have HST := Lib.hid (cB_step N k)
          rw [hr] at hrm
          have HR := Lib.hid hr
          clear hr
          have hwr : IntKind.i64.wrap ((r : Int) + 1) = (r : Int) + 1 := IntWalk.i64_in _ (by omega)
          have hwr2 : IntKind.i64.wrap (r : Int) = (r : Int) := IntWalk.i64_in _ (by omega)
          go_wp2_with (at_builtin; refine wpList_app rfl (.tmp 35) (.tmp 42) 26 rfl w.heap.size 40 _ 4 32 EMs _ _ _ rfl (HOW.out.alloc _) _ 1 (rcs mvR [ofr ((k : Int) + 1) ((r : Int) + 1)]) rfl (rds_lit mvR _ _ [ofr ((k : Int) + 1) ((r : Int) + 1)] 1 rfl (by decide) (fun j u hj => alloc_cell _ _ _ j u hj)) (rcs_one mvR _) ?c1 ?c2 ?c3 ?_)
          case c1 => have := HLK.out; unfold maxLen; omega
          case c2 => have := HLK.out; omega
          case c3 => simp; omega
          intro a3 c3 w3 hown3 hg3 hb3
          have e : (cB N k).length + 1 = (cB N (k + 1)).length := by rw [cB_len, cB_len]; omega
          have hown3 : OwM w3 w.heap.size (.slice a3 (cB N (k + 1)).length c3) (cB N (k + 1)) := by
            have e2 := HST.out
            rw [HR.out] at e2
            unfold OwM
            rw [← e, e2, rcs_append]
            exact hown3
          have HOW3 := Lib.hid hown3
          have HB3 := Lib.hid ((Below.al HB.out _).trans hb3)
          have HE := Lib.hid e
          clear hown3 hg3 hb3 e
          go_wp2_with fail
          go_roundw
          case rel => exact ⟨k + 1, by omega, by go_num, by rw [HE.out]; exact HOW3.out, HB3.out⟩
          case measure => simp [intOf]; omega
        · have d4 : decide ((k : Int) + 1 ≤ (N : Int)) = false := nb (by omega)
          obtain rfl : k = N := by omega
          rename World => w0'
          go_wp2_with fail
          go_loopw [4, 7] (fun s i wr => ∃ j : Nat, j ≤ 2 * k ∧ i = .int .i64 (j : Int) ∧ OwM wr w.heap.size s (cC k j) ∧ Below w.heap.size w wr) (fun _ i _ => 2 * k + 1 - (intOf i).toNat)
          case atStart => exact ⟨0, by omega, rfl, by rw [cC_zero]; exact HOW.out, HB.out⟩
          case round =>
            obtain ⟨j, hj, rfl, hown, hbr⟩ := hrel
            clear HOW HB HLK hsz
            obtain ⟨va, vc, rfl⟩ := owns_form hown
            have HOW := Lib.hid hown
            have HB := Lib.hid hbr
            have HLK := Lib.hid (cC_len k j)
            have hsz : w.heap.size ≤ wr.heap.size := hbr.size
            clear hown hbr
            by_cases hlt2 : j < 2 * k
            · have d5 : decide ((j : Int) < 2 * (k : Int)) = true := yb (by omega)
              have hwk : IntKind.i64.wrap ((j : Int) + 1) = (j : Int) + 1 := IntWalk.i64_in _ (by omega)
              have HST := Lib.hid (cC_step k j)
              go_wp2_with (at_builtin; refine wpList_app rfl (.tmp 50) (.tmp 52) 26 rfl w.heap.size 40 _ 4 32 EMs _ _ _ rfl (HOW.out.alloc _) _ 1 (rcs mvR [mk 2]) rfl (rds_lit mvR _ _ [mk 2] 1 rfl (by decide) (fun j u hj => alloc_cell _ _ _ j u hj)) (rcs_one mvR _) ?c1 ?c2 ?c3 ?_)
              case c1 => have := HLK.out; unfold maxLen; omega
              case c2 => have := HLK.out; omega
              case c3 => simp; omega
              intro a3 c3 w3 hown3 hg3 hb3
              have e : (cC k j).length + 1 = (cC k (j + 1)).length := by rw [cC_len, cC_len]; omega
              have hown3 : OwM w3 w.heap.size (.slice a3 (cC k (j + 1)).length c3) (cC k (j + 1)) := by
                unfold OwM
                rw [← e, HST.out, rcs_append]
                exact hown3
              have HOW3 := Lib.hid hown3
              have HB3 := Lib.hid ((Below.al HB.out _).trans hb3)
              have HE := Lib.hid e
              clear hown3 hg3 hb3 e
              go_wp2_with fail
              go_roundw
              case rel => exact ⟨j + 1, by omega, by go_num, by rw [HE.out]; exact HOW3.out, HB3.out⟩
              case measure => simp [intOf]; omega
            · have d5 : decide ((j : Int) < 2 * (k : Int)) = false := nb (by omega)
              obtain rfl : j = 2 * k := by omega
              go_wp2_with fail
              have hrd := RdL.of_owns (R := mvR) HOW.out
              exact bodyPost_ret (v := .tuple #[.slice va (cC k (2 * k)).length vc, .int .i64 0]) (by simp [results, Try.results35, go_sem]) rfl ⟨_, rfl, hrd, Fresh.of_owns HOW.out, HB.out⟩
end Go.Proofs.Ytnkpjfogjkjcfaa
