

/- Volume: which contacts are overbooked (over, and the reference's loop). -/
import Derived.Test.YtnbjdgjopdeolaaN
namespace Go.Proofs.Ytnbjdgjopdeolaa
open Go.RowKit Go.Shelf
set_option linter.unusedSimpArgs false
set_option linter.unusedVariables false
set_option maxRecDepth 100000

theorem E52 : ElemOk Try.prog 52 3 (.int .i64 0) 1 8 := ⟨Try.underlying52, by kernel_rfl, rfl, by decide⟩
theorem rds_one (W : World) (x : Value) (T : TypeId) : RdS (W.alloc (.cells #[x] T)) 1 (.slice (some ⟨W.heap.size, 0, none⟩) 1 1) 1 [x] := by
  refine ⟨rfl, by decide, .inr ⟨W.heap.size, 0, 1, rfl, Nat.le_refl _, fun j u hj => ?_⟩⟩
  match j, hj with
  | 0, hj => simp at hj; subst hj; simp [go_sem]
  | j + 1, hj => simp at hj
instance (c : Ct) (b : Int) : Decidable (b < 0 ∨ vol c < b) := inferInstance
def overK (cs : List Ct) (bs : List Int) : Nat → List Int
  | 0 => []
  | k + 1 => if bs.getD k 0 < 0 ∨ vol (cs.getD k c0) < bs.getD k 0 then overK cs bs k ++ [(k : Int)] else overK cs bs k
theorem overK_len (cs : List Ct) (bs : List Int) : ∀ k, (overK cs bs k).length ≤ k
  | 0 => Nat.le_refl _
  | k + 1 => by
    have := overK_len cs bs k
    unfold overK
    split
    · simp; omega
    · omega
/-- a call has returned a slice of its own that reads as xs -/
def IR (w : World) (xs : List Int) (e : Ending) (w' : World) : Prop := ∃ v, e = .returned v ∧ RdI .i64 w' v xs ∧ Fresh w.heap.size v ∧ Below w.heap.size w w'
theorem rdi_owns {w : World} {base : Nat} {v : Value} {xs : List Int} (h : w.ownsRow base 3 1 v xs.length (ic .i64 xs)) : RdI .i64 w v xs := RdS.of_owns h (by decide)
theorem RdI.at {k : IntKind} {w : World} {a : Option Addr} {n c : Nat} {xs : List Int} (h : RdI k w (.slice a n c) xs) (hn : xs.length = n) (i : Nat) (hi : i < n) : ∃ b off, a = some ⟨b, off, none⟩ ∧ n ≤ c ∧ w.cell? ⟨b, off + i, none⟩ = some (.int k (xs.getD i 0)) := by
  obtain ⟨_, ⟨a0, cap, hv, rfl⟩ | ⟨b, off, cap, hv, hc, hr⟩⟩ := h.cases
  · simp at hn; omega
  · simp only [Value.slice.injEq] at hv
    obtain ⟨rfl, rfl, rfl⟩ := hv
    exact ⟨b, off, rfl, hc, hr i (by omega)⟩

theorem own_keep {W w1 : World} {base : Nat} {e : TypeId} {size : Nat} {v : Value} {n : Nat} {xs : List Value} (hb : Below W.heap.size W w1) (h : W.ownsRow base e size v n xs) : w1.ownsRow base e size v n xs := by
  obtain ⟨h1, h2⟩ := h
  refine ⟨h1, ?_⟩
  rcases h2 with h2 | ⟨g, cap, cur, hv, hg, hh, hc⟩
  · exact .inl h2
  · exact .inr ⟨g, cap, cur, hv, hg, (hb.block g (Array.getElem?_eq_some_iff.1 hh).1).trans hh, hc⟩
set_option maxHeartbeats 1000000 in
theorem over_any (cs : List Ct) (v : Value) (bs : List Int) (u : Value) (hok : planChk cs = (0, 0)) (hl : bs.length = cs.length) (w : World) (h : RdC w v cs) (hu : RdI .i64 w u bs) :
    Calls Try.prog 87 #[v, u] w (IR w (overK cs bs cs.length)) := by
  obtain ⟨a0, n0, rfl⟩ := h.form
  obtain ⟨a1, n1, rfl⟩ := hu.form
  obtain ⟨N, hN⟩ : ∃ N, cs.length = N := ⟨_, rfl⟩
  rw [hN] at h hl ⊢
  rw [hl] at hu ⊢
  have hm : N ≤ 200 := by rw [← hN]; exact (ok_of_planChk hok).1
  have HR := Lib.hid h
  have HU := Lib.hid hu
  have HN := Lib.hid hN
  have HBL := Lib.hid hl
  have HP := Lib.hid hok
  clear h hu hN hok hl
  go_enter Try.func87, Try.ntmps87
  go_wp2_with fail
  go_loopw [5, 10] (fun v i wr => ∃ k : Nat, k ≤ N ∧ i = .int .i64 k ∧ wr.ownsRow w.heap.size 3 1 v (overK cs bs k).length (ic .i64 (overK cs bs k)) ∧ Below w.heap.size w wr) (fun _ i _ => N - (intOf i).toNat)
  case atStart => exact ⟨0, Nat.zero_le _, rfl, World.ownsRow_nil _ _ _ _, (by repeat (first | assumption | exact Below.refl _ _ | apply Below.al | apply below_drewN | apply Below.drew | refine Below.next ?_ (by assumption)))⟩
  case round =>
    obtain ⟨k, hk, rfl, hown, hBW⟩ := hrel
    obtain ⟨va, vc, rfl⟩ := owns_form hown
    have HOW := Lib.hid hown
    have HBW := Lib.hid hBW
    have HL := Lib.hid (overK_len cs bs k)
    clear hown
    by_cases hlt : k < N
    · have d2 : decide ((k : Int) < (N : Int)) = true := yb (by omega)
      obtain ⟨b, off, rfl, hcap, hca⟩ := HR.out.at HN.out k hlt
      obtain ⟨b2, off2, rfl, hcap2, hcb⟩ := HU.out.at HBL.out k hlt
      have hok : okC (cs.getD k c0) := okC_of HP.out (by rw [HN.out]; exact hlt)
      obtain ⟨c, HC⟩ : ∃ c, Hid (cs.getD k c0 = c) := ⟨_, rfl⟩
      rw [HC.out] at hca hok
      obtain ⟨x, HX⟩ : ∃ x, Hid (bs.getD k 0 = x) := ⟨_, rfl⟩
      rw [HX.out] at hcb
      have hca := CA.keep hBW hca
      have hcb := cell_later hBW hcb
      have i1 : (0 : Int) ≤ (k : Int) := by omega
      have i2 : (k : Int) < (N : Int) := by omega
      have hwk : IntKind.i64.wrap (k : Int) = (k : Int) := IntWalk.i64_in _ (by omega)
      have hE : overK cs bs (k + 1) = if x < 0 ∨ vol c < x then overK cs bs k ++ [(k : Int)] else overK cs bs k := by rw [← HC.out, ← HX.out]; rfl
      obtain ⟨W1, hW1⟩ : ∃ W : World, W = wr.alloc (.cells #[.int .i64 c.fr, .int .i64 c.dt, .int .i64 c.st, .int .i64 c.en, .int .i64 c.rt, .int .i64 c.dl] 23) := ⟨_, rfl⟩
      have hBC : BC W1 wr.heap.size c := by rw [hW1]; simp [BC, go_sem]
      have hB1 : Below w.heap.size w W1 := by rw [hW1]; exact Below.al hBW _
      have hcb1 : W1.cell? ⟨b2, off2 + k, none⟩ = some (.int .i64 x) := by rw [hW1]; exact cell_al _ hcb
      have HOW : Hid (W1.ownsRow w.heap.size 3 1 (.slice va (overK cs bs k).length vc) (overK cs bs k).length (ic .i64 (overK cs bs k))) := by unfold Hid; rw [hW1]; exact HOW.out.alloc _
      have HBW := Lib.hid hB1
      go_upto_region 5 with fail
      rw [← hW1]
      obtain ⟨Sb, hSb⟩ : ∃ S : Nat, S = wr.heap.size := ⟨_, rfl⟩
      rw [← hSb] at hBC ⊢
      clear hW1 hSb hca hcb hBW hB1
      by_cases hb1 : x < 0
      · have d3 : decide (x < 0) = true := yb hb1
        rw [if_pos (.inl hb1)] at hE
        have HE := Lib.hid hE
        clear hE hb1
        refine wp_region_calm (fun w' => Below W1.heap.size W1 w') 99 (by kernel_rfl) ((Below.refl _ W1).drew) ?_
        refine cm_run 0 15 (v := ?_) rfl rfl (by kernel_rfl) (by kernel_rfl) (by kernel_rfl) (by kernel_rfl) (by kernel_rfl) (fun _ _ _ h => h) (by rfl) ?_ ?_
        rotate_left
        · (intro wS hS; skip; go_simp; (try with_reducible rfl))
        simp only [List.setIfInBounds_toArray, List.set_cons_zero, List.set_cons_succ]
        refine cm_run 1 16 (v := ?_) rfl rfl (by kernel_rfl) (by kernel_rfl) (by kernel_rfl) (by kernel_rfl) (by kernel_rfl) (fun _ _ _ h => h) (by rfl) ?_ ?_
        rotate_left
        · (intro wS hS; skip; go_simp; (try with_reducible rfl))
        simp only [List.setIfInBounds_toArray, List.set_cons_zero, List.set_cons_succ]
        refine cm_run 2 17 (v := ?_) rfl rfl (by kernel_rfl) (by kernel_rfl) (by kernel_rfl) (by kernel_rfl) (by kernel_rfl) (fun _ _ _ h => h) (by rfl) ?_ ?_
        rotate_left
        · (intro wS hS; skip; go_simp; (try with_reducible rfl))
        simp only [List.setIfInBounds_toArray, List.set_cons_zero, List.set_cons_succ]
        refine cm_run 3 18 (v := ?_) rfl rfl (by kernel_rfl) (by kernel_rfl) (by kernel_rfl) (by kernel_rfl) (by kernel_rfl) (fun _ _ _ h => h) (by rfl) ?_ ?_
        rotate_left
        · (intro wS hS; have g := cell_later hS hcb1; go_simp; (try with_reducible rfl))
        simp only [List.setIfInBounds_toArray, List.set_cons_zero, List.set_cons_succ]
        refine cm_run 4 19 (v := ?_) rfl rfl (by kernel_rfl) (by kernel_rfl) (by kernel_rfl) (by kernel_rfl) (by kernel_rfl) (fun _ _ _ h => h) (by rfl) ?_ ?_
        rotate_left
        · (intro wS hS; skip; go_simp; (try with_reducible rfl))
        simp only [List.setIfInBounds_toArray, List.set_cons_zero, List.set_cons_succ]
        refine cm_run 5 20 (v := ?_) rfl rfl (by kernel_rfl) (by kernel_rfl) (by kernel_rfl) (by kernel_rfl) (by kernel_rfl) (fun _ _ _ h => h) (by rfl) ?_ ?_
        rotate_left
        · (intro wS hS; skip; go_simp; (try with_reducible rfl))
        simp only [List.setIfInBounds_toArray, List.set_cons_zero, List.set_cons_succ]
        refine cm_shut 6 21 rfl rfl (by kernel_rfl) (by kernel_rfl) (by kernel_rfl) (by kernel_rfl) (by kernel_rfl) (fun _ _ _ h => h) (by rfl) ?_
        simp only [List.setIfInBounds_toArray, List.set_cons_zero, List.set_cons_succ]
        refine cm_shut 7 22 rfl rfl (by kernel_rfl) (by kernel_rfl) (by kernel_rfl) (by kernel_rfl) (by kernel_rfl) (fun _ _ _ h => h) (by rfl) ?_
        simp only [List.setIfInBounds_toArray, List.set_cons_zero, List.set_cons_succ]
        refine cm_shut 8 23 rfl rfl (by kernel_rfl) (by kernel_rfl) (by kernel_rfl) (by kernel_rfl) (by kernel_rfl) (fun _ _ _ h => h) (by rfl) ?_
        simp only [List.setIfInBounds_toArray, List.set_cons_zero, List.set_cons_succ]
        refine cm_shut 9 24 rfl rfl (by kernel_rfl) (by kernel_rfl) (by kernel_rfl) (by kernel_rfl) (by kernel_rfl) (fun _ _ _ h => h) (by rfl) ?_
        simp only [List.setIfInBounds_toArray, List.set_cons_zero, List.set_cons_succ]
        refine cm_shut 10 25 rfl rfl (by kernel_rfl) (by kernel_rfl) (by kernel_rfl) (by kernel_rfl) (by kernel_rfl) (fun _ _ _ h => h) (by rfl) ?_
        simp only [List.setIfInBounds_toArray, List.set_cons_zero, List.set_cons_succ]
        refine cm_shut 11 26 rfl rfl (by kernel_rfl) (by kernel_rfl) (by kernel_rfl) (by kernel_rfl) (by kernel_rfl) (fun _ _ _ h => h) (by rfl) ?_
        simp only [List.setIfInBounds_toArray, List.set_cons_zero, List.set_cons_succ]
        refine cm_shut 12 27 rfl rfl (by kernel_rfl) (by kernel_rfl) (by kernel_rfl) (by kernel_rfl) (by kernel_rfl) (fun _ _ _ h => h) (by rfl) ?_
        simp only [List.setIfInBounds_toArray, List.set_cons_zero, List.set_cons_succ]
        refine cm_run 13 28 (v := ?_) rfl rfl (by kernel_rfl) (by kernel_rfl) (by kernel_rfl) (by kernel_rfl) (by kernel_rfl) (fun _ _ _ h => h) (by rfl) ?_ ?_
        rotate_left
        · (intro wS hS; skip; go_simp; (try with_reducible rfl))
        simp only [List.setIfInBounds_toArray, List.set_cons_zero, List.set_cons_succ]
        refine cm_done (by kernel_rfl) ?_
        intro wS hS
        refine NoPanic.normal ?_
        have HBW := Lib.hid (Below.next HBW.out hS)
        have HOW : Hid (wS.ownsRow w.heap.size 3 1 (.slice va (overK cs bs k).length vc) (overK cs bs k).length (ic .i64 (overK cs bs k))) := own_keep hS HOW.out
        clear hS
        go_wp2_with (at_builtin; refine wpList_app rfl (.tmp 29) (.tmp 31) 52 rfl w.heap.size 3 (.int .i64 0) 1 8 E52 _ _ _ rfl (HOW.out.alloc _) _ 1 [.int .i64 (k : Int)] rfl (rds_one _ _ _) (by simp [Value.oneCell']) ?c1 ?c2 ?c3 ?_)
        case c1 => have := HL.out; unfold maxLen; omega
        case c2 => have := HL.out; omega
        case c3 => have := HBW.out.size; simp; omega
        intro a3 c3 w3 hown3 hg3 hb3
        have hown3 : w3.ownsRow w.heap.size 3 1 (.slice a3 ((overK cs bs k).length + 1) c3) ((overK cs bs k).length + 1) (ic .i64 (overK cs bs k) ++ [.int .i64 (k : Int)]) := by with_reducible exact hown3
        have hB3 : Below w.heap.size w w3 := (Below.al HBW.out _).trans hb3
        have HOW3 := Lib.hid hown3
        clear hown3 hg3 hb3
        go_wp2_with fail
        go_roundw
        case rel => exact ⟨k + 1, by omega, by go_num, by rw [HE.out]; simpa [ic_append, ic] using HOW3.out, hB3⟩
        case measure => simp [intOf]; omega
      · have d3 : decide (x < 0) = false := nb hb1
        by_cases hb2 : vol c < x
        · have d4 : decide (vol c < x) = true := yb hb2
          rw [if_pos (.inr hb2)] at hE
          have HE := Lib.hid hE
          clear hE hb1 hb2
          refine wp_region_calm (fun w' => Below W1.heap.size W1 w') 99 (by kernel_rfl) ((Below.refl _ W1).drew) ?_
          refine cm_run 0 15 (v := ?_) rfl rfl (by kernel_rfl) (by kernel_rfl) (by kernel_rfl) (by kernel_rfl) (by kernel_rfl) (fun _ _ _ h => h) (by rfl) ?_ ?_
          rotate_left
          · (intro wS hS; skip; go_simp; (try with_reducible rfl))
          simp only [List.setIfInBounds_toArray, List.set_cons_zero, List.set_cons_succ]
          refine cm_run 1 16 (v := ?_) rfl rfl (by kernel_rfl) (by kernel_rfl) (by kernel_rfl) (by kernel_rfl) (by kernel_rfl) (fun _ _ _ h => h) (by rfl) ?_ ?_
          rotate_left
          · (intro wS hS; skip; go_simp; (try with_reducible rfl))
          simp only [List.setIfInBounds_toArray, List.set_cons_zero, List.set_cons_succ]
          refine cm_run 2 17 (v := ?_) rfl rfl (by kernel_rfl) (by kernel_rfl) (by kernel_rfl) (by kernel_rfl) (by kernel_rfl) (fun _ _ _ h => h) (by rfl) ?_ ?_
          rotate_left
          · (intro wS hS; skip; go_simp; (try with_reducible rfl))
          simp only [List.setIfInBounds_toArray, List.set_cons_zero, List.set_cons_succ]
          refine cm_run 3 18 (v := ?_) rfl rfl (by kernel_rfl) (by kernel_rfl) (by kernel_rfl) (by kernel_rfl) (by kernel_rfl) (fun _ _ _ h => h) (by rfl) ?_ ?_
          rotate_left
          · (intro wS hS; have g := cell_later hS hcb1; go_simp; (try with_reducible rfl))
          simp only [List.setIfInBounds_toArray, List.set_cons_zero, List.set_cons_succ]
          refine cm_run 4 19 (v := ?_) rfl rfl (by kernel_rfl) (by kernel_rfl) (by kernel_rfl) (by kernel_rfl) (by kernel_rfl) (fun _ _ _ h => h) (by rfl) ?_ ?_
          rotate_left
          · (intro wS hS; skip; go_simp; (try with_reducible rfl))
          simp only [List.setIfInBounds_toArray, List.set_cons_zero, List.set_cons_succ]
          refine cm_run 5 20 (v := ?_) rfl rfl (by kernel_rfl) (by kernel_rfl) (by kernel_rfl) (by kernel_rfl) (by kernel_rfl) (fun _ _ _ h => h) (by rfl) ?_ ?_
          rotate_left
          · (intro wS hS; skip; go_simp; (try with_reducible rfl))
          simp only [List.setIfInBounds_toArray, List.set_cons_zero, List.set_cons_succ]
          refine cm_run 6 21 (v := ?_) rfl rfl (by kernel_rfl) (by kernel_rfl) (by kernel_rfl) (by kernel_rfl) (by kernel_rfl) (fun _ _ _ h => h) (by rfl) ?_ ?_
          rotate_left
          · (intro wS hS; skip; go_simp; (try with_reducible rfl))
          simp only [List.setIfInBounds_toArray, List.set_cons_zero, List.set_cons_succ]
          refine cm_run 7 22 (v := ?_) rfl rfl (by kernel_rfl) (by kernel_rfl) (by kernel_rfl) (by kernel_rfl) (by kernel_rfl) (fun _ _ _ h => h) (by rfl) ?_ ?_
          rotate_left
          · (intro wS hS; skip; go_simp; (try with_reducible rfl))
          simp only [List.setIfInBounds_toArray, List.set_cons_zero, List.set_cons_succ]
          refine cm_run 8 23 (v := ?_) rfl rfl (by kernel_rfl) (by kernel_rfl) (by kernel_rfl) (by kernel_rfl) (by kernel_rfl) (fun _ _ _ h => h) (by rfl) ?_ ?_
          rotate_left
          · (intro wS hS; skip; go_simp; (try with_reducible rfl))
          simp only [List.setIfInBounds_toArray, List.set_cons_zero, List.set_cons_succ]
          refine cm_run 9 24 (v := ?_) rfl rfl (by kernel_rfl) (by kernel_rfl) (by kernel_rfl) (by kernel_rfl) (by kernel_rfl) (fun _ _ _ h => h) (by rfl) ?_ ?_
          rotate_left
          · (intro wS hS; have g := cell_later hS hcb1; go_simp; (try with_reducible rfl))
          simp only [List.setIfInBounds_toArray, List.set_cons_zero, List.set_cons_succ]
          refine cm_run 10 25 (v := ?_) rfl rfl (by kernel_rfl) (by kernel_rfl) (by kernel_rfl) (by kernel_rfl) (by kernel_rfl) (fun _ _ _ h => h) (by rfl) ?_ ?_
          rotate_left
          · (intro wS hS; have g := BC.keep hS hBC; go_simp; (try with_reducible rfl))
          simp only [List.setIfInBounds_toArray, List.set_cons_zero, List.set_cons_succ]
          refine cm_call 11 26 64 (v := .int .i64 (vol c)) (args := ?_) rfl rfl (by kernel_rfl) (by kernel_rfl) (by kernel_rfl) (by kernel_rfl) (by kernel_rfl) (fun _ _ _ h => h) (by rfl) ?_ ?_ ?_
          rotate_left 1
          · (intro wS hS; go_simp; (try with_reducible rfl))
          · (intro wS hS; refine (vol_any c hok _).mono ?_; (rintro e w2 ⟨rfl, hb⟩; exact ⟨rfl, Below.next hS hb⟩))
          simp only [List.setIfInBounds_toArray, List.set_cons_zero, List.set_cons_succ]
          refine cm_run 12 27 (v := ?_) rfl rfl (by kernel_rfl) (by kernel_rfl) (by kernel_rfl) (by kernel_rfl) (by kernel_rfl) (fun _ _ _ h => h) (by rfl) ?_ ?_
          rotate_left
          · (intro wS hS; skip; go_simp; (try with_reducible rfl))
          simp only [List.setIfInBounds_toArray, List.set_cons_zero, List.set_cons_succ]
          refine cm_run 13 28 (v := ?_) rfl rfl (by kernel_rfl) (by kernel_rfl) (by kernel_rfl) (by kernel_rfl) (by kernel_rfl) (fun _ _ _ h => h) (by rfl) ?_ ?_
          rotate_left
          · (intro wS hS; skip; go_simp; (try with_reducible rfl))
          simp only [List.setIfInBounds_toArray, List.set_cons_zero, List.set_cons_succ]
          refine cm_done (by kernel_rfl) ?_
          intro wS hS
          refine NoPanic.normal ?_
          have HBW := Lib.hid (Below.next HBW.out hS)
          have HOW : Hid (wS.ownsRow w.heap.size 3 1 (.slice va (overK cs bs k).length vc) (overK cs bs k).length (ic .i64 (overK cs bs k))) := own_keep hS HOW.out
          clear hS
          go_wp2_with (at_builtin; refine wpList_app rfl (.tmp 29) (.tmp 31) 52 rfl w.heap.size 3 (.int .i64 0) 1 8 E52 _ _ _ rfl (HOW.out.alloc _) _ 1 [.int .i64 (k : Int)] rfl (rds_one _ _ _) (by simp [Value.oneCell']) ?c1 ?c2 ?c3 ?_)
          case c1 => have := HL.out; unfold maxLen; omega
          case c2 => have := HL.out; omega
          case c3 => have := HBW.out.size; simp; omega
          intro a3 c3 w3 hown3 hg3 hb3
          have hown3 : w3.ownsRow w.heap.size 3 1 (.slice a3 ((overK cs bs k).length + 1) c3) ((overK cs bs k).length + 1) (ic .i64 (overK cs bs k) ++ [.int .i64 (k : Int)]) := by with_reducible exact hown3
          have hB3 : Below w.heap.size w w3 := (Below.al HBW.out _).trans hb3
          have HOW3 := Lib.hid hown3
          clear hown3 hg3 hb3
          go_wp2_with fail
          go_roundw
          case rel => exact ⟨k + 1, by omega, by go_num, by rw [HE.out]; simpa [ic_append, ic] using HOW3.out, hB3⟩
          case measure => simp [intOf]; omega
        · have d4 : decide (vol c < x) = false := nb hb2
          rw [if_neg (by omega)] at hE
          have HE := Lib.hid hE
          clear hE hb1 hb2
          refine wp_region_calm (fun w' => Below W1.heap.size W1 w') 99 (by kernel_rfl) ((Below.refl _ W1).drew) ?_
          refine cm_run 0 15 (v := ?_) rfl rfl (by kernel_rfl) (by kernel_rfl) (by kernel_rfl) (by kernel_rfl) (by kernel_rfl) (fun _ _ _ h => h) (by rfl) ?_ ?_
          rotate_left
          · (intro wS hS; skip; go_simp; (try with_reducible rfl))
          simp only [List.setIfInBounds_toArray, List.set_cons_zero, List.set_cons_succ]
          refine cm_run 1 16 (v := ?_) rfl rfl (by kernel_rfl) (by kernel_rfl) (by kernel_rfl) (by kernel_rfl) (by kernel_rfl) (fun _ _ _ h => h) (by rfl) ?_ ?_
          rotate_left
          · (intro wS hS; skip; go_simp; (try with_reducible rfl))
          simp only [List.setIfInBounds_toArray, List.set_cons_zero, List.set_cons_succ]
          refine cm_run 2 17 (v := ?_) rfl rfl (by kernel_rfl) (by kernel_rfl) (by kernel_rfl) (by kernel_rfl) (by kernel_rfl) (fun _ _ _ h => h) (by rfl) ?_ ?_
          rotate_left
          · (intro wS hS; skip; go_simp; (try with_reducible rfl))
          simp only [List.setIfInBounds_toArray, List.set_cons_zero, List.set_cons_succ]
          refine cm_run 3 18 (v := ?_) rfl rfl (by kernel_rfl) (by kernel_rfl) (by kernel_rfl) (by kernel_rfl) (by kernel_rfl) (fun _ _ _ h => h) (by rfl) ?_ ?_
          rotate_left
          · (intro wS hS; have g := cell_later hS hcb1; go_simp; (try with_reducible rfl))
          simp only [List.setIfInBounds_toArray, List.set_cons_zero, List.set_cons_succ]
          refine cm_run 4 19 (v := ?_) rfl rfl (by kernel_rfl) (by kernel_rfl) (by kernel_rfl) (by kernel_rfl) (by kernel_rfl) (fun _ _ _ h => h) (by rfl) ?_ ?_
          rotate_left
          · (intro wS hS; skip; go_simp; (try with_reducible rfl))
          simp only [List.setIfInBounds_toArray, List.set_cons_zero, List.set_cons_succ]
          refine cm_run 5 20 (v := ?_) rfl rfl (by kernel_rfl) (by kernel_rfl) (by kernel_rfl) (by kernel_rfl) (by kernel_rfl) (fun _ _ _ h => h) (by rfl) ?_ ?_
          rotate_left
          · (intro wS hS; skip; go_simp; (try with_reducible rfl))
          simp only [List.setIfInBounds_toArray, List.set_cons_zero, List.set_cons_succ]
          refine cm_run 6 21 (v := ?_) rfl rfl (by kernel_rfl) (by kernel_rfl) (by kernel_rfl) (by kernel_rfl) (by kernel_rfl) (fun _ _ _ h => h) (by rfl) ?_ ?_
          rotate_left
          · (intro wS hS; skip; go_simp; (try with_reducible rfl))
          simp only [List.setIfInBounds_toArray, List.set_cons_zero, List.set_cons_succ]
          refine cm_run 7 22 (v := ?_) rfl rfl (by kernel_rfl) (by kernel_rfl) (by kernel_rfl) (by kernel_rfl) (by kernel_rfl) (fun _ _ _ h => h) (by rfl) ?_ ?_
          rotate_left
          · (intro wS hS; skip; go_simp; (try with_reducible rfl))
          simp only [List.setIfInBounds_toArray, List.set_cons_zero, List.set_cons_succ]
          refine cm_run 8 23 (v := ?_) rfl rfl (by kernel_rfl) (by kernel_rfl) (by kernel_rfl) (by kernel_rfl) (by kernel_rfl) (fun _ _ _ h => h) (by rfl) ?_ ?_
          rotate_left
          · (intro wS hS; skip; go_simp; (try with_reducible rfl))
          simp only [List.setIfInBounds_toArray, List.set_cons_zero, List.set_cons_succ]
          refine cm_run 9 24 (v := ?_) rfl rfl (by kernel_rfl) (by kernel_rfl) (by kernel_rfl) (by kernel_rfl) (by kernel_rfl) (fun _ _ _ h => h) (by rfl) ?_ ?_
          rotate_left
          · (intro wS hS; have g := cell_later hS hcb1; go_simp; (try with_reducible rfl))
          simp only [List.setIfInBounds_toArray, List.set_cons_zero, List.set_cons_succ]
          refine cm_run 10 25 (v := ?_) rfl rfl (by kernel_rfl) (by kernel_rfl) (by kernel_rfl) (by kernel_rfl) (by kernel_rfl) (fun _ _ _ h => h) (by rfl) ?_ ?_
          rotate_left
          · (intro wS hS; have g := BC.keep hS hBC; go_simp; (try with_reducible rfl))
          simp only [List.setIfInBounds_toArray, List.set_cons_zero, List.set_cons_succ]
          refine cm_call 11 26 64 (v := .int .i64 (vol c)) (args := ?_) rfl rfl (by kernel_rfl) (by kernel_rfl) (by kernel_rfl) (by kernel_rfl) (by kernel_rfl) (fun _ _ _ h => h) (by rfl) ?_ ?_ ?_
          rotate_left 1
          · (intro wS hS; go_simp; (try with_reducible rfl))
          · (intro wS hS; refine (vol_any c hok _).mono ?_; (rintro e w2 ⟨rfl, hb⟩; exact ⟨rfl, Below.next hS hb⟩))
          simp only [List.setIfInBounds_toArray, List.set_cons_zero, List.set_cons_succ]
          refine cm_run 12 27 (v := ?_) rfl rfl (by kernel_rfl) (by kernel_rfl) (by kernel_rfl) (by kernel_rfl) (by kernel_rfl) (fun _ _ _ h => h) (by rfl) ?_ ?_
          rotate_left
          · (intro wS hS; skip; go_simp; (try with_reducible rfl))
          simp only [List.setIfInBounds_toArray, List.set_cons_zero, List.set_cons_succ]
          refine cm_run 13 28 (v := ?_) rfl rfl (by kernel_rfl) (by kernel_rfl) (by kernel_rfl) (by kernel_rfl) (by kernel_rfl) (fun _ _ _ h => h) (by rfl) ?_ ?_
          rotate_left
          · (intro wS hS; skip; go_simp; (try with_reducible rfl))
          simp only [List.setIfInBounds_toArray, List.set_cons_zero, List.set_cons_succ]
          refine cm_done (by kernel_rfl) ?_
          intro wS hS
          refine NoPanic.normal ?_
          have HBW := Lib.hid (Below.next HBW.out hS)
          have HOW : Hid (wS.ownsRow w.heap.size 3 1 (.slice va (overK cs bs k).length vc) (overK cs bs k).length (ic .i64 (overK cs bs k))) := own_keep hS HOW.out
          clear hS
          go_wp2_with fail
          go_roundw
          case rel => exact ⟨k + 1, by omega, by go_num, by rw [HE.out]; exact HOW.out, HBW.out⟩
          case measure => simp [intOf]; omega
    · obtain rfl : k = N := by omega
      have d2 : decide ((k : Int) < (k : Int)) = false := nb (by omega)
      go_wp2_with fail
      go_ret
      exact ⟨_, rfl, rdi_owns HOW.out, Fresh.of_owns HOW.out, HBW.out⟩
end Go.Proofs.Ytnbjdgjopdeolaa
