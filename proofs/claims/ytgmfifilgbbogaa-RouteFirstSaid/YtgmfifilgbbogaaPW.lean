


/- The kit's plans: lay. -/
import Derived.Test.YtgmfifilgbbogaaV
import Derived.Test.YtgmfifilgbbogaaPL
namespace Go.Proofs.Ytgmfifilgbbogaa
open Go.RowKit
set_option linter.unusedSimpArgs false
set_option linter.unusedVariables false
set_option maxRecDepth 100000

theorem ccs_cons (c : Ct) (cs : List Ct) : ccs (c :: cs) = c.cells ++ ccs cs := by simp [ccs]
theorem ccs_app (xs ys : List Ct) : ccs (xs ++ ys) = ccs xs ++ ccs ys := by simp [ccs]
theorem ccs_take (cs : List Ct) : ∀ a, (ccs cs).take (a * 6) = ccs (cs.take a) := by
  induction cs with
  | nil => intro a; simp [ccs]
  | cons c cs ih =>
    intro a
    cases a with
    | zero => simp [ccs]
    | succ a =>
      rw [List.take_succ_cons, ccs_cons, ccs_cons, ← ih a, List.take_append, show c.cells.length = 6 from rfl, show (a + 1) * 6 - 6 = a * 6 by omega, List.take_of_length_le (by show 6 ≤ _; omega)]
theorem ccs_drop (cs : List Ct) : ∀ a, (ccs cs).drop (a * 6) = ccs (cs.drop a) := by
  induction cs with
  | nil => intro a; simp [ccs]
  | cons c cs ih =>
    intro a
    cases a with
    | zero => simp
    | succ a =>
      rw [List.drop_succ_cons, ccs_cons, ← ih a, List.drop_append, show c.cells.length = 6 from rfl, show (a + 1) * 6 - 6 = a * 6 by omega, List.drop_of_length_le (by show 6 ≤ _; omega), List.nil_append]
theorem slc_take {w : World} {a0 : Option Addr} {N n0 : Nat} {cs : List Ct} (h : RdC w (.slice a0 N n0) cs) (hN : cs.length = N) (a : Nat) (ha : a ≤ N) : RdS w 6 (sliced a0 0 a n0 6) a (ccs (cs.take a)) := by
  obtain ⟨hl, hm, hr⟩ := h
  refine ⟨by rw [ccs_length, List.length_take]; omega, by omega, ?_⟩
  rcases hr with ⟨h0, a1, cap, hv, hn⟩ | ⟨b, off, cap, hv, hc, hr⟩
  · simp only [Value.slice.injEq] at hv
    obtain ⟨rfl, h2, rfl⟩ := hv
    refine .inl ⟨by omega, _, _, by unfold sliced; rw [show a - 0 = 0 by omega], fun he => ?_⟩
    cases a0 with
    | none => simp [hn rfl]
    | some a1 => split at he <;> simp at he
  · simp only [Value.slice.injEq] at hv
    obtain ⟨rfl, h2, rfl⟩ := hv
    refine .inr ⟨b, off, n0, ?_, by omega, fun j u hj => ?_⟩
    · unfold sliced
      simp [Addr.add]
    · rw [← ccs_take, List.getElem?_take] at hj
      split at hj
      · exact hr j u hj
      · cases hj
theorem slc_drop {w : World} {a0 : Option Addr} {N n0 : Nat} {cs : List Ct} (h : RdC w (.slice a0 N n0) cs) (hN : cs.length = N) (a : Nat) (ha : a ≤ N) : RdS w 6 (sliced a0 a N n0 6) (N - a) (ccs (cs.drop a)) := by
  obtain ⟨hl, hm, hr⟩ := h
  refine ⟨by rw [ccs_length, List.length_drop]; omega, by omega, ?_⟩
  rcases hr with ⟨h0, a1, cap, hv, hn⟩ | ⟨b, off, cap, hv, hc, hr⟩
  · simp only [Value.slice.injEq] at hv
    obtain ⟨rfl, h2, rfl⟩ := hv
    refine .inl ⟨by omega, _, _, by unfold sliced; rw [show N - a = 0 by omega], fun he => ?_⟩
    cases a0 with
    | none => simp [hn rfl]
    | some a1 => simp at he; split at he <;> simp at he
  · simp only [Value.slice.injEq] at hv
    obtain ⟨rfl, h2, rfl⟩ := hv
    by_cases hz : n0 = a
    · refine .inl ⟨by omega, _, _, by unfold sliced; rw [show N - a = 0 by omega], fun he => ?_⟩
      rw [if_pos hz] at he
      cases he
    · refine .inr ⟨b, off + a * 6, n0 - a, ?_, by omega, fun j u hj => ?_⟩
      · unfold sliced
        rw [if_neg hz]
        simp [Addr.add]
      · rw [← ccs_drop, List.getElem?_drop] at hj
        have := hr _ u hj
        rwa [show off + (a * 6 + j) = off + a * 6 + j by omega] at this
theorem step_app {P : Program} {ops : Array Oper} {w : World} {o : Oper} {a : Act} {K : Act → World → Prop} {Q : Exit → Act → World → Prop} {G : Prop} (hgd : o.guard = none) (s x : Operand) (t : TypeId)
    (ho : o.op = .call { callee := .builtin .append, args := #[s, x], argTypes := #[t, t] }) (base : Nat) (e : TypeId) (z : Value) (size bytes : Nat) (E : ElemOk P t e z size bytes)
    (v : Value) (n : Nat) (xs : List Value) (hs : a.eval s = v) (hown : w.ownsRow base e size v n xs) (u : Value) (m : Nat) (cs : List Value) (hx : a.eval x = u) (hr : RdS w size u m cs) (h1 : ∀ c ∈ cs, c.oneCell' = true)
    (h63 : n + m ≤ maxLen) (hbytes : (n + m) * bytes ≤ 140737488355328) (hbase : base ≤ w.heap.size)
    (h : ∀ a' c' w', w'.ownsRow base e size (.slice a' (n + m) c') (n + m) (xs ++ cs) → w.grownBy w' v.ownBlock → Below base w w' → K (a.put o.dst (.slice a' (n + m) c')) w') : if Region.wanted o (yielded ops a.tmps) = true then Oper.wp P o a w K Q else G := by
  rw [if_pos (by simp [Region.wanted, hgd])]
  exact wp_app s x t ho base e z size bytes E v n xs hs hown u m cs hx hr h1 h63 hbytes hbase h

theorem c_one (c : Ct) : ∀ u ∈ c.cells, u.oneCell' = true := fun u hu => ccs_one [c] u (by rw [show ccs [c] = c.cells by simp [ccs]]; exact hu)
set_option maxHeartbeats 2000000 in
theorem lay_any (cs : List Ct) (v : Value) (c : Ct) (hl : cs.length ≤ 1000) (w : World) (h : RdC w v cs) :
    Calls Try.prog 63 #[v, c.v] w (PR w (layP cs c)) := by
  obtain ⟨a0, n0, rfl⟩ := h.form
  obtain ⟨N, hN⟩ : ∃ N, cs.length = N := ⟨_, rfl⟩
  rw [hN] at h hl ⊢
  have HR := Lib.hid h
  have HN := Lib.hid hN
  clear h hN
  go_enter Try.func63, Try.ntmps63
  go_wp2_with fail
  go_loopw [5, 6] (fun at' i wr => ∃ k : Nat, k ≤ N ∧ i = .int .i64 k ∧ at' = .int .i64 (atK cs c k : Int) ∧ BC wr w.heap.size c ∧ Below w.heap.size w wr ∧ Hid (meets cs c k = false)) (fun _ i _ => N - (intOf i).toNat)
  case atStart => exact ⟨0, Nat.zero_le _, rfl, rfl, by simp [BC, go_sem], (by repeat (first | assumption | exact Below.refl _ _ | apply Below.al | apply below_drewN | apply Below.drew | refine Below.next ?_ (by assumption))), rfl⟩
  case round =>
    obtain ⟨k, hk, rfl, rfl, hBC, hB, HM⟩ := hrel
    by_cases hlt : k < N
    · have d2 : decide ((k : Int) < (N : Int)) = true := yb (by omega)
      obtain ⟨b, off, rfl, hcap, hca⟩ := HR.out.at HN.out k hlt
      obtain ⟨x, HX⟩ : ∃ x, Hid (cs.getD k c0 = x) := ⟨_, rfl⟩
      rw [HX.out] at hca
      have hca := CA.keep hB hca
      have i1 : (0 : Int) ≤ (k : Int) := by omega
      have i2 : (k : Int) < (N : Int) := by omega
      have hwk : IntKind.i64.wrap (k : Int) = (k : Int) := IntWalk.i64_in _ (by omega)
      have hwk1 : IntKind.i64.wrap ((k : Int) + 1) = (k : Int) + 1 := IntWalk.i64_in _ (by omega)
      obtain ⟨W1, hW1⟩ : ∃ W : World, W = wr.alloc (.cells #[.int .i64 x.fr, .int .i64 x.dt, .int .i64 x.st, .int .i64 x.en, .int .i64 x.rt, .int .i64 x.dl] 52) := ⟨_, rfl⟩
      have hBX : BC W1 wr.heap.size x := by rw [hW1]; simp [BC, go_sem]
      have hBC : BC W1 w.heap.size c := by rw [hW1]; exact hBC.al _
      have hB : Below w.heap.size w W1 := by rw [hW1]; exact Below.al hB _
      go_upto_region 6 with fail
      rw [← hW1]
      obtain ⟨Sx, hSx⟩ : ∃ S : Nat, S = wr.heap.size := ⟨_, rfl⟩
      rw [← hSx] at hBX ⊢
      clear hW1 hSx hca
      have hmk : meets cs c (k + 1) = (meets cs c k || decide (laps x c)) := by rw [← HX.out]; rfl
      have hak : atK cs c (k + 1) = if bef x c then k + 1 else atK cs c k := by rw [← HX.out]; rfl
      rw [HM.out, Bool.false_or] at hmk
      have HMK := Lib.hid hmk
      have HAK := Lib.hid hak
      clear hmk hak
      obtain ⟨L, HL⟩ : ∃ L : Bool, Hid (decide (laps x c) = L) := ⟨_, rfl⟩
      obtain ⟨Bf, HBf⟩ : ∃ L : Bool, Hid (decide (bef x c) = L) := ⟨_, rfl⟩
      go_cut [43] (fun t wx => t = .bool L ∧ W1 = wx)
      case first =>
        by_cases e1 : x.fr = c.fr
        · have f1 : (x.fr == c.fr) = true := by simp [e1]
          by_cases e2 : x.dt = c.dt
          · have f2 : (x.dt == c.dt) = true := by simp [e2]
            by_cases e3 : x.st < c.en
            · have f3 : decide (x.st < c.en) = true := yb e3
              by_cases e4 : c.st < x.en
              · have f4 : decide (c.st < x.en) = true := yb e4
                obtain rfl : L = true := by rw [← HL.out]; exact yb ⟨e1, e2, e3, e4⟩
                clear e1 e2 e3 e4
                go_wp2_with fail
                go_meet
                exact ⟨rfl, rfl⟩
              · have f4 : decide (c.st < x.en) = false := nb e4
                obtain rfl : L = false := by rw [← HL.out]; exact nb (fun hh => e4 hh.2.2.2)
                clear e1 e2 e3 e4
                go_wp2_with fail
                go_meet
                exact ⟨rfl, rfl⟩
            · have f3 : decide (x.st < c.en) = false := nb e3
              obtain rfl : L = false := by rw [← HL.out]; exact nb (fun hh => e3 hh.2.2.1)
              clear e1 e2 e3
              go_wp2_with fail
              go_meet
              exact ⟨rfl, rfl⟩
          · have f2 : (x.dt == c.dt) = false := by simp [e2]
            obtain rfl : L = false := by rw [← HL.out]; exact nb (fun hh => e2 hh.2.1)
            clear e1 e2
            go_wp2_with fail
            go_meet
            exact ⟨rfl, rfl⟩
        · have f1 : (x.fr == c.fr) = false := by simp [e1]
          obtain rfl : L = false := by rw [← HL.out]; exact nb (fun hh => e1 hh.1)
          clear e1
          go_wp2_with fail
          go_meet
          exact ⟨rfl, rfl⟩
      case rest =>
        obtain ⟨rfl, rfl⟩ := hcut
        cases L with
        | true =>
          have hlay : layP cs c = cs := by
            unfold layP
            rw [if_pos (meets_mono (k := k + 1) (by rw [HMK.out, HL.out]) _ (by rw [HN.out]; omega))]
          go_wp2_with fail
          go_ret
          exact ⟨_, rfl, by rw [hlay]; exact HR.out.keep hB, hB⟩
        | false =>
          go_upto_region 8 with fail
          go_cut [77] (fun t wx => t = .bool Bf ∧ W1 = wx)
          case first =>
            by_cases e1 : x.st < c.st
            · have f1 : decide (x.st < c.st) = true := yb e1
              obtain rfl : Bf = true := by rw [← HBf.out]; exact yb (.inl e1)
              clear e1
              go_wp2_with fail
              go_meet
              exact ⟨rfl, rfl⟩
            · have f1 : decide (x.st < c.st) = false := nb e1
              by_cases e2 : x.st = c.st
              · have f2 : (x.st == c.st) = true := by simp [e2]
                by_cases e3 : x.fr < c.fr
                · have f3 : decide (x.fr < c.fr) = true := yb e3
                  obtain rfl : Bf = true := by rw [← HBf.out]; exact yb (.inr ⟨e2, .inl e3⟩)
                  clear e1 e2 e3
                  go_wp2_with fail
                  go_meet
                  exact ⟨rfl, rfl⟩
                · have f3 : decide (x.fr < c.fr) = false := nb e3
                  by_cases e4 : x.fr = c.fr
                  · have f4 : (x.fr == c.fr) = true := by simp [e4]
                    by_cases e5 : x.dt < c.dt
                    · have f5 : decide (x.dt < c.dt) = true := yb e5
                      obtain rfl : Bf = true := by rw [← HBf.out]; exact yb (.inr ⟨e2, .inr ⟨e4, e5⟩⟩)
                      clear e1 e2 e3 e4 e5
                      go_wp2_with fail
                      go_meet
                      exact ⟨rfl, rfl⟩
                    · have f5 : decide (x.dt < c.dt) = false := nb e5
                      obtain rfl : Bf = false := by rw [← HBf.out]; exact nb (fun hh => by unfold bef at hh; omega)
                      clear e1 e2 e3 e4 e5
                      go_wp2_with fail
                      go_meet
                      exact ⟨rfl, rfl⟩
                  · have f4 : (x.fr == c.fr) = false := by simp [e4]
                    obtain rfl : Bf = false := by rw [← HBf.out]; exact nb (fun hh => by unfold bef at hh; omega)
                    clear e1 e2 e3 e4
                    go_wp2_with fail
                    go_meet
                    exact ⟨rfl, rfl⟩
              · have f2 : (x.st == c.st) = false := by simp [e2]
                obtain rfl : Bf = false := by rw [← HBf.out]; exact nb (fun hh => by unfold bef at hh; omega)
                clear e1 e2
                go_wp2_with fail
                go_meet
                exact ⟨rfl, rfl⟩
          case rest =>
            obtain ⟨rfl, rfl⟩ := hcut
            have HM2 : Hid (meets cs c (k + 1) = false) := by unfold Hid; rw [HMK.out, HL.out]
            cases Bf with
            | true =>
              have HA2 : Hid (atK cs c (k + 1) = k + 1) := by unfold Hid; rw [HAK.out, if_pos (of_decide_eq_true HBf.out)]
              go_wp2_with fail
              go_roundw
              case rel => exact ⟨k + 1, by omega, by go_num, by rw [HA2.out]; go_num, hBC, hB, HM2.out⟩
              case measure => simp [intOf]; omega
            | false =>
              have HA2 : Hid (atK cs c (k + 1) = atK cs c k) := by unfold Hid; rw [HAK.out, if_neg (of_decide_eq_false HBf.out)]
              go_wp2_with fail
              go_roundw
              case rel => exact ⟨k + 1, by omega, by go_num, by rw [HA2.out], hBC, hB, HM2.out⟩
              case measure => simp [intOf]; omega
    · obtain rfl : k = N := by omega
      have d2 : decide ((k : Int) < (k : Int)) = false := nb (by omega)
      have hlay : layP cs c = cs.take (atK cs c k) ++ c :: cs.drop (atK cs c k) := by
        unfold layP
        rw [HN.out, if_neg (by rw [HM.out]; simp)]
      have ha := atK_le cs c k
      obtain ⟨a, hae⟩ : ∃ a, atK cs c k = a := ⟨_, rfl⟩
      rw [hae] at hlay ha
      rw [hae]
      have HLAY := Lib.hid hlay
      clear hae hlay
      have hs6 : ∀ w : World, (sizeOf (Try.prog.elem 22)).run Try.prog w = .ok 6 w := fun w => by kernel_rfl
      have hun : Try.prog.underlying 22 = some (.slice (Try.prog.elem 22)) := by kernel_rfl
      have hkn : k ≤ n0 := by
        have := HN.out
        rcases HR.out.2.2 with ⟨h0, _⟩ | ⟨_, _, _, hv, hc, _⟩
        · omega
        · simp only [Value.slice.injEq] at hv
          omega
      obtain ⟨v1, hv1⟩ : ∃ v, sliced a0 0 a n0 6 = v := ⟨_, rfl⟩
      obtain ⟨v2, hv2⟩ : ∃ v, sliced a0 a k n0 6 = v := ⟨_, rfl⟩
      have hr1 : RdS wr 6 v1 a (ccs (cs.take a)) := by rw [← hv1]; exact slc_take (HR.out.keep hB) HN.out a ha
      have hr2 : RdS wr 6 v2 (k - a) (ccs (cs.drop a)) := by rw [← hv2]; exact slc_drop (HR.out.keep hB) HN.out a ha
      have g1 : ∀ w : World, (Instr.slice 22 (.slice a0 k n0) none (some (.int .i64 a)) none).run Try.prog w = .ok v1 w := fun w => by
        rw [run_slice_h _ _ _ _ _ hun _ _ (by omega) (by omega), hs6]
        show Result.ok (sliced a0 0 (a : Int).toNat n0 6) w = _
        rw [Int.toNat_natCast, hv1]
      have g2 : ∀ w : World, (Instr.slice 22 (.slice a0 k n0) (some (.int .i64 a)) none none).run Try.prog w = .ok v2 w := fun w => by
        rw [run_slice_l _ _ _ _ _ hun _ _ (by omega) (by omega), hs6]
        show Result.ok (sliced a0 (a : Int).toNat k n0 6) w = _
        rw [Int.toNat_natCast, hv2]
      have G1 := Lib.hid g1
      have G2 := Lib.hid g2
      have R1 := Lib.hid hr1
      have R2 := Lib.hid hr2
      have hz := hB.size
      clear hv1 hv2 g1 g2 hs6 hun hr1 hr2
      go_wp2_with fail
      refine wp_region_noPanic ?_
      refine wp_region_held_drew (S := (fun w' => Below wr.heap.size wr w')) (by kernel_rfl) ((Below.refl _ wr).drew) (fun hHeld => ?_)
      refine reg_tk (v := ?_) 1 81 rfl rfl (by kernel_rfl) (by kernel_rfl) (by kernel_rfl) (fun _ _ _ h => h) (by rfl) ?_ (by assumption) ?_
      rotate_left
      · (intro w hSw; (try dsimp only at hSw); go_simp; (try with_reducible rfl))
      simp only [List.setIfInBounds_toArray, List.set_cons_zero, List.set_cons_succ]
      refine reg_tk (v := ?_) 2 82 rfl rfl (by kernel_rfl) (by kernel_rfl) (by kernel_rfl) (fun _ _ _ h => h) (by rfl) ?_ (by assumption) ?_
      rotate_left
      · (intro w hSw; (try dsimp only at hSw); go_simp; (try with_reducible rfl))
      simp only [List.setIfInBounds_toArray, List.set_cons_zero, List.set_cons_succ]
      refine reg_tk (v := v1) 3 83 rfl rfl (by kernel_rfl) (by kernel_rfl) (by kernel_rfl) (fun _ _ _ h => h) (by rfl) ?_ (by assumption) ?_
      · intro w3 hS
        have g := G1.out w3
        simp [execOp, Act.eval, g, go_sem]
      simp only [List.setIfInBounds_toArray, List.set_cons_zero, List.set_cons_succ]
      refine reg_tk (v := c.v) 5 85 rfl rfl (by kernel_rfl) (by kernel_rfl) (by kernel_rfl) (fun _ _ _ h => h) (by rfl) ?_ (by assumption) ?_
      · intro w3 hS
        have g := BC.keep hS hBC
        go_simp
      simp only [List.setIfInBounds_toArray, List.set_cons_zero, List.set_cons_succ]
      refine reg_tk (v := ?_) 8 88 rfl rfl (by kernel_rfl) (by kernel_rfl) (by kernel_rfl) (fun _ _ _ h => h) (by rfl) ?_ (by assumption) ?_
      rotate_left
      · (intro w hSw; (try dsimp only at hSw); go_simp; (try with_reducible rfl))
      simp only [List.setIfInBounds_toArray, List.set_cons_zero, List.set_cons_succ]
      refine reg_tk (v := ?_) 9 89 rfl rfl (by kernel_rfl) (by kernel_rfl) (by kernel_rfl) (fun _ _ _ h => h) (by rfl) ?_ (by assumption) ?_
      rotate_left
      · (intro w hSw; (try dsimp only at hSw); go_simp; (try with_reducible rfl))
      simp only [List.setIfInBounds_toArray, List.set_cons_zero, List.set_cons_succ]
      refine reg_tk (v := v2) 10 90 rfl rfl (by kernel_rfl) (by kernel_rfl) (by kernel_rfl) (fun _ _ _ h => h) (by rfl) ?_ (by assumption) ?_
      · intro w3 hS
        have g := G2.out w3
        simp [execOp, Act.eval, g, go_sem]
      simp only [List.setIfInBounds_toArray, List.set_cons_zero, List.set_cons_succ]
      refine wpAnyH_ready (rs := [0, 6]) (by kernel_rfl) (by simp) ?_
      refine AllReadyH.cons rfl (fun K hK => ?_) (AllReadyH.cons rfl (fun K hK => ?_) AllReadyH.nil)
      · go_simp
        have hS : Below wr.heap.size wr (wr.alloc (.cells #[] 52)).drew := Below.drew (Below.al (Below.refl _ _) _)
        have own : (wr.alloc (.cells #[] 52)).drew.ownsRow wr.heap.size 52 6 (.slice (some ⟨wr.heap.size, 0, none⟩) 0 0) 0 [] := owns_block _ _ 52 6 0 [] _ (Nat.le_refl _) (heap_last _ _) rfl (by decide)
        refine hK.out _ _ hS (fun hHeld => ?_)
        clear hK K
        try simp only [Act.put, List.getElem_toArray, List.getElem_cons_succ, List.getElem_cons_zero, List.setIfInBounds_toArray, List.set_cons_zero, List.set_cons_succ, Nat.zero_add]
        have hX1 : (wr.alloc (.cells #[] 52)).drew.heap.size = wr.heap.size + 1 := by simp
        obtain ⟨X1, hX⟩ : ∃ X : World, X = (wr.alloc (.cells #[] 52)).drew := ⟨_, rfl⟩
        rw [← hX] at hS own hX1 ⊢
        clear hX hHeld
        refine wpAnyH_ready (rs := [4, 6]) (by kernel_rfl) (by simp) ?_
        refine AllReadyH.cons rfl (fun K hK => ?_) (AllReadyH.cons rfl (fun K hK => ?_) AllReadyH.nil)
        · refine step_app rfl (.tmp 80) (.tmp 83) 22 rfl wr.heap.size 52 _ 6 48 ECt _ _ _ rfl own _ a (ccs (cs.take a)) rfl (R1.out.keep hS) (by first | exact ccs_one _ | exact c_one _) (by unfold maxLen; omega) (by omega) hS.size ?_
          intro a4 c4 X4 own hg hb
          have hS := hS.trans hb
          try rw [Nat.zero_add, List.nil_append] at own
          refine hK.out _ _ hS (fun hHeld => ?_)
          clear hK K
          try simp only [Act.put, List.getElem_toArray, List.getElem_cons_succ, List.getElem_cons_zero, List.setIfInBounds_toArray, List.set_cons_zero, List.set_cons_succ, Nat.zero_add]
          clear hg hb hX1
          refine wpAnyH_ready (rs := [6]) (by kernel_rfl) (by simp) ?_
          refine AllReadyH.cons rfl (fun K hK => ?_) AllReadyH.nil
          go_simp
          have hS2 := Below.al hS (Obj.cells #[.int .i64 c.fr, .int .i64 c.dt, .int .i64 c.st, .int .i64 c.en, .int .i64 c.rt, .int .i64 c.dl] 52)
          have own2 := own.alloc (Obj.cells #[.int .i64 c.fr, .int .i64 c.dt, .int .i64 c.st, .int .i64 c.en, .int .i64 c.rt, .int .i64 c.dl] 52)
          have r6 := RdS.of_owns (owns_block (X4.alloc (Obj.cells #[.int .i64 c.fr, .int .i64 c.dt, .int .i64 c.st, .int .i64 c.en, .int .i64 c.rt, .int .i64 c.dl] 52)) wr.heap.size 52 6 1 c.cells _ hS.size (heap_last _ _) rfl (by decide)) (by decide)
          refine hK.out _ _ hS2 (fun hHeld => ?_)
          clear hK K
          try simp only [Act.put, List.getElem_toArray, List.getElem_cons_succ, List.getElem_cons_zero, List.setIfInBounds_toArray, List.set_cons_zero, List.set_cons_succ, Nat.zero_add]
          obtain ⟨X6, hX⟩ : ∃ X : World, X = X4.alloc (Obj.cells #[.int .i64 c.fr, .int .i64 c.dt, .int .i64 c.st, .int .i64 c.en, .int .i64 c.rt, .int .i64 c.dl] 52) := ⟨_, rfl⟩
          rw [← hX] at hS2 own2 r6 ⊢
          clear hX hHeld hS own
          have hS := hS2
          refine wpAnyH_ready (rs := [7]) (by kernel_rfl) (by simp) ?_
          refine AllReadyH.cons rfl (fun K hK => ?_) AllReadyH.nil
          refine step_app rfl (.tmp 84) (.tmp 86) 22 rfl wr.heap.size 52 _ 6 48 ECt _ _ _ rfl own2 _ 1 c.cells rfl r6 (by first | exact ccs_one _ | exact c_one _) (by unfold maxLen; omega) (by omega) hS.size ?_
          intro a7 c7 X7 own hg hb
          have hS := hS.trans hb
          try rw [Nat.zero_add, List.nil_append] at own
          refine hK.out _ _ hS (fun hHeld => ?_)
          clear hK K
          try simp only [Act.put, List.getElem_toArray, List.getElem_cons_succ, List.getElem_cons_zero, List.setIfInBounds_toArray, List.set_cons_zero, List.set_cons_succ, Nat.zero_add]
          clear hg hb
          refine wpAnyH_ready (rs := [11]) (by kernel_rfl) (by simp) ?_
          refine AllReadyH.cons rfl (fun K hK => ?_) AllReadyH.nil
          refine step_app rfl (.tmp 87) (.tmp 90) 22 rfl wr.heap.size 52 _ 6 48 ECt _ _ _ rfl own _ (k - a) (ccs (cs.drop a)) rfl (R2.out.keep hS) (by first | exact ccs_one _ | exact c_one _) (by unfold maxLen; omega) (by omega) hS.size ?_
          intro a11 c11 X11 own hg hb
          have hS := hS.trans hb
          try rw [Nat.zero_add, List.nil_append] at own
          refine hK.out _ _ hS (fun hHeld => ?_)
          clear hK K
          try simp only [Act.put, List.getElem_toArray, List.getElem_cons_succ, List.getElem_cons_zero, List.setIfInBounds_toArray, List.set_cons_zero, List.set_cons_succ, Nat.zero_add]
          clear hg hb
          refine wpAnyH_ready (rs := [12]) (by kernel_rfl) (by simp) ?_
          refine AllReadyH.cons rfl (fun K hK => ?_) AllReadyH.nil
          go_simp
          refine hK.out _ _ hS (fun hHeld => ?_)
          clear hK K
          try simp only [Act.put, List.getElem_toArray, List.getElem_cons_succ, List.getElem_cons_zero, List.setIfInBounds_toArray, List.set_cons_zero, List.set_cons_succ, Nat.zero_add]
          refine wpAnyH_done (by kernel_rfl) ?_ _
          refine NoPanic.normal ?_
          have hR := RdS.of_owns own (by decide)
          have hlen : (layP cs c).length = a + 1 + (k - a) := by rw [HLAY.out]; simp [List.length_take, HN.out]; omega
          have hcc : ccs (layP cs c) = ccs (cs.take a) ++ c.cells ++ ccs (cs.drop a) := by rw [HLAY.out, ccs_app, ccs_cons, List.append_assoc]
          have hR2 : RdC X11 (.slice a11 (a + 1 + (k - a)) c11) (layP cs c) := by unfold RdC; rw [hlen, hcc]; exact hR
          have hB2 := Below.next hB hS
          clear hlen hcc hR own hS hB
          go_wp2_with fail
          go_ret
          exact ⟨_, rfl, hR2, hB2⟩
        · go_simp
          have hS2 := Below.al hS (Obj.cells #[.int .i64 c.fr, .int .i64 c.dt, .int .i64 c.st, .int .i64 c.en, .int .i64 c.rt, .int .i64 c.dl] 52)
          have own2 := own.alloc (Obj.cells #[.int .i64 c.fr, .int .i64 c.dt, .int .i64 c.st, .int .i64 c.en, .int .i64 c.rt, .int .i64 c.dl] 52)
          have H6 := heap_last X1 (Obj.cells #[.int .i64 c.fr, .int .i64 c.dt, .int .i64 c.st, .int .i64 c.en, .int .i64 c.rt, .int .i64 c.dl] 52)
          rw [hX1] at H6
          have hX6 : (X1.alloc (Obj.cells #[.int .i64 c.fr, .int .i64 c.dt, .int .i64 c.st, .int .i64 c.en, .int .i64 c.rt, .int .i64 c.dl] 52)).heap.size = X1.heap.size + 1 := by simp
          refine hK.out _ _ hS2 (fun hHeld => ?_)
          clear hK K
          try simp only [Act.put, List.getElem_toArray, List.getElem_cons_succ, List.getElem_cons_zero, List.setIfInBounds_toArray, List.set_cons_zero, List.set_cons_succ, Nat.zero_add]
          obtain ⟨X6, hX⟩ : ∃ X : World, X = X1.alloc (Obj.cells #[.int .i64 c.fr, .int .i64 c.dt, .int .i64 c.st, .int .i64 c.en, .int .i64 c.rt, .int .i64 c.dl] 52) := ⟨_, rfl⟩
          rw [← hX] at hS2 own2 H6 hX6 ⊢
          clear hX hHeld hS own
          have hS := hS2
          refine wpAnyH_ready (rs := [4]) (by kernel_rfl) (by simp) ?_
          refine AllReadyH.cons rfl (fun K hK => ?_) AllReadyH.nil
          refine step_app rfl (.tmp 80) (.tmp 83) 22 rfl wr.heap.size 52 _ 6 48 ECt _ _ _ rfl own2 _ a (ccs (cs.take a)) rfl (R1.out.keep hS) (by first | exact ccs_one _ | exact c_one _) (by unfold maxLen; omega) (by omega) hS.size ?_
          intro a4 c4 X4 own hg hb
          have hS := hS.trans hb
          try rw [Nat.zero_add, List.nil_append] at own
          refine hK.out _ _ hS (fun hHeld => ?_)
          clear hK K
          try simp only [Act.put, List.getElem_toArray, List.getElem_cons_succ, List.getElem_cons_zero, List.setIfInBounds_toArray, List.set_cons_zero, List.set_cons_succ, Nat.zero_add]
          have H6 := (hg.block (wr.heap.size + 1) (by omega) (fun e => by
            have e2 : some (wr.heap.size + 1) = some wr.heap.size := e
            simp only [Option.some.injEq] at e2
            omega)).trans H6
          have B6 : wr.heap.size ≤ wr.heap.size + 1 := by omega
          have r6 := RdS.of_owns (owns_block X4 wr.heap.size 52 6 1 c.cells _ B6 H6 rfl (by decide)) (by decide)
          clear hg hb hX1 hX6 H6 own2
          refine wpAnyH_ready (rs := [7]) (by kernel_rfl) (by simp) ?_
          refine AllReadyH.cons rfl (fun K hK => ?_) AllReadyH.nil
          refine step_app rfl (.tmp 84) (.tmp 86) 22 rfl wr.heap.size 52 _ 6 48 ECt _ _ _ rfl own _ 1 c.cells rfl r6 (by first | exact ccs_one _ | exact c_one _) (by unfold maxLen; omega) (by omega) hS.size ?_
          intro a7 c7 X7 own hg hb
          have hS := hS.trans hb
          try rw [Nat.zero_add, List.nil_append] at own
          refine hK.out _ _ hS (fun hHeld => ?_)
          clear hK K
          try simp only [Act.put, List.getElem_toArray, List.getElem_cons_succ, List.getElem_cons_zero, List.setIfInBounds_toArray, List.set_cons_zero, List.set_cons_succ, Nat.zero_add]
          clear hg hb
          refine wpAnyH_ready (rs := [11]) (by kernel_rfl) (by simp) ?_
          refine AllReadyH.cons rfl (fun K hK => ?_) AllReadyH.nil
          refine step_app rfl (.tmp 87) (.tmp 90) 22 rfl wr.heap.size 52 _ 6 48 ECt _ _ _ rfl own _ (k - a) (ccs (cs.drop a)) rfl (R2.out.keep hS) (by first | exact ccs_one _ | exact c_one _) (by unfold maxLen; omega) (by omega) hS.size ?_
          intro a11 c11 X11 own hg hb
          have hS := hS.trans hb
          try rw [Nat.zero_add, List.nil_append] at own
          refine hK.out _ _ hS (fun hHeld => ?_)
          clear hK K
          try simp only [Act.put, List.getElem_toArray, List.getElem_cons_succ, List.getElem_cons_zero, List.setIfInBounds_toArray, List.set_cons_zero, List.set_cons_succ, Nat.zero_add]
          clear hg hb
          refine wpAnyH_ready (rs := [12]) (by kernel_rfl) (by simp) ?_
          refine AllReadyH.cons rfl (fun K hK => ?_) AllReadyH.nil
          go_simp
          refine hK.out _ _ hS (fun hHeld => ?_)
          clear hK K
          try simp only [Act.put, List.getElem_toArray, List.getElem_cons_succ, List.getElem_cons_zero, List.setIfInBounds_toArray, List.set_cons_zero, List.set_cons_succ, Nat.zero_add]
          refine wpAnyH_done (by kernel_rfl) ?_ _
          refine NoPanic.normal ?_
          have hR := RdS.of_owns own (by decide)
          have hlen : (layP cs c).length = a + 1 + (k - a) := by rw [HLAY.out]; simp [List.length_take, HN.out]; omega
          have hcc : ccs (layP cs c) = ccs (cs.take a) ++ c.cells ++ ccs (cs.drop a) := by rw [HLAY.out, ccs_app, ccs_cons, List.append_assoc]
          have hR2 : RdC X11 (.slice a11 (a + 1 + (k - a)) c11) (layP cs c) := by unfold RdC; rw [hlen, hcc]; exact hR
          have hB2 := Below.next hB hS
          clear hlen hcc hR own hS hB
          go_wp2_with fail
          go_ret
          exact ⟨_, rfl, hR2, hB2⟩
      · go_simp
        have hS : Below wr.heap.size wr (wr.alloc (Obj.cells #[.int .i64 c.fr, .int .i64 c.dt, .int .i64 c.st, .int .i64 c.en, .int .i64 c.rt, .int .i64 c.dl] 52)).drew := Below.drew (Below.al (Below.refl _ _) _)
        have H6 : (wr.alloc (Obj.cells #[.int .i64 c.fr, .int .i64 c.dt, .int .i64 c.st, .int .i64 c.en, .int .i64 c.rt, .int .i64 c.dl] 52)).drew.heap[wr.heap.size]? = some (Obj.cells #[.int .i64 c.fr, .int .i64 c.dt, .int .i64 c.st, .int .i64 c.en, .int .i64 c.rt, .int .i64 c.dl] 52) := heap_last wr (Obj.cells #[.int .i64 c.fr, .int .i64 c.dt, .int .i64 c.st, .int .i64 c.en, .int .i64 c.rt, .int .i64 c.dl] 52)
        have hX6 : (wr.alloc (Obj.cells #[.int .i64 c.fr, .int .i64 c.dt, .int .i64 c.st, .int .i64 c.en, .int .i64 c.rt, .int .i64 c.dl] 52)).drew.heap.size = wr.heap.size + 1 := by simp
        refine hK.out _ _ hS (fun hHeld => ?_)
        clear hK K
        try simp only [Act.put, List.getElem_toArray, List.getElem_cons_succ, List.getElem_cons_zero, List.setIfInBounds_toArray, List.set_cons_zero, List.set_cons_succ, Nat.zero_add]
        obtain ⟨X6, hX⟩ : ∃ X : World, X = (wr.alloc (Obj.cells #[.int .i64 c.fr, .int .i64 c.dt, .int .i64 c.st, .int .i64 c.en, .int .i64 c.rt, .int .i64 c.dl] 52)).drew := ⟨_, rfl⟩
        rw [← hX] at hS H6 hX6 ⊢
        clear hX hHeld
        refine wpAnyH_ready (rs := [0]) (by kernel_rfl) (by simp) ?_
        refine AllReadyH.cons rfl (fun K hK => ?_) AllReadyH.nil
        go_simp
        have hS2 := Below.al hS (.cells #[] 52)
        have own : (X6.alloc (.cells #[] 52)).ownsRow wr.heap.size 52 6 (.slice (some ⟨X6.heap.size, 0, none⟩) 0 0) 0 [] := owns_block _ _ 52 6 0 [] _ hS.size (heap_last _ _) rfl (by decide)
        rw [hX6] at own
        have H6 : (X6.alloc (.cells #[] 52)).heap[wr.heap.size]? = some (Obj.cells #[.int .i64 c.fr, .int .i64 c.dt, .int .i64 c.st, .int .i64 c.en, .int .i64 c.rt, .int .i64 c.dl] 52) := by
          rw [← H6]
          show (X6.heap.push _)[_]? = _
          rw [Array.getElem?_push, if_neg (by omega)]
        have hX1 : (X6.alloc (.cells #[] 52)).heap.size = X6.heap.size + 1 := by simp
        refine hK.out _ _ hS2 (fun hHeld => ?_)
        clear hK K
        try simp only [Act.put, List.getElem_toArray, List.getElem_cons_succ, List.getElem_cons_zero, List.setIfInBounds_toArray, List.set_cons_zero, List.set_cons_succ, Nat.zero_add]
        obtain ⟨X1, hX⟩ : ∃ X : World, X = X6.alloc (.cells #[] 52) := ⟨_, rfl⟩
        rw [← hX] at hS2 own H6 hX1 ⊢
        clear hX hHeld hS
        have hS := hS2
        refine wpAnyH_ready (rs := [4]) (by kernel_rfl) (by simp) ?_
        refine AllReadyH.cons rfl (fun K hK => ?_) AllReadyH.nil
        refine step_app rfl (.tmp 80) (.tmp 83) 22 rfl wr.heap.size 52 _ 6 48 ECt _ _ _ rfl own _ a (ccs (cs.take a)) rfl (R1.out.keep hS) (by first | exact ccs_one _ | exact c_one _) (by unfold maxLen; omega) (by omega) hS.size ?_
        intro a4 c4 X4 own hg hb
        have hS := hS.trans hb
        try rw [Nat.zero_add, List.nil_append] at own
        refine hK.out _ _ hS (fun hHeld => ?_)
        clear hK K
        try simp only [Act.put, List.getElem_toArray, List.getElem_cons_succ, List.getElem_cons_zero, List.setIfInBounds_toArray, List.set_cons_zero, List.set_cons_succ, Nat.zero_add]
        have H6 := (hg.block wr.heap.size (by omega) (fun e => by
          have e2 : some wr.heap.size = some (wr.heap.size + 1) := e
          simp only [Option.some.injEq] at e2
          omega)).trans H6
        have B6 : wr.heap.size ≤ wr.heap.size := Nat.le_refl _
        have r6 := RdS.of_owns (owns_block X4 wr.heap.size 52 6 1 c.cells _ B6 H6 rfl (by decide)) (by decide)
        clear hg hb hX1 hX6 H6
        refine wpAnyH_ready (rs := [7]) (by kernel_rfl) (by simp) ?_
        refine AllReadyH.cons rfl (fun K hK => ?_) AllReadyH.nil
        refine step_app rfl (.tmp 84) (.tmp 86) 22 rfl wr.heap.size 52 _ 6 48 ECt _ _ _ rfl own _ 1 c.cells rfl r6 (by first | exact ccs_one _ | exact c_one _) (by unfold maxLen; omega) (by omega) hS.size ?_
        intro a7 c7 X7 own hg hb
        have hS := hS.trans hb
        try rw [Nat.zero_add, List.nil_append] at own
        refine hK.out _ _ hS (fun hHeld => ?_)
        clear hK K
        try simp only [Act.put, List.getElem_toArray, List.getElem_cons_succ, List.getElem_cons_zero, List.setIfInBounds_toArray, List.set_cons_zero, List.set_cons_succ, Nat.zero_add]
        clear hg hb
        refine wpAnyH_ready (rs := [11]) (by kernel_rfl) (by simp) ?_
        refine AllReadyH.cons rfl (fun K hK => ?_) AllReadyH.nil
        refine step_app rfl (.tmp 87) (.tmp 90) 22 rfl wr.heap.size 52 _ 6 48 ECt _ _ _ rfl own _ (k - a) (ccs (cs.drop a)) rfl (R2.out.keep hS) (by first | exact ccs_one _ | exact c_one _) (by unfold maxLen; omega) (by omega) hS.size ?_
        intro a11 c11 X11 own hg hb
        have hS := hS.trans hb
        try rw [Nat.zero_add, List.nil_append] at own
        refine hK.out _ _ hS (fun hHeld => ?_)
        clear hK K
        try simp only [Act.put, List.getElem_toArray, List.getElem_cons_succ, List.getElem_cons_zero, List.setIfInBounds_toArray, List.set_cons_zero, List.set_cons_succ, Nat.zero_add]
        clear hg hb
        refine wpAnyH_ready (rs := [12]) (by kernel_rfl) (by simp) ?_
        refine AllReadyH.cons rfl (fun K hK => ?_) AllReadyH.nil
        go_simp
        refine hK.out _ _ hS (fun hHeld => ?_)
        clear hK K
        try simp only [Act.put, List.getElem_toArray, List.getElem_cons_succ, List.getElem_cons_zero, List.setIfInBounds_toArray, List.set_cons_zero, List.set_cons_succ, Nat.zero_add]
        refine wpAnyH_done (by kernel_rfl) ?_ _
        refine NoPanic.normal ?_
        have hR := RdS.of_owns own (by decide)
        have hlen : (layP cs c).length = a + 1 + (k - a) := by rw [HLAY.out]; simp [List.length_take, HN.out]; omega
        have hcc : ccs (layP cs c) = ccs (cs.take a) ++ c.cells ++ ccs (cs.drop a) := by rw [HLAY.out, ccs_app, ccs_cons, List.append_assoc]
        have hR2 : RdC X11 (.slice a11 (a + 1 + (k - a)) c11) (layP cs c) := by unfold RdC; rw [hlen, hcc]; exact hR
        have hB2 := Below.next hB hS
        clear hlen hcc hR own hS hB
        go_wp2_with fail
        go_ret
        exact ⟨_, rfl, hR2, hB2⟩
end Go.Proofs.Ytgmfifilgbbogaa
