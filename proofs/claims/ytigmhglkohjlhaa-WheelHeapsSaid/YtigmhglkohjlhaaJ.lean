


/- Timers: the reference puts one in. -/
import Derived.Test.YtigmhglkohjlhaaI
namespace Go.Proofs.Ytigmhglkohjlhaa
open Go.RowKit
set_option linter.unusedSimpArgs false
set_option linter.unusedVariables false
set_option maxRecDepth 100000

theorem step_app {P : Program} {ops : Array Oper} {w : World} {o : Oper} {a : Act} {K : Act → World → Prop} {Q : Exit → Act → World → Prop} {G : Prop} (hgd : o.guard = none) (s x : Operand) (t : TypeId)
    (ho : o.op = .call { callee := .builtin .append, args := #[s, x], argTypes := #[t, t] }) (base : Nat) (e : TypeId) (z : Value) (size bytes : Nat) (E : ElemOk P t e z size bytes)
    (v : Value) (n : Nat) (xs : List Value) (hs : a.eval s = v) (hown : w.ownsRow base e size v n xs) (u : Value) (m : Nat) (cs : List Value) (hx : a.eval x = u) (hr : RdS w size u m cs) (h1 : ∀ c ∈ cs, c.oneCell' = true)
    (h63 : n + m ≤ maxLen) (hbytes : (n + m) * bytes ≤ 140737488355328) (hbase : base ≤ w.heap.size)
    (h : ∀ a' c' w', w'.ownsRow base e size (.slice a' (n + m) c') (n + m) (xs ++ cs) → w.grownBy w' v.ownBlock → Below base w w' → K (a.put o.dst (.slice a' (n + m) c')) w') : if Region.wanted o (yielded ops a.tmps) = true then Oper.wp P o a w K Q else G := by
  rw [if_pos (by simp [Region.wanted, hgd])]
  exact wp_app s x t ho base e z size bytes E v n xs hs hown u m cs hx hr h1 h63 hbytes hbase h
theorem Tm.cs_one (t : Tm) : ∀ u ∈ Tm.cs t, u.oneCell' = true := tmR.one t
theorem owns_mono {w : World} {base base' : Nat} {e : TypeId} {size : Nat} {v : Value} {n : Nat} {xs : List Value} (h : w.ownsRow base e size v n xs) (hb : base' ≤ base) : w.ownsRow base' e size v n xs := by
  refine ⟨h.1, ?_⟩
  rcases h.2 with h2 | ⟨g, cap, cur, hv, hg, rest⟩
  · exact .inl h2
  · exact .inr ⟨g, cap, cur, hv, Nat.le_trans hb hg, rest⟩
set_option maxHeartbeats 4000000 in
theorem rput_any (v : Value) (l : List Tm) (t : Tm) (hl : l.length ≤ 100000) (w : World) (h : RdM w v l) : Calls Try.prog 44 #[v, t.v] w (OM w (putL l t)) := by
  obtain ⟨a0, n0, rfl⟩ := h.form
  obtain ⟨N, hN⟩ : ∃ N, l.length = N := ⟨_, rfl⟩
  obtain ⟨W, hW⟩ : ∃ W : World, W = w.alloc (Obj.cells #[.int .i64 t.tk, .int .i64 t.kd, .int .i64 t.nd, .int .u64 t.sq, .int .i64 t.of] 41) := ⟨_, rfl⟩
  have hB : Below w.heap.size w W := by rw [hW]; exact (by repeat (first | assumption | exact Below.refl _ _ | apply Below.al | apply below_drewN | apply Below.drew | refine Below.next ?_ (by assumption)))
  have bT : BoxN W w.heap.size 41 #[.int .i64 t.tk, .int .i64 t.kd, .int .i64 t.nd, .int .u64 t.sq, .int .i64 t.of] := by rw [hW]; exact BoxN.new _ _ _
  have HR := Lib.hid (show RdS W 5 (.slice a0 N n0) N (rcs tmR l) by have := h.keep hB; unfold RdL at this; rwa [hN] at this)
  have HN := Lib.hid hN
  rw [hN] at hl ⊢
  clear hN h
  go_enter Try.func44, Try.ntmps44
  go_upto_region 1 with fail
  rw [← hW]
  clear hW
  have c0 : W.cell? ⟨w.heap.size, 0, none⟩ = some (.int .i64 t.tk) := (bT.cell 0).trans rfl
  have c1 : W.cell? ⟨w.heap.size, 1, none⟩ = some (.int .i64 t.kd) := (bT.cell 1).trans rfl
  have c2 : W.cell? ⟨w.heap.size, 2, none⟩ = some (.int .i64 t.nd) := (bT.cell 2).trans rfl
  have c3 : W.cell? ⟨w.heap.size, 3, none⟩ = some (.int .u64 t.sq) := (bT.cell 3).trans rfl
  have c4 : W.cell? ⟨w.heap.size, 4, none⟩ = some (.int .i64 t.of) := (bT.cell 4).trans rfl
  go_cut [5] (fun s wx => ∃ a c, s = .slice a (N + 1) c ∧ wx.ownsRow W.heap.size 41 5 (.slice a (N + 1) c) (N + 1) (rcs tmR l ++ Tm.cs t) ∧ Below W.heap.size W wx)
  case first =>
    refine wp_region_noPanic ?_
    refine wp_region_held_drew (S := (fun w' => Below W.heap.size W w')) (by kernel_rfl) ((Below.refl _ W).drew) (fun hHeld => ?_)
    refine reg_tk (v := ?_) 1 7 rfl rfl (by kernel_rfl) (by kernel_rfl) (by kernel_rfl) (fun _ _ _ h => h) (by rfl) ?_ (by assumption) ?_
    rotate_left
    · (intro w hSw; (try dsimp only at hSw); go_simp; (try with_reducible rfl))
    simp only [List.setIfInBounds_toArray, List.set_cons_zero, List.set_cons_succ]
    refine reg_tk (v := t.v) 3 9 rfl rfl (by kernel_rfl) (by kernel_rfl) (by kernel_rfl) (fun _ _ _ h => h) (by rfl) (fun w3 hS => by (have h0 := cell_later hS c0; have h1 := cell_later hS c1; have h2 := cell_later hS c2; have h3 := cell_later hS c3; have h4 := cell_later hS c4); go_simp) (by assumption) ?_
    simp only [List.setIfInBounds_toArray, List.set_cons_zero, List.set_cons_succ]
    refine wpAnyH_ready (rs := [0, 4]) (by kernel_rfl) (by simp) ?_
    refine AllReadyH.cons rfl (fun K hK => ?_) (AllReadyH.cons rfl (fun K hK => ?_) AllReadyH.nil)
    · go_simp
      have hS : Below W.heap.size W (W.alloc (.cells #[] 41)).drew := Below.drew (Below.al (Below.refl _ _) _)
      have own : (W.alloc (.cells #[] 41)).drew.ownsRow W.heap.size 41 5 (.slice (some ⟨W.heap.size, 0, none⟩) 0 0) 0 [] := owns_block _ _ 41 5 0 [] _ (Nat.le_refl _) (heap_last _ _) rfl (by decide)
      refine hK.out _ _ hS (fun hHeld => ?_)
      clear hK K
      try simp only [Act.put, List.getElem_toArray, List.getElem_cons_succ, List.getElem_cons_zero, List.setIfInBounds_toArray, List.set_cons_zero, List.set_cons_succ, Nat.zero_add]
      have hX1 : (W.alloc (.cells #[] 41)).drew.heap.size = W.heap.size + 1 := by simp
      obtain ⟨X1, hX⟩ : ∃ X : World, X = (W.alloc (.cells #[] 41)).drew := ⟨_, rfl⟩
      rw [← hX] at hS own hX1 ⊢
      clear hX hHeld
      refine wpAnyH_ready (rs := [2, 4]) (by kernel_rfl) (by simp) ?_
      refine AllReadyH.cons rfl (fun K hK => ?_) (AllReadyH.cons rfl (fun K hK => ?_) AllReadyH.nil)
      · refine step_app rfl (.tmp 6) (.tmp 7) 22 rfl W.heap.size 41 _ 5 40 ETm _ 0 _ rfl own _ N (rcs tmR l) rfl (HR.out.keep hS) (by first | exact rcs_one tmR _ | exact Tm.cs_one _) (by unfold maxLen; omega) (by omega) hS.size ?_
        intro a2 c2 X4 own hg hb
        have hS := hS.trans hb
        try rw [Nat.zero_add, List.nil_append] at own
        refine hK.out _ _ hS (fun hHeld => ?_)
        clear hK K
        try simp only [Act.put, List.getElem_toArray, List.getElem_cons_succ, List.getElem_cons_zero, List.setIfInBounds_toArray, List.set_cons_zero, List.set_cons_succ, Nat.zero_add]
        clear hg hb hX1
        refine wpAnyH_ready (rs := [4]) (by kernel_rfl) (by simp) ?_
        refine AllReadyH.cons rfl (fun K hK => ?_) AllReadyH.nil
        go_simp
        have hS2 := Below.al hS (Obj.cells #[.int .i64 t.tk, .int .i64 t.kd, .int .i64 t.nd, .int .u64 t.sq, .int .i64 t.of] 41)
        have own2 := own.alloc (Obj.cells #[.int .i64 t.tk, .int .i64 t.kd, .int .i64 t.nd, .int .u64 t.sq, .int .i64 t.of] 41)
        have r6 : RdS (X4.alloc (Obj.cells #[.int .i64 t.tk, .int .i64 t.kd, .int .i64 t.nd, .int .u64 t.sq, .int .i64 t.of] 41)) 5 _ 1 (Tm.cs t) := RdS.of_owns (owns_block (X4.alloc (Obj.cells #[.int .i64 t.tk, .int .i64 t.kd, .int .i64 t.nd, .int .u64 t.sq, .int .i64 t.of] 41)) W.heap.size 41 5 1 (Tm.cs t) _ hS.size (heap_last _ _) rfl (by decide)) (by decide)
        refine hK.out _ _ hS2 (fun hHeld => ?_)
        clear hK K
        try simp only [Act.put, List.getElem_toArray, List.getElem_cons_succ, List.getElem_cons_zero, List.setIfInBounds_toArray, List.set_cons_zero, List.set_cons_succ, Nat.zero_add]
        obtain ⟨X6, hX⟩ : ∃ X : World, X = X4.alloc (Obj.cells #[.int .i64 t.tk, .int .i64 t.kd, .int .i64 t.nd, .int .u64 t.sq, .int .i64 t.of] 41) := ⟨_, rfl⟩
        rw [← hX] at hS2 own2 r6 ⊢
        clear hX hHeld hS own
        have hS := hS2
        refine wpAnyH_ready (rs := [5]) (by kernel_rfl) (by simp) ?_
        refine AllReadyH.cons rfl (fun K hK => ?_) AllReadyH.nil
        refine step_app rfl (.tmp 8) (.tmp 10) 22 rfl W.heap.size 41 _ 5 40 ETm _ N (rcs tmR l) rfl own2 _ 1 (Tm.cs t) rfl r6 (by first | exact rcs_one tmR _ | exact Tm.cs_one _) (by unfold maxLen; omega) (by omega) hS.size ?_
        intro a5 c5 X7 own hg hb
        have hS := hS.trans hb
        try rw [Nat.zero_add, List.nil_append] at own
        refine hK.out _ _ hS (fun hHeld => ?_)
        clear hK K
        try simp only [Act.put, List.getElem_toArray, List.getElem_cons_succ, List.getElem_cons_zero, List.setIfInBounds_toArray, List.set_cons_zero, List.set_cons_succ, Nat.zero_add]
        clear hg hb
        refine reg_tk (v := ?_) 6 5 rfl rfl (by kernel_rfl) (by kernel_rfl) (by kernel_rfl) (fun _ _ _ h => h) (by rfl) ?_ (by assumption) ?_
        rotate_left
        · (intro w hSw; (try dsimp only at hSw); go_simp; (try with_reducible rfl))
        simp only [List.setIfInBounds_toArray, List.set_cons_zero, List.set_cons_succ]
        refine wpAnyH_done (by kernel_rfl) ?_ _
        refine NoPanic.normal ?_
        clear hHeld
        go_wp2_with fail
        go_meet
        exact ⟨_, _, rfl, own, hS⟩
      · go_simp
        have hS2 := Below.al hS (Obj.cells #[.int .i64 t.tk, .int .i64 t.kd, .int .i64 t.nd, .int .u64 t.sq, .int .i64 t.of] 41)
        have own2 := own.alloc (Obj.cells #[.int .i64 t.tk, .int .i64 t.kd, .int .i64 t.nd, .int .u64 t.sq, .int .i64 t.of] 41)
        have H6 := heap_last X1 (Obj.cells #[.int .i64 t.tk, .int .i64 t.kd, .int .i64 t.nd, .int .u64 t.sq, .int .i64 t.of] 41)
        rw [hX1] at H6
        have hX6 : (X1.alloc (Obj.cells #[.int .i64 t.tk, .int .i64 t.kd, .int .i64 t.nd, .int .u64 t.sq, .int .i64 t.of] 41)).heap.size = X1.heap.size + 1 := by simp
        refine hK.out _ _ hS2 (fun hHeld => ?_)
        clear hK K
        try simp only [Act.put, List.getElem_toArray, List.getElem_cons_succ, List.getElem_cons_zero, List.setIfInBounds_toArray, List.set_cons_zero, List.set_cons_succ, Nat.zero_add]
        obtain ⟨X6, hX⟩ : ∃ X : World, X = X1.alloc (Obj.cells #[.int .i64 t.tk, .int .i64 t.kd, .int .i64 t.nd, .int .u64 t.sq, .int .i64 t.of] 41) := ⟨_, rfl⟩
        rw [← hX] at hS2 own2 H6 hX6 ⊢
        clear hX hHeld hS own
        have hS := hS2
        refine wpAnyH_ready (rs := [2]) (by kernel_rfl) (by simp) ?_
        refine AllReadyH.cons rfl (fun K hK => ?_) AllReadyH.nil
        refine step_app rfl (.tmp 6) (.tmp 7) 22 rfl W.heap.size 41 _ 5 40 ETm _ 0 _ rfl own2 _ N (rcs tmR l) rfl (HR.out.keep hS) (by first | exact rcs_one tmR _ | exact Tm.cs_one _) (by unfold maxLen; omega) (by omega) hS.size ?_
        intro a2 c2 X4 own hg hb
        have hS := hS.trans hb
        try rw [Nat.zero_add, List.nil_append] at own
        refine hK.out _ _ hS (fun hHeld => ?_)
        clear hK K
        try simp only [Act.put, List.getElem_toArray, List.getElem_cons_succ, List.getElem_cons_zero, List.setIfInBounds_toArray, List.set_cons_zero, List.set_cons_succ, Nat.zero_add]
        have H6 := (hg.block (W.heap.size + 1) (by omega) (fun e => by
          have e2 : some (W.heap.size + 1) = some W.heap.size := e
          simp only [Option.some.injEq] at e2
          omega)).trans H6
        have B6 : W.heap.size ≤ W.heap.size + 1 := by omega
        have r6 : RdS X4 5 _ 1 (Tm.cs t) := RdS.of_owns (owns_block X4 W.heap.size 41 5 1 (Tm.cs t) _ B6 H6 rfl (by decide)) (by decide)
        clear hg hb hX1 hX6 H6 own2
        refine wpAnyH_ready (rs := [5]) (by kernel_rfl) (by simp) ?_
        refine AllReadyH.cons rfl (fun K hK => ?_) AllReadyH.nil
        refine step_app rfl (.tmp 8) (.tmp 10) 22 rfl W.heap.size 41 _ 5 40 ETm _ N (rcs tmR l) rfl own _ 1 (Tm.cs t) rfl r6 (by first | exact rcs_one tmR _ | exact Tm.cs_one _) (by unfold maxLen; omega) (by omega) hS.size ?_
        intro a5 c5 X7 own hg hb
        have hS := hS.trans hb
        try rw [Nat.zero_add, List.nil_append] at own
        refine hK.out _ _ hS (fun hHeld => ?_)
        clear hK K
        try simp only [Act.put, List.getElem_toArray, List.getElem_cons_succ, List.getElem_cons_zero, List.setIfInBounds_toArray, List.set_cons_zero, List.set_cons_succ, Nat.zero_add]
        clear hg hb
        refine reg_tk (v := ?_) 6 5 rfl rfl (by kernel_rfl) (by kernel_rfl) (by kernel_rfl) (fun _ _ _ h => h) (by rfl) ?_ (by assumption) ?_
        rotate_left
        · (intro w hSw; (try dsimp only at hSw); go_simp; (try with_reducible rfl))
        simp only [List.setIfInBounds_toArray, List.set_cons_zero, List.set_cons_succ]
        refine wpAnyH_done (by kernel_rfl) ?_ _
        refine NoPanic.normal ?_
        clear hHeld
        go_wp2_with fail
        go_meet
        exact ⟨_, _, rfl, own, hS⟩
    · go_simp
      have hS : Below W.heap.size W (W.alloc (Obj.cells #[.int .i64 t.tk, .int .i64 t.kd, .int .i64 t.nd, .int .u64 t.sq, .int .i64 t.of] 41)).drew := Below.drew (Below.al (Below.refl _ _) _)
      have H6 : (W.alloc (Obj.cells #[.int .i64 t.tk, .int .i64 t.kd, .int .i64 t.nd, .int .u64 t.sq, .int .i64 t.of] 41)).drew.heap[W.heap.size]? = some (Obj.cells #[.int .i64 t.tk, .int .i64 t.kd, .int .i64 t.nd, .int .u64 t.sq, .int .i64 t.of] 41) := heap_last W (Obj.cells #[.int .i64 t.tk, .int .i64 t.kd, .int .i64 t.nd, .int .u64 t.sq, .int .i64 t.of] 41)
      have hX6 : (W.alloc (Obj.cells #[.int .i64 t.tk, .int .i64 t.kd, .int .i64 t.nd, .int .u64 t.sq, .int .i64 t.of] 41)).drew.heap.size = W.heap.size + 1 := by simp
      refine hK.out _ _ hS (fun hHeld => ?_)
      clear hK K
      try simp only [Act.put, List.getElem_toArray, List.getElem_cons_succ, List.getElem_cons_zero, List.setIfInBounds_toArray, List.set_cons_zero, List.set_cons_succ, Nat.zero_add]
      obtain ⟨X6, hX⟩ : ∃ X : World, X = (W.alloc (Obj.cells #[.int .i64 t.tk, .int .i64 t.kd, .int .i64 t.nd, .int .u64 t.sq, .int .i64 t.of] 41)).drew := ⟨_, rfl⟩
      rw [← hX] at hS H6 hX6 ⊢
      clear hX hHeld
      refine wpAnyH_ready (rs := [0]) (by kernel_rfl) (by simp) ?_
      refine AllReadyH.cons rfl (fun K hK => ?_) AllReadyH.nil
      go_simp
      have hS2 := Below.al hS (.cells #[] 41)
      have own : (X6.alloc (.cells #[] 41)).ownsRow W.heap.size 41 5 (.slice (some ⟨X6.heap.size, 0, none⟩) 0 0) 0 [] := owns_block _ _ 41 5 0 [] _ hS.size (heap_last _ _) rfl (by decide)
      rw [hX6] at own
      have H6 : (X6.alloc (.cells #[] 41)).heap[W.heap.size]? = some (Obj.cells #[.int .i64 t.tk, .int .i64 t.kd, .int .i64 t.nd, .int .u64 t.sq, .int .i64 t.of] 41) := by
        rw [← H6]
        show (X6.heap.push _)[_]? = _
        rw [Array.getElem?_push, if_neg (by omega)]
      have hX1 : (X6.alloc (.cells #[] 41)).heap.size = X6.heap.size + 1 := by simp
      refine hK.out _ _ hS2 (fun hHeld => ?_)
      clear hK K
      try simp only [Act.put, List.getElem_toArray, List.getElem_cons_succ, List.getElem_cons_zero, List.setIfInBounds_toArray, List.set_cons_zero, List.set_cons_succ, Nat.zero_add]
      obtain ⟨X1, hX⟩ : ∃ X : World, X = X6.alloc (.cells #[] 41) := ⟨_, rfl⟩
      rw [← hX] at hS2 own H6 hX1 ⊢
      clear hX hHeld hS
      have hS := hS2
      refine wpAnyH_ready (rs := [2]) (by kernel_rfl) (by simp) ?_
      refine AllReadyH.cons rfl (fun K hK => ?_) AllReadyH.nil
      refine step_app rfl (.tmp 6) (.tmp 7) 22 rfl W.heap.size 41 _ 5 40 ETm _ 0 _ rfl own _ N (rcs tmR l) rfl (HR.out.keep hS) (by first | exact rcs_one tmR _ | exact Tm.cs_one _) (by unfold maxLen; omega) (by omega) hS.size ?_
      intro a2 c2 X4 own hg hb
      have hS := hS.trans hb
      try rw [Nat.zero_add, List.nil_append] at own
      refine hK.out _ _ hS (fun hHeld => ?_)
      clear hK K
      try simp only [Act.put, List.getElem_toArray, List.getElem_cons_succ, List.getElem_cons_zero, List.setIfInBounds_toArray, List.set_cons_zero, List.set_cons_succ, Nat.zero_add]
      have H6 := (hg.block W.heap.size (by omega) (fun e => by
        have e2 : some W.heap.size = some (W.heap.size + 1) := e
        simp only [Option.some.injEq] at e2
        omega)).trans H6
      have B6 : W.heap.size ≤ W.heap.size := Nat.le_refl _
      have r6 : RdS X4 5 _ 1 (Tm.cs t) := RdS.of_owns (owns_block X4 W.heap.size 41 5 1 (Tm.cs t) _ B6 H6 rfl (by decide)) (by decide)
      clear hg hb hX1 hX6 H6
      refine wpAnyH_ready (rs := [5]) (by kernel_rfl) (by simp) ?_
      refine AllReadyH.cons rfl (fun K hK => ?_) AllReadyH.nil
      refine step_app rfl (.tmp 8) (.tmp 10) 22 rfl W.heap.size 41 _ 5 40 ETm _ N (rcs tmR l) rfl own _ 1 (Tm.cs t) rfl r6 (by first | exact rcs_one tmR _ | exact Tm.cs_one _) (by unfold maxLen; omega) (by omega) hS.size ?_
      intro a5 c5 X7 own hg hb
      have hS := hS.trans hb
      try rw [Nat.zero_add, List.nil_append] at own
      refine hK.out _ _ hS (fun hHeld => ?_)
      clear hK K
      try simp only [Act.put, List.getElem_toArray, List.getElem_cons_succ, List.getElem_cons_zero, List.setIfInBounds_toArray, List.set_cons_zero, List.set_cons_succ, Nat.zero_add]
      clear hg hb
      refine reg_tk (v := ?_) 6 5 rfl rfl (by kernel_rfl) (by kernel_rfl) (by kernel_rfl) (fun _ _ _ h => h) (by rfl) ?_ (by assumption) ?_
      rotate_left
      · (intro w hSw; (try dsimp only at hSw); go_simp; (try with_reducible rfl))
      simp only [List.setIfInBounds_toArray, List.set_cons_zero, List.set_cons_succ]
      refine wpAnyH_done (by kernel_rfl) ?_ _
      refine NoPanic.normal ?_
      clear hHeld
      go_wp2_with fail
      go_meet
      exact ⟨_, _, rfl, own, hS⟩
  case rest =>
    obtain ⟨a, c, rfl, ho, hS⟩ := hcut
    rename World => wx
    obtain ⟨q, rfl, hq1, hq2⟩ := OwM.addr (l := l ++ [t]) (by rw [show rcs tmR (l ++ [t]) = rcs tmR l ++ Tm.cs t by rw [rcs_append]; simp [rcs, tmR]]; exact ho) (by omega)
    have HO := Lib.hid (show wx.ownsRow W.heap.size 41 5 (.slice (some ⟨q, 0, none⟩) (N + 1) c) (N + 1) (rcs tmR (l ++ [t])) by rw [show rcs tmR (l ++ [t]) = rcs tmR l ++ Tm.cs t by rw [rcs_append]; simp [rcs, tmR]]; exact ho)
    obtain ⟨r, m, hr⟩ : ∃ r m, up (l ++ [t]) N = (r, m) := ⟨_, _, rfl⟩
    have HPUT : Hid (putL l t = r) := by unfold Hid putL; rw [HN.out, hr]
    have HPL : Hid ((putL l t).length = N + 1) := by unfold Hid; rw [put_len, HN.out]
    have HRR := Lib.hid hr
    have hw : IntKind.i64.wrap ((N : Int) + 1 - 1) = (N : Int) := by rw [show (N : Int) + 1 - 1 = (N : Int) by omega]; exact IntWalk.i64_in _ (by omega)
    have hB2 := Below.next hB hS
    have hz := hB.size
    have hbt : ∀ k, (fun k => k = q) k → w.heap.size ≤ k := fun k hk => by have hk : k = q := hk; omega
    clear hB hS ho hr c0 c1 c2 c3 c4 bT
    go_wp2_with fail
    refine (rup_any W.heap.size (N + 1) c q (l ++ [t]) N r m HRR.out (by rw [List.length_append, HN.out]; rfl) (by omega) (by omega) _ HO.out).mono ?_
    rintro e w3 ⟨rfl, ho3, hk3⟩
    have hB3 : Below w.heap.size w w3 := hB2.trans (hk3.below hB2.size hbt)
    have HO3 := Lib.hid (owns_mono ho3 hz)
    clear ho3 hk3
    go_wp2_with fail
    go_ret
    exact ⟨some ⟨q, 0, none⟩, c, by rw [HPL.out]; rfl, by rw [HPL.out, HPUT.out]; exact HO3.out, hB3⟩
end Go.Proofs.Ytigmhglkohjlhaa
