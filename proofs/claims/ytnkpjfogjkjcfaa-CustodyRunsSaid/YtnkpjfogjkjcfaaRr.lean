


/- Custody: Data arrives: the program. -/
import Derived.Test.YtnkpjfogjkjcfaaQ
namespace Go.Proofs.Ytnkpjfogjkjcfaa
open Go.RowKit
set_option linter.unusedSimpArgs false
set_option linter.unusedVariables false
set_option maxRecDepth 100000

/-- a call has changed a world of one's own: what lay elsewhere lies there still -/
def Chg (w : World) (B p g cap : Nat) (fv : Value) (q : List Cq) (X : Wd) (w' : World) : Prop :=
  ∃ q', OP w' B p g cap fv q' X ∧ Kx (Mn g fv q) w w' ∧ ∀ k, Mn g fv q' k → Mn g fv q k ∨ w.heap.size ≤ k
theorem OP.ne {w : World} {B p g cap : Nat} {fv : Value} {q : List Cq} {X : Wd} (h : OP w B p g cap fv q X) : ¬ Mn g fv q p := by
  rintro (e | e | ⟨i, e | e⟩)
  · exact row_ne h.or.rows h.box (by decide) g rfl e
  · exact row_ne h.or.frs h.box (by decide) p e rfl
  · exact row_ne (h.or.cop i).tk h.box (by decide) p e rfl
  · exact row_ne (h.or.cop i).kp h.box (by decide) p e rfl
theorem OP.below {w w' : World} {B p g cap : Nat} {fv : Value} {q : List Cq} {X : Wd} (h : OP w B p g cap fv q X) (hb : Below w.heap.size w w') : OP w' B p g cap fv q X := ⟨h.box.below hb, h.or.below hb, h.ge⟩
/-- the state of a walk at such a world, with two boxes of the walk's own -/
structure DT (w0 w : World) (B p g cap : Nat) (fv : Value) (q0 q : List Cq) (X : Wd) (f : Ps) (t : Tg) : Prop where
  op : OP w B p g cap fv q X
  kx : Kx (Mn g fv q0) w0 w
  mn : ∀ k, Mn g fv q k → Mn g fv q0 k ∨ w0.heap.size + 2 ≤ k
  old : ∀ k, Mn g fv q0 k → k < w0.heap.size
  bf : BoxN w w0.heap.size 47 #[.int .i64 f.kd, .int .i64 f.fr, .int .i64 f.tt, .int .i64 f.of]
  bt : BoxN w (w0.heap.size + 1) 80 #[.int .i64 t.nd, .int .i64 t.of]
theorem DT.below {w0 w w' : World} {B p g cap : Nat} {fv : Value} {q0 q : List Cq} {X : Wd} {f : Ps} {t : Tg} (h : DT w0 w B p g cap fv q0 q X f t) (hb : Below w.heap.size w w') : DT w0 w' B p g cap fv q0 q X f t :=
  ⟨h.op.below hb, h.kx.next hb, h.mn, h.old, h.bf.below hb, h.bt.below hb⟩
theorem DT.chg {w0 w : World} {B p g cap : Nat} {fv : Value} {q0 q : List Cq} {X : Wd} {f : Ps} {t : Tg} (h : DT w0 w B p g cap fv q0 q X f t) : Chg w0 B p g cap fv q0 X w :=
  ⟨q, h.op, h.kx, fun k hk => (h.mn k hk).imp id (fun e => by omega)⟩
/-- on, by a step that changes only what is the world's -/
theorem DT.next {w0 w w' : World} {B p g cap : Nat} {fv : Value} {q0 q q' : List Cq} {X X' : Wd} {f : Ps} {t : Tg} (h : DT w0 w B p g cap fv q0 q X f t) (hds : X'.ds = X.ds) (hlen : X'.cs.length = X.cs.length) (ho : OR w' B g cap fv q' X') (hk : Kx (Mn g fv q) w w') (hm : ∀ k, Mn g fv q' k → Mn g fv q k ∨ w.heap.size ≤ k) : DT w0 w' B p g cap fv q0 q' X' f t := by
  have hz := h.bt.lt
  refine ⟨⟨?_, ho, h.op.ge⟩, h.kx.trans hk (fun k hk e => (h.mn k e).resolve_right (by omega)), fun k e => ?_, h.old, hk.box ?_ h.bf, hk.box ?_ h.bt⟩
  · rw [hds, hlen]
    exact hk.box h.op.ne h.op.box
  · rcases hm k e with e | e
    · exact h.mn k e
    · exact .inr (by omega)
  · intro e
    rcases h.mn _ e with e | e
    · have := h.old _ e; omega
    · omega
  · intro e
    rcases h.mn _ e with e | e
    · have := h.old _ e; omega
    · omega
theorem mn_set {g : Nat} {fv : Value} {q : List Cq} {i : Nat} {y : Cq} (hi : i < q.length) {k : Nat} (h : Mn g fv (q.set i y) k) : Mn g fv q k ∨ y.tv.ownBlock = some k ∨ y.kv.ownBlock = some k := by
  rcases h with e | e | ⟨j, e⟩
  · exact .inl (.inl e)
  · exact .inl (.inr (.inl e))
  · rw [gq_set hi] at e
    split at e
    · exact .inr e
    · exact .inl (.inr (.inr ⟨j, e⟩))
theorem DT.tag {w0 w w1 : World} {B p g cap : Nat} {fv : Value} {q0 q : List Cq} {X : Wd} {f : Ps} {t : Tg} (h : DT w0 w B p g cap fv q0 q X f t) {i : Nat} (hi : i < X.cs.length) {a : Option Addr} {c : Nat} {l : List Tg} (hk : Kx (fun k => (gq q i).tv.ownBlock = some k) w w1) (hown : OwG w1 B (.slice a l.length c) l) (hwh : ∀ k, (Value.slice a l.length c).ownBlock = some k → (gq q i).tv.ownBlock = some k ∨ w.heap.size ≤ k) :
    DT w0 (w1.setCell ⟨g, i * 6 + 4, none⟩ (.slice a l.length c)) B p g cap fv q0 (q.set i { gq q i with ta := a, tn := l.length, tc := c }) (setI X i { gc X.cs i with tk := l }) f t := by
  obtain ⟨h1, h2⟩ := h.op.or.tag hi hk hown hwh
  have hq : i < q.length := by rw [h.op.or.len]; exact hi
  refine h.next rfl (setI_len _ _ _) h1 (h2.mono (fun k e => ?_)) (fun k e => ?_)
  · rcases e with e | e
    · exact .inl e
    · exact .inr (.inr ⟨i, .inl e⟩)
  · rcases mn_set hq e with e | e | e
    · exact .inl e
    · rcases hwh k e with e | e
      · exact .inl (.inr (.inr ⟨i, .inl e⟩))
      · exact .inr e
    · exact .inl (.inr (.inr ⟨i, .inr e⟩))
theorem DT.kept {w0 w w1 : World} {B p g cap : Nat} {fv : Value} {q0 q : List Cq} {X : Wd} {f : Ps} {t : Tg} (h : DT w0 w B p g cap fv q0 q X f t) {i : Nat} (hi : i < X.cs.length) {a : Option Addr} {c : Nat} {l : List Tg} (hk : Kx (fun k => (gq q i).kv.ownBlock = some k) w w1) (hown : OwG w1 B (.slice a l.length c) l) (hwh : ∀ k, (Value.slice a l.length c).ownBlock = some k → (gq q i).kv.ownBlock = some k ∨ w.heap.size ≤ k) :
    DT w0 (w1.setCell ⟨g, i * 6 + 5, none⟩ (.slice a l.length c)) B p g cap fv q0 (q.set i { gq q i with ka := a, kn := l.length, kc := c }) (setI X i { gc X.cs i with kp := l }) f t := by
  obtain ⟨h1, h2⟩ := h.op.or.kept hi hk hown hwh
  have hq : i < q.length := by rw [h.op.or.len]; exact hi
  refine h.next rfl (setI_len _ _ _) h1 (h2.mono (fun k e => ?_)) (fun k e => ?_)
  · rcases e with e | e
    · exact .inl e
    · exact .inr (.inr ⟨i, .inr e⟩)
  · rcases mn_set hq e with e | e | e
    · exact .inl e
    · exact .inl (.inr (.inr ⟨i, .inl e⟩))
    · rcases hwh k e with e | e
      · exact .inl (.inr (.inr ⟨i, .inr e⟩))
      · exact .inr e
theorem OR.st {w : World} {B g cap : Nat} {fv : Value} {q : List Cq} {X : Wd} (h : OR w B g cap fv q X) {i : Nat} (hi : i < X.cs.length) (s : Int) : OR (w.setCell ⟨g, i * 6, none⟩ (.int .i64 s)) B g cap fv (q.set i { gq q i with st := s }) (setI X i { gc X.cs i with st := s }) :=
  h.num hi 0 (.int .i64 s) (by decide) rfl ((h.cop i).num rfl (h.cop i).tt (h.cop i).of (h.cop i).nx rfl rfl rfl rfl) rfl rfl
theorem DT.st {w0 w : World} {B p g cap : Nat} {fv : Value} {q0 q : List Cq} {X : Wd} {f : Ps} {t : Tg} (h : DT w0 w B p g cap fv q0 q X f t) {i : Nat} (hi : i < X.cs.length) (s : Int) :
    DT w0 (w.setCell ⟨g, i * 6, none⟩ (.int .i64 s)) B p g cap fv q0 (q.set i { gq q i with st := s }) (setI X i { gc X.cs i with st := s }) f t := by
  have hq : i < q.length := by rw [h.op.or.len]; exact hi
  refine h.next rfl (setI_len _ _ _) (h.op.or.st hi s) ((kx_cell w g _ _).mono (fun k e => .inl e)) (fun k e => .inl ?_)
  rcases mn_set hq e with e | e | e
  · exact e
  · exact .inr (.inr ⟨i, .inl e⟩)
  · exact .inr (.inr ⟨i, .inr e⟩)
/-- the closure of data -/
theorem eqt_any (w : World) (b : Nat) (t y : Tg) (h0 : w.cell? ⟨b, 0, none⟩ = some (.int .i64 t.nd)) (h1 : w.cell? ⟨b, 1, none⟩ = some (.int .i64 t.of)) :
    Calls Try.prog 79 #[y.v, ptr b] w fun e w' => e = .returned (.bool (decide (y = t))) ∧ Below w.heap.size w w' := by
  have h0' := cell_al (.cells #[.int .i64 y.nd, .int .i64 y.of] 80) h0
  have h1' := cell_al (.cells #[.int .i64 y.nd, .int .i64 y.of] 80) h1
  obtain ⟨r, hr⟩ : ∃ r, decide (y = t) = r := ⟨_, rfl⟩
  rw [hr]
  rcases tg_cases y t with ⟨he, d3, d4⟩ | ⟨hne, d3⟩ | ⟨hne, d3, d4⟩
  · obtain rfl : r = true := by rw [← hr]; exact yb he
    clear he hr
    go_enter Try.func79, Try.ntmps79
    go_wp2_with fail
    go_ret
    exact ⟨rfl, (by repeat (first | assumption | exact Below.refl _ _ | apply Below.al | apply below_drewN | apply Below.drew | refine Below.next ?_ (by assumption)))⟩
  · obtain rfl : r = false := by rw [← hr]; exact nb hne
    clear hne hr
    obtain ⟨c4, d4⟩ : ∃ c, (y.of == t.of) = c := ⟨_, rfl⟩
    cases c4
    all_goals
      go_enter Try.func79, Try.ntmps79
      go_wp2_with fail
      go_ret
      exact ⟨rfl, (by repeat (first | assumption | exact Below.refl _ _ | apply Below.al | apply below_drewN | apply Below.drew | refine Below.next ?_ (by assumption)))⟩
  · obtain rfl : r = false := by rw [← hr]; exact nb hne
    clear hne hr
    go_enter Try.func79, Try.ntmps79
    go_wp2_with fail
    go_ret
    exact ⟨rfl, (by repeat (first | assumption | exact Below.refl _ _ | apply Below.al | apply below_drewN | apply Below.drew | refine Below.next ?_ (by assumption)))⟩
set_option maxHeartbeats 1000000 in
theorem data_any (w : World) (B p g cap : Nat) (fv : Value) (q : List Cq) (X : Wd) (f : Ps) (rash : Bool) (i : Nat) (hi : i < X.cs.length) (hfi : f.tt = (i : Int) + 1) (hs : Sml X) (hB : B ≤ w.heap.size) (hc : copOK X f.tt (gc X.cs i)) (h : OP w B p g cap fv q X) :
    Calls Try.prog 72 #[ptr p, f.v, .bool rash] w fun e w' => e = .returned (.int .i64 (ansK (gc X.cs i) ⟨f.fr, f.of⟩ rash)) ∧ Chg w B p g cap fv q (setI X i (ansC (decide (f.tt = X.ds)) (gc X.cs i) ⟨f.fr, f.of⟩ rash)) w' := by
  obtain ⟨t, ht⟩ : ∃ t : Tg, t = ⟨f.fr, f.of⟩ := ⟨_, rfl⟩
  have htn : f.fr = t.nd := by rw [ht]
  have hto : f.of = t.of := by rw [ht]
  rw [← ht]
  obtain ⟨W, hW⟩ : ∃ W : World, W = (w.alloc (.cells #[.int .i64 f.kd, .int .i64 f.fr, .int .i64 f.tt, .int .i64 f.of] 47)).alloc (.cells #[.int .i64 f.fr, .int .i64 f.of] 80) := ⟨_, rfl⟩
  have hB0 : Below w.heap.size w W := by rw [hW]; exact (by repeat (first | assumption | exact Below.refl _ _ | apply Below.al | apply below_drewN | apply Below.drew | refine Below.next ?_ (by assumption)))
  have hD : DT w W B p g cap fv q q X f t := by
    refine ⟨h.below hB0, Kx.of_below hB0, fun k e => .inl e, fun k e => (h.or.gt_lt e).2, by rw [hW]; exact (BoxN.new w _ _).below (by repeat (first | assumption | exact Below.refl _ _ | apply Below.al | apply below_drewN | apply Below.drew | refine Below.next ?_ (by assumption))), ?_⟩
    rw [hW, htn, hto]
    have := BoxN.new (w.alloc (.cells #[.int .i64 f.kd, .int .i64 t.nd, .int .i64 f.tt, .int .i64 t.of] 47)) 80 #[.int .i64 t.nd, .int .i64 t.of]
    simpa using this
  have hat := at_any (w.alloc (.cells #[.int .i64 f.kd, .int .i64 f.fr, .int .i64 f.tt, .int .i64 f.of] 47)) p 66 g 0 cap fv q X i hi (h.below (by repeat (first | assumption | exact Below.refl _ _ | apply Below.al | apply below_drewN | apply Below.drew | refine Below.next ?_ (by assumption)))).bw
  rw [Nat.zero_add, ← hfi] at hat
  have HAT := Lib.hid hat
  have HD := Lib.hid hD
  obtain ⟨y, HY⟩ : ∃ y, Hid (gq q i = y) := ⟨_, rfl⟩
  obtain ⟨c, HC⟩ : ∃ c, Hid (gc X.cs i = c) := ⟨_, rfl⟩
  have HHC : Hid (copOK X f.tt c) := Lib.hid (by rw [← HC.out]; exact hc)
  have HS := Lib.hid hs
  rw [HC.out]
  clear hat hD hc hs
  have hco := HD.out.op.or.cop i
  rw [HY.out, HC.out] at hco
  have HCO := Lib.hid hco
  have hst := hco.st
  have hrow := HD.out.op.or.at i hi
  rw [HY.out] at hrow
  obtain ⟨a0, a1, a2, a3, a4, a5⟩ := hrow
  have t0 : W.cell? ⟨w.heap.size + 1, 0, none⟩ = some (.int .i64 t.nd) := HD.out.bt.cell 0
  have t1 : W.cell? ⟨w.heap.size + 1, 1, none⟩ = some (.int .i64 t.of) := HD.out.bt.cell 1
  have hlen := HS.out.tg i
  rw [HC.out] at hlen
  have HH := Lib.hid (eqt_has y.tv c.tk (fun x => decide (x = t)) (w.heap.size + 1) W hco.rd.tk (fun x wr hb => eqt_any wr (w.heap.size + 1) t x (cell_later hb t0) (cell_later hb t1)) (decide (t ∈ c.tk)) (by
    by_cases hm : t ∈ c.tk
    · rw [yb hm, List.any_eq_true]; exact ⟨t, hm, by simp⟩
    · rw [nb hm, List.any_eq_false]
      intro x hx he
      have : x = t := by simpa using he
      exact hm (this ▸ hx)))
  have HFI := Lib.hid hfi
  have HST := Lib.hid hst
  clear hst hco ht htn hto hfi
  by_cases hm : t ∈ c.tk
  · rw [yb hm] at HH
    obtain ⟨r, hr⟩ : ∃ r, ansK c t rash = r := ⟨_, rfl⟩
    have hr2 : (if t ∈ c.kp ∨ c.st = 1 ∨ c.st = 4 then (5 : Int) else 6) = r := by rw [← hr]; unfold ansK; rw [if_pos hm]
    have hx : setI X i (ansC (decide (f.tt = X.ds)) c t rash) = X := by
      unfold ansC
      rw [if_pos hm, ← HC.out]
      have := (h.or.self hi).len
      unfold setI
      have e : X.cs.set i (gc X.cs i) = X.cs := by
        apply List.ext_getElem?
        intro j
        rw [List.getElem?_set]
        split
        · rename_i e; subst e
          (try rw [if_pos hi])
          unfold gc
          rw [List.getD_eq_getElem?_getD, List.getElem?_eq_getElem hi]
          rfl
        · rfl
      rw [e]
    rw [hr, hx]
    have HR := Lib.hid hr2
    clear hr hr2 hx hm
    go_enter Try.func72, Try.ntmps72
    go_upto_region 3 with (go_at_call 43; refine HAT.out.mono ?_; rintro e w9 ⟨rfl, h9⟩; obtain rfl := h9.symm; clear h9)
    rw [← hW]
    clear hW
    go_wp2_with fail
    refine HH.out.mono ?_
    rintro e w1 ⟨rfl, hb1⟩
    have HD1 := Lib.hid (HD.out.below hb1)
    have b0 := cell_later hb1 a0
    have b5 := cell_later hb1 a5
    have s0 := cell_later hb1 t0
    have s1 := cell_later hb1 t1
    have HRD : Hid (RdG w1 y.kv c.kp) := Lib.hid (HCO.out.rd.kp.keep hb1)
    clear hb1 a0 a1 a2 a3 a4 a5 t0 t1
    go_upto_region 4 with fail
    obtain ⟨x5, hx5⟩ : ∃ b, decide (t ∈ c.kp) = b := ⟨_, rfl⟩
    obtain ⟨x11, hx11⟩ : ∃ b, (y.st == 1) = b := ⟨_, rfl⟩
    obtain ⟨x18, hx18⟩ : ∃ b, (y.st == 4) = b := ⟨_, rfl⟩
    refine wp_region_sym (fun w' => Below w1.heap.size w1 w') (by kernel_rfl) (by kernel_rfl) ((Below.refl _ w1).drew) ?_
    refine q_move 24 7 rfl (by first | exact Or.inl rfl | exact Or.inr rfl) rfl rfl ?_
    dsimp only [putT, List.toList_toArray, List.set_cons_zero, List.set_cons_succ]
    refine q_run1 25 24 (v := ?_) rfl rfl rfl ?_ ?_
    rotate_left
    · (intro A hA wS hS; skip; go_simp; (try with_reducible rfl))
    dsimp only [putT, List.toList_toArray, List.set_cons_zero, List.set_cons_succ]
    refine q_run1 26 25 (v := ?_) rfl rfl rfl ?_ ?_
    rotate_left
    · (intro A hA wS hS; skip; go_simp; (try with_reducible rfl))
    dsimp only [putT, List.toList_toArray, List.set_cons_zero, List.set_cons_succ]
    refine q_run1 27 26 (v := ?_) rfl rfl rfl ?_ ?_
    rotate_left
    · (intro A hA wS hS; (have z0 := cell_later hS b0; have z5 := cell_later hS b5; have z6 := cell_later hS s0; have z7 := cell_later hS s1); go_simp; (try with_reducible rfl))
    dsimp only [putT, List.toList_toArray, List.set_cons_zero, List.set_cons_succ]
    refine q_run1 28 8 (v := ?_) rfl rfl rfl ?_ ?_
    rotate_left
    · (intro A hA wS hS; (have z0 := cell_later hS b0; have z5 := cell_later hS b5; have z6 := cell_later hS s0; have z7 := cell_later hS s1); go_simp; (try with_reducible rfl))
    dsimp only [putT, List.toList_toArray, List.set_cons_zero, List.set_cons_succ]
    refine q_call 29 68 (v := .bool x5) (args := ?_) rfl rfl ?_ ?_ ?_
    rotate_left 1
    · (intro wS hS; go_simp; (try with_reducible rfl))
    · (intro wS hS; refine (contains_any y.kv c.kp t _ (HRD.out.keep hS)).mono ?_; (rw [hx5]; rintro e w2 ⟨rfl, hb2⟩; exact ⟨rfl, Below.next hS hb2⟩))
    dsimp only [putT, List.toList_toArray, List.set_cons_zero, List.set_cons_succ]
    refine q_move 30 29 rfl (by first | exact Or.inl rfl | exact Or.inr rfl) rfl rfl ?_
    dsimp only [putT, List.toList_toArray, List.set_cons_zero, List.set_cons_succ]
    refine q_moveg 31 7 (g := (!x5)) rfl rfl (by exact (want_at rfl rfl rfl).trans (wb_f x5)) (by first | exact Or.inr rfl | exact Or.inl rfl) ?_
    dsimp only [putT, List.toList_toArray, List.set_cons_zero, List.set_cons_succ]
    refine q_if1 32 31 (g := (!x5)) (v := ?_) rfl rfl (by exact (want_at rfl rfl rfl).trans (wb_f x5)) ?_ ?_
    rotate_left
    · (intro hg A hA wS hS; (try rw [hg, sel_true] at hA); (try simp only [Bool.and_eq_true, Bool.not_eq_true', Bool.or_eq_false_iff] at hg); skip; go_simp; (try with_reducible rfl))
    dsimp only [putT, List.toList_toArray, List.set_cons_zero, List.set_cons_succ]
    refine q_if1 33 32 (g := (!x5)) (v := ?_) rfl rfl (by exact (want_at rfl rfl rfl).trans (wb_f x5)) ?_ ?_
    rotate_left
    · (intro hg A hA wS hS; (try rw [hg, sel_true] at hA); (try simp only [Bool.and_eq_true, Bool.not_eq_true', Bool.or_eq_false_iff] at hg); skip; go_simp; (try with_reducible rfl))
    dsimp only [putT, List.toList_toArray, List.set_cons_zero, List.set_cons_succ]
    refine q_if1 34 33 (g := (!x5)) (v := ?_) rfl rfl (by exact (want_at rfl rfl rfl).trans (wb_f x5)) ?_ ?_
    rotate_left
    · (intro hg A hA wS hS; (try rw [hg, sel_true] at hA); (try simp only [Bool.and_eq_true, Bool.not_eq_true', Bool.or_eq_false_iff] at hg); (have z0 := cell_later hS b0; have z5 := cell_later hS b5; have z6 := cell_later hS s0; have z7 := cell_later hS s1); go_simp; (try with_reducible rfl))
    dsimp only [putT, List.toList_toArray, List.set_cons_zero, List.set_cons_succ]
    refine q_if1 35 34 (g := (!x5)) (v := ?_) rfl rfl (by exact (want_at rfl rfl rfl).trans (wb_f x5)) ?_ ?_
    rotate_left
    · (intro hg A hA wS hS; (try rw [hg, sel_true] at hA); (try simp only [Bool.and_eq_true, Bool.not_eq_true', Bool.or_eq_false_iff] at hg); skip; go_simp; (try with_reducible rfl))
    dsimp only [putT, List.toList_toArray, List.set_cons_zero, List.set_cons_succ]
    refine q_pick 36 30 35 (v := .bool (x5 || x11)) rfl rfl rfl rfl rfl (pk_or x5 x11) ?_
    dsimp only [putT, List.toList_toArray, List.set_cons_zero, List.set_cons_succ]
    refine q_move 37 36 rfl (by first | exact Or.inl rfl | exact Or.inr rfl) rfl rfl ?_
    dsimp only [putT, List.toList_toArray, List.set_cons_zero, List.set_cons_succ]
    refine q_moveg 38 7 (g := (!(x5 || x11))) rfl rfl (by exact (want_at rfl rfl rfl).trans (wb_f (x5 || x11))) (by first | exact Or.inr rfl | exact Or.inl rfl) ?_
    dsimp only [putT, List.toList_toArray, List.set_cons_zero, List.set_cons_succ]
    refine q_if1 39 38 (g := (!(x5 || x11))) (v := ?_) rfl rfl (by exact (want_at rfl rfl rfl).trans (wb_f (x5 || x11))) ?_ ?_
    rotate_left
    · (intro hg A hA wS hS; (try rw [hg, sel_true] at hA); (try simp only [Bool.and_eq_true, Bool.not_eq_true', Bool.or_eq_false_iff] at hg); skip; go_simp; (try with_reducible rfl))
    dsimp only [putT, List.toList_toArray, List.set_cons_zero, List.set_cons_succ]
    refine q_if1 40 39 (g := (!(x5 || x11))) (v := ?_) rfl rfl (by exact (want_at rfl rfl rfl).trans (wb_f (x5 || x11))) ?_ ?_
    rotate_left
    · (intro hg A hA wS hS; (try rw [hg, sel_true] at hA); (try simp only [Bool.and_eq_true, Bool.not_eq_true', Bool.or_eq_false_iff] at hg); skip; go_simp; (try with_reducible rfl))
    dsimp only [putT, List.toList_toArray, List.set_cons_zero, List.set_cons_succ]
    refine q_if1 41 40 (g := (!(x5 || x11))) (v := ?_) rfl rfl (by exact (want_at rfl rfl rfl).trans (wb_f (x5 || x11))) ?_ ?_
    rotate_left
    · (intro hg A hA wS hS; (try rw [hg, sel_true] at hA); (try simp only [Bool.and_eq_true, Bool.not_eq_true', Bool.or_eq_false_iff] at hg); (have z0 := cell_later hS b0; have z5 := cell_later hS b5; have z6 := cell_later hS s0; have z7 := cell_later hS s1); go_simp; (try with_reducible rfl))
    dsimp only [putT, List.toList_toArray, List.set_cons_zero, List.set_cons_succ]
    refine q_if1 42 41 (g := (!(x5 || x11))) (v := ?_) rfl rfl (by exact (want_at rfl rfl rfl).trans (wb_f (x5 || x11))) ?_ ?_
    rotate_left
    · (intro hg A hA wS hS; (try rw [hg, sel_true] at hA); (try simp only [Bool.and_eq_true, Bool.not_eq_true', Bool.or_eq_false_iff] at hg); skip; go_simp; (try with_reducible rfl))
    dsimp only [putT, List.toList_toArray, List.set_cons_zero, List.set_cons_succ]
    refine q_pick 43 37 42 (v := .bool ((x5 || x11) || x18)) rfl rfl rfl rfl rfl (pk_or (x5 || x11) x18) ?_
    dsimp only [putT, List.toList_toArray, List.set_cons_zero, List.set_cons_succ]
    refine wpQuiet_nil ?_
    intro wS hS
    have HD2 := Lib.hid (HD1.out.below hS)
    cases hv : ((x5 || x11) || x18)
    · obtain rfl : r = 6 := by
        rw [← HR.out]
        refine if_neg ?_
        rw [← hx5, ← hx11, ← hx18, HST.out] at hv
        simp at hv
        rintro (e | e | e)
        · exact hv.1.1 e
        · exact hv.1.2 e
        · exact hv.2 e
      clear hx5 hx11 hx18 hS
      go_wp2_with fail
      go_ret
      exact ⟨rfl, HD2.out.chg⟩
    · obtain rfl : r = 5 := by
        rw [← HR.out]
        refine if_pos ?_
        rw [← hx5, ← hx11, ← hx18, HST.out] at hv
        simp at hv
        rcases hv with (e | e) | e
        · exact .inl e
        · exact .inr (.inl e)
        · exact .inr (.inr e)
      clear hx5 hx11 hx18 hS
      go_wp2_with fail
      go_ret
      exact ⟨rfl, HD2.out.chg⟩
  · rw [nb hm] at HH
    have hr : ansK c t rash = if c.st = 2 ∧ rash = false then 6 else 5 := by unfold ansK; rw [if_neg hm]
    obtain ⟨ek, HEK⟩ : ∃ ek, Hid (ansK c t rash = ek) := ⟨_, Lib.hid rfl⟩
    obtain ⟨XE, HXE⟩ : ∃ XE, Hid (setI X i (ansC (decide (f.tt = X.ds)) c t rash) = XE) := ⟨_, Lib.hid rfl⟩
    have HKR : Hid (ek = if c.st = 2 ∧ rash = false then 6 else 5) := Lib.hid (HEK.out.symm.trans hr)
    rw [HEK.out, HXE.out]
    have HPUT := Lib.hid (fun (wz : World) (hz : Below W.heap.size W wz) => put_any wz B y.tv c.tk t (by omega) (by have := hB0.size; have := hz.size; omega) HHC.out.2.2.1 (by
      have h1 := ((HD.out.below hz).op.or.cop i).tk
      rwa [HY.out, HC.out] at h1))
    have HANS : Hid (ansC (decide (f.tt = X.ds)) c t rash = if c.st = 2 ∧ rash = false then { c with tk := insG c.tk t } else { c with tk := insG c.tk t, kp := insG c.kp t, st := if decide (f.tt = X.ds) = true then 4 else if c.st = 0 ∨ c.st = 3 then 1 else c.st }) := Lib.hid (by unfold ansC; rw [if_neg hm])
    clear hr hm
    go_enter Try.func72, Try.ntmps72
    go_upto_region 3 with (go_at_call 43; refine HAT.out.mono ?_; rintro e w9 ⟨rfl, h9⟩; obtain rfl := h9.symm; clear h9)
    rw [← hW]
    clear hW
    go_wp2_with fail
    refine HH.out.mono ?_
    rintro e w1 ⟨rfl, hb1⟩
    have HD1 := Lib.hid (HD.out.below hb1)
    have b4 := cell_later hb1 a4
    have s0 := cell_later hb1 t0
    have s1 := cell_later hb1 t1
    have HP1 := Lib.hid (fun (wz : World) (hz : Below w1.heap.size w1 wz) => HPUT.out wz (Below.next hb1 hz))
    clear hb1 a0 a1 a2 a3 a4 a5 t0 t1
    go_upto_region 7 with fail
    refine wp_region_noPanic ?_
    refine wp_region_late (fun _ => True) (fun w' => Below w1.heap.size w1 w') [6, 9] (by kernel_rfl) trivial ((Below.refl _ w1).drew) (fun hHeld0 hHeld => ?_)
    refine reg0_tk (v := ?_) 0 44 rfl rfl (by kernel_rfl) (by kernel_rfl) (by kernel_rfl) (by kernel_rfl) (by kernel_rfl) (fun _ _ _ h => h) (by rfl) ?_ (by assumption) (by assumption) ?_
    rotate_left
    · (intro w3 hS; (try dsimp only at hS); skip; go_simp; (try with_reducible rfl))
    simp only [List.setIfInBounds_toArray, List.set_cons_zero, List.set_cons_succ]
    refine reg0_tk (v := ?_) 1 45 rfl rfl (by kernel_rfl) (by kernel_rfl) (by kernel_rfl) (by kernel_rfl) (by kernel_rfl) (fun _ _ _ h => h) (by rfl) ?_ (by assumption) (by assumption) ?_
    rotate_left
    · (intro w3 hS; (try dsimp only at hS); skip; go_simp; (try with_reducible rfl))
    simp only [List.setIfInBounds_toArray, List.set_cons_zero, List.set_cons_succ]
    refine reg0_tk (v := ?_) 2 46 rfl rfl (by kernel_rfl) (by kernel_rfl) (by kernel_rfl) (by kernel_rfl) (by kernel_rfl) (fun _ _ _ h => h) (by rfl) ?_ (by assumption) (by assumption) ?_
    rotate_left
    · (intro w3 hS; (try dsimp only at hS); skip; go_simp; (try with_reducible rfl))
    simp only [List.setIfInBounds_toArray, List.set_cons_zero, List.set_cons_succ]
    refine reg0_tk (v := ?_) 3 47 rfl rfl (by kernel_rfl) (by kernel_rfl) (by kernel_rfl) (by kernel_rfl) (by kernel_rfl) (fun _ _ _ h => h) (by rfl) ?_ (by assumption) (by assumption) ?_
    rotate_left
    · (intro w3 hS; (try dsimp only at hS); skip; go_simp; (try with_reducible rfl))
    simp only [List.setIfInBounds_toArray, List.set_cons_zero, List.set_cons_succ]
    refine regG_tk (v := ?_) 4 48 rfl rfl (by kernel_rfl) (by kernel_rfl) (by kernel_rfl) (by kernel_rfl) (by kernel_rfl) (fun _ _ _ h => h) (by rfl) ?_ (by assumption) (by assumption) ?_
    rotate_left
    · (intro w3 hS; (try dsimp only at hS); have g := cell_later hS b4; go_simp; (try with_reducible rfl))
    simp only [List.setIfInBounds_toArray, List.set_cons_zero, List.set_cons_succ]
    refine regG_tk (v := ?_) 5 49 rfl rfl (by kernel_rfl) (by kernel_rfl) (by kernel_rfl) (by kernel_rfl) (by kernel_rfl) (fun _ _ _ h => h) (by rfl) ?_ (by assumption) (by assumption) ?_
    rotate_left
    · (intro w3 hS; (try dsimp only at hS); (have z0 := cell_later hS s0; have z1 := cell_later hS s1); go_simp; (try with_reducible rfl))
    simp only [List.setIfInBounds_toArray, List.set_cons_zero, List.set_cons_succ]
    refine wpAnyG_one (i := 6) (by kernel_rfl) rfl (by rfl) (by kernel_rfl) (fun K hK => ?_)
    go_simp
    refine (HP1.out w1.drew hHeld).mono ?_
    rintro e wb ⟨na, nc, rfl, ho, hk, hw⟩
    have hd1 := HD1.out.below hHeld
    have hd2 := hd1.tag hi (a := na) (c := nc) (l := insG c.tk t) (by rw [HY.out]; exact hk) ho (by rw [HY.out]; exact hw)
    rw [HY.out, HC.out] at hd2
    have HD2 := Lib.hid hd2
    have hkg : ∀ k, y.tv.ownBlock = some k → ¬ g = k := fun k e e2 => by
      have h1 := (hd1.op.or.cop i).tk
      rw [HY.out] at h1
      subst e2
      exact own_apart hd1.op.or.rows h1 (by decide) g rfl e
    have v0 : wb.cell? ⟨g, i * 6 + 4, none⟩ = some y.tv := hk.cell (p := ⟨g, i * 6 + 4, none⟩) (fun e => hkg g e rfl) (cell_later hHeld b4)
    have hgw := (hd1.op.or.rows.lt g rfl).2
    have v1 : wb.frozen? ⟨g, i * 6 + 4, none⟩ = false := by
      have := hd1.op.or.there (i * 6 + 4)
      rw [World.frozen?_of_block (hk.2 g hgw (fun e => hkg g e rfl))]
      exact this
    clear hd1 hd2 ho hk hw hkg hgw b4 s0 s1
    refine hK _ _ trivial ?_
    clear hK K
    try simp only [Act.put, List.setIfInBounds_toArray, List.set_cons_zero, List.set_cons_succ]
    refine wpAnyG_one (i := 7) (by kernel_rfl) rfl (by rfl) (by kernel_rfl) (fun K hK => ?_)
    go_simp
    refine hK _ _ trivial ?_
    clear hK K
    try simp only [Act.put, List.setIfInBounds_toArray, List.set_cons_zero, List.set_cons_succ]
    refine wpAnyG_one (i := 8) (by kernel_rfl) rfl (by rfl) (by kernel_rfl) (fun K hK => ?_)
    go_simp
    refine hK _ _ trivial ?_
    clear hK K
    try simp only [Act.put, List.setIfInBounds_toArray, List.set_cons_zero, List.set_cons_succ]
    refine wpAnyG_one (i := 9) (by kernel_rfl) rfl (by rfl) (by kernel_rfl) (fun K hK => ?_)
    go_simp
    refine hK _ _ trivial ?_
    clear hK K
    try simp only [Act.put, List.setIfInBounds_toArray, List.set_cons_zero, List.set_cons_succ]
    refine wpAnyG_done (by kernel_rfl) ?_ _
    refine NoPanic.normal ?_
    obtain ⟨w2, hw2⟩ : ∃ w2 : World, w2 = wb.setCell ⟨g, i * 6 + 4, none⟩ (.slice na (insG c.tk t).length nc) := ⟨_, rfl⟩
    rw [← hw2] at HD2 ⊢
    clear hw2 v0 v1 HPUT HP1 wb
    obtain ⟨y2, HY2⟩ : ∃ y2 : Cq, Hid (y2 = { y with ta := na, tn := (insG c.tk t).length, tc := nc }) := ⟨_, Lib.hid rfl⟩
    rw [← HY2.out] at HD2
    have hy2s : y2.st = c.st := by rw [HY2.out]; exact HST.out
    have hy2k : y2.kv = y.kv := by rw [HY2.out]
    obtain ⟨q2, HQ2⟩ : ∃ q2, Hid (q.set i y2 = q2) := ⟨_, Lib.hid rfl⟩
    obtain ⟨X2, HX2⟩ : ∃ X2, Hid (setI X i { c with tk := insG c.tk t } = X2) := ⟨_, Lib.hid rfl⟩
    have hql : i < q.length := by rw [h.or.len]; exact hi
    have hq2 : gq q2 i = y2 := by rw [← HQ2.out, gq_set hql, if_pos rfl]
    have hc2 : gc X2.cs i = { c with tk := insG c.tk t } := by rw [← HX2.out]; show gc (X.cs.set i _) i = _; rw [gc_set hi, if_pos rfl]
    have hi2 : i < X2.cs.length := by rw [← HX2.out, setI_len]; exact hi
    have hds2 : X2.ds = X.ds := by rw [← HX2.out]; rfl
    rw [HQ2.out, HX2.out] at HD2
    have hbx : w2.cell? ⟨p, 0, none⟩ = some (.int .i64 X.ds) := by rw [← hds2]; exact HD2.out.op.box.cell 0
    have hf2 : w2.cell? ⟨w.heap.size, 2, none⟩ = some (.int .i64 f.tt) := HD2.out.bf.cell 2
    have HYS := Lib.hid hy2s
    have HYK := Lib.hid hy2k
    have HG2 := Lib.hid hq2
    have HC2 := Lib.hid hc2
    clear hy2s hy2k hq2 hc2 hds2
    by_cases hd : f.tt = X.ds
    · have hdd : (f.tt == X.ds) = true := by simp [hd]
      have hst2 : ¬ (c.st = 2 ∧ rash = false) := fun hx => by
        have := HHC.out.1.2.2.1 hd
        omega
      have hans := HANS.out
      rw [if_neg hst2, if_pos (yb hd)] at hans
      have HE1 : Hid (ek = 5) := Lib.hid (by rw [HKR.out, if_neg hst2])
      have HX1 := Lib.hid (HXE.out.symm.trans (by rw [hans]))
      have HDD := Lib.hid hd
      have HHC3 := Lib.hid HHC.out.2.2.2.1
      clear hst2 hans hd HANS HHC
      go_upto_region 8 with fail
      go_quiet (fail)
      have hdr := below_drewN (Below.refl w2.heap.size w2) nq
      have HD3 := Lib.hid (HD2.out.below hdr)
      have hrow2 := HD3.out.op.or.at i hi2
      rw [HG2.out] at hrow2
      obtain ⟨r0, r1, r2, r3, r4, r5⟩ := hrow2
      have HD4 := Lib.hid (HD3.out.st hi2 4)
      rw [HG2.out] at HD4
      have z0 := HD3.out.op.or.there (i * 6)
      go_upto_region 14 with fail
      obtain ⟨w3, hw3⟩ : ∃ w3 : World, w3 = (w2.drewN nq).setCell ⟨g, i * 6, none⟩ (.int .i64 4) := ⟨_, rfl⟩
      rw [← hw3] at HD4 ⊢
      clear hw3 r0 r1 r2 r3 r4 r5 z0 HD3 hdr
      have hq3 : gq (q2.set i { y2 with st := 4 }) i = { y2 with st := 4 } := by rw [gq_set (by rw [HD2.out.op.or.len]; exact hi2), if_pos rfl]
      have hc3 : gc (setI X2 i ({ gc X2.cs i with st := 4 })).cs i = ({ gc X2.cs i with st := 4 }) := by show gc (X2.cs.set i _) i = _; rw [gc_set hi2, if_pos rfl]
      have hi3 : i < (setI X2 i ({ gc X2.cs i with st := 4 })).cs.length := by rw [setI_len]; exact hi2
      have hkvy : ({ y2 with st := 4 } : Cq).kv = y.kv := HYK.out
      have hkpc : ({ gc X2.cs i with st := 4 } : Cp).kp = c.kp := by simp only [HC2.out]
      have hco3 := HD4.out.op.or.cop i
      rw [hq3, hc3] at hco3
      have hok : OwG w3 B y.kv c.kp := by
        have h1 := hco3.kp
        rwa [hkvy, hkpc] at h1
      have hrow3 := HD4.out.op.or.at i hi3
      rw [hq3] at hrow3
      have b5 : (w3).cell? ⟨g, i * 6 + 5, none⟩ = some y.kv := by rw [← hkvy]; exact hrow3.2.2.2.2.2
      have s0 : (w3).cell? ⟨w.heap.size + 1, 0, none⟩ = some (.int .i64 t.nd) := HD4.out.bt.cell 0
      have s1 : (w3).cell? ⟨w.heap.size + 1, 1, none⟩ = some (.int .i64 t.of) := HD4.out.bt.cell 1
      have hws := HD4.out.kx.size
      have HP3 := Lib.hid (fun (wz : World) (hz : Below (w3).heap.size w3 wz) => put_any wz B y.kv c.kp t (by omega) (by have := hz.size; omega) HHC3.out (Own.keep hok hz))
      clear hrow3 hco3
      refine wp_region_noPanic ?_
      refine wp_region_late (fun _ => True) (fun w' => Below (w3).heap.size w3 w') [6, 9] (by kernel_rfl) trivial ((Below.refl _ w3).drew) (fun hHeld0 hHeld => ?_)
      refine reg0_tk (v := ?_) 0 84 rfl rfl (by kernel_rfl) (by kernel_rfl) (by kernel_rfl) (by kernel_rfl) (by kernel_rfl) (fun _ _ _ h => h) (by rfl) ?_ (by assumption) (by assumption) ?_
      rotate_left
      · (intro w3 hS; (try dsimp only at hS); skip; go_simp; (try with_reducible rfl))
      simp only [List.setIfInBounds_toArray, List.set_cons_zero, List.set_cons_succ]
      refine reg0_tk (v := ?_) 1 85 rfl rfl (by kernel_rfl) (by kernel_rfl) (by kernel_rfl) (by kernel_rfl) (by kernel_rfl) (fun _ _ _ h => h) (by rfl) ?_ (by assumption) (by assumption) ?_
      rotate_left
      · (intro w3 hS; (try dsimp only at hS); skip; go_simp; (try with_reducible rfl))
      simp only [List.setIfInBounds_toArray, List.set_cons_zero, List.set_cons_succ]
      refine reg0_tk (v := ?_) 2 86 rfl rfl (by kernel_rfl) (by kernel_rfl) (by kernel_rfl) (by kernel_rfl) (by kernel_rfl) (fun _ _ _ h => h) (by rfl) ?_ (by assumption) (by assumption) ?_
      rotate_left
      · (intro w3 hS; (try dsimp only at hS); skip; go_simp; (try with_reducible rfl))
      simp only [List.setIfInBounds_toArray, List.set_cons_zero, List.set_cons_succ]
      refine reg0_tk (v := ?_) 3 87 rfl rfl (by kernel_rfl) (by kernel_rfl) (by kernel_rfl) (by kernel_rfl) (by kernel_rfl) (fun _ _ _ h => h) (by rfl) ?_ (by assumption) (by assumption) ?_
      rotate_left
      · (intro w3 hS; (try dsimp only at hS); skip; go_simp; (try with_reducible rfl))
      simp only [List.setIfInBounds_toArray, List.set_cons_zero, List.set_cons_succ]
      refine regG_tk (v := ?_) 4 88 rfl rfl (by kernel_rfl) (by kernel_rfl) (by kernel_rfl) (by kernel_rfl) (by kernel_rfl) (fun _ _ _ h => h) (by rfl) ?_ (by assumption) (by assumption) ?_
      rotate_left
      · (intro w3 hS; (try dsimp only at hS); have g := cell_later hS b5; go_simp; (try with_reducible rfl))
      simp only [List.setIfInBounds_toArray, List.set_cons_zero, List.set_cons_succ]
      refine regG_tk (v := ?_) 5 89 rfl rfl (by kernel_rfl) (by kernel_rfl) (by kernel_rfl) (by kernel_rfl) (by kernel_rfl) (fun _ _ _ h => h) (by rfl) ?_ (by assumption) (by assumption) ?_
      rotate_left
      · (intro w3 hS; (try dsimp only at hS); (have z0 := cell_later hS s0; have z1 := cell_later hS s1); go_simp; (try with_reducible rfl))
      simp only [List.setIfInBounds_toArray, List.set_cons_zero, List.set_cons_succ]
      refine wpAnyG_one (i := 6) (by kernel_rfl) rfl (by rfl) (by kernel_rfl) (fun K hK => ?_)
      go_simp
      refine (HP3.out (w3).drew hHeld).mono ?_
      rintro e wb ⟨na2, nc2, rfl, ho, hk, hw⟩
      have hd1 := HD4.out.below hHeld
      have hkg : ∀ k, y.kv.ownBlock = some k → ¬ g = k := fun k e e2 => by
        subst e2
        exact own_apart hd1.op.or.rows (Own.keep hok hHeld) (by decide) g rfl e
      have hd2 := hd1.kept hi3 (a := na2) (c := nc2) (l := insG c.kp t) (by rw [hq3, hkvy]; exact hk) ho (by rw [hq3, hkvy]; exact hw)
      rw [hc3, setI_setI, HC2.out, ← HX2.out, setI_setI] at hd2
      have HCH := Lib.hid hd2.chg
      have v0 : wb.cell? ⟨g, i * 6 + 5, none⟩ = some y.kv := hk.cell (p := ⟨g, i * 6 + 5, none⟩) (fun e => hkg g e rfl) (cell_later hHeld b5)
      have hgw := (hd1.op.or.rows.lt g rfl).2
      have v1 : wb.frozen? ⟨g, i * 6 + 5, none⟩ = false := by
        have := hd1.op.or.there (i * 6 + 5)
        rw [World.frozen?_of_block (hk.2 g hgw (fun e => hkg g e rfl))]
        exact this
      clear hd1 hd2 ho hk hw hkg hgw b5 s0 s1 hq3 hc3 hkvy hkpc hok
      refine hK _ _ trivial ?_
      clear hK K
      try simp only [Act.put, List.setIfInBounds_toArray, List.set_cons_zero, List.set_cons_succ]
      refine wpAnyG_one (i := 7) (by kernel_rfl) rfl (by rfl) (by kernel_rfl) (fun K hK => ?_)
      go_simp
      refine hK _ _ trivial ?_
      clear hK K
      try simp only [Act.put, List.setIfInBounds_toArray, List.set_cons_zero, List.set_cons_succ]
      refine wpAnyG_one (i := 8) (by kernel_rfl) rfl (by rfl) (by kernel_rfl) (fun K hK => ?_)
      go_simp
      refine hK _ _ trivial ?_
      clear hK K
      try simp only [Act.put, List.setIfInBounds_toArray, List.set_cons_zero, List.set_cons_succ]
      refine wpAnyG_one (i := 9) (by kernel_rfl) rfl (by rfl) (by kernel_rfl) (fun K hK => ?_)
      go_simp
      refine hK _ _ trivial ?_
      clear hK K
      try simp only [Act.put, List.setIfInBounds_toArray, List.set_cons_zero, List.set_cons_succ]
      refine wpAnyG_done (by kernel_rfl) ?_ _
      refine NoPanic.normal ?_
      go_wp2_with fail
      go_ret
      exact ⟨by rw [HE1.out]; rfl, by rw [HX1.out]; exact HCH.out⟩
    · have hdd : (f.tt == X.ds) = false := by simp [hd]
      have hans := HANS.out
      rw [if_neg (show ¬ decide (f.tt = X.ds) = true by simpa using hd)] at hans
      have hst03 := HHC.out.1
      unfold stOK at hst03
      rw [if_neg hd] at hst03
      have HHC3 := Lib.hid HHC.out.2.2.2.1
      clear HANS HHC
      have HDD := Lib.hid hd
      clear hd
      by_cases h2 : c.st = 2
      · have d2 : (y2.st == 2) = true := by simp [HYS.out, h2]
        have d3 : (y2.st != 2) = false := by simp [HYS.out, h2]
        cases rash
        · rw [if_pos ⟨h2, rfl⟩] at hans
          have HE1 : Hid (ek = 6) := Lib.hid (by rw [HKR.out, if_pos ⟨h2, rfl⟩])
          have HX1 := Lib.hid (HXE.out.symm.trans (by rw [hans]))
          clear hans h2 hst03
          go_upto_region 8 with fail
          go_quiet (fail)
          have hdr := below_drewN (Below.refl w2.heap.size w2) nq
          have HD3 := Lib.hid (HD2.out.below hdr)
          have hrow2 := HD3.out.op.or.at i hi2
          rw [HG2.out] at hrow2
          obtain ⟨r0, r1, r2, r3, r4, r5⟩ := hrow2
          go_wp2_with fail
          go_ret
          exact ⟨by rw [HE1.out]; rfl, by rw [HX1.out, HX2.out]; exact HD3.out.chg⟩
        · rw [if_neg (by simp)] at hans
          rw [if_neg (by omega)] at hans
          have HE1 : Hid (ek = 5) := Lib.hid (by rw [HKR.out, if_neg (by simp)])
          have HX1 := Lib.hid (HXE.out.symm.trans (by rw [hans]))
          clear hans hst03
          have HH2 := Lib.hid h2
          clear h2
          go_upto_region 8 with fail
          go_quiet (fail)
          have hdr := below_drewN (Below.refl w2.heap.size w2) nq
          have HD3 := Lib.hid (HD2.out.below hdr)
          have hrow2 := HD3.out.op.or.at i hi2
          rw [HG2.out] at hrow2
          obtain ⟨r0, r1, r2, r3, r4, r5⟩ := hrow2
          go_upto_region 14 with fail
          clear r0 r1 r2 r3 r4 r5 d2 d3
          obtain ⟨w3, hw3⟩ : ∃ w3 : World, w3 = w2.drewN nq := ⟨_, rfl⟩
          rw [← hw3] at HD3 ⊢
          clear hw3 hdr
          have hself := HD3.out
          rw [show q2 = q2.set i y2 by rw [← HQ2.out, List.set_set], show X2 = setI X2 i (gc X2.cs i) by rw [HC2.out, ← HX2.out, setI_setI]] at hself
          have HD4 := Lib.hid hself
          have hq3 : gq (q2.set i y2) i = y2 := by rw [gq_set (by rw [HD2.out.op.or.len]; exact hi2), if_pos rfl]
          have hc3 : gc (setI X2 i (gc X2.cs i)).cs i = (gc X2.cs i) := by show gc (X2.cs.set i _) i = _; rw [gc_set hi2, if_pos rfl]
          have hi3 : i < (setI X2 i (gc X2.cs i)).cs.length := by rw [setI_len]; exact hi2
          have hkvy : (y2 : Cq).kv = y.kv := HYK.out
          have hkpc : (gc X2.cs i : Cp).kp = c.kp := by simp only [HC2.out]
          have hco3 := HD4.out.op.or.cop i
          rw [hq3, hc3] at hco3
          have hok : OwG w3 B y.kv c.kp := by
            have h1 := hco3.kp
            rwa [hkvy, hkpc] at h1
          have hrow3 := HD4.out.op.or.at i hi3
          rw [hq3] at hrow3
          have b5 : (w3).cell? ⟨g, i * 6 + 5, none⟩ = some y.kv := by rw [← hkvy]; exact hrow3.2.2.2.2.2
          have s0 : (w3).cell? ⟨w.heap.size + 1, 0, none⟩ = some (.int .i64 t.nd) := HD4.out.bt.cell 0
          have s1 : (w3).cell? ⟨w.heap.size + 1, 1, none⟩ = some (.int .i64 t.of) := HD4.out.bt.cell 1
          have hws := HD4.out.kx.size
          have HP3 := Lib.hid (fun (wz : World) (hz : Below (w3).heap.size w3 wz) => put_any wz B y.kv c.kp t (by omega) (by have := hz.size; omega) HHC3.out (Own.keep hok hz))
          clear hrow3 hco3
          refine wp_region_noPanic ?_
          refine wp_region_late (fun _ => True) (fun w' => Below (w3).heap.size w3 w') [6, 9] (by kernel_rfl) trivial ((Below.refl _ w3).drew) (fun hHeld0 hHeld => ?_)
          refine reg0_tk (v := ?_) 0 84 rfl rfl (by kernel_rfl) (by kernel_rfl) (by kernel_rfl) (by kernel_rfl) (by kernel_rfl) (fun _ _ _ h => h) (by rfl) ?_ (by assumption) (by assumption) ?_
          rotate_left
          · (intro w3 hS; (try dsimp only at hS); skip; go_simp; (try with_reducible rfl))
          simp only [List.setIfInBounds_toArray, List.set_cons_zero, List.set_cons_succ]
          refine reg0_tk (v := ?_) 1 85 rfl rfl (by kernel_rfl) (by kernel_rfl) (by kernel_rfl) (by kernel_rfl) (by kernel_rfl) (fun _ _ _ h => h) (by rfl) ?_ (by assumption) (by assumption) ?_
          rotate_left
          · (intro w3 hS; (try dsimp only at hS); skip; go_simp; (try with_reducible rfl))
          simp only [List.setIfInBounds_toArray, List.set_cons_zero, List.set_cons_succ]
          refine reg0_tk (v := ?_) 2 86 rfl rfl (by kernel_rfl) (by kernel_rfl) (by kernel_rfl) (by kernel_rfl) (by kernel_rfl) (fun _ _ _ h => h) (by rfl) ?_ (by assumption) (by assumption) ?_
          rotate_left
          · (intro w3 hS; (try dsimp only at hS); skip; go_simp; (try with_reducible rfl))
          simp only [List.setIfInBounds_toArray, List.set_cons_zero, List.set_cons_succ]
          refine reg0_tk (v := ?_) 3 87 rfl rfl (by kernel_rfl) (by kernel_rfl) (by kernel_rfl) (by kernel_rfl) (by kernel_rfl) (fun _ _ _ h => h) (by rfl) ?_ (by assumption) (by assumption) ?_
          rotate_left
          · (intro w3 hS; (try dsimp only at hS); skip; go_simp; (try with_reducible rfl))
          simp only [List.setIfInBounds_toArray, List.set_cons_zero, List.set_cons_succ]
          refine regG_tk (v := ?_) 4 88 rfl rfl (by kernel_rfl) (by kernel_rfl) (by kernel_rfl) (by kernel_rfl) (by kernel_rfl) (fun _ _ _ h => h) (by rfl) ?_ (by assumption) (by assumption) ?_
          rotate_left
          · (intro w3 hS; (try dsimp only at hS); have g := cell_later hS b5; go_simp; (try with_reducible rfl))
          simp only [List.setIfInBounds_toArray, List.set_cons_zero, List.set_cons_succ]
          refine regG_tk (v := ?_) 5 89 rfl rfl (by kernel_rfl) (by kernel_rfl) (by kernel_rfl) (by kernel_rfl) (by kernel_rfl) (fun _ _ _ h => h) (by rfl) ?_ (by assumption) (by assumption) ?_
          rotate_left
          · (intro w3 hS; (try dsimp only at hS); (have z0 := cell_later hS s0; have z1 := cell_later hS s1); go_simp; (try with_reducible rfl))
          simp only [List.setIfInBounds_toArray, List.set_cons_zero, List.set_cons_succ]
          refine wpAnyG_one (i := 6) (by kernel_rfl) rfl (by rfl) (by kernel_rfl) (fun K hK => ?_)
          go_simp
          refine (HP3.out (w3).drew hHeld).mono ?_
          rintro e wb ⟨na2, nc2, rfl, ho, hk, hw⟩
          have hd1 := HD4.out.below hHeld
          have hkg : ∀ k, y.kv.ownBlock = some k → ¬ g = k := fun k e e2 => by
            subst e2
            exact own_apart hd1.op.or.rows (Own.keep hok hHeld) (by decide) g rfl e
          have hd2 := hd1.kept hi3 (a := na2) (c := nc2) (l := insG c.kp t) (by rw [hq3, hkvy]; exact hk) ho (by rw [hq3, hkvy]; exact hw)
          rw [hc3, setI_setI, HC2.out, ← HX2.out, setI_setI] at hd2
          have HCH := Lib.hid hd2.chg
          have v0 : wb.cell? ⟨g, i * 6 + 5, none⟩ = some y.kv := hk.cell (p := ⟨g, i * 6 + 5, none⟩) (fun e => hkg g e rfl) (cell_later hHeld b5)
          have hgw := (hd1.op.or.rows.lt g rfl).2
          have v1 : wb.frozen? ⟨g, i * 6 + 5, none⟩ = false := by
            have := hd1.op.or.there (i * 6 + 5)
            rw [World.frozen?_of_block (hk.2 g hgw (fun e => hkg g e rfl))]
            exact this
          clear hd1 hd2 ho hk hw hkg hgw b5 s0 s1 hq3 hc3 hkvy hkpc hok
          refine hK _ _ trivial ?_
          clear hK K
          try simp only [Act.put, List.setIfInBounds_toArray, List.set_cons_zero, List.set_cons_succ]
          refine wpAnyG_one (i := 7) (by kernel_rfl) rfl (by rfl) (by kernel_rfl) (fun K hK => ?_)
          go_simp
          refine hK _ _ trivial ?_
          clear hK K
          try simp only [Act.put, List.setIfInBounds_toArray, List.set_cons_zero, List.set_cons_succ]
          refine wpAnyG_one (i := 8) (by kernel_rfl) rfl (by rfl) (by kernel_rfl) (fun K hK => ?_)
          go_simp
          refine hK _ _ trivial ?_
          clear hK K
          try simp only [Act.put, List.setIfInBounds_toArray, List.set_cons_zero, List.set_cons_succ]
          refine wpAnyG_one (i := 9) (by kernel_rfl) rfl (by rfl) (by kernel_rfl) (fun K hK => ?_)
          go_simp
          refine hK _ _ trivial ?_
          clear hK K
          try simp only [Act.put, List.setIfInBounds_toArray, List.set_cons_zero, List.set_cons_succ]
          refine wpAnyG_done (by kernel_rfl) ?_ _
          refine NoPanic.normal ?_
          go_wp2_with fail
          go_ret
          exact ⟨by rw [HE1.out]; rfl, by rw [HX1.out]; exact HCH.out⟩
      · have d2 : (y2.st == 2) = false := by simp [HYS.out, h2]
        have d3 : (y2.st != 2) = true := by simp [HYS.out, h2]
        rw [if_neg (fun hx => h2 hx.1)] at hans
        have HE1 : Hid (ek = 5) := Lib.hid (by rw [HKR.out, if_neg (fun hx => h2 hx.1)])
        rw [show (if c.st = 0 ∨ c.st = 3 then (1 : Int) else c.st) = 1 by split <;> omega] at hans
        have HX1 := Lib.hid (HXE.out.symm.trans (by rw [hans]))
        clear hans hst03 h2
        go_upto_region 8 with fail
        go_quiet (fail)
        have hdr := below_drewN (Below.refl w2.heap.size w2) nq
        have HD3 := Lib.hid (HD2.out.below hdr)
        have hrow2 := HD3.out.op.or.at i hi2
        rw [HG2.out] at hrow2
        obtain ⟨r0, r1, r2, r3, r4, r5⟩ := hrow2
        have HD4 := Lib.hid (HD3.out.st hi2 1)
        rw [HG2.out] at HD4
        have z0 := HD3.out.op.or.there (i * 6)
        go_upto_region 14 with fail
        obtain ⟨w3, hw3⟩ : ∃ w3 : World, w3 = (w2.drewN nq).setCell ⟨g, i * 6, none⟩ (.int .i64 1) := ⟨_, rfl⟩
        rw [← hw3] at HD4 ⊢
        clear hw3 r0 r1 r2 r3 r4 r5 z0 HD3 hdr d2 d3
        have hq3 : gq (q2.set i { y2 with st := 1 }) i = { y2 with st := 1 } := by rw [gq_set (by rw [HD2.out.op.or.len]; exact hi2), if_pos rfl]
        have hc3 : gc (setI X2 i ({ gc X2.cs i with st := 1 })).cs i = ({ gc X2.cs i with st := 1 }) := by show gc (X2.cs.set i _) i = _; rw [gc_set hi2, if_pos rfl]
        have hi3 : i < (setI X2 i ({ gc X2.cs i with st := 1 })).cs.length := by rw [setI_len]; exact hi2
        have hkvy : ({ y2 with st := 1 } : Cq).kv = y.kv := HYK.out
        have hkpc : ({ gc X2.cs i with st := 1 } : Cp).kp = c.kp := by simp only [HC2.out]
        have hco3 := HD4.out.op.or.cop i
        rw [hq3, hc3] at hco3
        have hok : OwG w3 B y.kv c.kp := by
          have h1 := hco3.kp
          rwa [hkvy, hkpc] at h1
        have hrow3 := HD4.out.op.or.at i hi3
        rw [hq3] at hrow3
        have b5 : (w3).cell? ⟨g, i * 6 + 5, none⟩ = some y.kv := by rw [← hkvy]; exact hrow3.2.2.2.2.2
        have s0 : (w3).cell? ⟨w.heap.size + 1, 0, none⟩ = some (.int .i64 t.nd) := HD4.out.bt.cell 0
        have s1 : (w3).cell? ⟨w.heap.size + 1, 1, none⟩ = some (.int .i64 t.of) := HD4.out.bt.cell 1
        have hws := HD4.out.kx.size
        have HP3 := Lib.hid (fun (wz : World) (hz : Below (w3).heap.size w3 wz) => put_any wz B y.kv c.kp t (by omega) (by have := hz.size; omega) HHC3.out (Own.keep hok hz))
        clear hrow3 hco3
        refine wp_region_noPanic ?_
        refine wp_region_late (fun _ => True) (fun w' => Below (w3).heap.size w3 w') [6, 9] (by kernel_rfl) trivial ((Below.refl _ w3).drew) (fun hHeld0 hHeld => ?_)
        refine reg0_tk (v := ?_) 0 84 rfl rfl (by kernel_rfl) (by kernel_rfl) (by kernel_rfl) (by kernel_rfl) (by kernel_rfl) (fun _ _ _ h => h) (by rfl) ?_ (by assumption) (by assumption) ?_
        rotate_left
        · (intro w3 hS; (try dsimp only at hS); skip; go_simp; (try with_reducible rfl))
        simp only [List.setIfInBounds_toArray, List.set_cons_zero, List.set_cons_succ]
        refine reg0_tk (v := ?_) 1 85 rfl rfl (by kernel_rfl) (by kernel_rfl) (by kernel_rfl) (by kernel_rfl) (by kernel_rfl) (fun _ _ _ h => h) (by rfl) ?_ (by assumption) (by assumption) ?_
        rotate_left
        · (intro w3 hS; (try dsimp only at hS); skip; go_simp; (try with_reducible rfl))
        simp only [List.setIfInBounds_toArray, List.set_cons_zero, List.set_cons_succ]
        refine reg0_tk (v := ?_) 2 86 rfl rfl (by kernel_rfl) (by kernel_rfl) (by kernel_rfl) (by kernel_rfl) (by kernel_rfl) (fun _ _ _ h => h) (by rfl) ?_ (by assumption) (by assumption) ?_
        rotate_left
        · (intro w3 hS; (try dsimp only at hS); skip; go_simp; (try with_reducible rfl))
        simp only [List.setIfInBounds_toArray, List.set_cons_zero, List.set_cons_succ]
        refine reg0_tk (v := ?_) 3 87 rfl rfl (by kernel_rfl) (by kernel_rfl) (by kernel_rfl) (by kernel_rfl) (by kernel_rfl) (fun _ _ _ h => h) (by rfl) ?_ (by assumption) (by assumption) ?_
        rotate_left
        · (intro w3 hS; (try dsimp only at hS); skip; go_simp; (try with_reducible rfl))
        simp only [List.setIfInBounds_toArray, List.set_cons_zero, List.set_cons_succ]
        refine regG_tk (v := ?_) 4 88 rfl rfl (by kernel_rfl) (by kernel_rfl) (by kernel_rfl) (by kernel_rfl) (by kernel_rfl) (fun _ _ _ h => h) (by rfl) ?_ (by assumption) (by assumption) ?_
        rotate_left
        · (intro w3 hS; (try dsimp only at hS); have g := cell_later hS b5; go_simp; (try with_reducible rfl))
        simp only [List.setIfInBounds_toArray, List.set_cons_zero, List.set_cons_succ]
        refine regG_tk (v := ?_) 5 89 rfl rfl (by kernel_rfl) (by kernel_rfl) (by kernel_rfl) (by kernel_rfl) (by kernel_rfl) (fun _ _ _ h => h) (by rfl) ?_ (by assumption) (by assumption) ?_
        rotate_left
        · (intro w3 hS; (try dsimp only at hS); (have z0 := cell_later hS s0; have z1 := cell_later hS s1); go_simp; (try with_reducible rfl))
        simp only [List.setIfInBounds_toArray, List.set_cons_zero, List.set_cons_succ]
        refine wpAnyG_one (i := 6) (by kernel_rfl) rfl (by rfl) (by kernel_rfl) (fun K hK => ?_)
        go_simp
        refine (HP3.out (w3).drew hHeld).mono ?_
        rintro e wb ⟨na2, nc2, rfl, ho, hk, hw⟩
        have hd1 := HD4.out.below hHeld
        have hkg : ∀ k, y.kv.ownBlock = some k → ¬ g = k := fun k e e2 => by
          subst e2
          exact own_apart hd1.op.or.rows (Own.keep hok hHeld) (by decide) g rfl e
        have hd2 := hd1.kept hi3 (a := na2) (c := nc2) (l := insG c.kp t) (by rw [hq3, hkvy]; exact hk) ho (by rw [hq3, hkvy]; exact hw)
        rw [hc3, setI_setI, HC2.out, ← HX2.out, setI_setI] at hd2
        have HCH := Lib.hid hd2.chg
        have v0 : wb.cell? ⟨g, i * 6 + 5, none⟩ = some y.kv := hk.cell (p := ⟨g, i * 6 + 5, none⟩) (fun e => hkg g e rfl) (cell_later hHeld b5)
        have hgw := (hd1.op.or.rows.lt g rfl).2
        have v1 : wb.frozen? ⟨g, i * 6 + 5, none⟩ = false := by
          have := hd1.op.or.there (i * 6 + 5)
          rw [World.frozen?_of_block (hk.2 g hgw (fun e => hkg g e rfl))]
          exact this
        clear hd1 hd2 ho hk hw hkg hgw b5 s0 s1 hq3 hc3 hkvy hkpc hok
        refine hK _ _ trivial ?_
        clear hK K
        try simp only [Act.put, List.setIfInBounds_toArray, List.set_cons_zero, List.set_cons_succ]
        refine wpAnyG_one (i := 7) (by kernel_rfl) rfl (by rfl) (by kernel_rfl) (fun K hK => ?_)
        go_simp
        refine hK _ _ trivial ?_
        clear hK K
        try simp only [Act.put, List.setIfInBounds_toArray, List.set_cons_zero, List.set_cons_succ]
        refine wpAnyG_one (i := 8) (by kernel_rfl) rfl (by rfl) (by kernel_rfl) (fun K hK => ?_)
        go_simp
        refine hK _ _ trivial ?_
        clear hK K
        try simp only [Act.put, List.setIfInBounds_toArray, List.set_cons_zero, List.set_cons_succ]
        refine wpAnyG_one (i := 9) (by kernel_rfl) rfl (by rfl) (by kernel_rfl) (fun K hK => ?_)
        go_simp
        refine hK _ _ trivial ?_
        clear hK K
        try simp only [Act.put, List.setIfInBounds_toArray, List.set_cons_zero, List.set_cons_succ]
        refine wpAnyG_done (by kernel_rfl) ?_ _
        refine NoPanic.normal ?_
        go_wp2_with fail
        go_ret
        exact ⟨by rw [HE1.out]; rfl, by rw [HX1.out]; exact HCH.out⟩
end Go.Proofs.Ytnkpjfogjkjcfaa
