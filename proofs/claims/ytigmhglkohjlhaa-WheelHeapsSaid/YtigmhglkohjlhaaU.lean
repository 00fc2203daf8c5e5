


/- Timers: the iterator that takes out what is due. -/
import Derived.Test.YtigmhglkohjlhaaT
import Derived.Test.YtigmhglkohjlhaaRY
import Derived.Test.YtigmhglkohjlhaaRK
import Derived.LoopIn
import Derived.Sort.CutIn
import Derived.TacticsInMore
namespace Go.Proofs.Ytigmhglkohjlhaa
open Go.RowKit
set_option linter.unusedSimpArgs false
set_option linter.unusedVariables false
set_option maxRecDepth 100000

/-- the heap after so many have been taken out -/
def stL (l : List Tm) : Nat → List Tm
  | 0 => l
  | k + 1 => outL (stL l k) 0
theorem pops_k (now : Int) (l : List Tm) : ∀ k, k ≤ (pops now l).1.length → (pops now l).1 = (pops now l).1.take k ++ (pops now (stL l k)).1 ∧ (pops now l).2 = (pops now (stL l k)).2 := by
  intro k
  induction k with
  | zero => intro _; exact ⟨by simp [stL], rfl⟩
  | succ k ih =>
    intro hk
    obtain ⟨h1, h2⟩ := ih (by omega)
    have hlen : 0 < (pops now (stL l k)).1.length := by
      have := congrArg List.length h1
      rw [List.length_append, List.length_take] at this
      omega
    have he := pops_eq now (stL l k)
    by_cases hc : 0 < (stL l k).length ∧ (g (stL l k) 0).tk ≤ now
    · rw [if_pos hc] at he
      rw [he] at h1 h2
      refine ⟨?_, h2⟩
      have hl : ((pops now l).1.take k).length = k := by rw [List.length_take]; omega
      have ht : (pops now l).1.take (k + 1) = (pops now l).1.take k ++ [g (stL l k) 0] := by
        conv => lhs; rw [h1]
        rw [List.take_append, hl, List.take_of_length_le (by omega), show k + 1 - k = 1 by omega]
        rfl
      rw [ht, List.append_assoc]
      exact h1
    · rw [if_neg hc] at he
      rw [he] at hlen
      simp at hlen
theorem st_more {now : Int} {l : List Tm} {k : Nat} (hk : k < (pops now l).1.length) : 0 < (stL l k).length ∧ (g (stL l k) 0).tk ≤ now ∧ g (pops now l).1 k = g (stL l k) 0 := by
  obtain ⟨h1, _⟩ := pops_k now l k (by omega)
  have hl : ((pops now l).1.take k).length = k := by rw [List.length_take]; omega
  have hlen : 0 < (pops now (stL l k)).1.length := by
    have := congrArg List.length h1
    rw [List.length_append, hl] at this
    omega
  have he := pops_eq now (stL l k)
  by_cases hc : 0 < (stL l k).length ∧ (g (stL l k) 0).tk ≤ now
  · rw [if_pos hc] at he
    rw [he] at h1
    refine ⟨hc.1, hc.2, ?_⟩
    rw [h1]
    unfold g
    rw [List.getD_eq_getElem?_getD, List.getElem?_append_right (by omega), hl, Nat.sub_self]
    rfl
  · rw [if_neg hc] at he
    rw [he] at hlen
    simp at hlen
theorem st_last {now : Int} {l : List Tm} {N : Nat} (hN : (pops now l).1.length = N) : ¬ (0 < (stL l N).length ∧ (g (stL l N) 0).tk ≤ now) ∧ (pops now l).2 = stL l N := by
  obtain ⟨h1, h2⟩ := pops_k now l N (by omega)
  have he := pops_eq now (stL l N)
  by_cases hc : 0 < (stL l N).length ∧ (g (stL l N) 0).tk ≤ now
  · rw [if_pos hc] at he
    have := congrArg List.length h1
    rw [List.length_append, List.length_take, he] at this
    simp at this
    omega
  · rw [if_neg hc] at he
    exact ⟨hc, by rw [h2, he]⟩
theorem stL_len (l : List Tm) : ∀ k, (stL l k).length = l.length - k
  | 0 => rfl
  | k + 1 => by
    show (outL (stL l k) 0).length = _
    rw [out_len, stL_len l k]
    omega
/-- the blocks that the iterator changes: the header's and the row's -/
def hot (P : Nat) (v : Value) (k : Nat) : Bool := k == P || v.ownBlock == some k
def pH (P : Nat) (v : Value) (k : Nat) (o : Obj) : Bool := !(o.isCells && hot P v k)
def qH (P : Nat) (v : Value) (b1 b2 : Nat) (k : Nat) (o : Obj) : Bool := o.isCells && (hot P v k || k == b1 || k == b2)
def lenH (w : World) (P : Nat) : Nat := match w.cell? ⟨P, 0, none⟩ with | some v => lenOf v | none => 0
theorem TM.keepK {w w' : World} {base P b1 b2 : Nat} {v : Value} {l : List Tm} (h : TM w base P v l) {v0 : Value} (hv : ∀ k, v.ownBlock = some k → v0.ownBlock = some k) (hk : keepsK (qH P v0 b1 b2) w w') : TM w' base P v l := by
  refine ⟨hk P _ h.box (by simp [qH, hot, Obj.isCells]), ?_, h.len, h.ge⟩
  refine ⟨h.row.1, ?_⟩
  rcases h.row.2 with h2 | ⟨g, cap, cur, hv2, hb, hh, rest⟩
  · exact .inl h2
  · refine .inr ⟨g, cap, cur, hv2, hb, hk g _ hh ?_, rest⟩
    have := hv g (by rw [hv2]; rfl)
    simp [qH, hot, Obj.isCells, this]
theorem keepsK_of {A B : World} {base P : Nat} {u v : Value} {l : List Tm} (hT : TM A base P u l) (hv : ∀ k, u.ownBlock = some k → v.ownBlock = some k) (hk : Kx (Xs P u) A B) : keepsK (pH P v) A B := fun k o ho hp => by
  by_cases hx : Xs P u k
  · exfalso
    have hh : hot P v k = true := by
      rcases hx with rfl | hx
      · simp [hot]
      · simp [hot, hv k hx]
    have hc : o.isCells = true := by
      rcases hx with rfl | hx
      · have := hT.box
        unfold BoxN at this
        rw [this] at ho
        cases ho
        rfl
      · rcases hT.row.2 with ⟨rfl, _⟩ | ⟨g, cap, cur, rfl, _, h2, _⟩
        · simp [Value.ownBlock] at hx
        · simp only [Value.ownBlock, Option.some.injEq] at hx
          subst hx
          rw [h2] at ho
          cases ho
          rfl
    simp [pH, hh, hc] at hp
  · exact (hk.2 k (Array.getElem?_eq_some_iff.1 ho).1 hx).trans ho
theorem lenH_of {w : World} {base P : Nat} {v : Value} {l : List Tm} (h : TM w base P v l) : lenH w P = l.length := by
  obtain ⟨a, c, rfl⟩ := h.form
  have h0 := h.hd
  unfold lenH
  rw [h0]
  rfl
set_option maxHeartbeats 4000000 in
theorem until1_in (base P b1 b2 : Nat) (v : Value) (l : List Tm) (now : Int) (n l' n0 N : Nat) (hN : (pops now l).1.length = N) (J : Nat → World → Prop) (W : World)
    (hT : TM W base P v l) (hb1 : BoxN W b1 52 #[.pointer (some ⟨P, 0, none⟩)]) (hb2 : BoxN W b2 3 #[.int .i64 now])
    (hJ : ∀ k A B, J k A → Below base A B → keepsK (pH P v) A B → J k B)
    (hY : ∀ k W1, k < N → J k W1 → YieldAt Fence.wide (n - 1) Try.prog l' #[(g (stL l k) 0).v] W1 fun e W' => e = .returned (.bool true) ∧ J (k + 1) W' ∧ Below n0 W1 W' ∧ keepsK (qH P v b1 b2) W1 W')
    (h0 : J 0 W) :
    CallsIn Fence.wide n Try.prog 55 #[.func (.yield l') #[] #[], .pointer (some ⟨b1, 0, none⟩), .pointer (some ⟨b2, 0, none⟩)] W fun e W' => (∃ v, e = .returned v) ∧ J N W' ∧ ∃ v', TM W' base P v' (stL l N) := by
  have HT := Lib.hid hT
  have HB1 := Lib.hid hb1
  have HB2 := Lib.hid hb2
  have HJ := Lib.hid hJ
  have HY := Lib.hid hY
  have HN := Lib.hid hN
  have HV : Hid (∀ k, v.ownBlock = some k → v.ownBlock = some k) := fun _ h => h
  have hne1 : P ≠ b1 := fun e => by subst e; have := hT.box; unfold BoxN at this hb1; rw [hb1] at this; simp at this
  have hne2 : P ≠ b2 := fun e => by subst e; have := hT.box; unfold BoxN at this hb2; rw [hb2] at this; simp at this
  have hr1 := row_ne hT.row hb1 (by decide)
  have hr2 := row_ne hT.row hb2 (by decide)
  have HX1 : Hid (¬ Xs P v b1) := fun h => h.elim (fun e => hne1 e.symm) (fun e => hr1 _ e rfl)
  have HX2 : Hid (¬ Xs P v b2) := fun h => h.elim (fun e => hne2 e.symm) (fun e => hr2 _ e rfl)
  clear hT hb1 hb2 hJ hY hN hne1 hne2 hr1 hr2
  refine callsIn_of_wp Try.func55 rfl trivial ?_ rfl
  simp only [Try.ntmps55, List.size_toArray, List.length_cons, List.length_nil, Nat.reduceAdd, Nat.reduceSub, Array.replicate_succ, Array.replicate_zero, List.push_toArray, List.append_toArray, List.nil_append, List.cons_append]
  gi_wp2
  gi_loopw [26] (fun _ wr => ∃ (k : Nat) (u : Value), k ≤ N ∧ J k wr ∧ TM wr base P u (stL l k) ∧ (∀ k, u.ownBlock = some k → v.ownBlock = some k) ∧ BoxN wr b1 52 #[.pointer (some ⟨P, 0, none⟩)] ∧ BoxN wr b2 3 #[.int .i64 now]) (fun _ wr => lenH wr P)
  case atStart => exact ⟨0, v, Nat.zero_le _, h0, HT.out, HV.out, HB1.out, HB2.out⟩
  case round =>
    clear HT HV HB1 HB2 h0
    obtain ⟨k, u, hk, hJk, hT, hV, hB1, hB2⟩ := hrel
    have HJK := Lib.hid hJk
    have HT := Lib.hid hT
    have HV := Lib.hid hV
    have HB1 := Lib.hid hB1
    have HB2 := Lib.hid hB2
    have c1 : wr.cell? ⟨b1, 0, none⟩ = some (.pointer (some ⟨P, 0, none⟩)) := (hB1.cell 0).trans rfl
    have c2 : wr.cell? ⟨b2, 0, none⟩ = some (.int .i64 now) := (hB2.cell 0).trans rfl
    obtain ⟨m, HM⟩ : ∃ m, Hid (stL l k = m) := ⟨_, rfl⟩
    rw [HM.out] at hT HT
    obtain ⟨a, c, rfl⟩ := hT.form
    obtain ⟨M, hM⟩ : ∃ M, m.length = M := ⟨_, rfl⟩
    have hrow := hT.row
    have h0 := hT.hd
    rw [hM] at hrow h0 HT HV
    have hlm := hT.len
    rw [hM] at hlm
    have HML := Lib.hid hM
    clear hJk hT hV hB1 hB2
    by_cases hlt : k < N
    · have hst := st_more (now := now) (l := l) (k := k) (by rw [HN.out]; exact hlt)
      rw [HM.out, hM] at hst
      obtain ⟨hM0, hx, _⟩ := hst
      obtain ⟨q, rfl, hq1, hq2⟩ := OwM.addr hrow (by omega)
      obtain ⟨g0, g1, g2, g3, g4⟩ := OwM.at hrow hM 0 hM0
      obtain ⟨x, HX⟩ : ∃ y, Hid (g m 0 = y) := ⟨_, rfl⟩
      rw [HX.out] at g0 hx
      simp only [Nat.zero_mul, Nat.add_zero, Nat.zero_add] at g0
      have i2 : (0 : Int) < (M : Int) := by omega
      have d3 : decide ((0 : Int) < (M : Int)) = true := yb (by omega)
      have d3' : decide (0 < M) = true := yb hM0
      have d4 : decide (x.tk ≤ now) = true := yb hx
      clear hM hrow g1 g2 g3 g4 hx
      gi_upto_region 0 with fail
      refine wpIn_region_noPanic ?_
      refine wpIn_region_X (fun w' => Below wr.heap.size wr w') [19] (by kernel_rfl) (fun h => by obtain ⟨_, _, h⟩ := h; first | exact h | (obtain ⟨⟨_, h⟩, _⟩ := h; cases h)) (by kernel_rfl) ((Below.refl _ wr).drew) (fun hHeld => ?_)
      refine regX_tk (v := ?_) 0 4 rfl rfl (by kernel_rfl) (by kernel_rfl) (by kernel_rfl) (by decide) (by decide) (by kernel_rfl) (by kernel_rfl) (fun _ _ _ h => h) (by rfl) ?_ (by assumption) ?_
      rotate_left
      · (intro w3 hS; (try dsimp only at hS); have hg := cell_later hS c1; go_simp; (try with_reducible rfl))
      simp only [List.setIfInBounds_toArray, List.set_cons_zero, List.set_cons_succ]
      refine regX_tk (v := ?_) 1 5 rfl rfl (by kernel_rfl) (by kernel_rfl) (by kernel_rfl) (by decide) (by decide) (by kernel_rfl) (by kernel_rfl) (fun _ _ _ h => h) (by rfl) ?_ (by assumption) ?_
      rotate_left
      · (intro w3 hS; (try dsimp only at hS); skip; go_simp; (try with_reducible rfl))
      simp only [List.setIfInBounds_toArray, List.set_cons_zero, List.set_cons_succ]
      refine regX_tk (v := ?_) 2 6 rfl rfl (by kernel_rfl) (by kernel_rfl) (by kernel_rfl) (by decide) (by decide) (by kernel_rfl) (by kernel_rfl) (fun _ _ _ h => h) (by rfl) ?_ (by assumption) ?_
      rotate_left
      · (intro w3 hS; (try dsimp only at hS); have hg := cell_later hS h0; go_simp; (try with_reducible rfl))
      simp only [List.setIfInBounds_toArray, List.set_cons_zero, List.set_cons_succ]
      refine regX_tk (v := ?_) 3 7 rfl rfl (by kernel_rfl) (by kernel_rfl) (by kernel_rfl) (by decide) (by decide) (by kernel_rfl) (by kernel_rfl) (fun _ _ _ h => h) (by rfl) ?_ (by assumption) ?_
      rotate_left
      · (intro w3 hS; (try dsimp only at hS); skip; go_simp; (try with_reducible rfl))
      simp only [List.setIfInBounds_toArray, List.set_cons_zero, List.set_cons_succ]
      refine regX_tk (v := ?_) 4 8 rfl rfl (by kernel_rfl) (by kernel_rfl) (by kernel_rfl) (by decide) (by decide) (by kernel_rfl) (by kernel_rfl) (fun _ _ _ h => h) (by rfl) ?_ (by assumption) ?_
      rotate_left
      · (intro w3 hS; (try dsimp only at hS); skip; go_simp; (try with_reducible rfl))
      simp only [List.setIfInBounds_toArray, List.set_cons_zero, List.set_cons_succ]
      refine regX_tk (v := ?_) 5 9 rfl rfl (by kernel_rfl) (by kernel_rfl) (by kernel_rfl) (by decide) (by decide) (by kernel_rfl) (by kernel_rfl) (fun _ _ _ h => h) (by rfl) ?_ (by assumption) ?_
      rotate_left
      · (intro w3 hS; (try dsimp only at hS); skip; go_simp; (try with_reducible rfl))
      simp only [List.setIfInBounds_toArray, List.set_cons_zero, List.set_cons_succ]
      refine regX_tk (v := ?_) 6 10 rfl rfl (by kernel_rfl) (by kernel_rfl) (by kernel_rfl) (by decide) (by decide) (by kernel_rfl) (by kernel_rfl) (fun _ _ _ h => h) (by rfl) ?_ (by assumption) ?_
      rotate_left
      · (intro w3 hS; (try dsimp only at hS); have hg := cell_later hS c1; go_simp; (try with_reducible rfl))
      simp only [List.setIfInBounds_toArray, List.set_cons_zero, List.set_cons_succ]
      refine regX_tk (v := ?_) 7 11 rfl rfl (by kernel_rfl) (by kernel_rfl) (by kernel_rfl) (by decide) (by decide) (by kernel_rfl) (by kernel_rfl) (fun _ _ _ h => h) (by rfl) ?_ (by assumption) ?_
      rotate_left
      · (intro w3 hS; (try dsimp only at hS); skip; go_simp; (try with_reducible rfl))
      simp only [List.setIfInBounds_toArray, List.set_cons_zero, List.set_cons_succ]
      refine regX_tk (v := ?_) 8 12 rfl rfl (by kernel_rfl) (by kernel_rfl) (by kernel_rfl) (by decide) (by decide) (by kernel_rfl) (by kernel_rfl) (fun _ _ _ h => h) (by rfl) ?_ (by assumption) ?_
      rotate_left
      · (intro w3 hS; (try dsimp only at hS); have hg := cell_later hS h0; go_simp; (try with_reducible rfl))
      simp only [List.setIfInBounds_toArray, List.set_cons_zero, List.set_cons_succ]
      refine regX_tk (v := ?_) 9 13 rfl rfl (by kernel_rfl) (by kernel_rfl) (by kernel_rfl) (by decide) (by decide) (by kernel_rfl) (by kernel_rfl) (fun _ _ _ h => h) (by rfl) ?_ (by assumption) ?_
      rotate_left
      · (intro w3 hS; (try dsimp only at hS); skip; go_simp; (try with_reducible rfl))
      simp only [List.setIfInBounds_toArray, List.set_cons_zero, List.set_cons_succ]
      refine regX_tk (v := ?_) 10 14 rfl rfl (by kernel_rfl) (by kernel_rfl) (by kernel_rfl) (by decide) (by decide) (by kernel_rfl) (by kernel_rfl) (fun _ _ _ h => h) (by rfl) ?_ (by assumption) ?_
      rotate_left
      · (intro w3 hS; (try dsimp only at hS); skip; go_simp; (try with_reducible rfl))
      simp only [List.setIfInBounds_toArray, List.set_cons_zero, List.set_cons_succ]
      refine regX_tk (v := ?_) 11 15 rfl rfl (by kernel_rfl) (by kernel_rfl) (by kernel_rfl) (by decide) (by decide) (by kernel_rfl) (by kernel_rfl) (fun _ _ _ h => h) (by rfl) ?_ (by assumption) ?_
      rotate_left
      · (intro w3 hS; (try dsimp only at hS); have hg := cell_later hS g0; go_simp; (try with_reducible rfl))
      simp only [List.setIfInBounds_toArray, List.set_cons_zero, List.set_cons_succ]
      refine regX_tk (v := ?_) 12 16 rfl rfl (by kernel_rfl) (by kernel_rfl) (by kernel_rfl) (by decide) (by decide) (by kernel_rfl) (by kernel_rfl) (fun _ _ _ h => h) (by rfl) ?_ (by assumption) ?_
      rotate_left
      · (intro w3 hS; (try dsimp only at hS); have hg := cell_later hS c2; go_simp; (try with_reducible rfl))
      simp only [List.setIfInBounds_toArray, List.set_cons_zero, List.set_cons_succ]
      refine regX_tk (v := ?_) 13 17 rfl rfl (by kernel_rfl) (by kernel_rfl) (by kernel_rfl) (by decide) (by decide) (by kernel_rfl) (by kernel_rfl) (fun _ _ _ h => h) (by rfl) ?_ (by assumption) ?_
      rotate_left
      · (intro w3 hS; (try dsimp only at hS); skip; go_simp; (try with_reducible rfl))
      simp only [List.setIfInBounds_toArray, List.set_cons_zero, List.set_cons_succ]
      refine regX_tk (v := ?_) 14 18 rfl rfl (by kernel_rfl) (by kernel_rfl) (by kernel_rfl) (by decide) (by decide) (by kernel_rfl) (by kernel_rfl) (fun _ _ _ h => h) (by rfl) ?_ (by assumption) ?_
      rotate_left
      · (intro w3 hS; (try dsimp only at hS); skip; go_simp; (try with_reducible rfl))
      simp only [List.setIfInBounds_toArray, List.set_cons_zero, List.set_cons_succ]
      refine regX_tk (v := ?_) 15 19 rfl rfl (by kernel_rfl) (by kernel_rfl) (by kernel_rfl) (by decide) (by decide) (by kernel_rfl) (by kernel_rfl) (fun _ _ _ h => h) (by rfl) ?_ (by assumption) ?_
      rotate_left
      · (intro w3 hS; (try dsimp only at hS); skip; go_simp; (try with_reducible rfl))
      simp only [List.setIfInBounds_toArray, List.set_cons_zero, List.set_cons_succ]
      refine regX_pu (v := ?_) 16 20 rfl rfl (by kernel_rfl) (by kernel_rfl) (by kernel_rfl) (by kernel_rfl) (by kernel_rfl) (fun _ _ _ h => h) (fun _ _ => rfl) (by rfl) ?_ (by assumption) ?_
      rotate_left
      · (intro w3; go_simp; (try with_reducible rfl))
      simp only [List.setIfInBounds_toArray, List.set_cons_zero, List.set_cons_succ]
      refine regX_tk (v := ?_) 17 21 rfl rfl (by kernel_rfl) (by kernel_rfl) (by kernel_rfl) (by decide) (by decide) (by kernel_rfl) (by kernel_rfl) (fun _ _ _ h => h) (by rfl) ?_ (by assumption) ?_
      rotate_left
      · (intro w3 hS; (try dsimp only at hS); have hg := cell_later hS c1; go_simp; (try with_reducible rfl))
      simp only [List.setIfInBounds_toArray, List.set_cons_zero, List.set_cons_succ]
      refine regX_tk (v := ?_) 18 22 rfl rfl (by kernel_rfl) (by kernel_rfl) (by kernel_rfl) (by decide) (by decide) (by kernel_rfl) (by kernel_rfl) (fun _ _ _ h => h) (by rfl) ?_ (by assumption) ?_
      rotate_left
      · (intro w3 hS; (try dsimp only at hS); skip; go_simp; (try with_reducible rfl))
      simp only [List.setIfInBounds_toArray, List.set_cons_zero, List.set_cons_succ]
      have HTD := Lib.hid (HT.out.keep (Below.refl _ wr).drew)
      have hta : ∀ w : World, (Instr.typeAssert (.iface 41 x.v) 20 41 false).run Try.prog w = .ok x.v w := fun w => by kernel_rfl
      refine wpAnyX_turn (i := 19) (by kernel_rfl) rfl (by rfl) (by kernel_rfl) (fun K hK => ?_)
      go_simp
      refine (hpop_any _ base P _ m (M - 1) (by rw [HML.out]; omega) HTD.out).mono ?_
      rw [HX.out]
      rintro e w2 ⟨rfl, v2, hT2, hR2, hv2⟩
      refine hK _ _ ?_
      clear hK K
      refine wpAnyIn_take (i := 20) (v := ?_) rfl rfl (by kernel_rfl) (by kernel_rfl) (by kernel_rfl) (fun _ _ _ h => h) ⟨Or.inl ⟨by rfl, ?_⟩, fun _ => rfl⟩ ?_
      rotate_left
      · (intro w3; have hq := hta; go_simp; (try with_reducible rfl))
      simp only [Act.put, List.getElem_toArray, List.getElem_cons_succ, List.getElem_cons_zero, List.setIfInBounds_toArray, List.set_cons_zero, List.set_cons_succ]
      have hdr : Below wr.heap.size wr wr.drew := (Below.refl _ wr).drew
      have hJ2 := HJ.out k wr w2 HJK.out ((TR.of_below hdr).trans hR2 |>.below HT.out) (keepsK_of HT.out HV.out ((TR.of_below hdr).trans hR2).kx)
      have HV2 : Hid (∀ k, v2.ownBlock = some k → v.ownBlock = some k) := fun j hj => HV.out j (hv2 j hj)
      have hxl : Hid (g (stL l k) 0 = x) := by unfold Hid; rw [HM.out]; exact HX.out
      obtain ⟨fn, tmps, assign, body, hy, hRd⟩ := HY.out k w2 hlt hJ2
      rw [hxl.out] at hy
      refine wpAnyIn_ready (rs := [21]) (by kernel_rfl) (by simp) ?_
      refine AllReadyIn.cons rfl (fun K hK => ?_) AllReadyIn.nil
      have HTM2 := Lib.hid hT2
      have HKX := Lib.hid ((TR.of_below hdr).trans hR2).kx
      have HB12 := Lib.hid (HKX.out.box (fun h => HX1.out (h.elim .inl (fun h => .inr (HV.out _ h)))) HB1.out)
      have HB22 := Lib.hid (HKX.out.box (fun h => HX2.out (h.elim .inl (fun h => .inr (HV.out _ h)))) HB2.out)
      have HMO : Hid (outL m 0 = stL l (k + 1)) := by unfold Hid; rw [← HM.out]; rfl
      clear hT2 hR2 hv2 hJ2 c1 c2 h0 g0 hdr
      gi_wp2
      refine ⟨fun h0 => by simp [Fence.wide] at h0, hRd.mono ?_⟩
      rintro e w4 ⟨rfl, hJ4, hB4, hq4⟩
      have HJ4 := Lib.hid hJ4
      have HT4 := Lib.hid (HTM2.out.keepK HV2.out hq4)
      have HB14 : Hid (BoxN w4 b1 52 #[.pointer (some ⟨P, 0, none⟩)]) := hq4 b1 _ HB12.out (by simp [qH, Obj.isCells])
      have HB24 : Hid (BoxN w4 b2 3 #[.int .i64 now]) := hq4 b2 _ HB22.out (by simp [qH, Obj.isCells])
      clear hy hRd hJ4 hB4 hq4
      refine hK _ _ ?_
      clear hK K
      refine wpAnyIn_take (i := 22) (v := ?_) rfl rfl (by kernel_rfl) (by kernel_rfl) (by kernel_rfl) (fun _ _ _ h => h) ⟨Or.inl ⟨by rfl, ?_⟩, fun _ => rfl⟩ ?_
      rotate_left
      · (intro w3; skip; go_simp; (try with_reducible rfl))
      simp only [Act.put, List.getElem_toArray, List.getElem_cons_succ, List.getElem_cons_zero, List.setIfInBounds_toArray, List.set_cons_zero, List.set_cons_succ]
      refine wpAnyIn_done (by kernel_rfl) ?_ _
      refine NoPanic.normal ?_
      gi_wp2
      go_roundw
      case rel => exact ⟨k + 1, v2, by omega, HJ4.out, HMO.out ▸ HT4.out, HV2.out, HB14.out, HB24.out⟩
      case measure =>
        have e1 := lenH_of HT4.out
        have e2 := lenH_of HT.out
        rw [out_len, HML.out] at e1
        rw [HML.out] at e2
        show lenH w4 P < lenH wr P
        omega
    · obtain rfl : k = N := by omega
      have hst := st_last HN.out
      rw [HM.out, hM] at hst
      have hno := hst.1
      have HRES : Hid (∃ v', TM wr base P v' (stL l k)) := ⟨_, HM.out ▸ HT.out⟩
      clear hst
      by_cases hM0 : 0 < M
      · obtain ⟨q, rfl, hq1, hq2⟩ := OwM.addr hrow (by omega)
        obtain ⟨g0, g1, g2, g3, g4⟩ := OwM.at hrow hM 0 hM0
        obtain ⟨x, HX⟩ : ∃ y, Hid (g m 0 = y) := ⟨_, rfl⟩
        rw [HX.out] at g0 hno
        have hx : ¬ x.tk ≤ now := fun h => hno ⟨hM0, h⟩
        simp only [Nat.zero_mul, Nat.add_zero, Nat.zero_add] at g0
        have i2 : (0 : Int) < (M : Int) := by omega
        have d3 : decide ((0 : Int) < (M : Int)) = true := yb (by omega)
        have d3' : decide (0 < M) = true := yb hM0
        have d4 : decide (x.tk ≤ now) = false := nb hx
        clear hM hrow g1 g2 g3 g4 hx hno
        gi_upto_region 0 with fail
        refine wpIn_region_noPanic ?_
        refine wpIn_region_X (fun w' => Below wr.heap.size wr w') [22] (by kernel_rfl) (fun h => by obtain ⟨_, _, h⟩ := h; first | exact h | (obtain ⟨⟨_, h⟩, _⟩ := h; cases h)) (by kernel_rfl) ((Below.refl _ wr).drew) (fun hHeld => ?_)
        refine regX_tk (v := ?_) 0 4 rfl rfl (by kernel_rfl) (by kernel_rfl) (by kernel_rfl) (by decide) (by decide) (by kernel_rfl) (by kernel_rfl) (fun _ _ _ h => h) (by rfl) ?_ (by assumption) ?_
        rotate_left
        · (intro w3 hS; (try dsimp only at hS); have hg := cell_later hS c1; go_simp; (try with_reducible rfl))
        simp only [List.setIfInBounds_toArray, List.set_cons_zero, List.set_cons_succ]
        refine regX_tk (v := ?_) 1 5 rfl rfl (by kernel_rfl) (by kernel_rfl) (by kernel_rfl) (by decide) (by decide) (by kernel_rfl) (by kernel_rfl) (fun _ _ _ h => h) (by rfl) ?_ (by assumption) ?_
        rotate_left
        · (intro w3 hS; (try dsimp only at hS); skip; go_simp; (try with_reducible rfl))
        simp only [List.setIfInBounds_toArray, List.set_cons_zero, List.set_cons_succ]
        refine regX_tk (v := ?_) 2 6 rfl rfl (by kernel_rfl) (by kernel_rfl) (by kernel_rfl) (by decide) (by decide) (by kernel_rfl) (by kernel_rfl) (fun _ _ _ h => h) (by rfl) ?_ (by assumption) ?_
        rotate_left
        · (intro w3 hS; (try dsimp only at hS); have hg := cell_later hS h0; go_simp; (try with_reducible rfl))
        simp only [List.setIfInBounds_toArray, List.set_cons_zero, List.set_cons_succ]
        refine regX_tk (v := ?_) 3 7 rfl rfl (by kernel_rfl) (by kernel_rfl) (by kernel_rfl) (by decide) (by decide) (by kernel_rfl) (by kernel_rfl) (fun _ _ _ h => h) (by rfl) ?_ (by assumption) ?_
        rotate_left
        · (intro w3 hS; (try dsimp only at hS); skip; go_simp; (try with_reducible rfl))
        simp only [List.setIfInBounds_toArray, List.set_cons_zero, List.set_cons_succ]
        refine regX_tk (v := ?_) 4 8 rfl rfl (by kernel_rfl) (by kernel_rfl) (by kernel_rfl) (by decide) (by decide) (by kernel_rfl) (by kernel_rfl) (fun _ _ _ h => h) (by rfl) ?_ (by assumption) ?_
        rotate_left
        · (intro w3 hS; (try dsimp only at hS); skip; go_simp; (try with_reducible rfl))
        simp only [List.setIfInBounds_toArray, List.set_cons_zero, List.set_cons_succ]
        refine regX_tk (v := ?_) 5 9 rfl rfl (by kernel_rfl) (by kernel_rfl) (by kernel_rfl) (by decide) (by decide) (by kernel_rfl) (by kernel_rfl) (fun _ _ _ h => h) (by rfl) ?_ (by assumption) ?_
        rotate_left
        · (intro w3 hS; (try dsimp only at hS); skip; go_simp; (try with_reducible rfl))
        simp only [List.setIfInBounds_toArray, List.set_cons_zero, List.set_cons_succ]
        refine regX_tk (v := ?_) 6 10 rfl rfl (by kernel_rfl) (by kernel_rfl) (by kernel_rfl) (by decide) (by decide) (by kernel_rfl) (by kernel_rfl) (fun _ _ _ h => h) (by rfl) ?_ (by assumption) ?_
        rotate_left
        · (intro w3 hS; (try dsimp only at hS); have hg := cell_later hS c1; go_simp; (try with_reducible rfl))
        simp only [List.setIfInBounds_toArray, List.set_cons_zero, List.set_cons_succ]
        refine regX_tk (v := ?_) 7 11 rfl rfl (by kernel_rfl) (by kernel_rfl) (by kernel_rfl) (by decide) (by decide) (by kernel_rfl) (by kernel_rfl) (fun _ _ _ h => h) (by rfl) ?_ (by assumption) ?_
        rotate_left
        · (intro w3 hS; (try dsimp only at hS); skip; go_simp; (try with_reducible rfl))
        simp only [List.setIfInBounds_toArray, List.set_cons_zero, List.set_cons_succ]
        refine regX_tk (v := ?_) 8 12 rfl rfl (by kernel_rfl) (by kernel_rfl) (by kernel_rfl) (by decide) (by decide) (by kernel_rfl) (by kernel_rfl) (fun _ _ _ h => h) (by rfl) ?_ (by assumption) ?_
        rotate_left
        · (intro w3 hS; (try dsimp only at hS); have hg := cell_later hS h0; go_simp; (try with_reducible rfl))
        simp only [List.setIfInBounds_toArray, List.set_cons_zero, List.set_cons_succ]
        refine regX_tk (v := ?_) 9 13 rfl rfl (by kernel_rfl) (by kernel_rfl) (by kernel_rfl) (by decide) (by decide) (by kernel_rfl) (by kernel_rfl) (fun _ _ _ h => h) (by rfl) ?_ (by assumption) ?_
        rotate_left
        · (intro w3 hS; (try dsimp only at hS); skip; go_simp; (try with_reducible rfl))
        simp only [List.setIfInBounds_toArray, List.set_cons_zero, List.set_cons_succ]
        refine regX_tk (v := ?_) 10 14 rfl rfl (by kernel_rfl) (by kernel_rfl) (by kernel_rfl) (by decide) (by decide) (by kernel_rfl) (by kernel_rfl) (fun _ _ _ h => h) (by rfl) ?_ (by assumption) ?_
        rotate_left
        · (intro w3 hS; (try dsimp only at hS); skip; go_simp; (try with_reducible rfl))
        simp only [List.setIfInBounds_toArray, List.set_cons_zero, List.set_cons_succ]
        refine regX_tk (v := ?_) 11 15 rfl rfl (by kernel_rfl) (by kernel_rfl) (by kernel_rfl) (by decide) (by decide) (by kernel_rfl) (by kernel_rfl) (fun _ _ _ h => h) (by rfl) ?_ (by assumption) ?_
        rotate_left
        · (intro w3 hS; (try dsimp only at hS); have hg := cell_later hS g0; go_simp; (try with_reducible rfl))
        simp only [List.setIfInBounds_toArray, List.set_cons_zero, List.set_cons_succ]
        refine regX_tk (v := ?_) 12 16 rfl rfl (by kernel_rfl) (by kernel_rfl) (by kernel_rfl) (by decide) (by decide) (by kernel_rfl) (by kernel_rfl) (fun _ _ _ h => h) (by rfl) ?_ (by assumption) ?_
        rotate_left
        · (intro w3 hS; (try dsimp only at hS); have hg := cell_later hS c2; go_simp; (try with_reducible rfl))
        simp only [List.setIfInBounds_toArray, List.set_cons_zero, List.set_cons_succ]
        refine regX_tk (v := ?_) 13 17 rfl rfl (by kernel_rfl) (by kernel_rfl) (by kernel_rfl) (by decide) (by decide) (by kernel_rfl) (by kernel_rfl) (fun _ _ _ h => h) (by rfl) ?_ (by assumption) ?_
        rotate_left
        · (intro w3 hS; (try dsimp only at hS); skip; go_simp; (try with_reducible rfl))
        simp only [List.setIfInBounds_toArray, List.set_cons_zero, List.set_cons_succ]
        refine regX_tk (v := ?_) 14 18 rfl rfl (by kernel_rfl) (by kernel_rfl) (by kernel_rfl) (by decide) (by decide) (by kernel_rfl) (by kernel_rfl) (fun _ _ _ h => h) (by rfl) ?_ (by assumption) ?_
        rotate_left
        · (intro w3 hS; (try dsimp only at hS); skip; go_simp; (try with_reducible rfl))
        simp only [List.setIfInBounds_toArray, List.set_cons_zero, List.set_cons_succ]
        refine regX_tk (v := ?_) 15 19 rfl rfl (by kernel_rfl) (by kernel_rfl) (by kernel_rfl) (by decide) (by decide) (by kernel_rfl) (by kernel_rfl) (fun _ _ _ h => h) (by rfl) ?_ (by assumption) ?_
        rotate_left
        · (intro w3 hS; (try dsimp only at hS); skip; go_simp; (try with_reducible rfl))
        simp only [List.setIfInBounds_toArray, List.set_cons_zero, List.set_cons_succ]
        refine regX_nt 16 20 rfl rfl (by kernel_rfl) (by kernel_rfl) (by kernel_rfl) (by decide) (by decide) (by kernel_rfl) (by kernel_rfl) (fun _ _ _ h => h) (by rfl) (by assumption) ?_
        simp only [List.setIfInBounds_toArray, List.set_cons_zero, List.set_cons_succ]
        refine regX_nt 17 21 rfl rfl (by kernel_rfl) (by kernel_rfl) (by kernel_rfl) (by decide) (by decide) (by kernel_rfl) (by kernel_rfl) (fun _ _ _ h => h) (by rfl) (by assumption) ?_
        simp only [List.setIfInBounds_toArray, List.set_cons_zero, List.set_cons_succ]
        refine regX_nt 18 22 rfl rfl (by kernel_rfl) (by kernel_rfl) (by kernel_rfl) (by decide) (by decide) (by kernel_rfl) (by kernel_rfl) (fun _ _ _ h => h) (by rfl) (by assumption) ?_
        simp only [List.setIfInBounds_toArray, List.set_cons_zero, List.set_cons_succ]
        refine regX_nt 19 23 rfl rfl (by kernel_rfl) (by kernel_rfl) (by kernel_rfl) (by decide) (by decide) (by kernel_rfl) (by kernel_rfl) (fun _ _ _ h => h) (by rfl) (by assumption) ?_
        simp only [List.setIfInBounds_toArray, List.set_cons_zero, List.set_cons_succ]
        refine regX_nt 20 24 rfl rfl (by kernel_rfl) (by kernel_rfl) (by kernel_rfl) (by decide) (by decide) (by kernel_rfl) (by kernel_rfl) (fun _ _ _ h => h) (by rfl) (by assumption) ?_
        simp only [List.setIfInBounds_toArray, List.set_cons_zero, List.set_cons_succ]
        refine regX_nt 21 25 rfl rfl (by kernel_rfl) (by kernel_rfl) (by kernel_rfl) (by decide) (by decide) (by kernel_rfl) (by kernel_rfl) (fun _ _ _ h => h) (by rfl) (by assumption) ?_
        simp only [List.setIfInBounds_toArray, List.set_cons_zero, List.set_cons_succ]
        refine wpAnyX_turn (i := 22) (by kernel_rfl) rfl (by rfl) (by kernel_rfl) (fun K hK => ?_)
        go_simp
        refine hK _ _ ?_
        clear hK K
        refine wpAnyIn_done (by kernel_rfl) ?_ _
        refine NoPanic.normal ?_
        gi_wp2
        have hdr : Below wr.heap.size wr wr.drew := (Below.refl _ wr).drew
        have hbs : base ≤ wr.heap.size := by have := HT.out.ge; have := (Array.getElem?_eq_some_iff.1 HT.out.box).1; omega
        exact bodyPost_end (results_none rfl _ _ _) rfl ⟨⟨_, rfl⟩, HJ.out k wr wr.drew HJK.out (hdr.mono hbs) (keepsK.below hdr), by obtain ⟨v', h5⟩ := HRES.out; exact ⟨v', h5.keep hdr⟩⟩
      · obtain rfl : M = 0 := by omega
        have d3 : decide ((0 : Int) < ((0 : Nat) : Int)) = false := nb (by omega)
        clear hM hrow hno
        gi_upto_region 0 with fail
        refine wpIn_region_noPanic ?_
        refine wpIn_region_X (fun w' => Below wr.heap.size wr w') [22] (by kernel_rfl) (fun h => by obtain ⟨_, _, h⟩ := h; first | exact h | (obtain ⟨⟨_, h⟩, _⟩ := h; cases h)) (by kernel_rfl) ((Below.refl _ wr).drew) (fun hHeld => ?_)
        refine regX_tk (v := ?_) 0 4 rfl rfl (by kernel_rfl) (by kernel_rfl) (by kernel_rfl) (by decide) (by decide) (by kernel_rfl) (by kernel_rfl) (fun _ _ _ h => h) (by rfl) ?_ (by assumption) ?_
        rotate_left
        · (intro w3 hS; (try dsimp only at hS); have hg := cell_later hS c1; go_simp; (try with_reducible rfl))
        simp only [List.setIfInBounds_toArray, List.set_cons_zero, List.set_cons_succ]
        refine regX_tk (v := ?_) 1 5 rfl rfl (by kernel_rfl) (by kernel_rfl) (by kernel_rfl) (by decide) (by decide) (by kernel_rfl) (by kernel_rfl) (fun _ _ _ h => h) (by rfl) ?_ (by assumption) ?_
        rotate_left
        · (intro w3 hS; (try dsimp only at hS); skip; go_simp; (try with_reducible rfl))
        simp only [List.setIfInBounds_toArray, List.set_cons_zero, List.set_cons_succ]
        refine regX_tk (v := ?_) 2 6 rfl rfl (by kernel_rfl) (by kernel_rfl) (by kernel_rfl) (by decide) (by decide) (by kernel_rfl) (by kernel_rfl) (fun _ _ _ h => h) (by rfl) ?_ (by assumption) ?_
        rotate_left
        · (intro w3 hS; (try dsimp only at hS); have hg := cell_later hS h0; go_simp; (try with_reducible rfl))
        simp only [List.setIfInBounds_toArray, List.set_cons_zero, List.set_cons_succ]
        refine regX_tk (v := ?_) 3 7 rfl rfl (by kernel_rfl) (by kernel_rfl) (by kernel_rfl) (by decide) (by decide) (by kernel_rfl) (by kernel_rfl) (fun _ _ _ h => h) (by rfl) ?_ (by assumption) ?_
        rotate_left
        · (intro w3 hS; (try dsimp only at hS); skip; go_simp; (try with_reducible rfl))
        simp only [List.setIfInBounds_toArray, List.set_cons_zero, List.set_cons_succ]
        refine regX_tk (v := ?_) 4 8 rfl rfl (by kernel_rfl) (by kernel_rfl) (by kernel_rfl) (by decide) (by decide) (by kernel_rfl) (by kernel_rfl) (fun _ _ _ h => h) (by rfl) ?_ (by assumption) ?_
        rotate_left
        · (intro w3 hS; (try dsimp only at hS); skip; go_simp; (try with_reducible rfl))
        simp only [List.setIfInBounds_toArray, List.set_cons_zero, List.set_cons_succ]
        refine regX_tk (v := ?_) 5 9 rfl rfl (by kernel_rfl) (by kernel_rfl) (by kernel_rfl) (by decide) (by decide) (by kernel_rfl) (by kernel_rfl) (fun _ _ _ h => h) (by rfl) ?_ (by assumption) ?_
        rotate_left
        · (intro w3 hS; (try dsimp only at hS); skip; go_simp; (try with_reducible rfl))
        simp only [List.setIfInBounds_toArray, List.set_cons_zero, List.set_cons_succ]
        refine regX_nt 6 10 rfl rfl (by kernel_rfl) (by kernel_rfl) (by kernel_rfl) (by decide) (by decide) (by kernel_rfl) (by kernel_rfl) (fun _ _ _ h => h) (by rfl) (by assumption) ?_
        simp only [List.setIfInBounds_toArray, List.set_cons_zero, List.set_cons_succ]
        refine regX_nt 7 11 rfl rfl (by kernel_rfl) (by kernel_rfl) (by kernel_rfl) (by decide) (by decide) (by kernel_rfl) (by kernel_rfl) (fun _ _ _ h => h) (by rfl) (by assumption) ?_
        simp only [List.setIfInBounds_toArray, List.set_cons_zero, List.set_cons_succ]
        refine regX_nt 8 12 rfl rfl (by kernel_rfl) (by kernel_rfl) (by kernel_rfl) (by decide) (by decide) (by kernel_rfl) (by kernel_rfl) (fun _ _ _ h => h) (by rfl) (by assumption) ?_
        simp only [List.setIfInBounds_toArray, List.set_cons_zero, List.set_cons_succ]
        refine regX_nt 9 13 rfl rfl (by kernel_rfl) (by kernel_rfl) (by kernel_rfl) (by decide) (by decide) (by kernel_rfl) (by kernel_rfl) (fun _ _ _ h => h) (by rfl) (by assumption) ?_
        simp only [List.setIfInBounds_toArray, List.set_cons_zero, List.set_cons_succ]
        refine regX_nt 10 14 rfl rfl (by kernel_rfl) (by kernel_rfl) (by kernel_rfl) (by decide) (by decide) (by kernel_rfl) (by kernel_rfl) (fun _ _ _ h => h) (by rfl) (by assumption) ?_
        simp only [List.setIfInBounds_toArray, List.set_cons_zero, List.set_cons_succ]
        refine regX_nt 11 15 rfl rfl (by kernel_rfl) (by kernel_rfl) (by kernel_rfl) (by decide) (by decide) (by kernel_rfl) (by kernel_rfl) (fun _ _ _ h => h) (by rfl) (by assumption) ?_
        simp only [List.setIfInBounds_toArray, List.set_cons_zero, List.set_cons_succ]
        refine regX_nt 12 16 rfl rfl (by kernel_rfl) (by kernel_rfl) (by kernel_rfl) (by decide) (by decide) (by kernel_rfl) (by kernel_rfl) (fun _ _ _ h => h) (by rfl) (by assumption) ?_
        simp only [List.setIfInBounds_toArray, List.set_cons_zero, List.set_cons_succ]
        refine regX_nt 13 17 rfl rfl (by kernel_rfl) (by kernel_rfl) (by kernel_rfl) (by decide) (by decide) (by kernel_rfl) (by kernel_rfl) (fun _ _ _ h => h) (by rfl) (by assumption) ?_
        simp only [List.setIfInBounds_toArray, List.set_cons_zero, List.set_cons_succ]
        refine regX_tk (v := ?_) 14 18 rfl rfl (by kernel_rfl) (by kernel_rfl) (by kernel_rfl) (by decide) (by decide) (by kernel_rfl) (by kernel_rfl) (fun _ _ _ h => h) (by rfl) ?_ (by assumption) ?_
        rotate_left
        · (intro w3 hS; (try dsimp only at hS); skip; go_simp; (try with_reducible rfl))
        simp only [List.setIfInBounds_toArray, List.set_cons_zero, List.set_cons_succ]
        refine regX_tk (v := ?_) 15 19 rfl rfl (by kernel_rfl) (by kernel_rfl) (by kernel_rfl) (by decide) (by decide) (by kernel_rfl) (by kernel_rfl) (fun _ _ _ h => h) (by rfl) ?_ (by assumption) ?_
        rotate_left
        · (intro w3 hS; (try dsimp only at hS); skip; go_simp; (try with_reducible rfl))
        simp only [List.setIfInBounds_toArray, List.set_cons_zero, List.set_cons_succ]
        refine regX_nt 16 20 rfl rfl (by kernel_rfl) (by kernel_rfl) (by kernel_rfl) (by decide) (by decide) (by kernel_rfl) (by kernel_rfl) (fun _ _ _ h => h) (by rfl) (by assumption) ?_
        simp only [List.setIfInBounds_toArray, List.set_cons_zero, List.set_cons_succ]
        refine regX_nt 17 21 rfl rfl (by kernel_rfl) (by kernel_rfl) (by kernel_rfl) (by decide) (by decide) (by kernel_rfl) (by kernel_rfl) (fun _ _ _ h => h) (by rfl) (by assumption) ?_
        simp only [List.setIfInBounds_toArray, List.set_cons_zero, List.set_cons_succ]
        refine regX_nt 18 22 rfl rfl (by kernel_rfl) (by kernel_rfl) (by kernel_rfl) (by decide) (by decide) (by kernel_rfl) (by kernel_rfl) (fun _ _ _ h => h) (by rfl) (by assumption) ?_
        simp only [List.setIfInBounds_toArray, List.set_cons_zero, List.set_cons_succ]
        refine regX_nt 19 23 rfl rfl (by kernel_rfl) (by kernel_rfl) (by kernel_rfl) (by decide) (by decide) (by kernel_rfl) (by kernel_rfl) (fun _ _ _ h => h) (by rfl) (by assumption) ?_
        simp only [List.setIfInBounds_toArray, List.set_cons_zero, List.set_cons_succ]
        refine regX_nt 20 24 rfl rfl (by kernel_rfl) (by kernel_rfl) (by kernel_rfl) (by decide) (by decide) (by kernel_rfl) (by kernel_rfl) (fun _ _ _ h => h) (by rfl) (by assumption) ?_
        simp only [List.setIfInBounds_toArray, List.set_cons_zero, List.set_cons_succ]
        refine regX_nt 21 25 rfl rfl (by kernel_rfl) (by kernel_rfl) (by kernel_rfl) (by decide) (by decide) (by kernel_rfl) (by kernel_rfl) (fun _ _ _ h => h) (by rfl) (by assumption) ?_
        simp only [List.setIfInBounds_toArray, List.set_cons_zero, List.set_cons_succ]
        refine wpAnyX_turn (i := 22) (by kernel_rfl) rfl (by rfl) (by kernel_rfl) (fun K hK => ?_)
        go_simp
        refine hK _ _ ?_
        clear hK K
        refine wpAnyIn_done (by kernel_rfl) ?_ _
        refine NoPanic.normal ?_
        gi_wp2
        have hdr : Below wr.heap.size wr wr.drew := (Below.refl _ wr).drew
        have hbs : base ≤ wr.heap.size := by have := HT.out.ge; have := (Array.getElem?_eq_some_iff.1 HT.out.box).1; omega
        exact bodyPost_end (results_none rfl _ _ _) rfl ⟨⟨_, rfl⟩, HJ.out k wr wr.drew HJK.out (hdr.mono hbs) (keepsK.below hdr), by obtain ⟨v', h5⟩ := HRES.out; exact ⟨v', h5.keep hdr⟩⟩
end Go.Proofs.Ytigmhglkohjlhaa
