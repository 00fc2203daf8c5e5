



/- Timers: the laws' walks: put in and cancelled; the order of putting in; two ticks one after the other. -/
import Derived.Test.YtigmhglkohjlhaaLw
namespace Go.Proofs.Ytigmhglkohjlhaa
open Go.RowKit
set_option linter.unusedSimpArgs false
set_option linter.unusedVariables false
set_option maxRecDepth 100000

theorem wpList_appg {P : Program} {w : World} {ops : Array Oper} {rest : List Oper} {o : Oper} {a : Act} {Q : Exit → Act → World → Prop} (hw : Region.wanted o (yielded ops a.tmps) = true) (s x : Operand) (t : TypeId)
    (ho : o.op = .call { callee := .builtin .append, args := #[s, x], argTypes := #[t, t] }) (base : Nat) (e : TypeId) (z : Value) (size bytes : Nat) (E : ElemOk P t e z size bytes)
    (v : Value) (n : Nat) (xs : List Value) (hs : a.eval s = v) (hown : w.ownsRow base e size v n xs) (u : Value) (m : Nat) (cs : List Value) (hx : a.eval x = u) (hr : RdS w size u m cs) (h1 : ∀ c ∈ cs, c.oneCell' = true)
    (h63 : n + m ≤ maxLen) (hbytes : (n + m) * bytes ≤ 140737488355328) (hbase : base ≤ w.heap.size)
    (h : ∀ a' c' w', w'.ownsRow base e size (.slice a' (n + m) c') (n + m) (xs ++ cs) → w.grownBy w' v.ownBlock → Below base w w' → wpList P ops Q rest (a.put o.dst (.slice a' (n + m) c')) w') : wpList P ops Q (o :: rest) a w :=
  BigFrame.wpList_want hw fun _ hK => wp_app s x t ho base e z size bytes E v n xs hs hown u m cs hx hr h1 h63 hbytes hbase fun a' c' w' h2 h3 h4 => hK _ _ (h a' c' w' h2 h3 h4)
theorem mx_nn (x n : Int) (h : 0 < n) : 0 ≤ x % n ∧ x % n < n := ⟨Int.emod_nonneg _ (by omega), Int.emod_lt_of_pos _ h⟩
set_option maxHeartbeats 2000000 in
theorem lback_any (v : Value) (xs : List Int) (a b : Int) (hbx : ∀ x ∈ xs, Ib x) (ha : Ib a) (hbb : Ib b) (w : World) (h : RdI .i64 w v xs) : Calls Try.prog 10 #[v, .int .i64 a, .int .i64 b] w fun e w' => e = .returned (.bool true) ∧ Below w.heap.size w w' := by
  have hB := Below.refl w.heap.size w
  have HX := Lib.hid h
  obtain ⟨l, hmk, hg, hperm⟩ := made_mk xs
  have HMK := Lib.hid hmk
  have hlen : (madeW xs).length ≤ 30 := made_len xs
  obtain ⟨m, HM⟩ : ∃ m, Hid (madeW xs = m) := ⟨_, rfl⟩
  obtain ⟨p, HP, p0, p1⟩ : ∃ p, Hid (a % 25 = p) ∧ 0 ≤ p ∧ p < 25 := ⟨_, rfl, mx_nn a 25 (by omega)⟩
  obtain ⟨q, HQ, q0, q1⟩ : ∃ q, Hid (b % 9 = q) ∧ 0 ≤ q ∧ q < 9 := ⟨_, rfl, mx_nn b 9 (by omega)⟩
  obtain ⟨t, ht⟩ : ∃ t : Tm, t = ⟨p, 1 + q, 9, 9, 0⟩ := ⟨_, rfl⟩
  have hnd : ∀ x, x ∈ l → x.nd ≤ 3 := fun x hx => made_nd xs x (hperm.mem_iff.1 hx)
  have hll : l.length ≤ 30 := by rw [hperm.length_eq]; exact hlen
  have hput : putE l t = 0 := by
    have hv : valE t = 0 := by
      subst ht
      unfold valE idE
      simp only
      rw [if_neg (by omega), if_neg (by omega), if_neg (by omega)]
    unfold putE
    rw [if_neg (by rw [hv]; simp), if_neg ?_, if_neg (by omega)]
    rcases fnd_cases l t with ⟨h5, _⟩ | ⟨i, h5, h6, h7, _⟩
    · omega
    · have h8 := hnd _ (g_mem h6)
      have h9 : (g l i).nd = t.nd := h7.2.1
      rw [ht] at h9
      simp only at h9
      omega
  obtain ⟨hadd, hg2⟩ := add_ok hg hput
  obtain ⟨r, hcan, hg3, hp3⟩ := can_good hg2 (x := t) ((put_perm l t).mem_iff.2 List.mem_cons_self)
  obtain ⟨s, hs1, hs2, _⟩ := sort_same hg hg3 (List.Perm.cons_inv ((put_perm l t).symm.trans hp3.symm))
  have hpl := put_len l t
  obtain ⟨l2, hl2⟩ : ∃ l2, putL l t = l2 := ⟨_, rfl⟩
  rw [hl2] at hadd hcan hpl
  subst ht
  have HADD := Lib.hid hadd
  have HCAN := Lib.hid hcan
  have HS1 := Lib.hid hs1
  have HS2 := Lib.hid hs2
  obtain ⟨N, hN⟩ : ∃ N, l.length = N := ⟨_, rfl⟩
  have HLN := Lib.hid hN
  have HLN2 : Hid (l2.length = N + 1) := by unfold Hid; rw [hpl, hN]
  have hNs : N ≤ 30 := by omega
  have hml : m.length ≤ 1000000 := by rw [← HM.out]; omega
  clear h hmk hg hperm hlen hnd hput hadd hg2 hcan hg3 hp3 hs1 hs2 hpl hl2 hN hll
  have w1 : IntKind.i64.wrap (1 + q) = 1 + q := IntWalk.i64_in _ (by omega)
  have w2' : IntKind.i64.wrap ((N : Int) + 1) = (N : Int) + 1 := IntWalk.i64_in _ (by omega)
  have d1 : (((N : Int) + 1) == ((N : Int) + 1)) = true := by simp
  rw [HM.out] at HMK
  go_enter Try.func10, Try.ntmps10
  go_wp2_with fail
  refine (made_any _ xs hbx _ HX.out).mono ?_
  rw [HM.out]
  rintro e w1' ⟨a0, c0, rfl, ho, hb⟩
  have hB := Below.next hB hb
  have HO := Lib.hid (RdM.own ho rfl)
  clear ho hb
  go_wp2_with fail
  refine (make_any _ m hml _ HO.out).mono ?_
  rw [HMK.out]
  rintro e w2 ⟨v1, rfl, h1, hb⟩
  have hB := Below.next hB hb
  obtain ⟨a1, c1, rfl⟩ := h1.form
  have HL := Lib.hid h1
  clear h1
  clear hb HO
  rw [HLN.out] at HL ⊢
  go_wp2_with fail
  refine (mod_any a 25 (by omega) (by omega) ha _).mono ?_
  rw [HP.out]
  rintro e w9 ⟨rfl, rfl⟩
  go_wp2_with fail
  refine (mod_any b 9 (by omega) (by omega) hbb _).mono ?_
  rw [HQ.out]
  rintro e w9 ⟨rfl, rfl⟩
  obtain ⟨W3, hW3⟩ : ∃ W : World, W = w2.alloc (.cells #[.int .i64 p, .int .i64 (1 + q), .int .i64 9, .int .u64 9, .int .i64 0] 41) := ⟨_, rfl⟩
  have hb : Below w2.heap.size w2 W3 := by rw [hW3]; exact (by repeat (first | assumption | exact Below.refl _ _ | apply Below.al | apply below_drewN | apply Below.drew | refine Below.next ?_ (by assumption)))
  have bA : BoxN W3 w2.heap.size 41 #[.int .i64 p, .int .i64 (1 + q), .int .i64 9, .int .u64 9, .int .i64 0] := by rw [hW3]; exact BoxN.new _ _ _
  have hB := Below.next hB hb
  have HL := Lib.hid (RdL.keep hb HL.out)
  have x0 : W3.cell? ⟨w2.heap.size, 0, none⟩ = some (.int .i64 p) := (bA.cell 0).trans rfl
  have x1 : W3.cell? ⟨w2.heap.size, 1, none⟩ = some (.int .i64 (1 + q)) := (bA.cell 1).trans rfl
  have x2 : W3.cell? ⟨w2.heap.size, 2, none⟩ = some (.int .i64 9) := (bA.cell 2).trans rfl
  have x3 : W3.cell? ⟨w2.heap.size, 3, none⟩ = some (.int .u64 9) := (bA.cell 3).trans rfl
  have x4 : W3.cell? ⟨w2.heap.size, 4, none⟩ = some (.int .i64 0) := (bA.cell 4).trans rfl
  clear hb bA
  go_upto_region 3 with fail
  rw [← hW3]
  clear hW3
  go_wp2_with fail
  refine (add_any _ l ⟨p, 1 + q, 9, 9, 0⟩ _ HL.out).mono ?_
  rw [HADD.out]
  rintro e w4 ⟨v1, rfl, h1, hb⟩
  have hB := Below.next hB hb
  obtain ⟨a1, c1, rfl⟩ := h1.form
  have H2 := Lib.hid h1
  clear h1
  rw [HLN2.out] at H2 ⊢
  have HL := Lib.hid (RdL.keep hb HL.out)
  have x0 := cell_later hb x0
  have x1 := cell_later hb x1
  have x2 := cell_later hb x2
  have x3 := cell_later hb x3
  have x4 := cell_later hb x4
  clear hb
  go_wp2_with fail
  refine (cancel_any _ l2 ⟨p, 1 + q, 9, 9, 0⟩ _ H2.out).mono ?_
  rw [HCAN.out]
  rintro e w5 ⟨v1, rfl, h1, hb⟩
  have hB := Below.next hB hb
  obtain ⟨a1, c1, rfl⟩ := h1.form
  have H3 := Lib.hid h1
  clear h1
  have HL := Lib.hid (RdL.keep hb HL.out)
  clear hb x0 x1 x2 x3 x4 H2
  go_wp2_with fail
  refine (sorted_any _ l _ HL.out).mono ?_
  rw [HS1.out]
  rintro e w6 ⟨v1, rfl, h1, hb⟩
  have hB := Below.next hB hb
  obtain ⟨a1, c1, rfl⟩ := h1.form
  have H4 := Lib.hid h1
  clear h1
  have H3 := Lib.hid (RdL.keep hb H3.out)
  clear hb HL
  go_wp2_with fail
  refine (sorted_any _ r _ H3.out).mono ?_
  rw [HS2.out]
  rintro e w7 ⟨v1, rfl, h1, hb⟩
  have hB := Below.next hB hb
  obtain ⟨a1, c1, rfl⟩ := h1.form
  have H5 := Lib.hid h1
  clear h1
  have H4 := Lib.hid (RdL.keep hb H4.out)
  clear hb H3
  go_wp2_with fail
  refine (same_eq _ _ s _ H4.out H5.out).mono ?_
  rintro e w8 ⟨rfl, hb⟩
  have hB := Below.next hB hb
  clear H4 H5
  clear hb
  go_wp2_with fail
  refine (awake_any _).mono ?_
  rintro e wa ⟨rfl, hb⟩
  have hB := Below.next hB hb
  clear hb
  go_wp2_with fail
  go_ret
  exact ⟨rfl, hB⟩
/-- the list from behind, so many -/
def revN (l : List Tm) : Nat → List Tm
  | 0 => []
  | k + 1 => revN l k ++ [g l (l.length - 1 - k)]
theorem revN_len (l : List Tm) : ∀ k, (revN l k).length = k
  | 0 => rfl
  | k + 1 => by unfold revN; rw [List.length_append, revN_len l k]; rfl
theorem revN_eq (l : List Tm) : ∀ k, k ≤ l.length → revN l k = (l.drop (l.length - k)).reverse
  | 0, _ => by simp [revN]
  | k + 1, hk => by
    unfold revN
    rw [revN_eq l k (by omega), show l.drop (l.length - (k + 1)) = g l (l.length - (k + 1)) :: l.drop (l.length - k) by
      rw [List.drop_eq_getElem_cons (by omega), g_at (by omega)]
      congr 2
      omega]
    rw [List.reverse_cons]
    congr 3
    omega
theorem revN_all (l : List Tm) : (revN l l.length).Perm l := by
  rw [revN_eq l _ (Nat.le_refl _), Nat.sub_self, List.drop_zero]
  exact List.reverse_perm l
set_option maxHeartbeats 2000000 in
theorem lorder_any (v : Value) (xs : List Int) (hbx : ∀ x ∈ xs, Ib x) (w : World) (h : RdI .i64 w v xs) : Calls Try.prog 8 #[v] w fun e w' => e = .returned (.bool true) ∧ Below w.heap.size w w' := by
  have hB := Below.refl w.heap.size w
  have HX := Lib.hid h
  have hown := made_own xs
  have hlen : (madeW xs).length ≤ 30 := made_len xs
  obtain ⟨m, hm⟩ : ∃ m, madeW xs = m := ⟨_, rfl⟩
  have HM := Lib.hid hm
  rw [hm] at hown hlen
  obtain ⟨N, hN⟩ : ∃ N, m.length = N := ⟨_, rfl⟩
  have hra := revN_all m
  rw [hN] at hra hlen
  obtain ⟨l, hmk, hg, hp⟩ := mk_all hown (by omega)
  obtain ⟨l2, hmk2, hg2, hp2⟩ := mk_all (hown.perm hra.symm) (by rw [revN_len]; omega)
  obtain ⟨s, hs1, hs2, hps⟩ := sort_same hg hg2 ((hp.trans hra.symm).trans hp2.symm)
  have HN := Lib.hid hN
  have HMK := Lib.hid hmk
  have HMK2 := Lib.hid hmk2
  have HS1 := Lib.hid hs1
  have HS2 := Lib.hid hs2
  have HSN : Hid (s.length = N) := by unfold Hid; rw [hps.length_eq, hp.length_eq, hN]
  have w1' : IntKind.i64.wrap ((N : Int) - 1) = (N : Int) - 1 := IntWalk.i64_in _ (by omega)
  clear h hm hown hmk hg hp hmk2 hg2 hp2 hs1 hs2 hps hra
  go_enter Try.func8, Try.ntmps8
  go_wp2_with fail
  refine (made_any _ xs hbx _ HX.out).mono ?_
  rw [HM.out, hN]
  rintro e w1 ⟨a0, c0, rfl, ho, hb⟩
  have hB := Below.next hB hb
  have HO := Lib.hid (RdM.own ho HN.out)
  have hbz := hb.size
  clear ho hb hN
  go_wp2_with fail
  go_loopw [4, 5] (fun ou ix wr => ∃ (k c : Nat) (i : Int) (a : Option Addr), k ≤ N ∧ ou = .slice a k c ∧ ix = .int .i64 i ∧ i = (N : Int) - 1 - (k : Int) ∧ wr.ownsRow w1.heap.size 41 5 (.slice a k c) k (rcs tmR (revN m k)) ∧ Below w1.heap.size w1 wr) (fun ou _ _ => N - lenOf ou)
  case atStart => exact ⟨0, 0, _, none, by omega, rfl, rfl, by omega, ⟨rfl, .inl ⟨rfl, rfl⟩⟩, Below.refl _ _⟩
  case round =>
    obtain ⟨k, c, i, a, hk, rfl, rfl, hi, ho, hbr⟩ := hrel
    have HW := Lib.hid ho
    have hbrz := hbr.size
    clear ho
    by_cases hlt : k < N
    · obtain ⟨j, hj⟩ : ∃ j : Nat, N = k + 1 + j := ⟨N - (k + 1), by omega⟩
      obtain rfl : i = (j : Int) := by omega
      have hjN : j < N := by omega
      have HST : Hid (revN m (k + 1) = revN m k ++ [g m j]) := by
        unfold Hid
        show revN m k ++ [g m (m.length - 1 - k)] = _
        rw [HN.out, show N - 1 - k = j by omega]
      have d1 : decide ((0 : Int) ≤ (j : Int)) = true := yb (by omega)
      obtain ⟨b1, o1, rfl, hc1, g0, g1, g2, g3, g4⟩ := RdM.at (RdL.keep hbr HO.out) HN.out j hjN
      obtain ⟨t, ht⟩ : ∃ t, g m j = t := ⟨_, rfl⟩
      rw [ht] at g0 g1 g2 g3 g4 HST
      have n1 : (0 : Int) ≤ (j : Int) := by omega
      have n2 : (j : Int) < (N : Int) := by omega
      have hwj : IntKind.i64.wrap (j : Int) = (j : Int) := IntWalk.i64_in _ (by omega)
      have hwj1 : IntKind.i64.wrap ((j : Int) - 1) = (j : Int) - 1 := IntWalk.i64_in _ (by omega)
      have HJ := Lib.hid hj
      clear ht hi hj
      have HOX := Lib.hid (HW.out.alloc (.cells #[.int .i64 t.tk, .int .i64 t.kd, .int .i64 t.nd, .int .u64 t.sq, .int .i64 t.of] 41))
      have HBX := Lib.hid (RdS.box1 wr 41 t)
      have hBr2 := Below.al hbr (.cells #[.int .i64 t.tk, .int .i64 t.kd, .int .i64 t.nd, .int .u64 t.sq, .int .i64 t.of] 41)
      go_upto_region 5 with (at_builtin; refine wpList_app rfl (.tmp 23) (.tmp 28) 22 rfl w1.heap.size 41 _ 5 40 ETm _ k (rcs tmR (revN m k)) rfl HOX.out _ 1 (Tm.cs t) rfl HBX.out (Tm.cs_one _) ?_ ?_ ?_ ?_)
      · unfold maxLen; omega
      · omega
      · simp; omega
      intro a5 c5 w5 hown5 hg5 hb5
      have hB5 : Below w1.heap.size w1 w5 := hBr2.trans hb5
      have HW5 := Lib.hid (show w5.ownsRow w1.heap.size 41 5 (.slice a5 (k + 1) c5) (k + 1) (rcs tmR (revN m (k + 1))) by rw [HST.out, show rcs tmR (revN m k ++ [t]) = rcs tmR (revN m k) ++ Tm.cs t by rw [rcs_append]; simp [rcs, tmR]]; exact hown5)
      clear hown5 hg5 hb5 hBr2 HOX HBX g0 g1 g2 g3 g4 hbr
      go_wp2_with fail
      go_roundw
      case rel => exact ⟨k + 1, c5, _, a5, by omega, rfl, rfl, by have := HJ.out; omega, HW5.out, hB5⟩
      case measure => simp [lenOf]; omega
    · obtain rfl : k = N := by omega
      obtain rfl : i = -1 := by omega
      have d1 : decide ((0 : Int) ≤ -1) = false := rfl
      have hB := Below.next hB hbr
      have HO := Lib.hid (RdL.keep hbr HO.out)
      have HV := Lib.hid (RdM.own HW.out (revN_len m k))
      have q1 : ((k : Int) == (k : Int)) = true := by simp
      clear hi hbr HW
      go_wp2_with fail
      refine (make_any _ m (by rw [HN.out]; omega) _ HO.out).mono ?_
      rw [HMK.out]
      rintro e w2 ⟨v1, rfl, h1, hb⟩
      have hB := Below.next hB hb
      obtain ⟨a1, c1, rfl⟩ := h1.form
      have HL := Lib.hid h1
      clear h1
      have HV := Lib.hid (RdL.keep hb HV.out)
      clear hb HO
      go_wp2_with fail
      refine (make_any _ (revN m k) (by rw [revN_len]; omega) _ HV.out).mono ?_
      rw [HMK2.out]
      rintro e w3 ⟨v1, rfl, h1, hb⟩
      have hB := Below.next hB hb
      obtain ⟨a1, c1, rfl⟩ := h1.form
      have HL2 := Lib.hid h1
      clear h1
      have HL := Lib.hid (RdL.keep hb HL.out)
      clear hb HV
      go_wp2_with fail
      refine (sorted_any _ l _ HL.out).mono ?_
      rw [HS1.out]
      rintro e w4 ⟨v1, rfl, h1, hb⟩
      have hB := Below.next hB hb
      obtain ⟨a1, c1, rfl⟩ := h1.form
      have H4 := Lib.hid h1
      clear h1
      rw [HSN.out] at H4 ⊢
      have HL2 := Lib.hid (RdL.keep hb HL2.out)
      clear hb HL
      go_wp2_with fail
      refine (sorted_any _ l2 _ HL2.out).mono ?_
      rw [HS2.out]
      rintro e w5 ⟨v1, rfl, h1, hb⟩
      have hB := Below.next hB hb
      obtain ⟨a1, c1, rfl⟩ := h1.form
      have H5 := Lib.hid h1
      clear h1
      rw [HSN.out] at H5 ⊢
      have H4 := Lib.hid (RdL.keep hb H4.out)
      clear hb HL2
      go_wp2_with fail
      refine (same_eq _ _ s _ H4.out H5.out).mono ?_
      rintro e w6 ⟨rfl, hb⟩
      have hB := Below.next hB hb
      clear H4 H5
      clear hb
      go_wp2_with fail
      refine (awake_any _).mono ?_
      rintro e w7 ⟨rfl, hb⟩
      have hB := Below.next hB hb
      clear hb
      go_wp2_with fail
      go_ret
      exact ⟨rfl, hB⟩
set_option maxHeartbeats 2000000 in
theorem llater_any (v : Value) (xs : List Int) (a b : Int) (hbx : ∀ x ∈ xs, Ib x) (ha : Ib a) (hbb : Ib b) (w : World) (h : RdI .i64 w v xs) : Calls Try.prog 7 #[v, .int .i64 a, .int .i64 b] w fun e w' => e = .returned (.bool true) ∧ Below w.heap.size w w' := by
  have hB := Below.refl w.heap.size w
  have HX := Lib.hid h
  obtain ⟨l, hmk, hg, hperm⟩ := made_mk xs
  have hlen : (madeW xs).length ≤ 30 := made_len xs
  obtain ⟨m, HM⟩ : ∃ m, Hid (madeW xs = m) := ⟨_, rfl⟩
  obtain ⟨p, HP, p0, p1⟩ : ∃ p, Hid (a % 22 = p) ∧ 0 ≤ p ∧ p < 22 := ⟨_, rfl, mx_nn a 22 (by omega)⟩
  obtain ⟨q, HQ, q0, q1⟩ : ∃ q, Hid (b % 22 = q) ∧ 0 ≤ q ∧ q < 22 := ⟨_, rfl, mx_nn b 22 (by omega)⟩
  obtain ⟨lo, hlo⟩ : ∃ lo, min p q = lo := ⟨_, rfl⟩
  obtain ⟨hi, hhi⟩ : ∃ hi, max p q = hi := ⟨_, rfl⟩
  have hl0 : 0 ≤ lo ∧ lo ≤ hi ∧ hi < 22 := by
    omega
  have hd1 := due_good hg lo (by omega) (by omega)
  have hg2 := pops_good lo _ l rfl hg
  have hd2 := due_good hg2 hi (by omega) (by omega)
  have hd3 := due_good hg hi (by omega) (by omega)
  have hpl := pops_later hl0.2.1 _ l rfl
  have hg3 := pops_good hi _ l rfl hg
  obtain ⟨s, hs, _, _⟩ := sort_good hg3
  obtain ⟨A, hA⟩ : ∃ A, (pops lo l).1 = A := ⟨_, rfl⟩
  obtain ⟨R, hR⟩ : ∃ R, (pops lo l).2 = R := ⟨_, rfl⟩
  rw [hA, hR] at hpl hd1
  rw [hR] at hd2
  obtain ⟨B, hB2⟩ : ∃ B, (pops hi R).1 = B := ⟨_, rfl⟩
  obtain ⟨C, hC⟩ : ∃ C, (pops hi l).1 = C := ⟨_, rfl⟩
  obtain ⟨L, hL⟩ : ∃ L, (pops hi l).2 = L := ⟨_, rfl⟩
  rw [hL] at hs
  rw [hC, hL] at hd3
  rw [hB2, hC, hL] at hpl
  rw [hB2, hpl.2] at hd2
  have hpA := pops_len lo _ l rfl
  have hpR := pops_len hi _ R rfl
  rw [hA, hR] at hpA
  rw [hB2] at hpR
  have hAn : A.length ≤ 30 := by have := hperm.length_eq; omega
  have hBn : B.length ≤ 30 := by have := hperm.length_eq; omega
  have HMK := Lib.hid hmk
  have HD1 := Lib.hid hd1
  have HD2 := Lib.hid hd2
  have HD3 := Lib.hid hd3
  have HAB := Lib.hid hpl.1
  have HS := Lib.hid hs
  have hml : m.length ≤ 1000000 := by rw [← HM.out]; omega
  rw [HM.out] at HMK
  have HLO := Lib.hid hl0
  clear h hmk hg hperm hlen hd1 hg2 hd2 hd3 hpl hg3 hs hA hR hB2 hC hL hpA hpR hl0
  go_enter Try.func7, Try.ntmps7
  go_wp2_with fail
  refine (made_any _ xs hbx _ HX.out).mono ?_
  rw [HM.out]
  rintro e w1' ⟨a0, c0, rfl, ho, hb⟩
  have hB := Below.next hB hb
  have HO := Lib.hid (RdM.own ho rfl)
  clear ho hb
  go_wp2_with fail
  refine (make_any _ m hml _ HO.out).mono ?_
  rw [HMK.out]
  rintro e w2 ⟨v1, rfl, h1, hb⟩
  have hB := Below.next hB hb
  obtain ⟨a1, c1, rfl⟩ := h1.form
  have HL := Lib.hid h1
  clear h1
  clear hb HO
  go_wp2_with fail
  refine (mod_any a 22 (by omega) (by omega) ha _).mono ?_
  rw [HP.out]
  rintro e w9 ⟨rfl, rfl⟩
  go_wp2_with fail
  refine (mod_any b 22 (by omega) (by omega) hbb _).mono ?_
  rw [HQ.out]
  rintro e w9 ⟨rfl, rfl⟩
  go_wp2_with fail
  refine (due_any _ l lo _ HL.out).mono ?_
  rw [HD1.out]
  rintro e w3 ⟨v1, v2, rfl, h1, h2, hb⟩
  have hB := Below.next hB hb
  obtain ⟨a1, c1, rfl⟩ := h1.form
  obtain ⟨a2, c2, rfl⟩ := h2.form
  have HA := Lib.hid h1
  have HRR := Lib.hid h2
  clear h1 h2
  have HL := Lib.hid (RdL.keep hb HL.out)
  clear hb
  go_wp2_with fail
  refine (due_any _ R hi _ HRR.out).mono ?_
  rw [HD2.out]
  rintro e w4 ⟨v1, v2, rfl, h1, h2, hb⟩
  have hB := Below.next hB hb
  obtain ⟨a1, c1, rfl⟩ := h1.form
  obtain ⟨a2, c2, rfl⟩ := h2.form
  have HBB := Lib.hid h1
  have HL1 := Lib.hid h2
  clear h1 h2
  have HL := Lib.hid (RdL.keep hb HL.out)
  have HA := Lib.hid (RdL.keep hb HA.out)
  clear hb HRR
  go_wp2_with fail
  refine (due_any _ l hi _ HL.out).mono ?_
  rw [HD3.out]
  rintro e w5 ⟨v1, v2, rfl, h1, h2, hb⟩
  have hB := Below.next hB hb
  obtain ⟨a1, c1, rfl⟩ := h1.form
  obtain ⟨a2, c2, rfl⟩ := h2.form
  have HC := Lib.hid h1
  have HL2 := Lib.hid h2
  clear h1 h2
  have HA := Lib.hid (RdL.keep hb HA.out)
  have HBB := Lib.hid (RdL.keep hb HBB.out)
  have HL1 := Lib.hid (RdL.keep hb HL1.out)
  clear hb HL
  go_wp2_with fail
  refine (sorted_any _ L _ HL1.out).mono ?_
  rw [HS.out]
  rintro e w6 ⟨v1, rfl, h1, hb⟩
  have hB := Below.next hB hb
  obtain ⟨a1, c1, rfl⟩ := h1.form
  have H6 := Lib.hid h1
  clear h1
  have HA := Lib.hid (RdL.keep hb HA.out)
  have HBB := Lib.hid (RdL.keep hb HBB.out)
  have HC := Lib.hid (RdL.keep hb HC.out)
  have HL2 := Lib.hid (RdL.keep hb HL2.out)
  clear hb HL1
  go_wp2_with fail
  refine (sorted_any _ L _ HL2.out).mono ?_
  rw [HS.out]
  rintro e w7 ⟨v1, rfl, h1, hb⟩
  have hB := Below.next hB hb
  obtain ⟨a1, c1, rfl⟩ := h1.form
  have H7 := Lib.hid h1
  clear h1
  have HA := Lib.hid (RdL.keep hb HA.out)
  have HBB := Lib.hid (RdL.keep hb HBB.out)
  have HC := Lib.hid (RdL.keep hb HC.out)
  have H6 := Lib.hid (RdL.keep hb H6.out)
  clear hb HL2
  go_wp2_with fail
  refine (own_any _ A (by omega) _ HA.out).mono ?_
  rintro e w8 ⟨a8, c8, rfl, ho, hb8⟩
  have hz7 := hB.size
  have HBB := Lib.hid (RdL.keep hb8 HBB.out)
  have HO := Lib.hid ho
  have hz8 := hb8.size
  have HB8 := Lib.hid hb8
  clear ho hb8 HA
  go_wp2_with (at_builtin; refine wpList_appg (by rfl) (.tmp 93) (.tmp 94) 22 rfl w7.heap.size 41 _ 5 40 ETm _ A.length (rcs tmR A) rfl HO.out _ B.length (rcs tmR B) rfl HBB.out (rcs_one _ _) ?_ ?_ ?_ ?_)
  · unfold maxLen; omega
  · omega
  · omega
  intro a9 c9 w9 hown9 hg9 hb9
  have hb := HB8.out.trans hb9
  have hB := Below.next hB hb
  have H9 : Hid (RdM w9 (.slice a9 (A.length + B.length) c9) C) := by
    have h5 := hown9
    rw [← rcs_append, HAB.out] at h5
    exact RdM.own h5 (by rw [← HAB.out, List.length_append])
  have HC := Lib.hid (RdL.keep hb HC.out)
  have H6 := Lib.hid (RdL.keep hb H6.out)
  have H7 := Lib.hid (RdL.keep hb H7.out)
  clear hb hb9 hg9 hown9 HO HBB HB8
  go_wp2_with fail
  refine (same_eq _ _ C _ H9.out HC.out).mono ?_
  rintro e wa ⟨rfl, hb⟩
  have hB := Below.next hB hb
  clear H9 HC
  have H6 := Lib.hid (RdL.keep hb H6.out)
  have H7 := Lib.hid (RdL.keep hb H7.out)
  clear hb
  go_wp2_with fail
  refine (same_eq _ _ s _ H6.out H7.out).mono ?_
  rintro e wb ⟨rfl, hb⟩
  have hB := Below.next hB hb
  clear H6 H7
  clear hb
  go_wp2_with fail
  refine (awake_any _).mono ?_
  rintro e wc ⟨rfl, hb⟩
  have hB := Below.next hB hb
  clear hb
  go_wp2_with fail
  go_ret
  exact ⟨rfl, hB⟩
end Go.Proofs.Ytigmhglkohjlhaa
