
/- Space: Make, Free, Held; the kit's comparisons; the law's own helpers. -/
import Derived.Test.YtcbolpjacoiclaaD
namespace Go.Proofs.Ytcbolpjacoiclaa
open Go.RowKit


theorem make_big (q : Int) (hq : 1099511627776 < q) (w : World) : Calls Try.prog 11 #[.int .u64 q] w (SpRes w 0 0 [] 2) := by
  have hd := yb hq
  go_enter Try.func11, Try.ntmps11
  go_wp2
  refine bodyPost_ret (v := .tuple #[Sv 0 0 (.slice none 0 0), .int .i64 2]) ?_ rfl (sv_nil _ _ _ (by repeat (first | assumption | exact Below.refl _ _ | apply Below.al | apply below_drewN | apply Below.drew | refine Below.next ?_ (by assumption) | refine Below.st ?_ (by first | exact Nat.le_refl _ | (simp; done) | (simp; omega)) _)))
  simp [results, Try.results11, go_sem]

theorem acc_zero (w : World) (p : Nat) (q : Int) (h : w.heap[p]? = some (.cells #[.int .u64 q, .int .u64 0, .slice none 0 0, .int .u64 0, .int .u64 0, .int .u64 0, .int .u64 0, .int .u64 0, .int .u64 0, .int .u64 0, .int .u64 0, .int .u64 0, .int .u64 0, .int .u64 0, .int .u64 0, .int .u64 0, .int .u64 0, .int .u64 0, .int .u64 0] 51 (0, 0))) :
    Acc w p q 0 (.slice none 0 0) (List.replicate 16 0) := ⟨by decide, h⟩

theorem make_ok (q : Int) (hq : q ≤ 1099511627776) (w : World) : Calls Try.prog 11 #[.int .u64 q] w (SpRes w q 0 (List.replicate 16 0) 0) := by
  have hd : decide (1099511627776 < q) = false := nb (by omega)
  obtain ⟨ys, HY⟩ : ∃ ys : List Int, Hid (List.replicate 16 0 = ys) := ⟨_, rfl⟩
  have HL : Hid (ys.length = 16) := by unfold Hid; rw [← HY.out]; rfl
  rw [HY.out]
  go_enter Try.func11, Try.ntmps11
  go_wp2_with (go_at_call 33; refine (space_any (w.heap.size + 1) q 0 (.slice none 0 0) ys _ (by rw [← HY.out]; refine acc_zero _ _ _ ?_; have := heap_last (w.alloc (.cells #[.int .u64 0, .int .u64 0, .slice none 0 0] 25)) (.cells #[.int .u64 q, .int .u64 0, .slice none 0 0, .int .u64 0, .int .u64 0, .int .u64 0, .int .u64 0, .int .u64 0, .int .u64 0, .int .u64 0, .int .u64 0, .int .u64 0, .int .u64 0, .int .u64 0, .int .u64 0, .int .u64 0, .int .u64 0, .int .u64 0, .int .u64 0] 51); rw [World.size_alloc] at this; exact this)).mono ?_; rintro e w4 ⟨v, rfl, hrd, hF, hb⟩; have hC : RC w4 w.heap.size := RC.keep hb (by simp [RC, go_sem]); obtain ⟨a, c, hv⟩ := hrd.form; rw [HL.out] at hv; subst hv)
  refine bodyPost_ret (v := .tuple #[Sv q 0 (.slice a 16 c), .int .i64 0]) ?_ rfl ?_
  · simp [results, Try.results11, go_sem, hC]
  · refine ⟨_, rfl, RdI.set _ (RdI.set _ (RdI.set _ hrd hF ?_) hF ?_) hF ?_, hF.mono ?_, (by repeat (first | assumption | exact Below.refl _ _ | apply Below.al | apply below_drewN | apply Below.drew | refine Below.next ?_ (by assumption) | refine Below.st ?_ (by first | exact Nat.le_refl _ | (simp; done) | (simp; omega)) _))⟩
    all_goals (first | omega | (simp; omega))

theorem freeS_bad (q st : Int) (rs : Value) (xs : List Int) (i : Inp q st xs) (er : Int) (he : chk q st xs = er) (hne : er ≠ 0) (w : World) (h : RdI .u64 w rs xs) :
    Calls Try.prog 16 #[Sv q st rs] w fun e w' => e = .returned (.tuple #[.int .u64 0, .int .i64 er]) ∧ Below w.heap.size w w' := by
  have HE := Lib.hid he; have HR := Lib.hid h
  clear he h
  have hne3 : (er != 0) = true := by simpa using hne
  go_enter Try.func16, Try.ntmps16
  go_wp2_with (go_at_call 35; refine (of_no q st rs xs i er HE.out hne _ (HR.out.keep (by repeat (first | assumption | exact Below.refl _ _ | apply Below.al | apply below_drewN | apply Below.drew | refine Below.next ?_ (by assumption) | refine Below.st ?_ (by first | exact Nat.le_refl _ | (simp; done) | (simp; omega)) _)))).mono ?_; rintro e w1 ⟨rfl, hb⟩)
  go_ret2
  exact ⟨rfl, (by repeat (first | assumption | exact Below.refl _ _ | apply Below.al | apply below_drewN | apply Below.drew | refine Below.next ?_ (by assumption) | refine Below.st ?_ (by first | exact Nat.le_refl _ | (simp; done) | (simp; omega)) _))⟩
theorem heldS_bad (q st : Int) (rs : Value) (xs : List Int) (i : Inp q st xs) (er : Int) (he : chk q st xs = er) (hne : er ≠ 0) (w : World) (h : RdI .u64 w rs xs) :
    Calls Try.prog 18 #[Sv q st rs] w fun e w' => e = .returned (.tuple #[.int .u64 0, .int .i64 er]) ∧ Below w.heap.size w w' := by
  have HE := Lib.hid he; have HR := Lib.hid h
  clear he h
  have hne3 : (er != 0) = true := by simpa using hne
  go_enter Try.func18, Try.ntmps18
  go_wp2_with (go_at_call 35; refine (of_no q st rs xs i er HE.out hne _ (HR.out.keep (by repeat (first | assumption | exact Below.refl _ _ | apply Below.al | apply below_drewN | apply Below.drew | refine Below.next ?_ (by assumption) | refine Below.st ?_ (by first | exact Nat.le_refl _ | (simp; done) | (simp; omega)) _)))).mono ?_; rintro e w1 ⟨rfl, hb⟩)
  go_ret2
  exact ⟨rfl, (by repeat (first | assumption | exact Below.refl _ _ | apply Below.al | apply below_drewN | apply Below.drew | refine Below.next ?_ (by assumption) | refine Below.st ?_ (by first | exact Nat.le_refl _ | (simp; done) | (simp; omega)) _))⟩
theorem freeS_ok (q st : Int) (rs : Value) (xs : List Int) (g : Good q st xs) (w : World) (h : RdI .u64 w rs xs) :
    Calls Try.prog 16 #[Sv q st rs] w fun e w' => e = .returned (.tuple #[.int .u64 (q - st - xs.sum), .int .i64 0]) ∧ Below w.heap.size w w' := by
  have HG := Lib.hid g; have HR := Lib.hid h
  clear g h
  go_enter Try.func16, Try.ntmps16
  go_wp2_with (first
    | (go_at_call 35; refine (of_yes q st rs xs HG.out _ (HR.out.keep (by repeat (first | assumption | exact Below.refl _ _ | apply Below.al | apply below_drewN | apply Below.drew | refine Below.next ?_ (by assumption) | refine Below.st ?_ (by first | exact Nat.le_refl _ | (simp; done) | (simp; omega)) _)))).mono ?_; rintro e w1 ⟨p, rfl, hp, hA, hb⟩; have HA := Lib.hid hA; clear hA)
    | (go_at_call 36; refine (free_any p q st rs xs HG.out _ HA.out).mono ?_; rintro e w2 ⟨rfl, hb⟩)
    | fail)
  go_ret2
  exact ⟨rfl, (by repeat (first | assumption | exact Below.refl _ _ | apply Below.al | apply below_drewN | apply Below.drew | refine Below.next ?_ (by assumption) | refine Below.st ?_ (by first | exact Nat.le_refl _ | (simp; done) | (simp; omega)) _))⟩
theorem heldS_ok (q st : Int) (rs : Value) (xs : List Int) (g : Good q st xs) (w : World) (h : RdI .u64 w rs xs) :
    Calls Try.prog 18 #[Sv q st rs] w fun e w' => e = .returned (.tuple #[.int .u64 xs.sum, .int .i64 0]) ∧ Below w.heap.size w w' := by
  have HT := Lib.hid g.tot
  have HG := Lib.hid g; have HR := Lib.hid h
  clear g h
  go_enter Try.func18, Try.ntmps18
  go_wp2_with (first
    | (go_at_call 35; refine (of_yes q st rs xs HG.out _ (HR.out.keep (by repeat (first | assumption | exact Below.refl _ _ | apply Below.al | apply below_drewN | apply Below.drew | refine Below.next ?_ (by assumption) | refine Below.st ?_ (by first | exact Nat.le_refl _ | (simp; done) | (simp; omega)) _)))).mono ?_; rintro e w1 ⟨p, rfl, hp, hA, hb⟩; have HA := Lib.hid hA; clear hA)
    | (go_at_call 37; refine (held_any p q st rs xs HG.out.gxs _ HA.out).mono ?_; rintro e w2 ⟨rfl, hw⟩; subst hw)
    | fail)
  go_ret2
  exact ⟨by rw [HT.out]; rfl, (by repeat (first | assumption | exact Below.refl _ _ | apply Below.al | apply below_drewN | apply Below.drew | refine Below.next ?_ (by assumption) | refine Below.st ?_ (by first | exact Nat.le_refl _ | (simp; done) | (simp; omega)) _))⟩

/-! the kit -/
theorem ownNumbers_any (v : Value) (xs : List Int) (hl : xs.length ≤ 1000000) (w : World) (h : RdI .u64 w v xs) :
    Calls Try.prog 32 #[v] w fun e w' => ∃ a c, e = .returned (.slice a xs.length c) ∧ RdI .u64 w' (.slice a xs.length c) xs ∧ Fresh w.heap.size (.slice a xs.length c) ∧ Below w.heap.size w w' := by
  have hrd0 : RdS (w.alloc (.cells #[] 22)) 1 v xs.length (ic .u64 xs) := h.keep (by repeat (first | assumption | exact Below.refl _ _ | apply Below.al | apply below_drewN | apply Below.drew | refine Below.next ?_ (by assumption) | refine Below.st ?_ (by first | exact Nat.le_refl _ | (simp; done) | (simp; omega)) _))
  have hown0 : (w.alloc (.cells #[] 22)).ownsRow w.heap.size 22 1 (.slice (some ⟨w.heap.size, 0, none⟩) 0 0) 0 [] := owns_block _ _ 22 1 0 [] _ (Nat.le_refl _) (heap_last w _) rfl (by decide)
  obtain ⟨N, hN⟩ : ∃ N, xs.length = N := ⟨_, rfl⟩
  rw [hN] at hl hrd0 ⊢
  have HN := Lib.hid hN
  have HRD := Lib.hid hrd0
  clear hN h hrd0
  go_enter Try.func32, Try.ntmps32
  go_wp2_with (at_builtin; refine wpList_app rfl (.tmp 3) (.tmp 4) 23 rfl w.heap.size 22 (.int .u64 0) 1 8 E22 _ 0 [] rfl hown0 _ N (ic .u64 xs) rfl HRD.out (ic_one _ _) ?c1 ?c2 ?c3 ?c4)
  case c1 => unfold maxLen; omega
  case c2 => omega
  case c3 => simp
  case c4 =>
    intro a3 c3 w3 hown3 hg3 hb3
    have hown3 : w3.ownsRow w.heap.size 22 1 (.slice a3 N c3) N (ic .u64 xs) := by with_reducible exact hown3
    have hR : RdI .u64 w3 (.slice a3 N c3) xs := by
      have := RdS.of_owns hown3 (by decide)
      unfold RdI; rw [HN.out]; exact this
    have hF := Fresh.of_owns hown3
    have hB : Below w.heap.size w w3 := Below.trans (Below.al (Below.refl _ _) _) hb3
    clear hown3 hown0 hg3
    have HR := Lib.hid hR
    clear hR
    go_wp2
    go_ret
    exact ⟨a3, c3, rfl, HR.out, hF, hB⟩

theorem mod_any (a n : Int) (hn : 1 ≤ n) (h1 : n ≤ 9223372036854775807) (ha : -9223372036854775808 ≤ a ∧ a ≤ 9223372036854775807) (w : World) :
    Calls Try.prog 25 #[.int .i64 a, .int .i64 n] w fun e w' => e = .returned (.int .i64 (a % n)) ∧ w = w' := by
  have hd : decide (n < 1) = false := nb (by omega)
  by_cases h0 : 0 ≤ a
  · have hm := Int.emod_nonneg a (show n ≠ 0 by omega)
    have hm2 := Int.emod_lt_of_pos a (show 0 < n by omega)
    have hd2 : decide (a % n < 0) = false := nb (by omega)
    go_enter Try.func25, Try.ntmps25
    go_wp2
    go_ret
    exact ⟨rfl, rfl⟩
  · have ht : a.tmod n = - ((-a) % n) := by
      rw [show a = -(-a) by omega, Int.neg_tmod, Int.tmod_eq_emod_of_nonneg (by omega)]; simp
    have hm := Int.emod_nonneg (-a) (show n ≠ 0 by omega)
    have hm2 := Int.emod_lt_of_pos (-a) (show 0 < n by omega)
    have he : a % n = if (-a) % n = 0 then 0 else n - (-a) % n := by
      by_cases hz : (-a) % n = 0
      · rw [if_pos hz]
        obtain ⟨c, hc⟩ := Int.dvd_of_emod_eq_zero hz
        exact Int.emod_eq_zero_of_dvd ⟨-c, by rw [Int.mul_neg, ← hc]; omega⟩
      · rw [if_neg hz]
        have e1 := Int.emod_add_mul_ediv (-a) n
        have : a = (n - (-a) % n) + n * (-((-a) / n) - 1) := by rw [Int.mul_sub, Int.mul_neg]; omega
        have e2 := Int.add_mul_emod_self_left (n - (-a) % n) n (-((-a) / n) - 1)
        rw [← this] at e2
        rw [e2]
        exact Int.emod_eq_of_lt (by omega) (by omega)
    obtain ⟨r, hr⟩ : ∃ r, (-a) % n = r := ⟨_, rfl⟩
    rw [hr] at ht hm hm2 he
    have HE := Lib.hid he
    obtain ⟨t, htt⟩ : ∃ t, a.tmod n = t := ⟨_, rfl⟩
    rw [htt] at ht
    have htn := Lib.hid ht
    have hb1 : t ≤ 0 := by omega
    have hb2 : -n < t := by omega
    have ha' : a < 0 := by omega
    clear he ht hr h0
    go_enter Try.func25, Try.ntmps25
    go_wp2
    · go_ret
      refine ⟨?_, rfl⟩
      rw [HE.out, if_neg (by have := htn.out; omega)]
      show Ending.returned (.int .i64 (t + n)) = _
      rw [htn.out, show n - r = -r + n by omega]
    · go_ret
      refine ⟨?_, rfl⟩
      rw [HE.out, if_pos (by have := htn.out; omega)]
      show Ending.returned (.int .i64 t) = _
      rw [show t = 0 by omega]

theorem at_any (v : Value) (l : List Int) (i : Nat) (w : World) (h : RdI .i64 w v l) :
    Calls Try.prog 43 #[v, .int .i64 (i : Int)] w fun e w' => e = .returned (.int .i64 (l.getD i 0)) ∧ w = w' := by
  have d0 : decide ((i : Int) < 0) = false := nb (by omega)
  obtain ⟨hm, ⟨a0, cap0, rfl, rfl⟩ | ⟨b, off, cap, rfl, hc, hr⟩⟩ := h.cases
  · have d1 : (0 : Int) ≤ (i : Int) := by omega
    go_enter Try.func43, Try.ntmps43
    go_wp2
    go_ret
    exact ⟨by simp, rfl⟩
  · unfold maxLen at hm
    obtain ⟨N, hN⟩ : ∃ N, l.length = N := ⟨_, rfl⟩
    rw [hN] at hm hc hr ⊢
    have HN := Lib.hid hN
    clear hN h
    by_cases hi : i < N
    · have hcell := hr i hi
      obtain ⟨x, HX⟩ : ∃ x, Hid (l.getD i 0 = x) := ⟨_, rfl⟩
      rw [HX.out] at hcell ⊢
      have d1 : decide ((N : Int) ≤ (i : Int)) = false := nb (by omega)
      clear hr
      go_enter Try.func43, Try.ntmps43
      go_wp2
      go_ret
      exact ⟨rfl, rfl⟩
    · have HX : Hid (l.getD i 0 = 0) := by
        unfold Hid; rw [List.getD_eq_getElem?_getD, List.getElem?_eq_none (by rw [HN.out]; omega)]; rfl
      rw [HX.out]
      have d1 : decide ((N : Int) ≤ (i : Int)) = true := yb (by omega)
      clear hr
      go_enter Try.func43, Try.ntmps43
      go_wp2
      go_ret
      exact ⟨rfl, rfl⟩

set_option maxHeartbeats 1000000 in
theorem sameNumbers_len (v u : Value) (xs ys : List Int) (hne : xs.length ≠ ys.length) (w : World) (h : RdI .u64 w v xs) (h2 : RdI .u64 w u ys) :
    Calls Try.prog 34 #[v, u] w fun e w' => e = .returned (.bool false) ∧ Below w.heap.size w w' := by
  obtain ⟨a, c, rfl⟩ := h.form
  obtain ⟨a2, c2, rfl⟩ := h2.form
  obtain ⟨N, hN⟩ : ∃ N, xs.length = N := ⟨_, rfl⟩
  obtain ⟨M, hM⟩ : ∃ M, ys.length = M := ⟨_, rfl⟩
  rw [hN, hM] at hne ⊢
  have hd : (((N : Nat) : Int) != (M : Int)) = true := by simp; omega
  clear h h2 hN hM
  go_enter Try.func34, Try.ntmps34
  go_wp2
  go_ret
  exact ⟨rfl, (by repeat (first | assumption | exact Below.refl _ _ | apply Below.al | apply below_drewN | apply Below.drew | refine Below.next ?_ (by assumption) | refine Below.st ?_ (by first | exact Nat.le_refl _ | (simp; done) | (simp; omega)) _))⟩

theorem take_eq_succ {xs ys : List Int} {k : Nat} (h : xs.take k = ys.take k) (h1 : k < xs.length) (h2 : k < ys.length) (h3 : xs.getD k 0 = ys.getD k 0) : xs.take (k + 1) = ys.take (k + 1) := by
  rw [List.take_succ_eq_append_getElem h1, List.take_succ_eq_append_getElem h2, h]
  simp [List.getElem?_eq_getElem h1, List.getElem?_eq_getElem h2] at h3
  rw [h3]

set_option maxHeartbeats 1000000 in
theorem sameNumbers_any (v u : Value) (xs ys : List Int) (he : xs.length = ys.length) (r : Bool) (hr : decide (xs = ys) = r) (w : World) (h : RdI .u64 w v xs) (h2 : RdI .u64 w u ys) :
    Calls Try.prog 34 #[v, u] w fun e w' => e = .returned (.bool r) ∧ Below w.heap.size w w' := by
  have HV := Lib.hid h.cases
  have HU := Lib.hid h2.cases
  obtain ⟨a, c, rfl⟩ := h.form
  obtain ⟨a2, c2, rfl⟩ := h2.form
  have hm : xs.length ≤ 9223372036854775807 := by have := h.cases.1; unfold maxLen at this; exact this
  obtain ⟨N, hN⟩ : ∃ N, xs.length = N := ⟨_, rfl⟩
  rw [← he, hN]
  rw [hN] at hm
  have HN := Lib.hid hN
  have HE := Lib.hid he
  have HR := Lib.hid hr
  clear hN he h h2 hr
  go_enter Try.func34, Try.ntmps34
  go_wp2
  go_loopw [5] (fun i wr => ∃ k : Nat, k ≤ N ∧ i = .int .i64 k ∧ Hid (xs.take k = ys.take k) ∧ Below w.heap.size w wr) (fun i _ => N - (intOf i).toNat)
  case atStart => exact ⟨0, Nat.zero_le _, rfl, by simp [Hid], Below.refl _ _⟩
  case round =>
    obtain ⟨k, hk, rfl, HT, hB⟩ := hrel
    by_cases hlt : k < N
    · obtain ⟨b, off, x, rfl, HX, hcx⟩ : ∃ b off x, a = some ⟨b, off, none⟩ ∧ Hid (xs.getD k 0 = x) ∧ wr.cell? ⟨b, off + k, none⟩ = some (.int .u64 x) := by
        obtain ⟨_, ⟨_, _, _, h0⟩ | ⟨b, off, cap, hv, hc, hr⟩⟩ := HV.out
        · have h1 := HN.out; have h3 : xs.length = 0 := by rw [h0]; rfl
          omega
        · simp only [Value.slice.injEq] at hv
          exact ⟨b, off, _, hv.1, rfl, cell_later hB (hr k (by rw [HN.out]; exact hlt))⟩
      obtain ⟨b2, off2, y, rfl, HY, hcy⟩ : ∃ b off x, a2 = some ⟨b, off, none⟩ ∧ Hid (ys.getD k 0 = x) ∧ wr.cell? ⟨b, off + k, none⟩ = some (.int .u64 x) := by
        obtain ⟨_, ⟨_, _, _, h0⟩ | ⟨b, off, cap, hv, hc, hr⟩⟩ := HU.out
        · have h1 := HN.out; have h2 := HE.out; have h3 : ys.length = 0 := by rw [h0]; rfl
          omega
        · simp only [Value.slice.injEq] at hv
          exact ⟨b, off, _, hv.1, rfl, cell_later hB (hr k (by rw [← HE.out, HN.out]; exact hlt))⟩
      have i1 : (0 : Int) ≤ (k : Int) := by omega
      have i2 : (k : Int) < (N : Int) := by omega
      by_cases hxy : x = y
      · subst hxy
        have HT2 : Hid (xs.take (k + 1) = ys.take (k + 1)) := take_eq_succ HT.out (by rw [HN.out]; exact hlt) (by rw [← HE.out, HN.out]; exact hlt) (by rw [HX.out, HY.out])
        go_wp2
        go_quiet (fail)
        go_wp2
        go_roundw
        case rel => exact ⟨k + 1, by omega, by go_num, HT2, below_drewN hB _⟩
        case measure => simp [intOf]; omega
      · have hne : (x != y) = true := by simpa using hxy
        have HF : Hid (r = false) := by
          unfold Hid; rw [← HR.out]; simp; intro e; subst e
          exact hxy (by rw [← HX.out, ← HY.out])
        go_wp2
        go_quiet (fail)
        go_wp2
        go_ret
        exact ⟨by rw [HF.out]; rfl, below_drewN hB _⟩
    · have HF : Hid (r = true) := by
        have h1 := HT.out
        rw [show k = N by omega] at h1
        unfold Hid; rw [← HR.out]; simp
        have e1 : xs.take N = xs := by rw [← HN.out]; exact List.take_length
        have e2 : ys.take N = ys := by rw [← HN.out, HE.out]; exact List.take_length
        rw [← e1, ← e2]; exact h1
      go_wp2
      go_ret
      exact ⟨by rw [HF.out]; rfl, hB⟩

end Go.Proofs.Ytcbolpjacoiclaa
