


/- Routes: a hop, in both texts. -/
import Derived.Test.YtgmfifilgbbogaaRA
namespace Go.Proofs.Ytgmfifilgbbogaa
open Go.RowKit
set_option linter.unusedSimpArgs false
set_option linter.unusedVariables false
set_option maxRecDepth 100000

theorem bk_hop {c : Ct} {t n x y z : Int} (h : okC c) (ht : 0 ≤ t) (hn : 1 ≤ n ∧ n ≤ 1200) (hb : Bk c 0 t n x y z) : (z = 0 ∧ hopO c t n = some (x + c.dl) ∧ t ≤ 1099511627776 ∧ x ≤ c.en ∧ 0 ≤ x) ∨ (z ≠ 0 ∧ hopO c t n = none ∧ x = 0) := by
  have hnd := need_pos h hn.1
  have ⟨_, _, _, h0, h1, h2, h3, h4, h5, h6⟩ := h
  -- the position, by where t lies
  obtain ⟨m, hm, hmp, hme, hmt, hms⟩ : ∃ m, c.st ≤ m ∧ pos c t = c.rt * (m - c.st) ∧ m ≤ c.en ∧ (t ≤ c.en → m = max t c.st) ∧ (c.en < t → m = c.en) := by
    unfold pos
    by_cases h7 : t ≤ c.st
    · refine ⟨c.st, Int.le_refl _, by rw [if_pos h7]; simp, by omega, by omega, by omega⟩
    · exact ⟨min t c.en, by omega, by rw [if_neg h7], by omega, by omega, by omega⟩
  have hvm : vol c = c.rt * (m - c.st) + c.rt * (c.en - m) := by
    unfold vol
    rw [← Int.mul_add]
    congr 1
    omega
  have hpn := pos_nn c h t
  have hmx : max 0 (pos c t) = c.rt * (m - c.st) := by omega
  have hq : need c n ≤ c.en - m ↔ n ≤ c.rt * (c.en - m) := by
    unfold need
    rw [← Int.lt_add_one_iff, Int.ediv_lt_iff_lt_mul (by omega), Int.add_mul, Int.mul_comm (c.en - m) c.rt]
    omega
  have hbad : ∀ {x y : Int}, Bk c 0 t n x y z → z ≠ 0 → vol c < max 0 (pos c t) + n ∨ 1099511627776 < t → hopO c t n = none := by
    intro x y _ _ hl
    unfold hopO
    rw [if_neg ?_]
    intro hle
    by_cases hte : t ≤ c.en
    · rcases hl with hl | hl
      · rw [hmx, hvm] at hl
        have := hmt hte
        have : need c n ≤ c.en - m := by omega
        have := hq.1 this
        omega
      · omega
    · omega
  cases hb with
  | bad h9 => exact absurd h h9
  | tick h9 h8 =>
    have : ¬ (0 ≤ t ∧ t ≤ 1099511627776) := by simpa [tickB] using h8
    exact .inr ⟨by decide, hbad (.tick h9 h8) (by decide) (.inr (by omega)), rfl⟩
  | neg _ _ h9 => omega
  | big _ _ _ h9 => have := vol_bd c h; unfold vol at h9; omega
  | bytes _ _ _ _ h9 =>
    have : ¬ (1 ≤ n ∧ n ≤ 1099511627776) := by simpa [bytesB] using h9
    omega
  | late a1 a2 a3 a4 a5 a6 => exact .inr ⟨by decide, hbad (.late a1 a2 a3 a4 a5 a6) (by decide) (.inl a6), rfl⟩
  | fine a1 a2 a3 a4 a5 a6 =>
    have htt : 0 ≤ t ∧ t ≤ 1099511627776 := by simpa [tickB] using a2
    rw [hmx, hvm] at a6
    have hle := hq.2 (by omega)
    have hte : t ≤ c.en := Decidable.byContradiction fun hh => by have := hms (by omega); omega
    have hm2 := hmt hte
    have hth : thr c (max 0 (pos c t) + n) = m + need c n := by
      unfold thr need
      rw [hmx, show c.rt * (m - c.st) + n + c.rt - 1 = (n + c.rt - 1) + c.rt * (m - c.st) by omega, Int.add_mul_ediv_left _ _ (by omega)]
      omega
    refine .inl ⟨rfl, ?_, htt.2, by rw [hth]; omega, by rw [hth]; omega⟩
    unfold hopO
    rw [hth, if_pos (by omega), hm2]
/-- what a hop answers -/
def HopR (c : Ct) (t n : Int) (w : World) (e : Ending) (w' : World) : Prop := ∃ x, e = .returned (.tuple #[.int .i64 x, .bool (hopO c t n).isSome]) ∧ (∀ s, hopO c t n = some s → x = s) ∧ Below w.heap.size w w'
set_option maxHeartbeats 1000000 in
theorem hop_any (c : Ct) (t n : Int) (hok : okC c) (ht : 0 ≤ t) (hn : 1 ≤ n ∧ n ≤ 1200) (w : World) : Calls Try.prog 39 #[c.v, .int .i64 t, .int .i64 n] w (HopR c t n w) := by
  obtain ⟨x, y, z, hb⟩ := Bk.ex c 0 t n
  have hc := fun w => finish_any c t n x y z hb w
  obtain ⟨_, _, _, _, h1, h2, _, _, h5, h6⟩ := id hok
  obtain ⟨r, HR⟩ : ∃ r, Hid (hopO c t n = r) := ⟨_, Lib.hid rfl⟩
  have hbk := bk_hop hok ht hn hb
  unfold HopR
  rw [HR.out] at hbk ⊢
  obtain ⟨d, hd⟩ : ∃ d, c.dl = d := ⟨_, rfl⟩
  rw [hd] at hbk h5 h6
  have HD := Lib.hid hd
  have HC := Lib.hid hc
  clear hb hc hd HR
  obtain ⟨W, hW⟩ : ∃ W : World, W = w.alloc (.cells #[.int .i64 c.fr, .int .i64 c.dt, .int .i64 c.st, .int .i64 c.en, .int .i64 c.rt, .int .i64 c.dl] 52) := ⟨_, rfl⟩
  have hB : Below w.heap.size w W := by rw [hW]; exact (by repeat (first | assumption | exact Below.refl _ _ | apply Below.al | apply below_drewN | apply Below.drew | refine Below.next ?_ (by assumption)))
  have hA : BC W w.heap.size c := by rw [hW]; simp [BC, go_sem]
  go_enter Try.func39, Try.ntmps39
  go_upto_region 1 with fail
  rw [← hW]
  clear hW
  rcases hbk with ⟨rfl, rfl, hte, hxe, hx0⟩ | ⟨hz, rfl, rfl⟩
  · have hw1 : IntKind.i64.wrap (x + d) = x + d := IntWalk.i64_in _ (by omega)
    have hA6 : W.cell? ⟨w.heap.size, 5, none⟩ = some (.int .i64 d) := by rw [← HD.out]; exact hA.2.2.2.2.2
    have t1 : decide (t > 1099511627776) = false := nb (by omega)
    clear hte hxe
    go_wp2_with fail
    refine (HC.out _).mono ?_
    rintro e w1 ⟨rfl, hb1⟩
    have hA6 := cell_later hb1 hA6
    have hB1 := Below.next hB hb1
    clear hb1 hA
    go_wp2_with fail
    go_ret2
    exact ⟨_, rfl, fun s hs => by simpa using hs, hB1⟩
  · have hz2 : (z == 0) = false := by simpa using hz
    have hw1 : IntKind.i64.wrap (0 + d) = d := by rw [Int.zero_add]; exact IntWalk.i64_in _ (by omega)
    have hA6 : W.cell? ⟨w.heap.size, 5, none⟩ = some (.int .i64 d) := by rw [← HD.out]; exact hA.2.2.2.2.2
    by_cases hte : 1099511627776 < t
    · go_wp2_with fail
      go_ret2
      exact ⟨_, rfl, (by first | trivial | (intro s hs; cases hs)), hB⟩
    · have t1 : decide (t > 1099511627776) = false := nb (by omega)
      clear hz hte
      go_wp2_with fail
      refine (HC.out _).mono ?_
      rintro e w1 ⟨rfl, hb1⟩
      have hA6 := cell_later hb1 hA6
      have hB1 := Below.next hB hb1
      clear hb1 hA
      go_wp2_with fail
      go_ret2
      exact ⟨_, rfl, (by first | trivial | (intro s hs; cases hs)), hB1⟩
set_option maxHeartbeats 1000000 in
theorem rover_any (c : Ct) (t n : Int) (hok : okC c) (ht : 0 ≤ t) (hn : 1 ≤ n ∧ n ≤ 1200) (w : World) : Calls Try.prog 44 #[c.v, .int .i64 t, .int .i64 n] w (HopR c t n w) := by
  obtain ⟨x, y, z, hb⟩ := Bk.ex c 0 t n
  have hc := fun w => rfinish_any c t n x y z hb w
  obtain ⟨_, _, _, _, h1, h2, _, _, h5, h6⟩ := id hok
  obtain ⟨r, HR⟩ : ∃ r, Hid (hopO c t n = r) := ⟨_, Lib.hid rfl⟩
  have hbk := bk_hop hok ht hn hb
  unfold HopR
  rw [HR.out] at hbk ⊢
  obtain ⟨d, hd⟩ : ∃ d, c.dl = d := ⟨_, rfl⟩
  rw [hd] at hbk h5 h6
  have HD := Lib.hid hd
  have HC := Lib.hid hc
  clear hb hc hd HR
  obtain ⟨W, hW⟩ : ∃ W : World, W = w.alloc (.cells #[.int .i64 c.fr, .int .i64 c.dt, .int .i64 c.st, .int .i64 c.en, .int .i64 c.rt, .int .i64 c.dl] 52) := ⟨_, rfl⟩
  have hB : Below w.heap.size w W := by rw [hW]; exact (by repeat (first | assumption | exact Below.refl _ _ | apply Below.al | apply below_drewN | apply Below.drew | refine Below.next ?_ (by assumption)))
  have hA : BC W w.heap.size c := by rw [hW]; simp [BC, go_sem]
  go_enter Try.func44, Try.ntmps44
  go_upto_region 1 with fail
  rw [← hW]
  clear hW
  rcases hbk with ⟨rfl, rfl, hte, hxe, hx0⟩ | ⟨hz, rfl, rfl⟩
  · have hw1 : IntKind.i64.wrap (x + d) = x + d := IntWalk.i64_in _ (by omega)
    have hA6 : W.cell? ⟨w.heap.size, 5, none⟩ = some (.int .i64 d) := by rw [← HD.out]; exact hA.2.2.2.2.2
    have t1 : decide (t > 1099511627776) = false := nb (by omega)
    clear hte hxe
    go_wp2_with fail
    refine (HC.out _).mono ?_
    rintro e w1 ⟨rfl, hb1⟩
    have hA6 := cell_later hb1 hA6
    have hB1 := Below.next hB hb1
    clear hb1 hA
    go_wp2_with fail
    go_ret2
    exact ⟨_, rfl, fun s hs => by simpa using hs, hB1⟩
  · have hz2 : (z == 0) = false := by simpa using hz
    have hw1 : IntKind.i64.wrap (0 + d) = d := by rw [Int.zero_add]; exact IntWalk.i64_in _ (by omega)
    have hA6 : W.cell? ⟨w.heap.size, 5, none⟩ = some (.int .i64 d) := by rw [← HD.out]; exact hA.2.2.2.2.2
    clear hz
    go_wp2_with fail
    refine (HC.out _).mono ?_
    rintro e w1 ⟨rfl, hb1⟩
    have hA6 := cell_later hb1 hA6
    have hB1 := Below.next hB hb1
    clear hb1 hA
    go_wp2_with fail
    go_ret2
    exact ⟨_, rfl, (by first | trivial | (intro s hs; cases hs)), hB1⟩

set_option maxHeartbeats 1000000 in
theorem rover_is (c : Ct) (t n : Int) (hok : okC c) (ht : 0 ≤ t) (hn : 1 ≤ n ∧ n ≤ 1200) (w : World) : Calls Try.prog 44 #[c.v, .int .i64 t, .int .i64 n] w fun e w' => e = .returned (.tuple #[.int .i64 ((hopO c t n).getD c.dl), .bool (hopO c t n).isSome]) ∧ Below w.heap.size w w' := by
  obtain ⟨x, y, z, hb⟩ := Bk.ex c 0 t n
  have hc := fun w => rfinish_any c t n x y z hb w
  obtain ⟨_, _, _, _, h1, h2, _, _, h5, h6⟩ := id hok
  obtain ⟨r, HR⟩ : ∃ r, Hid (hopO c t n = r) := ⟨_, Lib.hid rfl⟩
  have hbk := bk_hop hok ht hn hb
  rw [HR.out] at hbk ⊢
  obtain ⟨d, hd⟩ : ∃ d, c.dl = d := ⟨_, rfl⟩
  rw [hd] at hbk h5 h6
  have HD := Lib.hid hd
  have HC := Lib.hid hc
  clear hb hc hd HR
  obtain ⟨W, hW⟩ : ∃ W : World, W = w.alloc (.cells #[.int .i64 c.fr, .int .i64 c.dt, .int .i64 c.st, .int .i64 c.en, .int .i64 c.rt, .int .i64 c.dl] 52) := ⟨_, rfl⟩
  have hB : Below w.heap.size w W := by rw [hW]; exact (by repeat (first | assumption | exact Below.refl _ _ | apply Below.al | apply below_drewN | apply Below.drew | refine Below.next ?_ (by assumption)))
  have hA : BC W w.heap.size c := by rw [hW]; simp [BC, go_sem]
  go_enter Try.func44, Try.ntmps44
  go_upto_region 1 with fail
  rw [← hW]
  clear hW
  have hA6 : W.cell? ⟨w.heap.size, 5, none⟩ = some (.int .i64 d) := by rw [← HD.out]; exact hA.2.2.2.2.2
  rcases hbk with ⟨rfl, rfl, hte, hxe, hx0⟩ | ⟨hz, rfl, rfl⟩
  · have hw1 : IntKind.i64.wrap (x + d) = x + d := IntWalk.i64_in _ (by omega)
    clear hte hxe
    go_wp2_with fail
    refine (HC.out _).mono ?_
    rintro e w1 ⟨rfl, hb1⟩
    have hA6 := cell_later hb1 hA6
    have hB1 := Below.next hB hb1
    clear hb1 hA
    go_wp2_with fail
    go_ret2
    exact ⟨rfl, hB1⟩
  · have hz2 : (z == 0) = false := by simpa using hz
    have hw1 : IntKind.i64.wrap (0 + d) = d := by rw [Int.zero_add]; exact IntWalk.i64_in _ (by omega)
    clear hz
    go_wp2_with fail
    refine (HC.out _).mono ?_
    rintro e w1 ⟨rfl, hb1⟩
    have hA6 := cell_later hb1 hA6
    have hB1 := Below.next hB hb1
    clear hb1 hA
    go_wp2_with fail
    go_ret2
    exact ⟨by rw [show (none : Option Int).getD c.dl = d from HD.out]; rfl, hB1⟩
/-- what Hop answers -/
def hopV (cs : List Ct) (k t n : Int) : Int × Int := if askE cs t n ≠ 0 then (0, askE cs t n) else if k < 0 ∨ (cs.length : Int) ≤ k then (0, 2) else match hopO (cs.getD k.toNat c0) t n with
  | none => (0, 15)
  | some s => (s, 0)
theorem chk_nil (cs : List Ct) (t n : Int) : chkE cs t n [] = askE cs t n := by
  unfold chkE
  split
  · rfl
  · rename_i h
    simp at h
    simp [h]
theorem planOk {cs : List Ct} (h : (planChk cs).1 = 0) : okP cs ∧ cs.length ≤ 200 := by
  unfold planChk at h
  split at h
  · cases h
  · rename_i hl
    have hall : ∀ k, k ≤ cs.length → (scan cs k).1 = 0 ∨ ∃ j, j < k ∧ stepE cs j ≠ 0 := fun k _ => by
      by_cases hx : ∃ j, j < k ∧ stepE cs j ≠ 0
      · exact .inr hx
      · exact .inl (by rw [scan_zero cs k fun j hj => Decidable.byContradiction fun hh => hx ⟨j, hj, hh⟩])
    have hz : ∀ j, j < cs.length → stepE cs j = 0 := by
      refine fun j hj => Decidable.byContradiction fun hne => ?_
      obtain ⟨k, hk, h1, h2⟩ := first_of cs.length (p := fun j => stepE cs j ≠ 0) ⟨j, hj, hne⟩
      have := scan_fail cs k (fun i hi => Decidable.byContradiction fun hh => h2 i hi hh) h1 cs.length hk
      rw [this] at h
      exact h1 h
    refine ⟨fun c hc => ?_, by omega⟩
    obtain ⟨i, hi, rfl⟩ := List.getElem_of_mem hc
    have := (stepE_ok (hz i hi)).1
    rwa [List.getD_eq_getElem?_getD, List.getElem?_eq_getElem hi] at this
set_option maxHeartbeats 1000000 in
theorem hopq_any (v : Value) (cs : List Ct) (k t n : Int) (hwf : ∀ c, c ∈ cs → Wf c) (w : World) (h : RdC w v cs) :
    Calls Try.prog 25 #[v, .int .i64 k, .int .i64 t, .int .i64 n] w fun e w' => e = .returned (V2 (hopV cs k t n).1 (hopV cs k t n).2) ∧ Below w.heap.size w w' := by
  have hC := checked_any v (.slice none 0 0) cs t n [] hwf w h (RdI.nil .i64 w)
  rw [chk_nil] at hC
  obtain ⟨a0, n0, rfl⟩ := h.form
  obtain ⟨N, hN⟩ : ∃ N, cs.length = N := ⟨_, rfl⟩
  rw [hN] at h hC ⊢
  obtain ⟨x, y, HV⟩ : ∃ x y, Hid (hopV cs k t n = (x, y)) := ⟨_, _, Lib.hid rfl⟩
  rw [HV.out]
  obtain ⟨er, her⟩ : ∃ er, askE cs t n = er := ⟨_, rfl⟩
  rw [her] at hC
  have hv := HV.out
  unfold hopV at hv
  rw [her, hN] at hv
  have HC := Lib.hid hC
  have HN := Lib.hid hN
  have HR := Lib.hid h
  clear hC hN h HV
  go_enter Try.func25, Try.ntmps25
  go_wp2_with fail
  refine HC.out.mono ?_
  rintro e w1 ⟨rfl, hb1⟩
  by_cases h0 : er = 0
  · subst h0
    rw [if_neg (by simp)] at hv
    by_cases k1 : k < 0
    · rw [if_pos (.inl k1)] at hv
      cases hv
      go_wp2_with fail
      go_ret2
      exact ⟨rfl, hb1⟩
    · have e1 : decide (k < 0) = false := nb k1
      by_cases k2 : (N : Int) ≤ k
      · rw [if_pos (.inr k2)] at hv
        cases hv
        have e2 : decide (k ≥ (N : Int)) = true := yb k2
        go_wp2_with fail
        go_ret2
        exact ⟨rfl, hb1⟩
      · rw [if_neg (by omega)] at hv
        obtain ⟨hp, hq, _⟩ := chkE_ok (cs := cs) (t := t) (n := n) (l := []) (by rw [chk_nil]; exact her)
        obtain ⟨hpk, hpl⟩ := planOk hp
        obtain ⟨j, rfl⟩ : ∃ j : Nat, k = (j : Int) := ⟨k.toNat, by omega⟩
        simp only [Int.toNat_natCast] at hv
        have e2 : decide ((j : Int) ≥ (N : Int)) = false := nb (by omega)
        obtain ⟨b, off, rfl, hc1, ca0, ca1, ca2, ca3, ca4, ca5⟩ := RdC.at (HR.out.keep hb1) HN.out j (by omega)
        have hokj := hpk.at (i := j) (by rw [HN.out]; omega)
        obtain ⟨c, hcj⟩ : ∃ c, cs.getD j c0 = c := ⟨_, rfl⟩
        rw [hcj] at ca0 ca1 ca2 ca3 ca4 ca5 hokj hv
        have HO := Lib.hid (fun w => hop_any c t n hokj (by omega) (by omega) w)
        obtain ⟨r, hr⟩ : ∃ r, hopO c t n = r := ⟨_, rfl⟩
        rw [hr] at hv
        have HRr := Lib.hid hr
        have i1 : (0 : Int) ≤ (j : Int) := by omega
        have i2 : (j : Int) < (N : Int) := by omega
        have hwk : IntKind.i64.wrap (j : Int) = (j : Int) := IntWalk.i64_in _ (by have := HN.out; omega)
        clear hokj hp hq hpk hr k1 k2 her hcj
        go_wp2_with fail
        refine (HO.out _).mono ?_
        rintro e w2 ⟨x9, rfl, hx9, hb2⟩
        rw [HRr.out] at hx9 ⊢
        have hB2 := Below.next hb1 hb2
        clear hb2 ca0 ca1 ca2 ca3 ca4 ca5
        cases r with
        | none =>
          cases hv
          go_wp2_with fail
          go_ret2
          exact ⟨rfl, hB2⟩
        | some s =>
          obtain rfl := hx9 s rfl
          cases hv
          go_wp2_with fail
          go_ret2
          exact ⟨rfl, hB2⟩
  · rw [if_pos (by simpa using h0)] at hv
    have e1 : (er != 0) = true := by simpa using h0
    clear h0
    cases hv
    go_wp2_with fail
    go_ret2
    exact ⟨rfl, hb1⟩
set_option maxHeartbeats 1000000 in
theorem rhopq_any (v : Value) (cs : List Ct) (k t n : Int) (w : World) (h : RdC w v cs) :
    Calls Try.prog 26 #[v, .int .i64 k, .int .i64 t, .int .i64 n] w fun e w' => e = .returned (V2 (hopV cs k t n).1 (hopV cs k t n).2) ∧ Below w.heap.size w w' := by
  have hC := rasked_any v cs t n w h
  obtain ⟨a0, n0, rfl⟩ := h.form
  obtain ⟨N, hN⟩ : ∃ N, cs.length = N := ⟨_, rfl⟩
  rw [hN] at h hC ⊢
  obtain ⟨x, y, HV⟩ : ∃ x y, Hid (hopV cs k t n = (x, y)) := ⟨_, _, Lib.hid rfl⟩
  rw [HV.out]
  obtain ⟨er, her⟩ : ∃ er, askE cs t n = er := ⟨_, rfl⟩
  rw [her] at hC
  have hv := HV.out
  unfold hopV at hv
  rw [her, hN] at hv
  have HC := Lib.hid hC
  have HN := Lib.hid hN
  have HR := Lib.hid h
  clear hC hN h HV
  go_enter Try.func26, Try.ntmps26
  go_wp2_with fail
  refine HC.out.mono ?_
  rintro e w1 ⟨rfl, hb1⟩
  by_cases h0 : er = 0
  · subst h0
    rw [if_neg (by simp)] at hv
    by_cases k1 : k < 0
    · rw [if_pos (.inl k1)] at hv
      cases hv
      go_wp2_with fail
      go_ret2
      exact ⟨rfl, hb1⟩
    · have e1 : decide (k < 0) = false := nb k1
      by_cases k2 : (N : Int) ≤ k
      · rw [if_pos (.inr k2)] at hv
        cases hv
        have e2 : decide (k ≥ (N : Int)) = true := yb k2
        go_wp2_with fail
        go_ret2
        exact ⟨rfl, hb1⟩
      · rw [if_neg (by omega)] at hv
        obtain ⟨hp, hq, _⟩ := chkE_ok (cs := cs) (t := t) (n := n) (l := []) (by rw [chk_nil]; exact her)
        obtain ⟨hpk, hpl⟩ := planOk hp
        obtain ⟨j, rfl⟩ : ∃ j : Nat, k = (j : Int) := ⟨k.toNat, by omega⟩
        simp only [Int.toNat_natCast] at hv
        have e2 : decide ((j : Int) ≥ (N : Int)) = false := nb (by omega)
        obtain ⟨b, off, rfl, hc1, ca0, ca1, ca2, ca3, ca4, ca5⟩ := RdC.at (HR.out.keep hb1) HN.out j (by omega)
        have hokj := hpk.at (i := j) (by rw [HN.out]; omega)
        obtain ⟨c, hcj⟩ : ∃ c, cs.getD j c0 = c := ⟨_, rfl⟩
        rw [hcj] at ca0 ca1 ca2 ca3 ca4 ca5 hokj hv
        have HO := Lib.hid (fun w => rover_any c t n hokj (by omega) (by omega) w)
        obtain ⟨r, hr⟩ : ∃ r, hopO c t n = r := ⟨_, rfl⟩
        rw [hr] at hv
        have HRr := Lib.hid hr
        have i1 : (0 : Int) ≤ (j : Int) := by omega
        have i2 : (j : Int) < (N : Int) := by omega
        have hwk : IntKind.i64.wrap (j : Int) = (j : Int) := IntWalk.i64_in _ (by have := HN.out; omega)
        clear hokj hp hq hpk hr k1 k2 her hcj
        go_wp2_with fail
        refine (HO.out _).mono ?_
        rintro e w2 ⟨x9, rfl, hx9, hb2⟩
        rw [HRr.out] at hx9 ⊢
        have hB2 := Below.next hb1 hb2
        clear hb2 ca0 ca1 ca2 ca3 ca4 ca5
        cases r with
        | none =>
          cases hv
          go_wp2_with fail
          go_ret2
          exact ⟨rfl, hB2⟩
        | some s =>
          obtain rfl := hx9 s rfl
          cases hv
          go_wp2_with fail
          go_ret2
          exact ⟨rfl, hB2⟩
  · rw [if_pos (by simpa using h0)] at hv
    have e1 : (er != 0) = true := by simpa using h0
    clear h0
    cases hv
    go_wp2_with fail
    go_ret2
    exact ⟨rfl, hb1⟩
end Go.Proofs.Ytgmfifilgbbogaa
