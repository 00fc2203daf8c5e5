

/- Volume: made, Mod; VolumeTwice: two bookings are one for both together: the walk of the law. -/
import Derived.Test.YtnbjdgjopdeolaaY
namespace Go.Proofs.Ytnbjdgjopdeolaa
open Go.RowKit Go.Shelf
set_option linter.unusedSimpArgs false
set_option linter.unusedVariables false
set_option maxRecDepth 100000

theorem mod_any (a n : Int) (hn : 1 ≤ n) (h1 : n ≤ 9223372036854775807) (ha : -9223372036854775808 ≤ a ∧ a ≤ 9223372036854775807) (w : World) :
    Calls Try.prog 37 #[.int .i64 a, .int .i64 n] w fun e w' => e = .returned (.int .i64 (a % n)) ∧ w = w' := by
  have hd : decide (n < 1) = false := nb (by omega)
  by_cases h0 : 0 ≤ a
  · have hm := Int.emod_nonneg a (show n ≠ 0 by omega)
    have hm2 := Int.emod_lt_of_pos a (show 0 < n by omega)
    have hd2 : decide (a % n < 0) = false := nb (by omega)
    go_enter Try.func37, Try.ntmps37
    go_wp2
    go_ret
    exact ⟨rfl, rfl⟩
  · have ht : a.tmod n = - ((-a) % n) := by
      rw [show a = -(-a) by omega, Int.neg_tmod, Int.tmod_eq_emod_of_nonneg (by omega)]; simp
    have hm := Int.emod_nonneg (-a) (show n ≠ 0 by omega)
    have hm2 := Int.emod_lt_of_pos (-a) (show 0 < n by omega)
    have he : a % n = if (-a) % n = 0 then 0 else n - (-a) % n := by
      by_cases hz : (-a) % n = 0
      · rw [if_pos hz]
        obtain ⟨c, hc⟩ := Int.dvd_of_emod_eq_zero hz
        exact Int.emod_eq_zero_of_dvd ⟨-c, by rw [Int.mul_neg, ← hc]; omega⟩
      · rw [if_neg hz]
        have e1 := Int.emod_add_mul_ediv (-a) n
        have : a = (n - (-a) % n) + n * (-((-a) / n) - 1) := by rw [Int.mul_sub, Int.mul_neg]; omega
        have e2 := Int.add_mul_emod_self_left (n - (-a) % n) n (-((-a) / n) - 1)
        rw [← this] at e2
        rw [e2]
        exact Int.emod_eq_of_lt (by omega) (by omega)
    obtain ⟨r, hr⟩ : ∃ r, (-a) % n = r := ⟨_, rfl⟩
    rw [hr] at ht hm hm2 he
    have HE := Lib.hid he
    obtain ⟨t, htt⟩ : ∃ t, a.tmod n = t := ⟨_, rfl⟩
    rw [htt] at ht
    have htn := Lib.hid ht
    have hb1 : t ≤ 0 := by omega
    have hb2 : -n < t := by omega
    have ha' : a < 0 := by omega
    clear he ht hr h0
    go_enter Try.func37, Try.ntmps37
    go_wp2
    · go_ret
      refine ⟨?_, rfl⟩
      rw [HE.out, if_neg (by have := htn.out; omega)]
      show Ending.returned (.int .i64 (t + n)) = _
      rw [htn.out, show n - r = -r + n by omega]
    · go_ret
      refine ⟨?_, rfl⟩
      rw [HE.out, if_pos (by have := htn.out; omega)]
      show Ending.returned (.int .i64 t) = _
      rw [show t = 0 by omega]

abbrev Ib (x : Int) : Prop := -9223372036854775808 ≤ x ∧ x ≤ 9223372036854775807
def mkC (x : Int) : Ct := ⟨1, 2, x % 1073741824 % 20, x % 1073741824 % 20 + 1 + x % 1073741824 / 20 % 30, 1 + x % 1073741824 / 600 % 9, 0⟩
theorem mkC_ok (x : Int) : okC (mkC x) := by
  unfold okC mkC
  dsimp only
  refine ⟨⟨by omega, by omega⟩, ⟨by omega, by omega⟩, by omega, by omega, by omega, by omega, by omega, by omega, by omega, by omega⟩
theorem mkC_vol (x : Int) : 1 ≤ vol (mkC x) ∧ vol (mkC x) ≤ 270 := by
  unfold vol mkC
  dsimp only
  have h1 : 1 ≤ 1 + x % 1073741824 / 600 % 9 ∧ 1 + x % 1073741824 / 600 % 9 ≤ 9 := by omega
  have h2 : 1 ≤ x % 1073741824 % 20 + 1 + x % 1073741824 / 20 % 30 - x % 1073741824 % 20 ∧ x % 1073741824 % 20 + 1 + x % 1073741824 / 20 % 30 - x % 1073741824 % 20 ≤ 30 := by omega
  refine ⟨?_, ?_⟩
  · have := Int.mul_le_mul h1.1 h2.1 (by omega) (by omega)
    omega
  · have := Int.mul_le_mul h1.2 h2.2 (by omega) (by omega)
    omega
set_option maxHeartbeats 1000000 in
theorem made_any (x : Int) (hx : Ib x) (w : World) : Calls Try.prog 51 #[.int .i64 x] w fun e w' => e = .returned (mkC x).v ∧ Below w.heap.size w w' := by
  obtain ⟨n, hn⟩ : ∃ n, x % 1073741824 = n := ⟨_, rfl⟩
  have h1 : 0 ≤ n ∧ n < 1073741824 := by omega
  have HV : Hid ((mkC x).v = .agg #[.int .i64 1, .int .i64 2, .int .i64 (n % 20), .int .i64 (n % 20 + 1 + n / 20 % 30), .int .i64 (1 + n / 600 % 9), .int .i64 0]) := by unfold Hid mkC Ct.v; rw [hn]
  rw [HV.out]
  have HN := Lib.hid hn
  clear hn HV
  go_enter Try.func51, Try.ntmps51
  go_wp2_with (go_at_call 37; refine (mod_any x 1073741824 (by omega) (by omega) hx _).mono ?_; rw [HN.out]; rintro e w1 ⟨rfl, rfl⟩)
  refine bodyPost_ret (v := .agg #[.int .i64 1, .int .i64 2, .int .i64 (n % 20), .int .i64 (n % 20 + 1 + n / 20 % 30), .int .i64 (1 + n / 600 % 9), .int .i64 0]) (by simp [results, Try.results51, go_sem]) rfl ⟨rfl, (by repeat (first | assumption | exact Below.refl _ _ | apply Below.al | apply below_drewN | apply Below.drew | refine Below.next ?_ (by assumption)))⟩

theorem ceil_le {p r k : Int} (hr : 1 ≤ r) (h : p ≤ r * k) : (p + r - 1) / r ≤ k := by
  have : (p + r - 1) / r < k + 1 := by
    apply Int.ediv_lt_of_lt_mul (by omega)
    rw [Int.add_mul, Int.mul_comm k r]
    omega
  omega
theorem thr_bd {c : Ct} (h : okC c) {p : Int} (h0 : 0 ≤ p) (h1 : p ≤ vol c) : c.st ≤ thr c p ∧ thr c p ≤ c.en := by
  obtain ⟨_, _, _, _, _, _, hr, _⟩ := h
  unfold thr
  refine ⟨?_, ?_⟩
  · have := Int.ediv_nonneg (a := p + c.rt - 1) (b := c.rt) (by omega) (by omega)
    omega
  · have := ceil_le hr (k := c.en - c.st) h1
    omega

set_option maxHeartbeats 2000000 in
theorem lawTwice (x b t n m : Int) (hx : Ib x) (hb0 : Ib b) (ht0 : Ib t) (hn0 : Ib n) (hm0 : Ib m) (w : World) :
    Calls Try.prog 9 #[.int .i64 x, .int .i64 b, .int .i64 t, .int .i64 n, .int .i64 m] w fun e w' => e = .returned (.bool true) ∧ Below w.heap.size w w' := by
  obtain ⟨c, hc⟩ : ∃ c, mkC x = c := ⟨_, rfl⟩
  have hok : okC c := hc ▸ mkC_ok x
  have hv : 1 ≤ vol c ∧ vol c ≤ 270 := hc ▸ mkC_vol x
  have HC := Lib.hid hc
  clear hc
  obtain ⟨b', hb⟩ : ∃ b', b % (vol c + 1) = b' := ⟨_, rfl⟩
  obtain ⟨t', ht⟩ : ∃ t', t % 60 = t' := ⟨_, rfl⟩
  obtain ⟨n', hn⟩ : ∃ n', n % 60 = n' := ⟨_, rfl⟩
  obtain ⟨m', hm⟩ : ∃ m', m % 60 = m' := ⟨_, rfl⟩
  have b1 : 0 ≤ b' ∧ b' ≤ vol c := by
    have h1 := Int.emod_nonneg b (show vol c + 1 ≠ 0 by omega)
    have h2 := Int.emod_lt_of_pos b (show 0 < vol c + 1 by omega)
    omega
  have t1 : 0 ≤ t' ∧ t' < 60 := by omega
  have n1 : 0 ≤ n' ∧ n' < 60 := by omega
  have m1 : 0 ≤ m' ∧ m' < 60 := by omega
  have HB := Lib.hid hb
  have HT := Lib.hid ht
  have HN := Lib.hid hn
  have HM := Lib.hid hm
  clear hb ht hn hm
  have tk : tickB t' = true := by simp [tickB]; omega
  obtain ⟨g, hg⟩ : ∃ g, max b' (pos c t') = g := ⟨_, rfl⟩
  have hpl := pos_le c hok t'
  have hpn := pos_nn c hok t'
  have hgb : 0 ≤ g ∧ g ≤ vol c ∧ b' ≤ g ∧ pos c t' ≤ g := by omega
  have HG := Lib.hid hg
  have HPL : Hid (pos c t' ≤ g) := hgb.2.2.2
  have hgb : 0 ≤ g ∧ g ≤ vol c := ⟨hgb.1, hgb.2.1⟩
  clear hg hpl hpn
  have hlf : Hid (Lf c b' t' (vol c - g) 0) := by unfold Hid; rw [← HG.out]; exact Lf.fine hok tk b1.1 b1.2
  have by1 : bytesB (1 + n') = true := by simp [bytesB]; omega
  have by2 : bytesB (1 + m') = true := by simp [bytesB]; omega
  have by3 : bytesB (1 + n' + (1 + m')) = true := by simp [bytesB]; omega
  have hby : Hid (By c (vol c) 0) := By.fine hok
  have d0 : decide (vol c < 1) = false := nb (by omega)
  have HOK := Lib.hid hok
  have HTK := Lib.hid tk
  have HY1 := Lib.hid by1
  have HY2 := Lib.hid by2
  have HY3 := Lib.hid by3
  clear hok tk by1 by2 by3
  by_cases hlate : vol c < g + (1 + n')
  · have hbk : Hid (Bk c b' t' (1 + n') 0 0 16) := by unfold Hid; exact Bk.late HOK.out HTK.out b1.1 b1.2 HY1.out (by rw [HG.out]; exact hlate)
    have d1 : decide (1 + n' ≤ vol c - g) = false := nb (by omega)
    go_enter Try.func9, Try.ntmps9
    go_wp2_with fail
    refine (known_any _).mono ?_
    rintro e w1 ⟨rfl, hB⟩
    go_wp2_with fail
    refine (made_any x hx _).mono ?_
    rw [HC.out]
    rintro e w2 ⟨rfl, hb⟩
    have hB := Below.next hB hb
    clear hb
    obtain ⟨wn, hwn⟩ : ∃ wn : World, wn = w2.alloc (.cells #[.int .i64 c.fr, .int .i64 c.dt, .int .i64 c.st, .int .i64 c.en, .int .i64 c.rt, .int .i64 c.dl] 23) := ⟨_, rfl⟩
    have hBC : BC wn w2.heap.size c := by rw [hwn]; simp [BC, go_sem]
    have hB : Below w.heap.size w wn := by rw [hwn]; exact Below.al hB _
    obtain ⟨S, hS⟩ : ∃ S, S = w2.heap.size := ⟨_, rfl⟩
    go_upto_region 3 with fail
    rw [← hwn, ← hS]
    rw [← hS] at hBC
    clear hwn hS
    go_wp2_with fail
    refine (bytesOf_any c (vol c) 0 hby.out _).mono ?_
    rintro e w1 ⟨rfl, hb⟩
    have hB := Below.next hB hb
    have hBC := BC.keep hb hBC
    obtain ⟨wn, rfl⟩ : ∃ wn, wn = w1 := ⟨_, rfl⟩
    clear hb
    go_wp2_with fail
    refine (mod_any b (vol c + 1) (by omega) (by omega) hb0 _).mono ?_
    rw [HB.out]
    rintro e w1 ⟨rfl, rfl⟩
    go_wp2_with fail
    refine (mod_any t 60 (by omega) (by omega) ht0 _).mono ?_
    rw [HT.out]
    rintro e w1 ⟨rfl, rfl⟩
    go_wp2_with fail
    refine (mod_any n 60 (by omega) (by omega) hn0 _).mono ?_
    rw [HN.out]
    rintro e w1 ⟨rfl, rfl⟩
    go_wp2_with fail
    refine (mod_any m 60 (by omega) (by omega) hm0 _).mono ?_
    rw [HM.out]
    rintro e w1 ⟨rfl, rfl⟩
    go_wp2_with fail
    refine (left_any c b' t' (vol c - g) 0 hlf.out _).mono ?_
    rintro e w1 ⟨rfl, hb⟩
    have hB := Below.next hB hb
    have hBC := BC.keep hb hBC
    obtain ⟨wn, rfl⟩ : ∃ wn, wn = w1 := ⟨_, rfl⟩
    clear hb
    go_wp2_with fail
    refine (book_any c b' t' (1 + n') _ _ _ hbk.out _).mono ?_
    rintro e w1 ⟨rfl, hb⟩
    have hB := Below.next hB hb
    have hBC := BC.keep hb hBC
    obtain ⟨wn, rfl⟩ : ∃ wn, wn = w1 := ⟨_, rfl⟩
    clear hb
    go_wp2_with fail
    go_ret
    exact ⟨rfl, hB⟩
  · have hfine : g + (1 + n') ≤ vol c := by omega
    have hbk : Hid (Bk c b' t' (1 + n') (thr c (g + (1 + n'))) (g + (1 + n')) 0) := by
      unfold Hid
      have := Bk.fine (n := 1 + n') HOK.out HTK.out b1.1 b1.2 HY1.out (by rw [HG.out]; exact hfine)
      rwa [HG.out] at this
    have d1 : decide (1 + n' ≤ vol c - g) = true := yb (by omega)
    have hth := thr_bd HOK.out (p := g + (1 + n')) (by omega) hfine
    have hmx : max (g + (1 + n')) (pos c t') = g + (1 + n') := by have := HPL.out; omega
    have hlf2 : Hid (Lf c (g + (1 + n')) t' (vol c - (g + (1 + n'))) 0) := by
      unfold Hid
      have := Lf.fine (b := g + (1 + n')) (t := t') HOK.out HTK.out (by omega) hfine
      rwa [hmx] at this
    have HTH : ∀ T, Hid (thr c (g + (1 + n')) = T) → c.st ≤ T ∧ T ≤ c.en := fun T hT => by rw [← hT.out]; exact hth
    obtain ⟨T, HT1⟩ : ∃ T, Hid (thr c (g + (1 + n')) = T) := ⟨_, rfl⟩
    have hTb := HTH T HT1
    rw [HT1.out] at hbk
    clear HTH hth
    have dT1 : decide (c.st ≤ T) = true := yb hTb.1
    have dT2 : decide (T ≤ c.en) = true := yb hTb.2
    obtain ⟨o, HO⟩ : ∃ o, Hid (g + (1 + n') = o) := ⟨_, rfl⟩
    have ho : g + 1 ≤ o ∧ o ≤ vol c := by have := HO.out; omega
    have hio : (vol c - o == vol c - g - (1 + n')) = true := by have := HO.out; simp; omega
    rw [HO.out] at hbk hlf2 hmx
    have HMX := Lib.hid hmx
    clear hmx hlate hfine
    by_cases hl2 : vol c < o + (1 + m')
    · have hb2 : Hid (Bk c o t' (1 + m') 0 0 16) := by unfold Hid; exact Bk.late HOK.out HTK.out (by omega) ho.2 HY2.out (by rw [HMX.out]; exact hl2)
      have hb3 : Hid (Bk c b' t' (1 + n' + (1 + m')) 0 0 16) := by unfold Hid; exact Bk.late HOK.out HTK.out b1.1 b1.2 HY3.out (by rw [HG.out]; have := HO.out; omega)
      clear hl2
      go_enter Try.func9, Try.ntmps9
      go_wp2_with fail
      refine (known_any _).mono ?_
      rintro e w1 ⟨rfl, hB⟩
      go_wp2_with fail
      refine (made_any x hx _).mono ?_
      rw [HC.out]
      rintro e w2 ⟨rfl, hb⟩
      have hB := Below.next hB hb
      clear hb
      obtain ⟨wn, hwn⟩ : ∃ wn : World, wn = w2.alloc (.cells #[.int .i64 c.fr, .int .i64 c.dt, .int .i64 c.st, .int .i64 c.en, .int .i64 c.rt, .int .i64 c.dl] 23) := ⟨_, rfl⟩
      have hBC : BC wn w2.heap.size c := by rw [hwn]; simp [BC, go_sem]
      have hB : Below w.heap.size w wn := by rw [hwn]; exact Below.al hB _
      obtain ⟨S, hS⟩ : ∃ S, S = w2.heap.size := ⟨_, rfl⟩
      go_upto_region 3 with fail
      rw [← hwn, ← hS]
      rw [← hS] at hBC
      clear hwn hS
      go_wp2_with fail
      refine (bytesOf_any c (vol c) 0 hby.out _).mono ?_
      rintro e w1 ⟨rfl, hb⟩
      have hB := Below.next hB hb
      have hBC := BC.keep hb hBC
      obtain ⟨wn, rfl⟩ : ∃ wn, wn = w1 := ⟨_, rfl⟩
      clear hb
      go_wp2_with fail
      refine (mod_any b (vol c + 1) (by omega) (by omega) hb0 _).mono ?_
      rw [HB.out]
      rintro e w1 ⟨rfl, rfl⟩
      go_wp2_with fail
      refine (mod_any t 60 (by omega) (by omega) ht0 _).mono ?_
      rw [HT.out]
      rintro e w1 ⟨rfl, rfl⟩
      go_wp2_with fail
      refine (mod_any n 60 (by omega) (by omega) hn0 _).mono ?_
      rw [HN.out]
      rintro e w1 ⟨rfl, rfl⟩
      go_wp2_with fail
      refine (mod_any m 60 (by omega) (by omega) hm0 _).mono ?_
      rw [HM.out]
      rintro e w1 ⟨rfl, rfl⟩
      go_wp2_with fail
      refine (left_any c b' t' (vol c - g) 0 hlf.out _).mono ?_
      rintro e w1 ⟨rfl, hb⟩
      have hB := Below.next hB hb
      have hBC := BC.keep hb hBC
      obtain ⟨wn, rfl⟩ : ∃ wn, wn = w1 := ⟨_, rfl⟩
      clear hb
      go_wp2_with fail
      refine (book_any c b' t' (1 + n') _ _ _ hbk.out _).mono ?_
      rintro e w1 ⟨rfl, hb⟩
      have hB := Below.next hB hb
      have hBC := BC.keep hb hBC
      obtain ⟨wn, rfl⟩ : ∃ wn, wn = w1 := ⟨_, rfl⟩
      clear hb
      go_wp2_with fail
      refine (left_any c o t' (vol c - o) 0 hlf2.out _).mono ?_
      rintro e w1 ⟨rfl, hb⟩
      have hB := Below.next hB hb
      have hBC := BC.keep hb hBC
      obtain ⟨wn, rfl⟩ : ∃ wn, wn = w1 := ⟨_, rfl⟩
      clear hb
      go_wp2_with fail
      refine (book_any c o t' (1 + m') 0 0 16 hb2.out _).mono ?_
      rintro e w1 ⟨rfl, hb⟩
      have hB := Below.next hB hb
      have hBC := BC.keep hb hBC
      obtain ⟨wn, rfl⟩ : ∃ wn, wn = w1 := ⟨_, rfl⟩
      clear hb
      go_wp2_with fail
      refine (book_any c b' t' (1 + n' + (1 + m')) 0 0 16 hb3.out _).mono ?_
      rintro e w1 ⟨rfl, hb⟩
      have hB := Below.next hB hb
      have hBC := BC.keep hb hBC
      obtain ⟨wn, rfl⟩ : ∃ wn, wn = w1 := ⟨_, rfl⟩
      clear hb
      go_wp2_with fail
      go_ret
      exact ⟨rfl, hB⟩
    · have hb2 : Hid (Bk c o t' (1 + m') (thr c (o + (1 + m'))) (o + (1 + m')) 0) := by
        unfold Hid
        have := Bk.fine (n := 1 + m') HOK.out HTK.out (show 0 ≤ o by omega) ho.2 HY2.out (by rw [HMX.out]; omega)
        rwa [HMX.out] at this
      have hb3 : Hid (Bk c b' t' (1 + n' + (1 + m')) (thr c (o + (1 + m'))) (o + (1 + m')) 0) := by
        unfold Hid
        have e1 : g + (1 + n' + (1 + m')) = o + (1 + m') := by have := HO.out; omega
        have := Bk.fine (n := 1 + n' + (1 + m')) HOK.out HTK.out b1.1 b1.2 HY3.out (by rw [HG.out]; omega)
        rwa [HG.out, e1] at this
      obtain ⟨T2, HT2⟩ : ∃ T, Hid (thr c (o + (1 + m')) = T) := ⟨_, rfl⟩
      obtain ⟨o2, HO2⟩ : ∃ o2, Hid (o + (1 + m') = o2) := ⟨_, rfl⟩
      rw [HT2.out, HO2.out] at hb2 hb3
      have e3 : (T2 == T2) = true := by simp
      have e4 : (o2 == o2) = true := by simp
      clear hl2
      go_enter Try.func9, Try.ntmps9
      go_wp2_with fail
      refine (known_any _).mono ?_
      rintro e w1 ⟨rfl, hB⟩
      go_wp2_with fail
      refine (made_any x hx _).mono ?_
      rw [HC.out]
      rintro e w2 ⟨rfl, hb⟩
      have hB := Below.next hB hb
      clear hb
      obtain ⟨wn, hwn⟩ : ∃ wn : World, wn = w2.alloc (.cells #[.int .i64 c.fr, .int .i64 c.dt, .int .i64 c.st, .int .i64 c.en, .int .i64 c.rt, .int .i64 c.dl] 23) := ⟨_, rfl⟩
      have hBC : BC wn w2.heap.size c := by rw [hwn]; simp [BC, go_sem]
      have hB : Below w.heap.size w wn := by rw [hwn]; exact Below.al hB _
      obtain ⟨S, hS⟩ : ∃ S, S = w2.heap.size := ⟨_, rfl⟩
      go_upto_region 3 with fail
      rw [← hwn, ← hS]
      rw [← hS] at hBC
      clear hwn hS
      go_wp2_with fail
      refine (bytesOf_any c (vol c) 0 hby.out _).mono ?_
      rintro e w1 ⟨rfl, hb⟩
      have hB := Below.next hB hb
      have hBC := BC.keep hb hBC
      obtain ⟨wn, rfl⟩ : ∃ wn, wn = w1 := ⟨_, rfl⟩
      clear hb
      go_wp2_with fail
      refine (mod_any b (vol c + 1) (by omega) (by omega) hb0 _).mono ?_
      rw [HB.out]
      rintro e w1 ⟨rfl, rfl⟩
      go_wp2_with fail
      refine (mod_any t 60 (by omega) (by omega) ht0 _).mono ?_
      rw [HT.out]
      rintro e w1 ⟨rfl, rfl⟩
      go_wp2_with fail
      refine (mod_any n 60 (by omega) (by omega) hn0 _).mono ?_
      rw [HN.out]
      rintro e w1 ⟨rfl, rfl⟩
      go_wp2_with fail
      refine (mod_any m 60 (by omega) (by omega) hm0 _).mono ?_
      rw [HM.out]
      rintro e w1 ⟨rfl, rfl⟩
      go_wp2_with fail
      refine (left_any c b' t' (vol c - g) 0 hlf.out _).mono ?_
      rintro e w1 ⟨rfl, hb⟩
      have hB := Below.next hB hb
      have hBC := BC.keep hb hBC
      obtain ⟨wn, rfl⟩ : ∃ wn, wn = w1 := ⟨_, rfl⟩
      clear hb
      go_wp2_with fail
      refine (book_any c b' t' (1 + n') _ _ _ hbk.out _).mono ?_
      rintro e w1 ⟨rfl, hb⟩
      have hB := Below.next hB hb
      have hBC := BC.keep hb hBC
      obtain ⟨wn, rfl⟩ : ∃ wn, wn = w1 := ⟨_, rfl⟩
      clear hb
      go_wp2_with fail
      refine (left_any c o t' (vol c - o) 0 hlf2.out _).mono ?_
      rintro e w1 ⟨rfl, hb⟩
      have hB := Below.next hB hb
      have hBC := BC.keep hb hBC
      obtain ⟨wn, rfl⟩ : ∃ wn, wn = w1 := ⟨_, rfl⟩
      clear hb
      go_wp2_with fail
      refine (book_any c o t' (1 + m') T2 o2 0 hb2.out _).mono ?_
      rintro e w1 ⟨rfl, hb⟩
      have hB := Below.next hB hb
      have hBC := BC.keep hb hBC
      obtain ⟨wn, rfl⟩ : ∃ wn, wn = w1 := ⟨_, rfl⟩
      clear hb
      go_wp2_with fail
      refine (book_any c b' t' (1 + n' + (1 + m')) T2 o2 0 hb3.out _).mono ?_
      rintro e w1 ⟨rfl, hb⟩
      have hB := Below.next hB hb
      have hBC := BC.keep hb hBC
      obtain ⟨wn, rfl⟩ : ∃ wn, wn = w1 := ⟨_, rfl⟩
      clear hb
      go_wp2_with fail
      go_ret
      exact ⟨rfl, hB⟩
end Go.Proofs.Ytnbjdgjopdeolaa
