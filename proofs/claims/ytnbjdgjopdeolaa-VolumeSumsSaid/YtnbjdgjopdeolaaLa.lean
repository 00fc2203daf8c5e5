

/- VolumeLater: what is sent later is never earlier through: the walk of the law. -/
import Derived.Test.YtnbjdgjopdeolaaZ
namespace Go.Proofs.Ytnbjdgjopdeolaa
open Go.RowKit Go.Shelf
set_option linter.unusedSimpArgs false
set_option linter.unusedVariables false
set_option maxRecDepth 100000

def del (c : Ct) (t : Int) : Int := if t ≤ c.st then 0 else min t c.en - c.st
theorem pos_del (c : Ct) (t : Int) : pos c t = c.rt * del c t := by
  unfold pos del
  split
  · simp
  · rfl
theorem thr_del (c : Ct) (hr : 1 ≤ c.rt) (t n : Int) : thr c (pos c t + n) = c.st + del c t + (n + c.rt - 1) / c.rt := by
  unfold thr
  rw [pos_del, show c.rt * del c t + n + c.rt - 1 = (n + c.rt - 1) + c.rt * del c t by omega, Int.add_mul_ediv_left _ _ (by omega)]
  omega
theorem le_ceil {n s : Int} (hs : 1 ≤ s) : n ≤ s * ((n + s - 1) / s) := by
  have h1 := Int.emod_add_mul_ediv (n + s - 1) s
  have h2 := Int.emod_lt_of_pos (n + s - 1) (show 0 < s by omega)
  omega
theorem thr_mono (c : Ct) (hr : 1 ≤ c.rt) {p q : Int} (h : p ≤ q) : thr c p ≤ thr c q := by
  unfold thr
  have := Int.ediv_le_ediv (a := p + c.rt - 1) (b := q + c.rt - 1) (c := c.rt) (by omega) (by omega)
  omega
theorem Fn.ex {c : Ct} {t n a : Int} (hok : okC c) (ht : tickB t = true) (hn : bytesB n = true) (ha : pos c t + n ≤ vol c → a ≤ thr c (pos c t + n)) : ∃ x y z, Bk c 0 t n x y z ∧ ((z = 16 ∧ x = 0) ∨ (z = 0 ∧ a ≤ x)) := by
  have hp := pos_nn c hok t
  have hv := vol_bd c hok
  change 0 ≤ vol c ∧ vol c ≤ _ at hv
  have hm : max 0 (pos c t) = pos c t := by omega
  by_cases h : pos c t + n ≤ vol c
  · refine ⟨_, _, _, Bk.fine hok ht (Int.le_refl _) hv.1 hn (by rw [hm]; exact h), .inr ⟨rfl, ?_⟩⟩
    rw [hm]
    exact ha h
  · exact ⟨_, _, _, Bk.late hok ht (Int.le_refl _) hv.1 hn (by rw [hm]; omega), .inl ⟨rfl, rfl⟩⟩
abbrev ltC (c : Ct) : Ct := ⟨c.fr, c.dt, c.st + 1, c.en, c.rt, c.dl⟩
abbrev slC (c : Ct) : Ct := ⟨c.fr, c.dt, c.st, c.en, c.rt - 1, c.dl⟩
theorem lt_le {c : Ct} (hok : okC c) (h : c.st + 1 < c.en) (t n : Int) : thr c (pos c t + n) ≤ thr (ltC c) (pos (ltC c) t + n) := by
  have hr := hok.2.2.2.2.2.2.1
  rw [thr_del c hr, thr_del (ltC c) hr]
  unfold del ltC
  dsimp only
  by_cases h1 : t ≤ c.st
  · rw [if_pos h1, if_pos (by omega)]; omega
  · rw [if_neg h1]
    by_cases h2 : t ≤ c.st + 1
    · rw [if_pos h2]; omega
    · rw [if_neg h2]; omega
theorem sl_le {c : Ct} (hok : okC c) (h : 1 < c.rt) (t n : Int) (hn : 1 ≤ n) : thr c (pos c t + n) ≤ thr (slC c) (pos (slC c) t + n) := by
  have hr := hok.2.2.2.2.2.2.1
  rw [thr_del c hr, thr_del (slC c) (by show 1 ≤ c.rt - 1; omega)]
  have h1 : del (slC c) t = del c t := rfl
  rw [h1]
  have h2 : (n + c.rt - 1) / c.rt ≤ (n + (c.rt - 1) - 1) / (c.rt - 1) := by
    refine ceil_le hr ?_
    have h3 := le_ceil (n := n) (s := c.rt - 1) (by omega)
    have h4 : 0 ≤ (n + (c.rt - 1) - 1) / (c.rt - 1) := Int.ediv_nonneg (by omega) (by omega)
    obtain ⟨k, hk⟩ : ∃ k, (n + (c.rt - 1) - 1) / (c.rt - 1) = k := ⟨_, rfl⟩
    rw [hk] at h3 h4 ⊢
    have h5 : c.rt * k = (c.rt - 1) * k + k := by rw [Int.sub_mul]; omega
    omega
  show c.st + del c t + _ ≤ c.st + del c t + (n + (c.rt - 1) - 1) / (c.rt - 1)
  omega
theorem pos_mono {c : Ct} (hok : okC c) {t u : Int} (h : t ≤ u) : pos c t ≤ pos c u := by
  rw [pos_del, pos_del]
  have hr := hok.2.2.2.2.2.2.1
  have hse := hok.2.2.2.2.1
  refine Int.mul_le_mul_of_nonneg_left ?_ (by omega)
  unfold del
  split <;> split <;> omega
theorem ltC_ok {c : Ct} (hok : okC c) (h : c.st + 1 < c.en) : okC (ltC c) := by
  unfold okC at *
  dsimp only [ltC]
  omega
theorem slC_ok {c : Ct} (hok : okC c) (h : 1 < c.rt) : okC (slC c) := by
  unfold okC at *
  dsimp only [slC]
  omega

/-- the test that the law makes of a second finish -/
def fA (a x z : Int) : Prop := (z = 16 ∧ x = 0) ∨ (z = 0 ∧ a ≤ x)
set_option maxHeartbeats 2000000 in
theorem lawLater (x t n : Int) (hx : Ib x) (ht0 : Ib t) (hn0 : Ib n) (w : World) :
    Calls Try.prog 10 #[.int .i64 x, .int .i64 t, .int .i64 n] w fun e w' => e = .returned (.bool true) ∧ Below w.heap.size w w' := by
  obtain ⟨c, hc⟩ : ∃ c, mkC x = c := ⟨_, rfl⟩
  have hok : okC c := hc ▸ mkC_ok x
  have hv : 1 ≤ vol c ∧ vol c ≤ 270 := hc ▸ mkC_vol x
  have HC := Lib.hid hc
  clear hc
  obtain ⟨t', ht⟩ : ∃ t', t % 60 = t' := ⟨_, rfl⟩
  obtain ⟨n', hn⟩ : ∃ n', n % 200 = n' := ⟨_, rfl⟩
  have t1 : 0 ≤ t' ∧ t' < 60 := by omega
  have n1 : 0 ≤ n' ∧ n' < 200 := by omega
  have HT := Lib.hid ht
  have HN := Lib.hid hn
  clear ht hn
  have tk : tickB t' = true := by simp [tickB]; omega
  have tk1 : tickB (t' + 1) = true := by simp [tickB]; omega
  have by1 : bytesB (1 + n') = true := by simp [bytesB]; omega
  have by2 : bytesB (1 + n' + 1) = true := by simp [bytesB]; omega
  have hpn := pos_nn c hok t'
  have hmp : max 0 (pos c t') = pos c t' := by omega
  by_cases hlate : vol c < pos c t' + (1 + n')
  · have hbk : Hid (Bk c 0 t' (1 + n') 0 0 16) := by unfold Hid; exact Bk.late hok tk (Int.le_refl _) (by omega) by1 (by rw [hmp]; exact hlate)
    clear hlate hmp hpn tk tk1 by1 by2
    have HOK := Lib.hid hok
    clear hok
    go_enter Try.func10, Try.ntmps10
    go_wp2_with fail
    refine (known_any _).mono ?_
    rintro e w1 ⟨rfl, hB⟩
    go_wp2_with fail
    refine (made_any x hx _).mono ?_
    rw [HC.out]
    rintro e w2 ⟨rfl, hb⟩
    have hB := Below.next hB hb
    clear hb
    obtain ⟨wn, hwn⟩ : ∃ wn : World, wn = w2.alloc (.cells #[.int .i64 c.fr, .int .i64 c.dt, .int .i64 c.st, .int .i64 c.en, .int .i64 c.rt, .int .i64 c.dl] 23) := ⟨_, rfl⟩
    have hBC : BC wn w2.heap.size c := by rw [hwn]; simp [BC, go_sem]
    have hB : Below w.heap.size w wn := by rw [hwn]; exact Below.al hB _
    obtain ⟨S, hS⟩ : ∃ S, S = w2.heap.size := ⟨_, rfl⟩
    go_upto_region 3 with fail
    rw [← hwn, ← hS]
    rw [← hS] at hBC
    clear hwn hS
    go_wp2_with fail
    refine (mod_any t 60 (by omega) (by omega) ht0 _).mono ?_
    rw [HT.out]
    rintro e w1 ⟨rfl, rfl⟩
    go_wp2_with fail
    refine (mod_any n 200 (by omega) (by omega) hn0 _).mono ?_
    rw [HN.out]
    rintro e w1 ⟨rfl, rfl⟩
    go_wp2_with fail
    refine (finish_any c t' (1 + n') 0 0 16 hbk.out _).mono ?_
    rintro e w1 ⟨rfl, hb⟩
    have hB := Below.next hB hb
    have hBC := BC.keep hb hBC
    obtain ⟨wn, rfl⟩ : ∃ wn, wn = w1 := ⟨_, rfl⟩
    clear hb
    go_wp2_with fail
    go_ret
    exact ⟨rfl, hB⟩
  · obtain ⟨a, ha⟩ : ∃ a, thr c (pos c t' + (1 + n')) = a := ⟨_, rfl⟩
    obtain ⟨y, hy⟩ : ∃ y, pos c t' + (1 + n') = y := ⟨_, rfl⟩
    have hbk : Hid (Bk c 0 t' (1 + n') a y 0) := by
      unfold Hid
      have := Bk.fine (n := 1 + n') hok tk (Int.le_refl _) (show (0 : Int) ≤ vol c by omega) by1 (by rw [hmp]; omega)
      rwa [hmp, ha, hy] at this
    have hr := hok.2.2.2.2.2.2.1
    obtain ⟨x1, y1, z1, hk1, hz1⟩ := Fn.ex (a := a) hok tk by2 (fun _ => by rw [← ha]; exact thr_mono c hr (by omega))
    obtain ⟨x2, y2, z2, hk2, hz2⟩ := Fn.ex (a := a) hok tk1 by1 (fun _ => by rw [← ha]; exact thr_mono c hr (by have := pos_mono hok (show t' ≤ t' + 1 by omega); omega))
    have H3 : Hid (c.st + 1 < c.en → ∃ x y z, Bk (ltC c) 0 t' (1 + n') x y z ∧ ((z = 16 ∧ x = 0) ∨ (z = 0 ∧ a ≤ x))) := fun h => Fn.ex (ltC_ok hok h) tk by1 (fun _ => by rw [← ha]; exact lt_le hok h t' _)
    have H4 : Hid (1 < c.rt → ∃ x y z, Bk (slC c) 0 t' (1 + n') x y z ∧ ((z = 16 ∧ x = 0) ∨ (z = 0 ∧ a ≤ x))) := fun h => Fn.ex (slC_ok hok h) tk by1 (fun _ => by rw [← ha]; exact sl_le hok h t' _ (by omega))
    have HK1 := Lib.hid hk1
    have HK2 := Lib.hid hk2
    have HZ1 := Lib.hid hz1
    have HZ2 := Lib.hid hz2
    have hen : 0 ≤ c.st ∧ c.st < 1000 ∧ c.rt ≤ 1000 := by
      have e : 0 ≤ (mkC x).st ∧ (mkC x).st < 1000 ∧ (mkC x).rt ≤ 1000 := by unfold mkC; dsimp only; omega
      rw [HC.out] at e
      exact e
    clear hk1 hk2 hz1 hz2 ha hy hlate hmp hpn tk tk1 by1 by2
    have HOK := Lib.hid hok
    clear hok
    go_enter Try.func10, Try.ntmps10
    go_wp2_with fail
    refine (known_any _).mono ?_
    rintro e w1 ⟨rfl, hB⟩
    go_wp2_with fail
    refine (made_any x hx _).mono ?_
    rw [HC.out]
    rintro e w2 ⟨rfl, hb⟩
    have hB := Below.next hB hb
    clear hb
    obtain ⟨wn, hwn⟩ : ∃ wn : World, wn = w2.alloc (.cells #[.int .i64 c.fr, .int .i64 c.dt, .int .i64 c.st, .int .i64 c.en, .int .i64 c.rt, .int .i64 c.dl] 23) := ⟨_, rfl⟩
    have hBC : BC wn w2.heap.size c := by rw [hwn]; simp [BC, go_sem]
    have hB : Below w.heap.size w wn := by rw [hwn]; exact Below.al hB _
    obtain ⟨S, hS⟩ : ∃ S, S = w2.heap.size := ⟨_, rfl⟩
    go_upto_region 3 with fail
    rw [← hwn, ← hS]
    rw [← hS] at hBC
    clear hwn hS
    go_wp2_with fail
    refine (mod_any t 60 (by omega) (by omega) ht0 _).mono ?_
    rw [HT.out]
    rintro e w1 ⟨rfl, rfl⟩
    go_wp2_with fail
    refine (mod_any n 200 (by omega) (by omega) hn0 _).mono ?_
    rw [HN.out]
    rintro e w1 ⟨rfl, rfl⟩
    go_wp2_with fail
    refine (finish_any c t' (1 + n') a y 0 hbk.out _).mono ?_
    rintro e w1 ⟨rfl, hb⟩
    have hB := Below.next hB hb
    have hBC := BC.keep hb hBC
    obtain ⟨wn, rfl⟩ : ∃ wn, wn = w1 := ⟨_, rfl⟩
    clear hb
    go_wp2_with fail
    refine (finish_any c t' (1 + n' + 1) x1 y1 z1 HK1.out _).mono ?_
    rintro e w1 ⟨rfl, hb⟩
    have hB := Below.next hB hb
    have hBC := BC.keep hb hBC
    obtain ⟨wn, rfl⟩ : ∃ wn, wn = w1 := ⟨_, rfl⟩
    clear hb
    go_wp2_with fail
    refine (finish_any c (t' + 1) (1 + n') x2 y2 z2 HK2.out _).mono ?_
    rintro e w1 ⟨rfl, hb⟩
    have hB := Below.next hB hb
    have hBC := BC.keep hb hBC
    obtain ⟨wn, rfl⟩ : ∃ wn, wn = w1 := ⟨_, rfl⟩
    clear hb
    go_upto_region 9 with fail
    go_cut [86] (fun v wx => v = .bool false ∧ Below wn.heap.size wn wx)
    case first =>
      rcases HZ1.out with ⟨rfl, rfl⟩ | ⟨rfl, h1⟩ <;> rcases HZ2.out with ⟨rfl, rfl⟩ | ⟨rfl, h2⟩
      · go_wp2_with fail
        go_meet
        exact ⟨rfl, Below.refl _ _⟩
      · have d2 : decide (x2 < a) = false := nb (by omega)
        go_wp2_with fail
        go_meet
        exact ⟨rfl, Below.refl _ _⟩
      · have d1 : decide (x1 < a) = false := nb (by omega)
        go_wp2_with fail
        go_meet
        exact ⟨rfl, Below.refl _ _⟩
      · have d1 : decide (x1 < a) = false := nb (by omega)
        have d2 : decide (x2 < a) = false := nb (by omega)
        go_wp2_with fail
        go_meet
        exact ⟨rfl, Below.refl _ _⟩
    case rest =>
      obtain ⟨rfl, hbx⟩ := hcut
      rename World => wx
      have hBC := BC.keep hbx hBC
      have hB := Below.next hB hbx
      clear hbx
      have hws : IntKind.i64.wrap (c.st + 1) = c.st + 1 := IntWalk.i64_in _ (by omega)
      have hwr : IntKind.i64.wrap (c.rt - 1) = c.rt - 1 := IntWalk.i64_in _ (by omega)
      by_cases hse : c.st + 1 < c.en
      · have d3 : decide (c.st + 1 < c.en) = true := yb hse
        obtain ⟨x3, y3, z3, hk3, hz3⟩ := H3.out hse
        have HK3 := Lib.hid hk3
        have HZ3 := Lib.hid hz3
        clear hk3 hz3 hse
        go_upto_region 14 with fail
        obtain ⟨wl, hwl⟩ : ∃ wl : World, wl = wx.alloc (.cells #[.int .i64 c.fr, .int .i64 c.dt, .int .i64 (c.st + 1), .int .i64 c.en, .int .i64 c.rt, .int .i64 c.dl] 23) := ⟨_, rfl⟩
        have hBC2 : BC wl wx.heap.size ⟨c.fr, c.dt, c.st + 1, c.en, c.rt, c.dl⟩ := by rw [hwl]; simp [BC, go_sem]
        have hBC : BC wl S c := by rw [hwl]; exact hBC.al _
        have hB : Below w.heap.size w wl := by rw [hwl]; exact Below.al hB _
        obtain ⟨S2, hS2⟩ : ∃ S2, S2 = wx.heap.size := ⟨_, rfl⟩
        rw [← hwl, ← hS2]
        rw [← hS2] at hBC2
        clear hwl hS2
        go_wp2_with fail
        refine (finish_any (ltC c) t' (1 + n') x3 y3 z3 HK3.out _).mono ?_
        rintro e w1 ⟨rfl, hb⟩
        have hB := Below.next hB hb
        have hBC := BC.keep hb hBC
        obtain ⟨wn, rfl⟩ : ∃ wn, wn = w1 := ⟨_, rfl⟩
        clear hb
        clear hBC2
        go_upto_region 15 with fail
        go_cut [119] (fun v wx => v = .bool false ∧ Below wn.heap.size wn wx)
        case first =>
          rcases HZ3.out with ⟨rfl, rfl⟩ | ⟨rfl, h1⟩
          · go_wp2_with fail
            go_meet
            exact ⟨rfl, Below.refl _ _⟩
          · have d1 : decide (x3 < a) = false := nb (by omega)
            go_wp2_with fail
            go_meet
            exact ⟨rfl, Below.refl _ _⟩
        case rest =>
          obtain ⟨rfl, hbx⟩ := hcut
          rename World => wx
          have hBC := BC.keep hbx hBC
          have hB := Below.next hB hbx
          clear hbx
          by_cases hrt : 1 < c.rt
          · have d4 : decide (1 < c.rt) = true := yb hrt
            obtain ⟨x4, y4, z4, hk4, hz4⟩ := H4.out hrt
            have HK4 := Lib.hid hk4
            have HZ4 := Lib.hid hz4
            clear hk4 hz4 hrt
            go_upto_region 20 with fail
            obtain ⟨wl, hwl⟩ : ∃ wl : World, wl = wx.alloc (.cells #[.int .i64 c.fr, .int .i64 c.dt, .int .i64 c.st, .int .i64 c.en, .int .i64 (c.rt - 1), .int .i64 c.dl] 23) := ⟨_, rfl⟩
            have hBC2 : BC wl wx.heap.size ⟨c.fr, c.dt, c.st, c.en, c.rt - 1, c.dl⟩ := by rw [hwl]; simp [BC, go_sem]
            have hBC : BC wl S c := by rw [hwl]; exact hBC.al _
            have hB : Below w.heap.size w wl := by rw [hwl]; exact Below.al hB _
            obtain ⟨S2, hS2⟩ : ∃ S2, S2 = wx.heap.size := ⟨_, rfl⟩
            rw [← hwl, ← hS2]
            rw [← hS2] at hBC2
            clear hwl hS2
            go_wp2_with fail
            refine (finish_any (slC c) t' (1 + n') x4 y4 z4 HK4.out _).mono ?_
            rintro e w1 ⟨rfl, hb⟩
            have hB := Below.next hB hb
            have hBC := BC.keep hb hBC
            obtain ⟨wn, rfl⟩ : ∃ wn, wn = w1 := ⟨_, rfl⟩
            clear hb
            clear hBC2
            go_upto_region 21 with fail
            go_cut [149] (fun v wx => v = .bool false ∧ Below wn.heap.size wn wx)
            case first =>
              rcases HZ4.out with ⟨rfl, rfl⟩ | ⟨rfl, h1⟩
              · go_wp2_with fail
                go_meet
                exact ⟨rfl, Below.refl _ _⟩
              · have d1 : decide (x4 < a) = false := nb (by omega)
                go_wp2_with fail
                go_meet
                exact ⟨rfl, Below.refl _ _⟩
            case rest =>
              obtain ⟨rfl, hbx⟩ := hcut
              have hB := Below.next hB hbx
              clear hbx
              go_wp2_with fail
              go_ret
              exact ⟨rfl, hB⟩
          · have d4 : decide (1 < c.rt) = false := nb hrt
            clear hrt
            go_wp2_with fail
            go_ret
            exact ⟨rfl, hB⟩
      · have d3 : decide (c.st + 1 < c.en) = false := nb hse
        clear hse
        by_cases hrt : 1 < c.rt
        · have d4 : decide (1 < c.rt) = true := yb hrt
          obtain ⟨x4, y4, z4, hk4, hz4⟩ := H4.out hrt
          have HK4 := Lib.hid hk4
          have HZ4 := Lib.hid hz4
          clear hk4 hz4 hrt
          go_upto_region 20 with fail
          obtain ⟨wl, hwl⟩ : ∃ wl : World, wl = wx.alloc (.cells #[.int .i64 c.fr, .int .i64 c.dt, .int .i64 c.st, .int .i64 c.en, .int .i64 (c.rt - 1), .int .i64 c.dl] 23) := ⟨_, rfl⟩
          have hBC2 : BC wl wx.heap.size ⟨c.fr, c.dt, c.st, c.en, c.rt - 1, c.dl⟩ := by rw [hwl]; simp [BC, go_sem]
          have hBC : BC wl S c := by rw [hwl]; exact hBC.al _
          have hB : Below w.heap.size w wl := by rw [hwl]; exact Below.al hB _
          obtain ⟨S2, hS2⟩ : ∃ S2, S2 = wx.heap.size := ⟨_, rfl⟩
          rw [← hwl, ← hS2]
          rw [← hS2] at hBC2
          clear hwl hS2
          go_wp2_with fail
          refine (finish_any (slC c) t' (1 + n') x4 y4 z4 HK4.out _).mono ?_
          rintro e w1 ⟨rfl, hb⟩
          have hB := Below.next hB hb
          have hBC := BC.keep hb hBC
          obtain ⟨wn, rfl⟩ : ∃ wn, wn = w1 := ⟨_, rfl⟩
          clear hb
          clear hBC2
          go_upto_region 21 with fail
          go_cut [149] (fun v wx => v = .bool false ∧ Below wn.heap.size wn wx)
          case first =>
            rcases HZ4.out with ⟨rfl, rfl⟩ | ⟨rfl, h1⟩
            · go_wp2_with fail
              go_meet
              exact ⟨rfl, Below.refl _ _⟩
            · have d1 : decide (x4 < a) = false := nb (by omega)
              go_wp2_with fail
              go_meet
              exact ⟨rfl, Below.refl _ _⟩
          case rest =>
            obtain ⟨rfl, hbx⟩ := hcut
            have hB := Below.next hB hbx
            clear hbx
            go_wp2_with fail
            go_ret
            exact ⟨rfl, hB⟩
        · have d4 : decide (1 < c.rt) = false := nb hrt
          clear hrt
          go_wp2_with fail
          go_ret
          exact ⟨rfl, hB⟩
end Go.Proofs.Ytnbjdgjopdeolaa
