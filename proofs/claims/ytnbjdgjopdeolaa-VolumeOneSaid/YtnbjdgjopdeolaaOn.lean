

/- VolumeOne: one contact alone: the walk of the law. -/
import Derived.Test.YtnbjdgjopdeolaaZ
import Derived.Test.YtnbjdgjopdeolaaPL
namespace Go.Proofs.Ytnbjdgjopdeolaa
open Go.RowKit Go.Shelf
set_option linter.unusedSimpArgs false
set_option linter.unusedVariables false
set_option maxRecDepth 100000

theorem planChk_one {c : Ct} (h : okC c) : planChk [c] = (0, 0) :=
  PV.chk ⟨fun x hx => by rw [List.mem_singleton.1 hx]; exact h, List.pairwise_singleton _ _⟩ (by simp)
theorem bkE_one {c : Ct} (h : okC c) (b : Int) : bkE [c] [b] = 0 := by
  unfold bkE
  rw [planChk_one h]
  simp
theorem Crv_one {c : Ct} {b t n g : Int} (h : okC c) (hf : c.fr = 1) (hd : c.dt = 2) (hb0 : 0 ≤ b) (hb1 : b ≤ vol c) (ht : tickB t = true) (hn : bytesB n = true) (hg : max b (pos c t) = g) :
    Crv [c] [b] 1 2 t n = if vol c < g + n then ([], 0, 16) else ([g + n], thr c (g + n), 0) := by
  have hn1 : 1 ≤ n ∧ n ≤ 1099511627776 := by simpa [bytesB] using hn
  have hp := pos_le c h t
  have hpn := pos_nn c h t
  have hov : overK [c] [b] [c].length = [] := by
    show (if b < 0 ∨ vol c < b then _ else _) = _
    rw [if_neg (by omega)]
    rfl
  have hst : carK [c] [b] 1 2 t n [c].length = stepC [c] [b] t 0 ([b], 0, n) := by
    show (if c.fr = 1 ∧ c.dt = 2 then _ else _) = _
    rw [if_pos ⟨hf, hd⟩]
    rfl
  have hsc : stepC [c] [b] t 0 ([b], 0, n) = if 0 < min n (vol c - g) then ([g + min n (vol c - g)], max 0 (thr c (g + min n (vol c - g))), n - min n (vol c - g)) else ([b], 0, n) := by
    rw [← hg]
    rfl
  unfold Crv
  rw [if_neg (by rw [bkE_one h]; simp), if_neg (by rw [ht, hn, hov]; decide), hst, hsc]
  by_cases hl : vol c < g + n
  · rw [if_pos hl]
    by_cases h0 : 0 < min n (vol c - g)
    · rw [if_pos h0, if_pos (by show 0 < n - min n (vol c - g); omega)]
    · rw [if_neg h0, if_pos (by show 0 < n; omega)]
  · rw [if_neg hl]
    have hm : min n (vol c - g) = n := by omega
    have ht := thr_bd h (p := g + n) (by omega) (by omega)
    have hs := h.2.2.2.1
    rw [hm, if_pos (show 0 < n by omega), if_neg (by show ¬ 0 < n - n; omega)]
    show ([g + n], max 0 (thr c (g + n)), (0 : Int)) = _
    rw [show max 0 (thr c (g + n)) = thr c (g + n) by omega]

set_option maxHeartbeats 2000000 in
theorem lawOne (x b t n : Int) (hx : Ib x) (hb0 : Ib b) (ht0 : Ib t) (hn0 : Ib n) (w : World) :
    Calls Try.prog 12 #[.int .i64 x, .int .i64 b, .int .i64 t, .int .i64 n] w fun e w' => e = .returned (.bool true) ∧ Below w.heap.size w w' := by
  obtain ⟨c, hc⟩ : ∃ c, mkC x = c := ⟨_, rfl⟩
  have hok : okC c := hc ▸ mkC_ok x
  have hv : 1 ≤ vol c ∧ vol c ≤ 270 := hc ▸ mkC_vol x
  have hfr : c.fr = 1 := by rw [← hc]; rfl
  have hdt : c.dt = 2 := by rw [← hc]; rfl
  have hwf : ∀ d, d ∈ [c] → Wf d := by
    intro d hd
    rw [List.mem_singleton.1 hd]
    have q1 := hok
    unfold okC at q1
    unfold Wf
    refine ⟨?_, ?_, ?_, ?_, ?_, ?_⟩ <;> exact WalkArith.wf_i64 (by omega)
  have HC := Lib.hid hc
  have HWF := Lib.hid hwf
  clear hc hwf
  obtain ⟨b', hb⟩ : ∃ b', b % (vol c + 1) = b' := ⟨_, rfl⟩
  obtain ⟨t', ht⟩ : ∃ t', t % 60 = t' := ⟨_, rfl⟩
  obtain ⟨n', hn⟩ : ∃ n', n % 200 = n' := ⟨_, rfl⟩
  have b1 : 0 ≤ b' ∧ b' ≤ vol c := by
    have h1 := Int.emod_nonneg b (show vol c + 1 ≠ 0 by omega)
    have h2 := Int.emod_lt_of_pos b (show 0 < vol c + 1 by omega)
    omega
  have t1 : 0 ≤ t' ∧ t' < 60 := by omega
  have n1 : 0 ≤ n' ∧ n' < 200 := by omega
  have HB := Lib.hid hb
  have HT := Lib.hid ht
  have HN := Lib.hid hn
  clear hb ht hn
  have tk : tickB t' = true := by simp [tickB]; omega
  have by1 : bytesB (1 + n') = true := by simp [bytesB]; omega
  obtain ⟨g, hg⟩ : ∃ g, max b' (pos c t') = g := ⟨_, rfl⟩
  have hcv := Crv_one hok hfr hdt b1.1 b1.2 tk by1 hg
  have hby : Hid (By c (vol c) 0) := By.fine hok
  have d0 : decide (vol c < 1) = false := nb (by omega)
  by_cases hlate : vol c < g + (1 + n')
  · rw [if_pos hlate] at hcv
    have HCV := Lib.hid hcv
    have hbk : Hid (Bk c b' t' (1 + n') 0 0 16) := by unfold Hid; exact Bk.late hok tk b1.1 b1.2 by1 (by rw [hg]; exact hlate)
    clear hcv hlate hg tk by1 hok hfr hdt
    go_enter Try.func12, Try.ntmps12
    go_wp2_with fail
    refine (known_any _).mono ?_
    rintro e w1 ⟨rfl, hB⟩
    go_wp2_with fail
    refine (made_any x hx _).mono ?_
    rw [HC.out]
    rintro e w2 ⟨rfl, hb⟩
    have hB := Below.next hB hb
    clear hb
    obtain ⟨wn, hwn⟩ : ∃ wn : World, wn = w2.alloc (.cells #[.int .i64 c.fr, .int .i64 c.dt, .int .i64 c.st, .int .i64 c.en, .int .i64 c.rt, .int .i64 c.dl] 23) := ⟨_, rfl⟩
    have hBC : BC wn w2.heap.size c := by rw [hwn]; simp [BC, go_sem]
    have hB : Below w.heap.size w wn := by rw [hwn]; exact Below.al hB _
    obtain ⟨S, hS⟩ : ∃ S, S = w2.heap.size := ⟨_, rfl⟩
    go_upto_region 3 with fail
    rw [← hwn, ← hS]
    rw [← hS] at hBC
    clear hwn hS
    go_wp2_with fail
    refine (bytesOf_any c (vol c) 0 hby.out _).mono ?_
    rintro e w1 ⟨rfl, hb⟩
    have hB := Below.next hB hb
    have hBC := BC.keep hb hBC
    obtain ⟨wn, rfl⟩ : ∃ wn, wn = w1 := ⟨_, rfl⟩
    clear hb
    go_wp2_with fail
    refine (mod_any b (vol c + 1) (by omega) (by omega) hb0 _).mono ?_
    rw [HB.out]
    rintro e w1 ⟨rfl, rfl⟩
    go_wp2_with fail
    refine (mod_any t 60 (by omega) (by omega) ht0 _).mono ?_
    rw [HT.out]
    rintro e w1 ⟨rfl, rfl⟩
    go_wp2_with fail
    refine (mod_any n 200 (by omega) (by omega) hn0 _).mono ?_
    rw [HN.out]
    rintro e w1 ⟨rfl, rfl⟩
    obtain ⟨wl, hwl⟩ : ∃ wl : World, wl = wn.alloc (.cells #[.int .i64 c.fr, .int .i64 c.dt, .int .i64 c.st, .int .i64 c.en, .int .i64 c.rt, .int .i64 c.dl] 23) := ⟨_, rfl⟩
    have hl : RdC wl (.slice (some ⟨wn.heap.size, 0, none⟩) 1 1) [c] := by rw [hwl]; exact rdc_block wn [c] 23 (by simp; decide)
    have hzl : wl.heap.size = wn.heap.size + 1 := by rw [hwl]; simp
    have hu : RdI .i64 (wl.alloc (.cells #[.int .i64 b'] 3)) (.slice (some ⟨wn.heap.size + 1, 0, none⟩) 1 1) [b'] := by rw [← hzl]; exact rdi_block wl [b'] 3 (by simp; decide)
    have hl := hl.keep ((Below.refl _ wl).alloc (Nat.le_refl _) (.cells #[.int .i64 b'] 3))
    have hBC : BC wl S c := by rw [hwl]; exact hBC.al _
    have hB : Below w.heap.size w wl := by rw [hwl]; exact Below.al hB _
    have HL := Lib.hid hl
    have HU := Lib.hid hu
    clear hl hu hzl
    go_wp2_with fail
    rw [← hwl]
    clear hwl
    refine (carry_any [c] _ [b'] _ 1 2 t' (1 + n') HWF.out 16 0 [] HCV.out _ HL.out HU.out).mono ?_
    rintro e w1 ⟨r, rfl, hr, hb⟩
    have hb := bel_al hb trivial
    have hBC := BC.keep hb hBC
    have hB := Below.next hB hb
    obtain ⟨wn, rfl⟩ : ∃ wn, wn = w1 := ⟨_, rfl⟩
    clear hb
    obtain ⟨ra, rc, rfl⟩ := hr.form
    rw [show ([] : List Int).length = 0 from rfl]
    clear hr
    go_wp2_with fail
    refine (book_any c b' t' (1 + n') _ _ _ hbk.out _).mono ?_
    rintro e w1 ⟨rfl, hb⟩
    have hB := Below.next hB hb
    have hBC := BC.keep hb hBC
    obtain ⟨wn, rfl⟩ : ∃ wn, wn = w1 := ⟨_, rfl⟩
    clear hb
    go_wp2_with fail
    go_ret
    exact ⟨rfl, hB⟩
  · rw [if_neg hlate] at hcv
    have HCV := Lib.hid hcv
    have hbk : Hid (Bk c b' t' (1 + n') (thr c (g + (1 + n'))) (g + (1 + n')) 0) := by
      unfold Hid
      have := Bk.fine (n := 1 + n') hok tk b1.1 b1.2 by1 (by rw [hg]; omega)
      rwa [hg] at this
    obtain ⟨T, HT1⟩ : ∃ T, Hid (thr c (g + (1 + n')) = T) := ⟨_, rfl⟩
    obtain ⟨o, HO⟩ : ∃ o, Hid (g + (1 + n') = o) := ⟨_, rfl⟩
    rw [HT1.out, HO.out] at hbk HCV
    have e1 : (T == T) = true := by simp
    have e2 : (o == o) = true := by simp
    clear hcv hlate hg tk by1 hok hfr hdt
    go_enter Try.func12, Try.ntmps12
    go_wp2_with fail
    refine (known_any _).mono ?_
    rintro e w1 ⟨rfl, hB⟩
    go_wp2_with fail
    refine (made_any x hx _).mono ?_
    rw [HC.out]
    rintro e w2 ⟨rfl, hb⟩
    have hB := Below.next hB hb
    clear hb
    obtain ⟨wn, hwn⟩ : ∃ wn : World, wn = w2.alloc (.cells #[.int .i64 c.fr, .int .i64 c.dt, .int .i64 c.st, .int .i64 c.en, .int .i64 c.rt, .int .i64 c.dl] 23) := ⟨_, rfl⟩
    have hBC : BC wn w2.heap.size c := by rw [hwn]; simp [BC, go_sem]
    have hB : Below w.heap.size w wn := by rw [hwn]; exact Below.al hB _
    obtain ⟨S, hS⟩ : ∃ S, S = w2.heap.size := ⟨_, rfl⟩
    go_upto_region 3 with fail
    rw [← hwn, ← hS]
    rw [← hS] at hBC
    clear hwn hS
    go_wp2_with fail
    refine (bytesOf_any c (vol c) 0 hby.out _).mono ?_
    rintro e w1 ⟨rfl, hb⟩
    have hB := Below.next hB hb
    have hBC := BC.keep hb hBC
    obtain ⟨wn, rfl⟩ : ∃ wn, wn = w1 := ⟨_, rfl⟩
    clear hb
    go_wp2_with fail
    refine (mod_any b (vol c + 1) (by omega) (by omega) hb0 _).mono ?_
    rw [HB.out]
    rintro e w1 ⟨rfl, rfl⟩
    go_wp2_with fail
    refine (mod_any t 60 (by omega) (by omega) ht0 _).mono ?_
    rw [HT.out]
    rintro e w1 ⟨rfl, rfl⟩
    go_wp2_with fail
    refine (mod_any n 200 (by omega) (by omega) hn0 _).mono ?_
    rw [HN.out]
    rintro e w1 ⟨rfl, rfl⟩
    obtain ⟨wl, hwl⟩ : ∃ wl : World, wl = wn.alloc (.cells #[.int .i64 c.fr, .int .i64 c.dt, .int .i64 c.st, .int .i64 c.en, .int .i64 c.rt, .int .i64 c.dl] 23) := ⟨_, rfl⟩
    have hl : RdC wl (.slice (some ⟨wn.heap.size, 0, none⟩) 1 1) [c] := by rw [hwl]; exact rdc_block wn [c] 23 (by simp; decide)
    have hzl : wl.heap.size = wn.heap.size + 1 := by rw [hwl]; simp
    have hu : RdI .i64 (wl.alloc (.cells #[.int .i64 b'] 3)) (.slice (some ⟨wn.heap.size + 1, 0, none⟩) 1 1) [b'] := by rw [← hzl]; exact rdi_block wl [b'] 3 (by simp; decide)
    have hl := hl.keep ((Below.refl _ wl).alloc (Nat.le_refl _) (.cells #[.int .i64 b'] 3))
    have hBC : BC wl S c := by rw [hwl]; exact hBC.al _
    have hB : Below w.heap.size w wl := by rw [hwl]; exact Below.al hB _
    have HL := Lib.hid hl
    have HU := Lib.hid hu
    clear hl hu hzl
    go_wp2_with fail
    rw [← hwl]
    clear hwl
    refine (carry_any [c] _ [b'] _ 1 2 t' (1 + n') HWF.out 0 T [o] HCV.out _ HL.out HU.out).mono ?_
    rintro e w1 ⟨r, rfl, hr, hb⟩
    have hb := bel_al hb trivial
    have hBC := BC.keep hb hBC
    have hB := Below.next hB hb
    obtain ⟨wn, rfl⟩ : ∃ wn, wn = w1 := ⟨_, rfl⟩
    clear hb
    obtain ⟨ra, rc, rfl⟩ := hr.form
    rw [show ([o] : List Int).length = 1 from rfl] at hr ⊢
    go_wp2_with fail
    refine (book_any c b' t' (1 + n') _ _ _ hbk.out _).mono ?_
    rintro e w1 ⟨rfl, hb⟩
    have hB := Below.next hB hb
    have hr := hr.keep hb
    obtain ⟨wn, rfl⟩ : ∃ wn, wn = w1 := ⟨_, rfl⟩
    clear hb
    obtain ⟨br, orr, rfl, _, hcell⟩ := hr.at rfl 0 (by omega)
    have hcell : wn.cell? ⟨br, orr, none⟩ = some (.int .i64 o) := hcell
    clear hr
    go_wp2_with fail
    go_ret
    exact ⟨rfl, hB⟩
end Go.Proofs.Ytnbjdgjopdeolaa
