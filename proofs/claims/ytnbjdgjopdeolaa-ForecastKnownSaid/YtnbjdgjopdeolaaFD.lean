

/- Forecast: Drained, both texts. -/
import Derived.Test.YtnbjdgjopdeolaaFP
namespace Go.Proofs.Ytnbjdgjopdeolaa
open Go.RowKit Go.Shelf
set_option linter.unusedSimpArgs false
set_option linter.unusedVariables false
set_option maxRecDepth 100000

theorem drained_bad (c : Cf) (q st : Int) (rs : Value) (xs : List Int) (cs : List Ct) (v : Value) (now un : Int) (i : Inp q st xs) (hwf : ∀ c, c ∈ cs → Wf c) (hno : Ib now) (hun : Ib un) (er : Int) (he : fck c q st xs cs now un = er) (hne : er ≠ 0) (w : World) (h : RdI .u64 w rs xs) (hp : RdC w v cs) :
    Calls Try.prog 53 #[c.v, Sv q st rs, v, .int .i64 now, .int .i64 un] w fun e w' => e = .returned (.tuple #[.int .i64 0, .int .i64 er]) ∧ Below w.heap.size w w' := by
  have HR := Lib.hid h
  have HP := Lib.hid hp
  have HWF := Lib.hid hwf
  have HE := Lib.hid he
  have d1 : (er != 0) = true := by simpa using hne
  clear h hp hwf he hne
  go_enter Try.func53, Try.ntmps53
  go_wp2_with fail
  refine (fcheck_any c q st rs xs cs v now un i HWF.out hno hun er HE.out _ (HR.out.keep (by repeat (first | assumption | exact Below.refl _ _ | apply Below.al | apply below_drewN | apply Below.drew | refine Below.next ?_ (by assumption)))) (HP.out.keep (by repeat (first | assumption | exact Below.refl _ _ | apply Below.al | apply below_drewN | apply Below.drew | refine Below.next ?_ (by assumption))))).mono ?_
  rintro e w1 ⟨rfl, hb⟩
  have hB : Below w.heap.size w w1 := (by repeat (first | assumption | exact Below.refl _ _ | apply Below.al | apply below_drewN | apply Below.drew | refine Below.next ?_ (by assumption)))
  clear hb
  go_wp2_with fail
  go_ret2
  exact ⟨rfl, hB⟩
theorem rdrained_bad (c : Cf) (q st : Int) (rs : Value) (xs : List Int) (cs : List Ct) (v : Value) (now un : Int) (i : Inp q st xs) (hno : Ib now) (hun : Ib un) (er : Int) (he : fck c q st xs cs now un = er) (hne : er ≠ 0) (w : World) (h : RdI .u64 w rs xs) (hp : RdC w v cs) :
    Calls Try.prog 54 #[c.v, Sv q st rs, v, .int .i64 now, .int .i64 un] w fun e w' => e = .returned (.tuple #[.int .i64 0, .int .i64 er]) ∧ Below w.heap.size w w' := by
  have HR := Lib.hid h
  have HP := Lib.hid hp
  have HE := Lib.hid he
  have d1 : (er != 0) = true := by simpa using hne
  clear h hp he hne
  go_enter Try.func54, Try.ntmps54
  go_wp2_with fail
  refine (rasks_any c q st rs xs cs v now un i hno hun er HE.out _ (HR.out.keep (by repeat (first | assumption | exact Below.refl _ _ | apply Below.al | apply below_drewN | apply Below.drew | refine Below.next ?_ (by assumption)))) (HP.out.keep (by repeat (first | assumption | exact Below.refl _ _ | apply Below.al | apply below_drewN | apply Below.drew | refine Below.next ?_ (by assumption))))).mono ?_
  rintro e w1 ⟨rfl, hb⟩
  have hB : Below w.heap.size w w1 := (by repeat (first | assumption | exact Below.refl _ _ | apply Below.al | apply below_drewN | apply Below.drew | refine Below.next ?_ (by assumption)))
  clear hb
  go_wp2_with fail
  go_ret2
  exact ⟨rfl, hB⟩
theorem drG_yes {cs : List Ct} {nd st now : Int} {m f : Nat} (h : leftD cs nd st now m = 0) : drG cs nd st now m (f + 1) = (now + m, 0) := if_pos h
theorem drG_no {cs : List Ct} {nd st now : Int} {m f : Nat} (h : leftD cs nd st now m ≠ 0) : drG cs nd st now m (f + 1) = drG cs nd st now (m + 1) f := if_neg h
set_option maxHeartbeats 2000000 in
theorem drained_ok (c : Cf) (q st : Int) (rs : Value) (xs : List Int) (cs : List Ct) (v : Value) (now un : Int) (i : Inp q st xs) (hwf : ∀ c, c ∈ cs → Wf c) (hno : Ib now) (hun : Ib un) (he : fck c q st xs cs now un = 0) (w : World) (h : RdI .u64 w rs xs) (hp : RdC w v cs) :
    Calls Try.prog 53 #[c.v, Sv q st rs, v, .int .i64 now, .int .i64 un] w fun e w' => e = .returned (.tuple #[.int .i64 (drG cs c.nd st now 0 ((un - now).toNat + 1)).1, .int .i64 (drG cs c.nd st now 0 ((un - now).toNat + 1)).2]) ∧ Below w.heap.size w w' := by
  obtain ⟨hc1, hc2, hpl, hn1, hn2, hn3, hn4⟩ := fck_zero he
  have hok : ∀ k, k < cs.length → okC (cs.getD k c0) := fun k hk => okC_of hpl hk
  have hl : cs.length ≤ 200 := (ok_of_planChk hpl).1
  have hst := i.ist
  obtain ⟨M, hM⟩ : ∃ M : Nat, un = now + M := ⟨(un - now).toNat, by omega⟩
  subst hM
  rw [show (now + (M : Int) - now).toNat + 1 = M + 1 by omega]
  have hM1 : M ≤ 1000 := by omega
  have HR := Lib.hid h
  have HP := Lib.hid hp
  have HE := Lib.hid he
  have HOK := Lib.hid hok
  have HPL := Lib.hid hpl
  clear h hp he hok hpl hn3 hn4 hc2
  have HWF := Lib.hid hwf
  clear hwf
  go_enter Try.func53, Try.ntmps53
  go_wp2_with fail
  obtain ⟨W1, hW1⟩ : ∃ W : World, W = (w.alloc (.cells #[.int .i64 c.nd, .int .u64 c.qo, .int .u64 c.la, .int .u64 c.wd, .int .u64 c.lo, .int .i64 c.re, .int .i64 c.rm, .int .i64 c.by', .int .i64 c.w0, .int .i64 c.w1, .int .i64 c.w2, .int .i64 c.rn, .int .i64 c.rd, .int .i64 c.bu, .int .i64 c.bl, .int .i64 c.ra] 35)).alloc (.cells #[.int .u64 q, .int .u64 st, rs] 38) := ⟨_, rfl⟩
  have b0 : W1.cell? ⟨w.heap.size, 0, none⟩ = some (.int .i64 c.nd) := by rw [hW1]; simp [go_sem]
  have b1 : W1.cell? ⟨w.heap.size + 1, 1, none⟩ = some (.int .u64 st) := by rw [hW1]; simp [go_sem]
  have hB1 : Below w.heap.size w W1 := by rw [hW1]; exact (by repeat (first | assumption | exact Below.refl _ _ | apply Below.al | apply below_drewN | apply Below.drew | refine Below.next ?_ (by assumption)))
  rw [← hW1]
  clear hW1
  refine (fcheck_any c q st rs xs cs v now (now + M) i HWF.out hno hun 0 HE.out _ (HR.out.keep hB1) (HP.out.keep hB1)).mono ?_
  rintro e w1 ⟨rfl, hb⟩
  have b0 := cell_later hb b0
  have b1 := cell_later hb b1
  have hB := Below.next hB1 hb
  clear hb hB1
  obtain ⟨wn, rfl⟩ : ∃ wn, wn = w1 := ⟨_, rfl⟩
  go_wp2_with fail
  go_loopw [13, 14] (fun s i wr => ∃ m : Nat, m ≤ M + 1 ∧ i = .int .i64 (now + m) ∧ s = .int .u64 (leftD cs c.nd st now m) ∧ Hid (drG cs c.nd st now 0 (M + 1) = drG cs c.nd st now m (M + 1 - m)) ∧ Below wn.heap.size wn wr) (fun _ i _ => (now + M + 1 - intOf i).toNat)
  case atStart => exact ⟨0, Nat.zero_le _, by simp, rfl, rfl, Below.refl _ _⟩
  case round =>
    obtain ⟨m, hm, rfl, rfl, HD, hBr⟩ := hrel
    have b0 := cell_later hBr b0
    have hBw := Below.next hB hBr
    by_cases hlt : m ≤ M
    · have d2 : decide (now + (m : Int) ≤ now + (M : Int)) = true := yb (by omega)
      have hbd := leftD_bd HOK.out (nd := c.nd) (now := now) hst m
      have hob := outK_bd HOK.out c.nd (now + m) cs.length (Nat.le_refl _)
      have hnx : leftD cs c.nd st now (m + 1) = leftD cs c.nd st now m - min (leftD cs c.nd st now m) (outK cs c.nd (now + m) cs.length) := rfl
      have hdr : drG cs c.nd st now m (M + 1 - m) = drG cs c.nd st now m ((M - m) + 1) := by rw [show M + 1 - m = M - m + 1 by omega]
      by_cases hz : leftD cs c.nd st now m = 0
      · have HF : Hid (drG cs c.nd st now 0 (M + 1) = (now + m, 0)) := by unfold Hid; rw [HD.out, hdr, drG_yes hz]
        obtain ⟨s, hs⟩ : ∃ s, leftD cs c.nd st now m = s := ⟨_, rfl⟩
        rw [hs] at hz ⊢
        subst hz
        clear hs hbd hob hnx hdr
        go_wp2_with fail
        go_ret2
        exact ⟨by rw [HF.out]; rfl, hBw⟩
      · have HF : Hid (drG cs c.nd st now 0 (M + 1) = drG cs c.nd st now (m + 1) (M + 1 - (m + 1))) := by unfold Hid; rw [HD.out, hdr, drG_no hz]; congr 1; omega
        obtain ⟨s, hs⟩ : ∃ s, leftD cs c.nd st now m = s := ⟨_, rfl⟩
        obtain ⟨o, ho⟩ : ∃ o, outK cs c.nd (now + m) cs.length = o := ⟨_, rfl⟩
        rw [hs] at hz hbd hnx ⊢
        rw [ho] at hob hnx
        have d3 : (s == 0) = false := by simpa using hz
        have HO := Lib.hid ho
        have HNX := Lib.hid hnx
        clear hs ho hz hdr hnx
        have hwt : IntKind.i64.wrap (now + (m : Int) + 1) = now + (m : Int) + 1 := IntWalk.i64_in _ (by omega)
        go_wp2_with fail
        refine (out_any cs v c.nd (now + m) HOK.out hl _ (HP.out.keep hBw)).mono ?_
        rw [HO.out]
        rintro e w2 ⟨rfl, hb⟩
        have hBr := Below.next hBr hb
        clear hb b0 hBw
        by_cases hmn : o < s
        · have hws : IntKind.u64.wrap (s - o) = s - o := IntWalk.u64_in _ (by omega)
          have HN2 : Hid (leftD cs c.nd st now (m + 1) = s - o) := by unfold Hid; rw [HNX.out]; omega
          go_wp2_with fail
          go_roundw
          case rel => exact ⟨m + 1, by omega, by congr 1; push_cast; omega, by rw [HN2.out], HF, hBr⟩
          case measure => simp [intOf]; omega
        · have HN2 : Hid (leftD cs c.nd st now (m + 1) = 0) := by unfold Hid; rw [HNX.out]; omega
          go_wp2_with fail
          go_roundw
          case rel => exact ⟨m + 1, by omega, by congr 1; push_cast; omega, by rw [HN2.out], HF, hBr⟩
          case measure => simp [intOf]; omega
    · obtain rfl : m = M + 1 := by omega
      have d2 : decide (now + ((M + 1 : Nat) : Int) ≤ now + (M : Int)) = false := nb (by push_cast; omega)
      have HF : Hid (drG cs c.nd st now 0 (M + 1) = (0, 8)) := by unfold Hid; rw [HD.out, Nat.sub_self]; rfl
      clear b0 HD
      go_wp2_with fail
      go_ret2
      exact ⟨by rw [HF.out]; rfl, hBw⟩
set_option maxHeartbeats 2000000 in
theorem rdrained_ok (c : Cf) (q st : Int) (rs : Value) (xs : List Int) (cs : List Ct) (v : Value) (now un : Int) (i : Inp q st xs) (hno : Ib now) (hun : Ib un) (he : fck c q st xs cs now un = 0) (w : World) (h : RdI .u64 w rs xs) (hp : RdC w v cs) :
    Calls Try.prog 54 #[c.v, Sv q st rs, v, .int .i64 now, .int .i64 un] w fun e w' => e = .returned (.tuple #[.int .i64 (drG cs c.nd st now 0 ((un - now).toNat + 1)).1, .int .i64 (drG cs c.nd st now 0 ((un - now).toNat + 1)).2]) ∧ Below w.heap.size w w' := by
  obtain ⟨hc1, hc2, hpl, hn1, hn2, hn3, hn4⟩ := fck_zero he
  have hok : ∀ k, k < cs.length → okC (cs.getD k c0) := fun k hk => okC_of hpl hk
  have hl : cs.length ≤ 200 := (ok_of_planChk hpl).1
  have hst := i.ist
  obtain ⟨M, hM⟩ : ∃ M : Nat, un = now + M := ⟨(un - now).toNat, by omega⟩
  subst hM
  rw [show (now + (M : Int) - now).toNat + 1 = M + 1 by omega]
  have hM1 : M ≤ 1000 := by omega
  have HR := Lib.hid h
  have HP := Lib.hid hp
  have HE := Lib.hid he
  have HOK := Lib.hid hok
  have HPL := Lib.hid hpl
  clear h hp he hok hpl hn3 hn4 hc2
  go_enter Try.func54, Try.ntmps54
  go_wp2_with fail
  obtain ⟨W1, hW1⟩ : ∃ W : World, W = (w.alloc (.cells #[.int .i64 c.nd, .int .u64 c.qo, .int .u64 c.la, .int .u64 c.wd, .int .u64 c.lo, .int .i64 c.re, .int .i64 c.rm, .int .i64 c.by', .int .i64 c.w0, .int .i64 c.w1, .int .i64 c.w2, .int .i64 c.rn, .int .i64 c.rd, .int .i64 c.bu, .int .i64 c.bl, .int .i64 c.ra] 35)).alloc (.cells #[.int .u64 q, .int .u64 st, rs] 38) := ⟨_, rfl⟩
  have b0 : W1.cell? ⟨w.heap.size, 0, none⟩ = some (.int .i64 c.nd) := by rw [hW1]; simp [go_sem]
  have b1 : W1.cell? ⟨w.heap.size + 1, 1, none⟩ = some (.int .u64 st) := by rw [hW1]; simp [go_sem]
  have hB1 : Below w.heap.size w W1 := by rw [hW1]; exact (by repeat (first | assumption | exact Below.refl _ _ | apply Below.al | apply below_drewN | apply Below.drew | refine Below.next ?_ (by assumption)))
  rw [← hW1]
  clear hW1
  refine (rasks_any c q st rs xs cs v now (now + M) i hno hun 0 HE.out _ (HR.out.keep hB1) (HP.out.keep hB1)).mono ?_
  rintro e w1 ⟨rfl, hb⟩
  have b0 := cell_later hb b0
  have b1 := cell_later hb b1
  have hB := Below.next hB1 hb
  clear hb hB1
  obtain ⟨wn, rfl⟩ : ∃ wn, wn = w1 := ⟨_, rfl⟩
  go_wp2_with fail
  go_loopw [13, 14] (fun s i wr => ∃ m : Nat, m ≤ M + 1 ∧ i = .int .i64 (now + m) ∧ s = .int .u64 (sentD cs c.nd now m) ∧ Hid (drG cs c.nd st now 0 (M + 1) = drG cs c.nd st now m (M + 1 - m)) ∧ Below wn.heap.size wn wr) (fun _ i _ => (now + M + 1 - intOf i).toNat)
  case atStart => exact ⟨0, Nat.zero_le _, by simp, rfl, rfl, Below.refl _ _⟩
  case round =>
    obtain ⟨m, hm, rfl, rfl, HD, hBr⟩ := hrel
    have b0 := cell_later hBr b0
    have b1 := cell_later hBr b1
    have hBw := Below.next hB hBr
    by_cases hlt : m ≤ M
    · have d2 : decide (now + (m : Int) ≤ now + (M : Int)) = true := yb (by omega)
      have hbd := sentD_bd HOK.out c.nd now m
      have hob := sumK_bd HOK.out c.nd (now + m) 16
      have hls := leftD_sent HPL.out c.nd now hst.1 m
      have hnx : sentD cs c.nd now (m + 1) = sentD cs c.nd now m + sumK cs c.nd (now + m) 16 := rfl
      have hdr : drG cs c.nd st now m (M + 1 - m) = drG cs c.nd st now m ((M - m) + 1) := by rw [show M + 1 - m = M - m + 1 by omega]
      obtain ⟨s, hs⟩ : ∃ s, sentD cs c.nd now m = s := ⟨_, rfl⟩
      obtain ⟨o, ho⟩ : ∃ o, sumK cs c.nd (now + m) 16 = o := ⟨_, rfl⟩
      rw [hs] at hbd hnx hls ⊢
      rw [ho] at hob hnx
      by_cases hz : st ≤ s
      · have d3 : decide (st ≤ s) = true := yb hz
        have HF : Hid (drG cs c.nd st now 0 (M + 1) = (now + m, 0)) := by unfold Hid; rw [HD.out, hdr, drG_yes (by omega)]
        clear hs ho hbd hob hnx hdr hls hz
        go_wp2_with fail
        go_ret2
        exact ⟨by rw [HF.out]; rfl, hBw⟩
      · have d3 : decide (st ≤ s) = false := nb hz
        have HF : Hid (drG cs c.nd st now 0 (M + 1) = drG cs c.nd st now (m + 1) (M + 1 - (m + 1))) := by unfold Hid; rw [HD.out, hdr, drG_no (by omega)]; congr 1; omega
        have HO := Lib.hid ho
        have HNX := Lib.hid hnx
        clear hs ho hz hdr hnx hls
        have hwt : IntKind.i64.wrap (now + (m : Int) + 1) = now + (m : Int) + 1 := IntWalk.i64_in _ (by omega)
        have hws : IntKind.u64.wrap (s + o) = s + o := IntWalk.u64_in _ (by omega)
        go_wp2_with fail
        refine (rout_any cs v c.nd (now + m) HOK.out hl _ (HP.out.keep hBw)).mono ?_
        rw [HO.out]
        rintro e w2 ⟨rfl, hb⟩
        have hBr := Below.next hBr hb
        clear hb b0 b1 hBw
        go_wp2_with fail
        go_roundw
        case rel => exact ⟨m + 1, by omega, by congr 1; push_cast; omega, by rw [HNX.out], HF, hBr⟩
        case measure => simp [intOf]; omega
    · obtain rfl : m = M + 1 := by omega
      have d2 : decide (now + ((M + 1 : Nat) : Int) ≤ now + (M : Int)) = false := nb (by push_cast; omega)
      have HF : Hid (drG cs c.nd st now 0 (M + 1) = (0, 8)) := by unfold Hid; rw [HD.out, Nat.sub_self]; rfl
      clear b0 b1 HD
      go_wp2_with fail
      go_ret2
      exact ⟨by rw [HF.out]; rfl, hBw⟩
/-- Drained, whatever the arguments -/
theorem drained_any (c : Cf) (q st : Int) (rs : Value) (xs : List Int) (cs : List Ct) (v : Value) (now un : Int) (i : Inp q st xs) (hwf : ∀ c, c ∈ cs → Wf c) (hno : Ib now) (hun : Ib un) (w : World) (h : RdI .u64 w rs xs) (hp : RdC w v cs) :
    Calls Try.prog 53 #[c.v, Sv q st rs, v, .int .i64 now, .int .i64 un] w fun e w' => e = .returned (.tuple #[.int .i64 (drV c q st xs cs now un).1, .int .i64 (drV c q st xs cs now un).2]) ∧ Below w.heap.size w w' := by
  by_cases h0 : fck c q st xs cs now un = 0
  · rw [show drV c q st xs cs now un = drG cs c.nd st now 0 ((un - now).toNat + 1) from if_neg (by omega)]
    exact drained_ok c q st rs xs cs v now un i hwf hno hun h0 w h hp
  · rw [show drV c q st xs cs now un = (0, fck c q st xs cs now un) from if_pos h0]
    exact drained_bad c q st rs xs cs v now un i hwf hno hun _ rfl h0 w h hp
theorem rdrained_any (c : Cf) (q st : Int) (rs : Value) (xs : List Int) (cs : List Ct) (v : Value) (now un : Int) (i : Inp q st xs) (hno : Ib now) (hun : Ib un) (w : World) (h : RdI .u64 w rs xs) (hp : RdC w v cs) :
    Calls Try.prog 54 #[c.v, Sv q st rs, v, .int .i64 now, .int .i64 un] w fun e w' => e = .returned (.tuple #[.int .i64 (drV c q st xs cs now un).1, .int .i64 (drV c q st xs cs now un).2]) ∧ Below w.heap.size w w' := by
  by_cases h0 : fck c q st xs cs now un = 0
  · rw [show drV c q st xs cs now un = drG cs c.nd st now 0 ((un - now).toNat + 1) from if_neg (by omega)]
    exact rdrained_ok c q st rs xs cs v now un i hno hun h0 w h hp
  · rw [show drV c q st xs cs now un = (0, fck c q st xs cs now un) from if_pos h0]
    exact rdrained_bad c q st rs xs cs v now un i hno hun _ rfl h0 w h hp
end Go.Proofs.Ytnbjdgjopdeolaa
