

/- Forecast: out, and the reference's rate and out. -/
import Derived.Test.YtnbjdgjopdeolaaFA
namespace Go.Proofs.Ytnbjdgjopdeolaa
open Go.RowKit Go.Shelf
set_option linter.unusedSimpArgs false
set_option linter.unusedVariables false
set_option maxRecDepth 100000

/-- what a node sends at a tick over the first k contacts -/
def outK (cs : List Ct) (nd t : Int) : Nat → Int
  | 0 => 0
  | k + 1 => if (cs.getD k c0).fr = nd ∧ on (cs.getD k c0) t then outK cs nd t k + (cs.getD k c0).rt else outK cs nd t k
theorem outK_bd {cs : List Ct} (h : ∀ k, k < cs.length → okC (cs.getD k c0)) (nd t : Int) : ∀ k, k ≤ cs.length → 0 ≤ outK cs nd t k ∧ outK cs nd t k ≤ 1048576 * k
  | 0, _ => ⟨Int.le_refl _, Int.le_refl _⟩
  | k + 1, hk => by
    have ih := outK_bd h nd t k (by omega)
    have h1 := (h k (by omega)).2.2.2.2.2.2.1
    have h2 := (h k (by omega)).2.2.2.2.2.2.2.1
    unfold outK
    split <;> (refine ⟨by omega, ?_⟩; push_cast; omega)
set_option maxHeartbeats 2000000 in
theorem out_any (cs : List Ct) (v : Value) (nd t : Int) (hok : ∀ k, k < cs.length → okC (cs.getD k c0)) (hl : cs.length ≤ 200) (w : World) (h : RdC w v cs) :
    Calls Try.prog 89 #[.int .i64 nd, v, .int .i64 t] w fun e w' => e = .returned (.int .u64 (outK cs nd t cs.length)) ∧ Below w.heap.size w w' := by
  obtain ⟨a0, n0, rfl⟩ := h.form
  have HBD := Lib.hid (outK_bd hok nd t)
  obtain ⟨N, hN⟩ : ∃ N, cs.length = N := ⟨_, rfl⟩
  rw [hN] at h hl hok HBD ⊢
  have HR := Lib.hid h
  have HN := Lib.hid hN
  have HOK := Lib.hid hok
  clear h hN hok
  go_enter Try.func89, Try.ntmps89
  go_wp2_with fail
  go_loopw [7, 12] (fun s i wr => ∃ k : Nat, k ≤ N ∧ i = .int .i64 k ∧ s = .int .u64 (outK cs nd t k) ∧ Below w.heap.size w wr) (fun _ i _ => N - (intOf i).toNat)
  case atStart => exact ⟨0, Nat.zero_le _, rfl, rfl, (by repeat (first | assumption | exact Below.refl _ _ | apply Below.al | apply below_drewN | apply Below.drew | refine Below.next ?_ (by assumption)))⟩
  case round =>
    obtain ⟨k, hk, rfl, rfl, hB⟩ := hrel
    by_cases hlt : k < N
    · have d2 : decide ((k : Int) < (N : Int)) = true := yb (by omega)
      obtain ⟨b, off, rfl, hcap, hca⟩ := HR.out.at HN.out k hlt
      have hok := HOK.out k hlt
      have hbd := HBD.out k hk
      have hst : outK cs nd t (k + 1) = if (cs.getD k c0).fr = nd ∧ on (cs.getD k c0) t then outK cs nd t k + (cs.getD k c0).rt else outK cs nd t k := rfl
      obtain ⟨c, HC⟩ : ∃ c, Hid (cs.getD k c0 = c) := ⟨_, rfl⟩
      rw [HC.out] at hca hok hst
      obtain ⟨s, hs⟩ : ∃ s, outK cs nd t k = s := ⟨_, rfl⟩
      rw [hs] at hbd hst ⊢
      clear hs
      have hca := CA.keep hB hca
      have i1 : (0 : Int) ≤ (k : Int) := by omega
      have i2 : (k : Int) < (N : Int) := by omega
      have hwk : IntKind.i64.wrap (k : Int) = (k : Int) := IntWalk.i64_in _ (by omega)
      have hwk1 : IntKind.i64.wrap ((k : Int) + 1) = (k : Int) + 1 := IntWalk.i64_in _ (by omega)
      have hr1 := hok.2.2.2.2.2.2.1
      have hr2 := hok.2.2.2.2.2.2.2.1
      have hwr : IntKind.u64.wrap c.rt = c.rt := IntWalk.u64_in _ (by omega)
      have hws : IntKind.u64.wrap (s + c.rt) = s + c.rt := IntWalk.u64_in _ (by omega)
      obtain ⟨W1, hW1⟩ : ∃ W : World, W = wr.alloc (.cells #[.int .i64 c.fr, .int .i64 c.dt, .int .i64 c.st, .int .i64 c.en, .int .i64 c.rt, .int .i64 c.dl] 23) := ⟨_, rfl⟩
      have hBC : BC W1 wr.heap.size c := by rw [hW1]; simp [BC, go_sem]
      have hB : Below w.heap.size w W1 := by rw [hW1]; exact Below.al hB _
      go_upto_region 5 with fail
      rw [← hW1]
      obtain ⟨Sx, hSx⟩ : ∃ S : Nat, S = wr.heap.size := ⟨_, rfl⟩
      rw [← hSx] at hBC ⊢
      have HS0 := Lib.hid hst
      clear hW1 hSx hca hst hok hbd hr1 hr2
      by_cases h1 : c.fr = nd
      · have f1 : (c.fr == nd) = true := by simp [h1]
        have H1 := Lib.hid h1
        clear h1
        go_wp2_with fail
        refine (active_any c t _).mono ?_
        rintro e w2 ⟨rfl, hb⟩
        have hBC := BC.keep hb hBC
        have hB := Below.next hB hb
        clear hb
        by_cases h2 : on c t
        · have hst := HS0.out
          rw [if_pos ⟨H1.out, h2⟩] at hst
          have HST := Lib.hid hst
          rw [yb h2]
          clear hst h2 HS0
          go_wp2_with fail
          go_roundw
          case rel => exact ⟨k + 1, by omega, by go_num, by rw [HST.out], hB⟩
          case measure => simp [intOf]; omega
        · have hst := HS0.out
          rw [if_neg (fun h => h2 h.2)] at hst
          have HST := Lib.hid hst
          rw [nb h2]
          clear hst h2 HS0
          go_wp2_with fail
          go_roundw
          case rel => exact ⟨k + 1, by omega, by go_num, by rw [HST.out], hB⟩
          case measure => simp [intOf]; omega
      · have f1 : (c.fr == nd) = false := by simp [h1]
        have hst := HS0.out
        rw [if_neg (fun h => h1 h.1)] at hst
        have HST := Lib.hid hst
        clear hst h1 HS0
        go_wp2_with fail
        go_roundw
        case rel => exact ⟨k + 1, by omega, by go_num, by rw [HST.out], hB⟩
        case measure => simp [intOf]; omega
    · obtain rfl : k = N := by omega
      have d2 : decide ((k : Int) < (k : Int)) = false := nb (by omega)
      go_wp2_with fail
      go_ret
      exact ⟨rfl, hB⟩

/-- the contact goes from fr to dt and is under way -/
def hit (c : Ct) (fr dt t : Int) : Prop := c.fr = fr ∧ c.dt = dt ∧ on c t
instance (c : Ct) (fr dt t : Int) : Decidable (hit c fr dt t) := by unfold hit; infer_instance
/-- the rate of the first of the first k contacts that is under way from fr to dt -/
def rateK (cs : List Ct) (fr dt t : Int) : Nat → Int
  | 0 => 0
  | k + 1 => if rateK cs fr dt t k ≠ 0 then rateK cs fr dt t k else if hit (cs.getD k c0) fr dt t then (cs.getD k c0).rt else 0
theorem rateK_keep {cs : List Ct} {fr dt t : Int} {k : Nat} (h : rateK cs fr dt t k ≠ 0) : ∀ n, k ≤ n → rateK cs fr dt t n = rateK cs fr dt t k := by
  intro n hn
  induction n with
  | zero => rw [Nat.le_zero.1 hn]
  | succ n ih =>
    by_cases hk : k = n + 1
    · rw [hk]
    · have := ih (by omega)
      conv => { lhs; unfold rateK }
      rw [this, if_pos h]
set_option maxHeartbeats 2000000 in
theorem rrate_any (cs : List Ct) (v : Value) (fr dt t : Int) (hok : ∀ k, k < cs.length → okC (cs.getD k c0)) (hl : cs.length ≤ 200) (w : World) (h : RdC w v cs) :
    Calls Try.prog 100 #[v, .int .i64 fr, .int .i64 dt, .int .i64 t] w fun e w' => e = .returned (.int .u64 (rateK cs fr dt t cs.length)) ∧ Below w.heap.size w w' := by
  obtain ⟨a0, n0, rfl⟩ := h.form
  obtain ⟨N, hN⟩ : ∃ N, cs.length = N := ⟨_, rfl⟩
  rw [hN] at h hl hok ⊢
  have HR := Lib.hid h
  have HN := Lib.hid hN
  have HOK := Lib.hid hok
  clear h hN hok
  go_enter Try.func100, Try.ntmps100
  go_wp2_with fail
  go_loopw [9] (fun i wr => ∃ k : Nat, k ≤ N ∧ i = .int .i64 k ∧ Hid (rateK cs fr dt t k = 0) ∧ Below w.heap.size w wr) (fun i _ => N - (intOf i).toNat)
  case atStart => exact ⟨0, Nat.zero_le _, rfl, rfl, (by repeat (first | assumption | exact Below.refl _ _ | apply Below.al | apply below_drewN | apply Below.drew | refine Below.next ?_ (by assumption)))⟩
  case round =>
    obtain ⟨k, hk, rfl, HZ, hB⟩ := hrel
    by_cases hlt : k < N
    · have d2 : decide ((k : Int) < (N : Int)) = true := yb (by omega)
      obtain ⟨b, off, rfl, hcap, hca⟩ := HR.out.at HN.out k hlt
      have hok := HOK.out k hlt
      have hst : rateK cs fr dt t (k + 1) = if hit (cs.getD k c0) fr dt t then (cs.getD k c0).rt else 0 := by
        conv => { lhs; unfold rateK }
        rw [if_neg (by rw [HZ.out]; simp)]
      obtain ⟨c, HC⟩ : ∃ c, Hid (cs.getD k c0 = c) := ⟨_, rfl⟩
      rw [HC.out] at hca hok hst
      have hca := CA.keep hB hca
      have i1 : (0 : Int) ≤ (k : Int) := by omega
      have i2 : (k : Int) < (N : Int) := by omega
      have hwk : IntKind.i64.wrap (k : Int) = (k : Int) := IntWalk.i64_in _ (by omega)
      have hwk1 : IntKind.i64.wrap ((k : Int) + 1) = (k : Int) + 1 := IntWalk.i64_in _ (by omega)
      have hr1 := hok.2.2.2.2.2.2.1
      have hr2 := hok.2.2.2.2.2.2.2.1
      have hwr : IntKind.u64.wrap c.rt = c.rt := IntWalk.u64_in _ (by omega)
      obtain ⟨W1, hW1⟩ : ∃ W : World, W = wr.alloc (.cells #[.int .i64 c.fr, .int .i64 c.dt, .int .i64 c.st, .int .i64 c.en, .int .i64 c.rt, .int .i64 c.dl] 23) := ⟨_, rfl⟩
      have hBC : BC W1 wr.heap.size c := by rw [hW1]; simp [BC, go_sem]
      have hB : Below w.heap.size w W1 := by rw [hW1]; exact Below.al hB _
      go_upto_region 5 with fail
      rw [← hW1]
      obtain ⟨Sx, hSx⟩ : ∃ S : Nat, S = wr.heap.size := ⟨_, rfl⟩
      rw [← hSx] at hBC ⊢
      have HS0 := Lib.hid hst
      clear hW1 hSx hca hst hok hr2
      by_cases h1 : c.fr = fr
      · have f1 : (c.fr == fr) = true := by simp [h1]
        by_cases h2 : c.dt = dt
        · have f2 : (c.dt == dt) = true := by simp [h2]
          by_cases h3 : c.st ≤ t
          · have f3 : decide (c.st ≤ t) = true := yb h3
            by_cases h4 : t < c.en
            · have f4 : decide (t < c.en) = true := yb h4
              have hst := HS0.out
              rw [if_pos ⟨h1, h2, h3, h4⟩] at hst
              have hfin := rateK_keep (cs := cs) (fr := fr) (dt := dt) (t := t) (k := k + 1) (by rw [hst]; omega) N (by omega)
              rw [hst] at hfin
              have HF := Lib.hid hfin
              clear hst hfin HS0 h1 h2 h3 h4
              go_wp2_with fail
              go_ret
              exact ⟨by rw [HF.out]; rfl, hB⟩
            · have f4 : decide (t < c.en) = false := nb h4
              have HS0 : Hid (rateK cs fr dt t (k + 1) = 0) := by unfold Hid; rw [HS0.out, if_neg (fun h => h4 h.2.2.2)]
              clear h1 h2 h3 h4
              go_wp2_with fail
              go_roundw
              case rel => exact ⟨k + 1, by omega, by go_num, HS0, hB⟩
              case measure => simp [intOf]; omega
          · have f3 : decide (c.st ≤ t) = false := nb h3
            have HS0 : Hid (rateK cs fr dt t (k + 1) = 0) := by unfold Hid; rw [HS0.out, if_neg (fun h => h3 h.2.2.1)]
            clear h1 h2 h3
            go_wp2_with fail
            go_roundw
            case rel => exact ⟨k + 1, by omega, by go_num, HS0, hB⟩
            case measure => simp [intOf]; omega
        · have f2 : (c.dt == dt) = false := by simp [h2]
          have HS0 : Hid (rateK cs fr dt t (k + 1) = 0) := by unfold Hid; rw [HS0.out, if_neg (fun h => h2 h.2.1)]
          clear h1 h2
          go_wp2_with fail
          go_roundw
          case rel => exact ⟨k + 1, by omega, by go_num, HS0, hB⟩
          case measure => simp [intOf]; omega
      · have f1 : (c.fr == fr) = false := by simp [h1]
        have HS0 : Hid (rateK cs fr dt t (k + 1) = 0) := by unfold Hid; rw [HS0.out, if_neg (fun h => h1 h.1)]
        clear h1
        go_wp2_with fail
        go_roundw
        case rel => exact ⟨k + 1, by omega, by go_num, HS0, hB⟩
        case measure => simp [intOf]; omega
    · obtain rfl : k = N := by omega
      have d2 : decide ((k : Int) < (k : Int)) = false := nb (by omega)
      go_wp2_with fail
      go_ret
      exact ⟨by rw [HZ.out]; rfl, hB⟩
end Go.Proofs.Ytnbjdgjopdeolaa
