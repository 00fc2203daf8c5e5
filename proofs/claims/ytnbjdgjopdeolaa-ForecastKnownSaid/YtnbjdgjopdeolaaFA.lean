

/- Forecast: check, active, out, and the reference's asks, rate, out. -/
import Derived.Test.YtnbjdgjopdeolaaSC
import Derived.Test.YtnbjdgjopdeolaaZ
namespace Go.Proofs.Ytnbjdgjopdeolaa
open Go.RowKit Go.Shelf
set_option linter.unusedSimpArgs false
set_option linter.unusedVariables false
set_option maxRecDepth 100000

structure Cf where
  nd : Int
  qo : Int
  la : Int
  wd : Int
  lo : Int
  re : Int
  rm : Int
  by' : Int
  w0 : Int
  w1 : Int
  w2 : Int
  rn : Int
  rd : Int
  bu : Int
  bl : Int
  ra : Int
abbrev Cf.v (c : Cf) : Value := .agg #[.int .i64 c.nd, .int .u64 c.qo, .int .u64 c.la, .int .u64 c.wd, .int .u64 c.lo, .int .i64 c.re, .int .i64 c.rm, .int .i64 c.by', .int .i64 c.w0, .int .i64 c.w1, .int .i64 c.w2, .int .i64 c.rn, .int .i64 c.rd, .int .i64 c.bu, .int .i64 c.bl, .int .i64 c.ra]
/-- what check says -/
def fck (c : Cf) (q st : Int) (xs : List Int) (cs : List Ct) (now un : Int) : Int :=
  if c.nd < 1 ∨ 16 < c.nd ∨ 1099511627776 < c.wd then 2
  else if chk q st xs ≠ 0 then chk q st xs
  else if (planChk cs).1 ≠ 0 then (planChk cs).1
  else if now < 0 ∨ 1099511627776 < now ∨ un < 0 ∨ 1099511627776 < un then 2
  else if un ≤ now then 19 else if 1000 < un - now then 4 else 0

/-- is a contact under way? -/
def on (c : Ct) (t : Int) : Prop := c.st ≤ t ∧ t < c.en
instance (c : Ct) (t : Int) : Decidable (on c t) := by unfold on; infer_instance
theorem active_any (c : Ct) (t : Int) (w : World) :
    Calls Try.prog 97 #[c.v, .int .i64 t] w fun e w' => e = .returned (.bool (decide (on c t))) ∧ Below w.heap.size w w' := by
  by_cases h1 : c.st ≤ t
  · have d1 : decide (c.st ≤ t) = true := yb h1
    by_cases h2 : t < c.en
    · have d2 : decide (t < c.en) = true := yb h2
      have HV : Hid (decide (on c t) = true) := yb ⟨h1, h2⟩
      rw [HV.out]
      clear h1 h2
      go_enter Try.func97, Try.ntmps97
      go_wp2_with fail
      go_ret
      exact ⟨rfl, (by repeat (first | assumption | exact Below.refl _ _ | apply Below.al | apply below_drewN | apply Below.drew | refine Below.next ?_ (by assumption)))⟩
    · have d2 : decide (t < c.en) = false := nb h2
      have HV : Hid (decide (on c t) = false) := nb (fun h => h2 h.2)
      rw [HV.out]
      clear h1 h2
      go_enter Try.func97, Try.ntmps97
      go_wp2_with fail
      go_ret
      exact ⟨rfl, (by repeat (first | assumption | exact Below.refl _ _ | apply Below.al | apply below_drewN | apply Below.drew | refine Below.next ?_ (by assumption)))⟩
  · have d1 : decide (c.st ≤ t) = false := nb h1
    have HV : Hid (decide (on c t) = false) := nb (fun h => h1 h.1)
    rw [HV.out]
    clear h1
    go_enter Try.func97, Try.ntmps97
    go_wp2_with fail
    go_ret
    exact ⟨rfl, (by repeat (first | assumption | exact Below.refl _ _ | apply Below.al | apply below_drewN | apply Below.drew | refine Below.next ?_ (by assumption)))⟩
set_option maxHeartbeats 2000000 in
theorem fcheck_any (c : Cf) (q st : Int) (rs : Value) (xs : List Int) (cs : List Ct) (v : Value) (now un : Int) (i : Inp q st xs) (hwf : ∀ c, c ∈ cs → Wf c) (hno : Ib now) (hun : Ib un) (er : Int) (he : fck c q st xs cs now un = er) (w : World) (h : RdI .u64 w rs xs) (hp : RdC w v cs) :
    Calls Try.prog 74 #[c.v, Sv q st rs, v, .int .i64 now, .int .i64 un] w fun e w' => e = .returned (.int .i64 er) ∧ Below w.heap.size w w' := by
  have HR := Lib.hid h
  have HP := Lib.hid hp
  have HWF := Lib.hid hwf
  clear h hp hwf
  unfold fck at he
  by_cases h1 : c.nd < 1
  · have d1 : decide (c.nd < 1) = true := yb h1
    obtain rfl : er = 2 := by rw [← he, if_pos (.inl h1)]
    clear he h1
    go_enter Try.func74, Try.ntmps74
    go_wp2_with fail
    go_ret
    exact ⟨rfl, (by repeat (first | assumption | exact Below.refl _ _ | apply Below.al | apply below_drewN | apply Below.drew | refine Below.next ?_ (by assumption)))⟩
  have d1 : decide (c.nd < 1) = false := nb h1
  by_cases h2 : 16 < c.nd
  · have d2 : decide (16 < c.nd) = true := yb h2
    obtain rfl : er = 2 := by rw [← he, if_pos (.inr (.inl h2))]
    clear he h1 h2
    go_enter Try.func74, Try.ntmps74
    go_wp2_with fail
    go_ret
    exact ⟨rfl, (by repeat (first | assumption | exact Below.refl _ _ | apply Below.al | apply below_drewN | apply Below.drew | refine Below.next ?_ (by assumption)))⟩
  have d2 : decide (16 < c.nd) = false := nb h2
  by_cases h3 : 1099511627776 < c.wd
  · have d3 : decide (1099511627776 < c.wd) = true := yb h3
    obtain rfl : er = 2 := by rw [← he, if_pos (.inr (.inr h3))]
    clear he h1 h2 h3
    go_enter Try.func74, Try.ntmps74
    go_wp2_with fail
    go_ret
    exact ⟨rfl, (by repeat (first | assumption | exact Below.refl _ _ | apply Below.al | apply below_drewN | apply Below.drew | refine Below.next ?_ (by assumption)))⟩
  have d3 : decide (1099511627776 < c.wd) = false := nb h3
  rw [if_neg (by omega)] at he
  clear h1 h2 h3
  obtain ⟨e1, HE1⟩ : ∃ x, Hid (chk q st xs = x) := ⟨_, rfl⟩
  rw [HE1.out] at he
  obtain ⟨e2, ix, hpk⟩ : ∃ e2 ix, planChk cs = (e2, ix) := ⟨_, _, rfl⟩
  rw [hpk] at he
  have HPK := Lib.hid hpk
  clear hpk
  dsimp only at he
  by_cases h4 : e1 = 0
  · subst h4
    rw [if_neg (by simp)] at he
    by_cases h5 : e2 = 0
    · subst h5
      rw [if_neg (by simp)] at he
      have HE := Lib.hid he
      clear he
      go_enter Try.func74, Try.ntmps74
      go_wp2_with fail
      refine (space_any q st rs xs i 0 HE1.out _ (HR.out.keep (by repeat (first | assumption | exact Below.refl _ _ | apply Below.al | apply below_drewN | apply Below.drew | refine Below.next ?_ (by assumption))))).mono ?_
      rintro e w1 ⟨rfl, hb⟩
      have hB : Below w.heap.size w w1 := (by repeat (first | assumption | exact Below.refl _ _ | apply Below.al | apply below_drewN | apply Below.drew | refine Below.next ?_ (by assumption)))
      clear hb
      go_wp2_with fail
      refine (pchk_aux cs _ HWF.out 0 ix HPK.out _ (HP.out.keep hB)).mono ?_
      rintro e w2 ⟨rfl, hb⟩
      have hB := Below.next hB hb
      clear hb
      have HE := HE.out
      by_cases t1 : now < 0
      · have g1 : decide (now < 0) = true := yb t1
        obtain rfl : er = 2 := by rw [← HE, if_pos (.inl t1)]
        clear HE t1
        go_wp2_with fail
        go_ret
        exact ⟨rfl, hB⟩
      have g1 : decide (now < 0) = false := nb t1
      by_cases t2 : 1099511627776 < now
      · have g2 : decide (1099511627776 < now) = true := yb t2
        obtain rfl : er = 2 := by rw [← HE, if_pos (.inr (.inl t2))]
        clear HE t1 t2
        go_wp2_with fail
        go_ret
        exact ⟨rfl, hB⟩
      have g2 : decide (1099511627776 < now) = false := nb t2
      by_cases t3 : un < 0
      · have g3 : decide (un < 0) = true := yb t3
        obtain rfl : er = 2 := by rw [← HE, if_pos (.inr (.inr (.inl t3)))]
        clear HE t1 t2 t3
        go_wp2_with fail
        go_ret
        exact ⟨rfl, hB⟩
      have g3 : decide (un < 0) = false := nb t3
      by_cases t4 : 1099511627776 < un
      · have g4 : decide (1099511627776 < un) = true := yb t4
        obtain rfl : er = 2 := by rw [← HE, if_pos (.inr (.inr (.inr t4)))]
        clear HE t1 t2 t3 t4
        go_wp2_with fail
        go_ret
        exact ⟨rfl, hB⟩
      have g4 : decide (1099511627776 < un) = false := nb t4
      rw [if_neg (by omega)] at HE
      by_cases t5 : un ≤ now
      · have g5 : decide (un ≤ now) = true := yb t5
        obtain rfl : er = 19 := by rw [← HE, if_pos t5]
        clear HE t1 t2 t3 t4 t5
        go_wp2_with fail
        go_ret
        exact ⟨rfl, hB⟩
      have g5 : decide (un ≤ now) = false := nb t5
      rw [if_neg t5] at HE
      have hws : IntKind.i64.wrap (un - now) = un - now := IntWalk.i64_in _ (by omega)
      by_cases t6 : 1000 < un - now
      · have g6 : decide (1000 < un - now) = true := yb t6
        obtain rfl : er = 4 := by rw [← HE, if_pos t6]
        clear HE t1 t2 t3 t4 t5 t6
        go_wp2_with fail
        go_ret
        exact ⟨rfl, hB⟩
      · have g6 : decide (1000 < un - now) = false := nb t6
        obtain rfl : er = 0 := by rw [← HE, if_neg t6]
        clear HE t1 t2 t3 t4 t5 t6
        go_wp2_with fail
        go_ret
        exact ⟨rfl, hB⟩
    · rw [if_pos h5] at he
      subst he
      have d5 : (e2 != 0) = true := by simpa using h5
      clear h5
      go_enter Try.func74, Try.ntmps74
      go_wp2_with fail
      refine (space_any q st rs xs i 0 HE1.out _ (HR.out.keep (by repeat (first | assumption | exact Below.refl _ _ | apply Below.al | apply below_drewN | apply Below.drew | refine Below.next ?_ (by assumption))))).mono ?_
      rintro e w1 ⟨rfl, hb⟩
      have hB : Below w.heap.size w w1 := (by repeat (first | assumption | exact Below.refl _ _ | apply Below.al | apply below_drewN | apply Below.drew | refine Below.next ?_ (by assumption)))
      clear hb
      go_wp2_with fail
      refine (pchk_aux cs _ HWF.out e2 ix HPK.out _ (HP.out.keep hB)).mono ?_
      rintro e w2 ⟨rfl, hb⟩
      have hB := Below.next hB hb
      clear hb
      go_wp2_with fail
      go_ret
      exact ⟨rfl, hB⟩
  · rw [if_pos h4] at he
    subst he
    have d4 : (e1 != 0) = true := by simpa using h4
    clear h4
    go_enter Try.func74, Try.ntmps74
    go_wp2_with fail
    refine (space_any q st rs xs i e1 HE1.out _ (HR.out.keep (by repeat (first | assumption | exact Below.refl _ _ | apply Below.al | apply below_drewN | apply Below.drew | refine Below.next ?_ (by assumption))))).mono ?_
    rintro e w1 ⟨rfl, hb⟩
    have hB : Below w.heap.size w w1 := (by repeat (first | assumption | exact Below.refl _ _ | apply Below.al | apply below_drewN | apply Below.drew | refine Below.next ?_ (by assumption)))
    clear hb
    go_wp2_with fail
    go_ret
    exact ⟨rfl, hB⟩
set_option maxHeartbeats 2000000 in
theorem rasks_any (c : Cf) (q st : Int) (rs : Value) (xs : List Int) (cs : List Ct) (v : Value) (now un : Int) (i : Inp q st xs) (hno : Ib now) (hun : Ib un) (er : Int) (he : fck c q st xs cs now un = er) (w : World) (h : RdI .u64 w rs xs) (hp : RdC w v cs) :
    Calls Try.prog 76 #[c.v, Sv q st rs, v, .int .i64 now, .int .i64 un] w fun e w' => e = .returned (.int .i64 er) ∧ Below w.heap.size w w' := by
  have HR := Lib.hid h
  have HP := Lib.hid hp
  clear h hp
  unfold fck at he
  by_cases h1 : c.nd < 1
  · have d1 : decide (c.nd < 1) = true := yb h1
    obtain rfl : er = 2 := by rw [← he, if_pos (.inl h1)]
    clear he h1
    go_enter Try.func76, Try.ntmps76
    go_wp2_with fail
    go_ret
    exact ⟨rfl, (by repeat (first | assumption | exact Below.refl _ _ | apply Below.al | apply below_drewN | apply Below.drew | refine Below.next ?_ (by assumption)))⟩
  have d1 : decide (c.nd < 1) = false := nb h1
  by_cases h2 : 16 < c.nd
  · have d2 : decide (16 < c.nd) = true := yb h2
    obtain rfl : er = 2 := by rw [← he, if_pos (.inr (.inl h2))]
    clear he h1 h2
    go_enter Try.func76, Try.ntmps76
    go_wp2_with fail
    go_ret
    exact ⟨rfl, (by repeat (first | assumption | exact Below.refl _ _ | apply Below.al | apply below_drewN | apply Below.drew | refine Below.next ?_ (by assumption)))⟩
  have d2 : decide (16 < c.nd) = false := nb h2
  by_cases h3 : 1099511627776 < c.wd
  · have d3 : decide (1099511627776 < c.wd) = true := yb h3
    obtain rfl : er = 2 := by rw [← he, if_pos (.inr (.inr h3))]
    clear he h1 h2 h3
    go_enter Try.func76, Try.ntmps76
    go_wp2_with fail
    go_ret
    exact ⟨rfl, (by repeat (first | assumption | exact Below.refl _ _ | apply Below.al | apply below_drewN | apply Below.drew | refine Below.next ?_ (by assumption)))⟩
  have d3 : decide (1099511627776 < c.wd) = false := nb h3
  rw [if_neg (by omega)] at he
  clear h1 h2 h3
  obtain ⟨e1, HE1⟩ : ∃ x, Hid (chk q st xs = x) := ⟨_, rfl⟩
  rw [HE1.out] at he
  obtain ⟨e2, ix, hpk⟩ : ∃ e2 ix, planChk cs = (e2, ix) := ⟨_, _, rfl⟩
  rw [hpk] at he
  have HPK := Lib.hid hpk
  clear hpk
  dsimp only at he
  by_cases h4 : e1 = 0
  · subst h4
    rw [if_neg (by simp)] at he
    by_cases h5 : e2 = 0
    · subst h5
      rw [if_neg (by simp)] at he
      have HE := Lib.hid he
      clear he
      go_enter Try.func76, Try.ntmps76
      go_wp2_with fail
      refine (rcheck_aux q st rs xs i 0 HE1.out _ (HR.out.keep (by repeat (first | assumption | exact Below.refl _ _ | apply Below.al | apply below_drewN | apply Below.drew | refine Below.next ?_ (by assumption))))).mono ?_
      rintro e w1 ⟨rfl, hb⟩
      have hB : Below w.heap.size w w1 := (by repeat (first | assumption | exact Below.refl _ _ | apply Below.al | apply below_drewN | apply Below.drew | refine Below.next ?_ (by assumption)))
      clear hb
      go_wp2_with fail
      refine (rpchk_aux cs _ 0 ix HPK.out _ (HP.out.keep hB)).mono ?_
      rintro e w2 ⟨rfl, hb⟩
      have hB := Below.next hB hb
      clear hb
      have HE := HE.out
      by_cases t1 : now < 0
      · have g1 : decide (now < 0) = true := yb t1
        obtain rfl : er = 2 := by rw [← HE, if_pos (.inl t1)]
        clear HE t1
        go_wp2_with fail
        go_ret
        exact ⟨rfl, hB⟩
      have g1 : decide (now < 0) = false := nb t1
      by_cases t2 : 1099511627776 < now
      · have g2 : decide (1099511627776 < now) = true := yb t2
        obtain rfl : er = 2 := by rw [← HE, if_pos (.inr (.inl t2))]
        clear HE t1 t2
        go_wp2_with fail
        go_ret
        exact ⟨rfl, hB⟩
      have g2 : decide (1099511627776 < now) = false := nb t2
      by_cases t3 : un < 0
      · have g3 : decide (un < 0) = true := yb t3
        obtain rfl : er = 2 := by rw [← HE, if_pos (.inr (.inr (.inl t3)))]
        clear HE t1 t2 t3
        go_wp2_with fail
        go_ret
        exact ⟨rfl, hB⟩
      have g3 : decide (un < 0) = false := nb t3
      by_cases t4 : 1099511627776 < un
      · have g4 : decide (1099511627776 < un) = true := yb t4
        obtain rfl : er = 2 := by rw [← HE, if_pos (.inr (.inr (.inr t4)))]
        clear HE t1 t2 t3 t4
        go_wp2_with fail
        go_ret
        exact ⟨rfl, hB⟩
      have g4 : decide (1099511627776 < un) = false := nb t4
      rw [if_neg (by omega)] at HE
      by_cases t5 : un ≤ now
      · have g5 : decide (un ≤ now) = true := yb t5
        obtain rfl : er = 19 := by rw [← HE, if_pos t5]
        clear HE t1 t2 t3 t4 t5
        go_wp2_with fail
        go_ret
        exact ⟨rfl, hB⟩
      have g5 : decide (un ≤ now) = false := nb t5
      rw [if_neg t5] at HE
      have hws : IntKind.i64.wrap (un - now) = un - now := IntWalk.i64_in _ (by omega)
      by_cases t6 : 1000 < un - now
      · have g6 : decide (1000 < un - now) = true := yb t6
        obtain rfl : er = 4 := by rw [← HE, if_pos t6]
        clear HE t1 t2 t3 t4 t5 t6
        go_wp2_with fail
        go_ret
        exact ⟨rfl, hB⟩
      · have g6 : decide (1000 < un - now) = false := nb t6
        obtain rfl : er = 0 := by rw [← HE, if_neg t6]
        clear HE t1 t2 t3 t4 t5 t6
        go_wp2_with fail
        go_ret
        exact ⟨rfl, hB⟩
    · rw [if_pos h5] at he
      subst he
      have d5 : (e2 != 0) = true := by simpa using h5
      clear h5
      go_enter Try.func76, Try.ntmps76
      go_wp2_with fail
      refine (rcheck_aux q st rs xs i 0 HE1.out _ (HR.out.keep (by repeat (first | assumption | exact Below.refl _ _ | apply Below.al | apply below_drewN | apply Below.drew | refine Below.next ?_ (by assumption))))).mono ?_
      rintro e w1 ⟨rfl, hb⟩
      have hB : Below w.heap.size w w1 := (by repeat (first | assumption | exact Below.refl _ _ | apply Below.al | apply below_drewN | apply Below.drew | refine Below.next ?_ (by assumption)))
      clear hb
      go_wp2_with fail
      refine (rpchk_aux cs _ e2 ix HPK.out _ (HP.out.keep hB)).mono ?_
      rintro e w2 ⟨rfl, hb⟩
      have hB := Below.next hB hb
      clear hb
      go_wp2_with fail
      go_ret
      exact ⟨rfl, hB⟩
  · rw [if_pos h4] at he
    subst he
    have d4 : (e1 != 0) = true := by simpa using h4
    have d4' : (e1 == 0) = false := by simpa using h4
    clear h4
    go_enter Try.func76, Try.ntmps76
    go_wp2_with fail
    refine (rcheck_aux q st rs xs i e1 HE1.out _ (HR.out.keep (by repeat (first | assumption | exact Below.refl _ _ | apply Below.al | apply below_drewN | apply Below.drew | refine Below.next ?_ (by assumption))))).mono ?_
    rintro e w1 ⟨rfl, hb⟩
    have hB : Below w.heap.size w w1 := (by repeat (first | assumption | exact Below.refl _ _ | apply Below.al | apply below_drewN | apply Below.drew | refine Below.next ?_ (by assumption)))
    clear hb
    go_wp2_with fail
    go_ret
    exact ⟨rfl, hB⟩

end Go.Proofs.Ytnbjdgjopdeolaa
