
/- Space: at, take, and the five steps of the program. -/
import Derived.Test.YtcbolpjacoiclaaC
namespace Go.Proofs.Ytcbolpjacoiclaa
open Go.RowKit

/-- at: the account and the number for a node -/
def AtOk (w : World) (q st : Int) (rs : Value) (xs : List Int) (k : Nat) (e : Ending) (w' : World) : Prop :=
  ∃ p, e = .returned (.tuple #[.pointer (some ⟨p, 0, none⟩), .pointer (some ⟨p, 3 + k, none⟩), .int .i64 0]) ∧ w.heap.size ≤ p ∧ Acc w' p q st rs xs ∧ Below w.heap.size w w'

theorem at_no (q st : Int) (rs : Value) (xs : List Int) (i : Inp q st xs) (er : Int) (he : chk q st xs = er) (hne : er ≠ 0) (node : Int) (w : World) (h : RdI .u64 w rs xs) :
    Calls Try.prog 44 #[Sv q st rs, .int .i64 node] w fun e w' => e = .returned (.tuple #[.pointer none, .pointer none, .int .i64 er]) ∧ Below w.heap.size w w' := by
  have HE := Lib.hid he; have HR := Lib.hid h
  clear he h
  have hne2 : (er == 0) = false := by simpa using hne
  have hne3 : (er != 0) = true := by simpa using hne
  go_enter Try.func44, Try.ntmps44
  go_wp2_with (go_at_call 35; refine (of_no q st rs xs i er HE.out hne _ (HR.out.keep (by repeat (first | assumption | exact Below.refl _ _ | apply Below.al | apply below_drewN | apply Below.drew | refine Below.next ?_ (by assumption) | refine Below.st ?_ (by first | exact Nat.le_refl _ | (simp; done) | (simp; omega)) _)))).mono ?_; rintro e w1 ⟨rfl, hb⟩)
  go_ret3
  exact ⟨rfl, (by repeat (first | assumption | exact Below.refl _ _ | apply Below.al | apply below_drewN | apply Below.drew | refine Below.next ?_ (by assumption) | refine Below.st ?_ (by first | exact Nat.le_refl _ | (simp; done) | (simp; omega)) _))⟩

theorem at_node (q st : Int) (rs : Value) (xs : List Int) (g : Good q st xs) (node : Int) (hk : node < 1 ∨ 16 < node) (w : World) (h : RdI .u64 w rs xs) :
    Calls Try.prog 44 #[Sv q st rs, .int .i64 node] w fun e w' => e = .returned (.tuple #[.pointer none, .pointer none, .int .i64 2]) ∧ Below w.heap.size w w' := by
  have HR := Lib.hid h
  have HG := Lib.hid g
  clear h g
  by_cases h1 : node < 1
  · have d1 := yb h1
    clear hk
    go_enter Try.func44, Try.ntmps44
    go_wp2_with (go_at_call 35; refine (of_yes q st rs xs HG.out _ (HR.out.keep (by repeat (first | assumption | exact Below.refl _ _ | apply Below.al | apply below_drewN | apply Below.drew | refine Below.next ?_ (by assumption) | refine Below.st ?_ (by first | exact Nat.le_refl _ | (simp; done) | (simp; omega)) _)))).mono ?_; rintro e w1 ⟨p, rfl, hp, hA, hb⟩; have HA := Lib.hid hA; clear hA)
    go_ret3
    exact ⟨rfl, (by repeat (first | assumption | exact Below.refl _ _ | apply Below.al | apply below_drewN | apply Below.drew | refine Below.next ?_ (by assumption) | refine Below.st ?_ (by first | exact Nat.le_refl _ | (simp; done) | (simp; omega)) _))⟩
  · have d1 := nb h1
    have d2 : decide (16 < node) = true := yb (by omega)
    clear hk
    go_enter Try.func44, Try.ntmps44
    go_wp2_with (go_at_call 35; refine (of_yes q st rs xs HG.out _ (HR.out.keep (by repeat (first | assumption | exact Below.refl _ _ | apply Below.al | apply below_drewN | apply Below.drew | refine Below.next ?_ (by assumption) | refine Below.st ?_ (by first | exact Nat.le_refl _ | (simp; done) | (simp; omega)) _)))).mono ?_; rintro e w1 ⟨p, rfl, hp, hA, hb⟩; have HA := Lib.hid hA; clear hA)
    go_ret3
    exact ⟨rfl, (by repeat (first | assumption | exact Below.refl _ _ | apply Below.al | apply below_drewN | apply Below.drew | refine Below.next ?_ (by assumption) | refine Below.st ?_ (by first | exact Nat.le_refl _ | (simp; done) | (simp; omega)) _))⟩

theorem at_yes (q st : Int) (rs : Value) (xs : List Int) (g : Good q st xs) (k : Nat) (hk : k < 16) (w : World) (h : RdI .u64 w rs xs) :
    Calls Try.prog 44 #[Sv q st rs, .int .i64 ((k : Int) + 1)] w (AtOk w q st rs xs k) := by
  have HR := Lib.hid h
  have HG := Lib.hid g
  clear h g
  have d1 : decide ((k : Int) + 1 < 1) = false := nb (by omega)
  have d2 : decide (16 < (k : Int) + 1) = false := nb (by omega)
  have d3 : (0 : Int) ≤ (k : Int) := by omega
  have d4 : (k : Int) < 16 := by omega
  go_enter Try.func44, Try.ntmps44
  go_wp2_with (go_at_call 35; refine (of_yes q st rs xs HG.out _ (HR.out.keep (by repeat (first | assumption | exact Below.refl _ _ | apply Below.al | apply below_drewN | apply Below.drew | refine Below.next ?_ (by assumption) | refine Below.st ?_ (by first | exact Nat.le_refl _ | (simp; done) | (simp; omega)) _)))).mono ?_; rintro e w1 ⟨p, rfl, hp, hA, hb⟩; have HA := Lib.hid hA; clear hA)
  go_quiet (fail)
  go_wp2
  go_ret3
  exact ⟨p, rfl, by simp at hp; omega, HA.out, (by repeat (first | assumption | exact Below.refl _ _ | apply Below.al | apply below_drewN | apply Below.drew | refine Below.next ?_ (by assumption) | refine Below.st ?_ (by first | exact Nat.le_refl _ | (simp; done) | (simp; omega)) _))⟩

theorem sv_nil (w W' : World) (er : Int) (hb : Below w.heap.size w W') : SpRes w 0 0 [] er (.returned (.tuple #[Sv 0 0 (.slice none 0 0), .int .i64 er])) W' :=
  ⟨_, rfl, RdI.nil _ _, Fresh.nil _ _ _, hb⟩

theorem get_le_sum {xs : List Int} (h : Nn xs) (k : Nat) (hk : k < xs.length) : xs.getD k 0 ≤ xs.sum := by
  have h1 := sum_take_le h (k + 1)
  rw [sum_take_succ xs k hk] at h1
  have := sum_nn (h.take k)
  omega

inductive Rs (q st : Int) (xs : List Int) (node n : Int) : Int → Int → List Int → Int → Prop
  | bad (er : Int) (h : chk q st xs = er) (hne : er ≠ 0) : Rs q st xs node n 0 0 [] er
  | node (h : chk q st xs = 0) (hn : node < 1 ∨ 16 < node) : Rs q st xs node n 0 0 [] 2
  | full (h : chk q st xs = 0) (k : Nat) (hk : k < 16) (he : node = (k : Int) + 1) (hf : q - st - xs.sum < n) : Rs q st xs node n 0 0 [] 5
  | fine (h : chk q st xs = 0) (k : Nat) (hk : k < 16) (he : node = (k : Int) + 1) (hf : n ≤ q - st - xs.sum) : Rs q st xs node n q st (xs.set k (xs.getD k 0 + n)) 0

theorem reserve_bad (q st : Int) (rs : Value) (xs : List Int) (i : Inp q st xs) (er : Int) (he : chk q st xs = er) (hne : er ≠ 0) (node n : Int) (w : World) (h : RdI .u64 w rs xs) :
    Calls Try.prog 26 #[Sv q st rs, .int .i64 node, .int .u64 n] w (SpRes w 0 0 [] er) := by
  have HE := Lib.hid he; have HR := Lib.hid h
  clear he h
  have hne2 : (er == 0) = false := by simpa using hne
  have hne3 : (er != 0) = true := by simpa using hne
  go_enter Try.func26, Try.ntmps26
  go_wp2_with (go_at_call 44; refine (at_no q st rs xs i er HE.out hne node _ (HR.out.keep (by repeat (first | assumption | exact Below.refl _ _ | apply Below.al | apply below_drewN | apply Below.drew | refine Below.next ?_ (by assumption) | refine Below.st ?_ (by first | exact Nat.le_refl _ | (simp; done) | (simp; omega)) _)))).mono ?_; rintro e w1 ⟨rfl, hb⟩; have hC : RC w1 (w.heap.size + 1) := RC.keep hb (by simp [RC, go_sem]))
  refine bodyPost_ret (v := .tuple #[Sv 0 0 (.slice none 0 0), .int .i64 er]) ?_ rfl (sv_nil _ _ _ (by repeat (first | assumption | exact Below.refl _ _ | apply Below.al | apply below_drewN | apply Below.drew | refine Below.next ?_ (by assumption) | refine Below.st ?_ (by first | exact Nat.le_refl _ | (simp; done) | (simp; omega)) _)))
  simp [results, Try.results26, Try.results27, Try.results28, Try.results29, Try.results30, go_sem, hC]

theorem reserve_node (q st : Int) (rs : Value) (xs : List Int) (g : Good q st xs) (node n : Int) (hk : node < 1 ∨ 16 < node) (w : World) (h : RdI .u64 w rs xs) :
    Calls Try.prog 26 #[Sv q st rs, .int .i64 node, .int .u64 n] w (SpRes w 0 0 [] 2) := by
  have HR := Lib.hid h
  have HK := Lib.hid hk
  clear h hk
  go_enter Try.func26, Try.ntmps26
  go_wp2_with (go_at_call 44; refine (at_node q st rs xs g node HK.out _ (HR.out.keep (by repeat (first | assumption | exact Below.refl _ _ | apply Below.al | apply below_drewN | apply Below.drew | refine Below.next ?_ (by assumption) | refine Below.st ?_ (by first | exact Nat.le_refl _ | (simp; done) | (simp; omega)) _)))).mono ?_; rintro e w1 ⟨rfl, hb⟩; have hC : RC w1 (w.heap.size + 1) := RC.keep hb (by simp [RC, go_sem]))
  refine bodyPost_ret (v := .tuple #[Sv 0 0 (.slice none 0 0), .int .i64 2]) ?_ rfl (sv_nil _ _ _ (by repeat (first | assumption | exact Below.refl _ _ | apply Below.al | apply below_drewN | apply Below.drew | refine Below.next ?_ (by assumption) | refine Below.st ?_ (by first | exact Nat.le_refl _ | (simp; done) | (simp; omega)) _)))
  simp [results, Try.results26, Try.results27, Try.results28, Try.results29, Try.results30, go_sem, hC]


set_option maxHeartbeats 400000 in
theorem reserve_full (q st : Int) (rs : Value) (xs : List Int) (g : Good q st xs) (k : Nat) (hk : k < 16) (n : Int) (hf : q - st - xs.sum < n) (w : World) (h : RdI .u64 w rs xs) :
    Calls Try.prog 26 #[Sv q st rs, .int .i64 ((k : Int) + 1), .int .u64 n] w (SpRes w 0 0 [] 5) := by
  have HR := Lib.hid h
  have HG := Lib.hid g
  have hd : decide (q - st - xs.sum < n) = true := yb hf
  clear h g
  go_enter Try.func26, Try.ntmps26
  go_wp2_with (first
    | (go_at_call 44; refine (at_yes q st rs xs HG.out k hk _ (HR.out.keep (by repeat (first | assumption | exact Below.refl _ _ | apply Below.al | apply below_drewN | apply Below.drew | refine Below.next ?_ (by assumption) | refine Below.st ?_ (by first | exact Nat.le_refl _ | (simp; done) | (simp; omega)) _)))).mono ?_; rintro e w1 ⟨p, rfl, hp, hA, hb⟩; have hC : RC w1 (w.heap.size + 1) := RC.keep hb (by simp [RC, go_sem]); have hs1 : w.heap.size + 1 < w1.heap.size := cell_lt hC.1; have HA := Lib.hid hA; clear hA; simp at hp)
    | (go_at_call 36; refine (free_any p q st rs xs HG.out _ HA.out).mono ?_; rintro e w2 ⟨rfl, hb⟩; have hC := RC.keep hb hC; have hs2 : w.heap.size + 1 < w2.heap.size := cell_lt hC.1; have HA := Lib.hid (HA.out.keep hb))
    | fail)
  refine bodyPost_ret (v := .tuple #[Sv 0 0 (.slice none 0 0), .int .i64 5]) ?_ rfl (sv_nil _ _ _ (by repeat (first | assumption | exact Below.refl _ _ | apply Below.al | apply below_drewN | apply Below.drew | refine Below.next ?_ (by assumption) | refine Below.st ?_ (by first | exact Nat.le_refl _ | (simp; done) | (simp; omega)) _)))
  simp [results, Try.results26, Try.results27, Try.results28, Try.results29, Try.results30, go_sem, hC]

set_option maxHeartbeats 400000 in
theorem reserve_fine (q st : Int) (rs : Value) (xs : List Int) (g : Good q st xs) (k : Nat) (hk : k < 16) (n : Int) (hn0 : 0 ≤ n) (hf : n ≤ q - st - xs.sum) (w : World) (h : RdI .u64 w rs xs) :
    Calls Try.prog 26 #[Sv q st rs, .int .i64 ((k : Int) + 1), .int .u64 n] w (SpRes w q st (xs.set k (xs.getD k 0 + n)) 0) := by
  obtain ⟨x, HX⟩ : ∃ x, Hid (xs.getD k 0 = x) := ⟨_, rfl⟩
  have hx := g.gxs.get k (by rw [g.gn]; exact hk)
  have hxs : xs.getD k 0 ≤ xs.sum := get_le_sum g.gxs k (by rw [g.gn]; exact hk)
  rw [HX.out] at hx hxs ⊢
  have HL := Lib.hid g.gn
  have b0 := g.sum; have b1 := g.gle; have b2 := g.gq; have b3 := g.gst
  have HR := Lib.hid h
  have HG := Lib.hid g
  have hd : decide (q - st - xs.sum < n) = false := nb (by omega)
  clear h g
  go_enter Try.func26, Try.ntmps26
  go_wp2_with (first
    | (go_at_call 44; refine (at_yes q st rs xs HG.out k hk _ (HR.out.keep (by repeat (first | assumption | exact Below.refl _ _ | apply Below.al | apply below_drewN | apply Below.drew | refine Below.next ?_ (by assumption) | refine Below.st ?_ (by first | exact Nat.le_refl _ | (simp; done) | (simp; omega)) _)))).mono ?_; rintro e w1 ⟨p, rfl, hp, hA, hb⟩; have hC : RC w1 (w.heap.size + 1) := RC.keep hb (by simp [RC, go_sem]); have hs1 : w.heap.size + 1 < w1.heap.size := cell_lt hC.1; have HA := Lib.hid hA; clear hA; simp at hp)
    | ((go_at_call 36; refine (free_any p q st rs xs HG.out _ HA.out).mono ?_; rintro e w2 ⟨rfl, hb⟩; have hC := RC.keep hb hC; have hs2 : w.heap.size + 1 < w2.heap.size := cell_lt hC.1; have HA := Lib.hid (HA.out.keep hb)); have hc := HA.out.ci k hk; rw [HX.out] at hc; have hz := HA.out.fz (3 + k))
    | (go_at_call 33; refine (space_any p q st rs (xs.set k (x + n)) _ (HA.out.set k hk (x + n))).mono ?_; rintro e w4 ⟨v, rfl, hrd, hF, hb⟩; have hC := RC.keep hb (RC.set _ (by simp; omega) hC); obtain ⟨a, c, hv⟩ := hrd.form; rw [List.length_set, HL.out] at hv; subst hv)
    | fail)
  refine bodyPost_ret (v := .tuple #[Sv q st (.slice a 16 c), .int .i64 0]) ?_ rfl ?_
  · simp [results, Try.results26, go_sem, hC]
  · refine ⟨_, rfl, RdI.set _ (RdI.set _ (RdI.set _ hrd hF ?_) hF ?_) hF ?_, hF.mono ?_, (by repeat (first | assumption | exact Below.refl _ _ | apply Below.al | apply below_drewN | apply Below.drew | refine Below.next ?_ (by assumption) | refine Below.st ?_ (by first | exact Nat.le_refl _ | (simp; done) | (simp; omega)) _))⟩
    all_goals (first | omega | (simp; omega))


/-! take -/
theorem take_bad (q st : Int) (rs : Value) (xs : List Int) (i : Inp q st xs) (er : Int) (he : chk q st xs = er) (hne : er ≠ 0) (node n : Int) (w : World) (h : RdI .u64 w rs xs) :
    Calls Try.prog 45 #[Sv q st rs, .int .i64 node, .int .u64 n] w fun e w' => e = .returned (.tuple #[.pointer none, .int .i64 er]) ∧ Below w.heap.size w w' := by
  have HE := Lib.hid he; have HR := Lib.hid h
  clear he h
  have hne2 : (er == 0) = false := by simpa using hne
  go_enter Try.func45, Try.ntmps45
  go_wp2_with (go_at_call 44; refine (at_no q st rs xs i er HE.out hne node _ (HR.out.keep (by repeat (first | assumption | exact Below.refl _ _ | apply Below.al | apply below_drewN | apply Below.drew | refine Below.next ?_ (by assumption) | refine Below.st ?_ (by first | exact Nat.le_refl _ | (simp; done) | (simp; omega)) _)))).mono ?_; rintro e w1 ⟨rfl, hb⟩)
  go_ret2
  exact ⟨rfl, (by repeat (first | assumption | exact Below.refl _ _ | apply Below.al | apply below_drewN | apply Below.drew | refine Below.next ?_ (by assumption) | refine Below.st ?_ (by first | exact Nat.le_refl _ | (simp; done) | (simp; omega)) _))⟩

theorem take_node (q st : Int) (rs : Value) (xs : List Int) (g : Good q st xs) (node n : Int) (hk : node < 1 ∨ 16 < node) (w : World) (h : RdI .u64 w rs xs) :
    Calls Try.prog 45 #[Sv q st rs, .int .i64 node, .int .u64 n] w fun e w' => e = .returned (.tuple #[.pointer none, .int .i64 2]) ∧ Below w.heap.size w w' := by
  have HR := Lib.hid h
  have HK := Lib.hid hk
  clear h hk
  go_enter Try.func45, Try.ntmps45
  go_wp2_with (go_at_call 44; refine (at_node q st rs xs g node HK.out _ (HR.out.keep (by repeat (first | assumption | exact Below.refl _ _ | apply Below.al | apply below_drewN | apply Below.drew | refine Below.next ?_ (by assumption) | refine Below.st ?_ (by first | exact Nat.le_refl _ | (simp; done) | (simp; omega)) _)))).mono ?_; rintro e w1 ⟨rfl, hb⟩)
  go_ret2
  exact ⟨rfl, (by repeat (first | assumption | exact Below.refl _ _ | apply Below.al | apply below_drewN | apply Below.drew | refine Below.next ?_ (by assumption) | refine Below.st ?_ (by first | exact Nat.le_refl _ | (simp; done) | (simp; omega)) _))⟩

def TakeOk (w : World) (q st : Int) (rs : Value) (xs : List Int) (er : Int) (e : Ending) (w' : World) : Prop :=
  ∃ p, e = .returned (.tuple #[.pointer (some ⟨p, 0, none⟩), .int .i64 er]) ∧ w.heap.size ≤ p ∧ Acc w' p q st rs xs ∧ Below w.heap.size w w'

theorem take_credit (q st : Int) (rs : Value) (xs : List Int) (g : Good q st xs) (k : Nat) (hk : k < 16) (n : Int) (hf : xs.getD k 0 < n) (w : World) (h : RdI .u64 w rs xs) :
    Calls Try.prog 45 #[Sv q st rs, .int .i64 ((k : Int) + 1), .int .u64 n] w (TakeOk w q st rs xs 14) := by
  obtain ⟨x, HX⟩ : ∃ x, Hid (xs.getD k 0 = x) := ⟨_, rfl⟩
  rw [HX.out] at hf
  have hd : decide (x < n) = true := yb hf
  have HR := Lib.hid h
  have HG := Lib.hid g
  clear h g
  go_enter Try.func45, Try.ntmps45
  go_wp2_with (first
    | (go_at_call 44; refine (at_yes q st rs xs HG.out k hk _ (HR.out.keep (by repeat (first | assumption | exact Below.refl _ _ | apply Below.al | apply below_drewN | apply Below.drew | refine Below.next ?_ (by assumption) | refine Below.st ?_ (by first | exact Nat.le_refl _ | (simp; done) | (simp; omega)) _)))).mono ?_; rintro e w1 ⟨p, rfl, hp, hA, hb⟩; have HA := Lib.hid hA; clear hA; simp at hp; have hc := HA.out.ci k hk; rw [HX.out] at hc; have hz := HA.out.fz (3 + k))
    | fail)
  go_ret2
  exact ⟨p, rfl, by omega, HA.out, (by repeat (first | assumption | exact Below.refl _ _ | apply Below.al | apply below_drewN | apply Below.drew | refine Below.next ?_ (by assumption) | refine Below.st ?_ (by first | exact Nat.le_refl _ | (simp; done) | (simp; omega)) _))⟩

theorem take_fine (q st : Int) (rs : Value) (xs : List Int) (g : Good q st xs) (k : Nat) (hk : k < 16) (n : Int) (hn0 : 0 ≤ n) (hf : n ≤ xs.getD k 0) (w : World) (h : RdI .u64 w rs xs) :
    Calls Try.prog 45 #[Sv q st rs, .int .i64 ((k : Int) + 1), .int .u64 n] w (TakeOk w q st rs (xs.set k (xs.getD k 0 - n)) 0) := by
  obtain ⟨x, HX⟩ : ∃ x, Hid (xs.getD k 0 = x) := ⟨_, rfl⟩
  have hx := g.gxs.get k (by rw [g.gn]; exact hk)
  rw [HX.out] at hf hx ⊢
  have hd : decide (x < n) = false := nb (by omega)
  have HR := Lib.hid h
  have HG := Lib.hid g
  clear h g
  go_enter Try.func45, Try.ntmps45
  go_wp2_with (first
    | (go_at_call 44; refine (at_yes q st rs xs HG.out k hk _ (HR.out.keep (by repeat (first | assumption | exact Below.refl _ _ | apply Below.al | apply below_drewN | apply Below.drew | refine Below.next ?_ (by assumption) | refine Below.st ?_ (by first | exact Nat.le_refl _ | (simp; done) | (simp; omega)) _)))).mono ?_; rintro e w1 ⟨p, rfl, hp, hA, hb⟩; have HA := Lib.hid hA; clear hA; simp at hp; have hc := HA.out.ci k hk; rw [HX.out] at hc; have hz := HA.out.fz (3 + k))
    | fail)
  go_ret2
  exact ⟨p, rfl, by omega, HA.out.set k hk (x - n), (by repeat (first | assumption | exact Below.refl _ _ | apply Below.al | apply below_drewN | apply Below.drew | refine Below.next ?_ (by assumption) | refine Below.st ?_ (by first | exact Nat.le_refl _ | (simp; done) | (simp; omega)) _))⟩

/-! Release, Move -/
theorem release_bad (q st : Int) (rs : Value) (xs : List Int) (i : Inp q st xs) (er : Int) (he : chk q st xs = er) (hne : er ≠ 0) (node n : Int) (w : World) (h : RdI .u64 w rs xs) :
    Calls Try.prog 27 #[Sv q st rs, .int .i64 node, .int .u64 n] w (SpRes w 0 0 [] er) := by
  have HE := Lib.hid he; have HR := Lib.hid h
  clear he h
  have hne3 : (er != 0) = true := by simpa using hne
  go_enter Try.func27, Try.ntmps27
  go_wp2_with (go_at_call 45; refine (take_bad q st rs xs i er HE.out hne node n _ (HR.out.keep (by repeat (first | assumption | exact Below.refl _ _ | apply Below.al | apply below_drewN | apply Below.drew | refine Below.next ?_ (by assumption) | refine Below.st ?_ (by first | exact Nat.le_refl _ | (simp; done) | (simp; omega)) _)))).mono ?_; rintro e w1 ⟨rfl, hb⟩; have hC : RC w1 (w.heap.size + 1) := RC.keep hb (by simp [RC, go_sem]))
  refine bodyPost_ret (v := .tuple #[Sv 0 0 (.slice none 0 0), .int .i64 er]) ?_ rfl (sv_nil _ _ _ (by repeat (first | assumption | exact Below.refl _ _ | apply Below.al | apply below_drewN | apply Below.drew | refine Below.next ?_ (by assumption) | refine Below.st ?_ (by first | exact Nat.le_refl _ | (simp; done) | (simp; omega)) _)))
  simp [results, Try.results26, Try.results27, Try.results28, Try.results29, Try.results30, go_sem, hC]
theorem move_bad (q st : Int) (rs : Value) (xs : List Int) (i : Inp q st xs) (er : Int) (he : chk q st xs = er) (hne : er ≠ 0) (node n : Int) (w : World) (h : RdI .u64 w rs xs) :
    Calls Try.prog 30 #[Sv q st rs, .int .i64 node, .int .u64 n] w (SpRes w 0 0 [] er) := by
  have HE := Lib.hid he; have HR := Lib.hid h
  clear he h
  have hne3 : (er != 0) = true := by simpa using hne
  go_enter Try.func30, Try.ntmps30
  go_wp2_with (go_at_call 45; refine (take_bad q st rs xs i er HE.out hne node n _ (HR.out.keep (by repeat (first | assumption | exact Below.refl _ _ | apply Below.al | apply below_drewN | apply Below.drew | refine Below.next ?_ (by assumption) | refine Below.st ?_ (by first | exact Nat.le_refl _ | (simp; done) | (simp; omega)) _)))).mono ?_; rintro e w1 ⟨rfl, hb⟩; have hC : RC w1 (w.heap.size + 1) := RC.keep hb (by simp [RC, go_sem]))
  refine bodyPost_ret (v := .tuple #[Sv 0 0 (.slice none 0 0), .int .i64 er]) ?_ rfl (sv_nil _ _ _ (by repeat (first | assumption | exact Below.refl _ _ | apply Below.al | apply below_drewN | apply Below.drew | refine Below.next ?_ (by assumption) | refine Below.st ?_ (by first | exact Nat.le_refl _ | (simp; done) | (simp; omega)) _)))
  simp [results, Try.results26, Try.results27, Try.results28, Try.results29, Try.results30, go_sem, hC]
theorem release_node (q st : Int) (rs : Value) (xs : List Int) (g : Good q st xs) (node n : Int) (hk : node < 1 ∨ 16 < node) (w : World) (h : RdI .u64 w rs xs) :
    Calls Try.prog 27 #[Sv q st rs, .int .i64 node, .int .u64 n] w (SpRes w 0 0 [] 2) := by
  have HR := Lib.hid h
  have HK := Lib.hid hk
  clear h hk
  go_enter Try.func27, Try.ntmps27
  go_wp2_with (go_at_call 45; refine (take_node q st rs xs g node n HK.out _ (HR.out.keep (by repeat (first | assumption | exact Below.refl _ _ | apply Below.al | apply below_drewN | apply Below.drew | refine Below.next ?_ (by assumption) | refine Below.st ?_ (by first | exact Nat.le_refl _ | (simp; done) | (simp; omega)) _)))).mono ?_; rintro e w1 ⟨rfl, hb⟩; have hC : RC w1 (w.heap.size + 1) := RC.keep hb (by simp [RC, go_sem]))
  refine bodyPost_ret (v := .tuple #[Sv 0 0 (.slice none 0 0), .int .i64 2]) ?_ rfl (sv_nil _ _ _ (by repeat (first | assumption | exact Below.refl _ _ | apply Below.al | apply below_drewN | apply Below.drew | refine Below.next ?_ (by assumption) | refine Below.st ?_ (by first | exact Nat.le_refl _ | (simp; done) | (simp; omega)) _)))
  simp [results, Try.results26, Try.results27, Try.results28, Try.results29, Try.results30, go_sem, hC]
theorem move_node (q st : Int) (rs : Value) (xs : List Int) (g : Good q st xs) (node n : Int) (hk : node < 1 ∨ 16 < node) (w : World) (h : RdI .u64 w rs xs) :
    Calls Try.prog 30 #[Sv q st rs, .int .i64 node, .int .u64 n] w (SpRes w 0 0 [] 2) := by
  have HR := Lib.hid h
  have HK := Lib.hid hk
  clear h hk
  go_enter Try.func30, Try.ntmps30
  go_wp2_with (go_at_call 45; refine (take_node q st rs xs g node n HK.out _ (HR.out.keep (by repeat (first | assumption | exact Below.refl _ _ | apply Below.al | apply below_drewN | apply Below.drew | refine Below.next ?_ (by assumption) | refine Below.st ?_ (by first | exact Nat.le_refl _ | (simp; done) | (simp; omega)) _)))).mono ?_; rintro e w1 ⟨rfl, hb⟩; have hC : RC w1 (w.heap.size + 1) := RC.keep hb (by simp [RC, go_sem]))
  refine bodyPost_ret (v := .tuple #[Sv 0 0 (.slice none 0 0), .int .i64 2]) ?_ rfl (sv_nil _ _ _ (by repeat (first | assumption | exact Below.refl _ _ | apply Below.al | apply below_drewN | apply Below.drew | refine Below.next ?_ (by assumption) | refine Below.st ?_ (by first | exact Nat.le_refl _ | (simp; done) | (simp; omega)) _)))
  simp [results, Try.results26, Try.results27, Try.results28, Try.results29, Try.results30, go_sem, hC]
theorem release_credit (q st : Int) (rs : Value) (xs : List Int) (g : Good q st xs) (k : Nat) (hk : k < 16) (n : Int) (hf : xs.getD k 0 < n) (w : World) (h : RdI .u64 w rs xs) :
    Calls Try.prog 27 #[Sv q st rs, .int .i64 ((k : Int) + 1), .int .u64 n] w (SpRes w 0 0 [] 14) := by
  have HR := Lib.hid h
  have HG := Lib.hid g
  have HF := Lib.hid hf
  clear h g hf
  go_enter Try.func27, Try.ntmps27
  go_wp2_with (go_at_call 45; refine (take_credit q st rs xs HG.out k hk n HF.out _ (HR.out.keep (by repeat (first | assumption | exact Below.refl _ _ | apply Below.al | apply below_drewN | apply Below.drew | refine Below.next ?_ (by assumption) | refine Below.st ?_ (by first | exact Nat.le_refl _ | (simp; done) | (simp; omega)) _)))).mono ?_; rintro e w1 ⟨p, rfl, hp, hA, hb⟩; have hC : RC w1 (w.heap.size + 1) := RC.keep hb (by simp [RC, go_sem]); have HA := Lib.hid hA; clear hA)
  refine bodyPost_ret (v := .tuple #[Sv 0 0 (.slice none 0 0), .int .i64 14]) ?_ rfl (sv_nil _ _ _ (by repeat (first | assumption | exact Below.refl _ _ | apply Below.al | apply below_drewN | apply Below.drew | refine Below.next ?_ (by assumption) | refine Below.st ?_ (by first | exact Nat.le_refl _ | (simp; done) | (simp; omega)) _)))
  simp [results, Try.results26, Try.results27, Try.results28, Try.results29, Try.results30, go_sem, hC]
theorem move_credit (q st : Int) (rs : Value) (xs : List Int) (g : Good q st xs) (k : Nat) (hk : k < 16) (n : Int) (hf : xs.getD k 0 < n) (w : World) (h : RdI .u64 w rs xs) :
    Calls Try.prog 30 #[Sv q st rs, .int .i64 ((k : Int) + 1), .int .u64 n] w (SpRes w 0 0 [] 14) := by
  have HR := Lib.hid h
  have HG := Lib.hid g
  have HF := Lib.hid hf
  clear h g hf
  go_enter Try.func30, Try.ntmps30
  go_wp2_with (go_at_call 45; refine (take_credit q st rs xs HG.out k hk n HF.out _ (HR.out.keep (by repeat (first | assumption | exact Below.refl _ _ | apply Below.al | apply below_drewN | apply Below.drew | refine Below.next ?_ (by assumption) | refine Below.st ?_ (by first | exact Nat.le_refl _ | (simp; done) | (simp; omega)) _)))).mono ?_; rintro e w1 ⟨p, rfl, hp, hA, hb⟩; have hC : RC w1 (w.heap.size + 1) := RC.keep hb (by simp [RC, go_sem]); have HA := Lib.hid hA; clear hA)
  refine bodyPost_ret (v := .tuple #[Sv 0 0 (.slice none 0 0), .int .i64 14]) ?_ rfl (sv_nil _ _ _ (by repeat (first | assumption | exact Below.refl _ _ | apply Below.al | apply below_drewN | apply Below.drew | refine Below.next ?_ (by assumption) | refine Below.st ?_ (by first | exact Nat.le_refl _ | (simp; done) | (simp; omega)) _)))
  simp [results, Try.results26, Try.results27, Try.results28, Try.results29, Try.results30, go_sem, hC]

set_option maxHeartbeats 400000 in
theorem release_fine (q st : Int) (rs : Value) (xs : List Int) (g : Good q st xs) (k : Nat) (hk : k < 16) (n : Int) (hn0 : 0 ≤ n) (hf : n ≤ xs.getD k 0) (w : World) (h : RdI .u64 w rs xs) :
    Calls Try.prog 27 #[Sv q st rs, .int .i64 ((k : Int) + 1), .int .u64 n] w (SpRes w q st (xs.set k (xs.getD k 0 - n)) 0) := by
  obtain ⟨ys, HY⟩ : ∃ ys, Hid (xs.set k (xs.getD k 0 - n) = ys) := ⟨_, rfl⟩
  have HL : Hid (ys.length = 16) := by unfold Hid; rw [← HY.out, List.length_set]; exact g.gn
  have HFF := Lib.hid hf
  have HR := Lib.hid h
  have HG := Lib.hid g
  clear h g hf
  rw [HY.out]
  go_enter Try.func27, Try.ntmps27
  go_wp2_with (first
    | ((go_at_call 45; refine (take_fine q st rs xs HG.out k hk n hn0 HFF.out _ (HR.out.keep (by repeat (first | assumption | exact Below.refl _ _ | apply Below.al | apply below_drewN | apply Below.drew | refine Below.next ?_ (by assumption) | refine Below.st ?_ (by first | exact Nat.le_refl _ | (simp; done) | (simp; omega)) _)))).mono ?_; rintro e w1 ⟨p, rfl, hp, hA, hb⟩; have hC : RC w1 (w.heap.size + 1) := RC.keep hb (by simp [RC, go_sem]); have hs1 : w.heap.size + 1 < w1.heap.size := cell_lt hC.1; have HA := Lib.hid hA; clear hA; simp at hp); rw [HY.out] at HA)
    | (go_at_call 33; refine (space_any p q st rs ys _ HA.out).mono ?_; rintro e w4 ⟨v, rfl, hrd, hF, hb⟩; have hC := RC.keep hb (by first | exact hC | exact RC.set _ (by first | omega | (simp; omega)) hC); obtain ⟨a, c, hv⟩ := hrd.form; rw [HL.out] at hv; subst hv)
    | fail)
  refine bodyPost_ret (v := .tuple #[Sv q st (.slice a 16 c), .int .i64 0]) ?_ rfl ?_
  · simp [results, Try.results27, go_sem, hC]
  · refine ⟨_, rfl, RdI.set _ (RdI.set _ (RdI.set _ hrd hF ?_) hF ?_) hF ?_, hF.mono ?_, (by repeat (first | assumption | exact Below.refl _ _ | apply Below.al | apply below_drewN | apply Below.drew | refine Below.next ?_ (by assumption) | refine Below.st ?_ (by first | exact Nat.le_refl _ | (simp; done) | (simp; omega)) _))⟩
    all_goals (first | omega | (simp; omega))

set_option maxHeartbeats 400000 in
theorem move_fine (q st : Int) (rs : Value) (xs : List Int) (g : Good q st xs) (k : Nat) (hk : k < 16) (n : Int) (hn0 : 0 ≤ n) (hf : n ≤ xs.getD k 0) (w : World) (h : RdI .u64 w rs xs) :
    Calls Try.prog 30 #[Sv q st rs, .int .i64 ((k : Int) + 1), .int .u64 n] w (SpRes w q (st + n) (xs.set k (xs.getD k 0 - n)) 0) := by
  obtain ⟨ys, HY⟩ : ∃ ys, Hid (xs.set k (xs.getD k 0 - n) = ys) := ⟨_, rfl⟩
  have HL : Hid (ys.length = 16) := by unfold Hid; rw [← HY.out, List.length_set]; exact g.gn
  have hxs : xs.getD k 0 ≤ xs.sum := get_le_sum g.gxs k (by rw [g.gn]; exact hk)
  have b0 := g.sum; have b1 := g.gle; have b2 := g.gq; have b3 := g.gst
  have b4 : st + n ≤ q := by omega
  have HFF := Lib.hid hf
  have HR := Lib.hid h
  have HG := Lib.hid g
  clear h g hf hxs
  rw [HY.out]
  go_enter Try.func30, Try.ntmps30
  go_wp2_with (first
    | ((go_at_call 45; refine (take_fine q st rs xs HG.out k hk n hn0 HFF.out _ (HR.out.keep (by repeat (first | assumption | exact Below.refl _ _ | apply Below.al | apply below_drewN | apply Below.drew | refine Below.next ?_ (by assumption) | refine Below.st ?_ (by first | exact Nat.le_refl _ | (simp; done) | (simp; omega)) _)))).mono ?_; rintro e w1 ⟨p, rfl, hp, hA, hb⟩; have hC : RC w1 (w.heap.size + 1) := RC.keep hb (by simp [RC, go_sem]); have hs1 : w.heap.size + 1 < w1.heap.size := cell_lt hC.1; have HA := Lib.hid hA; clear hA; simp at hp); rw [HY.out] at HA; have hc := HA.out.c1; have hz := HA.out.fz 1)
    | (go_at_call 33; refine (space_any p q (st + n) rs ys _ (HA.out.setSt (st + n))).mono ?_; rintro e w4 ⟨v, rfl, hrd, hF, hb⟩; have hC := RC.keep hb (by first | exact hC | exact RC.set _ (by first | omega | (simp; omega)) hC); obtain ⟨a, c, hv⟩ := hrd.form; rw [HL.out] at hv; subst hv)
    | fail)
  refine bodyPost_ret (v := .tuple #[Sv q (st + n) (.slice a 16 c), .int .i64 0]) ?_ rfl ?_
  · simp [results, Try.results30, go_sem, hC]
  · refine ⟨_, rfl, RdI.set _ (RdI.set _ (RdI.set _ hrd hF ?_) hF ?_) hF ?_, hF.mono ?_, (by repeat (first | assumption | exact Below.refl _ _ | apply Below.al | apply below_drewN | apply Below.drew | refine Below.next ?_ (by assumption) | refine Below.st ?_ (by first | exact Nat.le_refl _ | (simp; done) | (simp; omega)) _))⟩
    all_goals (first | omega | (simp; omega))


/-! Add, Drop -/
theorem add_bad (q st : Int) (rs : Value) (xs : List Int) (i : Inp q st xs) (er : Int) (he : chk q st xs = er) (hne : er ≠ 0) (n : Int) (w : World) (h : RdI .u64 w rs xs) :
    Calls Try.prog 28 #[Sv q st rs, .int .u64 n] w (SpRes w 0 0 [] er) := by
  have HE := Lib.hid he; have HR := Lib.hid h
  clear he h
  have hne2 : (er == 0) = false := by simpa using hne
  have hne3 : (er != 0) = true := by simpa using hne
  go_enter Try.func28, Try.ntmps28
  go_wp2_with (go_at_call 35; refine (of_no q st rs xs i er HE.out hne _ (HR.out.keep (by repeat (first | assumption | exact Below.refl _ _ | apply Below.al | apply below_drewN | apply Below.drew | refine Below.next ?_ (by assumption) | refine Below.st ?_ (by first | exact Nat.le_refl _ | (simp; done) | (simp; omega)) _)))).mono ?_; rintro e w1 ⟨rfl, hb⟩; have hC : RC w1 (w.heap.size + 1) := RC.keep hb (by simp [RC, go_sem]))
  refine bodyPost_ret (v := .tuple #[Sv 0 0 (.slice none 0 0), .int .i64 er]) ?_ rfl (sv_nil _ _ _ (by repeat (first | assumption | exact Below.refl _ _ | apply Below.al | apply below_drewN | apply Below.drew | refine Below.next ?_ (by assumption) | refine Below.st ?_ (by first | exact Nat.le_refl _ | (simp; done) | (simp; omega)) _)))
  simp [results, Try.results26, Try.results27, Try.results28, Try.results29, Try.results30, go_sem, hC]
theorem drop_bad (q st : Int) (rs : Value) (xs : List Int) (i : Inp q st xs) (er : Int) (he : chk q st xs = er) (hne : er ≠ 0) (n : Int) (w : World) (h : RdI .u64 w rs xs) :
    Calls Try.prog 29 #[Sv q st rs, .int .u64 n] w (SpRes w 0 0 [] er) := by
  have HE := Lib.hid he; have HR := Lib.hid h
  clear he h
  have hne2 : (er == 0) = false := by simpa using hne
  have hne3 : (er != 0) = true := by simpa using hne
  go_enter Try.func29, Try.ntmps29
  go_wp2_with (go_at_call 35; refine (of_no q st rs xs i er HE.out hne _ (HR.out.keep (by repeat (first | assumption | exact Below.refl _ _ | apply Below.al | apply below_drewN | apply Below.drew | refine Below.next ?_ (by assumption) | refine Below.st ?_ (by first | exact Nat.le_refl _ | (simp; done) | (simp; omega)) _)))).mono ?_; rintro e w1 ⟨rfl, hb⟩; have hC : RC w1 (w.heap.size + 1) := RC.keep hb (by simp [RC, go_sem]))
  refine bodyPost_ret (v := .tuple #[Sv 0 0 (.slice none 0 0), .int .i64 er]) ?_ rfl (sv_nil _ _ _ (by repeat (first | assumption | exact Below.refl _ _ | apply Below.al | apply below_drewN | apply Below.drew | refine Below.next ?_ (by assumption) | refine Below.st ?_ (by first | exact Nat.le_refl _ | (simp; done) | (simp; omega)) _)))
  simp [results, Try.results26, Try.results27, Try.results28, Try.results29, Try.results30, go_sem, hC]

set_option maxHeartbeats 400000 in
theorem add_full (q st : Int) (rs : Value) (xs : List Int) (g : Good q st xs) (n : Int) (hf : q - st - xs.sum < n) (w : World) (h : RdI .u64 w rs xs) :
    Calls Try.prog 28 #[Sv q st rs, .int .u64 n] w (SpRes w 0 0 [] 5) := by
  have HR := Lib.hid h
  have HG := Lib.hid g
  have hd : decide (q - st - xs.sum < n) = true := yb hf
  clear h g
  go_enter Try.func28, Try.ntmps28
  go_wp2_with (first
    | (go_at_call 35; refine (of_yes q st rs xs HG.out _ (HR.out.keep (by repeat (first | assumption | exact Below.refl _ _ | apply Below.al | apply below_drewN | apply Below.drew | refine Below.next ?_ (by assumption) | refine Below.st ?_ (by first | exact Nat.le_refl _ | (simp; done) | (simp; omega)) _)))).mono ?_; rintro e w1 ⟨p, rfl, hp, hA, hb⟩; have hC : RC w1 (w.heap.size + 1) := RC.keep hb (by simp [RC, go_sem]); have hs1 : w.heap.size + 1 < w1.heap.size := cell_lt hC.1; have hc := hA.c1; have hz := hA.fz 1; have HA := Lib.hid hA; clear hA; simp at hp)
    | (go_at_call 36; refine (free_any p q st rs xs HG.out _ HA.out).mono ?_; rintro e w2 ⟨rfl, hb⟩; have hC := RC.keep hb hC; have hs2 : w.heap.size + 1 < w2.heap.size := cell_lt hC.1; have HA := Lib.hid (HA.out.keep hb))
    | fail)
  refine bodyPost_ret (v := .tuple #[Sv 0 0 (.slice none 0 0), .int .i64 5]) ?_ rfl (sv_nil _ _ _ (by repeat (first | assumption | exact Below.refl _ _ | apply Below.al | apply below_drewN | apply Below.drew | refine Below.next ?_ (by assumption) | refine Below.st ?_ (by first | exact Nat.le_refl _ | (simp; done) | (simp; omega)) _)))
  simp [results, Try.results26, Try.results27, Try.results28, Try.results29, Try.results30, go_sem, hC]

set_option maxHeartbeats 400000 in
theorem add_fine (q st : Int) (rs : Value) (xs : List Int) (g : Good q st xs) (n : Int) (hn0 : 0 ≤ n) (hf : n ≤ q - st - xs.sum) (w : World) (h : RdI .u64 w rs xs) :
    Calls Try.prog 28 #[Sv q st rs, .int .u64 n] w (SpRes w q (st + n) xs 0) := by
  have HL := Lib.hid g.gn
  have b0 := g.sum; have b1 := g.gle; have b2 := g.gq; have b3 := g.gst
  have HR := Lib.hid h
  have HG := Lib.hid g
  have hd : decide (q - st - xs.sum < n) = false := nb (by omega)
  clear h g
  go_enter Try.func28, Try.ntmps28
  go_wp2_with (first
    | (go_at_call 35; refine (of_yes q st rs xs HG.out _ (HR.out.keep (by repeat (first | assumption | exact Below.refl _ _ | apply Below.al | apply below_drewN | apply Below.drew | refine Below.next ?_ (by assumption) | refine Below.st ?_ (by first | exact Nat.le_refl _ | (simp; done) | (simp; omega)) _)))).mono ?_; rintro e w1 ⟨p, rfl, hp, hA, hb⟩; have hC : RC w1 (w.heap.size + 1) := RC.keep hb (by simp [RC, go_sem]); have hs1 : w.heap.size + 1 < w1.heap.size := cell_lt hC.1; have hc := hA.c1; have hz := hA.fz 1; have HA := Lib.hid hA; clear hA; simp at hp)
    | ((go_at_call 36; refine (free_any p q st rs xs HG.out _ HA.out).mono ?_; rintro e w2 ⟨rfl, hb⟩; have hC := RC.keep hb hC; have hs2 : w.heap.size + 1 < w2.heap.size := cell_lt hC.1; have HA := Lib.hid (HA.out.keep hb)); have hc := HA.out.c1; have hz := HA.out.fz 1)
    | (go_at_call 33; refine (space_any p q (st + n) rs xs _ (HA.out.setSt (st + n))).mono ?_; rintro e w4 ⟨v, rfl, hrd, hF, hb⟩; have hC := RC.keep hb (by first | exact hC | exact RC.set _ (by first | omega | (simp; omega)) hC); obtain ⟨a, c, hv⟩ := hrd.form; rw [HL.out] at hv; subst hv)
    | fail)
  refine bodyPost_ret (v := .tuple #[Sv q (st + n) (.slice a 16 c), .int .i64 0]) ?_ rfl ?_
  · simp [results, Try.results28, go_sem, hC]
  · refine ⟨_, rfl, RdI.set _ (RdI.set _ (RdI.set _ hrd hF ?_) hF ?_) hF ?_, hF.mono ?_, (by repeat (first | assumption | exact Below.refl _ _ | apply Below.al | apply below_drewN | apply Below.drew | refine Below.next ?_ (by assumption) | refine Below.st ?_ (by first | exact Nat.le_refl _ | (simp; done) | (simp; omega)) _))⟩
    all_goals (first | omega | (simp; omega))

set_option maxHeartbeats 400000 in
theorem drop_state (q st : Int) (rs : Value) (xs : List Int) (g : Good q st xs) (n : Int) (hf : st < n) (w : World) (h : RdI .u64 w rs xs) :
    Calls Try.prog 29 #[Sv q st rs, .int .u64 n] w (SpRes w 0 0 [] 12) := by
  have HR := Lib.hid h
  have HG := Lib.hid g
  have hd : decide (st < n) = true := yb hf
  clear h g
  go_enter Try.func29, Try.ntmps29
  go_wp2_with (first
    | (go_at_call 35; refine (of_yes q st rs xs HG.out _ (HR.out.keep (by repeat (first | assumption | exact Below.refl _ _ | apply Below.al | apply below_drewN | apply Below.drew | refine Below.next ?_ (by assumption) | refine Below.st ?_ (by first | exact Nat.le_refl _ | (simp; done) | (simp; omega)) _)))).mono ?_; rintro e w1 ⟨p, rfl, hp, hA, hb⟩; have hC : RC w1 (w.heap.size + 1) := RC.keep hb (by simp [RC, go_sem]); have hs1 : w.heap.size + 1 < w1.heap.size := cell_lt hC.1; have hc := hA.c1; have hz := hA.fz 1; have HA := Lib.hid hA; clear hA; simp at hp)
    | fail)
  refine bodyPost_ret (v := .tuple #[Sv 0 0 (.slice none 0 0), .int .i64 12]) ?_ rfl (sv_nil _ _ _ (by repeat (first | assumption | exact Below.refl _ _ | apply Below.al | apply below_drewN | apply Below.drew | refine Below.next ?_ (by assumption) | refine Below.st ?_ (by first | exact Nat.le_refl _ | (simp; done) | (simp; omega)) _)))
  simp [results, Try.results26, Try.results27, Try.results28, Try.results29, Try.results30, go_sem, hC]

set_option maxHeartbeats 400000 in
theorem drop_fine (q st : Int) (rs : Value) (xs : List Int) (g : Good q st xs) (n : Int) (hn0 : 0 ≤ n) (hf : n ≤ st) (w : World) (h : RdI .u64 w rs xs) :
    Calls Try.prog 29 #[Sv q st rs, .int .u64 n] w (SpRes w q (st - n) xs 0) := by
  have HL := Lib.hid g.gn
  have b0 := g.sum; have b1 := g.gle; have b2 := g.gq; have b3 := g.gst
  have HR := Lib.hid h
  have HG := Lib.hid g
  have hd : decide (st < n) = false := nb (by omega)
  clear h g
  go_enter Try.func29, Try.ntmps29
  go_wp2_with (first
    | (go_at_call 35; refine (of_yes q st rs xs HG.out _ (HR.out.keep (by repeat (first | assumption | exact Below.refl _ _ | apply Below.al | apply below_drewN | apply Below.drew | refine Below.next ?_ (by assumption) | refine Below.st ?_ (by first | exact Nat.le_refl _ | (simp; done) | (simp; omega)) _)))).mono ?_; rintro e w1 ⟨p, rfl, hp, hA, hb⟩; have hC : RC w1 (w.heap.size + 1) := RC.keep hb (by simp [RC, go_sem]); have hs1 : w.heap.size + 1 < w1.heap.size := cell_lt hC.1; have hc := hA.c1; have hz := hA.fz 1; have HA := Lib.hid hA; clear hA; simp at hp)
    | (go_at_call 33; refine (space_any p q (st - n) rs xs _ (HA.out.setSt (st - n))).mono ?_; rintro e w4 ⟨v, rfl, hrd, hF, hb⟩; have hC := RC.keep hb (by first | exact hC | exact RC.set _ (by first | omega | (simp; omega)) hC); obtain ⟨a, c, hv⟩ := hrd.form; rw [HL.out] at hv; subst hv)
    | fail)
  refine bodyPost_ret (v := .tuple #[Sv q (st - n) (.slice a 16 c), .int .i64 0]) ?_ rfl ?_
  · simp [results, Try.results29, go_sem, hC]
  · refine ⟨_, rfl, RdI.set _ (RdI.set _ (RdI.set _ hrd hF ?_) hF ?_) hF ?_, hF.mono ?_, (by repeat (first | assumption | exact Below.refl _ _ | apply Below.al | apply below_drewN | apply Below.drew | refine Below.next ?_ (by assumption) | refine Below.st ?_ (by first | exact Nat.le_refl _ | (simp; done) | (simp; omega)) _))⟩
    all_goals (first | omega | (simp; omega))

end Go.Proofs.Ytcbolpjacoiclaa
