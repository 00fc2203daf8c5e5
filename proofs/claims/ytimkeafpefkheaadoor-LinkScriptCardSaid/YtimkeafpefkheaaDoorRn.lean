

/- Links: scripts of faults, plainly and in both texts. -/
import Derived.Test.YtimkeafpefkheaaDoorOp
import Derived.Test.YtimkeafpefkheaaDoorU
namespace Go.Proofs.YtimkeafpefkheaaDoor
open Go.RowKit
set_option linter.unusedSimpArgs false
set_option linter.unusedVariables false
set_option maxRecDepth 100000

theorem getD_size {l : List Fr} (hz : Szs l) (k : Nat) : (l.getD k e0).size ≤ 9223372036854775807 := by
  by_cases hk : k < l.length
  · exact hz.get hk
  · rw [List.getD_eq_getElem?_getD, List.getElem?_eq_none (by omega)]
    show e0.size ≤ _
    decide
theorem spoil_size (s : Fr) (j : Nat) (b : Int) : (spoilS s j b).size = s.size := by
  unfold spoilS
  show (s.data.setIfInBounds _ _).size = s.data.size
  simp
theorem apL_szs {l : List Fr} (hz : Szs l) (t : Tr) : Szs (apL l t) := by
  unfold apL
  split
  · intro s hs
    unfold lessV at hs
    rcases List.mem_append.1 hs with h | h
    · exact hz s (List.mem_of_mem_take h)
    · exact hz s (List.mem_of_mem_drop h)
  · split
    · intro s hs
      unfold insV at hs
      rcases List.mem_append.1 hs with h | h
      · exact hz s (List.mem_of_mem_take h)
      · rcases List.mem_cons.1 h with rfl | h
        · exact getD_size hz _
        · exact hz s (List.mem_of_mem_drop h)
    · split
      · intro s hs
        unfold swapV at hs
        rcases List.mem_or_eq_of_mem_set hs with h | rfl
        · rcases List.mem_or_eq_of_mem_set h with h | rfl
          · exact hz s h
          · exact getD_size hz _
        · exact getD_size hz _
      · split
        · intro s hs
          rcases List.mem_or_eq_of_mem_set hs with h | rfl
          · exact hz s h
          · rw [spoil_size]; exact getD_size hz _
        · intro s hs
          rcases List.mem_or_eq_of_mem_set hs with h | rfl
          · exact hz s h
          · have := getD_size hz t.i.toNat
            rw [ByteArray.size_extract]
            omega
/-- the link behind k faults -/
def runL (l : List Fr) (ts : List Tr) : Nat → List Fr
  | 0 => l
  | k + 1 => apL (runL l ts k) (ts.getD k t0)
/-- the error of fault k -/
def runE (l : List Fr) (ts : List Tr) (k : Nat) : Int := apE (runL l ts k) (ts.getD k t0)
def scanR (l : List Fr) (ts : List Tr) : Nat → Int × Int
  | 0 => (0, 0)
  | k + 1 => if (scanR l ts k).1 ≠ 0 then scanR l ts k else if runE l ts k ≠ 0 then (runE l ts k, k) else (0, 0)
/-- what a script makes -/
def runV (l : List Fr) (ts : List Tr) : List Fr × Int × Int :=
  if (chkL l).1 ≠ 0 then ([], (chkL l).1, 0) else if (scanR l ts ts.length).1 ≠ 0 then ([], scanR l ts ts.length) else (runL l ts ts.length, 0, 0)
theorem runL_szs {l : List Fr} (hz : Szs l) (ts : List Tr) : ∀ k, Szs (runL l ts k)
  | 0 => hz
  | k + 1 => apL_szs (runL_szs hz ts k) _
theorem scanR_zero {l : List Fr} {ts : List Tr} : ∀ k, (∀ j, j < k → runE l ts j = 0) → scanR l ts k = (0, 0)
  | 0, _ => rfl
  | k + 1, h => by
    unfold scanR
    rw [scanR_zero k fun j hj => h j (by omega), if_neg (by simp), if_neg (by rw [h k (by omega)]; simp)]
theorem scanR_fail {l : List Fr} {ts : List Tr} {k : Nat} (h : ∀ j, j < k → runE l ts j = 0) (hk : runE l ts k ≠ 0) : ∀ n, k < n → scanR l ts n = (runE l ts k, (k : Int))
  | 0, h0 => by omega
  | n + 1, hn => by
    unfold scanR
    by_cases he : k = n
    · subst he
      rw [scanR_zero k h, if_neg (by simp), if_pos hk]
    · rw [scanR_fail h hk n (by omega), if_pos hk]
/-- a fault at a place -/
abbrev TA (w : World) (b o : Nat) (t : Tr) : Prop := w.cell? ⟨b, o, none⟩ = some (.int .i64 t.k) ∧ w.cell? ⟨b, o + 1, none⟩ = some (.int .i64 t.i) ∧ w.cell? ⟨b, o + 2, none⟩ = some (.int .i64 t.j) ∧ w.cell? ⟨b, o + 3, none⟩ = some (.int .i64 t.b)
theorem TA.keep {W w1 : World} {b o : Nat} {t : Tr} (hb : Below W.heap.size W w1) (h : TA W b o t) : TA w1 b o t := ⟨cell_later hb h.1, cell_later hb h.2.1, cell_later hb h.2.2.1, cell_later hb h.2.2.2⟩
theorem trs_at {w : World} {a : Option Addr} {n c : Nat} {ts : List Tr} (h : RdL trR w (.slice a n c) ts) (hn : ts.length = n) (k : Nat) (hk : k < n) : ∃ b off, a = some ⟨b, off, none⟩ ∧ n ≤ c ∧ TA w b (off + k * 4) (ts.getD k t0) := by
  obtain ⟨b, off, rfl, hc, ra⟩ := h.at hn k hk
  exact ⟨b, off, rfl, hc, ra 0 _ rfl, ra 1 _ rfl, ra 2 _ rfl, ra 3 _ rfl⟩
theorem trok_get {ts : List Tr} (h : ∀ t, t ∈ ts → TrOk t) (k : Nat) : TrOk (ts.getD k t0) := by
  by_cases hk : k < ts.length
  · rw [List.getD_eq_getElem?_getD, List.getElem?_eq_getElem hk]
    exact h _ (List.getElem_mem hk)
  · rw [List.getD_eq_getElem?_getD, List.getElem?_eq_none (by omega)]
    show TrOk t0
    unfold TrOk t0 Ib
    decide
/-- what Run has returned -/
def RuR (w : World) (r : List Fr × Int × Int) (x : Ending) (w' : World) : Prop := ∃ v, x = .returned (.tuple #[v, .int .i64 r.2.1, .int .i64 r.2.2]) ∧ RdT w' v r.1 ∧ Below w.heap.size w w'

set_option maxHeartbeats 4000000 in
theorem run_any (v sv : Value) (l : List Fr) (hz : Szs l) (ts : List Tr) (hto : ∀ t, t ∈ ts → TrOk t) (ht60 : ts.length ≤ 1000) (w : World) (hkd : KD w) (h : RdT w v l) (hs : RdL trR w sv ts) :
    Calls Tryd.prog 29 #[v, sv] w (RuR w (runV l ts)) := by
  obtain ⟨e, n, hen⟩ : ∃ e n, chkL l = (e, n) := ⟨_, _, rfl⟩
  have HEN := Lib.hid hen
  have HR := Lib.hid h
  have HZ := Lib.hid hz
  have HKD := Lib.hid hkd
  clear h hz hkd
  unfold RuR runV
  rw [hen]
  clear hen
  dsimp only
  by_cases h1 : e = 0
  · obtain rfl := h1
    rw [if_neg (by simp)]
    have hl := (chkL_zero (l := l) (by rw [HEN.out])).1
    obtain ⟨s0, m0, rfl⟩ := hs.form
    obtain ⟨M, hM⟩ : ∃ M, ts.length = M := ⟨_, rfl⟩
    rw [hM] at hs ht60 ⊢
    obtain ⟨r1, r2, r3, HV0⟩ : ∃ r1 r2 r3, Hid ((if (scanR l ts M).1 ≠ 0 then ([], scanR l ts M) else (runL l ts M, 0, 0)) = (r1, r2, r3)) := ⟨_, _, _, rfl⟩
    rw [HV0.out]
    dsimp only
    have HM := Lib.hid hM
    have HS := Lib.hid hs
    clear hs hM
    go_enter Tryd.func29, Tryd.ntmps29
    go_wp2_with fail
    refine (check_is _ l HZ.out 0 n HEN.out _ HR.out).mono ?_
    rintro x w1 ⟨rfl, rfl⟩
    go_wp2_with fail
    refine (clone_any _ l (by omega) _ HR.out).mono ?_
    rintro x w1 ⟨a1, c1, rfl, hown, hb1⟩
    have HV := Lib.hid (RdT.of_owns hown)
    clear hown
    go_wp2_with fail
    go_loopw [0, 24] (fun u i wr => ∃ k : Nat, k ≤ M ∧ i = .int .i64 k ∧ RdT wr u (runL l ts k) ∧ Below w.heap.size w wr ∧ ∀ j, j < k → runE l ts j = 0) (fun _ i _ => M - (intOf i).toNat)
    case atStart => exact ⟨0, Nat.zero_le _, rfl, HV.out, hb1, fun j hj => by omega⟩
    case round =>
      obtain ⟨k, hk, rfl, hv, hB, hz0⟩ := hrel
      have HZ0 := Lib.hid hz0
      have HV2 := Lib.hid hv
      clear hv hz0
      by_cases hlt : k < M
      · have d2 : decide ((k : Int) < (M : Int)) = true := yb (by omega)
        obtain ⟨b, off, rfl, hcap, hc⟩ := trs_at (HS.out.keep hB) HM.out k hlt
        obtain ⟨t, HT⟩ : ∃ t, Hid (ts.getD k t0 = t) := ⟨_, rfl⟩
        rw [HT.out] at hc
        obtain ⟨q0, q1, q2, q3⟩ := hc
        have hok := trok_get hto k
        rw [HT.out] at hok
        obtain ⟨ib0, ib1, ib2, ib3⟩ := hok
        have i1 : (0 : Int) ≤ (k : Int) := by omega
        have i2 : (k : Int) < (M : Int) := by omega
        have hwk : IntKind.i64.wrap (k : Int) = (k : Int) := IntWalk.i64_in _ (by omega)
        go_wp2_with fail
        refine (apply_any _ (runL l ts k) (runL_szs HZ.out ts k) t ib0 ib1 _ (HKD.out.keep (by repeat (first | assumption | exact Below.refl _ _ | apply Below.al | apply below_drewN | apply Below.drew | refine Below.next ?_ (by assumption)))) (HV2.out.keep (by repeat (first | assumption | exact Below.refl _ _ | apply Below.al | apply below_drewN | apply Below.drew | refine Below.next ?_ (by assumption))))).mono ?_
        rintro x w2 ⟨v2, rfl, hr2, hb2⟩
        have hB2 : Below w.heap.size w w2 := Below.next (by repeat (first | assumption | exact Below.refl _ _ | apply Below.al | apply below_drewN | apply Below.drew | refine Below.next ?_ (by assumption))) hb2
        obtain ⟨er, HER⟩ : ∃ er, Hid (apE (runL l ts k) t = er) := ⟨_, rfl⟩
        rw [HER.out] at hr2 ⊢
        by_cases hz1 : er = 0
        · subst hz1
          rw [if_pos rfl] at hr2
          have HR2 := Lib.hid hr2
          clear hr2
          go_wp2_with fail
          go_roundw
          case rel => exact ⟨k + 1, by omega, by go_num, by show RdT _ _ (apL (runL l ts k) (ts.getD k t0)); rw [HT.out]; exact HR2.out, hB2, fun j hj => by
            by_cases hjk : j = k
            · subst hjk; unfold runE; rw [HT.out]; exact HER.out
            · exact HZ0.out j (by omega)⟩
          case measure => simp [intOf]; omega
        · have hf := scanR_fail HZ0.out (by unfold runE; rw [HT.out, HER.out]; exact hz1) M hlt
          unfold runE at hf
          rw [HT.out, HER.out] at hf
          have hv0 := HV0.out
          rw [hf] at hv0
          dsimp only at hv0
          rw [if_pos hz1] at hv0
          simp only [Prod.mk.injEq] at hv0
          obtain ⟨rfl, rfl, rfl⟩ := hv0
          have d3 : (er != 0) = true := by simpa using hz1
          clear hf hz1 hr2
          go_wp2_with fail
          go_ret3
          exact ⟨_, rfl, RdT.nil _, hB2⟩
      · obtain rfl : k = M := by omega
        have d2 : decide ((k : Int) < (k : Int)) = false := nb (by omega)
        have hv0 := HV0.out
        rw [scanR_zero k HZ0.out] at hv0
        dsimp only at hv0
        rw [if_neg (by decide)] at hv0
        simp only [Prod.mk.injEq] at hv0
        obtain ⟨rfl, rfl, rfl⟩ := hv0
        go_wp2_with fail
        go_ret3
        exact ⟨_, rfl, HV2.out, hB⟩
  · rw [if_pos h1]
    have d1 : (e != 0) = true := by simpa using h1
    clear h1
    go_enter Tryd.func29, Tryd.ntmps29
    go_wp2_with fail
    refine (check_is _ l HZ.out e n HEN.out _ HR.out).mono ?_
    rintro x w1 ⟨rfl, rfl⟩
    go_wp2_with fail
    go_ret3
    exact ⟨_, rfl, RdT.nil _, Below.refl _ _⟩
set_option maxHeartbeats 4000000 in
theorem rrun_any (v sv : Value) (l : List Fr) (hz : Szs l) (ts : List Tr) (hto : ∀ t, t ∈ ts → TrOk t) (ht60 : ts.length ≤ 1000) (w : World) (h : RdT w v l) (hs : RdL trR w sv ts) :
    Calls Tryd.prog 30 #[v, sv] w (RuR w (runV l ts)) := by
  obtain ⟨e, n, hen⟩ : ∃ e n, chkL l = (e, n) := ⟨_, _, rfl⟩
  have HEN := Lib.hid hen
  have HR := Lib.hid h
  have HZ := Lib.hid hz
  clear h hz
  unfold RuR runV
  rw [hen]
  clear hen
  dsimp only
  by_cases h1 : e = 0
  · obtain rfl := h1
    rw [if_neg (by simp)]
    have hl := (chkL_zero (l := l) (by rw [HEN.out])).1
    obtain ⟨s0, m0, rfl⟩ := hs.form
    obtain ⟨M, hM⟩ : ∃ M, ts.length = M := ⟨_, rfl⟩
    rw [hM] at hs ht60 ⊢
    obtain ⟨r1, r2, r3, HV0⟩ : ∃ r1 r2 r3, Hid ((if (scanR l ts M).1 ≠ 0 then ([], scanR l ts M) else (runL l ts M, 0, 0)) = (r1, r2, r3)) := ⟨_, _, _, rfl⟩
    rw [HV0.out]
    dsimp only
    have HM := Lib.hid hM
    have HS := Lib.hid hs
    clear hs hM
    go_enter Tryd.func30, Tryd.ntmps30
    go_wp2_with fail
    refine (rcheck_is _ l HZ.out 0 n HEN.out _ HR.out).mono ?_
    rintro x w1 ⟨rfl, rfl⟩
    go_wp2_with fail
    refine (rown_any _ l (by omega) _ HR.out).mono ?_
    rintro x w1 ⟨a1, c1, rfl, hown, hb1⟩
    have HV := Lib.hid (RdT.of_owns hown)
    clear hown
    go_wp2_with fail
    go_loopw [9, 10] (fun u i wr => ∃ k : Nat, k ≤ M ∧ i = .int .i64 k ∧ RdT wr u (runL l ts k) ∧ Below w.heap.size w wr ∧ ∀ j, j < k → runE l ts j = 0) (fun _ i _ => M - (intOf i).toNat)
    case atStart => exact ⟨0, Nat.zero_le _, rfl, HV.out, hb1, fun j hj => by omega⟩
    case round =>
      obtain ⟨k, hk, rfl, hv, hB, hz0⟩ := hrel
      have HZ0 := Lib.hid hz0
      have HV2 := Lib.hid hv
      clear hv hz0
      by_cases hlt : k < M
      · have d2 : decide ((k : Int) < (M : Int)) = true := yb (by omega)
        obtain ⟨b, off, rfl, hcap, hc⟩ := trs_at (HS.out.keep hB) HM.out k hlt
        obtain ⟨t, HT⟩ : ∃ t, Hid (ts.getD k t0 = t) := ⟨_, rfl⟩
        rw [HT.out] at hc
        obtain ⟨q0, q1, q2, q3⟩ := hc
        have hok := trok_get hto k
        rw [HT.out] at hok
        obtain ⟨ib0, ib1, ib2, ib3⟩ := hok
        have i1 : (0 : Int) ≤ (k : Int) := by omega
        have i2 : (k : Int) < (M : Int) := by omega
        have hwk : IntKind.i64.wrap (k : Int) = (k : Int) := IntWalk.i64_in _ (by omega)
        go_wp2_with fail
        refine (rapply_any _ (runL l ts k) (runL_szs HZ.out ts k) t ib0 ib1 _ (HV2.out.keep (by repeat (first | assumption | exact Below.refl _ _ | apply Below.al | apply below_drewN | apply Below.drew | refine Below.next ?_ (by assumption))))).mono ?_
        rintro x w2 ⟨v2, rfl, hr2, hb2⟩
        have hB2 : Below w.heap.size w w2 := Below.next (by repeat (first | assumption | exact Below.refl _ _ | apply Below.al | apply below_drewN | apply Below.drew | refine Below.next ?_ (by assumption))) hb2
        obtain ⟨er, HER⟩ : ∃ er, Hid (apE (runL l ts k) t = er) := ⟨_, rfl⟩
        rw [HER.out] at hr2 ⊢
        by_cases hz1 : er = 0
        · subst hz1
          rw [if_pos rfl] at hr2
          have HR2 := Lib.hid hr2
          clear hr2
          go_wp2_with fail
          go_roundw
          case rel => exact ⟨k + 1, by omega, by go_num, by show RdT _ _ (apL (runL l ts k) (ts.getD k t0)); rw [HT.out]; exact HR2.out, hB2, fun j hj => by
            by_cases hjk : j = k
            · subst hjk; unfold runE; rw [HT.out]; exact HER.out
            · exact HZ0.out j (by omega)⟩
          case measure => simp [intOf]; omega
        · have hf := scanR_fail HZ0.out (by unfold runE; rw [HT.out, HER.out]; exact hz1) M hlt
          unfold runE at hf
          rw [HT.out, HER.out] at hf
          have hv0 := HV0.out
          rw [hf] at hv0
          dsimp only at hv0
          rw [if_pos hz1] at hv0
          simp only [Prod.mk.injEq] at hv0
          obtain ⟨rfl, rfl, rfl⟩ := hv0
          have d3 : (er != 0) = true := by simpa using hz1
          clear hf hz1 hr2
          go_wp2_with fail
          go_ret3
          exact ⟨_, rfl, RdT.nil _, hB2⟩
      · obtain rfl : k = M := by omega
        have d2 : decide ((k : Int) < (k : Int)) = false := nb (by omega)
        have hv0 := HV0.out
        rw [scanR_zero k HZ0.out] at hv0
        dsimp only at hv0
        rw [if_neg (by decide)] at hv0
        simp only [Prod.mk.injEq] at hv0
        obtain ⟨rfl, rfl, rfl⟩ := hv0
        go_wp2_with fail
        go_ret3
        exact ⟨_, rfl, HV2.out, hB⟩
  · rw [if_pos h1]
    have d1 : (e != 0) = true := by simpa using h1
    clear h1
    go_enter Tryd.func30, Tryd.ntmps30
    go_wp2_with fail
    refine (rcheck_is _ l HZ.out e n HEN.out _ HR.out).mono ?_
    rintro x w1 ⟨rfl, rfl⟩
    go_wp2_with fail
    go_ret3
    exact ⟨_, rfl, RdT.nil _, Below.refl _ _⟩
end Go.Proofs.YtimkeafpefkheaaDoor
