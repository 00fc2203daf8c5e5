/- Forecast, plainly: bounds of the levels of what made makes. Forecast, plainly: the peak, and how it grows. Forecast: the program's first and Peak$1: the greatest level. -/
import Derived.Test.YtnbjdgjopdeolaaPQ
namespace Go.Proofs.Ytnbjdgjopdeolaa
open Go.RowKit
set_option linter.unusedSimpArgs false
set_option linter.unusedVariables false

theorem addL_mem {l : List Lv} {x y : Lv} (h : y ∈ addL l x) : y ∈ l ∨ y = x := by
  unfold addL at h
  split at h
  · exact .inl h
  · simpa using h
theorem outL_mem (c : Cf) (cs : List Ct) (st : Int) (xs : List Int) (now : Int) : ∀ (m : Nat) (y : Lv), y ∈ outL (lvs c cs st xs now m) → ∃ k, k < m ∧ y = lvl c cs st xs now k
  | 0, y, h => by simp [lvs, outL] at h
  | m + 1, y, h => by
    rw [show outL (lvs c cs st xs now (m + 1)) = addL (outL (lvs c cs st xs now m)) (lvl c cs st xs now m) from outL_snoc _ _] at h
    rcases addL_mem h with h | h
    · obtain ⟨k, hk, he⟩ := outL_mem c cs st xs now m y h
      exact ⟨k, by omega, he⟩
    · exact ⟨m, by omega, h⟩
theorem lvl_bd {c : Cf} {cs : List Ct} {st : Int} {xs : List Int} {now : Int} (hz : ∀ j, j < cs.length → stepE cs j = 0) (hw : c.wd ≤ 1099511627776) (h0 : 0 ≤ st ∧ st ≤ 1099511627776) (hr : Rb xs) (m : Nat) :
    (lvl c cs st xs now m).tk = now + m ∧ (0 ≤ (lvl c cs st xs now m).st ∧ (lvl c cs st xs now m).st ≤ 1099511627776 + 17592186044416 * m) ∧ 0 ≤ (lvl c cs st xs now m).rv ∧ (lvl c cs st xs now m).rv ≤ 17592186044416 := by
  obtain ⟨h1, h2, h3⟩ := stF_b (q := 0) hz hw h0 hr (now := now) m
  have n1 := (nxK_rb hz (nd := c.nd) (t := now + m) hw h1 _ (Nat.le_refl _)).sum
  exact ⟨rfl, ⟨h2, h3⟩, n1⟩
/-- bounds of a level, for a time of at most 1,000 ticks -/
def Lb (x : Lv) : Prop := (0 ≤ x.st ∧ x.st ≤ 20000000000000000) ∧ 0 ≤ x.rv ∧ x.rv ≤ 20000000000000000
theorem lvO_bd {c : Cf} {cs : List Ct} {st : Int} {xs : List Int} {now : Int} (hz : ∀ j, j < cs.length → stepE cs j = 0) (hw : c.wd ≤ 1099511627776) (h0 : 0 ≤ st ∧ st ≤ 1099511627776) (hr : Rb xs) {M : Nat} (hM : M ≤ 1000) {i : Nat} (hi : i < (lvO c cs st xs now M).length) :
    Lb ((lvO c cs st xs now M).getD i lv0) := by
  have hm : (lvO c cs st xs now M).getD i lv0 ∈ outL (lvs c cs st xs now M) := by
    rw [List.getD_eq_getElem?_getD, List.getElem?_eq_getElem hi]
    exact List.getElem_mem hi
  obtain ⟨k, hk, he⟩ := outL_mem c cs st xs now M _ hm
  rw [he]
  obtain ⟨_, ⟨h1, h2⟩, h3, h4⟩ := lvl_bd (now := now) hz hw h0 hr k
  exact ⟨⟨h1, by omega⟩, h3, by omega⟩
theorem rateS_bd {cs : List Ct} (h : ∀ k, k < cs.length → okC (cs.getD k c0)) : ∀ k, k ≤ cs.length → 0 ≤ rateS cs k ∧ rateS cs k ≤ 1048576 * k
  | 0, _ => ⟨Int.le_refl _, by simp [rateS]⟩
  | k + 1, hk => by
    have ih := rateS_bd h k (by omega)
    have h1 := (h k (by omega)).2.2.2.2.2.2
    unfold rateS
    omega
theorem step_of_planChk {cs : List Ct} (h : planChk cs = (0, 0)) : ∀ j, j < cs.length → stepE cs j = 0 := (ok_of_planChk h).2
theorem rb_of {xs : List Int} (hl : xs.length = 16) (hx : Nn xs) (hsum : xs.sum ≤ 276) : Rb xs := by
  refine ⟨hl, fun i hi => ?_⟩
  have hn := hx.get i (by rw [hl]; exact hi)
  have hs := sum_take_succ xs i (by rw [hl]; exact hi)
  have hle := sum_take_le hx (i + 1)
  have hnn := sum_nn (hx.take i)
  omega
/-- the levels that made's numbers give, as ForecastSteps asks -/
structure StL (c : Cf) (R un : Int) (l : List Lv) : Prop where
  pos : 0 < l.length
  len : l.length ≤ 1000
  fst : (l.getD 0 lv0).tk = 0
  fol : ∀ i, 1 ≤ i → i < l.length → follows c R un (l.getD (i - 1) lv0) (l.getD i lv0)
  bd : ∀ i, i < l.length → Lb (l.getD i lv0)
theorem lvO_stl {c : Cf} {cs : List Ct} {st : Int} {xs : List Int} {un : Int} (hp : planChk cs = (0, 0)) (hw0 : 0 ≤ c.wd) (hw : c.wd ≤ 1099511627776) (h0 : 0 ≤ st ∧ st ≤ 1099511627776) (hr : Rb xs) (h1 : 1 ≤ un) (h2 : un ≤ 1000) :
    StL c (rateS cs cs.length) un (lvO c cs st xs 0 (un - 0).toNat) := by
  have hz := step_of_planChk hp
  obtain ⟨M, hM⟩ : ∃ M : Nat, (un - 0).toNat = M + 1 := ⟨(un - 0).toNat - 1, by omega⟩
  rw [hM]
  obtain ⟨a, b⟩ := outL_steps (now := 0) (un := un) hz hw hw0 h0 hr (M + 1) (by omega)
  have hl := lvO_len c cs st xs 0 (M + 1)
  exact ⟨(outL_last c cs st xs 0 M).1, by omega, a (by omega), b, fun i hi => lvO_bd hz hw h0 hr (by omega) hi⟩
end Go.Proofs.Ytnbjdgjopdeolaa
namespace Go.Proofs.Ytnbjdgjopdeolaa
open Go.RowKit
set_option linter.unusedSimpArgs false
set_option linter.unusedVariables false

/-- the greatest of the first k + 1 levels, of several the first one -/
def pkN (l : List Lv) : Nat → Lv
  | 0 => l.getD 0 lv0
  | k + 1 => if (pkN l k).all < (l.getD (k + 1) lv0).all then l.getD (k + 1) lv0 else pkN l k
def pk (l : List Lv) : Lv := pkN l (l.length - 1)
theorem pkN_at (l : List Lv) : ∀ k, ∃ i, i ≤ k ∧ pkN l k = l.getD i lv0
  | 0 => ⟨0, Nat.le_refl _, rfl⟩
  | k + 1 => by
    obtain ⟨i, hi, he⟩ := pkN_at l k
    unfold pkN
    split
    · exact ⟨k + 1, Nat.le_refl _, rfl⟩
    · exact ⟨i, by omega, he⟩
theorem pkN_ge (l : List Lv) : ∀ k i, i ≤ k → (l.getD i lv0).all ≤ (pkN l k).all
  | 0, i, h => by obtain rfl : i = 0 := by omega
                  exact Int.le_refl _
  | k + 1, i, h => by
    unfold pkN
    by_cases hi : i = k + 1
    · subst hi; split <;> omega
    · have := pkN_ge l k i (by omega)
      split <;> omega
theorem pk_at {l : List Lv} (h : 0 < l.length) : ∃ i, i < l.length ∧ pk l = l.getD i lv0 := by
  obtain ⟨i, hi, he⟩ := pkN_at l (l.length - 1)
  exact ⟨i, by omega, he⟩
theorem pk_ge {l : List Lv} {i : Nat} (h : i < l.length) : (l.getD i lv0).all ≤ (pk l).all := pkN_ge l _ i (by omega)

/-- each tick's level stands among the levels, but for its tick -/
theorem outL_has (c : Cf) (cs : List Ct) (st : Int) (xs : List Int) (now : Int) : ∀ (m k : Nat), k < m → ∃ i, i < (outL (lvs c cs st xs now m)).length ∧ ((outL (lvs c cs st xs now m)).getD i lv0).all = (lvl c cs st xs now k).all
  | 0, k, h => by omega
  | m + 1, k, h => by
    by_cases hk : k = m
    · subst hk
      obtain ⟨k1, k2, k3, _⟩ := outL_last c cs st xs now k
      exact ⟨(outL (lvs c cs st xs now (k + 1))).length - 1, by omega, by unfold Lv.all; rw [k2, k3]⟩
    · obtain ⟨i, hi, he⟩ := outL_has c cs st xs now m k (by omega)
      rw [show outL (lvs c cs st xs now (m + 1)) = addL (outL (lvs c cs st xs now m)) (lvl c cs st xs now m) from outL_snoc _ _]
      generalize outL (lvs c cs st xs now m) = l at *
      generalize lvl c cs st xs now m = x at *
      unfold addL
      split
      · exact ⟨i, hi, he⟩
      · refine ⟨i, by simp; omega, ?_⟩
        rw [List.getD_eq_getElem?_getD, List.getElem?_append_left hi, ← List.getD_eq_getElem?_getD]
        exact he
theorem lvO_pos (c : Cf) (cs : List Ct) (st : Int) (xs : List Int) (now : Int) {M : Nat} (h : 0 < M) : 0 < (lvO c cs st xs now M).length := by
  obtain ⟨m, rfl⟩ : ∃ m, M = m + 1 := ⟨M - 1, by omega⟩
  exact (outL_last c cs st xs now m).1
/-- two forecasts: where each level of the first is at most one of the second, so is the peak -/
theorem pk_mono {c c' : Cf} {cs cs' : List Ct} {st st' : Int} {xs xs' : List Int} {now now' : Int} {M M' : Nat} (hM : 0 < M) (h : ∀ k, k < M → ∃ j, j < M' ∧ (lvl c cs st xs now k).all ≤ (lvl c' cs' st' xs' now' j).all) :
    (pk (lvO c cs st xs now M)).all ≤ (pk (lvO c' cs' st' xs' now' M')).all := by
  obtain ⟨i, hi, he⟩ := pk_at (lvO_pos c cs st xs now hM)
  have hm : (lvO c cs st xs now M).getD i lv0 ∈ outL (lvs c cs st xs now M) := by
    rw [List.getD_eq_getElem?_getD, List.getElem?_eq_getElem hi]
    exact List.getElem_mem hi
  obtain ⟨k, hk, hke⟩ := outL_mem c cs st xs now M _ hm
  obtain ⟨j, hj, hle⟩ := h k hk
  obtain ⟨i', hi', he'⟩ := outL_has c' cs' st' xs' now' M' j hj
  have := pk_ge (l := lvO c' cs' st' xs' now' M') hi'
  rw [he, hke]
  unfold lvO at *
  omega
theorem pk_longer (c : Cf) (cs : List Ct) (st : Int) (xs : List Int) (now : Int) {M M' : Nat} (hM : 0 < M) (h : M ≤ M') : (pk (lvO c cs st xs now M)).all ≤ (pk (lvO c cs st xs now M')).all :=
  pk_mono hM fun k hk => ⟨k, by omega, Int.le_refl _⟩

theorem mvK_shift (cs : List Ct) (nd t st st' : Int) (rs : List Int) : ∀ k, mvK cs nd t st' rs k = ((mvK cs nd t st rs k).1 + (st' - st), (mvK cs nd t st rs k).2)
  | 0 => by simp [mvK]; omega
  | k + 1 => by
    have ih := mvK_shift cs nd t st st' rs k
    unfold mvK
    rw [ih]
    split
    · refine Prod.ext ?_ rfl
      dsimp only; omega
    · rfl
theorem stF_mono (c : Cf) (cs : List Ct) {st st' : Int} (xs : List Int) (now : Int) (h : st' ≤ st) : ∀ m, (stF c cs st' xs now m).2 = (stF c cs st xs now m).2 ∧ (stF c cs st' xs now m).1 ≤ (stF c cs st xs now m).1
  | 0 => ⟨rfl, h⟩
  | m + 1 => by
    obtain ⟨h1, h2⟩ := stF_mono c cs xs now h m
    unfold stF
    dsimp only
    rw [h1, mvK_shift cs c.nd (now + m) (stF c cs st xs now m).1 (stF c cs st' xs now m).1]
    refine ⟨rfl, ?_⟩
    dsimp only
    omega
theorem pk_less (c : Cf) (cs : List Ct) {st st' : Int} (xs : List Int) (now : Int) {M : Nat} (hM : 0 < M) (h : st' ≤ st) : (pk (lvO c cs st' xs now M)).all ≤ (pk (lvO c cs st xs now M)).all :=
  pk_mono hM fun k hk => ⟨k, hk, by
    obtain ⟨h1, h2⟩ := stF_mono c cs xs now h k
    unfold Lv.all lvl
    dsimp only
    rw [h1]
    omega⟩

/-- what Peak, Room and Fits answer -/
def pkV (c : Cf) (q st : Int) (xs : List Int) (cs : List Ct) (now un : Int) : Lv := if fck c q st xs cs now un ≠ 0 then lv0 else pk (lvV c q st xs cs now un)
def rmV (c : Cf) (q st : Int) (xs : List Int) (cs : List Ct) (now un : Int) : Int := if fck c q st xs cs now un ≠ 0 then 0 else q - min q ((pkV c q st xs cs now un).st + (pkV c q st xs cs now un).rv)
/-- nothing is at fault: the levels are some, and bounded -/
theorem lvV_ok {c : Cf} {q st : Int} {xs : List Int} {cs : List Ct} {now un : Int} (i : Inp q st xs) (h : fck c q st xs cs now un = 0) :
    lvV c q st xs cs now un = lvO c cs st xs now (un - now).toNat ∧ 0 < (lvV c q st xs cs now un).length ∧ (lvV c q st xs cs now un).length ≤ 1000 ∧ ∀ k, k < (lvV c q st xs cs now un).length → Lb ((lvV c q st xs cs now un).getD k lv0) := by
  obtain ⟨hc1, hc2, hpl, hn1, hn2, hn3, hn4⟩ := fck_zero h
  obtain ⟨hrb, hs0, hs1⟩ := chk_zero hc2 i
  have he : lvV c q st xs cs now un = lvO c cs st xs now (un - now).toNat := if_neg (by rw [h]; simp)
  rw [he]
  have hM : (un - now).toNat ≤ 1000 := by omega
  have hl := lvO_len c cs st xs now (un - now).toNat
  exact ⟨rfl, lvO_pos c cs st xs now (by omega), by omega, fun k hk => lvO_bd (step_of_planChk hpl) hc1.2.2 ⟨hs0, hs1⟩ hrb hM hk⟩
theorem pkV_bd {c : Cf} {q st : Int} {xs : List Int} {cs : List Ct} {now un : Int} (i : Inp q st xs) : Lb (pkV c q st xs cs now un) := by
  unfold pkV
  split
  · show Lb ⟨0, 0, 0⟩
    unfold Lb
    dsimp only
    omega
  · rename_i h
    obtain ⟨_, h1, _, h2⟩ := lvV_ok i (show fck c q st xs cs now un = 0 by simpa using h)
    obtain ⟨k, hk, he⟩ := pk_at h1
    rw [he]; exact h2 k hk
end Go.Proofs.Ytnbjdgjopdeolaa
namespace Go.Proofs.Ytnbjdgjopdeolaa
open Go.RowKit Go.Shelf
set_option linter.unusedSimpArgs false
set_option linter.unusedVariables false
set_option maxRecDepth 100000

abbrev Lv.v (x : Lv) : Value := .agg #[.int .i64 x.tk, .int .u64 x.st, .int .u64 x.rv]
set_option maxHeartbeats 1000000 in
theorem better_any (x y : Lv) (hx : Lb x) (hy : Lb y) (w : World) :
    Calls Try.prog 92 #[x.v, y.v] w fun e w' => e = .returned (.bool (decide (y.all < x.all))) ∧ Below w.heap.size w w' := by
  obtain ⟨⟨h1, h2⟩, h3, h4⟩ := hx
  obtain ⟨⟨k1, k2⟩, k3, k4⟩ := hy
  have w1 : IntKind.u64.wrap (x.st + x.rv) = x.st + x.rv := IntWalk.u64_in _ (by omega)
  have w2 : IntKind.u64.wrap (y.st + y.rv) = y.st + y.rv := IntWalk.u64_in _ (by omega)
  go_enter Try.func92, Try.ntmps92
  go_wp2_with fail
  go_ret
  exact ⟨by unfold Lv.all; rfl, (by repeat (first | assumption | exact Below.refl _ _ | apply Below.al | apply below_drewN | apply Below.drew | refine Below.next ?_ (by assumption)))⟩
theorem better_is (b : Bool) (x y : Lv) (hx : Lb x) (hy : Lb y) (hb : decide (y.all < x.all) = b) (w : World) :
    Calls Try.prog 92 #[x.v, y.v] w fun e w' => e = .returned (.bool b) ∧ Below w.heap.size w w' := by
  rw [← hb]; exact better_any x y hx hy w
theorem BoxN.set3 {w : World} {b : Nat} {T : TypeId} {x y z : Value} (h : BoxN w b T #[x, y, z]) (u v t : Value) : BoxN (((w.setCell ⟨b, 0, none⟩ u).setCell ⟨b, 1, none⟩ v).setCell ⟨b, 2, none⟩ t) b T #[u, v, t] := by
  unfold BoxN at *
  simp [World.setCell, Array.getElem?_modify, h]
set_option maxHeartbeats 2000000 in
theorem firstL_any (v : Value) (ls : List Lv) (h0 : 0 < ls.length) (h1 : ls.length ≤ 1000) (hlb : ∀ k, k < ls.length → Lb (ls.getD k lv0)) (w : World) (h : RdL w v ls) :
    Calls Try.prog 91 #[v, .func (.func 92) #[] #[]] w fun e w' => e = .returned (pk ls).v ∧ Below w.heap.size w w' := by
  obtain ⟨a0, cap, rfl⟩ := h.form
  obtain ⟨n, hN⟩ : ∃ n, ls.length = n + 1 := ⟨ls.length - 1, by omega⟩
  rw [hN] at h h0 h1 ⊢
  obtain ⟨b, off, rfl, hcap, hx0⟩ := RdL.at h hN 0 h0
  have HLB : Hid (∀ k, k < n + 1 → Lb (ls.getD k lv0)) := by unfold Hid; rw [← hN]; exact hlb
  have HR := Lib.hid h
  have HN := Lib.hid hN
  have HPK : Hid (pk ls = pkN ls n) := by unfold Hid pk; rw [hN]; rfl
  obtain ⟨x0, HX0⟩ : ∃ x, Hid (ls.getD 0 lv0 = x) := ⟨_, rfl⟩
  rw [HX0.out, Nat.zero_mul, Nat.add_zero] at hx0
  obtain ⟨c0, c1, c2⟩ := hx0
  have i0 : (0 : Int) < ((n + 1 : Nat) : Int) := by omega
  have i1 : (1 : Int) ≤ ((n + 1 : Nat) : Int) := by omega
  clear hN h hlb
  obtain ⟨SA, SC, hsl, hsl2⟩ : ∃ SA SC, (∀ w, (Instr.slice 45 (.slice (some ⟨b, off, none⟩) (n + 1) cap) (some (.int .i64 1)) none none).run Try.prog w = .ok (.slice SA n SC) w) ∧ (0 < n → SA = some ⟨b, off + 3, none⟩ ∧ n ≤ SC) := by
    have hs : ∀ w : World, (sizeOf (Try.prog.elem 45)).run Try.prog w = .ok 3 w := fun w => by kernel_rfl
    have hun : Try.prog.underlying 45 = some (.slice (Try.prog.elem 45)) := by kernel_rfl
    by_cases hc : cap = 1
    · refine ⟨some ⟨b, off, none⟩, cap - 1, fun w => ?_, fun h => by omega⟩
      rw [run_slice_l _ _ _ _ _ hun _ _ (by omega) (by omega), hs]
      simp [sliced, hc, go_sem]
    · refine ⟨some ⟨b, off + 3, none⟩, cap - 1, fun w => ?_, fun h => ⟨rfl, by omega⟩⟩
      rw [run_slice_l _ _ _ _ _ hun _ _ (by omega) (by omega), hs]
      simp [sliced, hc, go_sem, Addr.add]
  have HSL := Lib.hid hsl2
  clear hsl2
  have HC0 := Lib.hid c0
  have HC1 := Lib.hid c1
  have HC2 := Lib.hid c2
  clear c0 c1 c2
  go_enter Try.func91, Try.ntmps91
  go_upto_region 1 with fail
  obtain ⟨A, hA⟩ : ∃ A, A = w.heap.size := ⟨_, rfl⟩
  obtain ⟨V1, hV1⟩ : ∃ V : World, V = w.alloc (.cells #[.int .i64 0, .int .u64 0, .int .u64 0] 57) := ⟨_, rfl⟩
  rw [← hV1, ← hA]
  have b0 : BoxN V1 A 57 #[.int .i64 0, .int .u64 0, .int .u64 0] := by rw [hV1, hA]; exact BoxN.new w _ _
  have hB : Below w.heap.size w V1 := by rw [hV1]; exact (by repeat (first | assumption | exact Below.refl _ _ | apply Below.al | apply below_drewN | apply Below.drew | refine Below.next ?_ (by assumption)))
  have s1 : V1.heap.size = A + 1 := by rw [hV1, hA]; simp
  have hAw : w.heap.size ≤ A := by omega
  clear hV1 hA
  have c0 := cell_later hB HC0.out
  have c1 := cell_later hB HC1.out
  have c2 := cell_later hB HC2.out
  have HS1 := Lib.hid s1
  have HB0 := Lib.hid b0
  have HBV := Lib.hid hB
  clear s1 b0 hB
  go_upto_region 2 with fail
  obtain ⟨V2, hV2⟩ : ∃ V : World, V = V1.alloc (.cells #[.int .i64 x0.tk, .int .u64 x0.st, .int .u64 x0.rv] 57) := ⟨_, rfl⟩
  have b1 : BoxN V2 (A + 1) 57 #[.int .i64 x0.tk, .int .u64 x0.st, .int .u64 x0.rv] := by rw [hV2, ← HS1.out]; exact BoxN.new V1 _ _
  have b0 : BoxN V2 A 57 #[.int .i64 0, .int .u64 0, .int .u64 0] := by rw [hV2]; exact HB0.out.alloc _
  have hB : Below w.heap.size w V2 := by rw [hV2]; exact Below.al HBV.out _
  rw [← hV2, HS1.out]
  have HB0 := Lib.hid b0
  have HB1 := Lib.hid b1
  have HBV := Lib.hid hB
  clear hV2 HS1 b0 b1 hB c0 c1 c2
  go_wp2_with fail
  go_loopw [14] (fun i wr => ∃ k : Nat, k ≤ n ∧ i = .int .i64 k ∧ BoxN wr A 57 #[.int .i64 0, .int .u64 0, .int .u64 0] ∧ BoxN wr (A + 1) 57 #[.int .i64 (pkN ls k).tk, .int .u64 (pkN ls k).st, .int .u64 (pkN ls k).rv] ∧ Below w.heap.size w wr) (fun i _ => n - (intOf i).toNat)
  case atStart => exact ⟨0, Nat.zero_le _, rfl, HB0.out, by rw [show pkN ls 0 = x0 from HX0.out]; exact HB1.out, HBV.out⟩
  case round =>
    clear HB0 HB1 HBV
    obtain ⟨k, hk, rfl, b0, b1, hB⟩ := hrel
    have HB0 := Lib.hid b0
    have HB1 := Lib.hid b1
    by_cases hlt : k < n
    · have d1 : decide ((k : Int) < (n : Int)) = true := yb (by omega)
      obtain ⟨rfl, hsc⟩ := HSL.out (by omega)
      obtain ⟨b', off', he, _, hx⟩ := RdL.at HR.out HN.out (k + 1) (by omega)
      simp only [Option.some.injEq, Addr.mk.injEq, and_true] at he
      obtain ⟨rfl, rfl⟩ := he
      have hx := hx.keep hB
      rw [show off + (k + 1) * 3 = off + 3 + k * 3 by omega] at hx
      obtain ⟨c0, c1, c2⟩ := hx
      have hbx := HLB.out (k + 1) (by omega)
      have hbp : Lb (pkN ls k) := by
        obtain ⟨i, hi, he⟩ := pkN_at ls k
        rw [he]; exact HLB.out i (by omega)
      obtain ⟨x, hx⟩ : ∃ x, ls.getD (k + 1) lv0 = x := ⟨_, rfl⟩
      obtain ⟨p, hp⟩ : ∃ x, pkN ls k = x := ⟨_, rfl⟩
      have HPS : Hid (pkN ls (k + 1) = if p.all < x.all then x else p) := by
        unfold Hid
        show (if (pkN ls k).all < (ls.getD (k + 1) lv0).all then _ else _) = _
        rw [hp, hx]
      rw [hx] at c0 c1 c2 hbx
      rw [hp] at hbp HB1 b1
      clear hx hp
      have p0 : wr.cell? ⟨A + 1, 0, none⟩ = some (.int .i64 p.tk) := b1.cell 0
      have p1 : wr.cell? ⟨A + 1, 1, none⟩ = some (.int .u64 p.st) := b1.cell 1
      have p2 : wr.cell? ⟨A + 1, 2, none⟩ = some (.int .u64 p.rv) := b1.cell 2
      have g0 : wr.frozen? ⟨A + 1, 0, none⟩ = false := b1.frozen 0
      have g1 : wr.frozen? ⟨A + 1, 1, none⟩ = false := b1.frozen 1
      have g2 : wr.frozen? ⟨A + 1, 2, none⟩ = false := b1.frozen 2
      have hz1 := b1.lt
      clear b0 b1
      have j1 : (0 : Int) ≤ (k : Int) := by omega
      have hwk : IntKind.i64.wrap (k : Int) = (k : Int) := IntWalk.i64_in _ (by omega)
      go_upto_region 5 with fail
      obtain ⟨W1, hW1⟩ : ∃ W : World, W = wr.alloc (.cells #[.int .i64 x.tk, .int .u64 x.st, .int .u64 x.rv] 57) := ⟨_, rfl⟩
      have hba : Below wr.heap.size wr W1 := by rw [hW1]; exact Below.al (Below.refl _ _) _
      have bx : BoxN W1 wr.heap.size 57 #[.int .i64 x.tk, .int .u64 x.st, .int .u64 x.rv] := by rw [hW1]; exact BoxN.new wr _ _
      obtain ⟨X, hX⟩ : ∃ X, X = wr.heap.size := ⟨_, rfl⟩
      rw [← hX] at bx
      have hXA : A + 1 < X := by omega
      rw [← hW1, ← hX]
      have b0 := HB0.out.below hba
      have b1 := HB1.out.below hba
      have hB1 := Below.next hB hba
      clear hW1 hX hba c0 c1 c2 p0 p1 p2 g0 g1 g2 hz1 hB
      have p0 : W1.cell? ⟨A + 1, 0, none⟩ = some (.int .i64 p.tk) := b1.cell 0
      have p1 : W1.cell? ⟨A + 1, 1, none⟩ = some (.int .u64 p.st) := b1.cell 1
      have p2 : W1.cell? ⟨A + 1, 2, none⟩ = some (.int .u64 p.rv) := b1.cell 2
      have x0' : W1.cell? ⟨X, 0, none⟩ = some (.int .i64 x.tk) := bx.cell 0
      have x1' : W1.cell? ⟨X, 1, none⟩ = some (.int .u64 x.st) := bx.cell 1
      have x2' : W1.cell? ⟨X, 2, none⟩ = some (.int .u64 x.rv) := bx.cell 2
      have HB0 := Lib.hid b0
      have HB1 := Lib.hid b1
      have HBX := Lib.hid bx
      clear b0 b1 bx
      go_wp2_with fail
      clear p0 p1 p2 x0' x1' x2'
      by_cases hc : p.all < x.all
      · refine (better_is true x p hbx hbp (yb hc) _).mono ?_
        rintro e w2 ⟨rfl, hb⟩
        have b0 := HB0.out.below hb
        have b1 := HB1.out.below hb
        have bx := HBX.out.below hb
        have hB2 := Below.next hB1 hb
        have HPS2 : Hid (pkN ls (k + 1) = x) := by unfold Hid; rw [HPS.out, if_pos hc]
        have p0 : w2.cell? ⟨A + 1, 0, none⟩ = some (.int .i64 p.tk) := b1.cell 0
        have p1 : w2.cell? ⟨A + 1, 1, none⟩ = some (.int .u64 p.st) := b1.cell 1
        have p2 : w2.cell? ⟨A + 1, 2, none⟩ = some (.int .u64 p.rv) := b1.cell 2
        have g0 : w2.frozen? ⟨A + 1, 0, none⟩ = false := b1.frozen 0
        have g1 : w2.frozen? ⟨A + 1, 1, none⟩ = false := b1.frozen 1
        have g2 : w2.frozen? ⟨A + 1, 2, none⟩ = false := b1.frozen 2
        have x0' : w2.cell? ⟨X, 0, none⟩ = some (.int .i64 x.tk) := bx.cell 0
        have x1' : w2.cell? ⟨X, 1, none⟩ = some (.int .u64 x.st) := bx.cell 1
        have x2' : w2.cell? ⟨X, 2, none⟩ = some (.int .u64 x.rv) := bx.cell 2
        obtain ⟨W3, hW3⟩ : ∃ W : World, W = ((w2.setCell ⟨A + 1, 0, none⟩ (.int .i64 x.tk)).setCell ⟨A + 1, 1, none⟩ (.int .u64 x.st)).setCell ⟨A + 1, 2, none⟩ (.int .u64 x.rv) := ⟨_, rfl⟩
        have n1 : BoxN W3 (A + 1) 57 #[.int .i64 x.tk, .int .u64 x.st, .int .u64 x.rv] := by rw [hW3]; exact b1.set3 _ _ _
        have n0 : BoxN W3 A 57 #[.int .i64 0, .int .u64 0, .int .u64 0] := by
          rw [hW3]
          exact ((b0.setO (by show A ≠ A + 1; omega) _).setO (by show A ≠ A + 1; omega) _).setO (by show A ≠ A + 1; omega) _
        have hB3 : Below w.heap.size w W3 := by
          rw [hW3]
          exact ((hB2.setCell (by show w.heap.size ≤ A + 1; omega) _).setCell (by show w.heap.size ≤ A + 1; omega) _).setCell (by show w.heap.size ≤ A + 1; omega) _
        have N0 := Lib.hid n0
        have N1 := Lib.hid n1
        clear b0 b1 bx hb n0 n1 hc
        go_wp2_with fail
        rw [← hW3]
        clear hW3
        go_roundw
        case rel => exact ⟨k + 1, by omega, by go_num, N0.out, by rw [HPS2.out]; exact N1.out, hB3⟩
        case measure => simp [intOf]; omega
      · refine (better_is false x p hbx hbp (nb hc) _).mono ?_
        rintro e w2 ⟨rfl, hb⟩
        have N0 := Lib.hid (HB0.out.below hb)
        have N1 := Lib.hid (HB1.out.below hb)
        have hB2 := Below.next hB1 hb
        have HPS2 : Hid (pkN ls (k + 1) = p) := by unfold Hid; rw [HPS.out, if_neg hc]
        clear hb hc
        go_wp2_with fail
        go_roundw
        case rel => exact ⟨k + 1, by omega, by go_num, N0.out, by rw [HPS2.out]; exact N1.out, hB2⟩
        case measure => simp [intOf]; omega
    · obtain rfl : k = n := by omega
      have d1 : decide ((k : Int) < (k : Int)) = false := nb (by omega)
      obtain ⟨p, hp⟩ : ∃ x, pkN ls k = x := ⟨_, rfl⟩
      rw [hp] at HB1 b1
      have HPP : Hid (pk ls = p) := by unfold Hid; rw [HPK.out, hp]
      have p0 : wr.cell? ⟨A + 1, 0, none⟩ = some (.int .i64 p.tk) := b1.cell 0
      have p1 : wr.cell? ⟨A + 1, 1, none⟩ = some (.int .u64 p.st) := b1.cell 1
      have p2 : wr.cell? ⟨A + 1, 2, none⟩ = some (.int .u64 p.rv) := b1.cell 2
      have r0 : wr.cell? ⟨A, 0, none⟩ = some (.int .i64 0) := b0.cell 0
      have r1 : wr.cell? ⟨A, 1, none⟩ = some (.int .u64 0) := b0.cell 1
      have r2 : wr.cell? ⟨A, 2, none⟩ = some (.int .u64 0) := b0.cell 2
      have g0 : wr.frozen? ⟨A, 0, none⟩ = false := b0.frozen 0
      have g1 : wr.frozen? ⟨A, 1, none⟩ = false := b0.frozen 1
      have g2 : wr.frozen? ⟨A, 2, none⟩ = false := b0.frozen 2
      obtain ⟨W4, hW4⟩ : ∃ W : World, W = ((wr.setCell ⟨A, 0, none⟩ (.int .i64 p.tk)).setCell ⟨A, 1, none⟩ (.int .u64 p.st)).setCell ⟨A, 2, none⟩ (.int .u64 p.rv) := ⟨_, rfl⟩
      have n0 : BoxN W4 A 57 #[.int .i64 p.tk, .int .u64 p.st, .int .u64 p.rv] := by rw [hW4]; exact b0.set3 _ _ _
      have hB4 : Below w.heap.size w W4 := by
        rw [hW4]
        exact ((hB.setCell (by show w.heap.size ≤ A; omega) _).setCell (by show w.heap.size ≤ A; omega) _).setCell (by show w.heap.size ≤ A; omega) _
      have y0 := n0.cell 0
      have y1 := n0.cell 1
      have y2 := n0.cell 2
      clear b0 b1 hp n0
      go_wp2_with fail
      rw [← hW4]
      clear hW4
      exact bodyPost_ret (v := p.v) (by simp [results, Try.results91, go_sem, y0, y1, y2]) rfl ⟨by rw [HPP.out], hB4⟩
end Go.Proofs.Ytnbjdgjopdeolaa
