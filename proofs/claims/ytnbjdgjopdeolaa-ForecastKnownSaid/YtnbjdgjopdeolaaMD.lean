

/- Forecast: the kit's At, the law's made. -/
import Derived.Test.YtnbjdgjopdeolaaFQ
import Derived.Test.YtnbjdgjopdeolaaZ
import Derived.Test.YtnbjdgjopdeolaaPP
import Derived.Test.YtnbjdgjopdeolaaRQ
namespace Go.Proofs.Ytnbjdgjopdeolaa
open Go.RowKit Go.Shelf
set_option linter.unusedSimpArgs false
set_option linter.unusedVariables false
set_option maxRecDepth 100000

theorem at_any (v : Value) (nums : List Int) (i : Int) (h0 : 0 ≤ i) (hi : i ≤ 1000000) (w : World) (h : RdI .i64 w v nums) :
    Calls Try.prog 79 #[v, .int .i64 i] w fun e w' => e = .returned (.int .i64 (nums.getD i.toNat 0)) ∧ w = w' := by
  obtain ⟨k, rfl⟩ : ∃ k : Nat, i = k := ⟨i.toNat, by omega⟩
  rw [Int.toNat_natCast]
  have hm := h.cases.1
  unfold maxLen at hm
  obtain ⟨a0, n0, rfl⟩ := h.form
  obtain ⟨N, hN⟩ : ∃ N, nums.length = N := ⟨_, rfl⟩
  rw [hN] at h hm ⊢
  have HR := Lib.hid h
  have HN := Lib.hid hN
  have d1 : decide ((k : Int) < 0) = false := nb (by omega)
  clear h hN
  by_cases hlt : k < N
  · have d2 : decide ((N : Int) ≤ (k : Int)) = false := nb (by omega)
    have d2' : decide (N ≤ k) = false := nb (by omega)
    obtain ⟨b, off, rfl, hc, hcell⟩ := RdI.at HR.out HN.out k hlt
    have i1 : (0 : Int) ≤ (k : Int) := by omega
    have i2 : (k : Int) < (N : Int) := by omega
    have hwk : IntKind.i64.wrap (k : Int) = (k : Int) := IntWalk.i64_in _ (by omega)
    go_enter Try.func79, Try.ntmps79
    go_wp2
    go_ret
    exact ⟨rfl, rfl⟩
  · have d2 : decide ((N : Int) ≤ (k : Int)) = true := yb (by omega)
    have d2' : decide (N ≤ k) = true := yb (by omega)
    have hz : nums.getD k 0 = 0 := by
      rw [List.getD_eq_getElem?_getD, List.getElem?_eq_none (by rw [HN.out]; omega)]; rfl
    rw [hz]
    clear hz
    go_enter Try.func79, Try.ntmps79
    go_wp2
    go_ret
    exact ⟨rfl, rfl⟩
theorem getD_ib {nums : List Int} (hb : ∀ x ∈ nums, Ib x) (i : Nat) : Ib (nums.getD i 0) := by
  rcases Nat.lt_or_ge i nums.length with h | h
  · have := hb nums[i] (List.getElem_mem h)
    rw [List.getD_eq_getElem?_getD, List.getElem?_eq_getElem h]; exact this
  · rw [List.getD_eq_getElem?_getD, List.getElem?_eq_none h]; unfold Ib; simp

/-- what made makes -/
def mCf (ns : List Int) : Cf := ⟨1 + ns.getD 0 0 % 3, 500, 0, ns.getD 1 0 % 60, 0, 0, 0, 0, 0, 0, 0, 0, 0, 0, 0, 0⟩
def mSt (ns : List Int) : Int := ns.getD 2 0 % 200
def mXs (ns : List Int) : Nat → List Int
  | 0 => rz
  | k + 1 => (mXs ns k).set k (ns.getD (3 + k) 0 % 70)
theorem mXs_len (ns : List Int) : ∀ k, (mXs ns k).length = 16
  | 0 => rfl
  | k + 1 => by simp [mXs, mXs_len ns k]
def MD (w : World) (ns : List Int) (e : Ending) (w' : World) : Prop := ∃ a r pv, e = .returned (.tuple #[(mCf ns).v, .agg #[.int .u64 500, .int .u64 (mSt ns), .slice (some a) 16 r], pv]) ∧ RdI .u64 w' (.slice (some a) 16 r) (mXs ns 4) ∧ RdC w' pv (plK ns 12 ns.length) ∧ Below w.heap.size w w'
def M2 (w : World) (x0 x1 x2 : Int) (p : Value) (wx : World) : Prop := ∃ S Z, p = .pointer (some ⟨S, 0, none⟩) ∧ BoxN wx S 38 #[.int .u64 500, .int .u64 x2, .slice (some ⟨Z, 0, none⟩) 16 16] ∧ BoxN wx Z 32 (ic .u64 rz).toArray ∧
  BoxN wx w.heap.size 35 #[.int .i64 0, .int .u64 0, .int .u64 0, .int .u64 0, .int .u64 0, .int .i64 0, .int .i64 0, .int .i64 0, .int .i64 0, .int .i64 0, .int .i64 0, .int .i64 0, .int .i64 0, .int .i64 0, .int .i64 0, .int .i64 0] ∧ BoxN wx (w.heap.size + 1) 38 #[.int .u64 0, .int .u64 0, .slice none 0 0] ∧ BoxN wx (w.heap.size + 2) 35 #[.int .i64 (1 + x0), .int .u64 500, .int .u64 0, .int .u64 x1, .int .u64 0, .int .i64 0, .int .i64 0, .int .i64 0, .int .i64 0, .int .i64 0, .int .i64 0, .int .i64 0, .int .i64 0, .int .i64 0, .int .i64 0, .int .i64 0] ∧ Below w.heap.size w wx ∧ w.heap.size + 2 < S ∧ w.heap.size + 2 < Z ∧ S ≠ Z
theorem BoxN.setO {w : World} {b : Nat} {T : TypeId} {vs : Array Value} (h : BoxN w b T vs) {p : Addr} (hne : b ≠ p.block) (u : Value) : BoxN (w.setCell p u) b T vs := by
  unfold BoxN; rw [Below.heap_setCell w p u b hne]; exact h
theorem BoxN.setI {w : World} {b : Nat} {T : TypeId} {xs : List Int} {k : Nat} (h : BoxN w b T (ic .u64 xs).toArray) (x : Int) : BoxN (w.setCell ⟨b, k, none⟩ (.int .u64 x)) b T (ic .u64 (xs.set k x)).toArray := by
  unfold BoxN at *
  simp [World.setCell, Array.getElem?_modify, h, ic, List.map_set]
theorem ld_box {P : Program} {o : Oper} {a : Act} {w : World} {vs : Array Value} {T : TypeId} (ty : TypeId) (x : Operand) (ho : o.op = .load ty x) (b : Nat) (hx : a.eval x = .pointer (some ⟨b, 0, none⟩)) (h : BoxN w b T vs) {d : TypeDesc}
    (hu : P.underlying ty = some d) (hd : d.isRow = true) (hi : (P.info? ty).map (·.size) = some vs.size) : (execOp a.eval o).run P w = .ok (.value (.agg vs)) w := by
  have := ld_mid (P := P) (o := o) (a := a) (w := w) ty x ho b 0 hx vs.toList d (fun j u hj => by rw [Nat.zero_add, h.cell j]; simpa using hj) hu hd (by simpa using hi)
  simpa using this
theorem rdc_sets {w : World} {v : Value} {cs : List Ct} {A : Nat} {T : TypeId} {arr : Array Value} (h : RdC w v cs) (hok : ∀ k, k < cs.length → okC (cs.getD k c0)) (B : BoxN w A T arr) (hz : ∀ (i : Nat) (z : Int), arr[i]? = some (.int .i64 z) → z = 0) (us : List Value) : RdC (w.setCells A 0 us) v cs := by
  obtain ⟨h1, h0, h2⟩ := h
  refine ⟨h1, h0, ?_⟩
  rcases h2 with h2 | ⟨b, off, cap, hv, hc, hr⟩
  · exact .inl h2
  · by_cases hl : cs.length = 0
    · exact .inl ⟨hl, some ⟨b, off, none⟩, cap, by rw [hv, hl], fun h => by cases h⟩
    · refine .inr ⟨b, off, cap, hv, hc, fun j u hj => ?_⟩
      have hb : b ≠ A := by
        rintro rfl
        have hf := hr 0 (.int .i64 (cs.getD 0 c0).fr) (by have := ccs_get cs 0 0 (by omega) (by omega); simpa [Ct.cells] using this)
        rw [Nat.add_zero, B.cell off] at hf
        have := hz off _ hf
        have := (hok 0 (by omega)).1.1
        omega
      rw [World.cell?_setCells_out A us 0 w ⟨b, off + j, none⟩ (fun h => absurd h hb)]
      exact hr j u hj
theorem zcfg : ∀ (i : Nat) (z : Int), (#[.int .i64 0, .int .u64 0, .int .u64 0, .int .u64 0, .int .u64 0, .int .i64 0, .int .i64 0, .int .i64 0, .int .i64 0, .int .i64 0, .int .i64 0, .int .i64 0, .int .i64 0, .int .i64 0, .int .i64 0, .int .i64 0] : Array Value)[i]? = some (.int .i64 z) → z = 0 := by
  intro i z h
  match i, h with
  | 0, h | 1, h | 2, h | 3, h | 4, h | 5, h | 6, h | 7, h | 8, h | 9, h | 10, h | 11, h | 12, h | 13, h | 14, h | 15, h => simp at h <;> omega
  | i + 16, h => simp at h
theorem zspc : ∀ (i : Nat) (z : Int), (#[.int .u64 0, .int .u64 0, .slice none 0 0] : Array Value)[i]? = some (.int .i64 z) → z = 0 := by
  intro i z h
  match i, h with
  | 0, h | 1, h | 2, h => simp at h
  | i + 3, h => simp at h
set_option maxHeartbeats 2000000 in
theorem made26_any (v : Value) (ns : List Int) (hb : ∀ x ∈ ns, Ib x) (w : World) (h : RdI .i64 w v ns) : Calls Try.prog 36 #[v] w (MD w ns) := by
  have HB := Lib.hid hb
  have HR := Lib.hid h
  clear hb h
  obtain ⟨n0, HA0⟩ : ∃ a, Hid (ns.getD 0 0 = a) := ⟨_, rfl⟩
  obtain ⟨n1, HA1⟩ : ∃ a, Hid (ns.getD 1 0 = a) := ⟨_, rfl⟩
  obtain ⟨n2, HA2⟩ : ∃ a, Hid (ns.getD 2 0 = a) := ⟨_, rfl⟩
  have ib0 : Ib n0 := by have := getD_ib HB.out 0; rwa [HA0.out] at this
  have ib1 : Ib n1 := by have := getD_ib HB.out 1; rwa [HA1.out] at this
  have ib2 : Ib n2 := by have := getD_ib HB.out 2; rwa [HA2.out] at this
  obtain ⟨x0, HX0, p0, q0⟩ : ∃ x, Hid (n0 % 3 = x) ∧ 0 ≤ x ∧ x < 3 := ⟨_, rfl, Int.emod_nonneg _ (by omega), Int.emod_lt_of_pos _ (by omega)⟩
  obtain ⟨x1, HX1, p1, q1⟩ : ∃ x, Hid (n1 % 60 = x) ∧ 0 ≤ x ∧ x < 60 := ⟨_, rfl, Int.emod_nonneg _ (by omega), Int.emod_lt_of_pos _ (by omega)⟩
  obtain ⟨x2, HX2, p2, q2⟩ : ∃ x, Hid (n2 % 200 = x) ∧ 0 ≤ x ∧ x < 200 := ⟨_, rfl, Int.emod_nonneg _ (by omega), Int.emod_lt_of_pos _ (by omega)⟩
  have w0 : IntKind.i64.wrap (1 + x0) = 1 + x0 := IntWalk.i64_in _ (by omega)
  have w1 : IntKind.u64.wrap x1 = x1 := IntWalk.u64_in _ (by omega)
  have w2 : IntKind.u64.wrap x2 = x2 := IntWalk.u64_in _ (by omega)
  have hmk : ∀ w, (Instr.makeSlice 36 (.int .i64 16) (.int .i64 16)).run Try.prog w = .ok (.slice (some ⟨w.heap.size, 0, none⟩) 16 16) (w.alloc (.cells #[.int .u64 0, .int .u64 0, .int .u64 0, .int .u64 0, .int .u64 0, .int .u64 0, .int .u64 0, .int .u64 0, .int .u64 0, .int .u64 0, .int .u64 0, .int .u64 0, .int .u64 0, .int .u64 0, .int .u64 0, .int .u64 0] 32)) := fun _ => by kernel_rfl
  go_enter Try.func36, Try.ntmps36
  go_wp2_with fail
  refine (at_any _ ns 0 (by omega) (by omega) _ (HR.out.keep (by repeat (first | assumption | exact Below.refl _ _ | apply Below.al | apply below_drewN | apply Below.drew | refine Below.next ?_ (by assumption))))).mono ?_
  rw [show ns.getD (Int.toNat 0) 0 = n0 from HA0.out]
  rintro e w1 ⟨rfl, rfl⟩
  go_wp2_with fail
  refine (mod_any n0 3 (by omega) (by omega) ib0 _).mono ?_
  rw [HX0.out]
  rintro e w1 ⟨rfl, rfl⟩
  go_wp2_with fail
  refine (at_any _ ns 1 (by omega) (by omega) _ (HR.out.keep (by repeat (first | assumption | exact Below.refl _ _ | apply Below.al | apply below_drewN | apply Below.drew | refine Below.next ?_ (by assumption))))).mono ?_
  rw [show ns.getD (Int.toNat 1) 0 = n1 from HA1.out]
  rintro e w1 ⟨rfl, rfl⟩
  go_wp2_with fail
  refine (mod_any n1 60 (by omega) (by omega) ib1 _).mono ?_
  rw [HX1.out]
  rintro e w1 ⟨rfl, rfl⟩
  go_upto_region 2 with fail
  obtain ⟨V1, hV1⟩ : ∃ V : World, V = w.alloc (.cells #[.int .i64 0, .int .u64 0, .int .u64 0, .int .u64 0, .int .u64 0, .int .i64 0, .int .i64 0, .int .i64 0, .int .i64 0, .int .i64 0, .int .i64 0, .int .i64 0, .int .i64 0, .int .i64 0, .int .i64 0, .int .i64 0] 35) := ⟨_, rfl⟩
  obtain ⟨V2, hV2⟩ : ∃ V : World, V = V1.alloc (.cells #[.int .u64 0, .int .u64 0, .slice none 0 0] 38) := ⟨_, rfl⟩
  obtain ⟨V3, hV3⟩ : ∃ V : World, V = V2.alloc (.cells #[.int .i64 (1 + x0), .int .u64 500, .int .u64 0, .int .u64 x1, .int .u64 0, .int .i64 0, .int .i64 0, .int .i64 0, .int .i64 0, .int .i64 0, .int .i64 0, .int .i64 0, .int .i64 0, .int .i64 0, .int .i64 0, .int .i64 0] 35) := ⟨_, rfl⟩
  rw [← hV1, ← hV2, ← hV3]
  have s1 : V1.heap.size = w.heap.size + 1 := by rw [hV1]; simp
  have s2 : V2.heap.size = w.heap.size + 2 := by rw [hV2]; simp [s1]
  have s3 : V3.heap.size = w.heap.size + 3 := by rw [hV3]; simp [s2]
  have B0 : BoxN V3 w.heap.size 35 #[.int .i64 0, .int .u64 0, .int .u64 0, .int .u64 0, .int .u64 0, .int .i64 0, .int .i64 0, .int .i64 0, .int .i64 0, .int .i64 0, .int .i64 0, .int .i64 0, .int .i64 0, .int .i64 0, .int .i64 0, .int .i64 0] := by rw [hV3, hV2, hV1]; exact ((BoxN.new w _ _).alloc _).alloc _
  have B1 : BoxN V3 (w.heap.size + 1) 38 #[.int .u64 0, .int .u64 0, .slice none 0 0] := by
    have := BoxN.new V1 38 #[.int .u64 0, .int .u64 0, .slice none 0 0]
    rw [s1] at this; rw [hV3, hV2]; exact this.alloc _
  have B2 : BoxN V3 (w.heap.size + 2) 35 #[.int .i64 (1 + x0), .int .u64 500, .int .u64 0, .int .u64 x1, .int .u64 0, .int .i64 0, .int .i64 0, .int .i64 0, .int .i64 0, .int .i64 0, .int .i64 0, .int .i64 0, .int .i64 0, .int .i64 0, .int .i64 0, .int .i64 0] := by
    have := BoxN.new V2 35 #[.int .i64 (1 + x0), .int .u64 500, .int .u64 0, .int .u64 x1, .int .u64 0, .int .i64 0, .int .i64 0, .int .i64 0, .int .i64 0, .int .i64 0, .int .i64 0, .int .i64 0, .int .i64 0, .int .i64 0, .int .i64 0, .int .i64 0]
    rw [s2] at this; rw [hV3]; exact this
  have hBX : Below w.heap.size w V3 := by rw [hV3, hV2, hV1]; exact (by repeat (first | assumption | exact Below.refl _ _ | apply Below.al | apply below_drewN | apply Below.drew | refine Below.next ?_ (by assumption)))
  have hz : w.heap.size + 2 < V3.heap.size := by omega
  have HB0 := Lib.hid B0
  have HB1 := Lib.hid B1
  have HB2 := Lib.hid B2
  clear hV1 hV2 hV3 s1 s2 s3 B0 B1 B2 V1 V2
  go_cut [6] (fun p wx => M2 w x0 x1 x2 p wx)
  case first =>
    refine wp_region_noPanic ?_
    refine wp_region_held_drew (S := (fun w' => Below V3.heap.size V3 w')) (by kernel_rfl) ((Below.refl _ V3).drew) (fun hHeld => ?_)
    refine reg_tk (v := ?_) 0 17 rfl rfl (by kernel_rfl) (by kernel_rfl) (by kernel_rfl) (fun _ _ _ h => h) (by rfl) ?_ (by assumption) ?_
    rotate_left
    · (intro w hSw; (try dsimp only at hSw); go_simp; (try with_reducible rfl))
    simp only [List.setIfInBounds_toArray, List.set_cons_zero, List.set_cons_succ]
    refine reg_call 1 18 79 (v := .int .i64 n2) (args := #[v, .int .i64 2]) rfl rfl (by kernel_rfl) (by kernel_rfl) (by kernel_rfl) (fun _ _ _ h => h) (by rfl) (fun w3 hS => by go_simp) (fun w3 hS => by
      refine (at_any _ ns 2 (by omega) (by omega) _ (HR.out.keep (Below.next hBX hS))).mono ?_
      rw [show ns.getD (Int.toNat 2) 0 = n2 from HA2.out]
      exact fun e w' h => h) (by assumption) ?_
    simp only [List.setIfInBounds_toArray, List.set_cons_zero, List.set_cons_succ]
    refine reg_call 2 19 37 (v := .int .i64 x2) (args := #[.int .i64 n2, .int .i64 200]) rfl rfl (by kernel_rfl) (by kernel_rfl) (by kernel_rfl) (fun _ _ _ h => h) (by rfl) (fun w3 hS => by go_simp) (fun w3 hS => by
      refine (mod_any n2 200 (by omega) (by omega) ib2 _).mono ?_
      rw [HX2.out]
      exact fun e w' h => h) (by assumption) ?_
    simp only [List.setIfInBounds_toArray, List.set_cons_zero, List.set_cons_succ]
    refine reg_tk (v := ?_) 3 20 rfl rfl (by kernel_rfl) (by kernel_rfl) (by kernel_rfl) (fun _ _ _ h => h) (by rfl) ?_ (by assumption) ?_
    rotate_left
    · (intro w hSw; (try dsimp only at hSw); go_simp; (try with_reducible rfl))
    simp only [List.setIfInBounds_toArray, List.set_cons_zero, List.set_cons_succ]
    refine wpAnyH_ready (rs := [4, 6]) (by kernel_rfl) (by simp) ?_
    refine AllReadyH.cons rfl (fun K hK => ?_) (AllReadyH.cons rfl (fun K hK => ?_) AllReadyH.nil)
    · go_simp
      refine hK.out _ _ (by repeat (first | exact Below.refl _ _ | (refine Below.alloc ?_ (by first | exact Nat.le_refl _ | (simp; done) | (simp; omega)) _) | apply Below.drew | (refine Below.setCell ?_ (by first | exact Nat.le_refl _ | (simp; done) | (simp; omega)) _))) (fun hHeld2 => ?_)
      clear hK K hHeld
      have hHeld := hHeld2
      clear hHeld2
      try simp only [Act.put, List.setIfInBounds_toArray, List.set_cons_zero, List.set_cons_succ]
      refine reg_tk (v := ?_) 5 22 rfl rfl (by kernel_rfl) (by kernel_rfl) (by kernel_rfl) (fun _ _ _ h => h) (by rfl) ?_ (by assumption) ?_
      rotate_left
      · (intro w hSw; (try dsimp only at hSw); go_simp; (try with_reducible rfl))
      simp only [List.setIfInBounds_toArray, List.set_cons_zero, List.set_cons_succ]
      refine wpAnyH_ready (rs := [6]) (by kernel_rfl) (by simp) ?_
      refine AllReadyH.cons rfl (fun K hK => ?_) AllReadyH.nil
      go_simp
      refine hK.out _ _ (by repeat (first | exact Below.refl _ _ | (refine Below.alloc ?_ (by first | exact Nat.le_refl _ | (simp; done) | (simp; omega)) _) | apply Below.drew | (refine Below.setCell ?_ (by first | exact Nat.le_refl _ | (simp; done) | (simp; omega)) _))) (fun hHeld2 => ?_)
      clear hK K hHeld
      have hHeld := hHeld2
      clear hHeld2
      try simp only [Act.put, List.setIfInBounds_toArray, List.set_cons_zero, List.set_cons_succ]
      refine wpAnyH_ready (rs := [7]) (by kernel_rfl) (by simp) ?_
      refine AllReadyH.cons rfl (fun K hK => ?_) AllReadyH.nil
      go_simp
      refine hK.out _ _ (by repeat (first | exact Below.refl _ _ | (refine Below.alloc ?_ (by first | exact Nat.le_refl _ | (simp; done) | (simp; omega)) _) | apply Below.drew | (refine Below.setCell ?_ (by first | exact Nat.le_refl _ | (simp; done) | (simp; omega)) _))) (fun hHeld2 => ?_)
      clear hK K hHeld
      have hHeld := hHeld2
      clear hHeld2
      try simp only [Act.put, List.setIfInBounds_toArray, List.set_cons_zero, List.set_cons_succ]
      refine wpAnyH_done (by kernel_rfl) ?_ _
      refine NoPanic.normal ?_
      have e1 := (BoxN.new V3 32 (ic .u64 rz).toArray).alloc (.cells #[.int .u64 500, .int .u64 x2, .slice (some ⟨V3.heap.size, 0, none⟩) 16 16] 38)
      have e2 := BoxN.new (V3.alloc (.cells (ic .u64 rz).toArray 32)) 38 #[.int .u64 500, .int .u64 x2, .slice (some ⟨V3.heap.size, 0, none⟩) 16 16]
      rw [World.size_alloc] at e2
      have e3 := (HB0.out.alloc (.cells (ic .u64 rz).toArray 32)).alloc (.cells #[.int .u64 500, .int .u64 x2, .slice (some ⟨V3.heap.size, 0, none⟩) 16 16] 38)
      have e4 := (HB1.out.alloc (.cells (ic .u64 rz).toArray 32)).alloc (.cells #[.int .u64 500, .int .u64 x2, .slice (some ⟨V3.heap.size, 0, none⟩) 16 16] 38)
      have e5 := (HB2.out.alloc (.cells (ic .u64 rz).toArray 32)).alloc (.cells #[.int .u64 500, .int .u64 x2, .slice (some ⟨V3.heap.size, 0, none⟩) 16 16] 38)
      go_wp2_with fail
      go_meet
      exact ⟨_, _, rfl, e2, e1, e3, e4, e5, Below.next hBX hHeld, by omega, by omega, by omega⟩
    · go_simp
      refine hK.out _ _ (by repeat (first | exact Below.refl _ _ | (refine Below.alloc ?_ (by first | exact Nat.le_refl _ | (simp; done) | (simp; omega)) _) | apply Below.drew | (refine Below.setCell ?_ (by first | exact Nat.le_refl _ | (simp; done) | (simp; omega)) _))) (fun hHeld2 => ?_)
      clear hK K hHeld
      have hHeld := hHeld2
      clear hHeld2
      try simp only [Act.put, List.setIfInBounds_toArray, List.set_cons_zero, List.set_cons_succ]
      refine wpAnyH_ready (rs := [4]) (by kernel_rfl) (by simp) ?_
      refine AllReadyH.cons rfl (fun K hK => ?_) AllReadyH.nil
      go_simp
      refine hK.out _ _ (by repeat (first | exact Below.refl _ _ | (refine Below.alloc ?_ (by first | exact Nat.le_refl _ | (simp; done) | (simp; omega)) _) | apply Below.drew | (refine Below.setCell ?_ (by first | exact Nat.le_refl _ | (simp; done) | (simp; omega)) _))) (fun hHeld2 => ?_)
      clear hK K hHeld
      have hHeld := hHeld2
      clear hHeld2
      try simp only [Act.put, List.setIfInBounds_toArray, List.set_cons_zero, List.set_cons_succ]
      refine reg_tk (v := ?_) 5 22 rfl rfl (by kernel_rfl) (by kernel_rfl) (by kernel_rfl) (fun _ _ _ h => h) (by rfl) ?_ (by assumption) ?_
      rotate_left
      · (intro w hSw; (try dsimp only at hSw); go_simp; (try with_reducible rfl))
      simp only [List.setIfInBounds_toArray, List.set_cons_zero, List.set_cons_succ]
      refine wpAnyH_ready (rs := [7]) (by kernel_rfl) (by simp) ?_
      refine AllReadyH.cons rfl (fun K hK => ?_) AllReadyH.nil
      go_simp
      refine hK.out _ _ (by repeat (first | exact Below.refl _ _ | (refine Below.alloc ?_ (by first | exact Nat.le_refl _ | (simp; done) | (simp; omega)) _) | apply Below.drew | (refine Below.setCell ?_ (by first | exact Nat.le_refl _ | (simp; done) | (simp; omega)) _))) (fun hHeld2 => ?_)
      clear hK K hHeld
      have hHeld := hHeld2
      clear hHeld2
      try simp only [Act.put, List.setIfInBounds_toArray, List.set_cons_zero, List.set_cons_succ]
      refine wpAnyH_done (by kernel_rfl) ?_ _
      refine NoPanic.normal ?_
      have e1 := (BoxN.new V3 38 #[.int .u64 500, .int .u64 x2, .slice (some ⟨V3.heap.size + 1, 0, none⟩) 16 16]).alloc (.cells (ic .u64 rz).toArray 32)
      have e2 := BoxN.new (V3.alloc (.cells #[.int .u64 500, .int .u64 x2, .slice (some ⟨V3.heap.size + 1, 0, none⟩) 16 16] 38)) 32 (ic .u64 rz).toArray
      rw [World.size_alloc] at e2
      have e3 := (HB0.out.alloc (.cells #[.int .u64 500, .int .u64 x2, .slice (some ⟨V3.heap.size + 1, 0, none⟩) 16 16] 38)).alloc (.cells (ic .u64 rz).toArray 32)
      have e4 := (HB1.out.alloc (.cells #[.int .u64 500, .int .u64 x2, .slice (some ⟨V3.heap.size + 1, 0, none⟩) 16 16] 38)).alloc (.cells (ic .u64 rz).toArray 32)
      have e5 := (HB2.out.alloc (.cells #[.int .u64 500, .int .u64 x2, .slice (some ⟨V3.heap.size + 1, 0, none⟩) 16 16] 38)).alloc (.cells (ic .u64 rz).toArray 32)
      go_wp2_with fail
      go_meet
      exact ⟨_, _, rfl, e1, e2, e3, e4, e5, Below.next hBX hHeld, by omega, by omega, by omega⟩
  case rest =>
    obtain ⟨S, Z, rfl, BS, BZ, B0, B1, B2, hB, hS0, hZ0, hne⟩ := hcut
    rename World => wx
    have HBS := Lib.hid BS
    have HBZ := Lib.hid BZ
    have HB0' := Lib.hid B0
    have HB1' := Lib.hid B1
    have HB2' := Lib.hid B2
    clear BS BZ B0 B1 B2 HB0 HB1 HB2 hBX hz w0 w1 w2
    go_wp2_with fail
    go_loopw [7] (fun i wr => ∃ k : Nat, k ≤ 4 ∧ i = .int .i64 k ∧ BoxN wr S 38 #[.int .u64 500, .int .u64 x2, .slice (some ⟨Z, 0, none⟩) 16 16] ∧ BoxN wr Z 32 (ic .u64 (mXs ns k)).toArray ∧
      BoxN wr w.heap.size 35 #[.int .i64 0, .int .u64 0, .int .u64 0, .int .u64 0, .int .u64 0, .int .i64 0, .int .i64 0, .int .i64 0, .int .i64 0, .int .i64 0, .int .i64 0, .int .i64 0, .int .i64 0, .int .i64 0, .int .i64 0, .int .i64 0] ∧ BoxN wr (w.heap.size + 1) 38 #[.int .u64 0, .int .u64 0, .slice none 0 0] ∧ BoxN wr (w.heap.size + 2) 35 #[.int .i64 (1 + x0), .int .u64 500, .int .u64 0, .int .u64 x1, .int .u64 0, .int .i64 0, .int .i64 0, .int .i64 0, .int .i64 0, .int .i64 0, .int .i64 0, .int .i64 0, .int .i64 0, .int .i64 0, .int .i64 0, .int .i64 0] ∧ Below w.heap.size w wr) (fun i _ => 4 - (intOf i).toNat)
    case atStart => exact ⟨0, Nat.zero_le _, rfl, HBS.out, HBZ.out, HB0'.out, HB1'.out, HB2'.out, hB⟩
    case round =>
      clear HBS HBZ HB0' HB1' HB2' hB
      obtain ⟨k, hk, rfl, BS, BZ, B0, B1, B2, hB⟩ := hrel
      have HB0 := Lib.hid B0
      have HB1 := Lib.hid B1
      have HB2 := Lib.hid B2
      have HBS := Lib.hid BS
      have HBZ := Lib.hid BZ
      have sZ : wr.cell? ⟨S, 2, none⟩ = some (.slice (some ⟨Z, 0, none⟩) 16 16) := BS.cell 2
      by_cases hlt : k < 4
      · have hml := mXs_len ns k
        have hcx : wr.cell? ⟨Z, k, none⟩ = some (.int .u64 ((mXs ns k).getD k 0)) := by
          rw [BZ.cell k]
          have := ic_get .u64 (mXs ns k) k (by omega)
          simpa using this
        have hfx : wr.frozen? ⟨Z, k, none⟩ = false := BZ.frozen k
        have hltZ := BZ.lt
        have HST : Hid (mXs ns (k + 1) = (mXs ns k).set k (ns.getD (3 + k) 0 % 70)) := rfl
        obtain ⟨y, hy⟩ : ∃ y, (mXs ns k).getD k 0 = y := ⟨_, rfl⟩
        obtain ⟨nk, hnk⟩ : ∃ n, Hid (ns.getD (3 + k) 0 = n) := ⟨_, rfl⟩
        have ibk : Ib nk := by have := getD_ib HB.out (3 + k); rwa [hnk.out] at this
        obtain ⟨xk, HXK, pk, qk⟩ : ∃ x, Hid (nk % 70 = x) ∧ 0 ≤ x ∧ x < 70 := ⟨_, rfl, Int.emod_nonneg _ (by omega), Int.emod_lt_of_pos _ (by omega)⟩
        rw [hy] at hcx
        rw [hnk.out, HXK.out] at HST
        clear hy hml BS BZ B0 B1 B2
        have d2 : decide ((k : Int) < 4) = true := yb (by omega)
        have i1 : (0 : Int) ≤ (k : Int) := by omega
        have i2 : (k : Int) < 16 := by omega
        have hwk : IntKind.i64.wrap (k : Int) = (k : Int) := IntWalk.i64_in _ (by omega)
        have hw3 : IntKind.i64.wrap (3 + (k : Int)) = 3 + (k : Int) := IntWalk.i64_in _ (by omega)
        have hwx : IntKind.u64.wrap xk = xk := IntWalk.u64_in _ (by omega)
        go_wp2_with fail
        refine wp_region_calm (fun w' => Below wr.heap.size wr w') 10 (by kernel_rfl) ((Below.refl _ wr).drew) ?_
        refine cm_run 0 27 (v := ?_) rfl rfl (by kernel_rfl) (by kernel_rfl) (by kernel_rfl) (by kernel_rfl) (by kernel_rfl) (fun _ _ _ h => h) (by rfl) ?_ ?_
        rotate_left
        · (intro wS hS; skip; go_simp; (try with_reducible rfl))
        simp only [List.setIfInBounds_toArray, List.set_cons_zero, List.set_cons_succ]
        refine cm_run 1 28 (v := ?_) rfl rfl (by kernel_rfl) (by kernel_rfl) (by kernel_rfl) (by kernel_rfl) (by kernel_rfl) (fun _ _ _ h => h) (by rfl) ?_ ?_
        rotate_left
        · (intro wS hS; have g := cell_later hS sZ; go_simp; (try with_reducible rfl))
        simp only [List.setIfInBounds_toArray, List.set_cons_zero, List.set_cons_succ]
        refine cm_run 2 29 (v := ?_) rfl rfl (by kernel_rfl) (by kernel_rfl) (by kernel_rfl) (by kernel_rfl) (by kernel_rfl) (fun _ _ _ h => h) (by rfl) ?_ ?_
        rotate_left
        · (intro wS hS; skip; go_simp; (try with_reducible rfl))
        simp only [List.setIfInBounds_toArray, List.set_cons_zero, List.set_cons_succ]
        refine cm_run 3 30 (v := ?_) rfl rfl (by kernel_rfl) (by kernel_rfl) (by kernel_rfl) (by kernel_rfl) (by kernel_rfl) (fun _ _ _ h => h) (by rfl) ?_ ?_
        rotate_left
        · (intro wS hS; skip; go_simp; (try with_reducible rfl))
        simp only [List.setIfInBounds_toArray, List.set_cons_zero, List.set_cons_succ]
        refine cm_run 4 31 (v := ?_) rfl rfl (by kernel_rfl) (by kernel_rfl) (by kernel_rfl) (by kernel_rfl) (by kernel_rfl) (fun _ _ _ h => h) (by rfl) ?_ ?_
        rotate_left
        · (intro wS hS; skip; go_simp; (try with_reducible rfl))
        simp only [List.setIfInBounds_toArray, List.set_cons_zero, List.set_cons_succ]
        refine cm_run 5 32 (v := ?_) rfl rfl (by kernel_rfl) (by kernel_rfl) (by kernel_rfl) (by kernel_rfl) (by kernel_rfl) (fun _ _ _ h => h) (by rfl) ?_ ?_
        rotate_left
        · (intro wS hS; skip; go_simp; (try with_reducible rfl))
        simp only [List.setIfInBounds_toArray, List.set_cons_zero, List.set_cons_succ]
        refine cm_call 6 33 79 (v := .int .i64 nk) (args := ?_) rfl rfl (by kernel_rfl) (by kernel_rfl) (by kernel_rfl) (by kernel_rfl) (by kernel_rfl) (fun _ _ _ h => h) (by rfl) ?_ ?_ ?_
        rotate_left 1
        · (intro wS hS; go_simp; (try with_reducible rfl))
        · (intro wS hS; refine (at_any _ ns (3 + (k : Int)) (by omega) (by omega) _ (HR.out.keep (Below.next hB hS))).mono ?_; (rw [show ns.getD (Int.toNat (3 + (k : Int))) 0 = nk by rw [show Int.toNat (3 + (k : Int)) = 3 + k by omega]; exact hnk.out]; rintro e w2 ⟨rfl, rfl⟩; exact ⟨rfl, hS⟩))
        simp only [List.setIfInBounds_toArray, List.set_cons_zero, List.set_cons_succ]
        refine cm_call 7 34 37 (v := .int .i64 xk) (args := ?_) rfl rfl (by kernel_rfl) (by kernel_rfl) (by kernel_rfl) (by kernel_rfl) (by kernel_rfl) (fun _ _ _ h => h) (by rfl) ?_ ?_ ?_
        rotate_left 1
        · (intro wS hS; go_simp; (try with_reducible rfl))
        · (intro wS hS; refine (mod_any nk 70 (by omega) (by omega) ibk _).mono ?_; (rw [HXK.out]; rintro e w2 ⟨rfl, rfl⟩; exact ⟨rfl, hS⟩))
        simp only [List.setIfInBounds_toArray, List.set_cons_zero, List.set_cons_succ]
        refine cm_run 8 35 (v := ?_) rfl rfl (by kernel_rfl) (by kernel_rfl) (by kernel_rfl) (by kernel_rfl) (by kernel_rfl) (fun _ _ _ h => h) (by rfl) ?_ ?_
        rotate_left
        · (intro wS hS; skip; go_simp; (try with_reducible rfl))
        simp only [List.setIfInBounds_toArray, List.set_cons_zero, List.set_cons_succ]
        refine cm_run 9 36 (v := ?_) rfl rfl (by kernel_rfl) (by kernel_rfl) (by kernel_rfl) (by kernel_rfl) (by kernel_rfl) (fun _ _ _ h => h) (by rfl) ?_ ?_
        rotate_left
        · (intro wS hS; skip; go_simp; (try with_reducible rfl))
        simp only [List.setIfInBounds_toArray, List.set_cons_zero, List.set_cons_succ]
        refine cm_tail 10 rfl (by kernel_rfl) (by kernel_rfl) (by kernel_rfl) (by rfl) ?_
        intro wS hS K hK
        have gx := cell_later hS hcx; have fx := fz_later hS hltZ hfx
        go_simp
        refine hK _ _ ?_
        clear hK K
        refine NoPanic.normal ?_
        have n0' := (HB0.out.below hS).setO (p := ⟨Z, k, none⟩) (by show w.heap.size ≠ Z; omega) (.int .u64 xk)
        have n1' := (HB1.out.below hS).setO (p := ⟨Z, k, none⟩) (by show w.heap.size + 1 ≠ Z; omega) (.int .u64 xk)
        have n2' := (HB2.out.below hS).setO (p := ⟨Z, k, none⟩) (by show w.heap.size + 2 ≠ Z; omega) (.int .u64 xk)
        have nS := (HBS.out.below hS).setO (p := ⟨Z, k, none⟩) (by show S ≠ Z; omega) (.int .u64 xk)
        have nZ := (HBZ.out.below hS).setI (k := k) xk
        have nB := (Below.next hB hS).setCell (p := ⟨Z, k, none⟩) (by show w.heap.size ≤ Z; omega) (.int .u64 xk)
        obtain ⟨WD, hWD⟩ : ∃ WD : World, WD = wS.setCell ⟨Z, k, none⟩ (.int .u64 xk) := ⟨_, rfl⟩
        rw [← hWD] at n0' n1' n2' nS nZ nB ⊢
        have N0 := Lib.hid n0'
        have N1 := Lib.hid n1'
        have N2 := Lib.hid n2'
        have NS := Lib.hid nS
        have NZ := Lib.hid nZ
        clear hWD n0' n1' n2' nS nZ gx fx hS sZ hcx hfx hltZ
        go_wp2_with fail
        go_roundw
        case rel => exact ⟨k + 1, by omega, by go_num, NS.out, by rw [HST.out]; exact NZ.out, N0.out, N1.out, N2.out, nB⟩
        case measure => simp [intOf]; omega
      · obtain rfl : k = 4 := by omega
        clear BS BZ B0 B1 B2 sZ
        go_upto_region 7 with fail
        have hMS : Hid (mSt ns = x2) := by unfold Hid mSt; rw [HA2.out, HX2.out]
        have hMC : Hid ((mCf ns).v = .agg #[.int .i64 (1 + x0), .int .u64 500, .int .u64 0, .int .u64 x1, .int .u64 0, .int .i64 0, .int .i64 0, .int .i64 0, .int .i64 0, .int .i64 0, .int .i64 0, .int .i64 0, .int .i64 0, .int .i64 0, .int .i64 0, .int .i64 0]) := by unfold Hid mCf; rw [HA0.out, HX0.out, HA1.out, HX1.out]
        refine wp_region_noPanic ?_
        refine wp_region_held_drew (S := (fun w' => BoxN w' (w.heap.size + 2) 35 #[.int .i64 (1 + x0), .int .u64 500, .int .u64 0, .int .u64 x1, .int .u64 0, .int .i64 0, .int .i64 0, .int .i64 0, .int .i64 0, .int .i64 0, .int .i64 0, .int .i64 0, .int .i64 0, .int .i64 0, .int .i64 0, .int .i64 0] ∧ BoxN w' S 38 #[.int .u64 500, .int .u64 x2, .slice (some ⟨Z, 0, none⟩) 16 16])) (by kernel_rfl) ⟨HB2.out, HBS.out⟩ (fun hHeld => ?_)
        refine reg_tk (v := .agg #[.int .i64 (1 + x0), .int .u64 500, .int .u64 0, .int .u64 x1, .int .u64 0, .int .i64 0, .int .i64 0, .int .i64 0, .int .i64 0, .int .i64 0, .int .i64 0, .int .i64 0, .int .i64 0, .int .i64 0, .int .i64 0, .int .i64 0]) 0 37 rfl rfl (by kernel_rfl) (by kernel_rfl) (by kernel_rfl) (fun _ _ _ h => h) (by rfl) (fun w3 hS => ld_box 35 _ rfl (w.heap.size + 2) rfl hS.1 Try.underlying35 rfl (by kernel_rfl)) (by assumption) ?_
        simp only [List.setIfInBounds_toArray, List.set_cons_zero, List.set_cons_succ]
        refine reg_tk (v := .agg #[.int .u64 500, .int .u64 x2, .slice (some ⟨Z, 0, none⟩) 16 16]) 1 38 rfl rfl (by kernel_rfl) (by kernel_rfl) (by kernel_rfl) (fun _ _ _ h => h) (by rfl) (fun w3 hS => ld_box 38 _ rfl S rfl hS.2 Try.underlying38 rfl (by kernel_rfl)) (by assumption) ?_
        simp only [List.setIfInBounds_toArray, List.set_cons_zero, List.set_cons_succ]
        refine reg_tk (v := v) 2 39 rfl rfl (by kernel_rfl) (by kernel_rfl) (by kernel_rfl) (fun _ _ _ h => h) (by rfl) (fun w3 hS => by go_simp) (by assumption) ?_
        simp only [List.setIfInBounds_toArray, List.set_cons_zero, List.set_cons_succ]
        have B0 : BoxN wr.drew _ _ _ := HB0.out
        have B1 : BoxN wr.drew _ _ _ := HB1.out
        have B2 : BoxN wr.drew _ _ _ := HB2.out
        have BS : BoxN wr.drew _ _ _ := HBS.out
        have BZ : BoxN wr.drew _ _ _ := HBZ.out
        have hB : Below w.heap.size w wr.drew := hB.drew
        refine wpAnyH_ready (rs := [3]) (by kernel_rfl) (by simp) ?_
        refine AllReadyH.cons rfl (fun K hK => ?_) AllReadyH.nil
        go_simp
        refine (plan_any v ns 12 (by omega) HB.out _ (HR.out.keep hB)).mono ?_
        rintro e w5 ⟨pv, rfl, hP, hb⟩
        have B0 := B0.below hb
        have B1 := B1.below hb
        have B2 := B2.below hb
        have BS := BS.below hb
        have BZ := BZ.below hb
        have hB := Below.next hB hb
        have hHeld3 := hP
        clear hb
        refine hK.out _ _ ⟨B2, BS⟩ (fun hHeld2 => ?_)
        clear hK K hHeld
        have hHeld := hHeld2
        clear hHeld2
        try simp only [Act.put, List.setIfInBounds_toArray, List.set_cons_zero, List.set_cons_succ]
        refine wpAnyH_ready (rs := [4]) (by kernel_rfl) (by simp) ?_
        refine AllReadyH.cons rfl (fun K hK => ?_) AllReadyH.nil
        refine wp_store_mid 35 (.tmp 2) (.tmp 37) rfl w.heap.size 0 #[.int .i64 (1 + x0), .int .u64 500, .int .u64 0, .int .u64 x1, .int .u64 0, .int .i64 0, .int .i64 0, .int .i64 0, .int .i64 0, .int .i64 0, .int .i64 0, .int .i64 0, .int .i64 0, .int .i64 0, .int .i64 0, .int .i64 0] rfl rfl (B0.there _ rfl) (by kernel_rfl) (by simp [Value.oneCell']) ?_
        have hP := rdc_sets hP (fun k hk => okC_of (PV.chk (plK_ok ns 12 ns.length).1 (by have := (plK_ok ns 12 ns.length).2.2; omega)) hk) B0 zcfg [.int .i64 (1 + x0), .int .u64 500, .int .u64 0, .int .u64 x1, .int .u64 0, .int .i64 0, .int .i64 0, .int .i64 0, .int .i64 0, .int .i64 0, .int .i64 0, .int .i64 0, .int .i64 0, .int .i64 0, .int .i64 0, .int .i64 0]
        have B0 := B0.sets [.int .i64 (1 + x0), .int .u64 500, .int .u64 0, .int .u64 x1, .int .u64 0, .int .i64 0, .int .i64 0, .int .i64 0, .int .i64 0, .int .i64 0, .int .i64 0, .int .i64 0, .int .i64 0, .int .i64 0, .int .i64 0, .int .i64 0] rfl
        have B1 := B1.setsO (b2 := w.heap.size) (by omega) 0 [.int .i64 (1 + x0), .int .u64 500, .int .u64 0, .int .u64 x1, .int .u64 0, .int .i64 0, .int .i64 0, .int .i64 0, .int .i64 0, .int .i64 0, .int .i64 0, .int .i64 0, .int .i64 0, .int .i64 0, .int .i64 0, .int .i64 0]
        have B2 := B2.setsO (b2 := w.heap.size) (by omega) 0 [.int .i64 (1 + x0), .int .u64 500, .int .u64 0, .int .u64 x1, .int .u64 0, .int .i64 0, .int .i64 0, .int .i64 0, .int .i64 0, .int .i64 0, .int .i64 0, .int .i64 0, .int .i64 0, .int .i64 0, .int .i64 0, .int .i64 0]
        have BS := BS.setsO (b2 := w.heap.size) (by omega) 0 [.int .i64 (1 + x0), .int .u64 500, .int .u64 0, .int .u64 x1, .int .u64 0, .int .i64 0, .int .i64 0, .int .i64 0, .int .i64 0, .int .i64 0, .int .i64 0, .int .i64 0, .int .i64 0, .int .i64 0, .int .i64 0, .int .i64 0]
        have BZ := BZ.setsO (b2 := w.heap.size) (by omega) 0 [.int .i64 (1 + x0), .int .u64 500, .int .u64 0, .int .u64 x1, .int .u64 0, .int .i64 0, .int .i64 0, .int .i64 0, .int .i64 0, .int .i64 0, .int .i64 0, .int .i64 0, .int .i64 0, .int .i64 0, .int .i64 0, .int .i64 0]
        have hB := below_setCells (Nat.le_refl w.heap.size) [.int .i64 (1 + x0), .int .u64 500, .int .u64 0, .int .u64 x1, .int .u64 0, .int .i64 0, .int .i64 0, .int .i64 0, .int .i64 0, .int .i64 0, .int .i64 0, .int .i64 0, .int .i64 0, .int .i64 0, .int .i64 0, .int .i64 0] 0 _ hB
        obtain ⟨Y, hY⟩ : ∃ Y : World, Y = w5.setCells w.heap.size 0 [.int .i64 (1 + x0), .int .u64 500, .int .u64 0, .int .u64 x1, .int .u64 0, .int .i64 0, .int .i64 0, .int .i64 0, .int .i64 0, .int .i64 0, .int .i64 0, .int .i64 0, .int .i64 0, .int .i64 0, .int .i64 0, .int .i64 0] := ⟨_, rfl⟩
        show K _ (w5.setCells w.heap.size 0 [.int .i64 (1 + x0), .int .u64 500, .int .u64 0, .int .u64 x1, .int .u64 0, .int .i64 0, .int .i64 0, .int .i64 0, .int .i64 0, .int .i64 0, .int .i64 0, .int .i64 0, .int .i64 0, .int .i64 0, .int .i64 0, .int .i64 0])
        rw [← hY] at B0 B1 B2 BS BZ hB hP ⊢
        clear hY
        refine hK.out _ _ ⟨B2, BS⟩ (fun hHeld2 => ?_)
        clear hK K hHeld
        have hHeld := hHeld2
        clear hHeld2
        try simp only [Act.put, List.setIfInBounds_toArray, List.set_cons_zero, List.set_cons_succ]
        refine wpAnyH_ready (rs := [5]) (by kernel_rfl) (by simp) ?_
        refine AllReadyH.cons rfl (fun K hK => ?_) AllReadyH.nil
        refine wp_store_mid 38 (.tmp 3) (.tmp 38) rfl (w.heap.size + 1) 0 #[.int .u64 500, .int .u64 x2, .slice (some ⟨Z, 0, none⟩) 16 16] rfl rfl (B1.there _ rfl) (by kernel_rfl) (by simp [Value.oneCell']) ?_
        have hP := rdc_sets hP (fun k hk => okC_of (PV.chk (plK_ok ns 12 ns.length).1 (by have := (plK_ok ns 12 ns.length).2.2; omega)) hk) B1 zspc [.int .u64 500, .int .u64 x2, .slice (some ⟨Z, 0, none⟩) 16 16]
        have B0 := B0.setsO (b2 := w.heap.size + 1) (by omega) 0 [.int .u64 500, .int .u64 x2, .slice (some ⟨Z, 0, none⟩) 16 16]
        have B1 := B1.sets [.int .u64 500, .int .u64 x2, .slice (some ⟨Z, 0, none⟩) 16 16] rfl
        have B2 := B2.setsO (b2 := w.heap.size + 1) (by omega) 0 [.int .u64 500, .int .u64 x2, .slice (some ⟨Z, 0, none⟩) 16 16]
        have BS := BS.setsO (b2 := w.heap.size + 1) (by omega) 0 [.int .u64 500, .int .u64 x2, .slice (some ⟨Z, 0, none⟩) 16 16]
        have BZ := BZ.setsO (b2 := w.heap.size + 1) (by omega) 0 [.int .u64 500, .int .u64 x2, .slice (some ⟨Z, 0, none⟩) 16 16]
        have hB := below_setCells (by omega : w.heap.size ≤ w.heap.size + 1) [.int .u64 500, .int .u64 x2, .slice (some ⟨Z, 0, none⟩) 16 16] 0 _ hB
        obtain ⟨X, hX⟩ : ∃ X : World, X = Y.setCells (w.heap.size + 1) 0 [.int .u64 500, .int .u64 x2, .slice (some ⟨Z, 0, none⟩) 16 16] := ⟨_, rfl⟩
        show K _ (Y.setCells (w.heap.size + 1) 0 [.int .u64 500, .int .u64 x2, .slice (some ⟨Z, 0, none⟩) 16 16])
        rw [← hX] at B0 B1 B2 BS BZ hB hP ⊢
        clear hX
        refine hK.out _ _ ⟨B2, BS⟩ (fun hHeld2 => ?_)
        clear hK K hHeld
        have hHeld := hHeld2
        clear hHeld2
        try simp only [Act.put, List.setIfInBounds_toArray, List.set_cons_zero, List.set_cons_succ]
        refine wpAnyH_ready (rs := [6]) (by kernel_rfl) (by simp) ?_
        refine AllReadyH.cons rfl (fun K hK => ?_) AllReadyH.nil
        go_simp
        refine hK.out _ _ ⟨B2, BS⟩ (fun hHeld2 => ?_)
        clear hK K hHeld
        have hHeld := hHeld2
        clear hHeld2
        try simp only [Act.put, List.setIfInBounds_toArray, List.set_cons_zero, List.set_cons_succ]
        refine wpAnyH_done (by kernel_rfl) ?_ _
        refine NoPanic.normal ?_
        have c0 : X.cell? ⟨w.heap.size, 0, none⟩ = some (.int .i64 (1 + x0)) := B0.cell 0
        have c1 : X.cell? ⟨w.heap.size, 1, none⟩ = some (.int .u64 (500)) := B0.cell 1
        have c2 : X.cell? ⟨w.heap.size, 2, none⟩ = some (.int .u64 (0)) := B0.cell 2
        have c3 : X.cell? ⟨w.heap.size, 3, none⟩ = some (.int .u64 (x1)) := B0.cell 3
        have c4 : X.cell? ⟨w.heap.size, 4, none⟩ = some (.int .u64 (0)) := B0.cell 4
        have c5 : X.cell? ⟨w.heap.size, 5, none⟩ = some (.int .i64 (0)) := B0.cell 5
        have c6 : X.cell? ⟨w.heap.size, 6, none⟩ = some (.int .i64 (0)) := B0.cell 6
        have c7 : X.cell? ⟨w.heap.size, 7, none⟩ = some (.int .i64 (0)) := B0.cell 7
        have c8 : X.cell? ⟨w.heap.size, 8, none⟩ = some (.int .i64 (0)) := B0.cell 8
        have c9 : X.cell? ⟨w.heap.size, 9, none⟩ = some (.int .i64 (0)) := B0.cell 9
        have c10 : X.cell? ⟨w.heap.size, 10, none⟩ = some (.int .i64 (0)) := B0.cell 10
        have c11 : X.cell? ⟨w.heap.size, 11, none⟩ = some (.int .i64 (0)) := B0.cell 11
        have c12 : X.cell? ⟨w.heap.size, 12, none⟩ = some (.int .i64 (0)) := B0.cell 12
        have c13 : X.cell? ⟨w.heap.size, 13, none⟩ = some (.int .i64 (0)) := B0.cell 13
        have c14 : X.cell? ⟨w.heap.size, 14, none⟩ = some (.int .i64 (0)) := B0.cell 14
        have c15 : X.cell? ⟨w.heap.size, 15, none⟩ = some (.int .i64 (0)) := B0.cell 15
        have e0 : X.cell? ⟨w.heap.size + 1, 0, none⟩ = some (.int .u64 500) := B1.cell 0
        have e1 : X.cell? ⟨w.heap.size + 1, 1, none⟩ = some (.int .u64 x2) := B1.cell 1
        have e2 : X.cell? ⟨w.heap.size + 1, 2, none⟩ = some (.slice (some ⟨Z, 0, none⟩) 16 16) := B1.cell 2
        have hRz : RdI .u64 X (.slice (some ⟨Z, 0, none⟩) 16 16) (mXs ns 4) := by
          have := rd_box .u64 (mXs ns 4) BZ (by rw [mXs_len]; decide)
          rwa [mXs_len] at this
        have HRz := Lib.hid hRz
        have HRp := Lib.hid hP
        clear B0 B1 B2 BS BZ hHeld hHeld3 hRz hP HB0 HB1 HB2 HBS HBZ
        go_wp2_with fail
        exact bodyPost_ret (v := .tuple #[.agg #[.int .i64 (1 + x0), .int .u64 500, .int .u64 0, .int .u64 x1, .int .u64 0, .int .i64 0, .int .i64 0, .int .i64 0, .int .i64 0, .int .i64 0, .int .i64 0, .int .i64 0, .int .i64 0, .int .i64 0, .int .i64 0, .int .i64 0], .agg #[.int .u64 500, .int .u64 x2, .slice (some ⟨Z, 0, none⟩) 16 16], pv]) (by simp [results, Try.results36, go_sem, c0, c1, c2, c3, c4, c5, c6, c7, c8, c9, c10, c11, c12, c13, c14, c15, e0, e1, e2]) rfl ⟨_, _, pv, by rw [hMC.out, hMS.out], HRz.out, HRp.out, hB⟩
end Go.Proofs.Ytnbjdgjopdeolaa
