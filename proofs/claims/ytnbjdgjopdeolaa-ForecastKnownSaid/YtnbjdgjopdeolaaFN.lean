

/- Forecast: the law's same, example, awake, asked. -/
import Derived.Test.YtnbjdgjopdeolaaFM
import Derived.Test.YtnbjdgjopdeolaaY
namespace Go.Proofs.Ytnbjdgjopdeolaa
open Go.RowKit Go.Shelf
set_option linter.unusedSimpArgs false
set_option linter.unusedVariables false
set_option maxRecDepth 100000

set_option maxHeartbeats 1000000 in
theorem sameL_eq (v u : Value) (ls : List Lv) (hl : ls.length ≤ 1000000) (w : World) (h : RdL w v ls) (hu : RdL w u ls) :
    Calls Try.prog 33 #[v, u] w fun e w' => e = .returned (.bool true) ∧ Below w.heap.size w w' := by
  obtain ⟨a0, n0, rfl⟩ := h.form
  obtain ⟨a1, n1, rfl⟩ := hu.form
  obtain ⟨N, hN⟩ : ∃ N, ls.length = N := ⟨_, rfl⟩
  rw [hN] at h hu hl ⊢
  have HR := Lib.hid h
  have HU := Lib.hid hu
  have HN := Lib.hid hN
  clear h hu hN
  have d0 : ((N : Int) != (N : Int)) = false := by simp
  go_enter Try.func33, Try.ntmps33
  go_wp2
  go_loopw [5] (fun i wr => ∃ k : Nat, k ≤ N ∧ i = .int .i64 k ∧ Below w.heap.size w wr) (fun i _ => N - (intOf i).toNat)
  case atStart => exact ⟨0, Nat.zero_le _, rfl, Below.refl _ _⟩
  case round =>
    obtain ⟨k, hk, rfl, hB⟩ := hrel
    by_cases hlt : k < N
    · have d2 : decide ((k : Int) < (N : Int)) = true := yb (by omega)
      obtain ⟨b1, o1, rfl, hc1, h1⟩ := RdL.at HR.out HN.out k hlt
      obtain ⟨b2, o2, rfl, hc2, h2⟩ := RdL.at HU.out HN.out k hlt
      have h1 := LA.keep hB h1
      have h2 := LA.keep hB h2
      obtain ⟨x, HX⟩ : ∃ x, Hid (ls.getD k lv0 = x) := ⟨_, rfl⟩
      rw [HX.out] at h1 h2
      have i1 : (0 : Int) ≤ (k : Int) := by omega
      have i2 : (k : Int) < (N : Int) := by omega
      have hwk : IntKind.i64.wrap (k : Int) = (k : Int) := IntWalk.i64_in _ (by omega)
      go_wp2_with fail
      refine wp_region_calm (fun w' => Below wr.heap.size wr w') 99 (by kernel_rfl) ((Below.refl _ wr).drew) ?_
      refine cm_run 0 17 (v := ?_) rfl rfl (by kernel_rfl) (by kernel_rfl) (by kernel_rfl) (by kernel_rfl) (by kernel_rfl) (fun _ _ _ h => h) (by rfl) ?_ ?_
      rotate_left
      · (intro wS hS; skip; go_simp; (try with_reducible rfl))
      simp only [List.setIfInBounds_toArray, List.set_cons_zero, List.set_cons_succ]
      refine cm_run 1 18 (v := ?_) rfl rfl (by kernel_rfl) (by kernel_rfl) (by kernel_rfl) (by kernel_rfl) (by kernel_rfl) (fun _ _ _ h => h) (by rfl) ?_ ?_
      rotate_left
      · (intro wS hS; skip; go_simp; (try with_reducible rfl))
      simp only [List.setIfInBounds_toArray, List.set_cons_zero, List.set_cons_succ]
      refine cm_run 2 19 (v := ?_) rfl rfl (by kernel_rfl) (by kernel_rfl) (by kernel_rfl) (by kernel_rfl) (by kernel_rfl) (fun _ _ _ h => h) (by rfl) ?_ ?_
      rotate_left
      · (intro wS hS; skip; go_simp; (try with_reducible rfl))
      simp only [List.setIfInBounds_toArray, List.set_cons_zero, List.set_cons_succ]
      refine cm_run 3 20 (v := ?_) rfl rfl (by kernel_rfl) (by kernel_rfl) (by kernel_rfl) (by kernel_rfl) (by kernel_rfl) (fun _ _ _ h => h) (by rfl) ?_ ?_
      rotate_left
      · (intro wS hS; have g := LA.keep hS h1; go_simp; (try with_reducible rfl))
      simp only [List.setIfInBounds_toArray, List.set_cons_zero, List.set_cons_succ]
      refine cm_run 4 21 (v := ?_) rfl rfl (by kernel_rfl) (by kernel_rfl) (by kernel_rfl) (by kernel_rfl) (by kernel_rfl) (fun _ _ _ h => h) (by rfl) ?_ ?_
      rotate_left
      · (intro wS hS; skip; go_simp; (try with_reducible rfl))
      simp only [List.setIfInBounds_toArray, List.set_cons_zero, List.set_cons_succ]
      refine cm_run 5 22 (v := ?_) rfl rfl (by kernel_rfl) (by kernel_rfl) (by kernel_rfl) (by kernel_rfl) (by kernel_rfl) (fun _ _ _ h => h) (by rfl) ?_ ?_
      rotate_left
      · (intro wS hS; skip; go_simp; (try with_reducible rfl))
      simp only [List.setIfInBounds_toArray, List.set_cons_zero, List.set_cons_succ]
      refine cm_run 6 23 (v := ?_) rfl rfl (by kernel_rfl) (by kernel_rfl) (by kernel_rfl) (by kernel_rfl) (by kernel_rfl) (fun _ _ _ h => h) (by rfl) ?_ ?_
      rotate_left
      · (intro wS hS; skip; go_simp; (try with_reducible rfl))
      simp only [List.setIfInBounds_toArray, List.set_cons_zero, List.set_cons_succ]
      refine cm_run 7 24 (v := ?_) rfl rfl (by kernel_rfl) (by kernel_rfl) (by kernel_rfl) (by kernel_rfl) (by kernel_rfl) (fun _ _ _ h => h) (by rfl) ?_ ?_
      rotate_left
      · (intro wS hS; have g := LA.keep hS h2; go_simp; (try with_reducible rfl))
      simp only [List.setIfInBounds_toArray, List.set_cons_zero, List.set_cons_succ]
      refine cm_run 8 25 (v := ?_) rfl rfl (by kernel_rfl) (by kernel_rfl) (by kernel_rfl) (by kernel_rfl) (by kernel_rfl) (fun _ _ _ h => h) (by rfl) ?_ ?_
      rotate_left
      · (intro wS hS; skip; go_simp; (try with_reducible rfl))
      simp only [List.setIfInBounds_toArray, List.set_cons_zero, List.set_cons_succ]
      refine cm_done (by kernel_rfl) ?_
      intro wS hS
      refine NoPanic.normal ?_
      have hB := Below.next hB hS
      go_wp2_with fail
      go_roundw
      case rel => exact ⟨k + 1, by omega, by go_num, hB⟩
      case measure => simp [intOf]; omega
    · have d2 : decide ((k : Int) < (N : Int)) = false := nb (by omega)
      go_wp2_with fail
      go_ret
      exact ⟨rfl, hB⟩

/-- the chapter's examples -/
abbrev exF : Cf := ⟨1, 100, 0, 20, 0, 0, 0, 0, 0, 0, 0, 0, 0, 0, 0, 0⟩
abbrev exA : Ct := ⟨2, 1, 0, 3, 8, 0⟩
abbrev exB : Ct := ⟨1, 3, 1, 9, 5, 0⟩
abbrev exP : List Ct := [exA, exB]
def rz : List Int := [0, 0, 0, 0, 0, 0, 0, 0, 0, 0, 0, 0, 0, 0, 0, 0]
def EX (w : World) (st : Int) (e : Ending) (w' : World) : Prop := ∃ a r b, e = .returned (.tuple #[exF.v, .agg #[.int .u64 100, .int .u64 st, .slice (some a) 16 r], .slice (some b) 2 2]) ∧ RdI .u64 w' (.slice (some a) 16 r) rz ∧ RdC w' (.slice (some b) 2 2) exP ∧ Below w.heap.size w w'
theorem below_setCells {n b : Nat} {w : World} (hn : n ≤ b) : ∀ (us : List Value) (o : Nat) (W : World), Below n w W → Below n w (W.setCells b o us)
  | [], _, _, h => h
  | u :: us, o, W, h => below_setCells hn us (o + 1) _ (h.setCell hn u)
theorem BoxN.setsO {w : World} {b : Nat} {T : TypeId} {vs : Array Value} (h : BoxN w b T vs) {b2 : Nat} (hne : b ≠ b2) (o : Nat) (us : List Value) : BoxN (w.setCells b2 o us) b T vs := by
  unfold BoxN; rw [setCells_other b2 b hne]; exact h
theorem BoxN.sets {w : World} {b : Nat} {T : TypeId} {vs : Array Value} (h : BoxN w b T vs) (us : List Value) (hl : us.length = vs.size) : BoxN (w.setCells b 0 us) b T us.toArray := by
  have := setCells_block b T us vs.toList 0 w (by simpa [BoxN] using h) (by simp [hl])
  unfold BoxN
  rw [this, List.take_zero, List.nil_append, List.drop_of_length_le (by simp [hl]), List.append_nil]
theorem BoxN.there {w : World} {b : Nat} {T : TypeId} {vs : Array Value} (h : BoxN w b T vs) (n : Nat) (hn : n = vs.size) : w.there b 0 n := fun j hj => by
  refine ⟨?_, h.frozen _⟩
  rw [Nat.zero_add, h.cell j, Array.getElem?_eq_getElem (by omega)]; rfl
theorem size_setCells (b : Nat) : ∀ (us : List Value) (o : Nat) (w : World), (w.setCells b o us).heap.size = w.heap.size
  | [], _, _ => rfl
  | u :: us, o, w => by rw [World.setCells, size_setCells b us]; simp
def exFc : List Value := [.int .i64 1, .int .u64 100, .int .u64 0, .int .u64 20, .int .u64 0, .int .i64 0, .int .i64 0, .int .i64 0, .int .i64 0, .int .i64 0, .int .i64 0, .int .i64 0, .int .i64 0, .int .i64 0, .int .i64 0, .int .i64 0]
theorem rdS_box {w : World} {b : Nat} {T : TypeId} (size n : Nat) (xs : List Value) (h : BoxN w b T xs.toArray) (hl : xs.length = n * size) (hn : n ≤ maxLen) : RdS w size (.slice (some ⟨b, 0, none⟩) n n) n xs :=
  ⟨hl, hn, .inr ⟨b, 0, n, rfl, Nat.le_refl _, fun j u hj => by rw [Nat.zero_add, h.cell j]; simpa using hj⟩⟩
theorem rd_box {w : World} {b : Nat} {T : TypeId} (k : IntKind) (xs : List Int) (h : BoxN w b T (ic k xs).toArray) (hn : xs.length ≤ maxLen) : RdI k w (.slice (some ⟨b, 0, none⟩) xs.length xs.length) xs :=
  rdS_box 1 xs.length (ic k xs) h (by simp) hn
set_option maxHeartbeats 2000000 in
theorem example_any (st : Int) (w : World) : Calls Try.prog 61 #[.int .u64 st] w (EX w st) := by
  have hmk : ∀ w, (Instr.makeSlice 36 (.int .i64 16) (.int .i64 16)).run Try.prog w = .ok (.slice (some ⟨w.heap.size, 0, none⟩) 16 16) (w.alloc (.cells #[.int .u64 0, .int .u64 0, .int .u64 0, .int .u64 0, .int .u64 0, .int .u64 0, .int .u64 0, .int .u64 0, .int .u64 0, .int .u64 0, .int .u64 0, .int .u64 0, .int .u64 0, .int .u64 0, .int .u64 0, .int .u64 0] 32)) := fun _ => by kernel_rfl
  go_enter Try.func61, Try.ntmps61
  go_wp2_with fail
  obtain ⟨V1, hV1⟩ : ∃ V : World, V = w.alloc (.cells #[.int .i64 0, .int .u64 0, .int .u64 0, .int .u64 0, .int .u64 0, .int .i64 0, .int .i64 0, .int .i64 0, .int .i64 0, .int .i64 0, .int .i64 0, .int .i64 0, .int .i64 0, .int .i64 0, .int .i64 0, .int .i64 0] 35) := ⟨_, rfl⟩
  obtain ⟨V2, hV2⟩ : ∃ V : World, V = V1.alloc (.cells #[.int .u64 0, .int .u64 0, .slice none 0 0] 38) := ⟨_, rfl⟩
  obtain ⟨V3, hV3⟩ : ∃ V : World, V = V2.alloc (.cells #[.int .u64 0, .int .u64 0, .int .u64 0, .int .u64 0, .int .u64 0, .int .u64 0, .int .u64 0, .int .u64 0, .int .u64 0, .int .u64 0, .int .u64 0, .int .u64 0, .int .u64 0, .int .u64 0, .int .u64 0, .int .u64 0] 32) := ⟨_, rfl⟩
  rw [show w.heap.size + 1 + 1 + 1 = w.heap.size + 3 from rfl, show w.heap.size + 1 + 1 = w.heap.size + 2 from rfl, ← hV1, ← hV2, ← hV3]
  obtain ⟨V4, hV4⟩ : ∃ V : World, V = V3.alloc (.cells #[.int .u64 100, .int .u64 st, .slice (some ⟨w.heap.size + 2, 0, none⟩) 16 16] 38) := ⟨_, rfl⟩
  rw [← hV4]
  have s1 : V1.heap.size = w.heap.size + 1 := by rw [hV1]; simp
  have s2 : V2.heap.size = w.heap.size + 2 := by rw [hV2]; simp [s1]
  have s3 : V3.heap.size = w.heap.size + 3 := by rw [hV3]; simp [s2]
  have B0 := (((BoxN.new w 35 #[.int .i64 0, .int .u64 0, .int .u64 0, .int .u64 0, .int .u64 0, .int .i64 0, .int .i64 0, .int .i64 0, .int .i64 0, .int .i64 0, .int .i64 0, .int .i64 0, .int .i64 0, .int .i64 0, .int .i64 0, .int .i64 0]))) 
  rw [← hV1] at B0
  have B0 := ((B0.alloc (.cells #[.int .u64 0, .int .u64 0, .slice none 0 0] 38)))
  rw [← hV2] at B0
  have B0 := B0.alloc (.cells #[.int .u64 0, .int .u64 0, .int .u64 0, .int .u64 0, .int .u64 0, .int .u64 0, .int .u64 0, .int .u64 0, .int .u64 0, .int .u64 0, .int .u64 0, .int .u64 0, .int .u64 0, .int .u64 0, .int .u64 0, .int .u64 0] 32)
  rw [← hV3] at B0
  have B0 := B0.alloc (.cells #[.int .u64 100, .int .u64 st, .slice (some ⟨w.heap.size + 2, 0, none⟩) 16 16] 38)
  rw [← hV4] at B0
  have B1 := BoxN.new V1 38 #[.int .u64 0, .int .u64 0, .slice none 0 0]
  rw [← hV2, s1] at B1
  have B1 := B1.alloc (.cells #[.int .u64 0, .int .u64 0, .int .u64 0, .int .u64 0, .int .u64 0, .int .u64 0, .int .u64 0, .int .u64 0, .int .u64 0, .int .u64 0, .int .u64 0, .int .u64 0, .int .u64 0, .int .u64 0, .int .u64 0, .int .u64 0] 32)
  rw [← hV3] at B1
  have B1 := B1.alloc (.cells #[.int .u64 100, .int .u64 st, .slice (some ⟨w.heap.size + 2, 0, none⟩) 16 16] 38)
  rw [← hV4] at B1
  have B2 := BoxN.new V2 32 #[.int .u64 0, .int .u64 0, .int .u64 0, .int .u64 0, .int .u64 0, .int .u64 0, .int .u64 0, .int .u64 0, .int .u64 0, .int .u64 0, .int .u64 0, .int .u64 0, .int .u64 0, .int .u64 0, .int .u64 0, .int .u64 0]
  rw [← hV3, s2] at B2
  have B2 := B2.alloc (.cells #[.int .u64 100, .int .u64 st, .slice (some ⟨w.heap.size + 2, 0, none⟩) 16 16] 38)
  rw [← hV4] at B2
  have B3 := BoxN.new V3 38 #[.int .u64 100, .int .u64 st, .slice (some ⟨w.heap.size + 2, 0, none⟩) 16 16]
  rw [← hV4, s3] at B3
  have hBX : Below w.heap.size w V4 := by rw [hV4, hV3, hV2, hV1]; exact (by repeat (first | assumption | exact Below.refl _ _ | apply Below.al | apply below_drewN | apply Below.drew | refine Below.next ?_ (by assumption)))
  clear hV1 hV2 hV3 hV4 s1 s2 s3 hmk
  obtain ⟨A, hA⟩ : ∃ A, A = w.heap.size := ⟨_, rfl⟩
  rw [← hA] at B0 B1 B2 B3 ⊢
  have hAw : w.heap.size ≤ A := by omega
  clear hA
  have hz : A + 3 < V4.heap.size := B3.lt
  refine wp_region_noPanic ?_
  refine wp_region_held_drew (S := (fun w' => Hid (BoxN w' (A + 3) 38 #[.int .u64 100, .int .u64 st, .slice (some ⟨A + 2, 0, none⟩) 16 16]))) (by kernel_rfl) (Lib.hid B3) (fun hHeld => ?_)
  have B0 : BoxN V4.drew _ _ _ := B0
  have B1 : BoxN V4.drew _ _ _ := B1
  have B2 : BoxN V4.drew _ _ _ := B2
  have B3 : BoxN V4.drew _ _ _ := B3
  have hBX : Below w.heap.size w V4.drew := Below.drew hBX
  have hz : A + 3 < V4.drew.heap.size := hz
  obtain ⟨X, hX⟩ : ∃ X : World, X = V4.drew := ⟨_, rfl⟩
  rw [← hX] at B0 B1 B2 B3 hBX hz hHeld ⊢
  clear hX
  refine reg_tk (v := ?_) 0 9 rfl rfl (by kernel_rfl) (by kernel_rfl) (by kernel_rfl) (fun _ _ _ h => h) (by rfl) ?_ (by assumption) ?_
  rotate_left
  · (intro w hSw; (try dsimp only at hSw); go_simp; (try with_reducible rfl))
  simp only [List.setIfInBounds_toArray, List.set_cons_zero, List.set_cons_succ]
  refine reg_tk (v := .agg #[.int .u64 100, .int .u64 st, .slice (some ⟨A + 2, 0, none⟩) 16 16]) 1 10 rfl rfl (by kernel_rfl) (by kernel_rfl) (by kernel_rfl) (fun _ _ _ h => h) (by rfl) ?_ (by assumption) ?_
  · intro w3 hS
    have g0 : w3.cell? ⟨A + 3, 0, none⟩ = some (.int .u64 100) := BoxN.cell hS.out 0
    have g1 : w3.cell? ⟨A + 3, 1, none⟩ = some (.int .u64 st) := BoxN.cell hS.out 1
    have g2 : w3.cell? ⟨A + 3, 2, none⟩ = some (.slice (some ⟨A + 2, 0, none⟩) 16 16) := BoxN.cell hS.out 2
    clear hS
    go_simp
  simp only [List.setIfInBounds_toArray, List.set_cons_zero, List.set_cons_succ]
  refine reg_tk (v := ?_) 2 11 rfl rfl (by kernel_rfl) (by kernel_rfl) (by kernel_rfl) (fun _ _ _ h => h) (by rfl) ?_ (by assumption) ?_
  rotate_left
  · (intro w hSw; (try dsimp only at hSw); go_simp; (try with_reducible rfl))
  simp only [List.setIfInBounds_toArray, List.set_cons_zero, List.set_cons_succ]
  refine reg_tk (v := ?_) 3 12 rfl rfl (by kernel_rfl) (by kernel_rfl) (by kernel_rfl) (fun _ _ _ h => h) (by rfl) ?_ (by assumption) ?_
  rotate_left
  · (intro w hSw; (try dsimp only at hSw); go_simp; (try with_reducible rfl))
  simp only [List.setIfInBounds_toArray, List.set_cons_zero, List.set_cons_succ]
  refine wpAnyH_ready (rs := [4, 5]) (by kernel_rfl) (by simp) ?_
  refine AllReadyH.cons rfl (fun K hK => ?_) (AllReadyH.cons rfl (fun K hK => ?_) AllReadyH.nil)
  · go_simp
    have B4 := BoxN.new X 23 #[.int .i64 2, .int .i64 1, .int .i64 0, .int .i64 3, .int .i64 8, .int .i64 0, .int .i64 1, .int .i64 3, .int .i64 1, .int .i64 9, .int .i64 5, .int .i64 0]
    have B0 := B0.alloc (.cells #[.int .i64 2, .int .i64 1, .int .i64 0, .int .i64 3, .int .i64 8, .int .i64 0, .int .i64 1, .int .i64 3, .int .i64 1, .int .i64 9, .int .i64 5, .int .i64 0] 23)
    have B1 := B1.alloc (.cells #[.int .i64 2, .int .i64 1, .int .i64 0, .int .i64 3, .int .i64 8, .int .i64 0, .int .i64 1, .int .i64 3, .int .i64 1, .int .i64 9, .int .i64 5, .int .i64 0] 23)
    have B2 := B2.alloc (.cells #[.int .i64 2, .int .i64 1, .int .i64 0, .int .i64 3, .int .i64 8, .int .i64 0, .int .i64 1, .int .i64 3, .int .i64 1, .int .i64 9, .int .i64 5, .int .i64 0] 23)
    have B3 := B3.alloc (.cells #[.int .i64 2, .int .i64 1, .int .i64 0, .int .i64 3, .int .i64 8, .int .i64 0, .int .i64 1, .int .i64 3, .int .i64 1, .int .i64 9, .int .i64 5, .int .i64 0] 23)
    have hBX := Below.al hBX (.cells #[.int .i64 2, .int .i64 1, .int .i64 0, .int .i64 3, .int .i64 8, .int .i64 0, .int .i64 1, .int .i64 3, .int .i64 1, .int .i64 9, .int .i64 5, .int .i64 0] 23)
    obtain ⟨Y, hY⟩ : ∃ Y : World, Y = X.alloc (.cells #[.int .i64 2, .int .i64 1, .int .i64 0, .int .i64 3, .int .i64 8, .int .i64 0, .int .i64 1, .int .i64 3, .int .i64 1, .int .i64 9, .int .i64 5, .int .i64 0] 23) := ⟨_, rfl⟩
    rw [← hY] at B0 B1 B2 B3 B4 hBX ⊢
    obtain ⟨Cb, hCb⟩ : ∃ C, C = X.heap.size := ⟨_, rfl⟩
    rw [← hCb] at B4 ⊢
    have hCb4 : A + 3 < Cb := by rw [hCb]; exact hz
    have hz : A + 3 < Y.heap.size := B3.lt
    clear hY hCb
    obtain ⟨X, rfl⟩ : ∃ X, X = Y := ⟨_, rfl⟩
    refine hK.out _ _ (Lib.hid B3) (fun hHeld2 => ?_)
    clear hK K hHeld hHeld2
    have hHeld : Hid (BoxN X (A + 3) 38 #[.int .u64 100, .int .u64 st, .slice (some ⟨A + 2, 0, none⟩) 16 16]) := Lib.hid B3
    try simp only [Act.put, List.setIfInBounds_toArray, List.set_cons_zero, List.set_cons_succ]
    refine wpAnyH_ready (rs := [5]) (by kernel_rfl) (by simp) ?_
    refine AllReadyH.cons rfl (fun K hK => ?_) AllReadyH.nil
    refine wp_store_mid 35 (.tmp 2) (.tmp 9) rfl A 0 exFc.toArray rfl rfl (B0.there _ rfl) (by kernel_rfl) (by simp [exFc, Value.oneCell']) ?_
    have B0 := B0.sets exFc rfl
    have B1 := B1.setsO (b2 := A) (by omega) 0 exFc
    have B2 := B2.setsO (b2 := A) (by omega) 0 exFc
    have B3 := B3.setsO (b2 := A) (by omega) 0 exFc
    have B4 := B4.setsO (b2 := A) (by omega) 0 exFc
    have hBX := below_setCells (by show w.heap.size ≤ A; omega) exFc 0 _ hBX
    obtain ⟨Y, hY⟩ : ∃ Y : World, Y = X.setCells A 0 exFc := ⟨_, rfl⟩
    show K _ (X.setCells A 0 exFc)
    rw [← hY] at B0 B1 B2 B3 hBX ⊢
    try rw [← hY] at B4
    have hz : A + 3 < Y.heap.size := B3.lt
    clear hY
    obtain ⟨X, rfl⟩ : ∃ X, X = Y := ⟨_, rfl⟩
    refine hK.out _ _ (Lib.hid B3) (fun hHeld2 => ?_)
    clear hK K hHeld hHeld2
    have hHeld : Hid (BoxN X (A + 3) 38 #[.int .u64 100, .int .u64 st, .slice (some ⟨A + 2, 0, none⟩) 16 16]) := Lib.hid B3
    try simp only [Act.put, List.setIfInBounds_toArray, List.set_cons_zero, List.set_cons_succ]
    refine wpAnyH_ready (rs := [6]) (by kernel_rfl) (by simp) ?_
    refine AllReadyH.cons rfl (fun K hK => ?_) AllReadyH.nil
    refine wp_store_mid 38 (.tmp 3) (.tmp 10) rfl (A + 1) 0 #[.int .u64 100, .int .u64 st, .slice (some ⟨A + 2, 0, none⟩) 16 16] rfl rfl (B1.there _ rfl) (by kernel_rfl) (by simp [Value.oneCell']) ?_
    have B0 := B0.setsO (b2 := A + 1) (by omega) 0 [.int .u64 100, .int .u64 st, .slice (some ⟨A + 2, 0, none⟩) 16 16]
    have B1 := B1.sets [.int .u64 100, .int .u64 st, .slice (some ⟨A + 2, 0, none⟩) 16 16] rfl
    have B2 := B2.setsO (b2 := A + 1) (by omega) 0 [.int .u64 100, .int .u64 st, .slice (some ⟨A + 2, 0, none⟩) 16 16]
    have B3 := B3.setsO (b2 := A + 1) (by omega) 0 [.int .u64 100, .int .u64 st, .slice (some ⟨A + 2, 0, none⟩) 16 16]
    have B4 := B4.setsO (b2 := A + 1) (by omega) 0 [.int .u64 100, .int .u64 st, .slice (some ⟨A + 2, 0, none⟩) 16 16]
    have hBX := below_setCells (by show w.heap.size ≤ A + 1; omega) [.int .u64 100, .int .u64 st, .slice (some ⟨A + 2, 0, none⟩) 16 16] 0 _ hBX
    obtain ⟨Y, hY⟩ : ∃ Y : World, Y = X.setCells (A + 1) 0 [.int .u64 100, .int .u64 st, .slice (some ⟨A + 2, 0, none⟩) 16 16] := ⟨_, rfl⟩
    show K _ (X.setCells (A + 1) 0 [.int .u64 100, .int .u64 st, .slice (some ⟨A + 2, 0, none⟩) 16 16])
    rw [← hY] at B0 B1 B2 B3 hBX ⊢
    try rw [← hY] at B4
    have hz : A + 3 < Y.heap.size := B3.lt
    clear hY
    obtain ⟨X, rfl⟩ : ∃ X, X = Y := ⟨_, rfl⟩
    refine hK.out _ _ (Lib.hid B3) (fun hHeld2 => ?_)
    clear hK K hHeld hHeld2
    have hHeld : Hid (BoxN X (A + 3) 38 #[.int .u64 100, .int .u64 st, .slice (some ⟨A + 2, 0, none⟩) 16 16]) := Lib.hid B3
    try simp only [Act.put, List.setIfInBounds_toArray, List.set_cons_zero, List.set_cons_succ]
    refine wpAnyH_ready (rs := [7]) (by kernel_rfl) (by simp) ?_
    refine AllReadyH.cons rfl (fun K hK => ?_) AllReadyH.nil
    go_simp
    refine hK.out _ _ (Lib.hid B3) (fun hHeld2 => ?_)
    clear hK K hHeld hHeld2
    have hHeld : Hid (BoxN X (A + 3) 38 #[.int .u64 100, .int .u64 st, .slice (some ⟨A + 2, 0, none⟩) 16 16]) := Lib.hid B3
    try simp only [Act.put, List.setIfInBounds_toArray, List.set_cons_zero, List.set_cons_succ]
    refine wpAnyH_done (by kernel_rfl) ?_ _
    refine NoPanic.normal ?_
    have c0 : X.cell? ⟨A, 0, none⟩ = some (.int .i64 1) := B0.cell 0
    have c1 : X.cell? ⟨A, 1, none⟩ = some (.int .u64 100) := B0.cell 1
    have c2 : X.cell? ⟨A, 2, none⟩ = some (.int .u64 0) := B0.cell 2
    have c3 : X.cell? ⟨A, 3, none⟩ = some (.int .u64 20) := B0.cell 3
    have c4 : X.cell? ⟨A, 4, none⟩ = some (.int .u64 0) := B0.cell 4
    have c5 : X.cell? ⟨A, 5, none⟩ = some (.int .i64 0) := B0.cell 5
    have c6 : X.cell? ⟨A, 6, none⟩ = some (.int .i64 0) := B0.cell 6
    have c7 : X.cell? ⟨A, 7, none⟩ = some (.int .i64 0) := B0.cell 7
    have c8 : X.cell? ⟨A, 8, none⟩ = some (.int .i64 0) := B0.cell 8
    have c9 : X.cell? ⟨A, 9, none⟩ = some (.int .i64 0) := B0.cell 9
    have c10 : X.cell? ⟨A, 10, none⟩ = some (.int .i64 0) := B0.cell 10
    have c11 : X.cell? ⟨A, 11, none⟩ = some (.int .i64 0) := B0.cell 11
    have c12 : X.cell? ⟨A, 12, none⟩ = some (.int .i64 0) := B0.cell 12
    have c13 : X.cell? ⟨A, 13, none⟩ = some (.int .i64 0) := B0.cell 13
    have c14 : X.cell? ⟨A, 14, none⟩ = some (.int .i64 0) := B0.cell 14
    have c15 : X.cell? ⟨A, 15, none⟩ = some (.int .i64 0) := B0.cell 15
    have e0 : X.cell? ⟨A + 1, 0, none⟩ = some (.int .u64 100) := B1.cell 0
    have e1 : X.cell? ⟨A + 1, 1, none⟩ = some (.int .u64 st) := B1.cell 1
    have e2 : X.cell? ⟨A + 1, 2, none⟩ = some (.slice (some ⟨A + 2, 0, none⟩) 16 16) := B1.cell 2
    have hRz : RdI .u64 X (.slice (some ⟨A + 2, 0, none⟩) 16 16) rz := rd_box .u64 rz B2 (by decide)
    have hRp : RdC X (.slice (some ⟨Cb, 0, none⟩) 2 2) exP := rdS_box 6 2 (ccs exP) B4 rfl (by decide)
    have HRz := Lib.hid hRz
    have HRp := Lib.hid hRp
    clear B0 B1 B2 B3 B4 hHeld hRz hRp
    go_wp2_with fail
    exact bodyPost_ret (v := .tuple #[exF.v, .agg #[.int .u64 100, .int .u64 st, .slice (some ⟨A + 2, 0, none⟩) 16 16], .slice (some ⟨Cb, 0, none⟩) 2 2]) (by simp [results, Try.results61, go_sem, exF, c0, c1, c2, c3, c4, c5, c6, c7, c8, c9, c10, c11, c12, c13, c14, c15, e0, e1, e2]) rfl ⟨_, _, _, rfl, HRz.out, HRp.out, hBX⟩
  · refine wp_store_mid 35 (.tmp 2) (.tmp 9) rfl A 0 exFc.toArray rfl rfl (B0.there _ rfl) (by kernel_rfl) (by simp [exFc, Value.oneCell']) ?_
    have B0 := B0.sets exFc rfl
    have B1 := B1.setsO (b2 := A) (by omega) 0 exFc
    have B2 := B2.setsO (b2 := A) (by omega) 0 exFc
    have B3 := B3.setsO (b2 := A) (by omega) 0 exFc
    skip
    have hBX := below_setCells (by show w.heap.size ≤ A; omega) exFc 0 _ hBX
    obtain ⟨Y, hY⟩ : ∃ Y : World, Y = X.setCells A 0 exFc := ⟨_, rfl⟩
    show K _ (X.setCells A 0 exFc)
    rw [← hY] at B0 B1 B2 B3 hBX ⊢
    try rw [← hY] at B4
    have hz : A + 3 < Y.heap.size := B3.lt
    clear hY
    obtain ⟨X, rfl⟩ : ∃ X, X = Y := ⟨_, rfl⟩
    refine hK.out _ _ (Lib.hid B3) (fun hHeld2 => ?_)
    clear hK K hHeld hHeld2
    have hHeld : Hid (BoxN X (A + 3) 38 #[.int .u64 100, .int .u64 st, .slice (some ⟨A + 2, 0, none⟩) 16 16]) := Lib.hid B3
    try simp only [Act.put, List.setIfInBounds_toArray, List.set_cons_zero, List.set_cons_succ]
    refine wpAnyH_ready (rs := [4, 6]) (by kernel_rfl) (by simp) ?_
    refine AllReadyH.cons rfl (fun K hK => ?_) (AllReadyH.cons rfl (fun K hK => ?_) AllReadyH.nil)
    · go_simp
      have B4 := BoxN.new X 23 #[.int .i64 2, .int .i64 1, .int .i64 0, .int .i64 3, .int .i64 8, .int .i64 0, .int .i64 1, .int .i64 3, .int .i64 1, .int .i64 9, .int .i64 5, .int .i64 0]
      have B0 := B0.alloc (.cells #[.int .i64 2, .int .i64 1, .int .i64 0, .int .i64 3, .int .i64 8, .int .i64 0, .int .i64 1, .int .i64 3, .int .i64 1, .int .i64 9, .int .i64 5, .int .i64 0] 23)
      have B1 := B1.alloc (.cells #[.int .i64 2, .int .i64 1, .int .i64 0, .int .i64 3, .int .i64 8, .int .i64 0, .int .i64 1, .int .i64 3, .int .i64 1, .int .i64 9, .int .i64 5, .int .i64 0] 23)
      have B2 := B2.alloc (.cells #[.int .i64 2, .int .i64 1, .int .i64 0, .int .i64 3, .int .i64 8, .int .i64 0, .int .i64 1, .int .i64 3, .int .i64 1, .int .i64 9, .int .i64 5, .int .i64 0] 23)
      have B3 := B3.alloc (.cells #[.int .i64 2, .int .i64 1, .int .i64 0, .int .i64 3, .int .i64 8, .int .i64 0, .int .i64 1, .int .i64 3, .int .i64 1, .int .i64 9, .int .i64 5, .int .i64 0] 23)
      have hBX := Below.al hBX (.cells #[.int .i64 2, .int .i64 1, .int .i64 0, .int .i64 3, .int .i64 8, .int .i64 0, .int .i64 1, .int .i64 3, .int .i64 1, .int .i64 9, .int .i64 5, .int .i64 0] 23)
      obtain ⟨Y, hY⟩ : ∃ Y : World, Y = X.alloc (.cells #[.int .i64 2, .int .i64 1, .int .i64 0, .int .i64 3, .int .i64 8, .int .i64 0, .int .i64 1, .int .i64 3, .int .i64 1, .int .i64 9, .int .i64 5, .int .i64 0] 23) := ⟨_, rfl⟩
      rw [← hY] at B0 B1 B2 B3 B4 hBX ⊢
      obtain ⟨Cb, hCb⟩ : ∃ C, C = X.heap.size := ⟨_, rfl⟩
      rw [← hCb] at B4 ⊢
      have hCb4 : A + 3 < Cb := by rw [hCb]; exact hz
      have hz : A + 3 < Y.heap.size := B3.lt
      clear hY hCb
      obtain ⟨X, rfl⟩ : ∃ X, X = Y := ⟨_, rfl⟩
      refine hK.out _ _ (Lib.hid B3) (fun hHeld2 => ?_)
      clear hK K hHeld hHeld2
      have hHeld : Hid (BoxN X (A + 3) 38 #[.int .u64 100, .int .u64 st, .slice (some ⟨A + 2, 0, none⟩) 16 16]) := Lib.hid B3
      try simp only [Act.put, List.setIfInBounds_toArray, List.set_cons_zero, List.set_cons_succ]
      refine wpAnyH_ready (rs := [6]) (by kernel_rfl) (by simp) ?_
      refine AllReadyH.cons rfl (fun K hK => ?_) AllReadyH.nil
      refine wp_store_mid 38 (.tmp 3) (.tmp 10) rfl (A + 1) 0 #[.int .u64 100, .int .u64 st, .slice (some ⟨A + 2, 0, none⟩) 16 16] rfl rfl (B1.there _ rfl) (by kernel_rfl) (by simp [Value.oneCell']) ?_
      have B0 := B0.setsO (b2 := A + 1) (by omega) 0 [.int .u64 100, .int .u64 st, .slice (some ⟨A + 2, 0, none⟩) 16 16]
      have B1 := B1.sets [.int .u64 100, .int .u64 st, .slice (some ⟨A + 2, 0, none⟩) 16 16] rfl
      have B2 := B2.setsO (b2 := A + 1) (by omega) 0 [.int .u64 100, .int .u64 st, .slice (some ⟨A + 2, 0, none⟩) 16 16]
      have B3 := B3.setsO (b2 := A + 1) (by omega) 0 [.int .u64 100, .int .u64 st, .slice (some ⟨A + 2, 0, none⟩) 16 16]
      have B4 := B4.setsO (b2 := A + 1) (by omega) 0 [.int .u64 100, .int .u64 st, .slice (some ⟨A + 2, 0, none⟩) 16 16]
      have hBX := below_setCells (by show w.heap.size ≤ A + 1; omega) [.int .u64 100, .int .u64 st, .slice (some ⟨A + 2, 0, none⟩) 16 16] 0 _ hBX
      obtain ⟨Y, hY⟩ : ∃ Y : World, Y = X.setCells (A + 1) 0 [.int .u64 100, .int .u64 st, .slice (some ⟨A + 2, 0, none⟩) 16 16] := ⟨_, rfl⟩
      show K _ (X.setCells (A + 1) 0 [.int .u64 100, .int .u64 st, .slice (some ⟨A + 2, 0, none⟩) 16 16])
      rw [← hY] at B0 B1 B2 B3 hBX ⊢
      try rw [← hY] at B4
      have hz : A + 3 < Y.heap.size := B3.lt
      clear hY
      obtain ⟨X, rfl⟩ : ∃ X, X = Y := ⟨_, rfl⟩
      refine hK.out _ _ (Lib.hid B3) (fun hHeld2 => ?_)
      clear hK K hHeld hHeld2
      have hHeld : Hid (BoxN X (A + 3) 38 #[.int .u64 100, .int .u64 st, .slice (some ⟨A + 2, 0, none⟩) 16 16]) := Lib.hid B3
      try simp only [Act.put, List.setIfInBounds_toArray, List.set_cons_zero, List.set_cons_succ]
      refine wpAnyH_ready (rs := [7]) (by kernel_rfl) (by simp) ?_
      refine AllReadyH.cons rfl (fun K hK => ?_) AllReadyH.nil
      go_simp
      refine hK.out _ _ (Lib.hid B3) (fun hHeld2 => ?_)
      clear hK K hHeld hHeld2
      have hHeld : Hid (BoxN X (A + 3) 38 #[.int .u64 100, .int .u64 st, .slice (some ⟨A + 2, 0, none⟩) 16 16]) := Lib.hid B3
      try simp only [Act.put, List.setIfInBounds_toArray, List.set_cons_zero, List.set_cons_succ]
      refine wpAnyH_done (by kernel_rfl) ?_ _
      refine NoPanic.normal ?_
      have c0 : X.cell? ⟨A, 0, none⟩ = some (.int .i64 1) := B0.cell 0
      have c1 : X.cell? ⟨A, 1, none⟩ = some (.int .u64 100) := B0.cell 1
      have c2 : X.cell? ⟨A, 2, none⟩ = some (.int .u64 0) := B0.cell 2
      have c3 : X.cell? ⟨A, 3, none⟩ = some (.int .u64 20) := B0.cell 3
      have c4 : X.cell? ⟨A, 4, none⟩ = some (.int .u64 0) := B0.cell 4
      have c5 : X.cell? ⟨A, 5, none⟩ = some (.int .i64 0) := B0.cell 5
      have c6 : X.cell? ⟨A, 6, none⟩ = some (.int .i64 0) := B0.cell 6
      have c7 : X.cell? ⟨A, 7, none⟩ = some (.int .i64 0) := B0.cell 7
      have c8 : X.cell? ⟨A, 8, none⟩ = some (.int .i64 0) := B0.cell 8
      have c9 : X.cell? ⟨A, 9, none⟩ = some (.int .i64 0) := B0.cell 9
      have c10 : X.cell? ⟨A, 10, none⟩ = some (.int .i64 0) := B0.cell 10
      have c11 : X.cell? ⟨A, 11, none⟩ = some (.int .i64 0) := B0.cell 11
      have c12 : X.cell? ⟨A, 12, none⟩ = some (.int .i64 0) := B0.cell 12
      have c13 : X.cell? ⟨A, 13, none⟩ = some (.int .i64 0) := B0.cell 13
      have c14 : X.cell? ⟨A, 14, none⟩ = some (.int .i64 0) := B0.cell 14
      have c15 : X.cell? ⟨A, 15, none⟩ = some (.int .i64 0) := B0.cell 15
      have e0 : X.cell? ⟨A + 1, 0, none⟩ = some (.int .u64 100) := B1.cell 0
      have e1 : X.cell? ⟨A + 1, 1, none⟩ = some (.int .u64 st) := B1.cell 1
      have e2 : X.cell? ⟨A + 1, 2, none⟩ = some (.slice (some ⟨A + 2, 0, none⟩) 16 16) := B1.cell 2
      have hRz : RdI .u64 X (.slice (some ⟨A + 2, 0, none⟩) 16 16) rz := rd_box .u64 rz B2 (by decide)
      have hRp : RdC X (.slice (some ⟨Cb, 0, none⟩) 2 2) exP := rdS_box 6 2 (ccs exP) B4 rfl (by decide)
      have HRz := Lib.hid hRz
      have HRp := Lib.hid hRp
      clear B0 B1 B2 B3 B4 hHeld hRz hRp
      go_wp2_with fail
      exact bodyPost_ret (v := .tuple #[exF.v, .agg #[.int .u64 100, .int .u64 st, .slice (some ⟨A + 2, 0, none⟩) 16 16], .slice (some ⟨Cb, 0, none⟩) 2 2]) (by simp [results, Try.results61, go_sem, exF, c0, c1, c2, c3, c4, c5, c6, c7, c8, c9, c10, c11, c12, c13, c14, c15, e0, e1, e2]) rfl ⟨_, _, _, rfl, HRz.out, HRp.out, hBX⟩
    · refine wp_store_mid 38 (.tmp 3) (.tmp 10) rfl (A + 1) 0 #[.int .u64 100, .int .u64 st, .slice (some ⟨A + 2, 0, none⟩) 16 16] rfl rfl (B1.there _ rfl) (by kernel_rfl) (by simp [Value.oneCell']) ?_
      have B0 := B0.setsO (b2 := A + 1) (by omega) 0 [.int .u64 100, .int .u64 st, .slice (some ⟨A + 2, 0, none⟩) 16 16]
      have B1 := B1.sets [.int .u64 100, .int .u64 st, .slice (some ⟨A + 2, 0, none⟩) 16 16] rfl
      have B2 := B2.setsO (b2 := A + 1) (by omega) 0 [.int .u64 100, .int .u64 st, .slice (some ⟨A + 2, 0, none⟩) 16 16]
      have B3 := B3.setsO (b2 := A + 1) (by omega) 0 [.int .u64 100, .int .u64 st, .slice (some ⟨A + 2, 0, none⟩) 16 16]
      skip
      have hBX := below_setCells (by show w.heap.size ≤ A + 1; omega) [.int .u64 100, .int .u64 st, .slice (some ⟨A + 2, 0, none⟩) 16 16] 0 _ hBX
      obtain ⟨Y, hY⟩ : ∃ Y : World, Y = X.setCells (A + 1) 0 [.int .u64 100, .int .u64 st, .slice (some ⟨A + 2, 0, none⟩) 16 16] := ⟨_, rfl⟩
      show K _ (X.setCells (A + 1) 0 [.int .u64 100, .int .u64 st, .slice (some ⟨A + 2, 0, none⟩) 16 16])
      rw [← hY] at B0 B1 B2 B3 hBX ⊢
      try rw [← hY] at B4
      have hz : A + 3 < Y.heap.size := B3.lt
      clear hY
      obtain ⟨X, rfl⟩ : ∃ X, X = Y := ⟨_, rfl⟩
      refine hK.out _ _ (Lib.hid B3) (fun hHeld2 => ?_)
      clear hK K hHeld hHeld2
      have hHeld : Hid (BoxN X (A + 3) 38 #[.int .u64 100, .int .u64 st, .slice (some ⟨A + 2, 0, none⟩) 16 16]) := Lib.hid B3
      try simp only [Act.put, List.setIfInBounds_toArray, List.set_cons_zero, List.set_cons_succ]
      refine wpAnyH_ready (rs := [4]) (by kernel_rfl) (by simp) ?_
      refine AllReadyH.cons rfl (fun K hK => ?_) AllReadyH.nil
      go_simp
      have B4 := BoxN.new X 23 #[.int .i64 2, .int .i64 1, .int .i64 0, .int .i64 3, .int .i64 8, .int .i64 0, .int .i64 1, .int .i64 3, .int .i64 1, .int .i64 9, .int .i64 5, .int .i64 0]
      have B0 := B0.alloc (.cells #[.int .i64 2, .int .i64 1, .int .i64 0, .int .i64 3, .int .i64 8, .int .i64 0, .int .i64 1, .int .i64 3, .int .i64 1, .int .i64 9, .int .i64 5, .int .i64 0] 23)
      have B1 := B1.alloc (.cells #[.int .i64 2, .int .i64 1, .int .i64 0, .int .i64 3, .int .i64 8, .int .i64 0, .int .i64 1, .int .i64 3, .int .i64 1, .int .i64 9, .int .i64 5, .int .i64 0] 23)
      have B2 := B2.alloc (.cells #[.int .i64 2, .int .i64 1, .int .i64 0, .int .i64 3, .int .i64 8, .int .i64 0, .int .i64 1, .int .i64 3, .int .i64 1, .int .i64 9, .int .i64 5, .int .i64 0] 23)
      have B3 := B3.alloc (.cells #[.int .i64 2, .int .i64 1, .int .i64 0, .int .i64 3, .int .i64 8, .int .i64 0, .int .i64 1, .int .i64 3, .int .i64 1, .int .i64 9, .int .i64 5, .int .i64 0] 23)
      have hBX := Below.al hBX (.cells #[.int .i64 2, .int .i64 1, .int .i64 0, .int .i64 3, .int .i64 8, .int .i64 0, .int .i64 1, .int .i64 3, .int .i64 1, .int .i64 9, .int .i64 5, .int .i64 0] 23)
      obtain ⟨Y, hY⟩ : ∃ Y : World, Y = X.alloc (.cells #[.int .i64 2, .int .i64 1, .int .i64 0, .int .i64 3, .int .i64 8, .int .i64 0, .int .i64 1, .int .i64 3, .int .i64 1, .int .i64 9, .int .i64 5, .int .i64 0] 23) := ⟨_, rfl⟩
      rw [← hY] at B0 B1 B2 B3 B4 hBX ⊢
      obtain ⟨Cb, hCb⟩ : ∃ C, C = X.heap.size := ⟨_, rfl⟩
      rw [← hCb] at B4 ⊢
      have hCb4 : A + 3 < Cb := by rw [hCb]; exact hz
      have hz : A + 3 < Y.heap.size := B3.lt
      clear hY hCb
      obtain ⟨X, rfl⟩ : ∃ X, X = Y := ⟨_, rfl⟩
      refine hK.out _ _ (Lib.hid B3) (fun hHeld2 => ?_)
      clear hK K hHeld hHeld2
      have hHeld : Hid (BoxN X (A + 3) 38 #[.int .u64 100, .int .u64 st, .slice (some ⟨A + 2, 0, none⟩) 16 16]) := Lib.hid B3
      try simp only [Act.put, List.setIfInBounds_toArray, List.set_cons_zero, List.set_cons_succ]
      refine wpAnyH_ready (rs := [7]) (by kernel_rfl) (by simp) ?_
      refine AllReadyH.cons rfl (fun K hK => ?_) AllReadyH.nil
      go_simp
      refine hK.out _ _ (Lib.hid B3) (fun hHeld2 => ?_)
      clear hK K hHeld hHeld2
      have hHeld : Hid (BoxN X (A + 3) 38 #[.int .u64 100, .int .u64 st, .slice (some ⟨A + 2, 0, none⟩) 16 16]) := Lib.hid B3
      try simp only [Act.put, List.setIfInBounds_toArray, List.set_cons_zero, List.set_cons_succ]
      refine wpAnyH_done (by kernel_rfl) ?_ _
      refine NoPanic.normal ?_
      have c0 : X.cell? ⟨A, 0, none⟩ = some (.int .i64 1) := B0.cell 0
      have c1 : X.cell? ⟨A, 1, none⟩ = some (.int .u64 100) := B0.cell 1
      have c2 : X.cell? ⟨A, 2, none⟩ = some (.int .u64 0) := B0.cell 2
      have c3 : X.cell? ⟨A, 3, none⟩ = some (.int .u64 20) := B0.cell 3
      have c4 : X.cell? ⟨A, 4, none⟩ = some (.int .u64 0) := B0.cell 4
      have c5 : X.cell? ⟨A, 5, none⟩ = some (.int .i64 0) := B0.cell 5
      have c6 : X.cell? ⟨A, 6, none⟩ = some (.int .i64 0) := B0.cell 6
      have c7 : X.cell? ⟨A, 7, none⟩ = some (.int .i64 0) := B0.cell 7
      have c8 : X.cell? ⟨A, 8, none⟩ = some (.int .i64 0) := B0.cell 8
      have c9 : X.cell? ⟨A, 9, none⟩ = some (.int .i64 0) := B0.cell 9
      have c10 : X.cell? ⟨A, 10, none⟩ = some (.int .i64 0) := B0.cell 10
      have c11 : X.cell? ⟨A, 11, none⟩ = some (.int .i64 0) := B0.cell 11
      have c12 : X.cell? ⟨A, 12, none⟩ = some (.int .i64 0) := B0.cell 12
      have c13 : X.cell? ⟨A, 13, none⟩ = some (.int .i64 0) := B0.cell 13
      have c14 : X.cell? ⟨A, 14, none⟩ = some (.int .i64 0) := B0.cell 14
      have c15 : X.cell? ⟨A, 15, none⟩ = some (.int .i64 0) := B0.cell 15
      have e0 : X.cell? ⟨A + 1, 0, none⟩ = some (.int .u64 100) := B1.cell 0
      have e1 : X.cell? ⟨A + 1, 1, none⟩ = some (.int .u64 st) := B1.cell 1
      have e2 : X.cell? ⟨A + 1, 2, none⟩ = some (.slice (some ⟨A + 2, 0, none⟩) 16 16) := B1.cell 2
      have hRz : RdI .u64 X (.slice (some ⟨A + 2, 0, none⟩) 16 16) rz := rd_box .u64 rz B2 (by decide)
      have hRp : RdC X (.slice (some ⟨Cb, 0, none⟩) 2 2) exP := rdS_box 6 2 (ccs exP) B4 rfl (by decide)
      have HRz := Lib.hid hRz
      have HRp := Lib.hid hRp
      clear B0 B1 B2 B3 B4 hHeld hRz hRp
      go_wp2_with fail
      exact bodyPost_ret (v := .tuple #[exF.v, .agg #[.int .u64 100, .int .u64 st, .slice (some ⟨A + 2, 0, none⟩) 16 16], .slice (some ⟨Cb, 0, none⟩) 2 2]) (by simp [results, Try.results61, go_sem, exF, c0, c1, c2, c3, c4, c5, c6, c7, c8, c9, c10, c11, c12, c13, c14, c15, e0, e1, e2]) rfl ⟨_, _, _, rfl, HRz.out, HRp.out, hBX⟩

def SomeB (w : World) (e : Ending) (w' : World) : Prop := ∃ b, e = .returned (.bool b) ∧ Below w.heap.size w w'
set_option maxHeartbeats 1000000 in
theorem asked_any (q st : Int) (ra : Option Addr) (rn rc : Nat) (pa : Option Addr) (pn pc : Nat) (un now : Int) (hno : Ib now) (hun : Ib un) (w : World) :
    Calls Try.prog 27 #[.agg #[.int .u64 q, .int .u64 st, .slice ra rn rc], .slice pa pn pc, .int .i64 un, .int .i64 now] w (SomeB w) := by
  by_cases t1 : pn ≤ 20
  · have d1 : decide ((pn : Int) ≤ 20) = true := yb (by omega)
    by_cases t2 : rn ≤ 20
    · have d2 : decide ((rn : Int) ≤ 20) = true := yb (by omega)
      by_cases t3 : un ≤ now
      · have d3 : decide (un ≤ now) = true := yb t3
        go_enter Try.func27, Try.ntmps27
        go_wp2_with fail
        go_ret
        exact ⟨_, rfl, (by repeat (first | assumption | exact Below.refl _ _ | apply Below.al | apply below_drewN | apply Below.drew | refine Below.next ?_ (by assumption)))⟩
      · have d3 : decide (un ≤ now) = false := nb t3
        by_cases t4 : now < 0
        · have d4 : decide (now < 0) = true := yb t4
          go_enter Try.func27, Try.ntmps27
          go_wp2_with fail
          go_ret
          exact ⟨_, rfl, (by repeat (first | assumption | exact Below.refl _ _ | apply Below.al | apply below_drewN | apply Below.drew | refine Below.next ?_ (by assumption)))⟩
        · have d4 : decide (now < 0) = false := nb t4
          have hws : IntKind.i64.wrap (un - now) = un - now := IntWalk.i64_in _ (by omega)
          by_cases t5 : un - now ≤ 120
          · have d5 : decide (un - now ≤ 120) = true := yb t5
            go_enter Try.func27, Try.ntmps27
            go_wp2_with fail
            go_ret
            exact ⟨_, rfl, (by repeat (first | assumption | exact Below.refl _ _ | apply Below.al | apply below_drewN | apply Below.drew | refine Below.next ?_ (by assumption)))⟩
          · have d5 : decide (un - now ≤ 120) = false := nb t5
            by_cases t6 : 1000 < un - now
            · have d6 : decide (1000 < un - now) = true := yb t6
              go_enter Try.func27, Try.ntmps27
              go_wp2_with fail
              go_ret
              exact ⟨_, rfl, (by repeat (first | assumption | exact Below.refl _ _ | apply Below.al | apply below_drewN | apply Below.drew | refine Below.next ?_ (by assumption)))⟩
            · have d6 : decide (1000 < un - now) = false := nb t6
              go_enter Try.func27, Try.ntmps27
              go_wp2_with fail
              go_ret
              exact ⟨_, rfl, (by repeat (first | assumption | exact Below.refl _ _ | apply Below.al | apply below_drewN | apply Below.drew | refine Below.next ?_ (by assumption)))⟩
    · have d2 : decide ((rn : Int) ≤ 20) = false := nb (by omega)
      go_enter Try.func27, Try.ntmps27
      go_wp2_with fail
      go_ret
      exact ⟨_, rfl, (by repeat (first | assumption | exact Below.refl _ _ | apply Below.al | apply below_drewN | apply Below.drew | refine Below.next ?_ (by assumption)))⟩
  · have d1 : decide ((pn : Int) ≤ 20) = false := nb (by omega)
    go_enter Try.func27, Try.ntmps27
    go_wp2_with fail
    go_ret
    exact ⟨_, rfl, (by repeat (first | assumption | exact Below.refl _ _ | apply Below.al | apply below_drewN | apply Below.drew | refine Below.next ?_ (by assumption)))⟩
end Go.Proofs.Ytnbjdgjopdeolaa
