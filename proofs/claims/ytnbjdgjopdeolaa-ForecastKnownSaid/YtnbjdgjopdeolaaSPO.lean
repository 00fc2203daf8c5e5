

/- The kit's copies and comparisons of spaces. -/
import Derived.Test.YtnbjdgjopdeolaaRM
import Derived.Test.YtnbjdgjopdeolaaV
namespace Go.Proofs.Ytnbjdgjopdeolaa
open Go.RowKit Go.Shelf
set_option linter.unusedSimpArgs false
set_option linter.unusedVariables false
set_option maxRecDepth 100000

theorem ownNumbers_any (v : Value) (xs : List Int) (hl : xs.length ≤ 1000000) (w : World) (h : RdI .u64 w v xs) :
    Calls Try.prog 73 #[v] w fun e w' => ∃ a c, e = .returned (.slice a xs.length c) ∧ RdI .u64 w' (.slice a xs.length c) xs ∧ Fresh w.heap.size (.slice a xs.length c) ∧ Below w.heap.size w w' := by
  have hrd0 : RdS (w.alloc (.cells #[] 32)) 1 v xs.length (ic .u64 xs) := h.keep (by repeat (first | assumption | exact Below.refl _ _ | apply Below.al | apply below_drewN | apply Below.drew | refine Below.next ?_ (by assumption)))
  have hown0 : (w.alloc (.cells #[] 32)).ownsRow w.heap.size 32 1 (.slice (some ⟨w.heap.size, 0, none⟩) 0 0) 0 [] := owns_block _ _ 32 1 0 [] _ (Nat.le_refl _) (heap_last w _) rfl (by decide)
  obtain ⟨N, hN⟩ : ∃ N, xs.length = N := ⟨_, rfl⟩
  rw [hN] at hl hrd0 ⊢
  have HN := Lib.hid hN
  have HRD := Lib.hid hrd0
  clear hN h hrd0
  go_enter Try.func73, Try.ntmps73
  go_wp2_with (at_builtin; refine wpList_app rfl (.tmp 3) (.tmp 4) 36 rfl w.heap.size 32 (.int .u64 0) 1 8 E22 _ 0 [] rfl hown0 _ N (ic .u64 xs) rfl HRD.out (ic_one _ _) ?c1 ?c2 ?c3 ?c4)
  case c1 => unfold maxLen; omega
  case c2 => omega
  case c3 => simp
  case c4 =>
    intro a3 c3 w3 hown3 hg3 hb3
    have hown3 : w3.ownsRow w.heap.size 32 1 (.slice a3 N c3) N (ic .u64 xs) := by first | with_reducible exact hown3 | simpa using hown3
    have hR : RdI .u64 w3 (.slice a3 N c3) xs := by
      have := RdS.of_owns hown3 (by decide)
      unfold RdI; rw [HN.out]; exact this
    have hF := Fresh.of_owns hown3
    have hB : Below w.heap.size w w3 := Below.trans (Below.al (Below.refl _ _) _) hb3
    clear hown3 hown0 hg3
    have HR := Lib.hid hR
    clear hR
    go_wp2
    go_ret
    exact ⟨_, _, rfl, HR.out, hF, hB⟩
set_option maxHeartbeats 1000000 in
theorem sameNumbers_eq (v u : Value) (xs : List Int) (hl : xs.length ≤ 1000000) (w : World) (h : RdI .u64 w v xs) (hu : RdI .u64 w u xs) :
    Calls Try.prog 78 #[v, u] w fun e w' => e = .returned (.bool true) ∧ Below w.heap.size w w' := by
  obtain ⟨a0, n0, rfl⟩ := h.form
  obtain ⟨a1, n1, rfl⟩ := hu.form
  obtain ⟨N, hN⟩ : ∃ N, xs.length = N := ⟨_, rfl⟩
  rw [hN] at h hu hl ⊢
  have HR := Lib.hid h
  have HU := Lib.hid hu
  have HN := Lib.hid hN
  clear h hu hN
  have d0 : ((N : Int) != (N : Int)) = false := by simp
  go_enter Try.func78, Try.ntmps78
  go_wp2
  go_loopw [5] (fun i wr => ∃ k : Nat, k ≤ N ∧ i = .int .i64 k ∧ Below w.heap.size w wr) (fun i _ => N - (intOf i).toNat)
  case atStart => exact ⟨0, Nat.zero_le _, rfl, Below.refl _ _⟩
  case round =>
    obtain ⟨k, hk, rfl, hB⟩ := hrel
    by_cases hlt : k < N
    · have d2 : decide ((k : Int) < (N : Int)) = true := yb (by omega)
      obtain ⟨b1, o1, rfl, hc1, h1⟩ := HR.out.at HN.out k hlt
      obtain ⟨b2, o2, rfl, hc2, h2⟩ := HU.out.at HN.out k hlt
      have h1 := cell_later hB h1
      have h2 := cell_later hB h2
      obtain ⟨x, HX⟩ : ∃ x, Hid (xs.getD k 0 = x) := ⟨_, rfl⟩
      rw [HX.out] at h1 h2
      have hne : (x != x) = false := by simp
      have i1 : (0 : Int) ≤ (k : Int) := by omega
      have i2 : (k : Int) < (N : Int) := by omega
      have hwk : IntKind.i64.wrap (k : Int) = (k : Int) := IntWalk.i64_in _ (by omega)
      go_wp2_with fail
      go_quiet (fail)
      go_wp2_with fail
      go_roundw
      case rel => exact ⟨k + 1, by omega, by go_num, below_drewN hB _⟩
      case measure => simp [intOf]; omega
    · have d2 : decide ((k : Int) < (N : Int)) = false := nb (by omega)
      go_wp2_with fail
      go_ret
      exact ⟨rfl, hB⟩
set_option maxHeartbeats 1000000 in
theorem sameSpace_eq (q st : Int) (v u : Value) (xs : List Int) (hl : xs.length ≤ 1000000) (w : World) (h : RdI .u64 w v xs) (h2 : RdI .u64 w u xs) :
    Calls Try.prog 34 #[Sv q st v, Sv q st u] w fun e w' => e = .returned (.bool true) ∧ Below w.heap.size w w' := by
  have HV := Lib.hid h
  have HU := Lib.hid h2
  clear h h2
  go_enter Try.func34, Try.ntmps34
  go_wp2_with fail
  refine (sameNumbers_eq v u xs hl _ (HV.out.keep (by repeat (first | assumption | exact Below.refl _ _ | apply Below.al | apply below_drewN | apply Below.drew | refine Below.next ?_ (by assumption)))) (HU.out.keep (by repeat (first | assumption | exact Below.refl _ _ | apply Below.al | apply below_drewN | apply Below.drew | refine Below.next ?_ (by assumption))))).mono ?_
  rintro e w1 ⟨rfl, hb⟩
  have hB : Below w.heap.size w w1 := (by repeat (first | assumption | exact Below.refl _ _ | apply Below.al | apply below_drewN | apply Below.drew | refine Below.next ?_ (by assumption)))
  clear hb
  go_wp2_with fail
  go_ret
  exact ⟨rfl, hB⟩
/-- a space in new memory -/
def SpV (w : World) (q st : Int) (xs : List Int) (e : Ending) (w' : World) : Prop :=
  ∃ a c, e = .returned (Sv q st (.slice a xs.length c)) ∧ RdI .u64 w' (.slice a xs.length c) xs ∧ Below w.heap.size w w'
set_option maxHeartbeats 1000000 in
theorem ownSpace_any (q st : Int) (rs : Value) (xs : List Int) (hl : xs.length ≤ 1000000) (w : World) (h : RdI .u64 w rs xs) :
    Calls Try.prog 29 #[Sv q st rs] w (SpV w q st xs) := by
  have HR := Lib.hid h
  clear h
  go_enter Try.func29, Try.ntmps29
  go_wp2
  obtain ⟨V1, hV1⟩ : ∃ V : World, V = w.alloc (.cells #[.int .u64 q, .int .u64 st, rs] 38) := ⟨_, rfl⟩
  obtain ⟨W, hW⟩ : ∃ W : World, W = V1.alloc (.cells #[.int .u64 0, .int .u64 0, .slice none 0 0] 38) := ⟨_, rfl⟩
  rw [← hV1, ← hW]
  have s1 : V1.heap.size = w.heap.size + 1 := by rw [hV1]; simp
  have b0 : BoxN W w.heap.size 38 #[.int .u64 q, .int .u64 st, rs] := by
    have := BoxN.new w 38 #[.int .u64 q, .int .u64 st, rs]
    rw [← hV1] at this
    rw [hW]; exact this.alloc _
  have b1 : BoxN W (w.heap.size + 1) 38 #[.int .u64 0, .int .u64 0, .slice none 0 0] := by
    have := BoxN.new V1 38 #[.int .u64 0, .int .u64 0, .slice none 0 0]
    rw [← hW, s1] at this
    exact this
  have hB : Below w.heap.size w W := by rw [hW, hV1]; exact (by repeat (first | assumption | exact Below.refl _ _ | apply Below.al | apply below_drewN | apply Below.drew | refine Below.next ?_ (by assumption)))
  clear hW hV1 s1
  refine wp_region_noPanic ?_
  refine wp_region_held_drew (S := (fun w' => BoxN w' w.heap.size 38 #[.int .u64 q, .int .u64 st, rs])) (by kernel_rfl) b0 (fun hHeld => ?_)
  refine reg_tk (v := ?_) 0 3 rfl rfl (by kernel_rfl) (by kernel_rfl) (by kernel_rfl) (fun _ _ _ h => h) (by rfl) ?_ (by assumption) ?_
  rotate_left
  · (intro w hSw; (try dsimp only at hSw); go_simp; (try with_reducible rfl))
  simp only [List.setIfInBounds_toArray, List.set_cons_zero, List.set_cons_succ]
  refine reg_tk (v := .int .u64 q) 1 4 rfl rfl (by kernel_rfl) (by kernel_rfl) (by kernel_rfl) (fun _ _ _ h => h) (by rfl) (fun w3 hS => by have g := BoxN.cell hS 0; go_simp) (by assumption) ?_
  simp only [List.setIfInBounds_toArray, List.set_cons_zero, List.set_cons_succ]
  refine reg_tk (v := ?_) 2 5 rfl rfl (by kernel_rfl) (by kernel_rfl) (by kernel_rfl) (fun _ _ _ h => h) (by rfl) ?_ (by assumption) ?_
  rotate_left
  · (intro w hSw; (try dsimp only at hSw); go_simp; (try with_reducible rfl))
  simp only [List.setIfInBounds_toArray, List.set_cons_zero, List.set_cons_succ]
  refine reg_tk (v := .int .u64 st) 3 6 rfl rfl (by kernel_rfl) (by kernel_rfl) (by kernel_rfl) (fun _ _ _ h => h) (by rfl) (fun w3 hS => by have g := BoxN.cell hS 1; go_simp) (by assumption) ?_
  simp only [List.setIfInBounds_toArray, List.set_cons_zero, List.set_cons_succ]
  refine reg_tk (v := ?_) 4 7 rfl rfl (by kernel_rfl) (by kernel_rfl) (by kernel_rfl) (fun _ _ _ h => h) (by rfl) ?_ (by assumption) ?_
  rotate_left
  · (intro w hSw; (try dsimp only at hSw); go_simp; (try with_reducible rfl))
  simp only [List.setIfInBounds_toArray, List.set_cons_zero, List.set_cons_succ]
  refine reg_tk (v := rs) 5 8 rfl rfl (by kernel_rfl) (by kernel_rfl) (by kernel_rfl) (fun _ _ _ h => h) (by rfl) (fun w3 hS => by have g := BoxN.cell hS 2; go_simp) (by assumption) ?_
  simp only [List.setIfInBounds_toArray, List.set_cons_zero, List.set_cons_succ]
  have b0 : BoxN W.drew _ _ _ := b0
  have b1 : BoxN W.drew _ _ _ := b1
  have hB : Below w.heap.size w W.drew := hB.drew
  refine wpAnyH_ready (rs := [6]) (by kernel_rfl) (by simp) ?_
  refine AllReadyH.cons rfl (fun K hK => ?_) AllReadyH.nil
  go_simp
  refine (ownNumbers_any rs xs hl _ (HR.out.keep hB)).mono ?_
  rintro e w2 ⟨a, c, rfl, hrd, hF, hb⟩
  have hz := b1.lt
  have b0 := b0.below hb
  have b1 := b1.below hb
  have hB := Below.next hB hb
  have HRD := Lib.hid hrd
  clear hrd hb
  refine hK.out _ _ b0 (fun hHeld2 => ?_)
  clear hK K hHeld
  have hHeld := hHeld2
  clear hHeld2
  try simp only [Act.put, List.setIfInBounds_toArray, List.set_cons_zero, List.set_cons_succ]
  refine reg_tk (v := ?_) 7 10 rfl rfl (by kernel_rfl) (by kernel_rfl) (by kernel_rfl) (fun _ _ _ h => h) (by rfl) ?_ (by assumption) ?_
  rotate_left
  · (intro w hSw; (try dsimp only at hSw); go_simp; (try with_reducible rfl))
  simp only [List.setIfInBounds_toArray, List.set_cons_zero, List.set_cons_succ]
  refine wpAnyH_ready (rs := [8]) (by kernel_rfl) (by simp) ?_
  refine AllReadyH.cons rfl (fun K hK => ?_) AllReadyH.nil
  refine wp_store_mid 38 (.tmp 2) (.tmp 10) rfl (w.heap.size + 1) 0 #[.int .u64 q, .int .u64 st, .slice a xs.length c] rfl rfl (b1.there _ rfl) (by kernel_rfl) (by simp [Value.oneCell']) ?_
  have b0 := b0.setsO (b2 := w.heap.size + 1) (by omega) 0 [.int .u64 q, .int .u64 st, .slice a xs.length c]
  have b1 := b1.sets [.int .u64 q, .int .u64 st, .slice a xs.length c] rfl
  have hB := below_setCells (by omega : w.heap.size ≤ w.heap.size + 1) [.int .u64 q, .int .u64 st, .slice a xs.length c] 0 _ hB
  have hrd : RdI .u64 (w2.setCells (w.heap.size + 1) 0 [.int .u64 q, .int .u64 st, .slice a xs.length c]) (.slice a xs.length c) xs :=
    RdI.set _ (RdI.set _ (RdI.set _ HRD.out hF hz) hF hz) hF hz
  obtain ⟨Z, hZ⟩ : ∃ Z : World, Z = w2.setCells (w.heap.size + 1) 0 [.int .u64 q, .int .u64 st, .slice a xs.length c] := ⟨_, rfl⟩
  show K _ (w2.setCells (w.heap.size + 1) 0 [.int .u64 q, .int .u64 st, .slice a xs.length c])
  rw [← hZ] at b0 b1 hB hrd ⊢
  have HRD := Lib.hid hrd
  clear hZ hrd
  refine hK.out _ _ b0 (fun hHeld2 => ?_)
  clear hK K hHeld
  have hHeld := hHeld2
  clear hHeld2
  try simp only [Act.put, List.setIfInBounds_toArray, List.set_cons_zero, List.set_cons_succ]
  refine wpAnyH_done (by kernel_rfl) ?_ _
  refine NoPanic.normal ?_
  have y0 : Z.cell? ⟨w.heap.size + 1, 0, none⟩ = some (.int .u64 q) := b1.cell 0
  have y1 : Z.cell? ⟨w.heap.size + 1, 1, none⟩ = some (.int .u64 st) := b1.cell 1
  have y2 : Z.cell? ⟨w.heap.size + 1, 2, none⟩ = some (.slice a xs.length c) := b1.cell 2
  clear b0 b1 hHeld
  go_wp2_with fail
  exact bodyPost_ret (v := Sv q st (.slice a xs.length c)) (by simp [results, Try.results29, go_sem, y0, y1, y2]) rfl ⟨_, _, rfl, HRD.out, hB⟩
end Go.Proofs.Ytnbjdgjopdeolaa
