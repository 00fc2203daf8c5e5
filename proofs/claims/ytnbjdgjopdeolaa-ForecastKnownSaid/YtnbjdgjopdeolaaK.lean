

/- Volume: Between (the program's). -/
import Derived.Test.YtnbjdgjopdeolaaJ
namespace Go.Proofs.Ytnbjdgjopdeolaa
open Go.RowKit Go.Shelf
set_option linter.unusedSimpArgs false
set_option linter.unusedVariables false
set_option maxRecDepth 100000
attribute [local go_sem] Oper.semAt_some

def nodeB (n : Int) : Bool := decide (1 ≤ n ∧ n ≤ 16)
theorem node_any (n : Int) (w : World) : Calls Try.prog 81 #[.int .i64 n] w fun e w' => e = .returned (.bool (nodeB n)) ∧ w = w' := by
  go_enter Try.func81, Try.ntmps81
  go_wp2_with (go_at_call 94; refine (within_any _ _ _ _).mono ?_; rintro e w' ⟨rfl, rfl⟩)
  go_ret
  exact ⟨by simp [nodeB], rfl⟩

/-- what two ticks of a contact carry -/
def part (c : Ct) (t u : Int) : Int := if pos c t < pos c u then pos c u - pos c t else 0
def betw (cs : List Ct) (fr dt t u : Int) : Nat → Int
  | 0 => 0
  | k + 1 => if (cs.getD k c0).fr = fr ∧ (cs.getD k c0).dt = dt then IntKind.i64.wrap (betw cs fr dt t u k + part (cs.getD k c0) t u) else betw cs fr dt t u k
def betwF {cs : List Ct} {fr dt : Int} (t u : Int) (xs : List (Px cs fr dt)) : Int := xs.foldl (fun s x => IntKind.i64.wrap (s + part x.1.2 t u)) 0
theorem betwF_snoc {cs : List Ct} {fr dt : Int} (t u : Int) (xs : List (Px cs fr dt)) (x : Px cs fr dt) : betwF t u (xs ++ [x]) = IntKind.i64.wrap (betwF t u xs + part x.1.2 t u) := by simp [betwF]
theorem betwF_picks (cs : List Ct) (fr dt t u : Int) : ∀ k, k ≤ cs.length → betwF t u (picks cs fr dt k) = betw cs fr dt t u k
  | 0, _ => rfl
  | k + 1, hk => by
    unfold betw
    by_cases h : (cs.getD k c0).fr = fr ∧ (cs.getD k c0).dt = dt
    · obtain ⟨x, hx, hx1, hx2⟩ := picks_yes (cs := cs) (k := k) (by omega) h.1 h.2
      rw [hx, if_pos h, betwF_snoc, betwF_picks cs fr dt t u k (by omega), hx2]
    · rw [picks_no h, if_neg h, betwF_picks cs fr dt t u k (by omega)]

theorem ok_of_planChk {cs : List Ct} (h : planChk cs = (0, 0)) : cs.length ≤ 200 ∧ ∀ j, j < cs.length → stepE cs j = 0 := by
  unfold planChk at h
  by_cases hl : 200 < cs.length
  · rw [if_pos hl] at h; simp at h
  · rw [if_neg hl] at h
    refine ⟨by omega, ?_⟩
    have key : ∀ n, scan cs n = (0, 0) → ∀ j, j < n → stepE cs j = 0 := by
      intro n
      induction n with
      | zero => intro _ j hj; omega
      | succ n ih =>
        intro hs j hj
        unfold scan at hs
        by_cases h1 : (scan cs n).1 ≠ 0
        · rw [if_pos h1] at hs
          rw [hs] at h1
          simp at h1
        · rw [if_neg h1] at hs
          have h2 : stepE cs n = 0 := by
            by_cases h3 : stepE cs n = 0
            · exact h3
            · rw [if_neg h3] at hs; simp at hs; exact absurd hs.1 h3
          have h4 : scan cs n = (0, 0) := by
            cases n with
            | zero => rfl
            | succ n =>
              conv => { lhs; unfold scan }
              by_cases h5 : (scan cs n).1 ≠ 0
              · exfalso
                apply h1
                show (scan cs (n + 1)).1 ≠ 0
                conv => { lhs; unfold scan }
                rw [if_pos h5]
                exact h5
              · rw [if_neg h5]
                by_cases h6 : stepE cs n = 0
                · rw [if_pos h6]
                · exfalso
                  apply h1
                  show (scan cs (n + 1)).1 ≠ 0
                  conv => { lhs; unfold scan }
                  rw [if_neg h5, if_neg h6]
                  exact h6
          by_cases hjn : j = n
          · rw [hjn]; exact h2
          · exact ih h4 j (by omega)
    exact key _ h
theorem okC_of {cs : List Ct} (h : planChk cs = (0, 0)) {j : Nat} (hj : j < cs.length) : okC (cs.getD j c0) := (stepE_ok ((ok_of_planChk h).2 j hj)).1


set_option maxHeartbeats 2000000 in
theorem between_yes (cs : List Ct) (v : Value) (fr dt t u : Int) (hwf : ∀ c, c ∈ cs → Wf c) (hok : planChk cs = (0, 0)) (h1 : nodeB fr = true) (h2 : nodeB dt = true) (h3 : tickB t = true) (h4 : tickB u = true) (w : World) (h : RdC w v cs) :
    Calls Try.prog 39 #[v, .int .i64 fr, .int .i64 dt, .int .i64 t, .int .i64 u] w fun e w' => e = .returned (.tuple #[.int .i64 (betw cs fr dt t u cs.length), .int .i64 0]) ∧ Below w.heap.size w w' := by
  obtain ⟨a0, n0, rfl⟩ := h.form
  obtain ⟨N, hN⟩ : ∃ N, cs.length = N := ⟨_, rfl⟩
  have HR : Hid (RdC w (.slice a0 N n0) cs) := by unfold Hid; rw [← hN]; exact h
  rw [hN]
  have HN := Lib.hid hN
  have HO := Lib.hid hok
  have HW := Lib.hid hwf
  clear h hok hwf hN
  refine (callsIn_wide (n := 9)).1 ?_
  refine callsIn_of_wp_marks Try.func39 rfl trivial ?_ rfl
  refine wpIn_wide.2 ?_
  simp only [Try.ntmps39, List.size_toArray, List.length_cons, List.length_nil, Nat.reduceAdd, Nat.reduceSub, Array.replicate_succ, Array.replicate_zero, List.push_toArray, List.append_toArray, List.nil_append, List.cons_append]
  go_wp2_with fail
  refine (pchk_aux cs _ HW.out 0 0 HO.out _ (HR.out.keep (by repeat (first | assumption | exact Below.refl _ _ | apply Below.al | apply below_drewN | apply Below.drew | refine Below.next ?_ (by assumption))))).mono ?_
  rintro e w1 ⟨rfl, hb⟩
  have bT : Boxed w1 w.heap.size 3 (.int .i64 t) := Boxed.below ((Boxed.new w 3 (.int .i64 t)).alloc _) hb
  have bU : Boxed w1 (w.heap.size + 1) 3 (.int .i64 u) := by have := Boxed.new (w.alloc (.cells #[.int .i64 t] 3)) 3 (.int .i64 u); rw [World.size_alloc] at this; exact Boxed.below this hb
  have cT := bT.cell
  have cU := bU.cell
  have hB1 : Below w.heap.size w w1 := (by repeat (first | assumption | exact Below.refl _ _ | apply Below.al | apply below_drewN | apply Below.drew | refine Below.next ?_ (by assumption)))
  have hz1 := hB1.size
  have bU' := bU
  clear hb
  go_wp2_with (first
    | (go_at_call 81; refine (node_any _ _).mono ?_; rintro e w2 ⟨rfl, rfl⟩)
    | (go_at_call 67; refine (tick_any _ _).mono ?_; rintro e w2 ⟨rfl, rfl⟩)
    | (go_at_call 82; refine (vpair_any _ _ _ _ _ _).mono ?_; rintro e w2 ⟨rfl, rfl⟩)
    | fail)
  obtain ⟨W0, hW0⟩ : ∃ W0 : World, W0 = (((w1.alloc (.cells #[.int .i64 0] 3)).alloc (.cells #[.slice a0 N n0] 39)).alloc (.cells #[.int .i64 fr] 3)).alloc (.cells #[.int .i64 dt] 3) := ⟨_, rfl⟩
  have bS : Boxed W0 w1.heap.size 3 (.int .i64 0) := by rw [hW0]; exact (((Boxed.new w1 3 (.int .i64 0)).alloc _).alloc _).alloc _
  have bT : Boxed W0 w.heap.size 3 (.int .i64 t) := by rw [hW0]; exact (((bT.alloc _).alloc _).alloc _).alloc _
  have bU : Boxed W0 (w.heap.size + 1) 3 (.int .i64 u) := by rw [hW0]; exact (((bU.alloc _).alloc _).alloc _).alloc _
  have b0 : W0.cell? ⟨w1.heap.size + 1, 0, none⟩ = some (.slice a0 N n0) := by rw [hW0]; simp [go_sem]
  have b1 : W0.cell? ⟨w1.heap.size + 1 + 1, 0, none⟩ = some (.int .i64 fr) := by rw [hW0]; simp [go_sem]
  have b2 : W0.cell? ⟨w1.heap.size + 1 + 2, 0, none⟩ = some (.int .i64 dt) := by rw [hW0]; simp [go_sem]
  have hB0 : Below w.heap.size w W0 := by rw [hW0]; exact (by repeat (first | assumption | exact Below.refl _ _ | apply Below.al | apply below_drewN | apply Below.drew | refine Below.next ?_ (by assumption)))
  have hz0 : W0.heap.size = w1.heap.size + 4 := by rw [hW0]; simp
  rw [← hW0]
  clear hW0 cT cU
  have hl1 : w.heap.size + 1 < w1.heap.size := by have := bU'.lt; omega
  refine range_box 9 16 85 (by omega) rfl (enters_of Try.func104 (by kernel_rfl) rfl) (e1 := fun x : Px cs fr dt => .int .i64 (x.1.1 : Int)) (cs := fun x => #[.int .i64 x.1.2.fr, .int .i64 x.1.2.dt, .int .i64 x.1.2.st, .int .i64 x.1.2.en, .int .i64 x.1.2.rt, .int .i64 x.1.2.dl])
    (vpair_stops cs fr dt _ 8 (w1.heap.size + 1) w W0 HR.out (by omega) (by omega) hB0 b0 b1 b2) KP.trans (KP_b (by omega) (by omega)) (fun W o hz => (KP.refl _ _ _).alloc (by omega) o)
    (fun pre W => ((Boxed W w1.heap.size 3 (.int .i64 (betwF t u pre)) ∧ Boxed W w.heap.size 3 (.int .i64 t)) ∧ Boxed W (w.heap.size + 1) 3 (.int .i64 u)) ∧ (Below w.heap.size w W ∧ W0.heap.size ≤ W.heap.size))
    ?own (fun pre W h => h.2.2) ⟨⟨⟨bS, bT⟩, bU⟩, hB0, Nat.le_refl _⟩ ?assign ?body ?done
  case own =>
    refine OwnFrom.and (OwnFrom.and (OwnFrom.and (Own.from (boxed_own _ _ _) _) (Own.from (boxed_own _ _ _) _)) (Own.from (boxed_own _ _ _) _)) (OwnFrom.and (ownFrom_below (Nat.le_refl _) (by omega)) ?_)
    exact fun _ _ _ _ hs hg _ => Nat.le_trans hs hg.size
  case assign =>
    intro l pre x W K hI hK
    simp only [List.setIfInBounds_toArray, List.set_cons_zero, List.set_cons_succ] at hK ⊢
    gi_wp2
    exact hK
  case body =>
    rintro l pre x Bx W ⟨⟨⟨bS, bT⟩, bU⟩, hBW, hzW⟩ hBx hbx hlt
    simp only [List.setIfInBounds_toArray, List.set_cons_zero, List.set_cons_succ]
    have hokx : okC x.1.2 := by have h := x.2; rw [← h.2.1]; exact okC_of HO.out h.1
    obtain ⟨c, hc⟩ : ∃ c, x.1.2 = c := ⟨_, rfl⟩
    rw [hc] at hbx hokx
    have HC := Lib.hid hc
    clear hc
    have hcx : BC W Bx c := ⟨hbx.cell 0, hbx.cell 1, hbx.cell 2, hbx.cell 3, hbx.cell 4, hbx.cell 5⟩
    have p1 := pos_nn c hokx u
    have p2 := pos_le c hokx u
    have p3 := pos_nn c hokx t
    have p4 := pos_le c hokx t
    have p5 := vol_bd c hokx
    change 0 ≤ vol c ∧ vol c ≤ _ at p5
    have p6 : IntKind.i64.wrap (pos c u - pos c t) = pos c u - pos c t := IntWalk.i64_in _ (by omega)
    clear p1 p2 p3 p4 p5
    gi_wp2
    refine wpIn_region_calm (fun w' => Below W.heap.size W w') 10 (by kernel_rfl) (fun h => by obtain ⟨_, _, h⟩ := h; exact h) (by kernel_rfl) ((Below.refl _ W).drew) ?_
    refine cm_run 0 49 (v := ?_) rfl rfl (by kernel_rfl) (by kernel_rfl) (by kernel_rfl) (by kernel_rfl) (by kernel_rfl) (fun _ _ _ h => h) (by rfl) ?_ ?_
    rotate_left
    · (intro wS hS; have g := cell_later hS bS.cell; go_simp; (try with_reducible rfl))
    simp only [List.setIfInBounds_toArray, List.set_cons_zero, List.set_cons_succ]
    refine cm_run 1 50 (v := ?_) rfl rfl (by kernel_rfl) (by kernel_rfl) (by kernel_rfl) (by kernel_rfl) (by kernel_rfl) (fun _ _ _ h => h) (by rfl) ?_ ?_
    rotate_left
    · (intro wS hS; have g := BC.keep hS hcx; go_simp; (try with_reducible rfl))
    simp only [List.setIfInBounds_toArray, List.set_cons_zero, List.set_cons_succ]
    refine cm_run 2 51 (v := ?_) rfl rfl (by kernel_rfl) (by kernel_rfl) (by kernel_rfl) (by kernel_rfl) (by kernel_rfl) (fun _ _ _ h => h) (by rfl) ?_ ?_
    rotate_left
    · (intro wS hS; have g := cell_later hS bU.cell; go_simp; (try with_reducible rfl))
    simp only [List.setIfInBounds_toArray, List.set_cons_zero, List.set_cons_succ]
    refine cm_call 3 52 83 (v := .int .i64 (pos c u)) (args := ?_) rfl rfl (by kernel_rfl) (by kernel_rfl) (by kernel_rfl) (by kernel_rfl) (by kernel_rfl) (fun _ _ _ h => h) (by rfl) ?_ ?_ ?_
    rotate_left 1
    · (intro wS hS; go_simp; (try with_reducible rfl))
    · (intro wS hS; refine (pos_any c hokx u _).mono ?_; (rintro e w2 ⟨rfl, hb⟩; exact ⟨rfl, Below.next hS hb⟩))
    simp only [List.setIfInBounds_toArray, List.set_cons_zero, List.set_cons_succ]
    refine cm_run 4 53 (v := ?_) rfl rfl (by kernel_rfl) (by kernel_rfl) (by kernel_rfl) (by kernel_rfl) (by kernel_rfl) (fun _ _ _ h => h) (by rfl) ?_ ?_
    rotate_left
    · (intro wS hS; have g := BC.keep hS hcx; go_simp; (try with_reducible rfl))
    simp only [List.setIfInBounds_toArray, List.set_cons_zero, List.set_cons_succ]
    refine cm_run 5 54 (v := ?_) rfl rfl (by kernel_rfl) (by kernel_rfl) (by kernel_rfl) (by kernel_rfl) (by kernel_rfl) (fun _ _ _ h => h) (by rfl) ?_ ?_
    rotate_left
    · (intro wS hS; have g := cell_later hS bT.cell; go_simp; (try with_reducible rfl))
    simp only [List.setIfInBounds_toArray, List.set_cons_zero, List.set_cons_succ]
    refine cm_call 6 55 83 (v := .int .i64 (pos c t)) (args := ?_) rfl rfl (by kernel_rfl) (by kernel_rfl) (by kernel_rfl) (by kernel_rfl) (by kernel_rfl) (fun _ _ _ h => h) (by rfl) ?_ ?_ ?_
    rotate_left 1
    · (intro wS hS; go_simp; (try with_reducible rfl))
    · (intro wS hS; refine (pos_any c hokx t _).mono ?_; (rintro e w2 ⟨rfl, hb⟩; exact ⟨rfl, Below.next hS hb⟩))
    simp only [List.setIfInBounds_toArray, List.set_cons_zero, List.set_cons_succ]
    refine cm_run 7 56 (v := ?_) rfl rfl (by kernel_rfl) (by kernel_rfl) (by kernel_rfl) (by kernel_rfl) (by kernel_rfl) (fun _ _ _ h => h) (by rfl) ?_ ?_
    rotate_left
    · (intro wS hS; skip; go_simp; (try with_reducible rfl))
    simp only [List.setIfInBounds_toArray, List.set_cons_zero, List.set_cons_succ]
    refine cm_run 8 57 (v := ?_) rfl rfl (by kernel_rfl) (by kernel_rfl) (by kernel_rfl) (by kernel_rfl) (by kernel_rfl) (fun _ _ _ h => h) (by rfl) ?_ ?_
    rotate_left
    · (intro wS hS; skip; go_simp; (try with_reducible rfl))
    simp only [List.setIfInBounds_toArray, List.set_cons_zero, List.set_cons_succ]
    refine cm_run 9 58 (v := ?_) rfl rfl (by kernel_rfl) (by kernel_rfl) (by kernel_rfl) (by kernel_rfl) (by kernel_rfl) (fun _ _ _ h => h) (by rfl) ?_ ?_
    rotate_left
    · (intro wS hS; skip; go_simp; (try with_reducible rfl))
    simp only [List.setIfInBounds_toArray, List.set_cons_zero, List.set_cons_succ]
    refine cm_tail 10 rfl (by kernel_rfl) (by kernel_rfl) (by kernel_rfl) (by rfl) ?_
    intro wS hS K hK
    have g1 := cell_later hS bS.cell; have g2 := fz_later hS bS.lt bS.frozen
    go_simp
    refine hK _ _ ?_
    have hzS := hS.size
    exact ⟨((keeps_below hS).trans (KeepsOthers.setCell _ _ _)).from _,
      ⟨(hS.mono (by omega)).setCell (by show w.heap.size ≤ w1.heap.size; omega) _, fun o v ho hv => cell_set _ (by show w1.heap.size + 1 + o ≠ w1.heap.size; omega) (cell_later hS hv)⟩,
      ⟨⟨by rw [betwF_snoc, HC.out]; exact (Boxed.below bS hS).set _, (Boxed.below bT hS).other (by omega) _⟩, (Boxed.below bU hS).other (by omega) _⟩,
      (Below.next hBW hS).setCell (by show w.heap.size ≤ w1.heap.size; omega) _, by simp; omega⟩
  case done =>
    rintro D xs W hD rfl ⟨⟨⟨bS, bT⟩, bU⟩, hBW, hzW⟩ hK
    have cS := bS.cell
    go_wp2
    refine ⟨by simp, .inl ⟨_, _, rfl, run_takeDeferred hK, ?_⟩⟩
    rw [betwF_picks cs fr dt t u _ (Nat.le_refl _), HN.out]
    refine ⟨.tuple #[.int .i64 (betw cs fr dt t u N), .int .i64 0], by simp [results, Try.results39, go_sem], rfl, ?_⟩
    exact hBW.trans (belowK_b (w := w) (Nat.le_refl _) W D _ _ (by omega) hK rfl rfl)
end Go.Proofs.Ytnbjdgjopdeolaa
