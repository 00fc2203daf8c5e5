

/- Volume: Carry (the program's), without contacts and where something is not in order. -/
import Derived.Test.YtnbjdgjopdeolaaS
import Derived.Deep.Upon
namespace Go.Proofs.Ytnbjdgjopdeolaa
open Go.RowKit Go.Shelf
set_option linter.unusedSimpArgs false
set_option linter.unusedVariables false
set_option maxRecDepth 100000
attribute [local go_sem] Oper.semAt_some

set_option maxHeartbeats 2000000 in
theorem carry_zero (cs : List Ct) (v : Value) (bs : List Int) (u : Value) (fr dt t n : Int) (hwf : ∀ c, c ∈ cs → Wf c) (hbk : bkE cs bs = 0) (hov : overK cs bs cs.length = []) (h1 : nodeB fr = true) (h2 : nodeB dt = true) (h3 : tickB t = true) (h4 : bytesB n = true) (h0 : cs.length = 0)
    (er fin : Int) (out : List Int) (hv : Crv cs bs fr dt t n = (out, fin, er)) (w : World) (h : RdC w v cs) (hu : RdI .i64 w u bs) :
    Calls Try.prog 44 #[v, u, .int .i64 fr, .int .i64 dt, .int .i64 t, .int .i64 n] w (C3 w out fin er) := by
  obtain ⟨hok, hl⟩ := bkE_zero hbk
  obtain ⟨a0, n0, rfl⟩ := h.form
  obtain ⟨a1, n1, rfl⟩ := hu.form
  obtain ⟨N, hN⟩ : ∃ N, cs.length = N := ⟨_, rfl⟩
  rw [hl, hN] at hu ⊢
  rw [hN] at h h0
  have hm : N ≤ 200 := by rw [← hN]; exact (ok_of_planChk hok).1
  have hn : 1 ≤ n ∧ n ≤ 1099511627776 := by simpa [bytesB] using h4
  obtain rfl : N = 0 := h0
  have HR := Lib.hid h
  have HU := Lib.hid hu
  have HN := Lib.hid hN
  have HBL := Lib.hid (hl.trans hN)
  have HP := Lib.hid hok
  have HW := Lib.hid hwf
  have HBK := Lib.hid hbk
  have HF := Lib.hid (fit_of_over hov)
  have HOV := Lib.hid hov
  have HV := Lib.hid hv
  clear h hu hN hok hl hwf hbk hov hv
  refine (callsIn_wide (n := 9)).1 ?_
  refine callsIn_of_wp_marks Try.func44 rfl trivial ?_ rfl
  refine wpIn_wide.2 ?_
  simp only [Try.ntmps44, List.size_toArray, List.length_cons, List.length_nil, Nat.reduceAdd, Nat.reduceSub, Array.replicate_succ, Array.replicate_zero, List.push_toArray, List.append_toArray, List.nil_append, List.cons_append]
  go_wp2_with fail
  obtain ⟨Wb, hWb⟩ : ∃ W : World, W = ((((w.alloc (.cells #[.slice a1 0 n1] 52)).alloc (.cells #[.int .i64 t] 3)).alloc (.cells #[.int .i64 n] 3)).alloc (.cells #[.slice none 0 0] 52)).alloc (.cells #[.int .i64 0] 3) := ⟨_, rfl⟩
  rw [← hWb, show w.heap.size + 1 + 1 + 1 + 1 = w.heap.size + 4 from rfl, show w.heap.size + 1 + 1 + 1 = w.heap.size + 3 from rfl, show w.heap.size + 1 + 1 = w.heap.size + 2 from rfl]
  have bB : Boxed Wb w.heap.size 52 (.slice a1 0 n1) := by rw [hWb]; exact ((((Boxed.new w _ _).alloc _).alloc _).alloc _).alloc _
  have bT : Boxed Wb (w.heap.size + 1) 3 (.int .i64 t) := by rw [hWb]; have := Boxed.new (w.alloc (.cells #[.slice a1 0 n1] 52)) 3 (.int .i64 t); simp only [World.size_alloc] at this; exact ((this.alloc _).alloc _).alloc _
  have bN : Boxed Wb (w.heap.size + 2) 3 (.int .i64 n) := by rw [hWb]; have := Boxed.new ((w.alloc (.cells #[.slice a1 0 n1] 52)).alloc (.cells #[.int .i64 t] 3)) 3 (.int .i64 n); simp only [World.size_alloc] at this; exact (this.alloc _).alloc _
  have bA : Boxed Wb (w.heap.size + 3) 52 (.slice none 0 0) := by rw [hWb]; have := Boxed.new (((w.alloc (.cells #[.slice a1 0 n1] 52)).alloc (.cells #[.int .i64 t] 3)).alloc (.cells #[.int .i64 n] 3)) 52 (.slice none 0 0); simp only [World.size_alloc] at this; exact this.alloc _
  have bF : Boxed Wb (w.heap.size + 4) 3 (.int .i64 0) := by rw [hWb]; have := Boxed.new ((((w.alloc (.cells #[.slice a1 0 n1] 52)).alloc (.cells #[.int .i64 t] 3)).alloc (.cells #[.int .i64 n] 3)).alloc (.cells #[.slice none 0 0] 52)) 3 (.int .i64 0); simp only [World.size_alloc] at this; exact this
  have hBb : Below w.heap.size w Wb := by rw [hWb]; exact (by repeat (first | assumption | exact Below.refl _ _ | apply Below.al | apply below_drewN | apply Below.drew | refine Below.next ?_ (by assumption)))
  have hzb : Wb.heap.size = w.heap.size + 5 := by rw [hWb]; simp
  clear hWb
  refine (booked_any cs _ bs _ HW.out 0 HBK.out _ (HR.out.keep hBb) (HU.out.keep hBb)).mono ?_
  rintro e w1 ⟨rfl, hb⟩
  have bB := Boxed.below bB hb
  have bT := Boxed.below bT hb
  have bN := Boxed.below bN hb
  have bA := Boxed.below bA hb
  have bF := Boxed.below bF hb
  have hB1 : Below w.heap.size w w1 := Below.next hBb hb
  have hz1 : w.heap.size + 5 ≤ w1.heap.size := by have := hb.size; omega
  clear hb hBb hzb
  have cB := bB.cell
  have cT := bT.cell
  have cN := bN.cell
  have tok1 : True := trivial
  go_wp2_with (first
    | (go_at_call 81; refine (node_any _ _).mono ?_; rintro e w2 ⟨rfl, rfl⟩)
    | (go_at_call 67; refine (tick_any _ _).mono ?_; rintro e w2 ⟨rfl, rfl⟩)
    | (go_at_call 68; refine (bytes_any _ _).mono ?_; rintro e w2 ⟨rfl, rfl⟩)
    | fail)
  refine (over_any cs _ bs _ HP.out (HBL.out.trans HN.out.symm) _ (HR.out.keep hB1) (HU.out.keep hB1)).mono ?_
  rintro e w2 ⟨r, rfl, hr, _, hb⟩
  rw [HOV.out] at hr
  obtain ⟨ra, rc, rfl⟩ := hr.form
  have hr0 : ([] : List Int).length = 0 := rfl
  rw [hr0]
  clear hr hr0 cB cT cN
  have bB := Boxed.below bB hb
  have bT := Boxed.below bT hb
  have bN := Boxed.below bN hb
  have bA := Boxed.below bA hb
  have bF := Boxed.below bF hb
  have hB2 : Below w.heap.size w w2 := Below.next hB1 hb
  have hz2 : w.heap.size + 5 ≤ w2.heap.size := by have := hb.size; omega
  clear hb hB1 hz1
  have cB := bB.cell
  go_upto_region 6 with fail
  obtain ⟨i0, hi, hz, hsz, hby⟩ := info_parts E52.hi
  obtain ⟨a2, ha2⟩ : ∃ a2, ∀ w : World, (Instr.slice 52 (.slice a1 0 n1) none (some (.int .i64 0)) (some (.int .i64 0))).run Try.prog w = .ok (.slice a2 0 0) w := by
    cases a1 with
    | none => exact ⟨none, fun w => by kernel_rfl⟩
    | some ad => exact ⟨some ad, fun w => by kernel_rfl⟩
  have hap : ∀ w : World, (Builtin.append_ #[52, 52] 52 #[.slice a2 0 0, .slice a1 0 n1]).run Try.prog w = .ok (.slice a2 0 0) w := by
    intro w
    cases a1 <;> cases a2 <;> kernel_rfl
  have hsl := Lib.hid ha2
  have hap := Lib.hid hap
  clear ha2
  refine wp_region_noPanic ?_
  refine wp_region_held_drew (S := (fun w' => w'.cell? ⟨w.heap.size, 0, none⟩ = some (.slice a1 0 n1))) (by kernel_rfl) (cell_drew cB) (fun hHeld => ?_)
  refine reg_tk (v := .slice a1 0 n1) 0 50 rfl rfl (by kernel_rfl) (by kernel_rfl) (by kernel_rfl) (fun _ _ _ h => h) (by rfl) ?_ (by assumption) ?_
  · intro w3 hS
    have g := hS
    go_simp
  simp only [List.setIfInBounds_toArray, List.set_cons_zero, List.set_cons_succ]
  refine reg_tk (v := .slice a2 0 0) 1 51 rfl rfl (by kernel_rfl) (by kernel_rfl) (by kernel_rfl) (fun _ _ _ h => h) (by rfl) ?_ (by assumption) ?_
  · intro w3 hS
    have g := hsl.out w3
    simp [execOp, Act.eval, g, go_sem]
  simp only [List.setIfInBounds_toArray, List.set_cons_zero, List.set_cons_succ]
  refine reg_tk (v := .slice a1 0 n1) 2 52 rfl rfl (by kernel_rfl) (by kernel_rfl) (by kernel_rfl) (fun _ _ _ h => h) (by rfl) ?_ (by assumption) ?_
  · intro w3 hS
    have g := hS
    go_simp
  simp only [List.setIfInBounds_toArray, List.set_cons_zero, List.set_cons_succ]
  refine reg_tk (v := .slice a2 0 0) 3 53 rfl rfl (by kernel_rfl) (by kernel_rfl) (by kernel_rfl) (fun _ _ _ h => h) (by rfl) ?_ (by assumption) ?_
  · intro w3 hS
    clear hsl
    cases a1 <;> cases a2 <;> kernel_rfl
  simp only [List.setIfInBounds_toArray, List.set_cons_zero, List.set_cons_succ]
  refine wpAnyH_ready (rs := [4]) (by kernel_rfl) (by simp) ?_
  refine AllReadyH.cons rfl (fun K hK => ?_) AllReadyH.nil
  have cA := bA.cell
  have fA := bA.frozen
  go_simp
  refine hK.out _ _ (cell_set _ (by show w.heap.size ≠ w.heap.size + 3; omega) cB) (fun hHeld => ?_)
  clear hK K
  try simp only [Act.put, List.getElem_toArray, List.getElem_cons_succ, List.getElem_cons_zero, List.setIfInBounds_toArray, List.set_cons_zero, List.set_cons_succ]
  refine wpAnyH_done (by kernel_rfl) ?_ _
  refine NoPanic.normal ?_
  obtain ⟨W3, hW3⟩ : ∃ W : World, W = (w2.setCell ⟨w.heap.size + 3, 0, none⟩ (.slice a2 0 0)).drew := ⟨_, rfl⟩
  have bN : Boxed W3 (w.heap.size + 2) 3 (.int .i64 n) := by rw [hW3]; exact box_other bN (by omega) _
  have bA : Boxed W3 (w.heap.size + 3) 52 (.slice a2 0 0) := by rw [hW3]; exact Boxed.set _ bA
  have bF : Boxed W3 (w.heap.size + 4) 3 (.int .i64 0) := by rw [hW3]; exact box_other bF (by omega) _
  have hB4 : Below w.heap.size w W3 := by rw [hW3]; exact Below.drew (hB2.setCell (by show w.heap.size ≤ w.heap.size + 3; omega) _)
  have hz4 : w.heap.size + 5 ≤ W3.heap.size := by rw [hW3]; simp; omega
  rw [← hW3]
  clear hW3 cA fA cB bB bT hB2 hz2 hHeld hsl hap
  go_wp2_with (go_at_call 82; refine (vpair_any _ _ _ _ _ _).mono ?_; rintro e w5 ⟨rfl, rfl⟩)
  obtain ⟨W0, hW0⟩ : ∃ W0 : World, W0 = ((W3.alloc (.cells #[.slice a0 0 n0] 39)).alloc (.cells #[.int .i64 fr] 3)).alloc (.cells #[.int .i64 dt] 3) := ⟨_, rfl⟩
  have hb5 : Below W3.heap.size W3 W0 := by rw [hW0]; exact (((Below.refl _ W3).alloc (Nat.le_refl _) _).alloc (by simp) _).alloc (by simp; omega) _
  have bN := Boxed.below bN hb5
  have bA := Boxed.below bA hb5
  have bF := Boxed.below bF hb5
  have b0 : W0.cell? ⟨W3.heap.size, 0, none⟩ = some (.slice a0 0 n0) := by rw [hW0]; simp [go_sem]
  have b1 : W0.cell? ⟨W3.heap.size + 1, 0, none⟩ = some (.int .i64 fr) := by rw [hW0]; simp [go_sem]
  have b2' : W0.cell? ⟨W3.heap.size + 2, 0, none⟩ = some (.int .i64 dt) := by rw [hW0]; simp [go_sem]
  have hB0 : Below w.heap.size w W0 := Below.next hB4 hb5
  have hz0 : W0.heap.size = W3.heap.size + 3 := by rw [hW0]; simp
  rw [← hW0]
  clear hW0 hb5 hB4
  refine range_box2 9 85 (fun tm (x : Px cs fr dt) Bx => (((tm.setIfInBounds 58 (.int .i64 (x.1.1 : Int))).setIfInBounds 59 x.1.2.v).setIfInBounds 15 (.int .i64 (x.1.1 : Int))).setIfInBounds 16 (.pointer (some ⟨Bx, 0, none⟩))) (by omega) rfl (enters_of Try.func104 (by kernel_rfl) rfl) (e1 := fun x : Px cs fr dt => .int .i64 (x.1.1 : Int)) (cs := fun x => #[.int .i64 x.1.2.fr, .int .i64 x.1.2.dt, .int .i64 x.1.2.st, .int .i64 x.1.2.en, .int .i64 x.1.2.rt, .int .i64 x.1.2.dl])
    (vpair_stops cs fr dt _ 8 W3.heap.size w W0 HR.out (by omega) (by omega) hB0 b0 b1 b2') KP.trans (KP_b (by omega) (by omega)) (fun W o hz => (KP.refl _ _ _).alloc (by omega) o)
    (fun pre W => ((Boxed W (w.heap.size + 2) 3 (.int .i64 n) ∧ Boxed W (w.heap.size + 3) 52 (.slice a2 0 0)) ∧ Boxed W (w.heap.size + 4) 3 (.int .i64 0)) ∧ (Below w.heap.size w W ∧ W0.heap.size ≤ W.heap.size))
    ?own (fun pre W h => h.2.2) ⟨⟨⟨bN, bA⟩, bF⟩, hB0, Nat.le_refl _⟩ ?assign ?body ?done
  case own =>
    refine OwnFrom.and (OwnFrom.and (OwnFrom.and (Own.from (boxed_own _ _ _) _) (Own.from (boxed_own _ _ _) _)) (Own.from (boxed_own _ _ _) _)) (OwnFrom.and (ownFrom_below (Nat.le_refl _) (by omega)) ?_)
    exact fun _ _ _ _ hs hg _ => Nat.le_trans hs hg.size
  case assign =>
    intro l pre x W K hI hK
    exact absurd x.2.1 (by have := HN.out; omega)
  case body =>
    intro l pre x Bx W
    exact absurd x.2.1 (by have := HN.out; omega)
  case done =>
    rintro D xs W hD - ⟨⟨⟨bN, bA⟩, bF⟩, hBW, hzW⟩ hK
    have hvv : (([] : List Int), (0 : Int), (16 : Int)) = (out, fin, er) := by
      have hcv : Crv cs bs fr dt t n = (([] : List Int), (0 : Int), (16 : Int)) := by
        unfold Crv
        rw [if_neg (by rw [HBK.out]; simp), if_neg (by rw [h1, h2, h3, h4, HOV.out]; simp), HN.out, if_pos (by show 0 < n; omega)]
      exact hcv.symm.trans HV.out
    obtain ⟨rfl, rfl, rfl⟩ : out = [] ∧ fin = 0 ∧ er = 16 := by simpa [eq_comm] using hvv
    have HKD := Lib.hid hK
    have cA := bA.cell
    have fA := bA.frozen
    have cN := bN.cell
    have cF := bF.cell
    have fF := bF.frozen
    clear hK hvv
    have d7 : decide (0 < n) = true := yb (by omega)
    go_wp2
    have hKd : ((W.setCell ⟨w.heap.size + 3, 0, none⟩ (.slice none 0 0)).setCell ⟨w.heap.size + 4, 0, none⟩ (.int .i64 0)).heap[D]? = some (.deferred (some [])) :=
      (Below.heap_setCell _ ⟨w.heap.size + 4, 0, none⟩ _ D (by show D ≠ w.heap.size + 4; omega)).trans ((Below.heap_setCell W ⟨w.heap.size + 3, 0, none⟩ _ D (by show D ≠ w.heap.size + 3; omega)).trans HKD.out)
    refine ⟨by simp, .inl ⟨_, _, rfl, run_takeDeferred hKd, ?_⟩⟩
    have k1 : (((W.setCell ⟨w.heap.size + 3, 0, none⟩ (.slice none 0 0)).setCell ⟨w.heap.size + 4, 0, none⟩ (.int .i64 0)).putObj D (.deferred none)).cell? ⟨w.heap.size + 3, 0, none⟩ = some (.slice none 0 0) :=
      cell_put (by show w.heap.size + 3 ≠ D; omega) (cell_set _ (by show w.heap.size + 3 ≠ w.heap.size + 4; omega) (World.cell?_setCell_same' _ _ _ (by rw [cA]; rfl)))
    have k2 : (((W.setCell ⟨w.heap.size + 3, 0, none⟩ (.slice none 0 0)).setCell ⟨w.heap.size + 4, 0, none⟩ (.int .i64 0)).putObj D (.deferred none)).cell? ⟨w.heap.size + 4, 0, none⟩ = some (.int .i64 0) :=
      cell_put (by show w.heap.size + 4 ≠ D; omega) (World.cell?_setCell_same' _ _ _ (by rw [cell_set _ (by show w.heap.size + 4 ≠ w.heap.size + 3; omega) cF]; rfl))
    refine ⟨.tuple #[.slice none 0 0, .int .i64 0, .int .i64 16], by simp [results, Try.results44, go_sem, k1, k2], _, rfl, RdI.nil _ _, ?_⟩
    exact ((hBW.setCell (p := ⟨w.heap.size + 3, 0, none⟩) (by show w.heap.size ≤ w.heap.size + 3; omega) _).setCell (p := ⟨w.heap.size + 4, 0, none⟩) (by show w.heap.size ≤ w.heap.size + 4; omega) _).trans (belowK_b (w := w) (Nat.le_refl _) _ D _ _ (by omega) hKd rfl rfl)

set_option maxHeartbeats 2000000 in
theorem carry_any (cs : List Ct) (v : Value) (bs : List Int) (u : Value) (fr dt t n : Int) (hwf : ∀ c, c ∈ cs → Wf c)
    (er fin : Int) (out : List Int) (hv : Crv cs bs fr dt t n = (out, fin, er)) (w : World) (h : RdC w v cs) (hu : RdI .i64 w u bs) :
    Calls Try.prog 44 #[v, u, .int .i64 fr, .int .i64 dt, .int .i64 t, .int .i64 n] w (C3 w out fin er) := by
  obtain ⟨a0, n0, rfl⟩ := h.form
  obtain ⟨a1, n1, rfl⟩ := hu.form
  have HW := Lib.hid hwf
  have HR := Lib.hid h
  have HU := Lib.hid hu
  by_cases hbk : bkE cs bs = 0
  · by_cases hg : (nodeB fr && nodeB dt && tickB t && bytesB n) = true
    · by_cases hov : overK cs bs cs.length = []
      · simp only [Bool.and_eq_true] at hg
        by_cases h0 : cs.length = 0
        · exact carry_zero cs _ bs _ fr dt t n hwf hbk hov hg.1.1.1 hg.1.1.2 hg.1.2 hg.2 h0 er fin out hv w h hu
        · exact carry_yes cs _ bs _ fr dt t n hwf hbk hov hg.1.1.1 hg.1.1.2 hg.1.2 hg.2 (by omega) er fin out hv w h hu
      · unfold Crv at hv
        rw [if_neg (by rw [hbk]; simp), if_pos (.inr hov)] at hv
        obtain ⟨rfl, rfl, rfl⟩ : out = [] ∧ fin = 0 ∧ er = 2 := by simpa [eq_comm] using hv
        simp only [Bool.and_eq_true] at hg
        obtain ⟨⟨⟨h1, h2⟩, h3⟩, h4⟩ := hg
        obtain ⟨hp, hl⟩ := bkE_zero hbk
        obtain ⟨M, hM⟩ : ∃ M, (overK cs bs cs.length).length = M + 1 := ⟨(overK cs bs cs.length).length - 1, by have := List.length_pos_iff.2 hov; omega⟩
        have HM := Lib.hid hM
        have HBK := Lib.hid hbk
        have HP := Lib.hid hp
        have HL := Lib.hid hl
        clear hwf h hu hbk hov hv hp hl hM
        go_enter Try.func44, Try.ntmps44
        go_wp2_with fail
        obtain ⟨Wb, hWb⟩ : ∃ W : World, W = ((((w.alloc (.cells #[.slice a1 bs.length n1] 52)).alloc (.cells #[.int .i64 t] 3)).alloc (.cells #[.int .i64 n] 3)).alloc (.cells #[.slice none 0 0] 52)).alloc (.cells #[.int .i64 0] 3) := ⟨_, rfl⟩
        rw [← hWb, show w.heap.size + 1 + 1 + 1 + 1 = w.heap.size + 4 from rfl, show w.heap.size + 1 + 1 + 1 = w.heap.size + 3 from rfl, show w.heap.size + 1 + 1 = w.heap.size + 2 from rfl]
        have bB : Boxed Wb w.heap.size 52 (.slice a1 bs.length n1) := by rw [hWb]; exact ((((Boxed.new w _ _).alloc _).alloc _).alloc _).alloc _
        have bT : Boxed Wb (w.heap.size + 1) 3 (.int .i64 t) := by rw [hWb]; have := Boxed.new (w.alloc (.cells #[.slice a1 bs.length n1] 52)) 3 (.int .i64 t); simp only [World.size_alloc] at this; exact ((this.alloc _).alloc _).alloc _
        have bN : Boxed Wb (w.heap.size + 2) 3 (.int .i64 n) := by rw [hWb]; have := Boxed.new ((w.alloc (.cells #[.slice a1 bs.length n1] 52)).alloc (.cells #[.int .i64 t] 3)) 3 (.int .i64 n); simp only [World.size_alloc] at this; exact (this.alloc _).alloc _
        have bA : Boxed Wb (w.heap.size + 3) 52 (.slice none 0 0) := by rw [hWb]; have := Boxed.new (((w.alloc (.cells #[.slice a1 bs.length n1] 52)).alloc (.cells #[.int .i64 t] 3)).alloc (.cells #[.int .i64 n] 3)) 52 (.slice none 0 0); simp only [World.size_alloc] at this; exact this.alloc _
        have bF : Boxed Wb (w.heap.size + 4) 3 (.int .i64 0) := by rw [hWb]; have := Boxed.new ((((w.alloc (.cells #[.slice a1 bs.length n1] 52)).alloc (.cells #[.int .i64 t] 3)).alloc (.cells #[.int .i64 n] 3)).alloc (.cells #[.slice none 0 0] 52)) 3 (.int .i64 0); simp only [World.size_alloc] at this; exact this
        have hBb : Below w.heap.size w Wb := by rw [hWb]; exact (by repeat (first | assumption | exact Below.refl _ _ | apply Below.al | apply below_drewN | apply Below.drew | refine Below.next ?_ (by assumption)))
        clear hWb
        refine (booked_any cs _ bs _ HW.out 0 HBK.out _ (HR.out.keep hBb) (HU.out.keep hBb)).mono ?_
        rintro e w1 ⟨rfl, hb⟩
        have bB := Boxed.below bB hb
        have bT := Boxed.below bT hb
        have bN := Boxed.below bN hb
        have bA := Boxed.below bA hb
        have bF := Boxed.below bF hb
        have hB1 : Below w.heap.size w w1 := Below.next hBb hb
        clear hb hBb
        have cB := bB.cell
        have cT := bT.cell
        have cN := bN.cell
        have cA := bA.cell
        have fA := bA.frozen
        have cF := bF.cell
        have fF := bF.frozen
        go_wp2_with (first
          | (go_at_call 81; refine (node_any _ _).mono ?_; rintro e w2 ⟨rfl, rfl⟩)
          | (go_at_call 67; refine (tick_any _ _).mono ?_; rintro e w2 ⟨rfl, rfl⟩)
          | (go_at_call 68; refine (bytes_any _ _).mono ?_; rintro e w2 ⟨rfl, rfl⟩)
          | fail)
        refine (over_any cs _ bs _ HP.out HL.out _ (HR.out.keep hB1) (HU.out.keep hB1)).mono ?_
        rintro e w2 ⟨r, rfl, hr, _, hb⟩
        obtain ⟨ra, rc, rfl⟩ := hr.form
        rw [HM.out]
        have bA := Boxed.below bA hb
        have bF := Boxed.below bF hb
        have hB1 : Below w.heap.size w w2 := Below.next hB1 hb
        have d9 : decide (0 < ((M + 1 : Nat) : Int)) = true := yb (by omega)
        have d10 : decide ((0 : Int) < (M : Int) + 1) = true := yb (by omega)
        clear hb hr cB cT cN cA fA cF fF bB bT bN
        have cA := bA.cell
        have fA := bA.frozen
        have cF := bF.cell
        have fF := bF.frozen
        go_wp2_with fail
        have k0 : (w2.setCell ⟨w.heap.size + 3, 0, none⟩ (.slice none 0 0)).cell? ⟨w.heap.size + 3, 0, none⟩ = some (.slice none 0 0) := World.cell?_setCell_same' _ _ _ (by rw [cA]; rfl)
        have k1 : ((w2.setCell ⟨w.heap.size + 3, 0, none⟩ (.slice none 0 0)).setCell ⟨w.heap.size + 4, 0, none⟩ (.int .i64 0)).cell? ⟨w.heap.size + 3, 0, none⟩ = some (.slice none 0 0) := cell_set _ (by show w.heap.size + 3 ≠ w.heap.size + 4; omega) k0
        have k2 : ((w2.setCell ⟨w.heap.size + 3, 0, none⟩ (.slice none 0 0)).setCell ⟨w.heap.size + 4, 0, none⟩ (.int .i64 0)).cell? ⟨w.heap.size + 4, 0, none⟩ = some (.int .i64 0) := World.cell?_setCell_same' _ _ _ (by rw [cell_set _ (by show w.heap.size + 4 ≠ w.heap.size + 3; omega) cF]; rfl)
        exact bodyPost_ret (v := .tuple #[.slice none 0 0, .int .i64 0, .int .i64 2]) (by simp [results, Try.results44, go_sem, k0, k1, k2]) rfl ⟨_, rfl, RdI.nil _ _, ((hB1.setCell (p := ⟨w.heap.size + 3, 0, none⟩) (by show w.heap.size ≤ w.heap.size + 3; omega) _).setCell (p := ⟨w.heap.size + 4, 0, none⟩) (by show w.heap.size ≤ w.heap.size + 4; omega) _)⟩
    · unfold Crv at hv
      rw [if_neg (by rw [hbk]; simp), if_pos (.inl (by simpa using hg))] at hv
      obtain ⟨rfl, rfl, rfl⟩ : out = [] ∧ fin = 0 ∧ er = 2 := by simpa [eq_comm] using hv
      have HBK := Lib.hid hbk
      clear hwf h hu hbk hv
      cases h1 : nodeB fr with
      | false =>
        clear hg
        go_enter Try.func44, Try.ntmps44
        go_wp2_with fail
        obtain ⟨Wb, hWb⟩ : ∃ W : World, W = ((((w.alloc (.cells #[.slice a1 bs.length n1] 52)).alloc (.cells #[.int .i64 t] 3)).alloc (.cells #[.int .i64 n] 3)).alloc (.cells #[.slice none 0 0] 52)).alloc (.cells #[.int .i64 0] 3) := ⟨_, rfl⟩
        rw [← hWb, show w.heap.size + 1 + 1 + 1 + 1 = w.heap.size + 4 from rfl, show w.heap.size + 1 + 1 + 1 = w.heap.size + 3 from rfl, show w.heap.size + 1 + 1 = w.heap.size + 2 from rfl]
        have bB : Boxed Wb w.heap.size 52 (.slice a1 bs.length n1) := by rw [hWb]; exact ((((Boxed.new w _ _).alloc _).alloc _).alloc _).alloc _
        have bT : Boxed Wb (w.heap.size + 1) 3 (.int .i64 t) := by rw [hWb]; have := Boxed.new (w.alloc (.cells #[.slice a1 bs.length n1] 52)) 3 (.int .i64 t); simp only [World.size_alloc] at this; exact ((this.alloc _).alloc _).alloc _
        have bN : Boxed Wb (w.heap.size + 2) 3 (.int .i64 n) := by rw [hWb]; have := Boxed.new ((w.alloc (.cells #[.slice a1 bs.length n1] 52)).alloc (.cells #[.int .i64 t] 3)) 3 (.int .i64 n); simp only [World.size_alloc] at this; exact (this.alloc _).alloc _
        have bA : Boxed Wb (w.heap.size + 3) 52 (.slice none 0 0) := by rw [hWb]; have := Boxed.new (((w.alloc (.cells #[.slice a1 bs.length n1] 52)).alloc (.cells #[.int .i64 t] 3)).alloc (.cells #[.int .i64 n] 3)) 52 (.slice none 0 0); simp only [World.size_alloc] at this; exact this.alloc _
        have bF : Boxed Wb (w.heap.size + 4) 3 (.int .i64 0) := by rw [hWb]; have := Boxed.new ((((w.alloc (.cells #[.slice a1 bs.length n1] 52)).alloc (.cells #[.int .i64 t] 3)).alloc (.cells #[.int .i64 n] 3)).alloc (.cells #[.slice none 0 0] 52)) 3 (.int .i64 0); simp only [World.size_alloc] at this; exact this
        have hBb : Below w.heap.size w Wb := by rw [hWb]; exact (by repeat (first | assumption | exact Below.refl _ _ | apply Below.al | apply below_drewN | apply Below.drew | refine Below.next ?_ (by assumption)))
        clear hWb
        refine (booked_any cs _ bs _ HW.out 0 HBK.out _ (HR.out.keep hBb) (HU.out.keep hBb)).mono ?_
        rintro e w1 ⟨rfl, hb⟩
        have bB := Boxed.below bB hb
        have bT := Boxed.below bT hb
        have bN := Boxed.below bN hb
        have bA := Boxed.below bA hb
        have bF := Boxed.below bF hb
        have hB1 : Below w.heap.size w w1 := Below.next hBb hb
        clear hb hBb
        have cB := bB.cell
        have cT := bT.cell
        have cN := bN.cell
        have cA := bA.cell
        have fA := bA.frozen
        have cF := bF.cell
        have fF := bF.frozen
        go_wp2_with (first
          | (go_at_call 81; refine (node_any _ _).mono ?_; rintro e w2 ⟨rfl, rfl⟩)
          | (go_at_call 67; refine (tick_any _ _).mono ?_; rintro e w2 ⟨rfl, rfl⟩)
          | (go_at_call 68; refine (bytes_any _ _).mono ?_; rintro e w2 ⟨rfl, rfl⟩)
          | fail)
        go_wp2_with fail
        have k0 : (w1.setCell ⟨w.heap.size + 3, 0, none⟩ (.slice none 0 0)).cell? ⟨w.heap.size + 3, 0, none⟩ = some (.slice none 0 0) := World.cell?_setCell_same' _ _ _ (by rw [cA]; rfl)
        have k1 : ((w1.setCell ⟨w.heap.size + 3, 0, none⟩ (.slice none 0 0)).setCell ⟨w.heap.size + 4, 0, none⟩ (.int .i64 0)).cell? ⟨w.heap.size + 3, 0, none⟩ = some (.slice none 0 0) := cell_set _ (by show w.heap.size + 3 ≠ w.heap.size + 4; omega) k0
        have k2 : ((w1.setCell ⟨w.heap.size + 3, 0, none⟩ (.slice none 0 0)).setCell ⟨w.heap.size + 4, 0, none⟩ (.int .i64 0)).cell? ⟨w.heap.size + 4, 0, none⟩ = some (.int .i64 0) := World.cell?_setCell_same' _ _ _ (by rw [cell_set _ (by show w.heap.size + 4 ≠ w.heap.size + 3; omega) cF]; rfl)
        exact bodyPost_ret (v := .tuple #[.slice none 0 0, .int .i64 0, .int .i64 2]) (by simp [results, Try.results44, go_sem, k0, k1, k2]) rfl ⟨_, rfl, RdI.nil _ _, ((hB1.setCell (p := ⟨w.heap.size + 3, 0, none⟩) (by show w.heap.size ≤ w.heap.size + 3; omega) _).setCell (p := ⟨w.heap.size + 4, 0, none⟩) (by show w.heap.size ≤ w.heap.size + 4; omega) _)⟩
      | true =>
        cases h2 : nodeB dt with
        | false =>
          clear hg
          go_enter Try.func44, Try.ntmps44
          go_wp2_with fail
          obtain ⟨Wb, hWb⟩ : ∃ W : World, W = ((((w.alloc (.cells #[.slice a1 bs.length n1] 52)).alloc (.cells #[.int .i64 t] 3)).alloc (.cells #[.int .i64 n] 3)).alloc (.cells #[.slice none 0 0] 52)).alloc (.cells #[.int .i64 0] 3) := ⟨_, rfl⟩
          rw [← hWb, show w.heap.size + 1 + 1 + 1 + 1 = w.heap.size + 4 from rfl, show w.heap.size + 1 + 1 + 1 = w.heap.size + 3 from rfl, show w.heap.size + 1 + 1 = w.heap.size + 2 from rfl]
          have bB : Boxed Wb w.heap.size 52 (.slice a1 bs.length n1) := by rw [hWb]; exact ((((Boxed.new w _ _).alloc _).alloc _).alloc _).alloc _
          have bT : Boxed Wb (w.heap.size + 1) 3 (.int .i64 t) := by rw [hWb]; have := Boxed.new (w.alloc (.cells #[.slice a1 bs.length n1] 52)) 3 (.int .i64 t); simp only [World.size_alloc] at this; exact ((this.alloc _).alloc _).alloc _
          have bN : Boxed Wb (w.heap.size + 2) 3 (.int .i64 n) := by rw [hWb]; have := Boxed.new ((w.alloc (.cells #[.slice a1 bs.length n1] 52)).alloc (.cells #[.int .i64 t] 3)) 3 (.int .i64 n); simp only [World.size_alloc] at this; exact (this.alloc _).alloc _
          have bA : Boxed Wb (w.heap.size + 3) 52 (.slice none 0 0) := by rw [hWb]; have := Boxed.new (((w.alloc (.cells #[.slice a1 bs.length n1] 52)).alloc (.cells #[.int .i64 t] 3)).alloc (.cells #[.int .i64 n] 3)) 52 (.slice none 0 0); simp only [World.size_alloc] at this; exact this.alloc _
          have bF : Boxed Wb (w.heap.size + 4) 3 (.int .i64 0) := by rw [hWb]; have := Boxed.new ((((w.alloc (.cells #[.slice a1 bs.length n1] 52)).alloc (.cells #[.int .i64 t] 3)).alloc (.cells #[.int .i64 n] 3)).alloc (.cells #[.slice none 0 0] 52)) 3 (.int .i64 0); simp only [World.size_alloc] at this; exact this
          have hBb : Below w.heap.size w Wb := by rw [hWb]; exact (by repeat (first | assumption | exact Below.refl _ _ | apply Below.al | apply below_drewN | apply Below.drew | refine Below.next ?_ (by assumption)))
          clear hWb
          refine (booked_any cs _ bs _ HW.out 0 HBK.out _ (HR.out.keep hBb) (HU.out.keep hBb)).mono ?_
          rintro e w1 ⟨rfl, hb⟩
          have bB := Boxed.below bB hb
          have bT := Boxed.below bT hb
          have bN := Boxed.below bN hb
          have bA := Boxed.below bA hb
          have bF := Boxed.below bF hb
          have hB1 : Below w.heap.size w w1 := Below.next hBb hb
          clear hb hBb
          have cB := bB.cell
          have cT := bT.cell
          have cN := bN.cell
          have cA := bA.cell
          have fA := bA.frozen
          have cF := bF.cell
          have fF := bF.frozen
          go_wp2_with (first
            | (go_at_call 81; refine (node_any _ _).mono ?_; rintro e w2 ⟨rfl, rfl⟩)
            | (go_at_call 67; refine (tick_any _ _).mono ?_; rintro e w2 ⟨rfl, rfl⟩)
            | (go_at_call 68; refine (bytes_any _ _).mono ?_; rintro e w2 ⟨rfl, rfl⟩)
            | fail)
          go_wp2_with fail
          have k0 : (w1.setCell ⟨w.heap.size + 3, 0, none⟩ (.slice none 0 0)).cell? ⟨w.heap.size + 3, 0, none⟩ = some (.slice none 0 0) := World.cell?_setCell_same' _ _ _ (by rw [cA]; rfl)
          have k1 : ((w1.setCell ⟨w.heap.size + 3, 0, none⟩ (.slice none 0 0)).setCell ⟨w.heap.size + 4, 0, none⟩ (.int .i64 0)).cell? ⟨w.heap.size + 3, 0, none⟩ = some (.slice none 0 0) := cell_set _ (by show w.heap.size + 3 ≠ w.heap.size + 4; omega) k0
          have k2 : ((w1.setCell ⟨w.heap.size + 3, 0, none⟩ (.slice none 0 0)).setCell ⟨w.heap.size + 4, 0, none⟩ (.int .i64 0)).cell? ⟨w.heap.size + 4, 0, none⟩ = some (.int .i64 0) := World.cell?_setCell_same' _ _ _ (by rw [cell_set _ (by show w.heap.size + 4 ≠ w.heap.size + 3; omega) cF]; rfl)
          exact bodyPost_ret (v := .tuple #[.slice none 0 0, .int .i64 0, .int .i64 2]) (by simp [results, Try.results44, go_sem, k0, k1, k2]) rfl ⟨_, rfl, RdI.nil _ _, ((hB1.setCell (p := ⟨w.heap.size + 3, 0, none⟩) (by show w.heap.size ≤ w.heap.size + 3; omega) _).setCell (p := ⟨w.heap.size + 4, 0, none⟩) (by show w.heap.size ≤ w.heap.size + 4; omega) _)⟩
        | true =>
          cases h3 : tickB t with
          | false =>
            clear hg
            go_enter Try.func44, Try.ntmps44
            go_wp2_with fail
            obtain ⟨Wb, hWb⟩ : ∃ W : World, W = ((((w.alloc (.cells #[.slice a1 bs.length n1] 52)).alloc (.cells #[.int .i64 t] 3)).alloc (.cells #[.int .i64 n] 3)).alloc (.cells #[.slice none 0 0] 52)).alloc (.cells #[.int .i64 0] 3) := ⟨_, rfl⟩
            rw [← hWb, show w.heap.size + 1 + 1 + 1 + 1 = w.heap.size + 4 from rfl, show w.heap.size + 1 + 1 + 1 = w.heap.size + 3 from rfl, show w.heap.size + 1 + 1 = w.heap.size + 2 from rfl]
            have bB : Boxed Wb w.heap.size 52 (.slice a1 bs.length n1) := by rw [hWb]; exact ((((Boxed.new w _ _).alloc _).alloc _).alloc _).alloc _
            have bT : Boxed Wb (w.heap.size + 1) 3 (.int .i64 t) := by rw [hWb]; have := Boxed.new (w.alloc (.cells #[.slice a1 bs.length n1] 52)) 3 (.int .i64 t); simp only [World.size_alloc] at this; exact ((this.alloc _).alloc _).alloc _
            have bN : Boxed Wb (w.heap.size + 2) 3 (.int .i64 n) := by rw [hWb]; have := Boxed.new ((w.alloc (.cells #[.slice a1 bs.length n1] 52)).alloc (.cells #[.int .i64 t] 3)) 3 (.int .i64 n); simp only [World.size_alloc] at this; exact (this.alloc _).alloc _
            have bA : Boxed Wb (w.heap.size + 3) 52 (.slice none 0 0) := by rw [hWb]; have := Boxed.new (((w.alloc (.cells #[.slice a1 bs.length n1] 52)).alloc (.cells #[.int .i64 t] 3)).alloc (.cells #[.int .i64 n] 3)) 52 (.slice none 0 0); simp only [World.size_alloc] at this; exact this.alloc _
            have bF : Boxed Wb (w.heap.size + 4) 3 (.int .i64 0) := by rw [hWb]; have := Boxed.new ((((w.alloc (.cells #[.slice a1 bs.length n1] 52)).alloc (.cells #[.int .i64 t] 3)).alloc (.cells #[.int .i64 n] 3)).alloc (.cells #[.slice none 0 0] 52)) 3 (.int .i64 0); simp only [World.size_alloc] at this; exact this
            have hBb : Below w.heap.size w Wb := by rw [hWb]; exact (by repeat (first | assumption | exact Below.refl _ _ | apply Below.al | apply below_drewN | apply Below.drew | refine Below.next ?_ (by assumption)))
            clear hWb
            refine (booked_any cs _ bs _ HW.out 0 HBK.out _ (HR.out.keep hBb) (HU.out.keep hBb)).mono ?_
            rintro e w1 ⟨rfl, hb⟩
            have bB := Boxed.below bB hb
            have bT := Boxed.below bT hb
            have bN := Boxed.below bN hb
            have bA := Boxed.below bA hb
            have bF := Boxed.below bF hb
            have hB1 : Below w.heap.size w w1 := Below.next hBb hb
            clear hb hBb
            have cB := bB.cell
            have cT := bT.cell
            have cN := bN.cell
            have cA := bA.cell
            have fA := bA.frozen
            have cF := bF.cell
            have fF := bF.frozen
            go_wp2_with (first
              | (go_at_call 81; refine (node_any _ _).mono ?_; rintro e w2 ⟨rfl, rfl⟩)
              | (go_at_call 67; refine (tick_any _ _).mono ?_; rintro e w2 ⟨rfl, rfl⟩)
              | (go_at_call 68; refine (bytes_any _ _).mono ?_; rintro e w2 ⟨rfl, rfl⟩)
              | fail)
            go_wp2_with fail
            have k0 : (w1.setCell ⟨w.heap.size + 3, 0, none⟩ (.slice none 0 0)).cell? ⟨w.heap.size + 3, 0, none⟩ = some (.slice none 0 0) := World.cell?_setCell_same' _ _ _ (by rw [cA]; rfl)
            have k1 : ((w1.setCell ⟨w.heap.size + 3, 0, none⟩ (.slice none 0 0)).setCell ⟨w.heap.size + 4, 0, none⟩ (.int .i64 0)).cell? ⟨w.heap.size + 3, 0, none⟩ = some (.slice none 0 0) := cell_set _ (by show w.heap.size + 3 ≠ w.heap.size + 4; omega) k0
            have k2 : ((w1.setCell ⟨w.heap.size + 3, 0, none⟩ (.slice none 0 0)).setCell ⟨w.heap.size + 4, 0, none⟩ (.int .i64 0)).cell? ⟨w.heap.size + 4, 0, none⟩ = some (.int .i64 0) := World.cell?_setCell_same' _ _ _ (by rw [cell_set _ (by show w.heap.size + 4 ≠ w.heap.size + 3; omega) cF]; rfl)
            exact bodyPost_ret (v := .tuple #[.slice none 0 0, .int .i64 0, .int .i64 2]) (by simp [results, Try.results44, go_sem, k0, k1, k2]) rfl ⟨_, rfl, RdI.nil _ _, ((hB1.setCell (p := ⟨w.heap.size + 3, 0, none⟩) (by show w.heap.size ≤ w.heap.size + 3; omega) _).setCell (p := ⟨w.heap.size + 4, 0, none⟩) (by show w.heap.size ≤ w.heap.size + 4; omega) _)⟩
          | true =>
            cases h4 : bytesB n with
            | false =>
              clear hg
              go_enter Try.func44, Try.ntmps44
              go_wp2_with fail
              obtain ⟨Wb, hWb⟩ : ∃ W : World, W = ((((w.alloc (.cells #[.slice a1 bs.length n1] 52)).alloc (.cells #[.int .i64 t] 3)).alloc (.cells #[.int .i64 n] 3)).alloc (.cells #[.slice none 0 0] 52)).alloc (.cells #[.int .i64 0] 3) := ⟨_, rfl⟩
              rw [← hWb, show w.heap.size + 1 + 1 + 1 + 1 = w.heap.size + 4 from rfl, show w.heap.size + 1 + 1 + 1 = w.heap.size + 3 from rfl, show w.heap.size + 1 + 1 = w.heap.size + 2 from rfl]
              have bB : Boxed Wb w.heap.size 52 (.slice a1 bs.length n1) := by rw [hWb]; exact ((((Boxed.new w _ _).alloc _).alloc _).alloc _).alloc _
              have bT : Boxed Wb (w.heap.size + 1) 3 (.int .i64 t) := by rw [hWb]; have := Boxed.new (w.alloc (.cells #[.slice a1 bs.length n1] 52)) 3 (.int .i64 t); simp only [World.size_alloc] at this; exact ((this.alloc _).alloc _).alloc _
              have bN : Boxed Wb (w.heap.size + 2) 3 (.int .i64 n) := by rw [hWb]; have := Boxed.new ((w.alloc (.cells #[.slice a1 bs.length n1] 52)).alloc (.cells #[.int .i64 t] 3)) 3 (.int .i64 n); simp only [World.size_alloc] at this; exact (this.alloc _).alloc _
              have bA : Boxed Wb (w.heap.size + 3) 52 (.slice none 0 0) := by rw [hWb]; have := Boxed.new (((w.alloc (.cells #[.slice a1 bs.length n1] 52)).alloc (.cells #[.int .i64 t] 3)).alloc (.cells #[.int .i64 n] 3)) 52 (.slice none 0 0); simp only [World.size_alloc] at this; exact this.alloc _
              have bF : Boxed Wb (w.heap.size + 4) 3 (.int .i64 0) := by rw [hWb]; have := Boxed.new ((((w.alloc (.cells #[.slice a1 bs.length n1] 52)).alloc (.cells #[.int .i64 t] 3)).alloc (.cells #[.int .i64 n] 3)).alloc (.cells #[.slice none 0 0] 52)) 3 (.int .i64 0); simp only [World.size_alloc] at this; exact this
              have hBb : Below w.heap.size w Wb := by rw [hWb]; exact (by repeat (first | assumption | exact Below.refl _ _ | apply Below.al | apply below_drewN | apply Below.drew | refine Below.next ?_ (by assumption)))
              clear hWb
              refine (booked_any cs _ bs _ HW.out 0 HBK.out _ (HR.out.keep hBb) (HU.out.keep hBb)).mono ?_
              rintro e w1 ⟨rfl, hb⟩
              have bB := Boxed.below bB hb
              have bT := Boxed.below bT hb
              have bN := Boxed.below bN hb
              have bA := Boxed.below bA hb
              have bF := Boxed.below bF hb
              have hB1 : Below w.heap.size w w1 := Below.next hBb hb
              clear hb hBb
              have cB := bB.cell
              have cT := bT.cell
              have cN := bN.cell
              have cA := bA.cell
              have fA := bA.frozen
              have cF := bF.cell
              have fF := bF.frozen
              go_wp2_with (first
                | (go_at_call 81; refine (node_any _ _).mono ?_; rintro e w2 ⟨rfl, rfl⟩)
                | (go_at_call 67; refine (tick_any _ _).mono ?_; rintro e w2 ⟨rfl, rfl⟩)
                | (go_at_call 68; refine (bytes_any _ _).mono ?_; rintro e w2 ⟨rfl, rfl⟩)
                | fail)
              go_wp2_with fail
              have k0 : (w1.setCell ⟨w.heap.size + 3, 0, none⟩ (.slice none 0 0)).cell? ⟨w.heap.size + 3, 0, none⟩ = some (.slice none 0 0) := World.cell?_setCell_same' _ _ _ (by rw [cA]; rfl)
              have k1 : ((w1.setCell ⟨w.heap.size + 3, 0, none⟩ (.slice none 0 0)).setCell ⟨w.heap.size + 4, 0, none⟩ (.int .i64 0)).cell? ⟨w.heap.size + 3, 0, none⟩ = some (.slice none 0 0) := cell_set _ (by show w.heap.size + 3 ≠ w.heap.size + 4; omega) k0
              have k2 : ((w1.setCell ⟨w.heap.size + 3, 0, none⟩ (.slice none 0 0)).setCell ⟨w.heap.size + 4, 0, none⟩ (.int .i64 0)).cell? ⟨w.heap.size + 4, 0, none⟩ = some (.int .i64 0) := World.cell?_setCell_same' _ _ _ (by rw [cell_set _ (by show w.heap.size + 4 ≠ w.heap.size + 3; omega) cF]; rfl)
              exact bodyPost_ret (v := .tuple #[.slice none 0 0, .int .i64 0, .int .i64 2]) (by simp [results, Try.results44, go_sem, k0, k1, k2]) rfl ⟨_, rfl, RdI.nil _ _, ((hB1.setCell (p := ⟨w.heap.size + 3, 0, none⟩) (by show w.heap.size ≤ w.heap.size + 3; omega) _).setCell (p := ⟨w.heap.size + 4, 0, none⟩) (by show w.heap.size ≤ w.heap.size + 4; omega) _)⟩
            | true => simp [h1, h2, h3, h4] at hg
  · unfold Crv at hv
    rw [if_pos hbk] at hv
    obtain ⟨rfl, rfl, he⟩ : out = [] ∧ fin = 0 ∧ bkE cs bs = er := by simp only [Prod.mk.injEq] at hv; exact ⟨hv.1.symm, hv.2.1.symm, hv.2.2⟩
    have HE := Lib.hid he
    rw [he] at hbk
    have d1 : (er != 0) = true := by simpa using hbk
    clear hwf h hu hbk hv he
    go_enter Try.func44, Try.ntmps44
    go_wp2_with fail
    obtain ⟨Wb, hWb⟩ : ∃ W : World, W = ((((w.alloc (.cells #[.slice a1 bs.length n1] 52)).alloc (.cells #[.int .i64 t] 3)).alloc (.cells #[.int .i64 n] 3)).alloc (.cells #[.slice none 0 0] 52)).alloc (.cells #[.int .i64 0] 3) := ⟨_, rfl⟩
    rw [← hWb, show w.heap.size + 1 + 1 + 1 + 1 = w.heap.size + 4 from rfl, show w.heap.size + 1 + 1 + 1 = w.heap.size + 3 from rfl, show w.heap.size + 1 + 1 = w.heap.size + 2 from rfl]
    have bB : Boxed Wb w.heap.size 52 (.slice a1 bs.length n1) := by rw [hWb]; exact ((((Boxed.new w _ _).alloc _).alloc _).alloc _).alloc _
    have bT : Boxed Wb (w.heap.size + 1) 3 (.int .i64 t) := by rw [hWb]; have := Boxed.new (w.alloc (.cells #[.slice a1 bs.length n1] 52)) 3 (.int .i64 t); simp only [World.size_alloc] at this; exact ((this.alloc _).alloc _).alloc _
    have bN : Boxed Wb (w.heap.size + 2) 3 (.int .i64 n) := by rw [hWb]; have := Boxed.new ((w.alloc (.cells #[.slice a1 bs.length n1] 52)).alloc (.cells #[.int .i64 t] 3)) 3 (.int .i64 n); simp only [World.size_alloc] at this; exact (this.alloc _).alloc _
    have bA : Boxed Wb (w.heap.size + 3) 52 (.slice none 0 0) := by rw [hWb]; have := Boxed.new (((w.alloc (.cells #[.slice a1 bs.length n1] 52)).alloc (.cells #[.int .i64 t] 3)).alloc (.cells #[.int .i64 n] 3)) 52 (.slice none 0 0); simp only [World.size_alloc] at this; exact this.alloc _
    have bF : Boxed Wb (w.heap.size + 4) 3 (.int .i64 0) := by rw [hWb]; have := Boxed.new ((((w.alloc (.cells #[.slice a1 bs.length n1] 52)).alloc (.cells #[.int .i64 t] 3)).alloc (.cells #[.int .i64 n] 3)).alloc (.cells #[.slice none 0 0] 52)) 3 (.int .i64 0); simp only [World.size_alloc] at this; exact this
    have hBb : Below w.heap.size w Wb := by rw [hWb]; exact (by repeat (first | assumption | exact Below.refl _ _ | apply Below.al | apply below_drewN | apply Below.drew | refine Below.next ?_ (by assumption)))
    clear hWb
    refine (booked_any cs _ bs _ HW.out er HE.out _ (HR.out.keep hBb) (HU.out.keep hBb)).mono ?_
    rintro e w1 ⟨rfl, hb⟩
    have bB := Boxed.below bB hb
    have bT := Boxed.below bT hb
    have bN := Boxed.below bN hb
    have bA := Boxed.below bA hb
    have bF := Boxed.below bF hb
    have hB1 : Below w.heap.size w w1 := Below.next hBb hb
    clear hb hBb
    have cB := bB.cell
    have cT := bT.cell
    have cN := bN.cell
    have cA := bA.cell
    have fA := bA.frozen
    have cF := bF.cell
    have fF := bF.frozen
    go_wp2_with fail
    have k0 : (w1.setCell ⟨w.heap.size + 3, 0, none⟩ (.slice none 0 0)).cell? ⟨w.heap.size + 3, 0, none⟩ = some (.slice none 0 0) := World.cell?_setCell_same' _ _ _ (by rw [cA]; rfl)
    have k1 : ((w1.setCell ⟨w.heap.size + 3, 0, none⟩ (.slice none 0 0)).setCell ⟨w.heap.size + 4, 0, none⟩ (.int .i64 0)).cell? ⟨w.heap.size + 3, 0, none⟩ = some (.slice none 0 0) := cell_set _ (by show w.heap.size + 3 ≠ w.heap.size + 4; omega) k0
    have k2 : ((w1.setCell ⟨w.heap.size + 3, 0, none⟩ (.slice none 0 0)).setCell ⟨w.heap.size + 4, 0, none⟩ (.int .i64 0)).cell? ⟨w.heap.size + 4, 0, none⟩ = some (.int .i64 0) := World.cell?_setCell_same' _ _ _ (by rw [cell_set _ (by show w.heap.size + 4 ≠ w.heap.size + 3; omega) cF]; rfl)
    exact bodyPost_ret (v := .tuple #[.slice none 0 0, .int .i64 0, .int .i64 er]) (by simp [results, Try.results44, go_sem, k0, k1, k2]) rfl ⟨_, rfl, RdI.nil _ _, ((hB1.setCell (p := ⟨w.heap.size + 3, 0, none⟩) (by show w.heap.size ≤ w.heap.size + 3; omega) _).setCell (p := ⟨w.heap.size + 4, 0, none⟩) (by show w.heap.size ≤ w.heap.size + 4; omega) _)⟩
end Go.Proofs.Ytnbjdgjopdeolaa
