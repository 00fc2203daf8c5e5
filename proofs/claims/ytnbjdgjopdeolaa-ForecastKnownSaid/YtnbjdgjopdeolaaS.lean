

/- Volume: Carry (the program's), where all is in order. -/
import Derived.Test.YtnbjdgjopdeolaaP
import Derived.Deep.RegionLawGrows
import Derived.Laws.OwnMore
namespace Go.Proofs.Ytnbjdgjopdeolaa
open Go.RowKit Go.Shelf
set_option linter.unusedSimpArgs false
set_option linter.unusedVariables false
set_option maxRecDepth 100000
attribute [local go_sem] Oper.semAt_some

/-- the boxes of a sending, from block H on -/
def CF (H R cap : Nat) (u : Value) (N : Nat) (t : Int) (s : CS) (W : World) : Prop :=
  Boxed W H 52 u ∧ Boxed W (H + 1) 3 (.int .i64 t) ∧ Boxed W (H + 2) 3 (.int .i64 s.2.2) ∧ Boxed W (H + 3) 52 (.slice (some ⟨R, 0, none⟩) N cap) ∧ Boxed W (H + 4) 3 (.int .i64 s.2.1) ∧
    W.ownsRow (H + 5) 3 1 (.slice (some ⟨R, 0, none⟩) N cap) N (ic .i64 s.1)
theorem CF.below {H R cap : Nat} {u : Value} {N : Nat} {t : Int} {s : CS} {W W' : World} (h : CF H R cap u N t s W) (hb : Below W.heap.size W W') : CF H R cap u N t s W' :=
  ⟨Boxed.below h.1 hb, Boxed.below h.2.1 hb, Boxed.below h.2.2.1 hb, Boxed.below h.2.2.2.1 hb, Boxed.below h.2.2.2.2.1 hb, own_keep hb h.2.2.2.2.2⟩
theorem CF.R {H R cap : Nat} {u : Value} {N : Nat} {t : Int} {s : CS} {W : World} (h : CF H R cap u N t s W) : H + 5 ≤ R ∧ R < W.heap.size := World.ownsRow.lt h.2.2.2.2.2 R rfl
theorem CF.own (H R cap : Nat) (u : Value) (N : Nat) (t : Int) {α : Type} (f : List α → CS) : Own (fun (pre : List α) W => CF H R cap u N t (f pre) W) := fun s X Y row h hg hr => by
  have hne : ∀ {B : Nat} {ty : TypeId} {v : Value}, Boxed X B ty v → some B ≠ row := fun {B ty v} hb e => by
    obtain ⟨o, ho, hc⟩ := hr B e.symm
    rw [show X.heap[B]? = _ from hb] at ho; cases ho; cases hc
  refine ⟨h.1.kept hg (hne h.1), h.2.1.kept hg (hne h.2.1), h.2.2.1.kept hg (hne h.2.2.1), h.2.2.2.1.kept hg (hne h.2.2.2.1), h.2.2.2.2.1.kept hg (hne h.2.2.2.2.1), h.2.2.2.2.2.kept hg (.inr ?_)⟩
  intro e
  obtain ⟨o, ho, hc⟩ := hr R e.symm
  rcases h.2.2.2.2.2.2 with ⟨h', _⟩ | ⟨g', cap', cur, h', hb, hg', _⟩
  · simp at h'
  · simp only [Value.slice.injEq, Option.some.injEq, Addr.mk.injEq, and_true, true_and] at h'
    obtain ⟨rfl, rfl⟩ := h'
    rw [hg'] at ho; cases ho; cases hc
theorem own_other {w : World} {base : Nat} {e : TypeId} {size : Nat} {g n cap : Nat} {xs : List Value} {B : Nat} (h : w.ownsRow base e size (.slice (some ⟨g, 0, none⟩) n cap) n xs) (hne : g ≠ B) (o : Nat) (x : Value) : (w.setCell ⟨B, o, none⟩ x).ownsRow base e size (.slice (some ⟨g, 0, none⟩) n cap) n xs := by
  refine ⟨h.1, ?_⟩
  rcases h.2 with ⟨h', _⟩ | ⟨g', cap', cur, h', hb, hg, hr⟩
  · simp at h'
  · simp only [Value.slice.injEq, Option.some.injEq, Addr.mk.injEq, and_true, true_and] at h'
    obtain ⟨rfl, rfl⟩ := h'
    exact .inr ⟨g, cap, cur, rfl, hb, (Below.heap_setCell w ⟨B, o, none⟩ x g hne).trans hg, hr⟩
theorem box_other {W : World} {B : Nat} {t : TypeId} {v : Value} (h : Boxed W B t v) {B' o : Nat} (hne : B ≠ B') (u : Value) : Boxed (W.setCell ⟨B', o, none⟩ u) B t v := (Below.heap_setCell W ⟨B', o, none⟩ u B hne).trans h
theorem CF.setRow {H R cap : Nat} {u : Value} {N : Nat} {t : Int} {s : CS} {W : World} (h : CF H R cap u N t s W) (k : Nat) (x : Int) : CF H R cap u N t (s.1.set k x, s.2.1, s.2.2) (W.setCell ⟨R, k, none⟩ (.int .i64 x)) := by
  have hR := h.R
  refine ⟨box_other h.1 (by omega) _, box_other h.2.1 (by omega) _, box_other h.2.2.1 (by omega) _, box_other h.2.2.2.1 (by omega) _, box_other h.2.2.2.2.1 (by omega) _, ?_⟩
  have := (World.ownsRow.stored h.2.2.2.2.2 k (.int .i64 x)).1
  simpa [ic, List.map_set] using this
theorem CF.setFin {H R cap : Nat} {u : Value} {N : Nat} {t : Int} {s : CS} {W : World} (h : CF H R cap u N t s W) (x : Int) : CF H R cap u N t (s.1, x, s.2.2) (W.setCell ⟨H + 4, 0, none⟩ (.int .i64 x)) := by
  have hR := h.R
  exact ⟨box_other h.1 (by omega) _, box_other h.2.1 (by omega) _, box_other h.2.2.1 (by omega) _, box_other h.2.2.2.1 (by omega) _, Boxed.set _ h.2.2.2.2.1, own_other h.2.2.2.2.2 (by omega) _ _⟩
theorem CF.setN {H R cap : Nat} {u : Value} {N : Nat} {t : Int} {s : CS} {W : World} (h : CF H R cap u N t s W) (x : Int) : CF H R cap u N t (s.1, s.2.1, x) (W.setCell ⟨H + 2, 0, none⟩ (.int .i64 x)) := by
  have hR := h.R
  exact ⟨box_other h.1 (by omega) _, box_other h.2.1 (by omega) _, Boxed.set _ h.2.2.1, box_other h.2.2.2.1 (by omega) _, box_other h.2.2.2.2.1 (by omega) _, own_other h.2.2.2.2.2 (by omega) _ _⟩

theorem owns_pos {w : World} {base : Nat} {e : TypeId} {size : Nat} {v : Value} {n : Nat} {xs : List Value} (h : w.ownsRow base e size v n xs) (hn : 0 < n) : ∃ R cap, v = .slice (some ⟨R, 0, none⟩) n cap := by
  obtain ⟨_, ⟨_, hn'⟩ | ⟨g, cap, cur, hv, _⟩⟩ := h
  · omega
  · exact ⟨g, cap, hv⟩
theorem own_mono {w : World} {base base' : Nat} {e : TypeId} {size : Nat} {v : Value} {n : Nat} {xs : List Value} (h : w.ownsRow base e size v n xs) (hb : base' ≤ base) : w.ownsRow base' e size v n xs := by
  obtain ⟨h1, h2 | ⟨g, cap, cur, hv, hg, hr⟩⟩ := h
  · exact ⟨h1, .inl h2⟩
  · exact ⟨h1, .inr ⟨g, cap, cur, hv, Nat.le_trans hb hg, hr⟩⟩
theorem BCset {w : World} {b B o : Nat} {c : Ct} {x : Value} (hne : b ≠ B) (h : BC w b c) : BC (w.setCell ⟨B, o, none⟩ x) b c :=
  ⟨cell_set _ hne h.1, cell_set _ hne h.2.1, cell_set _ hne h.2.2.1, cell_set _ hne h.2.2.2.1, cell_set _ hne h.2.2.2.2.1, cell_set _ hne h.2.2.2.2.2⟩
theorem cell_put {W : World} {D : Nat} {o : Obj} {p : Addr} {x : Value} (hne : p.block ≠ D) (h : W.cell? p = some x) : (W.putObj D o).cell? p = some x := by
  rw [← h]
  exact World.cell?_of_block (World.putObj_heap_other hne)
/-- what a round keeps, in one word -/
def KX (n B : Nat) (W W' : World) : Prop := KP n B W W' ∧ KeepsOthers W W'
theorem KX.next {n B : Nat} {W W1 W2 : World} (h : KX n B W W1) (hb : Below W1.heap.size W1 W2) (hn : n ≤ W1.heap.size) : KX n B W W2 :=
  ⟨h.1.trans ⟨hb.mono hn, fun o v ho hv => cell_later hb hv⟩, h.2.trans (keeps_below hb)⟩
theorem KX.start {n B : Nat} {W W2 : World} (hb : Below W.heap.size W W2) (hn : n ≤ W.heap.size) : KX n B W W2 := KX.next ⟨KP.refl _ _ _, KeepsOthers.refl _⟩ hb hn
theorem KX.set {n B : Nat} {W W1 : World} (h : KX n B W W1) {p : Addr} (hn : n ≤ p.block) (hB : p.block < B) (u : Value) : KX n B W (W1.setCell p u) :=
  ⟨h.1.trans ⟨(Below.refl _ _).setCell hn u, fun o v ho hv => cell_set u (by show B + o ≠ p.block; omega) hv⟩, h.2.trans (KeepsOthers.setCell _ _ _)⟩
/-- a call has returned a slice that reads as xs, a tick and an error -/
def C3 (w : World) (xs : List Int) (fin er : Int) (e : Ending) (w' : World) : Prop := ∃ v, e = .returned (.tuple #[v, .int .i64 fin, .int .i64 er]) ∧ RdI .i64 w' v xs ∧ Below w.heap.size w w'

set_option maxHeartbeats 2000000 in
theorem carry_yes (cs : List Ct) (v : Value) (bs : List Int) (u : Value) (fr dt t n : Int) (hwf : ∀ c, c ∈ cs → Wf c) (hbk : bkE cs bs = 0) (hov : overK cs bs cs.length = []) (h1 : nodeB fr = true) (h2 : nodeB dt = true) (h3 : tickB t = true) (h4 : bytesB n = true) (h0 : 0 < cs.length)
    (er fin : Int) (out : List Int) (hv : Crv cs bs fr dt t n = (out, fin, er)) (w : World) (h : RdC w v cs) (hu : RdI .i64 w u bs) :
    Calls Try.prog 44 #[v, u, .int .i64 fr, .int .i64 dt, .int .i64 t, .int .i64 n] w (C3 w out fin er) := by
  obtain ⟨hok, hl⟩ := bkE_zero hbk
  obtain ⟨a0, n0, rfl⟩ := h.form
  obtain ⟨a1, n1, rfl⟩ := hu.form
  obtain ⟨N, hN⟩ : ∃ N, cs.length = N := ⟨_, rfl⟩
  rw [hl, hN] at hu ⊢
  rw [hN] at h h0
  have hm : N ≤ 200 := by rw [← hN]; exact (ok_of_planChk hok).1
  have hn : 1 ≤ n ∧ n ≤ 1099511627776 := by simpa [bytesB] using h4
  obtain ⟨b2, off2, rfl, hcap2, _⟩ := hu.at (hl.trans hN) 0 h0
  have HR := Lib.hid h
  have HU := Lib.hid hu
  have HN := Lib.hid hN
  have HBL := Lib.hid (hl.trans hN)
  have HP := Lib.hid hok
  have HW := Lib.hid hwf
  have HBK := Lib.hid hbk
  have HF := Lib.hid (fit_of_over hov)
  have HOV := Lib.hid hov
  have HV := Lib.hid hv
  clear h hu hN hok hl hwf hbk hov hv
  refine (callsIn_wide (n := 9)).1 ?_
  refine callsIn_of_wp_marks Try.func44 rfl trivial ?_ rfl
  refine wpIn_wide.2 ?_
  simp only [Try.ntmps44, List.size_toArray, List.length_cons, List.length_nil, Nat.reduceAdd, Nat.reduceSub, Array.replicate_succ, Array.replicate_zero, List.push_toArray, List.append_toArray, List.nil_append, List.cons_append]
  go_wp2_with fail
  obtain ⟨Wb, hWb⟩ : ∃ W : World, W = ((((w.alloc (.cells #[.slice (some ⟨b2, off2, none⟩) N n1] 52)).alloc (.cells #[.int .i64 t] 3)).alloc (.cells #[.int .i64 n] 3)).alloc (.cells #[.slice none 0 0] 52)).alloc (.cells #[.int .i64 0] 3) := ⟨_, rfl⟩
  rw [← hWb, show w.heap.size + 1 + 1 + 1 + 1 = w.heap.size + 4 from rfl, show w.heap.size + 1 + 1 + 1 = w.heap.size + 3 from rfl, show w.heap.size + 1 + 1 = w.heap.size + 2 from rfl]
  have bB : Boxed Wb w.heap.size 52 (.slice (some ⟨b2, off2, none⟩) N n1) := by rw [hWb]; exact ((((Boxed.new w _ _).alloc _).alloc _).alloc _).alloc _
  have bT : Boxed Wb (w.heap.size + 1) 3 (.int .i64 t) := by rw [hWb]; have := Boxed.new (w.alloc (.cells #[.slice (some ⟨b2, off2, none⟩) N n1] 52)) 3 (.int .i64 t); simp only [World.size_alloc] at this; exact ((this.alloc _).alloc _).alloc _
  have bN : Boxed Wb (w.heap.size + 2) 3 (.int .i64 n) := by rw [hWb]; have := Boxed.new ((w.alloc (.cells #[.slice (some ⟨b2, off2, none⟩) N n1] 52)).alloc (.cells #[.int .i64 t] 3)) 3 (.int .i64 n); simp only [World.size_alloc] at this; exact (this.alloc _).alloc _
  have bA : Boxed Wb (w.heap.size + 3) 52 (.slice none 0 0) := by rw [hWb]; have := Boxed.new (((w.alloc (.cells #[.slice (some ⟨b2, off2, none⟩) N n1] 52)).alloc (.cells #[.int .i64 t] 3)).alloc (.cells #[.int .i64 n] 3)) 52 (.slice none 0 0); simp only [World.size_alloc] at this; exact this.alloc _
  have bF : Boxed Wb (w.heap.size + 4) 3 (.int .i64 0) := by rw [hWb]; have := Boxed.new ((((w.alloc (.cells #[.slice (some ⟨b2, off2, none⟩) N n1] 52)).alloc (.cells #[.int .i64 t] 3)).alloc (.cells #[.int .i64 n] 3)).alloc (.cells #[.slice none 0 0] 52)) 3 (.int .i64 0); simp only [World.size_alloc] at this; exact this
  have hBb : Below w.heap.size w Wb := by rw [hWb]; exact (by repeat (first | assumption | exact Below.refl _ _ | apply Below.al | apply below_drewN | apply Below.drew | refine Below.next ?_ (by assumption)))
  have hzb : Wb.heap.size = w.heap.size + 5 := by rw [hWb]; simp
  clear hWb
  refine (booked_any cs _ bs _ HW.out 0 HBK.out _ (HR.out.keep hBb) (HU.out.keep hBb)).mono ?_
  rintro e w1 ⟨rfl, hb⟩
  have bB := Boxed.below bB hb
  have bT := Boxed.below bT hb
  have bN := Boxed.below bN hb
  have bA := Boxed.below bA hb
  have bF := Boxed.below bF hb
  have hB1 : Below w.heap.size w w1 := Below.next hBb hb
  have hz1 : w.heap.size + 5 ≤ w1.heap.size := by have := hb.size; omega
  clear hb hBb hzb
  have cB := bB.cell
  have cT := bT.cell
  have cN := bN.cell
  have tok1 : True := trivial
  go_wp2_with (first
    | (go_at_call 81; refine (node_any _ _).mono ?_; rintro e w2 ⟨rfl, rfl⟩)
    | (go_at_call 67; refine (tick_any _ _).mono ?_; rintro e w2 ⟨rfl, rfl⟩)
    | (go_at_call 68; refine (bytes_any _ _).mono ?_; rintro e w2 ⟨rfl, rfl⟩)
    | fail)
  refine (over_any cs _ bs _ HP.out (HBL.out.trans HN.out.symm) _ (HR.out.keep hB1) (HU.out.keep hB1)).mono ?_
  rintro e w2 ⟨r, rfl, hr, _, hb⟩
  rw [HOV.out] at hr
  obtain ⟨ra, rc, rfl⟩ := hr.form
  have hr0 : ([] : List Int).length = 0 := rfl
  rw [hr0]
  clear hr hr0 cB cT cN
  have bB := Boxed.below bB hb
  have bT := Boxed.below bT hb
  have bN := Boxed.below bN hb
  have bA := Boxed.below bA hb
  have bF := Boxed.below bF hb
  have hB2 : Below w.heap.size w w2 := Below.next hB1 hb
  have hz2 : w.heap.size + 5 ≤ w2.heap.size := by have := hb.size; omega
  clear hb hB1 hz1
  have cB := bB.cell
  have HU2 := Lib.hid (HU.out.keep hB2)
  go_upto_region 6 with fail
  obtain ⟨i0, hi, hz, hsz, hby⟩ := info_parts E52.hi
  refine wp_region_noPanic ?_
  refine wp_region_held_drew (S := (fun w' => w'.cell? ⟨w.heap.size, 0, none⟩ = some (.slice (some ⟨b2, off2, none⟩) N n1))) (by kernel_rfl) (cell_drew cB) (fun hHeld => ?_)
  refine reg_tk (v := .slice (some ⟨b2, off2, none⟩) N n1) 0 50 rfl rfl (by kernel_rfl) (by kernel_rfl) (by kernel_rfl) (fun _ _ _ h => h) (by rfl) ?_ (by assumption) ?_
  · intro w3 hS
    have g := hS
    go_simp
  simp only [List.setIfInBounds_toArray, List.set_cons_zero, List.set_cons_succ]
  refine reg_tk (v := ?_) 1 51 rfl rfl (by kernel_rfl) (by kernel_rfl) (by kernel_rfl) (fun _ _ _ h => h) (by rfl) ?_ (by assumption) ?_
  rotate_left
  · (intro w hSw; (try dsimp only at hSw); go_simp; (try with_reducible rfl))
  simp only [List.setIfInBounds_toArray, List.set_cons_zero, List.set_cons_succ]
  refine reg_tk (v := .slice (some ⟨b2, off2, none⟩) N n1) 2 52 rfl rfl (by kernel_rfl) (by kernel_rfl) (by kernel_rfl) (fun _ _ _ h => h) (by rfl) ?_ (by assumption) ?_
  · intro w3 hS
    have g := hS
    go_simp
  simp only [List.setIfInBounds_toArray, List.set_cons_zero, List.set_cons_succ]
  refine wpAnyH_ready (rs := [3]) (by kernel_rfl) (by simp) ?_
  refine AllReadyH.cons rfl (fun K hK => ?_) AllReadyH.nil
  refine step_append_grows rfl (.tmp 51) (.tmp 52) 52 rfl 3 i0 (.int .i64 0) 1 8 Try.underlying52 hi hz hsz hby rfl (by decide) (some ⟨b2, off2, none⟩) 0 0 [] rfl (fun h => by cases h) rfl (fun _ _ j u hj => by simp at hj)
    ⟨b2, off2, none⟩ N n1 (ic .i64 bs) rfl (by rw [ic_length, HBL.out, Nat.mul_one]) (fun j u hj => ?c1) (ic_one _ _) (by omega) (by unfold maxLen; omega) (by omega) ?c2
  case c1 =>
    have hj2 : j < N := by have := (List.getElem?_eq_some_iff.1 hj).1; rw [ic_length, HBL.out] at this; exact this
    obtain ⟨b3, off3, he, _, hc⟩ := HU2.out.at HBL.out j hj2
    simp only [Option.some.injEq, Addr.mk.injEq, and_true] at he
    obtain ⟨rfl, rfl⟩ := he
    rw [ic_get _ _ _ (by rw [HBL.out]; exact hj2)] at hj
    cases hj
    rw [Addr.add_mid]
    exact hc
  case c2 =>
    intro v3 w3 hown hg
    obtain ⟨R, cap, rfl⟩ := owns_pos hown (by omega)
    have hown := own_mono (base' := w.heap.size + 5) hown hz2
    rw [Nat.zero_add, List.nil_append] at hown
    have hb3 : Below w2.heap.size w2 w3 := Below.grown (Below.drew (Below.refl _ w2)) hg (Nat.le_refl _) (fun j hj => by cases hj)
    clear hg
    have bB := Boxed.below bB hb3
    have bT := Boxed.below bT hb3
    have bN := Boxed.below bN hb3
    have bA := Boxed.below bA hb3
    have bF := Boxed.below bF hb3
    have hB3 : Below w.heap.size w w3 := Below.next hB2 hb3
    have hz3 : w.heap.size + 5 ≤ w3.heap.size := by have := hb3.size; omega
    have HOWN := Lib.hid hown
    clear hb3 hB2 hz2 HU2 hown
    have cB := bB.cell
    have cA := bA.cell
    have fA := bA.frozen
    refine hK.out _ _ cB (fun hHeld => ?_)
    clear hK K
    simp only [Act.put, List.getElem_toArray, List.getElem_cons_succ, List.getElem_cons_zero, List.setIfInBounds_toArray, List.set_cons_zero, List.set_cons_succ, Nat.zero_add]
    refine wpAnyH_ready (rs := [4]) (by kernel_rfl) (by simp) ?_
    refine AllReadyH.cons rfl (fun K hK => ?_) AllReadyH.nil
    go_simp
    refine hK.out _ _ (cell_set _ (by show w.heap.size ≠ w.heap.size + 3; omega) cB) (fun hHeld => ?_)
    clear hK K
    try simp only [Act.put, List.getElem_toArray, List.getElem_cons_succ, List.getElem_cons_zero, List.setIfInBounds_toArray, List.set_cons_zero, List.set_cons_succ]
    refine wpAnyH_done (by kernel_rfl) ?_ _
    refine NoPanic.normal ?_
    obtain ⟨W3, hW3⟩ : ∃ W : World, W = w3.setCell ⟨w.heap.size + 3, 0, none⟩ (.slice (some ⟨R, 0, none⟩) N cap) := ⟨_, rfl⟩
    have hRl := World.ownsRow.lt HOWN.out R rfl
    have hCF : CF w.heap.size R cap (.slice (some ⟨b2, off2, none⟩) N n1) N t (bs, 0, n) W3 := by
      rw [hW3]
      have := HOWN.out
      exact ⟨box_other bB (by omega) _, box_other bT (by omega) _, box_other bN (by omega) _, Boxed.set _ bA, box_other bF (by omega) _, own_other this (by omega) _ _⟩
    have hB4 : Below w.heap.size w W3 := by rw [hW3]; exact hB3.setCell (by show w.heap.size ≤ w.heap.size + 3; omega) _
    have hz4 : w.heap.size + 5 ≤ W3.heap.size := by rw [hW3]; simp; omega
    have hR3 : R < W3.heap.size := by rw [hW3]; simp; omega
    rw [← hW3]
    clear hW3 cA fA cB bB bT bN bA bF hB3 hz3 HOWN hHeld
    go_wp2_with (go_at_call 82; refine (vpair_any _ _ _ _ _ _).mono ?_; rintro e w5 ⟨rfl, rfl⟩)
    obtain ⟨W0, hW0⟩ : ∃ W0 : World, W0 = ((W3.alloc (.cells #[.slice a0 N n0] 39)).alloc (.cells #[.int .i64 fr] 3)).alloc (.cells #[.int .i64 dt] 3) := ⟨_, rfl⟩
    have hb5 : Below W3.heap.size W3 W0 := by rw [hW0]; exact (((Below.refl _ W3).alloc (Nat.le_refl _) _).alloc (by simp) _).alloc (by simp; omega) _
    have hCF := hCF.below hb5
    have b0 : W0.cell? ⟨W3.heap.size, 0, none⟩ = some (.slice a0 N n0) := by rw [hW0]; simp [go_sem]
    have b1 : W0.cell? ⟨W3.heap.size + 1, 0, none⟩ = some (.int .i64 fr) := by rw [hW0]; simp [go_sem]
    have b2' : W0.cell? ⟨W3.heap.size + 2, 0, none⟩ = some (.int .i64 dt) := by rw [hW0]; simp [go_sem]
    have hB0 : Below w.heap.size w W0 := Below.next hB4 hb5
    have hz0 : W0.heap.size = W3.heap.size + 3 := by rw [hW0]; simp
    rw [← hW0]
    clear hW0 hb5 hB4
    refine range_box2 9 85 (fun tm (x : Px cs fr dt) Bx => (((tm.setIfInBounds 58 (.int .i64 (x.1.1 : Int))).setIfInBounds 59 x.1.2.v).setIfInBounds 15 (.int .i64 (x.1.1 : Int))).setIfInBounds 16 (.pointer (some ⟨Bx, 0, none⟩))) (by omega) rfl (enters_of Try.func104 (by kernel_rfl) rfl) (e1 := fun x : Px cs fr dt => .int .i64 (x.1.1 : Int)) (cs := fun x => #[.int .i64 x.1.2.fr, .int .i64 x.1.2.dt, .int .i64 x.1.2.st, .int .i64 x.1.2.en, .int .i64 x.1.2.rt, .int .i64 x.1.2.dl])
      (vpair_stops cs fr dt _ 8 W3.heap.size w W0 HR.out (by omega) (by omega) hB0 b0 b1 b2') KP.trans (KP_b (by omega) (by omega)) (fun W o hz => (KP.refl _ _ _).alloc (by omega) o)
      (fun pre W => CF w.heap.size R cap (.slice (some ⟨b2, off2, none⟩) N n1) N t (carF bs t n pre) W ∧ (Below w.heap.size w W ∧ W0.heap.size ≤ W.heap.size))
      ?own (fun pre W h => h.2.2) ⟨hCF, hB0, Nat.le_refl _⟩ ?assign ?body ?done
    case own =>
      refine OwnFrom.and (Own.from (CF.own _ _ _ _ _ _ _) _) (OwnFrom.and (ownFrom_below (Nat.le_refl _) (by omega)) ?_)
      exact fun _ _ _ _ hs hg _ => Nat.le_trans hs hg.size
    case assign =>
      intro l pre x W K hI hK
      simp only [List.setIfInBounds_toArray, List.set_cons_zero, List.set_cons_succ] at hK ⊢
      gi_wp2
      exact hK
    case body =>
      rintro l pre x Bx W ⟨hC, hBW, hzW⟩ hBx hbx hlt
      simp only [List.setIfInBounds_toArray, List.set_cons_zero, List.set_cons_succ]
      have hokx : okC x.1.2 := by have h := x.2; rw [← h.2.1]; exact okC_of HP.out h.1
      have hix : x.1.1 < N := by rw [← HN.out]; exact x.2.1
      have hfit : 0 ≤ bs.getD x.1.1 0 ∧ bs.getD x.1.1 0 ≤ vol x.1.2 := by have := HF.out x.1.1 x.2.1; rw [x.2.2.1] at this; exact this
      obtain ⟨c, hc⟩ : ∃ c, x.1.2 = c := ⟨_, rfl⟩
      obtain ⟨i, hi⟩ : ∃ i, x.1.1 = i := ⟨_, rfl⟩
      rw [hc] at hbx hokx hfit
      rw [hi] at hix hfit
      obtain ⟨s, hs⟩ : ∃ s, carF bs t n pre = s := ⟨_, rfl⟩
      have hinv : CInv N n s := by rw [← hs, ← HN.out]; exact CInv.fold (by rw [HBL.out, HN.out]) (by omega) pre
      have hsn : carF bs t n (pre ++ [x]) = stepC cs bs t i s := by rw [carF_snoc, hs, hi]
      have hxc : cs.getD i c0 = c := by rw [← hi, ← hc]; exact x.2.2.1
      rw [hs] at hC
      rw [hi]
      have HSN := Lib.hid hsn
      have HXC := Lib.hid hxc
      clear hc hi hs hsn hxc
      obtain ⟨b, HBv⟩ : ∃ b, Hid (bs.getD i 0 = b) := ⟨_, rfl⟩
      rw [HBv.out] at hfit
      obtain ⟨b3, off3, he, _, hcb⟩ := HU.out.at HBL.out i hix
      simp only [Option.some.injEq, Addr.mk.injEq, and_true] at he
      obtain ⟨rfl, rfl⟩ := he
      rw [HBv.out] at hcb
      have hcb := cell_later hBW hcb
      have hcx : BC W Bx c := ⟨hbx.cell 0, hbx.cell 1, hbx.cell 2, hbx.cell 3, hbx.cell 4, hbx.cell 5⟩
      have i1 : (0 : Int) ≤ (i : Int) := by omega
      have i2 : (i : Int) < (N : Int) := by omega
      have hwi : IntKind.i64.wrap (i : Int) = (i : Int) := IntWalk.i64_in _ (by omega)
      obtain ⟨g, HG⟩ : ∃ g, Hid (max b (pos c t) = g) := ⟨_, rfl⟩
      have hgb : 0 ≤ g ∧ g ≤ vol c := by rw [← HG.out]; exact beg_bd hokx hfit.1 hfit.2
      have hvb := vol_bd c hokx
      change 0 ≤ vol c ∧ vol c ≤ _ at hvb
      have hws : IntKind.i64.wrap (vol c - g) = vol c - g := IntWalk.i64_in _ (by omega)
      gi_wp2
      refine wpIn_region_calm (fun w' => Below W.heap.size W w') 99 (by kernel_rfl) (fun h => by obtain ⟨_, _, h⟩ := h; exact h) (by kernel_rfl) ((Below.refl _ W).drew) ?_
      refine cm_run 0 60 (v := ?_) rfl rfl (by kernel_rfl) (by kernel_rfl) (by kernel_rfl) (by kernel_rfl) (by kernel_rfl) (fun _ _ _ h => h) (by rfl) ?_ ?_
      rotate_left
      · (intro wS hS; have g := BC.keep hS hcx; go_simp; (try with_reducible rfl))
      simp only [List.setIfInBounds_toArray, List.set_cons_zero, List.set_cons_succ]
      refine cm_run 1 61 (v := ?_) rfl rfl (by kernel_rfl) (by kernel_rfl) (by kernel_rfl) (by kernel_rfl) (by kernel_rfl) (fun _ _ _ h => h) (by rfl) ?_ ?_
      rotate_left
      · (intro wS hS; have g := cell_later hS hC.1.cell; go_simp; (try with_reducible rfl))
      simp only [List.setIfInBounds_toArray, List.set_cons_zero, List.set_cons_succ]
      refine cm_run 2 62 (v := ?_) rfl rfl (by kernel_rfl) (by kernel_rfl) (by kernel_rfl) (by kernel_rfl) (by kernel_rfl) (fun _ _ _ h => h) (by rfl) ?_ ?_
      rotate_left
      · (intro wS hS; skip; go_simp; (try with_reducible rfl))
      simp only [List.setIfInBounds_toArray, List.set_cons_zero, List.set_cons_succ]
      refine cm_run 3 63 (v := ?_) rfl rfl (by kernel_rfl) (by kernel_rfl) (by kernel_rfl) (by kernel_rfl) (by kernel_rfl) (fun _ _ _ h => h) (by rfl) ?_ ?_
      rotate_left
      · (intro wS hS; skip; go_simp; (try with_reducible rfl))
      simp only [List.setIfInBounds_toArray, List.set_cons_zero, List.set_cons_succ]
      refine cm_run 4 64 (v := ?_) rfl rfl (by kernel_rfl) (by kernel_rfl) (by kernel_rfl) (by kernel_rfl) (by kernel_rfl) (fun _ _ _ h => h) (by rfl) ?_ ?_
      rotate_left
      · (intro wS hS; have g := cell_later hS hcb; go_simp; (try with_reducible rfl))
      simp only [List.setIfInBounds_toArray, List.set_cons_zero, List.set_cons_succ]
      refine cm_run 5 65 (v := ?_) rfl rfl (by kernel_rfl) (by kernel_rfl) (by kernel_rfl) (by kernel_rfl) (by kernel_rfl) (fun _ _ _ h => h) (by rfl) ?_ ?_
      rotate_left
      · (intro wS hS; have g := cell_later hS hC.2.1.cell; go_simp; (try with_reducible rfl))
      simp only [List.setIfInBounds_toArray, List.set_cons_zero, List.set_cons_succ]
      refine cm_call 6 66 69 (v := .int .i64 g) (args := ?_) rfl rfl (by kernel_rfl) (by kernel_rfl) (by kernel_rfl) (by kernel_rfl) (by kernel_rfl) (fun _ _ _ h => h) (by rfl) ?_ ?_ ?_
      rotate_left 1
      · (intro wS hS; go_simp; (try with_reducible rfl))
      · (intro wS hS; refine (from_any c hokx b t _).mono ?_; (rw [HG.out]; rintro e w2 ⟨rfl, hb⟩; exact ⟨rfl, Below.next hS hb⟩))
      simp only [List.setIfInBounds_toArray, List.set_cons_zero, List.set_cons_succ]
      refine cm_run 7 17 (v := ?_) rfl rfl (by kernel_rfl) (by kernel_rfl) (by kernel_rfl) (by kernel_rfl) (by kernel_rfl) (fun _ _ _ h => h) (by rfl) ?_ ?_
      rotate_left
      · (intro wS hS; skip; go_simp; (try with_reducible rfl))
      simp only [List.setIfInBounds_toArray, List.set_cons_zero, List.set_cons_succ]
      refine cm_done (by kernel_rfl) ?_
      intro wS hS
      have hC := hC.below hS
      have hcx := BC.keep hS hcx
      have hBW := Below.next hBW hS
      have HKA : Hid (KX w.heap.size W3.heap.size W wS) := KX.start hS (by omega)
      have hzA := hS.size
      obtain ⟨WA, rfl⟩ : ∃ WA, WA = wS := ⟨_, rfl⟩
      clear hS hcb
      gi_wp2
      refine wpIn_region_calm (fun w' => Below WA.heap.size WA w') 99 (by kernel_rfl) (fun h => by obtain ⟨_, _, h⟩ := h; exact h) (by kernel_rfl) ((Below.refl _ WA).drew) ?_
      refine cm_run 0 67 (v := ?_) rfl rfl (by kernel_rfl) (by kernel_rfl) (by kernel_rfl) (by kernel_rfl) (by kernel_rfl) (fun _ _ _ h => h) (by rfl) ?_ ?_
      rotate_left
      · (intro wS hS; have g := cell_later hS hC.2.2.1.cell; go_simp; (try with_reducible rfl))
      simp only [List.setIfInBounds_toArray, List.set_cons_zero, List.set_cons_succ]
      refine cm_run 1 68 (v := ?_) rfl rfl (by kernel_rfl) (by kernel_rfl) (by kernel_rfl) (by kernel_rfl) (by kernel_rfl) (fun _ _ _ h => h) (by rfl) ?_ ?_
      rotate_left
      · (intro wS hS; have g := BC.keep hS hcx; go_simp; (try with_reducible rfl))
      simp only [List.setIfInBounds_toArray, List.set_cons_zero, List.set_cons_succ]
      refine cm_call 2 69 64 (v := .int .i64 (vol c)) (args := ?_) rfl rfl (by kernel_rfl) (by kernel_rfl) (by kernel_rfl) (by kernel_rfl) (by kernel_rfl) (fun _ _ _ h => h) (by rfl) ?_ ?_ ?_
      rotate_left 1
      · (intro wS hS; go_simp; (try with_reducible rfl))
      · (intro wS hS; refine (vol_any c hokx _).mono ?_; (rintro e w2 ⟨rfl, hb⟩; exact ⟨rfl, Below.next hS hb⟩))
      simp only [List.setIfInBounds_toArray, List.set_cons_zero, List.set_cons_succ]
      refine cm_run 3 70 (v := ?_) rfl rfl (by kernel_rfl) (by kernel_rfl) (by kernel_rfl) (by kernel_rfl) (by kernel_rfl) (fun _ _ _ h => h) (by rfl) ?_ ?_
      rotate_left
      · (intro wS hS; skip; go_simp; (try with_reducible rfl))
      simp only [List.setIfInBounds_toArray, List.set_cons_zero, List.set_cons_succ]
      refine cm_run 4 71 (v := ?_) rfl rfl (by kernel_rfl) (by kernel_rfl) (by kernel_rfl) (by kernel_rfl) (by kernel_rfl) (fun _ _ _ h => h) (by rfl) ?_ ?_
      rotate_left
      · (intro wS hS; skip; go_simp; (try with_reducible rfl))
      simp only [List.setIfInBounds_toArray, List.set_cons_zero, List.set_cons_succ]
      refine cm_run 5 72 (v := ?_) rfl rfl (by kernel_rfl) (by kernel_rfl) (by kernel_rfl) (by kernel_rfl) (by kernel_rfl) (fun _ _ _ h => h) (by rfl) ?_ ?_
      rotate_left
      · (intro wS hS; skip; go_simp; (try with_reducible rfl))
      simp only [List.setIfInBounds_toArray, List.set_cons_zero, List.set_cons_succ]
      refine cm_run 6 18 (v := ?_) rfl rfl (by kernel_rfl) (by kernel_rfl) (by kernel_rfl) (by kernel_rfl) (by kernel_rfl) (fun _ _ _ h => h) (by rfl) ?_ ?_
      rotate_left
      · (intro wS hS; skip; go_simp; (try with_reducible rfl))
      simp only [List.setIfInBounds_toArray, List.set_cons_zero, List.set_cons_succ]
      refine cm_done (by kernel_rfl) ?_
      intro wS hS
      have hC := hC.below hS
      have hcx := BC.keep hS hcx
      have hBW := Below.next hBW hS
      have HKA := Lib.hid (KX.next HKA.out hS (by omega))
      have hzB := hS.size
      obtain ⟨WB, rfl⟩ : ∃ WB, WB = wS := ⟨_, rfl⟩
      clear hS
      obtain ⟨p, HPv⟩ : ∃ p, Hid ((if vol c - g < s.2.2 then vol c - g else s.2.2) = p) := ⟨_, rfl⟩
      rw [HPv.out]
      have HPR : Hid (prt c b t s.2.2 = p) := by unfold Hid prt beg; rw [HG.out, ← HPv.out]; split <;> omega
      have hpb : p ≤ vol c - g ∧ p ≤ s.2.2 := by rw [← HPv.out]; split <;> omega
      have hst : stepC cs bs t i s = if 0 < p then (s.1.set i (g + p), max s.2.1 (thr c (g + p)), s.2.2 - p) else s := by
        unfold stepC; rw [HXC.out, HBv.out, HPR.out]; unfold beg; rw [HG.out]
      have hR := hC.R
      by_cases hp : 0 < p
      · rw [if_pos hp] at hst
        have HST := Lib.hid hst
        have hw1 : IntKind.i64.wrap (g + p) = g + p := IntWalk.i64_in _ (by omega)
        have hw2 : IntKind.i64.wrap (s.2.2 - p) = s.2.2 - p := IntWalk.i64_in _ (by have := hinv.2; omega)
        have d5 : decide (0 < p) = true := yb hp
        have hgp : 0 ≤ g + p ∧ g + p ≤ vol c := by omega
        have hxl : (ic .i64 s.1)[i]? = some (.int .i64 (s.1.getD i 0)) := ic_get _ _ _ (by rw [hinv.1]; exact hix)
        have c1 : WB.cell? ⟨R, i, none⟩ = some (.int .i64 (s.1.getD i 0)) := by rw [World.ownsRow.cellAt hC.2.2.2.2.2 i (by omega)]; exact hxl
        have f1 := World.ownsRow.frozenAt hC.2.2.2.2.2 i
        have cA := hC.2.2.2.1.cell
        have HVB := Lib.hid hvb
        have HGB := Lib.hid hgb
        have HINV := Lib.hid hinv
        clear hst hxl hvb hgb hinv hp
        gi_wp2
        have hC := hC.setRow i (g + p)
        have hcx : BC (WB.setCell ⟨R, i, none⟩ (.int .i64 (g + p))) Bx c := BCset (by omega) hcx
        have hBW : Below w.heap.size w (WB.setCell ⟨R, i, none⟩ (.int .i64 (g + p))) := hBW.setCell (by show w.heap.size ≤ R; omega) _
        have HKA : Hid (KX w.heap.size W3.heap.size W (WB.setCell ⟨R, i, none⟩ (.int .i64 (g + p)))) := KX.set HKA.out (by show w.heap.size ≤ R; omega) (by show R < W3.heap.size; omega) _
        obtain ⟨WC, hWC⟩ : ∃ WC : World, WC = WB.setCell ⟨R, i, none⟩ (.int .i64 (g + p)) := ⟨_, rfl⟩
        have hzC : WC.heap.size = WB.heap.size := by rw [hWC]; simp
        rw [← hWC] at hC hcx hBW HKA ⊢
        clear hWC c1 f1 cA
        have c1 : WC.cell? ⟨R, i, none⟩ = some (.int .i64 (g + p)) := by
          rw [World.ownsRow.cellAt hC.2.2.2.2.2 i (by omega), ic_get _ _ _ (by simp [HINV.out.1]; exact hix)]
          simp [List.getD_eq_getElem?_getD, List.getElem?_set_self, HINV.out.1, hix]
        refine wpIn_region_calm (fun w' => Below WC.heap.size WC w') 8 (by kernel_rfl) (fun h => by obtain ⟨_, _, h⟩ := h; exact h) (by kernel_rfl) ((Below.refl _ WC).drew) ?_
        refine cm_run 0 81 (v := ?_) rfl rfl (by kernel_rfl) (by kernel_rfl) (by kernel_rfl) (by kernel_rfl) (by kernel_rfl) (fun _ _ _ h => h) (by rfl) ?_ ?_
        rotate_left
        · (intro wS hS; have g := cell_later hS hC.2.2.2.2.1.cell; go_simp; (try with_reducible rfl))
        simp only [List.setIfInBounds_toArray, List.set_cons_zero, List.set_cons_succ]
        refine cm_run 1 82 (v := ?_) rfl rfl (by kernel_rfl) (by kernel_rfl) (by kernel_rfl) (by kernel_rfl) (by kernel_rfl) (fun _ _ _ h => h) (by rfl) ?_ ?_
        rotate_left
        · (intro wS hS; have g := BC.keep hS hcx; go_simp; (try with_reducible rfl))
        simp only [List.setIfInBounds_toArray, List.set_cons_zero, List.set_cons_succ]
        refine cm_run 2 83 (v := ?_) rfl rfl (by kernel_rfl) (by kernel_rfl) (by kernel_rfl) (by kernel_rfl) (by kernel_rfl) (fun _ _ _ h => h) (by rfl) ?_ ?_
        rotate_left
        · (intro wS hS; have g := cell_later hS hC.2.2.2.1.cell; go_simp; (try with_reducible rfl))
        simp only [List.setIfInBounds_toArray, List.set_cons_zero, List.set_cons_succ]
        refine cm_run 3 84 (v := ?_) rfl rfl (by kernel_rfl) (by kernel_rfl) (by kernel_rfl) (by kernel_rfl) (by kernel_rfl) (fun _ _ _ h => h) (by rfl) ?_ ?_
        rotate_left
        · (intro wS hS; skip; go_simp; (try with_reducible rfl))
        simp only [List.setIfInBounds_toArray, List.set_cons_zero, List.set_cons_succ]
        refine cm_run 4 85 (v := ?_) rfl rfl (by kernel_rfl) (by kernel_rfl) (by kernel_rfl) (by kernel_rfl) (by kernel_rfl) (fun _ _ _ h => h) (by rfl) ?_ ?_
        rotate_left
        · (intro wS hS; skip; go_simp; (try with_reducible rfl))
        simp only [List.setIfInBounds_toArray, List.set_cons_zero, List.set_cons_succ]
        refine cm_run 5 86 (v := ?_) rfl rfl (by kernel_rfl) (by kernel_rfl) (by kernel_rfl) (by kernel_rfl) (by kernel_rfl) (fun _ _ _ h => h) (by rfl) ?_ ?_
        rotate_left
        · (intro wS hS; have g := cell_later hS c1; go_simp; (try with_reducible rfl))
        simp only [List.setIfInBounds_toArray, List.set_cons_zero, List.set_cons_succ]
        refine cm_call 6 87 70 (v := .int .i64 (thr c (g + p))) (args := ?_) rfl rfl (by kernel_rfl) (by kernel_rfl) (by kernel_rfl) (by kernel_rfl) (by kernel_rfl) (fun _ _ _ h => h) (by rfl) ?_ ?_ ?_
        rotate_left 1
        · (intro wS hS; go_simp; (try with_reducible rfl))
        · (intro wS hS; refine (thr_any c hokx (g + p) hgp.1 hgp.2 _).mono ?_; (rintro e w2 ⟨rfl, hb⟩; exact ⟨rfl, Below.next hS hb⟩))
        simp only [List.setIfInBounds_toArray, List.set_cons_zero, List.set_cons_succ]
        refine cm_run 7 88 (v := ?_) rfl rfl (by kernel_rfl) (by kernel_rfl) (by kernel_rfl) (by kernel_rfl) (by kernel_rfl) (fun _ _ _ h => h) (by rfl) ?_ ?_
        rotate_left
        · (intro wS hS; skip; go_simp; (try with_reducible rfl))
        simp only [List.setIfInBounds_toArray, List.set_cons_zero, List.set_cons_succ]
        refine cm_tail 8 rfl (by kernel_rfl) (by kernel_rfl) (by kernel_rfl) (by rfl) ?_
        intro wS hS K hK
        have g1 := cell_later hS hC.2.2.2.2.1.cell; have g2 := fz_later hS hC.2.2.2.2.1.lt hC.2.2.2.2.1.frozen
        go_simp
        refine hK _ _ ?_
        clear hK K
        rw [show (if s.2.1 < thr c (g + p) then thr c (g + p) else s.2.1) = max s.2.1 (thr c (g + p)) by omega]
        have hC := (hC.below hS).setFin (max s.2.1 (thr c (g + p)))
        have hBW := (Below.next hBW hS).setCell (p := ⟨w.heap.size + 4, 0, none⟩) (by show w.heap.size ≤ w.heap.size + 4; omega) (.int .i64 (max s.2.1 (thr c (g + p))))
        have HKA : Hid (KX w.heap.size W3.heap.size W (wS.setCell ⟨w.heap.size + 4, 0, none⟩ (.int .i64 (max s.2.1 (thr c (g + p)))))) := KX.set (KX.next HKA.out hS (by omega)) (by show w.heap.size ≤ w.heap.size + 4; omega) (by show w.heap.size + 4 < W3.heap.size; omega) _
        have hzD := hS.size
        obtain ⟨WD, hWD⟩ : ∃ WD : World, WD = wS.setCell ⟨w.heap.size + 4, 0, none⟩ (.int .i64 (max s.2.1 (thr c (g + p)))) := ⟨_, rfl⟩
        have hzD2 : WD.heap.size = wS.heap.size := by rw [hWD]; simp
        rw [← hWD] at hC hBW HKA ⊢
        clear hWD hS
        have cN := hC.2.2.1.cell
        have fN := hC.2.2.1.frozen
        gi_wp2
        have hC := hC.setN (s.2.2 - p)
        exact ⟨(KX.set HKA.out (p := ⟨w.heap.size + 2, 0, none⟩) (by show w.heap.size ≤ w.heap.size + 2; omega) (by show w.heap.size + 2 < W3.heap.size; omega) _).2.from _, (KX.set HKA.out (p := ⟨w.heap.size + 2, 0, none⟩) (by show w.heap.size ≤ w.heap.size + 2; omega) (by show w.heap.size + 2 < W3.heap.size; omega) _).1,
          by rw [HSN.out, HST.out]; exact hC, hBW.setCell (by show w.heap.size ≤ w.heap.size + 2; omega) _, by simp; omega⟩
      · rw [if_neg hp] at hst
        have HST := Lib.hid hst
        have d5 : decide (0 < p) = false := nb hp
        clear hst hp
        gi_wp2
        exact ⟨HKA.out.2.from _, HKA.out.1, by rw [HSN.out, HST.out]; exact hC, hBW, by omega⟩
    case done =>
      rintro D xs W hD rfl ⟨hC, hBW, hzW⟩ hK
      rw [carF_picks cs bs fr dt t n _ (Nat.le_refl _)] at hC
      obtain ⟨s, hs⟩ : ∃ s, carK cs bs fr dt t n cs.length = s := ⟨_, rfl⟩
      rw [hs] at hC
      have hvv : (if 0 < s.2.2 then (([] : List Int), (0 : Int), (16 : Int)) else (s.1, s.2.1, 0)) = (out, fin, er) := by
        have hcv : Crv cs bs fr dt t n = if 0 < s.2.2 then (([] : List Int), (0 : Int), (16 : Int)) else (s.1, s.2.1, 0) := by
          unfold Crv
          rw [if_neg (by rw [HBK.out]; simp), if_neg (by rw [h1, h2, h3, h4, HOV.out]; simp), hs]
        exact hcv.symm.trans HV.out
      have hinv : CInv N n s := by rw [← hs, ← carF_picks cs bs fr dt t n _ (Nat.le_refl _), ← HN.out]; exact CInv.fold (by rw [HBL.out, HN.out]) (by omega) _
      have HKD := Lib.hid hK
      have cA := hC.2.2.2.1.cell
      have fA := hC.2.2.2.1.frozen
      have cN := hC.2.2.1.cell
      have cF := hC.2.2.2.2.1.cell
      have fF := hC.2.2.2.2.1.frozen
      clear hs hK
      by_cases hp : 0 < s.2.2
      · rw [if_pos hp] at hvv
        obtain ⟨rfl, rfl, rfl⟩ : out = [] ∧ fin = 0 ∧ er = 16 := by simpa [eq_comm] using hvv
        have d7 : decide (0 < s.2.2) = true := yb hp
        clear hp hvv
        go_wp2
        have hKd : ((W.setCell ⟨w.heap.size + 3, 0, none⟩ (.slice none 0 0)).setCell ⟨w.heap.size + 4, 0, none⟩ (.int .i64 0)).heap[D]? = some (.deferred (some [])) :=
          (Below.heap_setCell _ ⟨w.heap.size + 4, 0, none⟩ _ D (by show D ≠ w.heap.size + 4; omega)).trans ((Below.heap_setCell W ⟨w.heap.size + 3, 0, none⟩ _ D (by show D ≠ w.heap.size + 3; omega)).trans HKD.out)
        refine ⟨by simp, .inl ⟨_, _, rfl, run_takeDeferred hKd, ?_⟩⟩
        have k1 : (((W.setCell ⟨w.heap.size + 3, 0, none⟩ (.slice none 0 0)).setCell ⟨w.heap.size + 4, 0, none⟩ (.int .i64 0)).putObj D (.deferred none)).cell? ⟨w.heap.size + 3, 0, none⟩ = some (.slice none 0 0) :=
          cell_put (by show w.heap.size + 3 ≠ D; omega) (cell_set _ (by show w.heap.size + 3 ≠ w.heap.size + 4; omega) (World.cell?_setCell_same' _ _ _ (by rw [cA]; rfl)))
        have k2 : (((W.setCell ⟨w.heap.size + 3, 0, none⟩ (.slice none 0 0)).setCell ⟨w.heap.size + 4, 0, none⟩ (.int .i64 0)).putObj D (.deferred none)).cell? ⟨w.heap.size + 4, 0, none⟩ = some (.int .i64 0) :=
          cell_put (by show w.heap.size + 4 ≠ D; omega) (World.cell?_setCell_same' _ _ _ (by rw [cell_set _ (by show w.heap.size + 4 ≠ w.heap.size + 3; omega) cF]; rfl))
        refine ⟨.tuple #[.slice none 0 0, .int .i64 0, .int .i64 16], by simp [results, Try.results44, go_sem, k1, k2], _, rfl, RdI.nil _ _, ?_⟩
        exact ((hBW.setCell (p := ⟨w.heap.size + 3, 0, none⟩) (by show w.heap.size ≤ w.heap.size + 3; omega) _).setCell (p := ⟨w.heap.size + 4, 0, none⟩) (by show w.heap.size ≤ w.heap.size + 4; omega) _).trans (belowK_b (w := w) (Nat.le_refl _) _ D _ _ (by omega) hKd rfl rfl)
      · rw [if_neg hp] at hvv
        have d7 : decide (0 < s.2.2) = false := nb hp
        have HVV := Lib.hid hvv
        clear hp hvv
        go_wp2
        go_region
        obtain ⟨WX, hWX⟩ : ∃ WX : World, WX = ((W.setCell ⟨w.heap.size + 3, 0, none⟩ (.slice (some ⟨R, 0, none⟩) N cap)).setCell ⟨w.heap.size + 4, 0, none⟩ (.int .i64 s.2.1)).drew := ⟨_, rfl⟩
        have hKd : WX.heap[D]? = some (.deferred (some [])) := by
          rw [hWX]
          exact (Below.heap_setCell _ ⟨w.heap.size + 4, 0, none⟩ _ D (by show D ≠ w.heap.size + 4; omega)).trans ((Below.heap_setCell W ⟨w.heap.size + 3, 0, none⟩ _ D (by show D ≠ w.heap.size + 3; omega)).trans HKD.out)
        have k1 : WX.cell? ⟨w.heap.size + 3, 0, none⟩ = some (.slice (some ⟨R, 0, none⟩) N cap) := by
          rw [hWX]
          exact cell_drew (cell_set _ (by show w.heap.size + 3 ≠ w.heap.size + 4; omega) (World.cell?_setCell_same' _ _ _ (by rw [cA]; rfl)))
        have k2 : WX.cell? ⟨w.heap.size + 4, 0, none⟩ = some (.int .i64 s.2.1) := by
          rw [hWX]
          exact cell_drew (World.cell?_setCell_same' _ _ _ (by rw [cell_set _ (by show w.heap.size + 4 ≠ w.heap.size + 3; omega) cF]; rfl))
        have hRb := hC.R
        have hRW : R < D := by omega
        have hOX : WX.ownsRow (w.heap.size + 5) 3 1 (.slice (some ⟨R, 0, none⟩) N cap) N (ic .i64 s.1) := by
          rw [hWX]
          exact own_other (own_other hC.2.2.2.2.2 (by omega) _ _) (by omega) _ _
        have hBX : Below w.heap.size w WX := by
          rw [hWX]
          exact Below.drew ((hBW.setCell (p := ⟨w.heap.size + 3, 0, none⟩) (by show w.heap.size ≤ w.heap.size + 3; omega) _).setCell (p := ⟨w.heap.size + 4, 0, none⟩) (by show w.heap.size ≤ w.heap.size + 4; omega) _)
        rw [← hWX]
        clear hWX cA fA cN cF fF
        go_wp2
        refine ⟨by simp, .inl ⟨_, _, rfl, run_takeDeferred hKd, ?_⟩⟩
        obtain ⟨rfl, rfl, rfl⟩ : out = s.1 ∧ fin = s.2.1 ∧ er = 0 := by have := HVV.out; simp only [Prod.mk.injEq] at this; exact ⟨this.1.symm, this.2.1.symm, this.2.2.symm⟩
        have k1 := cell_put (o := .deferred none) (by show w.heap.size + 3 ≠ D; omega) k1
        have k2 := cell_put (o := .deferred none) (by show w.heap.size + 4 ≠ D; omega) k2
        refine ⟨.tuple #[.slice (some ⟨R, 0, none⟩) N cap, .int .i64 s.2.1, .int .i64 0], by simp [results, Try.results44, go_sem, k1, k2], _, rfl, ?_, ?_⟩
        · have := World.ownsRow.kept hOX (grownBy_putObj' WX D (.deferred none)) (.inr (by simp [Value.ownBlock]; omega))
          rw [← hinv.1] at this
          rw [← hinv.1]
          exact rdi_owns this
        · exact hBX.trans (belowK_b (w := w) (Nat.le_refl _) _ D _ _ (by omega) hKd rfl rfl)
end Go.Proofs.Ytnbjdgjopdeolaa
