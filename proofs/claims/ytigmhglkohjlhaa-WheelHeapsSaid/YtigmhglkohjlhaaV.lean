


/- Timers: what is due, taken out in a range over a function. -/
import Derived.Test.YtigmhglkohjlhaaU
import Derived.RangeFuncBox
import Derived.Shelf.Abstract
namespace Go.Proofs.Ytigmhglkohjlhaa
open Go.RowKit
set_option linter.unusedSimpArgs false
set_option linter.unusedVariables false
set_option maxRecDepth 100000
attribute [local go_sem] Oper.semAt_some

theorem until_any (P : Nat) (now : Int) (w : World) : Calls Try.prog 39 #[.pointer (some ⟨P, 0, none⟩), .int .i64 now] w fun e w' => e = .returned (.func (.func 55) #[] #[.pointer (some ⟨w.heap.size, 0, none⟩), .pointer (some ⟨w.heap.size + 1, 0, none⟩)]) ∧ BoxN w' w.heap.size 52 #[.pointer (some ⟨P, 0, none⟩)] ∧ BoxN w' (w.heap.size + 1) 3 #[.int .i64 now] ∧ Below w.heap.size w w' ∧ w'.heap.size = w.heap.size + 2 := by
  obtain ⟨W, hW⟩ : ∃ W : World, W = (w.alloc (.cells #[.pointer (some ⟨P, 0, none⟩)] 52)).alloc (.cells #[.int .i64 now] 3) := ⟨_, rfl⟩
  have hB : Below w.heap.size w W := by rw [hW]; exact (by repeat (first | assumption | exact Below.refl _ _ | apply Below.al | apply below_drewN | apply Below.drew | refine Below.next ?_ (by assumption)))
  have b1 : BoxN W w.heap.size 52 #[.pointer (some ⟨P, 0, none⟩)] := by rw [hW]; exact (BoxN.new w _ _).below (by repeat (first | assumption | exact Below.refl _ _ | apply Below.al | apply below_drewN | apply Below.drew | refine Below.next ?_ (by assumption)))
  have b2 : BoxN W (w.heap.size + 1) 3 #[.int .i64 now] := by
    rw [hW]; unfold BoxN; have := heap_last (w.alloc (.cells #[.pointer (some ⟨P, 0, none⟩)] 52)) (.cells #[.int .i64 now] 3); rwa [World.size_alloc] at this
  have hz : W.heap.size = w.heap.size + 2 := by rw [hW]; simp
  go_enter Try.func39, Try.ntmps39
  go_upto_region 1 with fail
  rw [← hW]
  clear hW
  go_wp2_with fail
  go_ret
  exact ⟨rfl, b1, b2, hB, hz⟩
theorem TM.put {w : World} {base P : Nat} {v : Value} {l : List Tm} (h : TM w base P v l) {k : Nat} {o : Obj} (hk : w.heap[k]? = some o) (hc : o.isCells = false) (o' : Obj) : TM (w.putObj k o') base P v l := by
  refine ⟨?_, h.row.kept (grownBy_putObj' w k o') ?_, h.len, h.ge⟩
  · have hb := h.box
    unfold BoxN at *
    rw [World.putObj_heap_other]
    · exact hb
    · rintro rfl
      rw [hb] at hk; cases hk; cases hc
  · rcases h.row.2 with ⟨rfl, _⟩ | ⟨g, cap, cur, rfl, _, hgb, _⟩
    · exact .inl rfl
    · refine .inr fun e' => ?_
      obtain rfl : g = k := by simpa [Value.ownBlock] using e'
      rw [hgb] at hk; cases hk; cases hc
theorem until_seq (base P b1 b2 : Nat) (v : Value) (l : List Tm) (now : Int) (n n0 N : Nat) (hN : (pops now l).1.length = N) (w : World)
    (hT : TM w base P v l) (hb1 : BoxN w b1 52 #[.pointer (some ⟨P, 0, none⟩)]) (hb2 : BoxN w b2 3 #[.int .i64 now]) :
    SeqK n Try.prog 55 #[.pointer (some ⟨b1, 0, none⟩), .pointer (some ⟨b2, 0, none⟩)] (fun k => #[.agg (Tm.cs (g (pops now l).1 k)).toArray]) (pH P v) (qH P v b1 b2) (fun W => ∃ v', TM W base P v' (pops now l).2) base n0 N w := by
  intro l' J W hB hJ hY h0
  have hbz : base ≤ w.heap.size := by have := hT.ge; have := (Array.getElem?_eq_some_iff.1 hT.box).1; omega
  have hst := (st_last hN).2
  rw [hst]
  refine until1_in base P b1 b2 v l now n l' n0 N hN J W (hT.keep hB) (hb1.below hB) (hb2.below hB) hJ (fun k W1 hk hj => ?_) h0
  have h5 := hY k W1 hk hj
  rw [← (st_more (now := now) (l := l) (k := k) (by omega)).2.2]
  exact h5
set_option maxHeartbeats 4000000 in
theorem due_bad (v : Value) (l : List Tm) (now : Int) (er ix : Int) (hc : chkW l = (er, ix)) (hbad : er ≠ 0 ∨ now < 0 ∨ 1099511627776 < now) (w : World) (h : RdM w v l) :
    Calls Try.prog 20 #[v, .int .i64 now] w (LLE w ([], [], if er ≠ 0 then er else 2)) := by
  have HR := Lib.hid h
  obtain ⟨a0, n0, rfl⟩ := h.form
  obtain ⟨N0, hN0⟩ : ∃ N0, l.length = N0 := ⟨_, rfl⟩
  have HR : Hid (RdM w (.slice a0 N0 n0) l) := by rw [hN0] at h; exact h
  rw [hN0]
  clear h hN0
  obtain ⟨W, hW⟩ : ∃ W : World, W = w.alloc (.cells #[.slice none 0 0] 22) := ⟨_, rfl⟩
  have hB : Below w.heap.size w W := by rw [hW]; exact (by repeat (first | assumption | exact Below.refl _ _ | apply Below.al | apply below_drewN | apply Below.drew | refine Below.next ?_ (by assumption)))
  have bR : Boxed W w.heap.size 22 (.slice none 0 0) := by rw [hW]; exact Boxed.new w _ _
  have hz : W.heap.size = w.heap.size + 1 := by rw [hW]; simp
  have HC := Lib.hid hc
  clear hc
  obtain ⟨E, HE⟩ : ∃ E, Hid ((if er ≠ 0 then er else 2) = E) := ⟨_, rfl⟩
  rw [HE.out]
  go_enter Try.func20, Try.ntmps20
  go_upto_region 1 with fail
  rw [← hW]
  clear hW
  by_cases he : er ≠ 0
  · obtain rfl : er = E := by rw [← HE.out, if_pos he]
    have d0 : (er == 0) = false := by simpa using he
    have d1 : (er != 0) = true := by simpa using he
    clear hbad
    go_wp2_with fail
    refine (opened_no _ l er ix HC.out he _ (RdL.keep hB HR.out)).mono ?_
    rintro e w1 ⟨rfl, hb1⟩
    have hB1 := Below.next hB hb1
    have bR1 := Boxed.below bR hb1
    clear he
    have c0 := bR1.cell
    have z0 := bR1.frozen
    have b2 := bR1.set (.slice none 0 0)
    have c2 := b2.cell
    have hB2 : Below w.heap.size w (w1.setCell ⟨w.heap.size, 0, none⟩ (.slice none 0 0)) := hB1.setCell (p := ⟨w.heap.size, 0, none⟩) (Nat.le_refl _) _
    go_wp2_with fail
    refine bodyPost_ret (v := .tuple #[.slice none 0 0, .slice none 0 0, .int .i64 er]) (by simp [results, Try.results20, go_sem, c2]) rfl ⟨_, _, rfl, RdM.nil _, RdM.nil _, hB2⟩
  · obtain rfl : E = 2 := by rw [← HE.out, if_neg he]
    obtain rfl : er = 0 := by omega
    have d0 : ((0 : Int) == 0) = true := rfl
    go_wp2_with fail
    refine (opened_ok _ l ix HC.out _ (RdL.keep hB HR.out)).mono ?_
    rintro e w1 ⟨⟨P, u, rfl, hT⟩, hb1⟩
    have hB1 := Below.next hB hb1
    have bR1 := Boxed.below bR hb1
    clear hT he
    by_cases h1 : now < 0
    · have d1 : decide (now < 0) = true := yb h1
      clear h1 hbad
      have c0 := bR1.cell
      have z0 := bR1.frozen
      have b2 := bR1.set (.slice none 0 0)
      have c2 := b2.cell
      have hB2 : Below w.heap.size w (w1.setCell ⟨w.heap.size, 0, none⟩ (.slice none 0 0)) := hB1.setCell (p := ⟨w.heap.size, 0, none⟩) (Nat.le_refl _) _
      go_wp2_with fail
      refine bodyPost_ret (v := .tuple #[.slice none 0 0, .slice none 0 0, .int .i64 2]) (by simp [results, Try.results20, go_sem, c2]) rfl ⟨_, _, rfl, RdM.nil _, RdM.nil _, hB2⟩
    · have d1 : decide (now < 0) = false := nb h1
      have h2 : 1099511627776 < now := by omega
      have d2 : decide (1099511627776 < now) = true := yb h2
      clear h1 h2 hbad
      have c0 := bR1.cell
      have z0 := bR1.frozen
      have b2 := bR1.set (.slice none 0 0)
      have c2 := b2.cell
      have hB2 : Below w.heap.size w (w1.setCell ⟨w.heap.size, 0, none⟩ (.slice none 0 0)) := hB1.setCell (p := ⟨w.heap.size, 0, none⟩) (Nat.le_refl _) _
      go_wp2_with fail
      refine bodyPost_ret (v := .tuple #[.slice none 0 0, .slice none 0 0, .int .i64 2]) (by simp [results, Try.results20, go_sem, c2]) rfl ⟨_, _, rfl, RdM.nil _, RdM.nil _, hB2⟩
theorem own_keepK {p : Nat → Obj → Bool} {A B : World} {base : Nat} {e : TypeId} {size : Nat} {v : Value} {n : Nat} {xs : List Value} (h : A.ownsRow base e size v n xs) (hk : keepsK p A B) (hp : ∀ b o, v.ownBlock = some b → o.isCells = true → p b o = true) : B.ownsRow base e size v n xs := by
  refine ⟨h.1, ?_⟩
  rcases h.2 with h2 | ⟨g, cap, cur, hv2, hb, hh, rest⟩
  · exact .inl h2
  · exact .inr ⟨g, cap, cur, hv2, hb, hk g _ hh (hp g _ (by rw [hv2]; rfl) rfl), rest⟩
theorem qH_no {P : Nat} {v : Value} {b1 b2 k : Nat} (h1 : k ≠ P) (h2 : v.ownBlock ≠ some k) (h3 : k ≠ b1) (h4 : k ≠ b2) (o : Obj) : qH P v b1 b2 k o = false := by
  unfold qH hot
  have e1 : (k == P) = false := by simpa using h1
  have e2 : (v.ownBlock == some k) = false := by simpa using h2
  have e3 : (k == b1) = false := by simpa using h3
  have e4 : (k == b2) = false := by simpa using h4
  rw [e1, e2, e3, e4]
  simp
theorem take_snoc {l : List Tm} {k : Nat} (h : k < l.length) : l.take (k + 1) = l.take k ++ [g l k] := by
  rw [List.take_add_one, List.getElem?_eq_getElem h, g_at h]
  rfl
structure DS (w : World) (base P R D S0 : Nat) (v u : Value) (D2 : List Tm) (xs : List Value) (N : Nat) (X : World) : Prop where
  tm : TM X base P v D2
  box : Boxed X R 22 u
  row : X.ownsRow S0 41 5 u N xs
  bel : Below w.heap.size w X
  dfr : X.heap[D]? = some (.deferred (some []))
  le : w.heap.size ≤ R ∧ w.heap.size ≤ D
  ne : R ≠ P
  no : v.ownBlock ≠ some R
theorem DS.drew {w : World} {base P R D S0 : Nat} {v u : Value} {D2 : List Tm} {xs : List Value} {N : Nat} {X : World} (h : DS w base P R D S0 v u D2 xs N X) : DS w base P R D S0 v u D2 xs N X.drew :=
  ⟨h.tm.keep (Below.refl _ X).drew, Boxed.below h.box (Below.refl _ X).drew, h.row.drew, h.bel.drew, h.dfr, h.le, h.ne, h.no⟩
theorem DS.set {w : World} {base P R D S0 : Nat} {v u : Value} {D2 : List Tm} {xs : List Value} {N : Nat} {X : World} (h : DS w base P R D S0 v u D2 xs N X) : DS w base P R D S0 v u D2 xs N (X.setCell ⟨R, 0, none⟩ u) := by
  have hg := grownBy_setCell' X R u
  refine ⟨⟨?_, h.tm.row.kept hg (.inr h.no), h.tm.len, h.tm.ge⟩, h.box.set u, h.row.kept hg (.inr (h.box.not_row (by decide) h.row).symm), h.bel.setCell (p := ⟨R, 0, none⟩) h.le.1 u, ?_, h.le, h.ne, h.no⟩
  · exact (hg.block P (Array.getElem?_eq_some_iff.1 h.tm.box).1 (fun e => h.ne (by cases e; rfl))).trans h.tm.box
  · refine (hg.block D (Array.getElem?_eq_some_iff.1 h.dfr).1 (fun e => ?_)).trans h.dfr
    cases e
    have h1 := h.box
    unfold Boxed at h1
    rw [h.dfr] at h1
    cases h1
set_option maxHeartbeats 4000000 in
theorem due_ok (v : Value) (l : List Tm) (now : Int) (ix : Int) (hc : chkW l = (0, ix)) (h1 : ¬ now < 0) (h2 : ¬ 1099511627776 < now) (w : World) (h : RdM w v l) :
    Calls Try.prog 20 #[v, .int .i64 now] w (LLE w ((pops now l).1, (pops now l).2, 0)) := by
  have hll := chk_len (l := l) (by rw [hc])
  have HR := Lib.hid h
  obtain ⟨a0, n0, rfl⟩ := h.form
  obtain ⟨N0, hN0⟩ : ∃ N0, l.length = N0 := ⟨_, rfl⟩
  have HR : Hid (RdM w (.slice a0 N0 n0) l) := by rw [hN0] at h; exact h
  rw [hN0]
  clear h hN0
  obtain ⟨W, hW⟩ : ∃ W : World, W = w.alloc (.cells #[.slice none 0 0] 22) := ⟨_, rfl⟩
  have hB : Below w.heap.size w W := by rw [hW]; exact (by repeat (first | assumption | exact Below.refl _ _ | apply Below.al | apply below_drewN | apply Below.drew | refine Below.next ?_ (by assumption)))
  have bR : Boxed W w.heap.size 22 (.slice none 0 0) := by rw [hW]; exact Boxed.new w _ _
  have hz : W.heap.size = w.heap.size + 1 := by rw [hW]; simp
  have HC := Lib.hid hc
  obtain ⟨N, hN⟩ : ∃ N, (pops now l).1.length = N := ⟨_, rfl⟩
  have hpl := pops_len now _ l rfl
  have HNL : Hid (N ≤ 1000) := by unfold Hid; omega
  have HN := Lib.hid hN
  have d1 : decide (now < 0) = false := nb h1
  have d2 : decide (1099511627776 < now) = false := nb h2
  clear hc h1 h2 hN hll hpl
  obtain ⟨D1, HD1⟩ : ∃ d, Hid ((pops now l).1 = d) := ⟨_, rfl⟩
  obtain ⟨D2, HD2⟩ : ∃ d, Hid ((pops now l).2 = d) := ⟨_, rfl⟩
  rw [HD1.out, HD2.out]
  refine (callsIn_wide (n := 9)).1 ?_
  refine callsIn_of_wp_marks Try.func20 rfl trivial ?_ rfl
  refine wpIn_wide.2 ?_
  simp only [Try.ntmps20, List.size_toArray, List.length_cons, List.length_nil, Nat.reduceAdd, Nat.reduceSub, Array.replicate_succ, Array.replicate_zero, List.push_toArray, List.append_toArray, List.nil_append, List.cons_append]
  go_upto_region 1 with fail
  rw [← hW]
  clear hW
  go_wp2_with fail
  refine (opened_ok _ l ix HC.out _ (RdL.keep hB HR.out)).mono ?_
  rintro e w1 ⟨⟨P, u, rfl, hT⟩, hb1⟩
  have hB1 := Below.next hB hb1
  have bR1 := Boxed.below bR hb1
  have HT1 := Lib.hid hT
  have hz1 := hb1.size
  clear hT hb1 hB bR
  go_wp2_with fail
  refine (until_any P now _).mono ?_
  rintro e w2 ⟨rfl, hx1, hx2, hb2, hz2⟩
  have bR2 := Boxed.below bR1 hb2
  have hB2 := Below.next hB1 hb2
  have hT2 := HT1.out.keep hb2
  have hPl : P < w1.heap.size := (Array.getElem?_eq_some_iff.1 HT1.out.box).1
  have hPg := HT1.out.ge
  have hOl : ∀ b, u.ownBlock = some b → W.heap.size ≤ b ∧ b < w1.heap.size := World.ownsRow.lt HT1.out.row
  have HSEQ := Lib.hid (until_seq W.heap.size P w1.heap.size (w1.heap.size + 1) u l now 8 w.heap.size N HN.out w2 hT2 hx1 hx2)
  rw [HD1.out, HD2.out] at HSEQ
  have HDN : Hid (D1.length = N) := by unfold Hid; rw [← HD1.out]; exact HN.out
  have HBR := Lib.hid bR2
  have HB2 := Lib.hid hB2
  have HZ2 := Lib.hid hz2
  have HPG := Lib.hid (show w.heap.size < P by omega)
  clear hz2 bR2 hB2 hT2 hx1 hx2 hb2 bR1 hB1 HT1
  go_wp2_with fail
  refine range_ownK (gf := 55) (lb := #[.pointer (some ⟨w1.heap.size, 0, none⟩), .pointer (some ⟨w1.heap.size + 1, 0, none⟩)]) 9 41 (fun tm k Bx => (tm.setIfInBounds 30 (.agg (Tm.cs (g D1 k)).toArray)).setIfInBounds 8 (.pointer (some ⟨Bx, 0, none⟩))) (by omega) ?hg ?eg
    (cs := fun k => (Tm.cs (g D1 k)).toArray) (p := pH P u) (q := qH P u w1.heap.size (w1.heap.size + 1)) (Z := fun X => ∃ v', TM X W.heap.size P v' D2) (n1 := W.heap.size) (n0 := w.heap.size) (N := N) ?hp ?hq ?hn0 ?hn1 ?hseq ?hZ
    (fun k Wx => (∃ a c, Boxed Wx w.heap.size 22 (.slice a k c) ∧ Wx.ownsRow w2.heap.size 41 5 (.slice a k c) k (rcs tmR (D1.take k))) ∧ Below w.heap.size w Wx ∧ w2.heap.size ≤ Wx.heap.size) ?hI ?h0 ?assign ?body ?done
  case hg => rfl
  case eg => exact enters_of Try.func55 (by kernel_rfl) rfl
  case hn0 => have := HZ2.out; omega
  case hn1 => have := HZ2.out; omega
  case hseq => exact HSEQ.out
  case hZ => rintro A l' o o' ⟨v', hv⟩ ho hc; exact ⟨v', hv.put ho hc o'⟩
  case h0 => exact ⟨⟨none, 0, HBR.out, rfl, .inl ⟨rfl, rfl⟩⟩, HB2.out, Nat.le_refl _⟩
  case hp => intro k o h; simp [pH, h]
  case hq => intro k o h; simp [qH, h]
  case hI =>
    rintro k A B ⟨⟨a, c, hb, ho⟩, hw, hs⟩ hbel hkp
    refine ⟨⟨a, c, (hbel.block w.heap.size (by omega)).trans hb, own_keepK ho hkp (fun b o hb hc => ?_)⟩, hw.trans (hbel.mono (by omega)), Nat.le_trans hs hbel.size⟩
    have h5 := (World.ownsRow.lt ho b hb).1
    have := HZ2.out
    have h6 : hot P u b = false := by
      unfold hot
      rw [Bool.or_eq_false_iff]
      refine ⟨by simp; omega, ?_⟩
      simp only [beq_eq_false_iff_ne, ne_eq]
      intro he
      have := (hOl b he).2
      omega
    simp [pH, h6, hc]
  case assign =>
    intro l k W K hI hz hK
    obtain ⟨x, hx⟩ : ∃ x, g D1 k = x := ⟨_, rfl⟩
    rw [hx] at hK ⊢
    clear hx hI
    simp only [Tm.cs, List.setIfInBounds_toArray, List.set_cons_zero, List.set_cons_succ] at hK ⊢
    gi_wp2
    exact hK
  case body =>
    obtain ⟨j0, hj, hjz, hjs, hjb⟩ := info_parts ETm.hi
    rintro l' k Bx Wb ⟨⟨a, c, bL, hown⟩, hBW, hSW⟩ hzW hBx bT hkN
    obtain ⟨t, ht⟩ : ∃ t, g D1 k = t := ⟨_, rfl⟩
    have HNX : Hid (D1.take (k + 1) = D1.take k ++ [t]) := by unfold Hid; rw [← ht]; exact take_snoc (by rw [HDN.out]; exact hkN)
    rw [ht] at bT ⊢
    clear ht
    simp only [Tm.cs, List.setIfInBounds_toArray, List.set_cons_zero, List.set_cons_succ] at bT ⊢
    have c0 : Wb.cell? ⟨Bx, 0, none⟩ = some (.int .i64 t.tk) := (bT.cell 0).trans rfl
    have c1 : Wb.cell? ⟨Bx, 1, none⟩ = some (.int .i64 t.kd) := (bT.cell 1).trans rfl
    have c2 : Wb.cell? ⟨Bx, 2, none⟩ = some (.int .i64 t.nd) := (bT.cell 2).trans rfl
    have c3 : Wb.cell? ⟨Bx, 3, none⟩ = some (.int .u64 t.sq) := (bT.cell 3).trans rfl
    have c4 : Wb.cell? ⟨Bx, 4, none⟩ = some (.int .i64 t.of) := (bT.cell 4).trans rfl
    have bcell := bL.cell
    have HBL := Lib.hid bL
    have HOWN := Lib.hid hown
    have HOWN2 := Lib.hid (hown.alloc (.cells #[.int .i64 t.tk, .int .i64 t.kd, .int .i64 t.nd, .int .u64 t.sq, .int .i64 t.of] 41))
    have hkl : k < 1000 := by have := HNL.out; omega
    clear hown bL bT
    gi_wp2_with (gi_at_builtin; refine wpListIn_append_own _ rfl (.tmp 31) (.tmp 33) 22 rfl w2.heap.size 41 j0 (.agg #[.int .i64 0, .int .i64 0, .int .i64 0, .int .u64 0, .int .i64 0]) 5 40 Try.underlying22 hj hjz hjs hjb rfl (by decide) _ k (rcs tmR (D1.take k)) rfl HOWN2.out ⟨Wb.heap.size, 0, none⟩ 1 1 (Tm.cs t) rfl rfl ?_ ?_ ?_ ?_ ?_ ?_)
    · intro j u hj
      rw [Addr.add_mid]
      match j, hj with
      | 0, hj => simp [Tm.cs] at hj; subst hj; simp [go_sem]
      | 1, hj => simp [Tm.cs] at hj; subst hj; simp [go_sem]
      | 2, hj => simp [Tm.cs] at hj; subst hj; simp [go_sem]
      | 3, hj => simp [Tm.cs] at hj; subst hj; simp [go_sem]
      | 4, hj => simp [Tm.cs] at hj; subst hj; simp [go_sem]
      | j + 5, hj => simp [Tm.cs] at hj
    · exact Tm.cs_one _
    · unfold maxLen; omega
    · omega
    · simp; omega
    intro v' w3 hown' hgrow _
    obtain ⟨a3, c3', rfl⟩ := owns_form hown'
    have hz2 := HZ2.out
    have HGR := Lib.hid hgrow
    have HOW := Lib.hid hown'
    obtain ⟨hv1, hv2, _, hk2, hb2⟩ := HBL.out.appended (n₀ := w.heap.size) (by decide) (owns_mono HOWN.out (by omega)) (by omega) (Nat.le_refl _) (owns_mono hown' (by omega)) hgrow
    have hr2 := HOW.out.kept (grownBy_setCell' w3 w.heap.size (.slice a3 (k + 1) c3')) (.inr (hv1.not_row (by decide) HOW.out).symm)
    have hq : keepsK (qH P u w1.heap.size (w1.heap.size + 1)) Wb (w3.setCell ⟨w.heap.size, 0, none⟩ (.slice a3 (k + 1) c3')) := by
      have g1 : keepsK (qH P u w1.heap.size (w1.heap.size + 1)) Wb (Wb.alloc (.cells #[.int .i64 t.tk, .int .i64 t.kd, .int .i64 t.nd, .int .u64 t.sq, .int .i64 t.of] 41)) := keepsK.below ((Below.refl _ _).alloc (Nat.le_refl _) _)
      have g2 := keepsK.grown (p := qH P u w1.heap.size (w1.heap.size + 1)) HGR.out (fun r e o ho => by
        have h5 := (World.ownsRow.lt HOWN.out r e).1
        exact qH_no (by omega) (fun h6 => by have := (hOl r h6).2; omega) (by omega) (by omega) o)
      refine (g1.trans g2).trans (keepsK.set hv1 (qH_no (by omega) (fun h6 => by have := (hOl _ h6).1; omega) (by omega) (by omega) _) _ rfl _)
    have hc1 := hv1.cell
    have hf1 := hv1.frozen
    have HV2 := Lib.hid hv2
    have HR2 := Lib.hid hr2
    have HK2 := Lib.hid hk2
    have HBB2 := Lib.hid hb2
    have HQ := Lib.hid hq
    clear hgrow hown' bcell c0 c1 c2 c3 c4 hv1 hv2 hk2 hb2 hr2 hq hz2
    gi_wp2
    exact ⟨HK2.out.from _, ⟨HBB2.out, HQ.out⟩, ⟨⟨a3, c3', HV2.out, by rw [HNX.out, rcs_append]; exact HR2.out⟩, hBW.trans HBB2.out, Nat.le_trans hSW HBB2.out.size⟩⟩
  case done =>
    rintro D Wd hD ⟨⟨a, c, bL, hown⟩, hBW, hSW⟩ ⟨v', hT⟩ hK
    obtain ⟨a', c', rfl⟩ := hT.form
    have h0 := hT.hd
    have cL := bL.cell
    have zL := bL.frozen
    have HT := Lib.hid hT
    have HO := Lib.hid hown
    have HBL := Lib.hid bL
    clear hT hown bL
    go_upto_region 9 with fail
    have hPg2 := HPG.out
    have hs0 : DS w W.heap.size P w.heap.size D w2.heap.size (.slice a' D2.length c') (.slice a N c) D2 (rcs tmR (D1.take N)) N Wd.drew :=
      DS.drew ⟨HT.out, HBL.out, HO.out, hBW, hK, ⟨Nat.le_refl _, by have := HZ2.out; omega⟩, by omega, fun h => by have := (World.ownsRow.lt HT.out.row _ h).1; omega⟩
    clear hPg2 hBW h0
    refine wp_region_noPanic ?_
    refine wp_region_late (DS w W.heap.size P w.heap.size D w2.heap.size (.slice a' D2.length c') (.slice a N c) D2 (rcs tmR (D1.take N)) N) (fun w' => Below Wd.heap.size Wd w') [4] (by kernel_rfl) hs0 ((Below.refl _ Wd).drew) (fun hHeld0 hHeld => ?_)
    refine reg0_tk (v := ?_) 0 35 rfl rfl (by kernel_rfl) (by kernel_rfl) (by kernel_rfl) (by kernel_rfl) (by kernel_rfl) (fun _ _ _ h => h) (by rfl) ?_ (by assumption) (by assumption) ?_
    rotate_left
    · (intro w3 hS; (try dsimp only at hS); have gx := hS.box.cell; go_simp; (try with_reducible rfl))
    simp only [List.setIfInBounds_toArray, List.set_cons_zero, List.set_cons_succ]
    refine reg0_tk (v := ?_) 1 36 rfl rfl (by kernel_rfl) (by kernel_rfl) (by kernel_rfl) (by kernel_rfl) (by kernel_rfl) (fun _ _ _ h => h) (by rfl) ?_ (by assumption) (by assumption) ?_
    rotate_left
    · (intro w3 hS; (try dsimp only at hS); skip; go_simp; (try with_reducible rfl))
    simp only [List.setIfInBounds_toArray, List.set_cons_zero, List.set_cons_succ]
    refine reg0_tk (v := ?_) 2 37 rfl rfl (by kernel_rfl) (by kernel_rfl) (by kernel_rfl) (by kernel_rfl) (by kernel_rfl) (fun _ _ _ h => h) (by rfl) ?_ (by assumption) (by assumption) ?_
    rotate_left
    · (intro w3 hS; (try dsimp only at hS); skip; go_simp; (try with_reducible rfl))
    simp only [List.setIfInBounds_toArray, List.set_cons_zero, List.set_cons_succ]
    refine reg0_tk (v := ?_) 3 38 rfl rfl (by kernel_rfl) (by kernel_rfl) (by kernel_rfl) (by kernel_rfl) (by kernel_rfl) (fun _ _ _ h => h) (by rfl) ?_ (by assumption) (by assumption) ?_
    rotate_left
    · (intro w3 hS; (try dsimp only at hS); have gx := hS.tm.hd; go_simp; (try with_reducible rfl))
    simp only [List.setIfInBounds_toArray, List.set_cons_zero, List.set_cons_succ]
    refine wpAnyG_one (i := 4) (by kernel_rfl) rfl (by rfl) (by kernel_rfl) (fun K hK => ?_)
    go_simp
    refine hK _ _ hs0.set ?_
    clear hK K
    try simp only [Act.put, List.setIfInBounds_toArray, List.set_cons_zero, List.set_cons_succ]
    refine wpAnyG_one (i := 5) (by kernel_rfl) rfl (by rfl) (by kernel_rfl) (fun K hK => ?_)
    go_simp
    refine hK _ _ hs0.set ?_
    clear hK K
    try simp only [Act.put, List.setIfInBounds_toArray, List.set_cons_zero, List.set_cons_succ]
    refine wpAnyG_one (i := 6) (by kernel_rfl) rfl (by rfl) (by kernel_rfl) (fun K hK => ?_)
    go_simp
    refine hK _ _ hs0.set ?_
    clear hK K
    try simp only [Act.put, List.setIfInBounds_toArray, List.set_cons_zero, List.set_cons_succ]
    refine wpAnyG_done (by kernel_rfl) ?_ _
    refine NoPanic.normal ?_
    have hs := hs0.set
    rw [show Wd.drew.setCell ⟨w.heap.size, 0, none⟩ (.slice a N c) = (Wd.setCell ⟨w.heap.size, 0, none⟩ (.slice a N c)).drew from rfl] at hs
    obtain ⟨X, hX⟩ : ∃ X : World, X = (Wd.setCell ⟨w.heap.size, 0, none⟩ (.slice a N c)).drew := ⟨_, rfl⟩
    rw [← hX] at hs ⊢
    have cX := hs.box.cell
    have cY : (X.putObj D (.deferred none)).cell? ⟨w.heap.size, 0, none⟩ = some (.slice a N c) := by
      refine Boxed.cell (t := 22) ((World.putObj_heap_other ?_).trans hs.box)
      rintro rfl
      have h1 := hs.box
      unfold Boxed at h1
      rw [hs.dfr] at h1
      cases h1
    have HS := Lib.hid hs
    clear hs hs0 hX hK cL zL
    go_wp2_with fail
    refine ⟨by simp, .inl ⟨_, _, rfl, run_takeDeferred HS.out.dfr, ?_⟩⟩
    refine ⟨.tuple #[.slice a N c, .slice a' D2.length c', .int .i64 0], by simp [results, Try.results20, go_sem, cY], _, _, rfl, ?_, (HS.out.tm.put HS.out.dfr rfl _).rd, HS.out.bel.trans (below_putK2 HS.out.le.2 _)⟩
    have h5 := ownsRow_putObj HS.out.row (.deferred none) HS.out.dfr rfl
    rw [show D1.take N = D1 from List.take_of_length_le (by rw [HDN.out]; exact Nat.le_refl _)] at h5
    exact RdM.own h5 HDN.out
theorem due_any (v : Value) (l : List Tm) (now : Int) (w : World) (h : RdM w v l) : Calls Try.prog 20 #[v, .int .i64 now] w (LLE w (dueW l now)) := by
  obtain ⟨er, ix, hc⟩ : ∃ er ix, chkW l = (er, ix) := ⟨_, _, rfl⟩
  unfold dueW
  rw [hc]
  by_cases he : er ≠ 0
  · rw [if_pos he]
    have := due_bad v l now er ix hc (.inl he) w h
    rwa [if_pos he] at this
  · rw [if_neg he]
    by_cases hn : now < 0 ∨ 1099511627776 < now
    · rw [if_pos hn]
      have := due_bad v l now er ix hc (.inr hn) w h
      rwa [if_neg he] at this
    · rw [if_neg hn]
      obtain rfl : er = 0 := by omega
      exact due_ok v l now ix hc (fun h => hn (.inl h)) (fun h => hn (.inr h)) w h
end Go.Proofs.Ytigmhglkohjlhaa
