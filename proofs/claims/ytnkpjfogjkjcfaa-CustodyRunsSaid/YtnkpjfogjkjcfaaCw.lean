


/- Custody, plainly: a valid world stays valid; it is never lost; gone only behind an Ack; delivered in the end. No program is named. -/
import Derived.Test.YtnkpjfogjkjcfaaCv
namespace Go.Proofs.Ytnkpjfogjkjcfaa
set_option linter.unusedSimpArgs false
set_option linter.unusedVariables false
open Go.RowKit
theorem asc_pw {l : List Tg} : asc l ↔ l.Pairwise ltG := by
  constructor
  · intro h
    rw [List.pairwise_iff_getElem]
    intro i j hi hj hij
    have := asc_lt h hij hj
    rwa [gt_at hi, gt_at hj] at this
  · intro h i h0 hi
    rw [List.pairwise_iff_getElem] at h
    rw [gt_at (by omega), gt_at hi]
    exact h _ _ _ _ (by omega)
theorem plc_pw : ∀ {l : List Tg} {t : Tg}, l.Pairwise ltG → t ∉ l → ∀ x, x ∈ l.drop (plc l t) → ltG t x
  | [], _, _, _, x, hx => by simp at hx
  | y :: l, t, h, ht, x, hx => by
    simp only [List.mem_cons, not_or] at ht
    rw [List.pairwise_cons] at h
    unfold plc at hx
    split at hx
    · rw [List.drop_succ_cons] at hx
      exact plc_pw h.2 ht.2 x hx
    · rename_i hy
      have hty : ltG t y := by
        by_cases h2 : ltG t y
        · exact h2
        · exact absurd (ltG_tri h2 hy) ht.1
      simp only [List.drop_zero, List.mem_cons] at hx
      rcases hx with rfl | hx
      · exact hty
      · exact ltG_tr hty (h.1 x hx)
theorem asc_ins {l : List Tg} {t : Tg} (h : asc l) (ht : t ∉ l) : asc (insG l t) := by
  rw [asc_pw] at h ⊢
  unfold insG
  rw [List.pairwise_append, List.pairwise_cons]
  refine ⟨h.sublist (List.take_sublist _ _), ⟨plc_pw h ht, h.sublist (List.drop_sublist _ _)⟩, fun a ha b hb => ?_⟩
  have hat : ltG a t := by
    obtain ⟨i, hi, rfl⟩ := List.getElem_of_mem ha
    have := plc_lt l t i (by rw [List.length_take] at hi; omega)
    rw [List.getElem_take]
    rwa [gt_at (by rw [List.length_take] at hi; omega)] at this
  simp only [List.mem_cons] at hb
  rcases hb with rfl | hb
  · exact hat
  · exact ltG_tr hat (plc_pw h ht b hb)
theorem mem_ins {l : List Tg} {t x : Tg} : x ∈ insG l t ↔ x = t ∨ x ∈ l := by
  unfold insG
  rw [List.mem_append, List.mem_cons]
  have : x ∈ l ↔ x ∈ l.take (plc l t) ∨ x ∈ l.drop (plc l t) := by rw [← List.mem_append, List.take_append_drop]
  rw [this]
  constructor
  · rintro (h | h | h)
    · exact .inr (.inl h)
    · exact .inl h
    · exact .inr (.inr h)
  · rintro (h | h | h)
    · exact .inr (.inl h)
    · exact .inl h
    · exact .inr (.inr h)
theorem ins_len (l : List Tg) (t : Tg) : (insG l t).length = l.length + 1 := by
  have := plc_le l t
  unfold insG
  simp
  omega

theorem isN_setC {X : Wd} {n m : Int} {c : Cp} : isN (setC X n c) m ↔ isN X m := by unfold isN setC; simp
theorem isN_len {X Y : Wd} (h : Y.cs.length = X.cs.length) {m : Int} : isN Y m ↔ isN X m := by unfold isN; rw [h]
theorem atC_set {X : Wd} {n m : Int} {c : Cp} (hn : isN X n) (hm : isN X m) : atC (setC X n c) m = if m = n then c else atC X m := by
  unfold isN at hn hm
  unfold atC setC gc
  rw [List.getD_eq_getElem?_getD, List.getElem?_set]
  by_cases h : m = n
  · subst h
    rw [if_pos rfl, if_pos (by omega), if_pos rfl]
    rfl
  · rw [if_neg (by omega), if_neg h, List.getD_eq_getElem?_getD]
theorem atC_get {X : Wd} {n : Int} (h : isN X n) : ∃ i, i < X.cs.length ∧ n = (i : Int) + 1 ∧ atC X n = gc X.cs i := by
  unfold isN at h
  exact ⟨(n - 1).toNat, by omega, by omega, rfl⟩
/-- as Okw, by the nodes' numbers -/
theorem okw_iff (X : Wd) : Okw X ↔ 2 ≤ X.cs.length ∧ X.cs.length ≤ 16 ∧ isN X X.ds ∧ X.fr.length ≤ 64 ∧ (∀ n, isN X n → copOK X n (atC X n)) ∧ (∀ f, f ∈ X.fr → frmOK X f) := by
  unfold Okw
  constructor
  · rintro ⟨h1, h2, h3, h4, h5, h6⟩
    refine ⟨h1, h2, h3, h4, fun n hn => ?_, h6⟩
    obtain ⟨i, hi, rfl, he⟩ := atC_get hn
    rw [he]
    exact h5 i hi
  · rintro ⟨h1, h2, h3, h4, h5, h6⟩
    refine ⟨h1, h2, h3, h4, fun i hi => ?_, h6⟩
    have := h5 ((i : Int) + 1) (by unfold isN; omega)
    unfold atC at this
    rwa [show ((i : Int) + 1 - 1).toNat = i by omega] at this
/-- Y has the nodes of X, and numbers of offers that are no smaller -/
structure Ge (X Y : Wd) : Prop where
  ds : Y.ds = X.ds
  len : Y.cs.length = X.cs.length
  nx : ∀ n, isN X n → (atC X n).nx ≤ (atC Y n).nx
theorem Ge.isN {X Y : Wd} (h : Ge X Y) {m : Int} : isN Y m ↔ isN X m := isN_len h.len
theorem Ge.tag {X Y : Wd} (h : Ge X Y) {t : Tg} {n : Int} (ht : tagOK X t n) : tagOK Y t n := by
  obtain ⟨h1, h2, h3, h4⟩ := ht
  exact ⟨h.isN.2 h1, h2, h3, Int.lt_of_lt_of_le h4 (h.nx _ h1)⟩
theorem Ge.frm {X Y : Wd} (h : Ge X Y) {f : Ps} (hf : frmOK X f) : frmOK Y f := by
  unfold frmOK at *
  rcases hf with ⟨h1, h2, h3⟩ | ⟨h1, h2, h3⟩
  · exact .inl ⟨h1, h.isN.2 h2, h.tag h3⟩
  · exact .inr ⟨h1, h.isN.2 h2, h.tag h3⟩
theorem Ge.cop {X Y : Wd} (h : Ge X Y) {n : Int} {c : Cp} (hc : copOK X n c) : copOK Y n c := by
  obtain ⟨⟨a1, a2, a3, a4⟩, ⟨b1, b2⟩, h3, h4, h5, h6⟩ := hc
  refine ⟨?_, ⟨b1, fun hs => ⟨h.isN.2 (b2 hs).1, (b2 hs).2⟩⟩, h3, h4, fun t ht => h.tag (h5 t ht), h6⟩
  unfold stOK
  rw [h.ds]
  exact ⟨a1, a2, a3, a4⟩
theorem Ge.setC {X : Wd} {n : Int} {c : Cp} (hn : Go.Proofs.Ytnkpjfogjkjcfaa.isN X n) (hx : (atC X n).nx ≤ c.nx) : Ge X (setC X n c) := ⟨rfl, by simp [Go.Proofs.Ytnkpjfogjkjcfaa.setC], fun m hm => by
  rw [atC_set hn hm]
  split
  · rename_i h; rw [h]; exact hx
  · exact Int.le_refl _⟩
theorem Ge.refl (X : Wd) : Ge X X := ⟨rfl, rfl, fun _ _ => Int.le_refl _⟩
theorem Ge.fr {X Y : Wd} (h : Ge X Y) (F : List Ps) : Ge X { Y with fr := F } := ⟨h.ds, h.len, h.nx⟩
theorem okw_set {X : Wd} {n : Int} {c : Cp} {F : List Ps} (h : Okw X) (hn : isN X n) (hx : (atC X n).nx ≤ c.nx) (hc : copOK (setC X n c) n c) (hF : F.length ≤ 64) (hf : ∀ f, f ∈ F → frmOK (setC X n c) f) : Okw { setC X n c with fr := F } := by
  rw [okw_iff] at h ⊢
  obtain ⟨h1, h2, h3, h4, h5, h6⟩ := h
  have hg : Ge X (setC X n c) := Ge.setC hn hx
  refine ⟨by rw [hg.len]; exact h1, by rw [hg.len]; exact h2, hg.isN.2 h3, hF, fun m hm => ?_, fun f hfm => ?_⟩
  · have hm : isN X m := hg.isN.1 hm
    show copOK (setC X n c) m (atC (setC X n c) m)
    rw [atC_set hn hm]
    split
    · rename_i he; rw [he]; exact hc
    · exact hg.cop (h5 m hm)
  · exact hf f hfm
theorem okw_fr {X : Wd} {F : List Ps} (h : Okw X) (hF : F.length ≤ 64) (hf : ∀ f, f ∈ F → frmOK X f) : Okw { X with fr := F } := by
  rw [okw_iff] at h ⊢
  obtain ⟨h1, h2, h3, h4, h5, h6⟩ := h
  exact ⟨h1, h2, h3, hF, h5, hf⟩
theorem dl_mem {l : List Ps} {i : Nat} {f : Ps} (h : f ∈ dlF l i) : f ∈ l := by
  unfold dlF at h
  rcases List.mem_append.1 h with h | h
  · exact List.mem_of_mem_take h
  · exact List.mem_of_mem_drop h
theorem dl_len {l : List Ps} {i : Nat} (h : i < l.length) : (dlF l i).length + 1 = l.length := by unfold dlF; simp; omega
theorem gp_mem {l : List Ps} {i : Nat} (h : i < l.length) : gp l i ∈ l := by
  unfold gp
  rw [List.getD_eq_getElem?_getD, List.getElem?_eq_getElem h]
  exact List.getElem_mem h
/-- what an error of 0 says -/
structure MvOK (X : Wd) (m : Mv) : Prop where
  k : 1 ≤ m.kd ∧ m.kd ≤ 6
  nd : m.kd = 1 ∨ m.kd = 5 ∨ m.kd = 6 → isN X m.nd
  ot : m.kd = 1 → isN X m.ot ∧ m.ot ≠ m.nd ∧ (atC X m.nd).st = 1 ∧ (atC X m.nd).nx ≠ 1099511627776
  n : m.kd = 2 ∨ m.kd = 3 ∨ m.kd = 4 → 0 ≤ m.n ∧ m.n < (X.fr.length : Int)
  room : m.kd = 1 ∨ m.kd = 4 → X.fr.length < 64
theorem ftE_zero {X : Wd} {m : Mv} (h : ftE X m = 0) : MvOK X m := by
  unfold ftE at h
  split at h; · simp at h
  rename_i h1
  split at h; · simp at h
  rename_i h2
  split at h; · simp at h
  rename_i h3
  split at h; · simp at h
  rename_i h4
  split at h; · simp at h
  rename_i h5
  split at h; · simp at h
  rename_i h6
  split at h; · simp at h
  rename_i h7
  refine ⟨by omega, fun hk => ?_, fun hk => ?_, fun hk => ?_, fun hk => ?_⟩
  · exact Decidable.not_not.1 (fun hn => h2 ⟨hk, hn⟩)
  · exact ⟨Decidable.not_not.1 (fun hn => h3 ⟨hk, .inl hn⟩), fun hn => h3 ⟨hk, .inr hn⟩, Decidable.not_not.1 (fun hn => h4 ⟨hk, hn⟩), fun hn => h7 ⟨hk, hn⟩⟩
  · constructor
    · exact Decidable.not_not.1 (fun hn => h5 ⟨hk, .inl (by omega)⟩)
    · exact Decidable.not_not.1 (fun hn => h5 ⟨hk, .inr (by omega)⟩)
  · exact Decidable.not_not.1 (fun hn => h6 ⟨hk, by omega⟩)
theorem stpE_zero {X : Wd} {m : Mv} (h : stpE X m = 0) : Okw X ∧ MvOK X m := by
  unfold stpE at h
  split at h
  · rename_i ho; exact ⟨ho, ftE_zero h⟩
  · simp at h
theorem okw_cop {X : Wd} (h : Okw X) {n : Int} (hn : isN X n) : copOK X n (atC X n) := ((okw_iff X).1 h).2.2.2.2.1 n hn
theorem okw_len {X : Wd} (h : Okw X) : X.fr.length ≤ 64 := h.2.2.2.1
theorem okw_frm {X : Wd} (h : Okw X) {f : Ps} (hf : f ∈ X.fr) : frmOK X f := h.2.2.2.2.2 f hf
theorem hld_ok {X : Wd} {n : Int} {c : Cp} (h : copOK X n c) : copOK X n (hld c) := by
  unfold hld
  split
  · rename_i h2
    obtain ⟨⟨a1, a2, a3, a4⟩, ⟨b1, b2⟩, h3, h4, h5, h6⟩ := h
    refine ⟨⟨by show (0 : Int) ≤ 1; decide, by show (1 : Int) ≤ _; split <;> decide, fun hd => ?_, a4⟩, ⟨fun _ => ⟨rfl, rfl⟩, fun h => absurd h (by show ¬ (1 : Int) = 2; decide)⟩, h3, h4, h5, h6⟩
    have := a3 hd
    omega
  · exact h
theorem hld_nx (c : Cp) : (hld c).nx = c.nx := by unfold hld; split <;> rfl
theorem hld_tk (c : Cp) : (hld c).tk = c.tk := by unfold hld; split <;> rfl
theorem hld_kp (c : Cp) : (hld c).kp = c.kp := by unfold hld; split <;> rfl
theorem ans_ok {X : Wd} {n : Int} {c : Cp} {t : Tg} {r : Bool} (h : copOK X n c) (ht : tagOK X t n) : copOK X n (ansC (decide (n = X.ds)) c t r) := by
  unfold ansC
  split
  · exact h
  rename_i hm
  obtain ⟨⟨a1, a2, a3, a4⟩, ⟨b1, b2⟩, h3, h4, h5, h6⟩ := h
  have g5 : ∀ x, x ∈ insG c.tk t → tagOK X x n := fun x hx => by
    rcases mem_ins.1 hx with rfl | hx
    · exact ht
    · exact h5 x hx
  split
  · exact ⟨⟨a1, a2, a3, a4⟩, ⟨b1, b2⟩, asc_ins h3 hm, h4, g5, fun x hx => mem_ins.2 (.inr (h6 x hx))⟩
  · have g6 : ∀ x, x ∈ insG c.kp t → x ∈ insG c.tk t := fun x hx => by
      rcases mem_ins.1 hx with rfl | hx
      · exact mem_ins.2 (.inl rfl)
      · exact mem_ins.2 (.inr (h6 x hx))
    by_cases hd : n = X.ds
    · have hs := a3 hd
      rw [if_pos hd] at a2
      rw [if_pos (by simpa using hd)]
      exact ⟨⟨by show (0 : Int) ≤ 4; decide, by rw [if_pos hd]; exact Int.le_refl _, fun _ => .inr rfl, a4⟩, ⟨fun _ => b1 (by omega), fun h => absurd h (by show ¬ (4 : Int) = 2; decide)⟩, asc_ins h3 hm, asc_ins h4 (fun hk => hm (h6 t hk)), g5, g6⟩
    · rw [if_neg hd] at a2
      rw [if_neg (by simpa using hd)]
      refine ⟨⟨?_, ?_, fun h => absurd h hd, a4⟩, ⟨fun h => b1 ?_, fun h => b2 ?_⟩, asc_ins h3 hm, asc_ins h4 (fun hk => hm (h6 t hk)), g5, g6⟩
      · show 0 ≤ (if c.st = 0 ∨ c.st = 3 then (1 : Int) else c.st)
        split <;> omega
      · show (if c.st = 0 ∨ c.st = 3 then (1 : Int) else c.st) ≤ _
        rw [if_neg hd]
        split <;> omega
      · intro he
        apply h
        show (if c.st = 0 ∨ c.st = 3 then (1 : Int) else c.st) = 2
        rw [if_neg (by omega)]
        exact he
      · have h : (if c.st = 0 ∨ c.st = 3 then (1 : Int) else c.st) = 2 := h
        split at h
        · omega
        · exact h
theorem ans_nx (d : Bool) (c : Cp) (t : Tg) (r : Bool) : (ansC d c t r).nx = c.nx := by
  unfold ansC
  split
  · rfl
  · split <;> rfl
theorem ansK_cases (c : Cp) (t : Tg) (r : Bool) : ansK c t r = 5 ∨ ansK c t r = 6 := by
  unfold ansK
  split
  · split
    · exact .inl rfl
    · exact .inr rfl
  · split
    · exact .inr rfl
    · exact .inl rfl
theorem okw_pas {r : Bool} {X : Wd} {f : Ps} (h : Okw X) (hlen : X.fr.length < 64) (hf : frmOK X f) : Okw (pasW r X f) := by
  unfold pasW
  split
  · rename_i hk
    unfold frmOK at hf
    rcases hf with ⟨_, h2, h3⟩ | ⟨h1, _⟩
    · have hx : (atC X f.tt).nx ≤ (ansC (decide (f.tt = X.ds)) (atC X f.tt) ⟨f.fr, f.of⟩ r).nx := by rw [ans_nx]; exact Int.le_refl _
      have hg := Ge.setC (c := ansC (decide (f.tt = X.ds)) (atC X f.tt) ⟨f.fr, f.of⟩ r) h2 hx
      refine okw_set h h2 hx (hg.cop (ans_ok (okw_cop h h2) h3)) (by simp; omega) (fun g hgm => ?_)
      rcases List.mem_append.1 hgm with hgm | hgm
      · exact hg.frm (okw_frm h hgm)
      · simp only [List.mem_cons, List.mem_nil_iff, or_false] at hgm
        subst hgm
        unfold frmOK
        right
        exact ⟨ansK_cases _ _ _, hg.isN.2 h2, hg.tag h3⟩
    · omega
  · split
    · rename_i hk hs
      unfold frmOK at hf
      rcases hf with ⟨h1, _⟩ | ⟨_, _, h3⟩
      · exact absurd h1 hk
      · have hn : isN X f.tt := h3.1
        have hx : (atC X f.tt).nx ≤ ({ atC X f.tt with st := if f.kd = 5 then 3 else 1, tt := 0, of := 0 } : Cp).nx := Int.le_refl _
        have hg := Ge.setC hn hx
        have hc := okw_cop h hn
        refine okw_set h hn hx (hg.cop ?_) (okw_len h) (fun g hgm => hg.frm (okw_frm h hgm))
        obtain ⟨⟨a1, a2, a3, a4⟩, ⟨b1, b2⟩, h3, h4, h5, h6⟩ := hc
        have hnd : f.tt ≠ X.ds := fun hd => by have := a3 hd; omega
        refine ⟨⟨?_, ?_, fun hd => absurd hd hnd, a4⟩, ⟨fun _ => ⟨rfl, rfl⟩, fun h => ?_⟩, h3, h4, h5, h6⟩
        · show (0 : Int) ≤ (if f.kd = 5 then 3 else 1); split <;> decide
        · show (if f.kd = 5 then (3 : Int) else 1) ≤ (if f.tt = X.ds then 4 else 3); rw [if_neg hnd]; split <;> decide
        · have h : (if f.kd = 5 then (3 : Int) else 1) = 2 := h
          split at h <;> omega
    · exact h
theorem okw_out {X : Wd} {i : Nat} (h : Okw X) : Okw (outF X i) := okw_fr h (by
  have := okw_len h
  unfold dlF
  simp
  omega) (fun f hf => okw_frm h (dl_mem hf))
theorem okw_rst {X : Wd} {n : Int} (h : Okw X) (hn : isN X n) : Okw (rstW X n) := by
  have hc := okw_cop h hn
  have hc2 := hld_ok hc
  have hx : (atC X n).nx ≤ ({ hld (atC X n) with tk := [], kp := [] } : Cp).nx := by show _ ≤ (hld (atC X n)).nx; rw [hld_nx]; exact Int.le_refl _
  have hg := Ge.setC hn hx
  have h1 : Okw { setC X n { hld (atC X n) with tk := [], kp := [] } with fr := X.fr } := okw_set h hn hx (hg.cop (by
    obtain ⟨h1, h2, h3, h4, h5, h6⟩ := hc2
    exact ⟨h1, h2, fun i _ hi => by simp at hi, fun i _ hi => by simp at hi, fun t ht => by simp at ht, fun t ht => by simp at ht⟩)) (okw_len h) (fun g hgm => hg.frm (okw_frm h hgm))
  have key : ∀ (Y : Wd) (F : List Ps), Okw Y → F.length ≤ 64 → (∀ f, f ∈ F → frmOK Y f) → Okw { Y with cs := Y.cs.map (fun c => if c.tt = n then hld c else c), fr := F } := by
    intro Y F h1 hF hf
    have hat : ∀ m, isN Y m → atC { Y with cs := Y.cs.map (fun c => if c.tt = n then hld c else c), fr := F } m = if (atC Y m).tt = n then hld (atC Y m) else atC Y m := fun m hm => by
      obtain ⟨i, hi, rfl, he⟩ := atC_get hm
      rw [he]
      unfold atC
      rw [show ((i : Int) + 1 - 1).toNat = i by omega]
      unfold gc
      rw [List.getD_eq_getElem?_getD, List.getElem?_map, List.getD_eq_getElem?_getD, List.getElem?_eq_getElem hi]
      rfl
    have hg : Ge Y { Y with cs := Y.cs.map (fun c => if c.tt = n then hld c else c), fr := F } := ⟨rfl, by simp, fun m hm => by
      rw [hat m hm]
      split
      · rw [hld_nx]; exact Int.le_refl _
      · exact Int.le_refl _⟩
    rw [okw_iff] at h1 ⊢
    obtain ⟨h1, h2, h3, h4, h5, h6⟩ := h1
    refine ⟨by rw [hg.len]; exact h1, by rw [hg.len]; exact h2, hg.isN.2 h3, hF, fun m hm => ?_, fun f hfm => hg.frm (hf f hfm)⟩
    have hm := hg.isN.1 hm
    rw [hat m hm]
    apply hg.cop
    split
    · exact hld_ok (h5 m hm)
    · exact h5 m hm
  unfold rstW
  exact key _ _ h1 (Nat.le_trans (List.length_filter_le _ _) (okw_len h)) (fun g hgm => hg.frm (okw_frm h (List.mem_filter.1 hgm).1))
theorem okw_mv {r : Bool} {X : Wd} {m : Mv} (h : stpE X m = 0) : Okw (mvW r X m) := by
  obtain ⟨ho, hm⟩ := stpE_zero h
  unfold mvW
  split
  · rename_i hk
    have hn := hm.nd (.inl hk)
    obtain ⟨h1, h2, h3, h4⟩ := hm.ot hk
    have hx : (atC X m.nd).nx ≤ ({ atC X m.nd with st := 2, tt := m.ot, of := (atC X m.nd).nx, nx := (atC X m.nd).nx + 1 } : Cp).nx := by show _ ≤ (atC X m.nd).nx + 1; omega
    have hg := Ge.setC hn hx
    have hc := okw_cop ho hn
    obtain ⟨⟨a1, a2, a3, a4, a5⟩, ⟨b1, b2⟩, c3, c4, c5, c6⟩ := hc
    have hd : m.nd ≠ X.ds := fun hd => by have := a3 hd; omega
    refine okw_set ho hn hx ?_ (by have := hm.room (.inl hk); simp; omega) (fun g hgm => ?_)
    · refine ⟨⟨by show (0 : Int) ≤ 2; decide, by show (2 : Int) ≤ _; split <;> decide, fun he => absurd he hd, by show 0 ≤ (atC X m.nd).nx + 1; omega, by show (atC X m.nd).nx + 1 ≤ _; omega⟩, ⟨fun he => absurd rfl he, fun _ => ⟨hg.isN.2 h1, h2, by show 1 ≤ (atC X m.nd).nx + 1; omega, by show (atC X m.nd).nx = (atC X m.nd).nx + 1 - 1; omega⟩⟩, c3, c4, fun t ht => hg.tag (c5 t ht), c6⟩
    · rcases List.mem_append.1 hgm with hgm | hgm
      · exact hg.frm (okw_frm ho hgm)
      · simp only [List.mem_cons, List.mem_nil_iff, or_false] at hgm
        subst hgm
        unfold frmOK
        left
        refine ⟨rfl, hg.isN.2 h1, hg.isN.2 hn, fun he => h2 he.symm, a4, ?_⟩
        show (atC X m.nd).nx < (atC (setC X m.nd _) m.nd).nx
        rw [atC_set hn hn, if_pos rfl]
        show (atC X m.nd).nx < (atC X m.nd).nx + 1
        omega
  split
  · rename_i hk
    have hn := hm.n (.inl hk)
    refine okw_pas (okw_out ho) ?_ (okw_frm ho (gp_mem (by omega)))
    have := dl_len (l := X.fr) (i := m.n.toNat) (by omega)
    have := okw_len ho
    show (dlF X.fr m.n.toNat).length < 64
    omega
  split
  · exact okw_out ho
  split
  · rename_i hk
    have hn := hm.n (.inr (.inr hk))
    have := hm.room (.inr hk)
    refine okw_fr ho (by simp; omega) (fun g hgm => ?_)
    rcases List.mem_append.1 hgm with hgm | hgm
    · exact okw_frm ho hgm
    · simp only [List.mem_cons, List.mem_nil_iff, or_false] at hgm
      subst hgm
      exact okw_frm ho (gp_mem (by omega))
  split
  · rename_i hk
    have hn := hm.nd (.inr (.inl hk))
    have hx : (atC X m.nd).nx ≤ (hld (atC X m.nd)).nx := by rw [hld_nx]; exact Int.le_refl _
    have hg := Ge.setC hn hx
    have := okw_set ho hn hx (hg.cop (hld_ok (okw_cop ho hn))) (okw_len ho) (fun g hgm => hg.frm (okw_frm ho hgm))
    exact this
  · exact okw_rst ho (hm.nd (.inr (.inr (by have := hm.k; omega))))
end Go.Proofs.Ytnkpjfogjkjcfaa
