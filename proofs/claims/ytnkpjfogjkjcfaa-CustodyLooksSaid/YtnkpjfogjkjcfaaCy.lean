


/- Custody, plainly: gone only behind an Ack; delivered in the end; beginnings; circles. No program is named. -/
import Derived.Test.YtnkpjfogjkjcfaaCx
namespace Go.Proofs.Ytnkpjfogjkjcfaa
set_option linter.unusedSimpArgs false
set_option linter.unusedVariables false
open Go.RowKit
/-- what a frame makes of a copy -/
theorem pas_at {r : Bool} {X : Wd} {f : Ps} {n : Int} (ht : isN X f.tt) (hn : isN X n) : atC (pasW r X f) n = if n = f.tt then (if f.kd = 3 then ansC (decide (f.tt = X.ds)) (atC X f.tt) ⟨f.fr, f.of⟩ r else if (atC X f.tt).st = 2 ∧ (atC X f.tt).tt = f.fr ∧ (atC X f.tt).of = f.of then { atC X f.tt with st := if f.kd = 5 then 3 else 1, tt := 0, of := 0 } else atC X f.tt) else atC X n := by
  unfold pasW
  split
  · exact atC_set ht hn
  · split
    · exact atC_set ht hn
    · split
      · rename_i h; rw [h]
      · rfl
theorem frm_tt {X : Wd} {f : Ps} (h : frmOK X f) : isN X f.tt ∧ isN X f.fr ∧ (f.kd = 3 ∨ f.kd = 5 ∨ f.kd = 6) := by
  unfold frmOK at h
  rcases h with ⟨h1, h2, h3⟩ | ⟨h1, h2, h3⟩
  · exact ⟨h2, h3.1, .inl h1⟩
  · exact ⟨h3.1, h2, .inr h1⟩
theorem mv_at {r : Bool} {X : Wd} {m : Mv} {n : Int} (hs : stpE X m = 0) (hn : isN X n) : atC (mvW r X m) n =
    if m.kd = 1 then (if n = m.nd then { atC X m.nd with st := 2, tt := m.ot, of := (atC X m.nd).nx, nx := (atC X m.nd).nx + 1 } else atC X n)
    else if m.kd = 2 then atC (pasW r (outF X m.n.toNat) (gp X.fr m.n.toNat)) n
    else if m.kd = 3 then atC X n
    else if m.kd = 4 then atC X n
    else if m.kd = 5 then (if n = m.nd then hld (atC X m.nd) else atC X n)
    else atC (rstW X m.nd) n := by
  obtain ⟨ho, hm⟩ := stpE_zero hs
  unfold mvW
  by_cases k1 : m.kd = 1
  · simp only [if_pos k1]
    exact atC_set (hm.nd (.inl k1)) hn
  simp only [if_neg k1]
  by_cases k2 : m.kd = 2
  · simp only [if_pos k2]
  simp only [if_neg k2]
  by_cases k3 : m.kd = 3
  · simp only [if_pos k3]; rfl
  simp only [if_neg k3]
  by_cases k4 : m.kd = 4
  · simp only [if_pos k4]; rfl
  simp only [if_neg k4]
  by_cases k5 : m.kd = 5
  · simp only [if_pos k5]
    exact atC_set (hm.nd (.inr (.inl k5))) hn
  simp only [if_neg k5]
theorem frm_of {X : Wd} {m : Mv} (hs : stpE X m = 0) (hk : m.kd = 2 ∨ m.kd = 4) : gp X.fr m.n.toNat ∈ X.fr ∧ frmOK X (gp X.fr m.n.toNat) := by
  obtain ⟨ho, hm⟩ := stpE_zero hs
  have hn := hm.n (by omega)
  have hg := gp_mem (l := X.fr) (i := m.n.toNat) (by omega)
  exact ⟨hg, okw_frm ho hg⟩
theorem hld_nz {c : Cp} (h : c.st ≠ 0) : (hld c).st ≠ 0 := by rw [hld_st]; split <;> omega
theorem ans_nz {d r : Bool} {c : Cp} {t : Tg} (h : c.st ≠ 0) : (ansC d c t r).st ≠ 0 := by
  unfold ansC
  split
  · exact h
  split
  · exact h
  · show (if d = true then (4 : Int) else if c.st = 0 ∨ c.st = 3 then 1 else c.st) ≠ 0
    split
    · decide
    split
    · decide
    · exact h
theorem pas_nz {r : Bool} {X : Wd} {f : Ps} {n : Int} (ht : isN X f.tt) (hn : isN X n) (h : (atC X n).st ≠ 0) : (atC (pasW r X f) n).st ≠ 0 := by
  rw [pas_at ht hn]
  split
  · rename_i e
    subst e
    split
    · exact ans_nz h
    split
    · show (if f.kd = 5 then (3 : Int) else 1) ≠ 0
      split <;> decide
    · exact h
  · exact h
theorem rst_nz {X : Wd} {k n : Int} (hk : isN X k) (hn : isN X n) (h : (atC X n).st ≠ 0) : (atC (rstW X k) n).st ≠ 0 := by
  rw [rst_at hk hn]
  have h2 : (if n = k then { hld (atC X k) with tk := [], kp := [] } else atC X n : Cp).st ≠ 0 := by
    split
    · rename_i e; subst e
      show (hld (atC X n)).st ≠ 0
      exact hld_nz h
    · exact h
  generalize (if n = k then { hld (atC X k) with tk := [], kp := [] } else atC X n : Cp) = z at h2 ⊢
  split
  · exact hld_nz h2
  · exact h2
theorem nz_mv {r : Bool} {X : Wd} {m : Mv} {n : Int} (hs : stpE X m = 0) (hn : isN X n) (h : (atC X n).st ≠ 0) : (atC (mvW r X m) n).st ≠ 0 := by
  obtain ⟨ho, hm⟩ := stpE_zero hs
  rw [mv_at hs hn]
  split
  · split
    · show (2 : Int) ≠ 0
      decide
    · exact h
  split
  · rename_i hk
    exact pas_nz (X := outF X m.n.toNat) (frm_tt (frm_of hs (.inl hk)).2).1 hn h
  split; · exact h
  split; · exact h
  split
  · split
    · rename_i e; subst e; exact hld_nz h
    · exact h
  · exact rst_nz (hm.nd (by have := hm.k; omega)) hn h
/-- who kept a tag, or sends an Ack, has or had the bundle -/
structure Had (X : Wd) : Prop where
  kp : ∀ n, isN X n → (atC X n).kp ≠ [] → (atC X n).st ≠ 0
  ack : ∀ f, f ∈ X.fr → f.kd = 5 → (atC X f.fr).st ≠ 0
theorem isN_mv {r : Bool} {X : Wd} {m : Mv} {n : Int} : isN (mvW r X m) n ↔ isN X n := by
  apply isN_len
  unfold mvW pasW rstW
  repeat' split
  all_goals simp [setC, outF]
theorem had_mv {r : Bool} {X : Wd} {m : Mv} (hs : stpE X m = 0) (h : Had X) : Had (mvW r X m) := by
  obtain ⟨ho, hm⟩ := stpE_zero hs
  have old : ∀ f, f ∈ X.fr → f.kd = 5 → (atC (mvW r X m) f.fr).st ≠ 0 := fun f hf h5 => nz_mv hs (frm_tt (okw_frm ho hf)).2.1 (h.ack f hf h5)
  constructor
  · intro n hn hk
    rw [isN_mv] at hn
    by_cases hz : (atC X n).st ≠ 0
    · exact nz_mv hs hn hz
    have hz : (atC X n).st = 0 := Decidable.not_not.1 hz
    have hk0 : (atC X n).kp = [] := Decidable.not_not.1 (fun e => h.kp n hn (by intro e2; exact e e2) hz)
    rw [mv_at hs hn] at hk ⊢
    split at hk
    · rename_i k1
      rw [if_pos k1]
      split at hk
      · rename_i e; rw [if_pos e]; show (2 : Int) ≠ 0; decide
      · exact absurd hk0 hk
    rename_i k1
    rw [if_neg k1]
    split at hk
    · rename_i k2
      rw [if_pos k2]
      have ht := (frm_tt (frm_of hs (.inl k2)).2).1
      rw [pas_at (X := outF X m.n.toNat) ht hn] at hk ⊢
      split at hk
      · rename_i e
        rw [if_pos e]
        subst e
        have hz : (atC (outF X m.n.toNat) (gp X.fr m.n.toNat).tt).st = 0 := hz
        have hk0 : (atC (outF X m.n.toNat) (gp X.fr m.n.toNat).tt).kp = [] := hk0
        split at hk
        · rename_i k3
          rw [if_pos k3]
          unfold ansC at hk ⊢
          split at hk
          · exact absurd hk0 hk
          rename_i t1
          rw [if_neg t1]
          split at hk
          · exact absurd hk0 hk
          rename_i t2
          rw [if_neg t2]
          show (if _ then (4 : Int) else if _ then 1 else _) ≠ 0
          split
          · decide
          · rw [if_pos (.inl hz)]; decide
        · rename_i k3
          split at hk
          · exact absurd hk0 hk
          · exact absurd hk0 hk
      · exact absurd hk0 hk
    rename_i k2
    rw [if_neg k2]
    split at hk
    · exact absurd hk0 hk
    rename_i k3
    rw [if_neg k3]
    split at hk
    · exact absurd hk0 hk
    rename_i k4
    rw [if_neg k4]
    split at hk
    · rename_i k5
      rw [if_pos k5]
      split at hk
      · rename_i e; subst e
        rw [hld_kp] at hk
        exact absurd hk0 hk
      · exact absurd hk0 hk
    rename_i k5
    exfalso
    apply hk
    have hnd := hm.nd (by have := hm.k; omega)
    rw [rst_at hnd hn]
    have e : (if n = m.nd then { hld (atC X m.nd) with tk := [], kp := [] } else atC X n : Cp).kp = [] := by
      split
      · rfl
      · exact hk0
    generalize (if n = m.nd then { hld (atC X m.nd) with tk := [], kp := [] } else atC X n : Cp) = z at e ⊢
    split
    · rw [hld_kp]; exact e
    · exact e
  · intro f hf h5
    by_cases hof : f ∈ X.fr
    · exact old f hof h5
    by_cases k2 : m.kd = 2
    · obtain ⟨hgm, hgf⟩ := frm_of hs (.inl k2)
      obtain ⟨ht, _, _⟩ := frm_tt hgf
      have e : mvW r X m = pasW r (outF X m.n.toNat) (gp X.fr m.n.toNat) := by
        unfold mvW
        rw [if_neg (by omega), if_pos k2]
      rw [e] at hf ⊢
      generalize gp X.fr m.n.toNat = g at *
      have hno : f ∉ (outF X m.n.toNat).fr := fun e => hof (dl_mem e)
      have hf2 : g.kd = 3 ∧ f = ⟨ansK (atC X g.tt) ⟨g.fr, g.of⟩ r, g.tt, g.fr, g.of⟩ := by
        unfold pasW at hf
        split at hf
        · rename_i k3
          rcases List.mem_append.1 hf with hf | hf
          · exact absurd hf hno
          · simp only [List.mem_cons, List.mem_nil_iff, or_false] at hf
            exact ⟨k3, hf⟩
        · split at hf
          · exact absurd hf hno
          · exact absurd hf hno
      obtain ⟨k3, rfl⟩ := hf2
      have h5 : ansK (atC X g.tt) ⟨g.fr, g.of⟩ r = 5 := h5
      show (atC (pasW r (outF X m.n.toNat) g) g.tt).st ≠ 0
      rw [pas_at (X := outF X m.n.toNat) ht ht, if_pos rfl, if_pos k3]
      by_cases hz : (atC X g.tt).st ≠ 0
      · exact ans_nz hz
      have hz : (atC X g.tt).st = 0 := Decidable.not_not.1 hz
      have hk0 : (atC X g.tt).kp = [] := Decidable.not_not.1 (fun e => h.kp _ ht (by intro e2; exact e e2) hz)
      show (ansC (decide (g.tt = X.ds)) (atC X g.tt) ⟨g.fr, g.of⟩ r).st ≠ 0
      unfold ansK at h5
      unfold ansC
      split at h5
      · rename_i t1
        split at h5
        · rename_i t2
          rw [hk0, hz] at t2
          simp at t2
        · omega
      · rename_i t1
        split at h5
        · omega
        · rename_i t2
          rw [if_neg t1, if_neg t2]
          show (if _ then (4 : Int) else if _ then 1 else _) ≠ 0
          split
          · decide
          · rw [if_pos (.inl hz)]; decide
    exfalso
    revert hf
    unfold mvW
    split
    · intro hf
      rcases List.mem_append.1 hf with hf | hf
      · exact hof hf
      · simp only [List.mem_cons, List.mem_nil_iff, or_false] at hf
        rw [hf] at h5
        have h5 : (3 : Int) = 5 := h5
        omega
    split
    · intro hf
      exact hof (dl_mem hf)
    split
    · rename_i k4
      intro hf
      rcases List.mem_append.1 hf with hf | hf
      · exact hof hf
      · simp only [List.mem_cons, List.mem_nil_iff, or_false] at hf
        rw [hf] at hof
        exact hof (frm_of hs (.inr k4)).1
    split
    · intro hf; exact hof hf
    · intro hf; exact hof (List.mem_filter.1 hf).1
/-- a copy is gone only behind an Ack of a node that has or had the bundle -/
theorem gone_law {X : Wd} {m : Mv} {n : Int} (hs : stpE X m = 0) (hh : Had X) (hn : isN X n) (hw : (atC X n).st ≠ (atC (mvW false X m) n).st) (h3 : (atC (mvW false X m) n).st = 3) :
    m.kd = 2 ∧ 0 ≤ m.n ∧ m.n < (X.fr.length : Int) ∧ (atC X n).st = 2 ∧ (gp X.fr m.n.toNat).kd = 5 ∧ (gp X.fr m.n.toNat).tt = n ∧ isN X (gp X.fr m.n.toNat).fr ∧ (atC X (gp X.fr m.n.toNat).fr).st ≠ 0 := by
  obtain ⟨ho, hm⟩ := stpE_zero hs
  have hhl : ∀ c : Cp, c.st ≠ (hld c).st → (hld c).st = 3 → False := fun c h1 h2 => by
    rw [hld_st] at h1 h2
    split at h2
    · omega
    · rename_i e; rw [if_neg e] at h1; exact h1 rfl
  rw [mv_at hs hn] at hw h3
  split at h3
  · rename_i k1
    rw [if_pos k1] at hw
    split at h3
    · have h3 : (2 : Int) = 3 := h3
      omega
    · rename_i e; rw [if_neg e] at hw; exact absurd rfl hw
  rename_i k1
  rw [if_neg k1] at hw
  split at h3
  · rename_i k2
    rw [if_pos k2] at hw
    obtain ⟨hgm, hgf⟩ := frm_of hs (.inl k2)
    obtain ⟨ht, hfr, hkd⟩ := frm_tt hgf
    rw [pas_at (X := outF X m.n.toNat) ht hn] at hw h3
    have hnn := hm.n (.inl k2)
    refine ⟨k2, hnn.1, hnn.2, ?_⟩
    have hac := hh.ack _ hgm
    generalize gp X.fr m.n.toNat = g at *
    split at h3
    · rename_i e
      rw [if_pos e] at hw
      subst e
      have hat : atC (outF X m.n.toNat) g.tt = atC X g.tt := rfl
      rw [hat] at hw h3
      split at h3
      · rename_i k3
        rw [if_pos k3] at hw
        exfalso
        unfold ansC at hw h3
        split at h3
        · rename_i t1; rw [if_pos t1] at hw; exact hw rfl
        rename_i t1
        rw [if_neg t1] at hw
        split at h3
        · rename_i t2; rw [if_pos t2] at hw; exact hw rfl
        rename_i t2
        rw [if_neg t2] at hw
        have h3 : (if decide (g.tt = (outF X m.n.toNat).ds) = true then (4 : Int) else if (atC X g.tt).st = 0 ∨ (atC X g.tt).st = 3 then 1 else (atC X g.tt).st) = 3 := h3
        split at h3
        · omega
        split at h3
        · omega
        · rename_i t3 t4; exact t4 (.inr h3)
      · rename_i k3
        rw [if_neg k3] at hw
        split at h3
        · rename_i t1
          rw [if_pos t1] at hw
          have h3 : (if g.kd = 5 then (3 : Int) else 1) = 3 := h3
          split at h3
          · rename_i k5
            exact ⟨t1.1, k5, rfl, hfr, hac k5⟩
          · omega
        · rename_i t1
          rw [if_neg t1] at hw
          exact absurd rfl hw
    · rename_i e
      rw [if_neg e] at hw
      exact absurd rfl hw
  rename_i k2
  rw [if_neg k2] at hw
  exfalso
  split at h3
  · rename_i k3; rw [if_pos k3] at hw; exact hw rfl
  rename_i k3
  rw [if_neg k3] at hw
  split at h3
  · rename_i k4; rw [if_pos k4] at hw; exact hw rfl
  rename_i k4
  rw [if_neg k4] at hw
  split at h3
  · rename_i k5
    rw [if_pos k5] at hw
    split at h3
    · rename_i e; rw [if_pos e] at hw; subst e; exact hhl _ hw h3
    · rename_i e; rw [if_neg e] at hw; exact hw rfl
  rename_i k5
  rw [if_neg k5] at hw
  have hnd := hm.nd (by have := hm.k; omega)
  rw [rst_at hnd hn] at hw h3
  have e : (if n = m.nd then { hld (atC X m.nd) with tk := [], kp := [] } else atC X n : Cp).st = (atC X n).st ∨ (if n = m.nd then { hld (atC X m.nd) with tk := [], kp := [] } else atC X n : Cp).st = (hld (atC X n)).st := by
    split
    · rename_i e; subst e; exact .inr rfl
    · exact .inl rfl
  generalize (if n = m.nd then { hld (atC X m.nd) with tk := [], kp := [] } else atC X n : Cp) = z at e hw h3
  have e3 : (hld (atC X n)).st = 3 → (hld (atC X n)).st = (atC X n).st := fun e => by
    rw [hld_st] at e ⊢
    split at e
    · omega
    · rename_i e2; rw [if_neg e2]
  have e2 : z.st = 3 → False := fun e4 => by
    have hz : (hld z).st = z.st := by rw [hld_st, if_neg (by omega)]
    split at h3
    · rename_i e5; rw [if_pos e5] at hw
      rcases e with e | e
      · omega
      · have := e3 (by omega); omega
    · rename_i e5; rw [if_neg e5] at hw
      rcases e with e | e
      · omega
      · have := e3 (by omega); omega
  split at h3
  · rw [hld_st] at h3
    split at h3
    · omega
    · exact e2 h3
  · exact e2 h3
/-- how many frames, how many offers -/
structure Bnd (k : Nat) (X : Wd) : Prop where
  fr : X.fr.length ≤ k
  nx : ∀ n, isN X n → (atC X n).nx ≤ (k : Int)
theorem hld_at_nx {X : Wd} {k n : Int} (hk : isN X k) (hn : isN X n) : (atC (rstW X k) n).nx = (atC X n).nx := by
  rw [rst_at hk hn]
  have e : (if n = k then { hld (atC X k) with tk := [], kp := [] } else atC X n : Cp).nx = (atC X n).nx := by
    split
    · rename_i e; subst e
      show (hld (atC X n)).nx = _
      rw [hld_nx]
    · rfl
  generalize (if n = k then { hld (atC X k) with tk := [], kp := [] } else atC X n : Cp) = z at e ⊢
  split
  · rw [hld_nx]; exact e
  · exact e
theorem Bnd.mv {k : Nat} {r : Bool} {X : Wd} {m : Mv} (h : Bnd k X) (hs : stpE X m = 0) : Bnd (k + 1) (mvW r X m) := by
  obtain ⟨ho, hm⟩ := stpE_zero hs
  have hf := h.fr
  constructor
  · unfold mvW
    split
    · simp; omega
    split
    · rename_i k2
      have hn := hm.n (.inl k2)
      have hd := dl_len (l := X.fr) (i := m.n.toNat) (by omega)
      have e : (outF X m.n.toNat).fr = dlF X.fr m.n.toNat := rfl
      unfold pasW
      split
      · simp [e]; omega
      · split
        · show (dlF X.fr m.n.toNat).length ≤ _; omega
        · show (dlF X.fr m.n.toNat).length ≤ _; omega
    split
    · show (dlF X.fr m.n.toNat).length ≤ _
      unfold dlF; simp; omega
    split
    · simp; omega
    split
    · show X.fr.length ≤ _; omega
    · show (X.fr.filter _).length ≤ _
      have := List.length_filter_le (fun f => decide (¬ (f.fr = m.nd ∨ f.tt = m.nd))) X.fr
      omega
  · intro n hn
    rw [isN_mv] at hn
    have hb := h.nx n hn
    rw [mv_at hs hn]
    split
    · split
      · rename_i e; subst e
        show (atC X m.nd).nx + 1 ≤ _
        omega
      · omega
    split
    · rename_i k2
      have ht := (frm_tt (frm_of hs (.inl k2)).2).1
      rw [pas_at (X := outF X m.n.toNat) ht hn]
      generalize gp X.fr m.n.toNat = g at *
      have e : ∀ x, atC (outF X m.n.toNat) x = atC X x := fun _ => rfl
      rw [e, e]
      split
      · rename_i e; subst e
        split
        · rw [ans_nx]; omega
        split
        · show (atC X g.tt).nx ≤ _; omega
        · omega
      · omega
    split; · omega
    split; · omega
    split
    · split
      · rename_i e; subst e; rw [hld_nx]; omega
      · omega
    · rw [hld_at_nx (hm.nd (by have := hm.k; omega)) hn]; omega
theorem ftE_of {X : Wd} {m : Mv} (h : MvOK X m) : ftE X m = 0 := by
  obtain ⟨h1, h2, h3, h4, h5⟩ := h
  unfold ftE
  rw [if_neg (by omega), if_neg (fun e => e.2 (h2 e.1)), if_neg (fun e => by have := h3 e.1; rcases e.2 with e2 | e2; exact e2 this.1; exact this.2.1 e2), if_neg (fun e => e.2 (h3 e.1).2.2.1), if_neg (fun e => by have := h4 e.1; omega), if_neg (fun e => by have := h5 e.1; omega), if_neg (fun e => (h3 e.1).2.2.2 e.2)]
theorem stpE_of {X : Wd} {m : Mv} (ho : Okw X) (h : MvOK X m) : stpE X m = 0 := by
  unfold stpE
  rw [if_pos ho]
  exact ftE_of h
theorem dlF_last (l : List Ps) (f : Ps) : dlF (l ++ [f]) l.length = l := by
  unfold dlF
  rw [List.take_left, List.drop_append]
  simp
theorem gp_last (l : List Ps) (f : Ps) : gp (l ++ [f]) l.length = f := by
  show (l ++ [f]).getD l.length p0 = f
  simp
theorem lst_nat (n : Nat) : (((n + 1 : Nat) : Int) - 1).toNat = n := by omega
/-- what a last frame makes -/
theorem mv_last {r : Bool} {X : Wd} {F : List Ps} {f : Ps} (hf : X.fr = F ++ [f]) : mvW r X ⟨2, 0, 0, (X.fr.length : Int) - 1⟩ = pasW r { X with fr := F } f := by
  unfold mvW
  rw [if_neg (by show ¬ (2 : Int) = 1; decide), if_pos rfl]
  have e : ((X.fr.length : Int) - 1).toNat = F.length := by rw [hf]; simp
  show pasW r (outF X ((X.fr.length : Int) - 1).toNat) (gp X.fr ((X.fr.length : Int) - 1).toNat) = _
  rw [e, hf, gp_last]
  unfold outF
  rw [hf, dlF_last]
theorem stp_last {X : Wd} {F : List Ps} {f : Ps} (ho : Okw X) (hf : X.fr = F ++ [f]) : stpE X ⟨2, 0, 0, (X.fr.length : Int) - 1⟩ = 0 := by
  have : X.fr.length = F.length + 1 := by rw [hf]; simp
  refine stpE_of ho ⟨⟨by show (1 : Int) ≤ 2; decide, by show (2 : Int) ≤ 6; decide⟩, fun h => ?_, fun h => ?_, fun _ => ⟨?_, ?_⟩, fun h => ?_⟩
  · have h : (2 : Int) = 1 ∨ (2 : Int) = 5 ∨ (2 : Int) = 6 := h; omega
  · have h : (2 : Int) = 1 := h; omega
  · show (0 : Int) ≤ (X.fr.length : Int) - 1; omega
  · show (X.fr.length : Int) - 1 < (X.fr.length : Int); omega
  · have h : (2 : Int) = 1 ∨ (2 : Int) = 4 := h; omega
/-- a node that has the bundle delivers it -/
theorem arrives {X : Wd} {h : Int} (ho : Okw X) (hb : Bnd 40 X) (hm : h ∈ hdsW X) :
    ∃ X1 X2 X3 X4 : Wd, stpE X ⟨6, h, 0, 0⟩ = 0 ∧ mvW false X ⟨6, h, 0, 0⟩ = X1 ∧ stpE X1 (ofr h X.ds) = 0 ∧ mvW false X1 (ofr h X.ds) = X2 ∧
      stpE X2 ⟨2, 0, 0, (X2.fr.length : Int) - 1⟩ = 0 ∧ mvW false X2 ⟨2, 0, 0, (X2.fr.length : Int) - 1⟩ = X3 ∧
      stpE X3 ⟨2, 0, 0, (X3.fr.length : Int) - 1⟩ = 0 ∧ mvW false X3 ⟨2, 0, 0, (X3.fr.length : Int) - 1⟩ = X4 ∧
      X4.cs.length = X.cs.length ∧ (atC X4 X.ds).st = 4 ∧ (atC X4 h).st = 3 := by
  rw [hdsW_mem] at hm
  obtain ⟨hn, hst⟩ := hm
  have hds : isN X X.ds := ho.2.2.1
  have hc := okw_cop ho hn
  have hnd : h ≠ X.ds := fun e => by have := hc.1.2.2.1 e; omega
  have hcd := okw_cop ho hds
  have hsd := hcd.1.2.2.1 rfl
  have s1 : stpE X ⟨6, h, 0, 0⟩ = 0 := by
    refine stpE_of ho ⟨⟨by show (1 : Int) ≤ 6; decide, by show (6 : Int) ≤ 6; decide⟩, fun _ => hn, fun h => ?_, fun h => ?_, fun h => ?_⟩
    · have h : (6 : Int) = 1 := h; omega
    · have h : (6 : Int) = 2 ∨ (6 : Int) = 3 ∨ (6 : Int) = 4 := h; omega
    · have h : (6 : Int) = 1 ∨ (6 : Int) = 4 := h; omega
  have o1 := okw_mv (r := false) s1
  have m1 : mvW false X ⟨6, h, 0, 0⟩ = rstW X h := rfl
  obtain ⟨X1, hX1⟩ : ∃ X1, rstW X h = X1 := ⟨_, rfl⟩
  have d1 : X1.ds = X.ds := by rw [← hX1]; rfl
  have n1 : ∀ n, isN X1 n ↔ isN X n := fun n => by rw [← hX1, ← m1]; exact isN_mv
  have l1 : X1.cs.length = X.cs.length := by rw [← hX1]; simp [rstW, setC]
  have f1 : X1.fr.length ≤ 40 := by
    rw [← hX1]
    show (X.fr.filter _).length ≤ _
    have := List.length_filter_le (fun f => decide (¬ (f.fr = h ∨ f.tt = h))) X.fr
    have := hb.fr
    omega
  have a1 : (atC X1 h).st = 1 := by
    rw [← hX1, rst_at hn hn, if_pos rfl]
    have e : (hld (atC X h)).st = 1 := by rw [hld_st]; split <;> omega
    split
    · rw [hld_st, if_neg (by show ¬ (hld (atC X h)).st = 2; omega)]
      exact e
    · exact e
  have x1 : (atC X1 h).nx = (atC X h).nx := by rw [← hX1]; exact hld_at_nx hn hn
  have hbn := hb.nx h hn
  rw [m1, hX1] at o1
  have s2 : stpE X1 (ofr h X.ds) = 0 := by
    refine stpE_of o1 ⟨⟨by show (1 : Int) ≤ 1; decide, by show (1 : Int) ≤ 6; decide⟩, fun _ => (n1 h).2 hn, fun _ => ⟨(n1 _).2 hds, fun e => hnd e.symm, a1, by show (atC X1 h).nx ≠ _; omega⟩, fun h => ?_, fun _ => by omega⟩
    have h : (1 : Int) = 2 ∨ (1 : Int) = 3 ∨ (1 : Int) = 4 := h; omega
  have o2 := okw_mv (r := false) s2
  have m2 : mvW false X1 (ofr h X.ds) = { setC X1 h { atC X1 h with st := 2, tt := X.ds, of := (atC X1 h).nx, nx := (atC X1 h).nx + 1 } with fr := X1.fr ++ [⟨3, h, X.ds, (atC X1 h).nx⟩] } := rfl
  obtain ⟨X2, hX2⟩ : ∃ X2, mvW false X1 (ofr h X.ds) = X2 := ⟨_, rfl⟩
  have hn1 := (n1 h).2 hn
  have hds1 := (n1 _).2 hds
  have f2 : X2.fr = X1.fr ++ [⟨3, h, X.ds, (atC X1 h).nx⟩] := by rw [← hX2, m2]
  have a2 : atC X2 h = { atC X1 h with st := 2, tt := X.ds, of := (atC X1 h).nx, nx := (atC X1 h).nx + 1 } := by
    have := atC_set (c := { atC X1 h with st := 2, tt := X.ds, of := (atC X1 h).nx, nx := (atC X1 h).nx + 1 }) hn1 hn1
    rw [if_pos rfl] at this
    rw [← hX2, m2]
    exact this
  have b2 : atC X2 X.ds = atC X1 X.ds := by
    have := atC_set (c := { atC X1 h with st := 2, tt := X.ds, of := (atC X1 h).nx, nx := (atC X1 h).nx + 1 }) hn1 hds1
    rw [if_neg (fun e => hnd e.symm)] at this
    rw [← hX2, m2]
    exact this
  have n2 : ∀ n, isN X2 n ↔ isN X n := fun n => by rw [← hX2]; exact isN_mv.trans (n1 n)
  have l2 : X2.cs.length = X.cs.length := by rw [← hX2, m2]; simp [setC, l1]
  have d2 : X2.ds = X.ds := by rw [← hX2, m2]; exact d1
  rw [hX2] at o2
  have s3 := stp_last o2 f2
  have m3 := mv_last (r := false) f2
  have o3 := okw_mv (r := false) s3
  obtain ⟨X3, hX3⟩ : ∃ X3, mvW false X2 ⟨2, 0, 0, (X2.fr.length : Int) - 1⟩ = X3 := ⟨_, rfl⟩
  rw [hX3] at m3 o3
  -- the tag is new there
  have hcd1 := okw_cop o1 hds1
  have hsd1 := hcd1.1.2.2.1 d1.symm
  have ht : (⟨h, (atC X1 h).nx⟩ : Tg) ∉ (atC X1 X.ds).tk := fun hmem => by
    have := (hcd1.2.2.2.2.1 _ hmem).2.2.2
    simp only at this
    omega
  have hak : ansK (atC X1 X.ds) ⟨h, (atC X1 h).nx⟩ false = 5 := by
    unfold ansK
    rw [if_neg ht, if_neg (fun e => by omega)]
  have hac : (ansC true (atC X1 X.ds) ⟨h, (atC X1 h).nx⟩ false).st = 4 := by
    unfold ansC
    rw [if_neg ht, if_neg (fun e => by omega)]
    rfl
  have hdd : decide (X.ds = X2.ds) = true := by rw [d2]; simp
  have e3 : X3 = { setC X2 X.ds (ansC true (atC X1 X.ds) ⟨h, (atC X1 h).nx⟩ false) with fr := X1.fr ++ [⟨5, X.ds, h, (atC X1 h).nx⟩] } := by
    rw [m3]
    unfold pasW
    rw [if_pos rfl]
    have eb : ∀ n, atC { X2 with fr := X1.fr } n = atC X2 n := fun _ => rfl
    simp only [eb, b2, hak, hdd]
    rfl
  have hds2 := (n2 _).2 hds
  have hn2 := (n2 _).2 hn
  have f3 : X3.fr = X1.fr ++ [⟨5, X.ds, h, (atC X1 h).nx⟩] := by rw [e3]
  have a3 : atC X3 h = atC X2 h := by
    have := atC_set (c := ansC true (atC X1 X.ds) ⟨h, (atC X1 h).nx⟩ false) hds2 hn2
    rw [if_neg hnd] at this
    rw [e3]
    exact this
  have b3 : (atC X3 X.ds).st = 4 := by
    have := atC_set (c := ansC true (atC X1 X.ds) ⟨h, (atC X1 h).nx⟩ false) hds2 hds2
    rw [if_pos rfl] at this
    rw [e3]
    exact (congrArg Cp.st this).trans hac
  have n3 : ∀ n, isN X3 n ↔ isN X n := fun n => by rw [← hX3]; exact isN_mv.trans (n2 n)
  have l3 : X3.cs.length = X.cs.length := by rw [e3]; simp [setC, l2]
  have s4 := stp_last o3 f3
  have m4 := mv_last (r := false) f3
  have hn3 := (n3 _).2 hn
  have hds3 := (n3 _).2 hds
  have p4 := fun n hn => pas_at (r := false) (X := { X3 with fr := X1.fr }) (f := ⟨5, X.ds, h, (atC X1 h).nx⟩) (n := n) hn3 hn
  have ee : ∀ n, atC { X3 with fr := X1.fr } n = atC X3 n := fun _ => rfl
  simp only [ee, a3, a2] at p4
  refine ⟨X1, X2, X3, _, s1, hX1 ▸ m1, s2, hX2, s3, hX3, s4, rfl, ?_, ?_, ?_⟩
  · rw [m4]
    unfold pasW
    repeat' split
    all_goals simp [setC, l3]
  · rw [m4, p4 _ hds3, if_neg (fun e => hnd e.symm)]
    exact b3
  · have p5 := p4 h hn3
    rw [if_pos rfl] at p5
    rw [m4, p5]
    rfl
/-- beginnings -/
theorem begs : ∀ n : Nat, 2 ≤ n → n ≤ 16 → ∀ d o : Nat, 1 ≤ d → d ≤ n → 1 ≤ o → o ≤ n → o ≠ d → Okw (begW n d o) ∧ (begW n d o).cs.length = n ∧ (begW n d o).ds = (d : Int) := by
  intro n h1 h2 d o h3 h4 h5 h6 h7
  have hl : (begW (n : Int) d o).cs.length = n := by simp [begW, setC]
  refine ⟨?_, hl, rfl⟩
  have hn : ∀ m : Int, 1 ≤ m → m ≤ n → isN ⟨(d : Int), List.replicate (n : Int).toNat cp0, []⟩ m := fun m e1 e2 => ⟨e1, by simp; exact e2⟩
  have hat : ∀ m, atC ⟨(d : Int), List.replicate (n : Int).toNat cp0, []⟩ m = cp0 := fun m => by
    show (List.replicate _ cp0).getD _ cp0 = cp0
    rw [List.getD_eq_getElem?_getD, List.getElem?_replicate]
    split <;> rfl
  have hz : ∀ (X : Wd) (m : Int), copOK X m cp0 := fun X m => ⟨⟨by show (0 : Int) ≤ 0; decide, by show (0 : Int) ≤ _; split <;> decide, fun _ => .inl rfl, by show (0 : Int) ≤ 0; decide, by show (0 : Int) ≤ _; decide⟩, ⟨fun _ => ⟨rfl, rfl⟩, fun h => by have h : (0 : Int) = 2 := h; omega⟩, fun i _ hi => by simp [cp0] at hi, fun i _ hi => by simp [cp0] at hi, fun t ht => by simp [cp0] at ht, fun t ht => by simp [cp0] at ht⟩
  have h0 : Okw ⟨(d : Int), List.replicate (n : Int).toNat cp0, []⟩ := by
    rw [okw_iff]
    refine ⟨by simp; omega, by simp; omega, hn _ (by simp; omega) (by simp; omega), by simp, fun m hm => ?_, fun f hf => by simp at hf⟩
    rw [hat]
    exact hz _ _
  refine okw_set (F := []) h0 (hn o (by omega) (by omega)) (by rw [hat]; decide) ?_ (by simp) (fun f hf => by simp at hf)
  refine ⟨⟨by show (0 : Int) ≤ 1; decide, by show (1 : Int) ≤ _; split <;> decide, fun e => ?_, by show (0 : Int) ≤ 0; decide, by show (0 : Int) ≤ _; decide⟩, ⟨fun _ => ⟨rfl, rfl⟩, fun h => by have h : (1 : Int) = 2 := h; omega⟩, fun i _ hi => by simp [cp0] at hi, fun i _ hi => by simp [cp0] at hi, fun t ht => by simp [cp0] at ht, fun t ht => by simp [cp0] at ht⟩
  have e : (o : Int) = (d : Int) := e
  omega
theorem beg_at {n d o : Nat} {m : Int} (h1 : 1 ≤ o) (h2 : o ≤ n) (hm : isN (begW n d o) m) : atC (begW n d o) m = if m = (o : Int) then { cp0 with st := 1 } else cp0 := by
  have hm2 : isN ⟨(d : Int), List.replicate (n : Int).toNat cp0, []⟩ m := isN_setC.1 hm
  have := atC_set (X := ⟨(d : Int), List.replicate (n : Int).toNat cp0, []⟩) (n := o) (c := { cp0 with st := 1 }) ⟨by omega, by simp; exact h2⟩ hm2
  have e : atC ⟨(d : Int), List.replicate (n : Int).toNat cp0, []⟩ m = cp0 := by
    show (List.replicate _ cp0).getD _ cp0 = cp0
    rw [List.getD_eq_getElem?_getD, List.getElem?_replicate]
    split <;> rfl
  rw [e] at this
  exact this
theorem beg_safe {n d o : Nat} (h1 : 1 ≤ o) (h2 : o ≤ n) : Safe (begW n d o) o := by
  have hm : isN (begW n d o) o := isN_setC.2 ⟨by omega, by simp; exact h2⟩
  refine ⟨hm, .inl ?_⟩
  rw [beg_at h1 h2 hm, if_pos rfl]
theorem beg_had {n d o : Nat} (h1 : 1 ≤ o) (h2 : o ≤ n) : Had (begW n d o) := ⟨fun m hm hk => by
  rw [beg_at h1 h2 hm] at hk
  split at hk <;> exact absurd rfl hk, fun f hf => by simp [begW, setC] at hf⟩
theorem beg_bnd {n d o : Nat} (h1 : 1 ≤ o) (h2 : o ≤ n) : Bnd 0 (begW n d o) := ⟨by simp [begW, setC], fun m hm => by
  rw [beg_at h1 h2 hm]
  split <;> exact Int.le_refl _⟩
/-- in a circle of n nodes rash moves lose the bundle, and with steps all n hold it -/
def cirOK (n : Nat) : Prop := stpE (begW ((n : Int) + 1) ((n : Int) + 1) 1) (ofr 1 2) = 0 ∧ (runW (begW ((n : Int) + 1) ((n : Int) + 1) 1) (cirL n) 0).2.1 = (cirL n).length ∧ (runW (begW ((n : Int) + 1) ((n : Int) + 1) 1) (cirL n) 0).2.2 = 0 ∧ (hdsW (runW (begW ((n : Int) + 1) ((n : Int) + 1) 1) (cirL n) 0).1).length = n ∧ (rasW (begW ((n : Int) + 1) ((n : Int) + 1) 1) (cirL n)).2 = true ∧ lstW (rasW (begW ((n : Int) + 1) ((n : Int) + 1) 1) (cirL n)).1 = true
instance (n : Nat) : Decidable (cirOK n) := by unfold cirOK; infer_instance
theorem cir2 : cirOK 2 := by decide +kernel
theorem cir3 : cirOK 3 := by decide +kernel
theorem cir4 : cirOK 4 := by decide +kernel
theorem cir5 : cirOK 5 := by decide +kernel
theorem cir6 : cirOK 6 := by decide +kernel
theorem cir7 : cirOK 7 := by decide +kernel
theorem cir8 : cirOK 8 := by decide +kernel
theorem cir_ok (n : Nat) (h1 : 2 ≤ n) (h2 : n ≤ 8) : cirOK n := by
  have : n = 2 ∨ n = 3 ∨ n = 4 ∨ n = 5 ∨ n = 6 ∨ n = 7 ∨ n = 8 := by omega
  rcases this with rfl | rfl | rfl | rfl | rfl | rfl | rfl
  · exact cir2
  · exact cir3
  · exact cir4
  · exact cir5
  · exact cir6
  · exact cir7
  · exact cir8
end Go.Proofs.Ytnkpjfogjkjcfaa
