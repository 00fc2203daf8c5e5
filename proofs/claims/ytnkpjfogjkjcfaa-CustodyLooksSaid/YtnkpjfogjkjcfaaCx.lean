


/- Custody, plainly: a world is never lost; gone only behind an Ack; delivered in the end. No program is named. -/
import Derived.Test.YtnkpjfogjkjcfaaCw
namespace Go.Proofs.Ytnkpjfogjkjcfaa
set_option linter.unusedSimpArgs false
set_option linter.unusedVariables false
open Go.RowKit
theorem hdsN_mem : ∀ (l : List Cp) (k : Nat) (x : Int), x ∈ hdsN l k ↔ ∃ i, i < l.length ∧ ((gc l i).st = 1 ∨ (gc l i).st = 2) ∧ x = ((k + i : Nat) : Int) + 1
  | [], k, x => by simp [hdsN]
  | c :: l, k, x => by
    unfold hdsN
    rw [List.mem_append, hdsN_mem l (k + 1) x]
    constructor
    · rintro (h | ⟨i, hi, hs, rfl⟩)
      · split at h
        · rename_i hc
          simp only [List.mem_cons, List.mem_nil_iff, or_false] at h
          exact ⟨0, by simp, by simpa [gc] using hc, by rw [h]; rfl⟩
        · cases h
      · exact ⟨i + 1, by simp; omega, by simpa [gc] using hs, by omega⟩
    · rintro ⟨i, hi, hs, rfl⟩
      cases i with
      | zero =>
        left
        rw [if_pos (by simpa [gc] using hs)]
        simp
      | succ i => exact .inr ⟨i, by simpa using hi, by simpa [gc] using hs, by omega⟩
theorem hdsW_mem (X : Wd) (n : Int) : n ∈ hdsW X ↔ isN X n ∧ ((atC X n).st = 1 ∨ (atC X n).st = 2) := by
  unfold hdsW
  rw [hdsN_mem]
  constructor
  · rintro ⟨i, hi, hs, rfl⟩
    refine ⟨by unfold isN; omega, ?_⟩
    unfold atC
    rw [show (((0 + i : Nat) : Int) + 1 - 1).toNat = i by omega]
    exact hs
  · rintro ⟨hn, hs⟩
    obtain ⟨i, hi, rfl, he⟩ := atC_get hn
    rw [he] at hs
    exact ⟨i, hi, hs, by omega⟩
/-- a node that keeps the bundle from being lost -/
def Safe (X : Wd) (n : Int) : Prop := isN X n ∧ ((atC X n).st = 1 ∨ (atC X n).st = 4 ∨ (atC X n).st = 2 ∧ (∀ f, f ∈ X.fr → ¬ (f.kd = 5 ∧ f.fr = (atC X n).tt ∧ f.tt = n ∧ f.of = (atC X n).of)) ∧ (⟨n, (atC X n).of⟩ : Tg) ∉ (atC X (atC X n).tt).kp)
theorem safe_lost {X : Wd} {n : Int} (ho : Okw X) (h : Safe X n) : lstW X = false := by
  apply nb
  rintro ⟨h1, h2⟩
  have hm : ¬ n ∈ hdsW X := by rw [h1]; simp
  rw [hdsW_mem] at hm
  obtain ⟨hn, h⟩ := h
  rcases h with h | h | ⟨h, _⟩
  · exact hm ⟨hn, .inl h⟩
  · have hc := (okw_cop ho hn).1
    by_cases hd : n = X.ds
    · rw [← hd] at h2; exact h2 h
    · have := hc.2.1
      rw [if_neg hd] at this
      omega
  · exact hm ⟨hn, .inr h⟩
theorem Safe.keep {X Y : Wd} {n : Int} (h : Safe X n) (hl : Y.cs.length = X.cs.length) (hs : (atC Y n).st = (atC X n).st) (ht : (atC Y n).tt = (atC X n).tt) (ho : (atC Y n).of = (atC X n).of)
    (hf : ∀ f, f ∈ Y.fr → f.kd = 5 → f.fr = (atC X n).tt → f.tt = n → f.of = (atC X n).of → (atC X n).st = 2 → f ∈ X.fr)
    (hk : (⟨n, (atC X n).of⟩ : Tg) ∈ (atC Y (atC X n).tt).kp → (atC X n).st = 2 → (⟨n, (atC X n).of⟩ : Tg) ∈ (atC X (atC X n).tt).kp) : Safe Y n := by
  obtain ⟨h1, h2⟩ := h
  refine ⟨(isN_len hl).2 h1, ?_⟩
  rw [hs, ht, ho]
  rcases h2 with h2 | h2 | ⟨h2, h3, h4⟩
  · exact .inl h2
  · exact .inr (.inl h2)
  · exact .inr (.inr ⟨h2, fun f hfy hc => h3 f (hf f hfy hc.1 hc.2.1 hc.2.2.1 hc.2.2.2 h2) hc, fun hc => h4 (hk hc h2)⟩)
theorem hld_st {c : Cp} : (hld c).st = if c.st = 2 then 1 else c.st := by unfold hld; split <;> rfl
theorem hld_safe {X Y : Wd} {n : Int} (h : Safe X n) (hl : Y.cs.length = X.cs.length) (hs : (atC Y n).st = (hld (atC X n)).st) : Safe Y n := by
  obtain ⟨h1, h2⟩ := h
  refine ⟨(isN_len hl).2 h1, ?_⟩
  rw [hs, hld_st]
  rcases h2 with h2 | h2 | ⟨h2, _⟩ <;> simp [h2]
theorem isN_tt {X : Wd} {n : Int} (ho : Okw X) (hn : isN X n) (h2 : (atC X n).st = 2) : isN X (atC X n).tt ∧ (atC X n).tt ≠ n ∧ (atC X n).of = (atC X n).nx - 1 := by
  obtain ⟨_, ⟨_, b⟩, _⟩ := okw_cop ho hn
  have := b h2
  exact ⟨this.1, this.2.1, this.2.2.2⟩
/-- a store at a node that is not the safe one and keeps nothing new that matters -/
theorem safe_set {X : Wd} {n k : Int} {c : Cp} {F : List Ps} (ho : Okw X) (h : Safe X n) (hk : isN X k) (hkn : k ≠ n)
    (hF : ∀ f, f ∈ F → f.kd = 5 → f.fr = (atC X n).tt → f.tt = n → f.of = (atC X n).of → (atC X n).st = 2 → f ∈ X.fr)
    (hc : (⟨n, (atC X n).of⟩ : Tg) ∈ c.kp → k = (atC X n).tt → (atC X n).st = 2 → (⟨n, (atC X n).of⟩ : Tg) ∈ (atC X k).kp) : Safe { setC X k c with fr := F } n := by
  have e : atC { setC X k c with fr := F } n = atC X n := by
    have := atC_set (c := c) hk h.1
    rw [if_neg (fun e => hkn e.symm)] at this
    exact this
  refine h.keep (by simp [setC]) (by rw [e]) (by rw [e]) (by rw [e]) hF ?_
  intro hm h2
  have h3 := (isN_tt ho h.1 h2).1
  have e2 : atC { setC X k c with fr := F } (atC X n).tt = if (atC X n).tt = k then c else atC X (atC X n).tt := atC_set (c := c) hk h3
  rw [e2] at hm
  split at hm
  · rename_i he
    rw [he]
    exact hc hm he.symm h2
  · exact hm
theorem ansC_st_ne {d : Bool} {c : Cp} {t : Tg} (h2 : c.st ≠ 2) (h : ansK c t false = 5) (h4 : c.st = 4 → d = true) (hn : t ∉ c.tk) : (ansC d c t false).st = 1 ∨ (ansC d c t false).st = 4 ∨ (ansC d c t false).st = c.st := by
  unfold ansC
  rw [if_neg hn, if_neg (fun e => h2 e.1)]
  show (if d = true then (4 : Int) else if c.st = 0 ∨ c.st = 3 then 1 else c.st) = 1 ∨ _
  split
  · exact .inr (.inl (by simp [*]))
  · split
    · exact .inl rfl
    · exact .inr (.inr (by simp [*]))
theorem safe_pas {X : Wd} {n : Int} {f : Ps} (ho : Okw X) (hf : frmOK X f) (h : Safe X n) (hno : (atC X n).st = 2 → ¬ (f.kd = 5 ∧ f.fr = (atC X n).tt ∧ f.tt = n ∧ f.of = (atC X n).of)) : ∃ m, Safe (pasW false X f) m := by
  by_cases hk : f.kd = 3
  · have he : pasW false X f = { setC X f.tt (ansC (decide (f.tt = X.ds)) (atC X f.tt) ⟨f.fr, f.of⟩ false) with fr := X.fr ++ [⟨ansK (atC X f.tt) ⟨f.fr, f.of⟩ false, f.tt, f.fr, f.of⟩] } := by unfold pasW; rw [if_pos hk]
    rw [he]
    unfold frmOK at hf
    obtain ⟨h2, h3⟩ : isN X f.tt ∧ tagOK X ⟨f.fr, f.of⟩ f.tt := by
      rcases hf with ⟨_, h2, h3⟩ | ⟨h1, _⟩
      · exact ⟨h2, h3⟩
      · omega
    have hc := okw_cop ho h2
    obtain ⟨⟨a1, a2, a3, a4⟩, _, _, _, _, h6⟩ := hc
    -- the node that is reached, behind it
    have hat : atC { setC X f.tt (ansC (decide (f.tt = X.ds)) (atC X f.tt) ⟨f.fr, f.of⟩ false) with fr := X.fr ++ [⟨ansK (atC X f.tt) ⟨f.fr, f.of⟩ false, f.tt, f.fr, f.of⟩] } f.tt = ansC (decide (f.tt = X.ds)) (atC X f.tt) ⟨f.fr, f.of⟩ false := by
      have := atC_set (c := ansC (decide (f.tt = X.ds)) (atC X f.tt) ⟨f.fr, f.of⟩ false) h2 h2
      rw [if_pos rfl] at this
      exact this
    have hisn : isN { setC X f.tt (ansC (decide (f.tt = X.ds)) (atC X f.tt) ⟨f.fr, f.of⟩ false) with fr := X.fr ++ [⟨ansK (atC X f.tt) ⟨f.fr, f.of⟩ false, f.tt, f.fr, f.of⟩] } f.tt := (isN_len (by simp [setC])).2 h2
    -- either that node has it and stays with it, or nothing is acknowledged that was not kept
    by_cases hs : (ansC (decide (f.tt = X.ds)) (atC X f.tt) ⟨f.fr, f.of⟩ false).st = 1 ∨ (ansC (decide (f.tt = X.ds)) (atC X f.tt) ⟨f.fr, f.of⟩ false).st = 4
    · refine ⟨f.tt, hisn, ?_⟩
      rw [hat]
      rcases hs with hs | hs
      · exact .inl hs
      · exact .inr (.inl hs)
    · have key : (ansK (atC X f.tt) ⟨f.fr, f.of⟩ false = 5 → (⟨f.fr, f.of⟩ : Tg) ∈ (atC X f.tt).kp) ∧ (ansC (decide (f.tt = X.ds)) (atC X f.tt) ⟨f.fr, f.of⟩ false).kp = (atC X f.tt).kp ∧ (ansC (decide (f.tt = X.ds)) (atC X f.tt) ⟨f.fr, f.of⟩ false).st = (atC X f.tt).st ∧ (ansC (decide (f.tt = X.ds)) (atC X f.tt) ⟨f.fr, f.of⟩ false).tt = (atC X f.tt).tt ∧ (ansC (decide (f.tt = X.ds)) (atC X f.tt) ⟨f.fr, f.of⟩ false).of = (atC X f.tt).of := by
        revert hs
        unfold ansC ansK
        by_cases t1 : (⟨f.fr, f.of⟩ : Tg) ∈ (atC X f.tt).tk
        · simp only [t1, if_true]
          intro hs
          refine ⟨fun e => ?_, by trivial, by trivial, by trivial⟩
          split at e
          · rename_i hh
            rcases hh with hh | hh | hh
            · exact hh
            · exact absurd (.inl hh) hs
            · exact absurd (.inr hh) hs
          · omega
        · simp only [t1, if_false]
          by_cases t2 : (atC X f.tt).st = 2
          · simp only [t2, true_and, if_true]
            intro hs
            exact ⟨fun e => by omega, by trivial⟩
          · rw [if_neg (fun e => t2 e.1)]
            intro hs
            exfalso
            apply hs
            show (if _ then (4 : Int) else if _ then 1 else (atC X f.tt).st) = 1 ∨ (if _ then (4 : Int) else if _ then 1 else (atC X f.tt).st) = 4
            by_cases hd : f.tt = X.ds
            · rw [if_pos (by simpa using hd)]; exact .inr rfl
            · rw [if_neg (by simpa using hd)]
              rw [if_neg hd] at a2
              by_cases t3 : (atC X f.tt).st = 0 ∨ (atC X f.tt).st = 3
              · rw [if_pos t3]; exact .inl rfl
              · rw [if_neg t3]; exact .inl (by omega)
      obtain ⟨k1, k2, k3, k4, k5⟩ := key
      refine ⟨n, ?_⟩
      have hF : ∀ g, g ∈ X.fr ++ [(⟨ansK (atC X f.tt) ⟨f.fr, f.of⟩ false, f.tt, f.fr, f.of⟩ : Ps)] → g.kd = 5 → g.fr = (atC X n).tt → g.tt = n → g.of = (atC X n).of → (atC X n).st = 2 → g ∈ X.fr := by
        intro g hg e1 e2 e3 e4 e5
        rcases List.mem_append.1 hg with hg | hg
        · exact hg
        · simp only [List.mem_cons, List.mem_nil_iff, or_false] at hg
          subst hg
          exfalso
          obtain ⟨_, hh⟩ := h
          rcases hh with hh | hh | ⟨_, _, hh⟩
          · omega
          · omega
          · have := k1 e1
            simp only at e2 e3 e4
            rw [e2, e3, e4] at this
            exact hh this
      by_cases hn : f.tt = n
      · subst hn
        refine h.keep (by simp [setC]) (by rw [hat, k3]) (by rw [hat, k4]) (by rw [hat, k5]) hF ?_
        intro hm e2
        have h3 := isN_tt ho h.1 e2
        have e := atC_set (c := ansC (decide (f.tt = X.ds)) (atC X f.tt) ⟨f.fr, f.of⟩ false) h2 h3.1
        rw [if_neg h3.2.1] at e
        have e : atC { setC X f.tt (ansC (decide (f.tt = X.ds)) (atC X f.tt) ⟨f.fr, f.of⟩ false) with fr := X.fr ++ [⟨ansK (atC X f.tt) ⟨f.fr, f.of⟩ false, f.tt, f.fr, f.of⟩] } (atC X f.tt).tt = atC X (atC X f.tt).tt := e
        rw [e] at hm
        exact hm
      · exact safe_set ho h h2 hn hF (fun hm _ _ => by rw [k2] at hm; exact hm)
  · unfold frmOK at hf
    rcases hf with ⟨h1, _⟩ | ⟨h1, h2, h3⟩
    · exact absurd h1 hk
    have hnt : isN X f.tt := h3.1
    unfold pasW
    rw [if_neg hk]
    split
    · rename_i hs
      by_cases hn : f.tt = n
      · subst hn
        have hat := atC_set (c := { atC X f.tt with st := if f.kd = 5 then 3 else 1, tt := 0, of := 0 }) hnt hnt
        rw [if_pos rfl] at hat
        by_cases h5 : f.kd = 5
        · obtain ⟨_, hh⟩ := h
          rcases hh with hh | hh | ⟨_, hh, _⟩
          · omega
          · omega
          · exact absurd ⟨h5, hs.2.1.symm, rfl, hs.2.2.symm⟩ (hno hs.1)
        · refine ⟨f.tt, isN_setC.2 hnt, .inl ?_⟩
          rw [hat]
          show (if f.kd = 5 then (3 : Int) else 1) = 1
          rw [if_neg h5]
      · exact ⟨n, safe_set (F := X.fr) ho h hnt hn (fun g hg _ _ _ _ _ => hg) (fun hm _ _ => hm)⟩
    · exact ⟨n, h⟩
theorem Safe.out {X : Wd} {n : Int} {i : Nat} (h : Safe X n) : Safe (outF X i) n :=
  h.keep rfl rfl rfl rfl (fun f hf _ _ _ _ _ => dl_mem hf) (fun h _ => h)
theorem at_map (Y : Wd) (F : List Ps) (n m : Int) (hm : isN Y m) : atC { Y with cs := Y.cs.map (fun c => if c.tt = n then hld c else c), fr := F } m = if (atC Y m).tt = n then hld (atC Y m) else atC Y m := by
  obtain ⟨i, hi, rfl, he⟩ := atC_get hm
  rw [he]
  unfold atC
  rw [show ((i : Int) + 1 - 1).toNat = i by omega]
  unfold gc
  rw [List.getD_eq_getElem?_getD, List.getElem?_map, List.getD_eq_getElem?_getD, List.getElem?_eq_getElem hi]
  rfl
theorem rst_at {X : Wd} {k m : Int} (hk : isN X k) (hm : isN X m) : atC (rstW X k) m = if (if m = k then { hld (atC X k) with tk := [], kp := [] } else atC X m : Cp).tt = k then hld (if m = k then { hld (atC X k) with tk := [], kp := [] } else atC X m) else (if m = k then { hld (atC X k) with tk := [], kp := [] } else atC X m) := by
  have e := atC_set (c := { hld (atC X k) with tk := [], kp := [] }) hk hm
  have e2 := at_map (setC X k { hld (atC X k) with tk := [], kp := [] }) (X.fr.filter (fun f => decide (¬ (f.fr = k ∨ f.tt = k)))) k m (isN_setC.2 hm)
  rw [e] at e2
  exact e2
theorem safe_rst {X : Wd} {n k : Int} (ho : Okw X) (hk : isN X k) (h : Safe X n) : Safe (rstW X k) n := by
  have hat := fun m hm => rst_at (X := X) (k := k) (m := m) hk hm
  have hlen : (rstW X k).cs.length = X.cs.length := by simp [rstW, setC]
  have hn := h.1
  have e := hat n hn
  by_cases he : n = k
  · subst he
    rw [if_pos rfl] at e
    apply hld_safe h hlen
    rw [e]
    split
    · show (hld { hld (atC X n) with tk := [], kp := [] }).st = _
      rw [hld_st]
      show (if (hld (atC X n)).st = 2 then 1 else (hld (atC X n)).st) = _
      rw [hld_st]
      split <;> simp_all
    · rfl
  · rw [if_neg he] at e
    by_cases ht : (atC X n).tt = k
    · rw [if_pos ht] at e
      exact hld_safe h hlen (by rw [e])
    · rw [if_neg ht] at e
      refine h.keep hlen (by rw [e]) (by rw [e]) (by rw [e]) (fun f hf _ _ _ _ _ => (List.mem_filter.1 hf).1) (fun hm h2 => ?_)
      have h3 := isN_tt ho hn h2
      rw [hat _ h3.1, if_neg ht] at hm
      split at hm
      · rw [hld_kp] at hm; exact hm
      · exact hm
/-- a world that is not lost is not lost behind a move -/
theorem safe_mv {X : Wd} {m : Mv} (hs : stpE X m = 0) (h : ∃ n, Safe X n) : ∃ n, Safe (mvW false X m) n := by
  obtain ⟨ho, hm⟩ := stpE_zero hs
  obtain ⟨n, h⟩ := h
  unfold mvW
  split
  · rename_i hk
    have hn := hm.nd (.inl hk)
    obtain ⟨h1, h2, h3, h4⟩ := hm.ot hk
    have hF : ∀ c : Int, ∀ f, f ∈ X.fr ++ [(⟨3, m.nd, m.ot, (atC X m.nd).nx⟩ : Ps)] → f.kd = 5 → f ∈ X.fr := by
      intro c f hf h5
      rcases List.mem_append.1 hf with hf | hf
      · exact hf
      · simp only [List.mem_cons, List.mem_nil_iff, or_false] at hf
        subst hf
        have h5 : (3 : Int) = 5 := h5
        omega
    by_cases he : m.nd = n
    · have hat := atC_set (c := { atC X m.nd with st := 2, tt := m.ot, of := (atC X m.nd).nx, nx := (atC X m.nd).nx + 1 }) hn hn
      rw [if_pos rfl] at hat
      have hat2 := atC_set (c := { atC X m.nd with st := 2, tt := m.ot, of := (atC X m.nd).nx, nx := (atC X m.nd).nx + 1 }) hn h1
      rw [if_neg h2] at hat2
      refine ⟨m.nd, isN_setC.2 hn, .inr (.inr ⟨?_, fun f hf hc => ?_, ?_⟩)⟩
      · show (atC (setC X m.nd _) m.nd).st = 2
        rw [hat]
      · have hc2 : f.of = (atC (setC X m.nd { atC X m.nd with st := 2, tt := m.ot, of := (atC X m.nd).nx, nx := (atC X m.nd).nx + 1 }) m.nd).of := hc.2.2.2
        rw [hat] at hc2
        have hfo := okw_frm ho (hF 0 f hf hc.1)
        unfold frmOK at hfo
        rcases hfo with ⟨e, _⟩ | ⟨_, _, e⟩
        · omega
        · have := e.2.2.2
          have h5 : f.tt = m.nd := hc.2.2.1
          have h6 : f.of = (atC X m.nd).nx := hc2
          simp only [h5, h6] at this
          omega
      · show (⟨m.nd, (atC (setC X m.nd { atC X m.nd with st := 2, tt := m.ot, of := (atC X m.nd).nx, nx := (atC X m.nd).nx + 1 }) m.nd).of⟩ : Tg) ∉ (atC (setC X m.nd { atC X m.nd with st := 2, tt := m.ot, of := (atC X m.nd).nx, nx := (atC X m.nd).nx + 1 }) (atC (setC X m.nd { atC X m.nd with st := 2, tt := m.ot, of := (atC X m.nd).nx, nx := (atC X m.nd).nx + 1 }) m.nd).tt).kp
        rw [hat]
        show (⟨m.nd, (atC X m.nd).nx⟩ : Tg) ∉ (atC (setC X m.nd _) m.ot).kp
        rw [hat2]
        intro hmem
        obtain ⟨_, _, _, _, c5, c6⟩ := okw_cop ho h1
        have := (c5 _ (c6 _ hmem)).2.2.2
        simp only at this
        omega
    · exact ⟨n, safe_set ho h hn he (fun f hf h5 _ _ _ _ => hF 0 f hf h5) (fun hmem _ _ => hmem)⟩
  split
  · rename_i hk
    have hn := hm.n (.inl hk)
    have hg := gp_mem (l := X.fr) (i := m.n.toNat) (by omega)
    refine safe_pas (okw_out ho) (okw_frm ho hg) h.out (fun h2 hc => ?_)
    obtain ⟨_, hh⟩ := h
    have h2 : (atC X n).st = 2 := h2
    rcases hh with hh | hh | ⟨_, hh, _⟩
    · omega
    · omega
    · exact hh _ hg hc
  split
  · exact ⟨n, h.out⟩
  split
  · rename_i hk
    have hn := hm.n (.inr (.inr hk))
    have hg := gp_mem (l := X.fr) (i := m.n.toNat) (by omega)
    refine ⟨n, h.keep rfl rfl rfl rfl (fun f hf _ _ _ _ _ => ?_) (fun h _ => h)⟩
    rcases List.mem_append.1 hf with hf | hf
    · exact hf
    · simp only [List.mem_cons, List.mem_nil_iff, or_false] at hf
      subst hf
      exact hg
  split
  · rename_i hk
    have hn := hm.nd (.inr (.inl hk))
    by_cases he : m.nd = n
    · have hat := atC_set (c := hld (atC X m.nd)) hn hn
      rw [if_pos rfl] at hat
      refine ⟨n, hld_safe h (by simp [setC]) ?_⟩
      rw [← he, hat]
    · exact ⟨n, safe_set (F := X.fr) ho h hn he (fun f hf _ _ _ _ _ => hf) (fun hmem _ _ => by rw [hld_kp] at hmem; exact hmem)⟩
  · exact ⟨n, safe_rst ho (hm.nd (.inr (.inr (by have := hm.k; omega)))) h⟩
end Go.Proofs.Ytnkpjfogjkjcfaa
