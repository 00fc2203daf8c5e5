


/- Volume: plans as lists of contacts; which plans are valid. -/
import Derived.Test.YtgmfifilgbbogaaF
namespace Go.Proofs.Ytgmfifilgbbogaa
open Go.RowKit Go.Maps
set_option linter.unusedSimpArgs false
set_option linter.unusedVariables false
set_option maxRecDepth 100000

instance : Inhabited Ct := ⟨⟨0, 0, 0, 0, 0, 0⟩⟩
def c0 : Ct := ⟨0, 0, 0, 0, 0, 0⟩
def Ct.cells (c : Ct) : List Value := [.int .i64 c.fr, .int .i64 c.dt, .int .i64 c.st, .int .i64 c.en, .int .i64 c.rt, .int .i64 c.dl]
def ccs (cs : List Ct) : List Value := (cs.map Ct.cells).flatten
theorem ccs_length (cs : List Ct) : (ccs cs).length = cs.length * 6 := by
  induction cs with
  | nil => rfl
  | cons c cs ih => simp [ccs, Ct.cells] at ih ⊢; omega
theorem ccs_get (cs : List Ct) : ∀ (i j : Nat), i < cs.length → j < 6 → (ccs cs)[i * 6 + j]? = (cs.getD i c0).cells[j]? := by
  induction cs with
  | nil => intro i j h; simp at h
  | cons c cs ih =>
    intro i j hi hj
    cases i with
    | zero =>
      simp [ccs, Ct.cells]
      match j, hj with
      | 0, _ => rfl
      | 1, _ => rfl
      | 2, _ => rfl
      | 3, _ => rfl
      | 4, _ => rfl
      | 5, _ => rfl
    | succ i =>
      have := ih i j (by simpa using hi) hj
      rw [show (i + 1) * 6 + j = (i * 6 + j) + 6 by omega]
      simp [ccs, Ct.cells] at this ⊢
      exact this
def RdC (w : World) (v : Value) (cs : List Ct) : Prop := RdS w 6 v cs.length (ccs cs)
theorem RdC.keep {W w1 : World} {v : Value} {cs : List Ct} (hb : Below W.heap.size W w1) (h : RdC W v cs) : RdC w1 v cs := RdS.keep hb h
theorem RdC.nil (w : World) : RdC w (.slice none 0 0) [] := RdS.nil w 6
theorem RdC.form {w : World} {v : Value} {cs : List Ct} (h : RdC w v cs) : ∃ a c, v = .slice a cs.length c := RdS.form h
/-- the contact at a place -/
abbrev CA (w : World) (b o : Nat) (c : Ct) : Prop := w.cell? ⟨b, o, none⟩ = some (.int .i64 c.fr) ∧ w.cell? ⟨b, o + 1, none⟩ = some (.int .i64 c.dt) ∧ w.cell? ⟨b, o + 2, none⟩ = some (.int .i64 c.st) ∧
  w.cell? ⟨b, o + 3, none⟩ = some (.int .i64 c.en) ∧ w.cell? ⟨b, o + 4, none⟩ = some (.int .i64 c.rt) ∧ w.cell? ⟨b, o + 5, none⟩ = some (.int .i64 c.dl)
theorem CA.keep {W w1 : World} {b o : Nat} {c : Ct} (hb : Below W.heap.size W w1) (h : CA W b o c) : CA w1 b o c :=
  ⟨cell_later hb h.1, cell_later hb h.2.1, cell_later hb h.2.2.1, cell_later hb h.2.2.2.1, cell_later hb h.2.2.2.2.1, cell_later hb h.2.2.2.2.2⟩
theorem RdC.cases {w : World} {v : Value} {cs : List Ct} (h : RdC w v cs) : cs.length ≤ maxLen ∧ ((∃ a cap, v = .slice a 0 cap ∧ cs = []) ∨
    ∃ b off cap, v = .slice (some ⟨b, off, none⟩) cs.length cap ∧ cs.length ≤ cap ∧ ∀ i, i < cs.length → CA w b (off + i * 6) (cs.getD i c0)) := by
  obtain ⟨hl, hm, ⟨h0, a0, cap0, rfl, h00⟩ | ⟨b, off, cap, rfl, hc, hrd⟩⟩ := h
  · exact ⟨hm, .inl ⟨a0, cap0, rfl, List.length_eq_zero_iff.1 h0⟩⟩
  · refine ⟨hm, .inr ⟨b, off, cap, rfl, hc, fun i hi => ?_⟩⟩
    have key : ∀ (j : Nat) (u : Value), j < 6 → (cs.getD i c0).cells[j]? = some u → w.cell? ⟨b, off + i * 6 + j, none⟩ = some u := fun j u hj hu => by
      rw [show off + i * 6 + j = off + (i * 6 + j) by omega]
      exact hrd _ _ (by rw [ccs_get cs i j hi hj]; exact hu)
    exact ⟨key 0 _ (by omega) rfl, key 1 _ (by omega) rfl, key 2 _ (by omega) rfl, key 3 _ (by omega) rfl, key 4 _ (by omega) rfl, key 5 _ (by omega) rfl⟩

/-! which plans are valid -/
def lastEn (cs : List Ct) (a b : Int) : Nat → Int
  | 0 => 0
  | k + 1 => if (cs.getD k c0).fr = a ∧ (cs.getD k c0).dt = b then (cs.getD k c0).en else lastEn cs a b k
def stepE (cs : List Ct) (k : Nat) : Int :=
  if ¬ okC (cs.getD k c0) then 2 else if 0 < k ∧ ¬ bef (cs.getD (k - 1) c0) (cs.getD k c0) then 19
  else if (cs.getD k c0).st < lastEn cs (cs.getD k c0).fr (cs.getD k c0).dt k then 12 else 0
def scan (cs : List Ct) : Nat → Int × Int
  | 0 => (0, 0)
  | k + 1 => if (scan cs k).1 ≠ 0 then scan cs k else if stepE cs k = 0 then (0, 0) else (stepE cs k, k)
def planChk (cs : List Ct) : Int × Int := if 200 < cs.length then (5, 0) else scan cs cs.length
theorem scan_zero (cs : List Ct) : ∀ k, (∀ j, j < k → stepE cs j = 0) → scan cs k = (0, 0)
  | 0, _ => rfl
  | k + 1, h => by
    have h1 := scan_zero cs k fun j hj => h j (by omega)
    unfold scan
    rw [h1]
    simp [h k (by omega)]
theorem scan_fail (cs : List Ct) (k : Nat) (h : ∀ j, j < k → stepE cs j = 0) (hk : stepE cs k ≠ 0) : ∀ n, k < n → scan cs n = (stepE cs k, (k : Int))
  | 0, h0 => by omega
  | n + 1, hn => by
    unfold scan
    by_cases he : k = n
    · subst he
      rw [scan_zero cs k h]
      simp [hk]
    · rw [scan_fail cs k h hk n (by omega)]
      simp [hk]

theorem RdC.at {w : World} {a : Option Addr} {n c : Nat} {cs : List Ct} (h : RdC w (.slice a n c) cs) (hn : cs.length = n) (k : Nat) (hk : k < n) : ∃ b off, a = some ⟨b, off, none⟩ ∧ n ≤ c ∧ CA w b (off + k * 6) (cs.getD k c0) := by
  obtain ⟨hm, ⟨a0, cap, hv, rfl⟩ | ⟨b, off, cap, hv, hc, hr⟩⟩ := h.cases
  · simp at hn; omega
  · simp only [Value.slice.injEq] at hv
    obtain ⟨rfl, rfl, rfl⟩ := hv
    exact ⟨b, off, rfl, hc, hr k hk⟩

def Wf (c : Ct) : Prop := (Lit.int .i64 c.fr).wf = true ∧ (Lit.int .i64 c.dt).wf = true ∧ (Lit.int .i64 c.st).wf = true ∧ (Lit.int .i64 c.en).wf = true ∧ (Lit.int .i64 c.rt).wf = true ∧ (Lit.int .i64 c.dl).wf = true
theorem wf0 : Wf c0 := by unfold Wf; decide
theorem wf_get {cs : List Ct} (h : ∀ c, c ∈ cs → Wf c) (k : Nat) : Wf (cs.getD k c0) := by
  by_cases hk : k < cs.length
  · rw [List.getD_eq_getElem?_getD, List.getElem?_eq_getElem hk]
    exact h _ (List.getElem_mem hk)
  · rw [List.getD_eq_getElem?_getD, List.getElem?_eq_none (by omega)]
    exact wf0
/-- what the map of pairs reads as behind k contacts -/
noncomputable def Dm (cs : List Ct) : Nat → DataW Unit
  | 0 => .map []
  | k + 1 => (Dm cs k).put (kl (cs.getD k c0).fr (cs.getD k c0).dt) (.lit (.int .i64 (cs.getD k c0).en))
theorem Dm_map (cs : List Ct) : ∀ k, Maps.IsMap (Dm cs k)
  | 0 => Maps.isMap_empty
  | k + 1 => (Dm_map cs k).put _ _
theorem Dm_at {cs : List Ct} (h : ∀ c, c ∈ cs → Wf c) {a b : Int} (ha : (Lit.int .i64 a).wf = true) (hb : (Lit.int .i64 b).wf = true) : ∀ k, (Dm cs k).atKey (kl a b) i0 = .lit (.int .i64 (lastEn cs a b k))
  | 0 => by simp [Dm, lastEn, i0, DataW.atKey]
  | k + 1 => by
    have hw := wf_get h k
    unfold Dm lastEn
    by_cases he : (cs.getD k c0).fr = a ∧ (cs.getD k c0).dt = b
    · rw [if_pos he, he.1, he.2]
      exact Maps.atKey_put_same (Dm_map cs k) (law71.key (kl_of ha hb)) _ _
    · rw [if_neg he, Maps.atKey_put_other (kl_ne ha hb hw.1 hw.2.1 (fun e => he ⟨e.1.symm, e.2.symm⟩)), Dm_at h ha hb k]
theorem ownsMap_keep {H : Type} {P : Program} {k : TypeId} {R : Value → Option (DataW H × List MemPlace)} {W w1 : World} {b n : Nat} {D : DataW H} (hb : Below W.heap.size W w1) (h : W.ownsMap P k R b n D) : w1.ownsMap P k R b n D := by
  have hl := h.lt
  obtain ⟨es, clock, h1, F, hs, hD⟩ := h
  exact ⟨es, clock, (hb.block b hl).trans h1, F, hs, hD⟩
theorem planChk_fail {cs : List Ct} (hl : ¬ 200 < cs.length) {k : Nat} (hk : k < cs.length) (h : ∀ j, j < k → stepE cs j = 0) {er : Int} (he : stepE cs k = er) (hne : er ≠ 0) : planChk cs = (er, (k : Int)) := by
  unfold planChk
  rw [if_neg hl, scan_fail cs k h (by rw [he]; exact hne) _ hk, he]
theorem planChk_ok {cs : List Ct} (hl : ¬ 200 < cs.length) (h : ∀ j, j < cs.length → stepE cs j = 0) : planChk cs = (0, 0) := by
  unfold planChk
  rw [if_neg hl, scan_zero cs _ h]
end Go.Proofs.Ytgmfifilgbbogaa
