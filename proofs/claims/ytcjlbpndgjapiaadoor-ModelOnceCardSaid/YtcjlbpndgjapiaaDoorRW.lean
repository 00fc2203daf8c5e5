/- Slices of rows (structs of one-cell fields), told by a plain list: reading, opening. No program is named. -/
import Derived.Test.YtcjlbpndgjapiaaDoorR
import Derived.Test.YtcjlbpndgjapiaaDoorO
namespace Go.Proofs.YtcjlbpndgjapiaaDoor
set_option linter.unusedSimpArgs false
set_option linter.unusedVariables false
open Go.ChangeShapes Go.WideShapes Go.ChangeAt Go.RowKit Go.Joins Go.Deep

/-- what a row of α is in memory: so many cells, those -/
structure RowT (α : Type) where
  size : Nat
  cells : α → List Value
  zero : α
  pos : 0 < size
  len : ∀ a, (cells a).length = size
  one : ∀ a, ∀ u ∈ cells a, u.oneCell' = true

section
variable {α : Type} (R : RowT α)
def rcs (l : List α) : List Value := (l.map R.cells).flatten
theorem rcs_length (l : List α) : (rcs R l).length = l.length * R.size := by
  induction l with
  | nil => simp [rcs]
  | cons c l ih =>
    have := R.len c
    simp only [rcs, List.map_cons, List.flatten_cons, List.length_append, List.length_cons] at ih ⊢
    rw [ih, this, Nat.add_mul]
    omega
theorem rcs_cons (c : α) (l : List α) : rcs R (c :: l) = R.cells c ++ rcs R l := by simp [rcs]
theorem rcs_append (l m : List α) : rcs R (l ++ m) = rcs R l ++ rcs R m := by simp [rcs]
theorem rcs_get (l : List α) : ∀ (i j : Nat), i < l.length → j < R.size → (rcs R l)[i * R.size + j]? = (R.cells (l.getD i R.zero))[j]? := by
  induction l with
  | nil => intro i j h; simp at h
  | cons c l ih =>
    intro i j hi hj
    rw [rcs_cons]
    cases i with
    | zero =>
      rw [List.getElem?_append_left (by rw [R.len]; omega)]
      simp
    | succ i =>
      have := ih i j (by simpa using hi) hj
      rw [List.getElem?_append_right (by rw [R.len, Nat.add_mul]; omega), R.len, show (i + 1) * R.size + j - R.size = i * R.size + j by rw [Nat.add_mul]; omega, this]
      simp
theorem rcs_one (l : List α) : ∀ u ∈ rcs R l, u.oneCell' = true := by
  intro u hu
  obtain ⟨m, hm, hul⟩ := List.mem_flatten.1 hu
  obtain ⟨c, _, rfl⟩ := List.mem_map.1 hm
  exact R.one c u hul
/-- v is a slice that reads as the rows l -/
def RdL (w : World) (v : Value) (l : List α) : Prop := RdS w R.size v l.length (rcs R l)
variable {R}
theorem RdL.keep {W w1 : World} {v : Value} {l : List α} (hb : Below W.heap.size W w1) (h : RdL R W v l) : RdL R w1 v l := RdS.keep hb h
variable (R) in
theorem RdL.nil (w : World) : RdL R w (.slice none 0 0) [] := RdS.nil w R.size
theorem RdL.form {w : World} {v : Value} {l : List α} (h : RdL R w v l) : ∃ a c, v = .slice a l.length c := RdS.form h
/-- row number k lies so -/
def RA (R : RowT α) (w : World) (b o : Nat) (c : α) : Prop := ∀ j u, (R.cells c)[j]? = some u → w.cell? ⟨b, o + j, none⟩ = some u
theorem RA.keep {W w1 : World} {b o : Nat} {c : α} (hb : Below W.heap.size W w1) (h : RA R W b o c) : RA R w1 b o c := fun j u hj => cell_later hb (h j u hj)
theorem RdL.at {w : World} {a : Option Addr} {n c : Nat} {l : List α} (h : RdL R w (.slice a n c) l) (hn : l.length = n) (k : Nat) (hk : k < n) : ∃ b off, a = some ⟨b, off, none⟩ ∧ n ≤ c ∧ RA R w b (off + k * R.size) (l.getD k R.zero) := by
  obtain ⟨_, _, ⟨h0, _⟩ | ⟨b, off, cap, hv, hc, hr⟩⟩ := h
  · omega
  · simp only [Value.slice.injEq] at hv
    obtain ⟨rfl, _, rfl⟩ := hv
    refine ⟨b, off, rfl, by omega, fun j u hj => ?_⟩
    have hjs : j < R.size := by have := (List.getElem?_eq_some_iff.1 hj).1; rwa [R.len] at this
    rw [Nat.add_assoc]
    exact hr _ u (by rw [rcs_get R l k j (by omega) hjs]; exact hj)
theorem RdL.of_owns {w : World} {base : Nat} {e : TypeId} {v : Value} {l : List α} (h : w.ownsRow base e R.size v l.length (rcs R l)) : RdL R w v l := RdS.of_owns h R.pos
/-- a block that has just been laid, with a list of rows in it -/
theorem rdl_lit (R : RowT α) (w : World) (T : TypeId) (l : List α) (n : Nat) (hn : l.length = n) (hm : n ≤ 1000) (h : ∀ j u, (rcs R l)[j]? = some u → (w.alloc (.cells (rcs R l).toArray T)).cell? ⟨w.heap.size, j, none⟩ = some u) :
    RdL R (w.alloc (.cells (rcs R l).toArray T)) (.slice (some ⟨w.heap.size, 0, none⟩) n n) l := by
  subst hn
  refine ⟨rcs_length R l, by unfold maxLen; omega, .inr ⟨w.heap.size, 0, l.length, rfl, Nat.le_refl _, fun j u hj => ?_⟩⟩
  rw [Nat.zero_add]
  exact h j u hj
end

section
variable {H : Type} {enc : TypeId × Value → H} {P : Program} {w : World} {base : Nat} {held : Bool} {α : Type} {R : RowT α}
theorem rlist_of {Q : Nat → α → Prop} (z : α) : ∀ (n : Nat), (∀ i, i < n → ∃ c, Q i c) → ∃ cs : List α, cs.length = n ∧ ∀ i, i < n → Q i (cs.getD i z)
  | 0, _ => ⟨[], rfl, fun i hi => by omega⟩
  | n + 1, h => by
    obtain ⟨cs, hl, hc⟩ := rlist_of z n (fun i hi => h i (by omega))
    obtain ⟨c, hq⟩ := h n (by omega)
    refine ⟨cs ++ [c], by simp [hl], fun i hi => ?_⟩
    by_cases hin : i = n
    · subst hin
      simp [List.getD_eq_getElem?_getD, ← hl]
      rw [hl]; exact hq
    · have := hc i (by omega)
      rw [List.getD_eq_getElem?_getD] at this ⊢
      rwa [List.getElem?_append_left (by omega)]
/-- a struct of n int fields, opened -/
theorem ints_of {fs : Array Field} {e t3 : TypeId} {m n : Nat} {cs : List Value} {x : DataW H × List MemPlace} (he : P.underlying e = some (.struct fs)) (hn : fs.size = n) (hone : oneCellFields P fs = true) (hC : P.cellsOf e = n) (hi : P.underlying t3 = some (.int .i64)) (ht : ∀ f ∈ fs, f.type = t3)
    (h : DataW.trod enc P w base (fun _ => true) held m e cs = some x) : cs.length = n ∧ ∀ j, j < n → ∃ z : Int, cs[j]? = some (.int .i64 z) ∧ (Lit.int .i64 z).wf = true := by
  obtain ⟨xs, m, _, _, hlen, hxl, hg⟩ := DataW.trod_struct he h
  rw [hC] at hlen
  refine ⟨hlen, fun j hj => ?_⟩
  have hf : fs[j]? = some (fs[j]'(by omega)) := Array.getElem?_eq_getElem (by omega)
  obtain ⟨ho, hk⟩ := hone_of hone j _ hf
  have h1 := hg j _ hf
  rw [ho, hk, List.drop_eq_getElem_cons (by omega)] at h1
  have hx : xs[j]? = some (xs[j]'(by omega)) := List.getElem?_eq_getElem (by omega)
  rw [hx, ht _ (Array.getElem_mem _)] at h1
  simp only [List.take_succ_cons, List.take_zero] at h1
  obtain ⟨z, hz, _, hw⟩ := DataW.trod_int hi h1
  simp only [List.cons.injEq, and_true] at hz
  exact ⟨z, by rw [List.getElem?_eq_getElem (by omega), hz], hw⟩
/-- a slice of rows, opened; 'hel' opens one row -/
theorem rdl_of {Wf : α → Prop} {t e : TypeId} {fuel : Nat} {v : Value} {x : DataW H × List MemPlace} (htt : P.underlying t = some (.slice e)) (hC : P.cellsOf e = R.size)
    (hel : ∀ n cs x, DataW.trod enc P w base (fun _ => true) held n e cs = some x → ∃ c : α, cs = R.cells c ∧ Wf c)
    (h : DataW.trod enc P w base (fun _ => true) held fuel t [v] = some x) : ∃ cs : List α, RdL R w v cs ∧ ∀ c, c ∈ cs → Wf c := by
  have hpos := R.pos
  rcases open_slice htt h with ⟨hcs, _⟩ | ⟨a, len, cap, m, n, D, Pl, hcs, _, hl, hm, hmm, _, hels⟩
  · simp only [List.cons.injEq, and_true] at hcs
    subst hcs
    exact ⟨[], RdL.nil R w, fun c hc => by cases hc⟩
  · simp only [List.cons.injEq, and_true] at hcs
    subst hcs
    simp at hmm
    subst hmm
    obtain ⟨cs, hlen, hc⟩ := rlist_of (Q := fun i c => (∀ j, j < R.size → w.cell? (a.add (i * R.size + j)) = (R.cells c)[j]?) ∧ Wf c) R.zero len (fun i hi' => by
      obtain ⟨cs', hcc, htr⟩ := hels i (by omega)
      rw [hC] at hcc
      obtain ⟨c, rfl, hw⟩ := hel _ _ _ htr
      obtain ⟨_, _, hat⟩ := World.cells?_some hcc
      refine ⟨c, fun j hj => ?_, hw⟩
      rw [← Go.Deep.add_add, hat j hj])
    refine ⟨cs, ⟨rcs_length R cs, by omega, ?_⟩, fun c hcm => ?_⟩
    · rw [hlen]
      by_cases h0 : len = 0
      · exact .inl ⟨h0, some a, m, by rw [h0], fun h => by cases h⟩
      · obtain ⟨b, off, spot⟩ := a
        have h1 := (hc 0 (by omega)).1 0 hpos
        have h10 : (R.cells (cs.getD 0 R.zero))[0]? = some ((R.cells (cs.getD 0 R.zero))[0]'(by rw [R.len]; exact hpos)) := List.getElem?_eq_getElem _
        have hspot : spot = none := by simpa [Addr.add] using World.cell?_spot (h1.trans h10)
        subst hspot
        refine .inr ⟨b, off, m, rfl, hl, fun j u hj => ?_⟩
        have hjl : j < len * R.size := by have := (List.getElem?_eq_some_iff.1 hj).1; rw [rcs_length, hlen] at this; exact this
        have hdm : j / R.size * R.size + j % R.size = j := by have := Nat.div_add_mod j R.size; rw [Nat.mul_comm] at this; exact this
        have hd : j / R.size < len := by rw [Nat.div_lt_iff_lt_mul hpos]; exact hjl
        have h2 := (hc (j / R.size) hd).1 (j % R.size) (Nat.mod_lt _ hpos)
        rw [hdm, Go.WideShapes.add_plain] at h2
        rw [h2, ← rcs_get R cs (j / R.size) (j % R.size) (by rw [hlen]; exact hd) (Nat.mod_lt _ hpos), hdm]
        exact hj
    · obtain ⟨i, hi', rfl⟩ := List.getElem_of_mem hcm
      have := (hc i (by omega)).2
      rwa [List.getD_eq_getElem?_getD, List.getElem?_eq_getElem hi'] at this
theorem open_rdl {Wf : α → Prop} {r : Reach} {b0 : Nat} {t e : TypeId} {v : Value} {d : DataW H} {p : List MemPlace} (htt : P.underlying t = some (.slice e)) (hC : P.cellsOf e = R.size)
    (hel : ∀ n cs x, DataW.trod enc P w base (fun _ => true) held n e cs = some x → ∃ c : α, cs = R.cells c ∧ Wf c)
    (hv : Value.okWide P w r b0 t v) (h : DataW.Trod enc P w base (fun _ => true) held t v d p) : ∃ cs : List α, RdL R w v cs ∧ ∀ c, c ∈ cs → Wf c := by
  obtain ⟨a, len, cap, rfl⟩ := okWide_slice htt hv
  obtain ⟨fuel, hf⟩ := h
  exact rdl_of htt hC hel (by simpa [Value.cells] using hf)
end
end Go.Proofs.YtcjlbpndgjapiaaDoor
