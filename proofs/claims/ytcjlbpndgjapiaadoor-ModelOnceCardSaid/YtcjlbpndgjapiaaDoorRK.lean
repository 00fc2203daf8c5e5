/- A range over a function whose iterator changes some blocks of its caller's, told by their places: the iterator's contract and the loop's law (one variable). Plain; no program is named. -/
import Derived.Test.YtcjlbpndgjapiaaDoorRG
namespace Go.Proofs.YtcjlbpndgjapiaaDoor
set_option linter.unusedSimpArgs false
set_option linter.unusedVariables false
open Go.RowKit

/-- whatever object of kind p lay there lies there still -/
def keepsK (p : Nat → Obj → Bool) (W W' : World) : Prop := ∀ (k : Nat) (o : Obj), W.heap[k]? = some o → p k o = true → W'.heap[k]? = some o
theorem keepsK.refl (p : Nat → Obj → Bool) (W : World) : keepsK p W W := fun _ _ h _ => h
theorem keepsK.trans {p : Nat → Obj → Bool} {A B C : World} (h : keepsK p A B) (h2 : keepsK p B C) : keepsK p A C := fun k o ho hp => h2 k o (h k o ho hp) hp
theorem keepsK.mono {p q : Nat → Obj → Bool} {A B : World} (h : keepsK p A B) (hq : ∀ k o, q k o = true → p k o = true) : keepsK q A B := fun k o ho hp => h k o ho (hq k o hp)
theorem keepsK.below {p : Nat → Obj → Bool} {W W' : World} (h : Below W.heap.size W W') : keepsK p W W' := fun k o ho _ => (h.block k (Array.getElem?_eq_some_iff.1 ho).1).trans ho
theorem keepsK.set {p : Nat → Obj → Bool} {W : World} {b : Nat} {o : Obj} (hb : W.heap[b]? = some o) (hp : p b o = false) (a : Addr) (ha : a.block = b) (v : Value) : keepsK p W (W.setCell a v) := fun k o' ho' hp' => by
  have hne : k ≠ a.block := by
    rintro rfl
    rw [ha, hb] at ho'; cases ho'; rw [ha, hp] at hp'; cases hp'
  exact (Below.heap_setCell W a v k hne).trans ho'
theorem keepsK.put {p : Nat → Obj → Bool} {W : World} {l : Nat} {o : Obj} (hl : W.heap[l]? = some o) (hp : p l o = false) (o' : Obj) : keepsK p W (W.putObj l o') := fun k ok hk hpk => by
  have hne : k ≠ l := by
    rintro rfl
    rw [hl] at hk; cases hk; rw [hp] at hpk; cases hpk
  exact (World.putObj_heap_other hne).trans hk
theorem keepsK.grown {p : Nat → Obj → Bool} {W W' : World} {row : Option Nat} (hg : W.grownBy W' row) (hr : ∀ r, row = some r → ∀ o, W.heap[r]? = some o → p r o = false) : keepsK p W W' := fun k o ho hp => by
  have hne : some k ≠ row := fun e => by have := hr k e.symm o ho; rw [this] at hp; cases hp
  exact (hg.block k (Array.getElem?_eq_some_iff.1 ho).1 hne).trans ho
theorem below_putK2 {n : Nat} {W : World} {l : Nat} (hn : n ≤ l) (o' : Obj) : Below n W (W.putObj l o') :=
  ⟨rfl, rfl, rfl, by simp, fun k hk => World.putObj_heap_other (by omega)⟩

/-- The contract of an iterator that hands over the N elements enc 0, enc 1, ..; every round says 'go on'. It touches no object of kind p of those that lay there when it turned (J abides that); a round keeps what lay below n0 and every object of kind q. -/
def SeqK (n : Nat) (P : Program) (g : Nat) (lb : Array Value) (enc : Nat → Array Value) (p q : Nat → Obj → Bool) (Z : World → Prop) (n1 n0 N : Nat) (w : World) : Prop :=
  ∀ (l : Nat) (J : Nat → World → Prop) (W : World), Below w.heap.size w W → (∀ k A B, J k A → Below n1 A B → keepsK p A B → J k B) →
    (∀ k W1, k < N → J k W1 → YieldAt Fence.wide (n - 1) P l (enc k) W1 fun e W' => e = .returned (.bool true) ∧ J (k + 1) W' ∧ Below n0 W1 W' ∧ keepsK q W1 W') →
    J 0 W → CallsIn Fence.wide n P g (#[.func (.yield l) #[] #[]] ++ lb) W fun e W' => (∃ v, e = .returned v) ∧ J N W' ∧ Z W'

/-- what a round's body ends in -/
abbrev postK (B : Nat) (n0 : Nat) (q : Nat → Obj → Bool) (I : Nat → World → Prop) (k : Nat) (W : World) : Exit → Act → World → Prop :=
  ownPostG (α := Unit) B (fun A B => Below n0 A B ∧ keepsK q A B) (fun _ => I (k + 1)) (fun _ _ _ => False) [] W

theorem zip1_fold (p1 : Tmp) (v1 : Value) (t : Array Value) : (#[p1].zip #[v1]).foldl (fun t (p, v) => t.setIfInBounds p v) t = t.setIfInBounds p1 v1 := by
  have h : (#[p1].zip #[v1]) = #[(p1, v1)] := by
    apply Array.toList_inj.1
    rw [Array.toList_zip]
    rfl
  rw [h]
  rfl
section
variable {P : Program} {n : Nat}
theorem range_ownK {g : Operand} {p1 : Tmp} {assign body : Code} {Q : Exit → Act → World → Prop} {a : Act} {w : World} {gf : Nat} {lb : Array Value} (n : Nat) (T : TypeId) (asg : Array Value → Nat → Nat → Array Value) (h1 : 1 ≤ n)
    (hg : a.eval g = .func (.func gf) #[] lb) (eg : ∀ args w, (callFunc gf args).run P w = .ok (.enter gf args) w)
    {cs : Nat → Array Value} {p q : Nat → Obj → Bool} {Z : World → Prop} {n1 n0 N : Nat} (hp : ∀ k o, o.isCells = false → p k o = true) (hq : ∀ k o, o.isCells = false → q k o = false) (hn0 : n0 ≤ w.heap.size) (hn1 : n1 ≤ w.heap.size)
    (hseq : SeqK (n - 1) P gf lb (fun k => #[.agg (cs k)]) p q Z n1 n0 N w)
    (hZ : ∀ A l o o', Z A → A.heap[l]? = some o → o.isCells = false → Z (A.putObj l o')) (I : Nat → World → Prop) (hI : ∀ k A B, I k A → Below n1 A B → keepsK (fun k o => p k o && o.isCells) A B → I k B) (h0 : I 0 w)
    (hassign : ∀ (l k : Nat) (W : World) (K : Act → World → Prop), I k W → w.heap.size ≤ W.heap.size →
      K { tmps := asg a.tmps k W.heap.size, defers := [] } (W.alloc (.cells (cs k) T)) →
      assign.wpIn (Fence.wide.inRound l) (n - 1 - 1) P (Exit.then K (fun _ _ _ => False)) { tmps := a.tmps.setIfInBounds p1 (.agg (cs k)), defers := [] } W)
    (hbody : ∀ (l k Bx : Nat) (W : World), I k W → w.heap.size ≤ W.heap.size → w.heap.size ≤ Bx → BoxN W Bx T (cs k) → k < N →
      body.wpIn (Fence.wide.inRound l) (n - 1 - 1) P (postK w.heap.size n0 q I k W) { tmps := asg a.tmps k Bx, defers := [] } W)
    (hdone : ∀ (D : Nat) (W : World), w.heap.size ≤ D → I N W → Z W → W.heap[D]? = some (.deferred (some [])) → Q .normal { a with defers := { target := .collected D, args := #[] } :: a.defers } W) :
    (Code.rangeFunc g #[p1] assign body).wp P Q a w := by
  refine (wpIn_wide (n := n)).1 ?_
  refine wpIn_rangeFunc ?_
  intro fn hfn
  have hro : Fence.wide.round = none := rfl
  rw [hro]
  obtain ⟨rec, hrec⟩ : ∃ rec : LoopState → Option Code → Loop, rec = fun st pe => { state := st, pending := pe, fn, tmps := a.tmps, params := #[p1], assign, body, defers := w.heap.size } := ⟨_, rfl⟩
  obtain ⟨W1, hW1⟩ : ∃ W1, (w.alloc (.deferred (some []))).alloc (.loop (rec .ready none)) = W1 := ⟨_, rfl⟩
  have hL1 : W1.heap[w.heap.size + 1]? = some (.loop (rec .ready none)) := by
    rw [← hW1]; have := World.alloc_heap_new (w.alloc (.deferred (some []))) (.loop (rec .ready none)); rwa [World.size_alloc] at this
  have hK1 : W1.heap[w.heap.size]? = some (.deferred (some [])) := by
    rw [← hW1]; exact (Below.heap_alloc _ _ _ (by simp)).trans (World.alloc_heap_new w _)
  have hb1 : Below w.heap.size w W1 := by rw [← hW1]; exact ((Below.refl _ w).alloc (Nat.le_refl _) _).alloc (by simp) _
  have hI1 : I 0 W1 := hI _ _ _ h0 (hb1.mono hn1) (keepsK.below hb1)
  have hz1 : W1.heap.size = w.heap.size + 2 := by rw [← hW1]; simp
  have hput : ∀ {k : Nat} {W : World} {o : Obj} {l : Nat} (o' : Obj), I k W → w.heap.size ≤ l → W.heap[l]? = some o → o.isCells = false → I k (W.putObj l o') := fun o' hi hl ho hc =>
    hI _ _ _ hi (below_putK2 (Nat.le_trans hn1 hl) o') (keepsK.put ho (by simp [hc]) o')
  refine ⟨w.heap.size + 1, [{ target := .collected w.heap.size, args := #[] }], W1, { target := .fn (.func gf) lb, args := #[.func (.yield (w.heap.size + 1)) #[] #[]] }, W1, gf,
    #[.func (.yield (w.heap.size + 1)) #[] #[]] ++ lb, W1, ?_, ?_, ?_, ?_, fun _ => h1, ?_⟩
  · rw [← hW1, hrec]; exact run_enterLoop_outer _ _ _ _ _
  · simp only [resolve, hg]
    simp [go_sem]
  · intro f' hf'; trivial
  · simp [invoke, go_sem, eg]
  · refine (hseq (w.heap.size + 1)
      (fun k W => I k W ∧ W.heap[w.heap.size + 1]? = some (.loop (rec .ready none)) ∧ W.heap[w.heap.size]? = some (.deferred (some [])) ∧ w.heap.size ≤ W.heap.size)
      W1 hb1 ?_ ?_ ⟨hI1, hL1, hK1, by omega⟩).mono ?_
    · rintro k A B ⟨hi, hl, hk, hz⟩ hb hkp
      refine ⟨hI _ _ _ hi hb (hkp.mono (fun k o ho => by simp at ho; exact ho.1)), hkp _ _ hl (hp _ _ rfl), hkp _ _ hk (hp _ _ rfl), Nat.le_trans hz hb.size⟩
    · rintro k W hkN ⟨hi, hl, hk, hz⟩
      have hlt : w.heap.size + 1 < W.heap.size := (Array.getElem?_eq_some_iff.1 hl).1
      have hy := run_yield (P := P) (args := #[.agg (cs k)]) hl (by rw [hrec]; rfl)
      rw [hrec] at hy
      refine ⟨fn, _, assign, body, hy, roundIn_of_wpIn hfn ?_⟩
      clear hy
      rw [zip1_fold]
      refine hassign _ k W _ hi hz ?_
      have hba : Below W.heap.size W (W.alloc (.cells (cs k) T)) := (Below.refl _ W).alloc (Nat.le_refl _) _
      have hia : I k (W.alloc (.cells (cs k) T)) := hI _ _ _ hi (hba.mono (Nat.le_trans hn1 hz)) (keepsK.below hba)
      have hla := (hba.block _ hlt).trans hl
      have hka := (hba.block _ (by omega)).trans hk
      have hxa : BoxN (W.alloc (.cells (cs k) T)) W.heap.size T (cs k) := BoxN.new W T (cs k)
      have hza : w.heap.size ≤ (W.alloc (.cells (cs k) T)).heap.size := Nat.le_trans hz hba.size
      generalize W.alloc (.cells (cs k) T) = Wa at *
      refine ⟨_, run_beginRound hla (by rw [hrec]), ?_⟩
      obtain ⟨Wb, hWb⟩ : ∃ Wb, Wa.putObj (w.heap.size + 1) (.loop { rec .ready none with state := .busy }) = Wb := ⟨_, rfl⟩
      have hbb : Below n0 Wa Wb := by rw [← hWb]; exact below_putK2 (by omega) _
      have hqb : keepsK q Wa Wb := by rw [← hWb]; exact keepsK.put hla (hq _ _ rfl) _
      have hlb : Wb.heap[w.heap.size + 1]? = some (.loop { rec .ready none with state := .busy }) := by
        rw [← hWb]; exact World.putObj_heap_same (Array.getElem?_eq_some_iff.1 hla).1
      have hkb : Wb.heap[w.heap.size]? = some (.deferred (some [])) := by rw [← hWb]; exact (World.putObj_heap_other (by omega)).trans hka
      have hib : I k Wb := by rw [← hWb]; exact hput _ hia (by omega) hla rfl
      have hxb : BoxN Wb W.heap.size T (cs k) := by
        rw [← hWb]; unfold BoxN; rw [World.putObj_heap_other (by omega)]; exact hxa
      have hzb : w.heap.size ≤ Wb.heap.size := by rw [← hWb]; simpa using hza
      rw [hWb]
      refine wpIn_mono (hbody _ k W.heap.size Wb hib hzb hz hxb hkN) ?_
      rintro e a3 W3 hpost
      cases e with
      | normal =>
        obtain ⟨hk3, ⟨hb3, hq3⟩, hi3⟩ := hpost
        have hl3 := hk3.same _ _ (by omega) hlb rfl
        have hd3 := hk3.same _ _ (Nat.le_refl _) hkb rfl
        have hr := run_endRound (P := P) none hl3
        rw [hrec] at hr hl3 ⊢
        have hz3 : w.heap.size ≤ W3.heap.size := by have := (Array.getElem?_eq_some_iff.1 hl3).1; omega
        refine ⟨_, _, hr, rfl, ⟨hput _ hi3 (by omega) hl3 rfl, World.putObj_heap_same (Array.getElem?_eq_some_iff.1 hl3).1, (World.putObj_heap_other (by omega)).trans hd3, by simpa using hz3⟩, ?_, ?_⟩
        · exact (((hba.mono (by omega)).trans hbb).trans hb3).trans (below_putK2 (by omega) _)
        · exact (((keepsK.below hba).trans hqb).trans hq3).trans (keepsK.put hl3 (hq _ _ rfl) _)
      | ret => exact hpost.2.elim
      | exit id => exact hpost.2.elim
      | goto t => exact hpost.2.elim
      | panic ch => exact hpost.elim
      | outgrown => exact hpost.elim
    · rintro e W2 ⟨⟨v, rfl⟩, ⟨hi, hl, hk, hz⟩, hZ2⟩
      exact ⟨none, _, by have := run_endLoop (P := P) hl (by rw [hrec]; simp); rw [hrec] at this; exact this, hdone _ _ (Nat.le_refl _) (hput _ hi (by omega) hl rfl) (hZ _ _ _ _ hZ2 hl rfl) ((World.putObj_heap_other (by omega)).trans hk)⟩
end
end Go.Proofs.YtcjlbpndgjapiaaDoor
