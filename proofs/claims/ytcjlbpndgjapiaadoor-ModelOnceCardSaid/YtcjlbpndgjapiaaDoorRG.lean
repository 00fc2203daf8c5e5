/- A range over a function whose iterator keeps variables of its own (cells of types that its caller's invariant does not speak of): the iterator's contract and the loop's law. Plain; no program is named. -/
import Derived.Test.YtcjlbpndgjapiaaDoorX
import Derived.Deep.MidRow
import Derived.TacticsIn
import Derived.OwnWalkIn
namespace Go.Proofs.YtcjlbpndgjapiaaDoor
set_option linter.unusedSimpArgs false
set_option linter.unusedVariables false
open Go.RowKit

/-- whatever object of kind p lay there lies there still -/
def keepsP (p : Obj → Bool) (W W' : World) : Prop := ∀ (k : Nat) (o : Obj), W.heap[k]? = some o → p o = true → W'.heap[k]? = some o
theorem keepsP.refl (p : Obj → Bool) (W : World) : keepsP p W W := fun _ _ h _ => h
theorem keepsP.trans {p : Obj → Bool} {A B C : World} (h : keepsP p A B) (h2 : keepsP p B C) : keepsP p A C := fun k o ho hp => h2 k o (h k o ho hp) hp
theorem keepsP.mono {p q : Obj → Bool} {A B : World} (h : keepsP p A B) (hq : ∀ o, q o = true → p o = true) : keepsP q A B := fun k o ho hp => h k o ho (hq o hp)
theorem keepsP.below {p : Obj → Bool} {W W' : World} (h : Below W.heap.size W W') : keepsP p W W' := fun k o ho _ => (h.block k (Array.getElem?_eq_some_iff.1 ho).1).trans ho
theorem keepsP.set {p : Obj → Bool} {W : World} {b : Nat} {o : Obj} (hb : W.heap[b]? = some o) (hp : p o = false) (a : Addr) (ha : a.block = b) (v : Value) : keepsP p W (W.setCell a v) := fun k o' ho' hp' => by
  have hne : k ≠ a.block := by
    rintro rfl
    rw [ha, hb] at ho'; cases ho'; rw [hp] at hp'; cases hp'
  exact (Below.heap_setCell W a v k hne).trans ho'
theorem keepsP.put {p : Obj → Bool} {W : World} {l : Nat} {o : Obj} (hl : W.heap[l]? = some o) (hp : p o = false) (o' : Obj) : keepsP p W (W.putObj l o') := fun k ok hk hpk => by
  have hne : k ≠ l := by
    rintro rfl
    rw [hl] at hk; cases hk; rw [hp] at hpk; cases hpk
  exact (World.putObj_heap_other hne).trans hk
theorem keepsP.grown {p : Obj → Bool} {W W' : World} {row : Option Nat} (hg : W.grownBy W' row) (hr : ∀ r, row = some r → ∀ o, W.heap[r]? = some o → p o = false) : keepsP p W W' := fun k o ho hp => by
  have hne : some k ≠ row := fun e => by have := hr k e.symm o ho; rw [this] at hp; cases hp
  exact (hg.block k (Array.getElem?_eq_some_iff.1 ho).1 hne).trans ho
theorem below_putK {n : Nat} {W : World} {l : Nat} (hn : n ≤ l) (o' : Obj) : Below n W (W.putObj l o') :=
  ⟨rfl, rfl, rfl, by simp, fun k hk => World.putObj_heap_other (by omega)⟩

theorem wpListIn_load_mid {F : Fence} {n : Nat} {P : Program} {ops : Array Oper} {rest : List Oper} {op : Oper} {a : Act} {w : World} {Q : Exit → Act → World → Prop} (hgd : op.guard = none) (ty : TypeId) (x : Operand) (ho : op.op = .load ty x)
    (b o : Nat) (hx : a.eval x = .pointer (some ⟨b, o, none⟩)) (cs : List Value) (d : TypeDesc) (hc : w.rangeAt b o cs)
    (hu : P.underlying ty = some d) (hd : d.isRow = true) (hi : (P.info? ty).map (·.size) = some cs.length)
    (h : wpListIn F n P ops Q rest (a.put op.dst (.agg cs.toArray)) w) : wpListIn F n P ops Q (op :: rest) a w := by
  refine wpListIn_plain hgd fun K hK => ?_
  unfold Oper.wpIn
  refine ⟨by simp [Oper.about, ho], ?_⟩
  rw [Oper.semAt_plain F _ _ (by rw [ho]; intro c hc'; cases hc')]
  unfold execOp
  simp only [ho, hx, Instr.loadAt, Instr.sureAddr, Sem.run_bind, Sem.run_pure, Result.andThen_ok, run_loadVar_mid w b o ty cs d hc hu hd hi]
  exact hK _ _ h

/-- The contract of an iterator that hands over the N elements enc 0, enc 1, ..; every round says 'go on'. It touches no object of kind p of those that lay there when it turned (J abides that); a round keeps what lay below n0 and every object of kind q. -/
def SeqW (n : Nat) (P : Program) (g : Nat) (lb : Array Value) (enc : Nat → Array Value) (p q : Obj → Bool) (n0 N : Nat) (w : World) : Prop :=
  ∀ (l : Nat) (J : Nat → World → Prop) (W : World), Below w.heap.size w W → (∀ k A B, J k A → Below W.heap.size A B → keepsP p A B → J k B) →
    (∀ k W1, k < N → J k W1 → YieldAt Fence.wide (n - 1) P l (enc k) W1 fun e W' => e = .returned (.bool true) ∧ J (k + 1) W' ∧ Below n0 W1 W' ∧ keepsP q W1 W') →
    J 0 W → CallsIn Fence.wide n P g (#[.func (.yield l) #[] #[]] ++ lb) W fun e W' => (∃ v, e = .returned v) ∧ J N W'

/-- what a round's body ends in -/
abbrev postW (B : Nat) (n0 : Nat) (q : Obj → Bool) (I : Nat → World → Prop) (k : Nat) (W : World) : Exit → Act → World → Prop :=
  ownPostG (α := Unit) B (fun A B => Below n0 A B ∧ keepsP q A B) (fun _ => I (k + 1)) (fun _ _ _ => False) [] W

section
variable {P : Program} {n : Nat}
theorem range_ownW {g : Operand} {p1 p2 : Tmp} {assign body : Code} {Q : Exit → Act → World → Prop} {a : Act} {w : World} {gf : Nat} {lb : Array Value} (n : Nat) (T : TypeId) (asg : Array Value → Nat → Nat → Array Value) (h1 : 1 ≤ n)
    (hg : a.eval g = .func (.func gf) #[] lb) (eg : ∀ args w, (callFunc gf args).run P w = .ok (.enter gf args) w)
    {e1 : Nat → Value} {cs : Nat → Array Value} {p q : Obj → Bool} {n0 N : Nat} (hp : ∀ o, o.isCells = false → p o = true) (hq : ∀ o, o.isCells = false → q o = false) (hn0 : n0 ≤ w.heap.size)
    (hseq : SeqW (n - 1) P gf lb (fun k => #[e1 k, .agg (cs k)]) p q n0 N w)
    (I : Nat → World → Prop) (hI : ∀ k A B, I k A → Below w.heap.size A B → keepsP (fun o => p o && o.isCells) A B → I k B) (h0 : I 0 w)
    (hassign : ∀ (l k : Nat) (W : World) (K : Act → World → Prop), I k W → w.heap.size ≤ W.heap.size →
      K { tmps := asg a.tmps k W.heap.size, defers := [] } (W.alloc (.cells (cs k) T)) →
      assign.wpIn (Fence.wide.inRound l) (n - 1 - 1) P (Exit.then K (fun _ _ _ => False)) { tmps := (a.tmps.setIfInBounds p1 (e1 k)).setIfInBounds p2 (.agg (cs k)), defers := [] } W)
    (hbody : ∀ (l k Bx : Nat) (W : World), I k W → w.heap.size ≤ W.heap.size → w.heap.size ≤ Bx → BoxN W Bx T (cs k) → k < N →
      body.wpIn (Fence.wide.inRound l) (n - 1 - 1) P (postW w.heap.size n0 q I k W) { tmps := asg a.tmps k Bx, defers := [] } W)
    (hdone : ∀ (D : Nat) (W : World), w.heap.size ≤ D → I N W → W.heap[D]? = some (.deferred (some [])) → Q .normal { a with defers := { target := .collected D, args := #[] } :: a.defers } W) :
    (Code.rangeFunc g #[p1, p2] assign body).wp P Q a w := by
  refine (wpIn_wide (n := n)).1 ?_
  refine wpIn_rangeFunc ?_
  intro fn hfn
  have hro : Fence.wide.round = none := rfl
  rw [hro]
  obtain ⟨rec, hrec⟩ : ∃ rec : LoopState → Option Code → Loop, rec = fun st pe => { state := st, pending := pe, fn, tmps := a.tmps, params := #[p1, p2], assign, body, defers := w.heap.size } := ⟨_, rfl⟩
  obtain ⟨W1, hW1⟩ : ∃ W1, (w.alloc (.deferred (some []))).alloc (.loop (rec .ready none)) = W1 := ⟨_, rfl⟩
  have hL1 : W1.heap[w.heap.size + 1]? = some (.loop (rec .ready none)) := by
    rw [← hW1]; have := World.alloc_heap_new (w.alloc (.deferred (some []))) (.loop (rec .ready none)); rwa [World.size_alloc] at this
  have hK1 : W1.heap[w.heap.size]? = some (.deferred (some [])) := by
    rw [← hW1]; exact (Below.heap_alloc _ _ _ (by simp)).trans (World.alloc_heap_new w _)
  have hb1 : Below w.heap.size w W1 := by rw [← hW1]; exact ((Below.refl _ w).alloc (Nat.le_refl _) _).alloc (by simp) _
  have hI1 : I 0 W1 := hI _ _ _ h0 hb1 (keepsP.below hb1)
  have hz1 : W1.heap.size = w.heap.size + 2 := by rw [← hW1]; simp
  have hput : ∀ {k : Nat} {W : World} {o : Obj} {l : Nat} (o' : Obj), I k W → w.heap.size ≤ l → W.heap[l]? = some o → o.isCells = false → I k (W.putObj l o') := fun o' hi hl ho hc =>
    hI _ _ _ hi (below_putK hl o') (keepsP.put ho (by simp [hc]) o')
  refine ⟨w.heap.size + 1, [{ target := .collected w.heap.size, args := #[] }], W1, { target := .fn (.func gf) lb, args := #[.func (.yield (w.heap.size + 1)) #[] #[]] }, W1, gf,
    #[.func (.yield (w.heap.size + 1)) #[] #[]] ++ lb, W1, ?_, ?_, ?_, ?_, fun _ => h1, ?_⟩
  · rw [← hW1, hrec]; exact run_enterLoop_outer _ _ _ _ _
  · simp only [resolve, hg]
    simp [go_sem]
  · intro f' hf'; trivial
  · simp [invoke, go_sem, eg]
  · refine (hseq (w.heap.size + 1)
      (fun k W => I k W ∧ W.heap[w.heap.size + 1]? = some (.loop (rec .ready none)) ∧ W.heap[w.heap.size]? = some (.deferred (some [])) ∧ w.heap.size ≤ W.heap.size)
      W1 hb1 ?_ ?_ ⟨hI1, hL1, hK1, by omega⟩).mono ?_
    · rintro k A B ⟨hi, hl, hk, hz⟩ hb hkp
      refine ⟨hI _ _ _ hi (hb.mono (by omega)) (hkp.mono (fun o ho => by simp at ho; exact ho.1)), hkp _ _ hl (hp _ rfl), hkp _ _ hk (hp _ rfl), Nat.le_trans hz hb.size⟩
    · rintro k W hkN ⟨hi, hl, hk, hz⟩
      have hlt : w.heap.size + 1 < W.heap.size := (Array.getElem?_eq_some_iff.1 hl).1
      have hy := run_yield (P := P) (args := #[e1 k, .agg (cs k)]) hl (by rw [hrec]; rfl)
      rw [hrec] at hy
      refine ⟨fn, _, assign, body, hy, roundIn_of_wpIn hfn ?_⟩
      clear hy
      rw [zip2_fold]
      refine hassign _ k W _ hi hz ?_
      have hba : Below W.heap.size W (W.alloc (.cells (cs k) T)) := (Below.refl _ W).alloc (Nat.le_refl _) _
      have hia : I k (W.alloc (.cells (cs k) T)) := hI _ _ _ hi (hba.mono hz) (keepsP.below hba)
      have hla := (hba.block _ hlt).trans hl
      have hka := (hba.block _ (by omega)).trans hk
      have hxa : BoxN (W.alloc (.cells (cs k) T)) W.heap.size T (cs k) := BoxN.new W T (cs k)
      have hza : w.heap.size ≤ (W.alloc (.cells (cs k) T)).heap.size := Nat.le_trans hz hba.size
      generalize W.alloc (.cells (cs k) T) = Wa at *
      refine ⟨_, run_beginRound hla (by rw [hrec]), ?_⟩
      obtain ⟨Wb, hWb⟩ : ∃ Wb, Wa.putObj (w.heap.size + 1) (.loop { rec .ready none with state := .busy }) = Wb := ⟨_, rfl⟩
      have hbb : Below n0 Wa Wb := by rw [← hWb]; exact below_putK (by omega) _
      have hqb : keepsP q Wa Wb := by rw [← hWb]; exact keepsP.put hla (hq _ rfl) _
      have hlb : Wb.heap[w.heap.size + 1]? = some (.loop { rec .ready none with state := .busy }) := by
        rw [← hWb]; exact World.putObj_heap_same (Array.getElem?_eq_some_iff.1 hla).1
      have hkb : Wb.heap[w.heap.size]? = some (.deferred (some [])) := by rw [← hWb]; exact (World.putObj_heap_other (by omega)).trans hka
      have hib : I k Wb := by rw [← hWb]; exact hput _ hia (by omega) hla rfl
      have hxb : BoxN Wb W.heap.size T (cs k) := by
        rw [← hWb]; unfold BoxN; rw [World.putObj_heap_other (by omega)]; exact hxa
      have hzb : w.heap.size ≤ Wb.heap.size := by rw [← hWb]; simpa using hza
      rw [hWb]
      refine wpIn_mono (hbody _ k W.heap.size Wb hib hzb hz hxb hkN) ?_
      rintro e a3 W3 hpost
      cases e with
      | normal =>
        obtain ⟨hk3, ⟨hb3, hq3⟩, hi3⟩ := hpost
        have hl3 := hk3.same _ _ (by omega) hlb rfl
        have hd3 := hk3.same _ _ (Nat.le_refl _) hkb rfl
        have hr := run_endRound (P := P) none hl3
        rw [hrec] at hr hl3 ⊢
        have hz3 : w.heap.size ≤ W3.heap.size := by have := (Array.getElem?_eq_some_iff.1 hl3).1; omega
        refine ⟨_, _, hr, rfl, ⟨hput _ hi3 (by omega) hl3 rfl, World.putObj_heap_same (Array.getElem?_eq_some_iff.1 hl3).1, (World.putObj_heap_other (by omega)).trans hd3, by simpa using hz3⟩, ?_, ?_⟩
        · exact (((hba.mono (by omega)).trans hbb).trans hb3).trans (below_putK (by omega) _)
        · exact (((keepsP.below hba).trans hqb).trans hq3).trans (keepsP.put hl3 (hq _ rfl) _)
      | ret => exact hpost.2.elim
      | exit id => exact hpost.2.elim
      | goto t => exact hpost.2.elim
      | panic ch => exact hpost.elim
      | outgrown => exact hpost.elim
    · rintro e W2 ⟨⟨v, rfl⟩, hi, hl, hk, hz⟩
      exact ⟨none, _, by have := run_endLoop (P := P) hl (by rw [hrec]; simp); rw [hrec] at this; exact this, hdone _ _ (Nat.le_refl _) (hput _ hi (by omega) hl rfl) ((World.putObj_heap_other (by omega)).trans hk)⟩
end
end Go.Proofs.YtcjlbpndgjapiaaDoor
