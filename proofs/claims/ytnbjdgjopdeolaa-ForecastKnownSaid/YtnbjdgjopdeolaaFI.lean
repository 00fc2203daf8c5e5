

/- Forecast: the iterator over the levels. -/
import Derived.Test.YtnbjdgjopdeolaaFV
import Derived.Test.YtnbjdgjopdeolaaSC
import Derived.Test.YtnbjdgjopdeolaaRG
import Derived.Test.YtnbjdgjopdeolaaJ
namespace Go.Proofs.Ytnbjdgjopdeolaa
open Go.RowKit Go.Shelf
set_option linter.unusedSimpArgs false
set_option linter.unusedVariables false
set_option maxRecDepth 100000
attribute [local go_sem] Oper.semAt_some

theorem ld_mid {P : Program} {o : Oper} {a : Act} {w : World} (ty : TypeId) (x : Operand) (ho : o.op = .load ty x) (b off : Nat) (hx : a.eval x = .pointer (some ⟨b, off, none⟩)) (cs : List Value) (d : TypeDesc) (hc : w.rangeAt b off cs)
    (hu : P.underlying ty = some d) (hd : d.isRow = true) (hi : (P.info? ty).map (·.size) = some cs.length) : (execOp a.eval o).run P w = .ok (.value (.agg cs.toArray)) w := by
  unfold execOp
  simp only [ho, hx, Instr.loadAt, Instr.sureAddr, Sem.run_bind, Sem.run_pure, Result.andThen_ok, run_loadVar_mid w b off ty cs d hc hu hd hi]
/-- not a box of what is stored and reserved -/
def pF (o : Obj) : Bool := match o with | .cells _ t _ => t != 117 | _ => true
/-- cells that are no level and no list of levels -/
def qL (o : Obj) : Bool := match o with | .cells _ t _ => t != 57 && t != 45 | _ => false
theorem pF_fill (cs : Array Value) (f : Nat × Nat) : pF (.cells cs 117 f) = false := rfl

/-- what the iterator does to the world since W -/
def St (W A B : World) : Prop := Below W.heap.size A B ∧ keepsP pF A B
theorem St.refl (W A : World) : St W A A := ⟨Below.refl _ _, keepsP.refl _ _⟩
theorem St.trans {W A B C : World} (h : St W A B) (h2 : St W B C) : St W A C := ⟨h.1.trans h2.1, h.2.trans h2.2⟩
theorem St.next {W A B C : World} (h : St W A B) (hz : W.heap.size ≤ B.heap.size) (hb : Below B.heap.size B C) : St W A C := ⟨h.1.trans (hb.mono hz), h.2.trans (keepsP.below hb)⟩
theorem St.set {W A B : World} {b : Nat} {st : Int} {rs : List Int} (h : St W A B) (hx : FX B b st rs) (hb : W.heap.size ≤ b) (o : Nat) (u : Value) : St W A (B.setCell ⟨b, o, none⟩ u) :=
  ⟨h.1.setCell hb u, h.2.trans (keepsP.set hx.2 (pF_fill _ _) _ rfl u)⟩
theorem St.sets {W A : World} {b : Nat} (hb : W.heap.size ≤ b) : ∀ (vs : List Value) (o : Nat) (B : World), (∃ cs, B.heap[b]? = some (.cells cs 117 (0, 0))) → St W A B → St W A (B.setCells b o vs)
  | [], _, _, _, h => h
  | v :: vs, o, B, ⟨cs, hx⟩, h => St.sets hb vs (o + 1) _ ⟨cs.setIfInBounds o v, by simp [World.setCell, Array.getElem?_modify, hx]⟩ ⟨h.1.setCell hb v, h.2.trans (keepsP.set hx (pF_fill _ _) _ rfl v)⟩
theorem St.size {W A B : World} (h : St W A B) : A.heap.size ≤ B.heap.size := h.1.size

/-- the boxes that the iterator reads -/
def BX (w : World) (B : Nat) (c : Cf) (q st : Int) (rs v : Value) (now un : Int) : Prop :=
  w.heap[B]? = some (.cells #[.int .i64 c.nd, .int .u64 c.qo, .int .u64 c.la, .int .u64 c.wd, .int .u64 c.lo, .int .i64 c.re, .int .i64 c.rm, .int .i64 c.by', .int .i64 c.w0, .int .i64 c.w1, .int .i64 c.w2, .int .i64 c.rn, .int .i64 c.rd, .int .i64 c.bu, .int .i64 c.bl, .int .i64 c.ra] 35 (0, 0)) ∧
  w.heap[B + 1]? = some (.cells #[.int .u64 q, .int .u64 st, rs] 38 (0, 0)) ∧ w.heap[B + 2]? = some (.cells #[v] 39 (0, 0)) ∧
  w.heap[B + 3]? = some (.cells #[.int .i64 now] 3 (0, 0)) ∧ w.heap[B + 4]? = some (.cells #[.int .i64 un] 3 (0, 0))
theorem BX.keepP {W w1 : World} {B : Nat} {c : Cf} {q st : Int} {rs v : Value} {now un : Int} {p : Obj → Bool} (h : BX W B c q st rs v now un) (hk : keepsP p W w1)
    (hp : ∀ cs t, t = 35 ∨ t = 38 ∨ t = 39 ∨ t = 3 → p (.cells cs t (0, 0)) = true) : BX w1 B c q st rs v now un :=
  ⟨hk _ _ h.1 (hp _ _ (.inl rfl)), hk _ _ h.2.1 (hp _ _ (.inr (.inl rfl))), hk _ _ h.2.2.1 (hp _ _ (.inr (.inr (.inl rfl)))), hk _ _ h.2.2.2.1 (hp _ _ (.inr (.inr (.inr rfl)))), hk _ _ h.2.2.2.2 (hp _ _ (.inr (.inr (.inr rfl))))⟩
theorem BX.st {W A w1 : World} {B : Nat} {c : Cf} {q st : Int} {rs v : Value} {now un : Int} (h : BX A B c q st rs v now un) (hk : St W A w1) : BX w1 B c q st rs v now un :=
  h.keepP hk.2 (by rintro cs t (rfl | rfl | rfl | rfl) <;> rfl)
theorem BX.round {A w1 : World} {B : Nat} {c : Cf} {q st : Int} {rs v : Value} {now un : Int} (h : BX A B c q st rs v now un) (hk : keepsP qL A w1) : BX w1 B c q st rs v now un :=
  h.keepP hk (by rintro cs t (rfl | rfl | rfl | rfl) <;> rfl)
theorem BX.below {A w1 : World} {B : Nat} {c : Cf} {q st : Int} {rs v : Value} {now un : Int} (h : BX A B c q st rs v now un) (hk : Below A.heap.size A w1) : BX w1 B c q st rs v now un :=
  h.keepP (p := fun _ => true) (keepsP.below hk) (by intros; rfl)
/-- the cells of the boxes -/
theorem BX.cells {w : World} {B : Nat} {c : Cf} {q st : Int} {rs v : Value} {now un : Int} (h : BX w B c q st rs v now un) :
    w.cell? ⟨B, 0, none⟩ = some (.int .i64 c.nd) ∧ w.cell? ⟨B, 3, none⟩ = some (.int .u64 c.wd) ∧ w.cell? ⟨B + 1, 1, none⟩ = some (.int .u64 st) ∧ w.cell? ⟨B + 1, 2, none⟩ = some rs ∧ w.cell? ⟨B + 2, 0, none⟩ = some v ∧
      w.cell? ⟨B + 3, 0, none⟩ = some (.int .i64 now) ∧ w.cell? ⟨B + 4, 0, none⟩ = some (.int .i64 un) := by
  obtain ⟨h1, h2, h3, h4, h5⟩ := h
  simp [World.cell?, h1, h2, h3, h4, h5]
theorem FX.round {A w1 : World} {b : Nat} {st : Int} {rs : List Int} (h : FX A b st rs) (hk : keepsP qL A w1) : FX w1 b st rs := ⟨h.1, hk _ _ h.2 rfl⟩
theorem fold_fill (st : Int) (rs : List Int) (hl : rs.length = 16) :
    List.foldl (fun cs x => cs.setIfInBounds (1 + x.snd) x.fst) #[Value.int .u64 st, .int .u64 0, .int .u64 0, .int .u64 0, .int .u64 0, .int .u64 0, .int .u64 0, .int .u64 0, .int .u64 0, .int .u64 0, .int .u64 0, .int .u64 0, .int .u64 0, .int .u64 0, .int .u64 0, .int .u64 0, .int .u64 0]
      (ic .u64 rs).zipIdx = (fcs st rs).toArray := by
  match rs, hl with
  | [a0, a1, a2, a3, a4, a5, a6, a7, a8, a9, a10, a11, a12, a13, a14, a15], _ => simp [ic, fcs]

def z16 : List Int := [0, 0, 0, 0, 0, 0, 0, 0, 0, 0, 0, 0, 0, 0, 0, 0]
theorem FX.zero (w : World) : FX (w.alloc (.cells #[.int .u64 0, .int .u64 0, .int .u64 0, .int .u64 0, .int .u64 0, .int .u64 0, .int .u64 0, .int .u64 0, .int .u64 0, .int .u64 0, .int .u64 0, .int .u64 0, .int .u64 0, .int .u64 0, .int .u64 0, .int .u64 0, .int .u64 0] 117 (0, 0))) w.heap.size 0 z16 := ⟨rfl, heap_last w _⟩
theorem info17 (st : Int) {rs : List Int} (h : rs.length = 16) : (Try.prog.info? 117).map (·.size) = some (fcs st rs).toArray.size := by
  rw [List.size_toArray, fcs_len st h]; kernel_rfl
theorem there17 {w : World} {b : Nat} {s2 st : Int} {rs rs2 : List Int} (h : FX w b s2 rs2) (hl : rs.length = 16) : w.there b 0 (fcs st rs).toArray.size := by
  rw [List.size_toArray, fcs_len st hl]; exact h.there
theorem FX.others {w : World} {b : Nat} {st : Int} {rs : List Int} (h : FX w b st rs) {b2 : Nat} (hne : b ≠ b2) (o : Nat) (vs : List Value) : FX (w.setCells b2 o vs) b st rs := ⟨h.1, by rw [setCells_other b2 b hne]; exact h.2⟩
theorem St.below {W A B : World} (h : St W A B) {n : Nat} (hn : n ≤ W.heap.size) : Below n A B := h.1.mono hn
theorem c6_al {w : World} {x : Nat} {c : Ct} {a1 a2 a3 a4 a5 a6 : Value} : True := trivial
set_option maxHeartbeats 2000000 in
theorem levels1_in (c : Cf) (cs : List Ct) (q st : Int) (rs : Value) (xs : List Int) (a0 : Option Addr) (N n0 : Nat) (now : Int) (M n B l : Nat) (w0 : World)
    (hcs : planChk cs = (0, 0)) (hN : cs.length = N) (h : RdC w0 (.slice a0 N n0) cs) (hx : RdI .u64 w0 rs xs) (hx16 : Rb xs) (hst : 0 ≤ st ∧ st ≤ 1099511627776) (hwd : c.wd ≤ 1099511627776) (hnow : 0 ≤ now) (hun : now + M ≤ 1099511627776) (hM : M ≤ 1000)
    (J : Nat → World → Prop) (W : World) (hW : Below w0.heap.size w0 W) (hBX : BX W B c q st rs (.slice a0 N n0) now (now + M))
    (hJ : ∀ k A B, J k A → Below W.heap.size A B → keepsP pF A B → J k B)
    (hY : ∀ k W1, k < M → J k W1 → YieldAt Fence.wide (n - 1) Try.prog l #[.int .i64 (now + k), .agg (lvl c cs st xs now k).cells.toArray] W1 fun e W' => e = .returned (.bool true) ∧ J (k + 1) W' ∧ Below w0.heap.size W1 W' ∧ keepsP qL W1 W')
    (h0 : J 0 W) :
    CallsIn Fence.wide n Try.prog 96 #[.func (.yield l) #[] #[], .pointer (some ⟨B + 1, 0, none⟩), .pointer (some ⟨B + 3, 0, none⟩), .pointer (some ⟨B + 4, 0, none⟩), .pointer (some ⟨B + 2, 0, none⟩), .pointer (some ⟨B, 0, none⟩)] W fun e W' => (∃ v, e = .returned v) ∧ J M W' := by
  have hx2 := hx.keep hW
  have hl16 := hx16.1
  obtain ⟨b, off, cap, rfl, hrd⟩ := rd_cells hx2 hl16
  have HR0 : Hid (World.rangeAt W b off (ic .u64 xs)) := fun j u hj => by
    have hjl : j < 16 := by have := (List.getElem?_eq_some_iff.1 hj).1; simp [hl16] at this; exact this
    rw [ic_get .u64 xs j (by omega)] at hj
    cases hj
    exact hrd j hjl
  have HI : Hid ((Try.prog.info? 115).map (·.size) = some (ic .u64 xs).length) := by unfold Hid; rw [ic_length, hl16]; kernel_rfl
  have HZ : Hid (∀ j, j < cs.length → stepE cs j = 0) := (ok_of_planChk hcs).2
  have HPL := Lib.hid hcs
  have HR := Lib.hid h
  have HN := Lib.hid hN
  have H16 := Lib.hid hl16
  have HBX := Lib.hid hBX
  have HX16 := Lib.hid hx16
  have hN200 : N ≤ 200 := by rw [← hN]; exact (ok_of_planChk hcs).1
  have HJ := Lib.hid hJ
  have HY := Lib.hid hY
  clear hx hx2 hl16 hrd hcs h hN hBX hJ hY hx16
  refine callsIn_of_wp Try.func96 rfl trivial ?_ rfl
  refine wpIn_wide.2 ?_
  simp only [Try.ntmps96, List.size_toArray, List.length_cons, List.length_nil, Nat.reduceAdd, Nat.reduceSub, Array.replicate_succ, Array.replicate_zero, List.push_toArray, List.append_toArray, List.nil_append, List.cons_append]
  go_upto_region 0 with fail
  refine wp_region_noPanic ?_
  refine wp_region_held_drew (S := (fun w' => Below W.heap.size W w')) (by kernel_rfl) ((Below.refl _ W).drew) (fun hHeld => ?_)
  refine reg_tk (v := ?_) 0 15 rfl rfl (by kernel_rfl) (by kernel_rfl) (by kernel_rfl) (fun _ _ _ h => h) (by rfl) ?_ (by assumption) ?_
  rotate_left
  · (intro w3 hS; skip; go_simp; (try with_reducible rfl))
  simp only [List.setIfInBounds_toArray, List.set_cons_zero, List.set_cons_succ]
  refine reg_tk (v := ?_) 1 16 rfl rfl (by kernel_rfl) (by kernel_rfl) (by kernel_rfl) (fun _ _ _ h => h) (by rfl) ?_ (by assumption) ?_
  rotate_left
  · (intro w3 hS; (have g := cell_later hS HBX.out.cells.2.2.1); go_simp; (try with_reducible rfl))
  simp only [List.setIfInBounds_toArray, List.set_cons_zero, List.set_cons_succ]
  refine reg_tk (v := ?_) 2 17 rfl rfl (by kernel_rfl) (by kernel_rfl) (by kernel_rfl) (fun _ _ _ h => h) (by rfl) ?_ (by assumption) ?_
  rotate_left
  · (intro w3 hS; skip; go_simp; (try with_reducible rfl))
  simp only [List.setIfInBounds_toArray, List.set_cons_zero, List.set_cons_succ]
  refine reg_tk (v := ?_) 3 18 rfl rfl (by kernel_rfl) (by kernel_rfl) (by kernel_rfl) (fun _ _ _ h => h) (by rfl) ?_ (by assumption) ?_
  rotate_left
  · (intro w3 hS; (have g := cell_later hS HBX.out.cells.2.2.2.1); go_simp; (try with_reducible rfl))
  simp only [List.setIfInBounds_toArray, List.set_cons_zero, List.set_cons_succ]
  refine reg_tk (v := ?_) 4 19 rfl rfl (by kernel_rfl) (by kernel_rfl) (by kernel_rfl) (fun _ _ _ h => h) (by rfl) ?_ (by assumption) ?_
  rotate_left
  · (intro w3 hS; (have harr := run_arrayAt (P := Try.prog) (w := w3) 115 32 16 (some ⟨b, off, none⟩) 16 cap Try.underlying115 (Nat.le_refl _)); go_simp; (try with_reducible rfl))
  simp only [List.setIfInBounds_toArray, List.set_cons_zero, List.set_cons_succ]
  refine reg_tk (v := .agg (ic .u64 xs).toArray) 5 20 rfl rfl (by kernel_rfl) (by kernel_rfl) (by kernel_rfl) (fun _ _ _ h => h) (by rfl) (fun w3 hS => ld_mid 115 _ rfl b off rfl (ic .u64 xs) (.array 16 32) (fun j u hj => cell_later hS (HR0.out j u hj)) Try.underlying115 rfl HI.out) (by assumption) ?_
  simp only [List.setIfInBounds_toArray, List.set_cons_zero, List.set_cons_succ]
  refine reg_tk (v := ?_) 6 21 rfl rfl (by kernel_rfl) (by kernel_rfl) (by kernel_rfl) (fun _ _ _ h => h) (by rfl) ?_ (by assumption) ?_
  rotate_left
  · (intro w3 hS; (have hl16 := H16.out); go_simp; (try with_reducible rfl))
  simp only [List.setIfInBounds_toArray, List.set_cons_zero, List.set_cons_succ]
  refine wpAnyH_ready (rs := [7]) (by kernel_rfl) (by simp) ?_
  refine AllReadyH.cons rfl (fun K hK => ?_) AllReadyH.nil
  go_simp
  refine hK.out _ _ (((Below.refl _ W).drew).alloc (Nat.le_refl _) _) (fun hHeld2 => ?_)
  clear hK K hHeld
  have hHeld := hHeld2
  clear hHeld2
  try simp only [Act.put, List.setIfInBounds_toArray, List.set_cons_zero, List.set_cons_succ]
  obtain ⟨Wa, hWa⟩ : ∃ Wa : World, Wa = (W.alloc (.cells #[.int .u64 0, .int .u64 0, .int .u64 0, .int .u64 0, .int .u64 0, .int .u64 0, .int .u64 0, .int .u64 0, .int .u64 0, .int .u64 0, .int .u64 0, .int .u64 0, .int .u64 0, .int .u64 0, .int .u64 0, .int .u64 0, .int .u64 0] 117)).drew := ⟨_, rfl⟩
  rw [← hWa]
  have hFa : FX Wa W.heap.size 0 z16 := by rw [hWa]; exact FX.zero W
  have hSa : St W W Wa := by
    have hb : Below W.heap.size W Wa := by rw [hWa]; exact ((Below.refl _ W).alloc (Nat.le_refl _) _).drew
    exact ⟨hb, keepsP.below hb⟩
  clear hWa
  rw [fold_fill st xs H16.out]
  refine wpAnyH_ready (rs := [8]) (by kernel_rfl) (by simp) ?_
  refine AllReadyH.cons rfl (fun K hK => ?_) AllReadyH.nil
  refine wp_store_mid 117 (.tmp 7) (.tmp 21) rfl W.heap.size 0 (fcs st xs).toArray rfl rfl (there17 hFa H16.out) (info17 st H16.out) (fcs_one st xs) ?_
  obtain ⟨Wb, hWb⟩ : ∃ Wb : World, Wb = Wa.setCells W.heap.size 0 (fcs st xs).toArray.toList := ⟨_, rfl⟩
  rw [← hWb]
  have hFb : FX Wb W.heap.size st xs := by rw [hWb]; exact hFa.setAll H16.out
  have hSb : St W W Wb := by rw [hWb]; exact St.sets (Nat.le_refl _) _ _ _ ⟨_, hFa.2⟩ hSa
  clear hWb hFa hSa
  refine hK.out _ _ hSb.1 (fun hHeld2 => ?_)
  clear hK K hHeld
  have hHeld := hHeld2
  clear hHeld2
  try simp only [Act.put, List.setIfInBounds_toArray, List.set_cons_zero, List.set_cons_succ]
  refine wpAnyH_done (by kernel_rfl) ?_ _
  refine NoPanic.normal ?_
  clear hHeld
  have hBb := HBX.out.st hSb
  obtain ⟨g0, g3, gs, _, gl, gn, gu⟩ := hBb.cells
  have HBb := Lib.hid hBb
  have HFb := Lib.hid hFb
  have hJb := HJ.out 0 W Wb h0 hSb.1 hSb.2
  have hzb := hSb.size
  clear hBb hFb
  go_wp2_with fail
  go_loopw [8] (fun tk wr => ∃ k : Nat, k ≤ M ∧ tk = .int .i64 (now + k) ∧ J k wr ∧ FX wr W.heap.size (stF c cs st xs now k).1 (stF c cs st xs now k).2 ∧ BX wr B c q st (.slice (some ⟨b, off, none⟩) 16 cap) (.slice a0 N n0) now (now + M) ∧ Below w0.heap.size W wr ∧ W.heap.size ≤ wr.heap.size) (fun tk _ => (now + M - intOf tk).toNat)
  case atStart => exact ⟨0, Nat.zero_le _, by simp, hJb, HFb.out, HBb.out, hSb.1.mono hW.size, hzb⟩
  case round =>
    clear g0 g3 gs gl gn gu hJb hzb HFb HBb hSb h0
    obtain ⟨k, hk, rfl, hJk, hF, hB, hWr, hzr⟩ := hrel
    obtain ⟨g0, g3, gs, _, gl, gn, gu⟩ := hB.cells
    by_cases hlt : k < M
    · have d2 : decide (now + (k : Int) < now + (M : Int)) = true := yb (by omega)
      have hSB := stF_b (q := q) (c := c) (cs := cs) (st := st) (xs := xs) (now := now) HZ.out hwd hst HX16.out k
      have HLV : Hid (lvl c cs st xs now k = ⟨now + k, (stF c cs st xs now k).1, (nxK cs c.nd c.wd (now + k) (stF c cs st xs now k).2 cs.length).sum⟩) := rfl
      have HNX : Hid (stF c cs st xs now (k + 1) = ((mvK cs c.nd (now + k) (stF c cs st xs now k).1 (nxK cs c.nd c.wd (now + k) (stF c cs st xs now k).2 cs.length) cs.length).1 - min (mvK cs c.nd (now + k) (stF c cs st xs now k).1 (nxK cs c.nd c.wd (now + k) (stF c cs st xs now k).2 cs.length) cs.length).1 (outK cs c.nd (now + k) cs.length), (mvK cs c.nd (now + k) (stF c cs st xs now k).1 (nxK cs c.nd c.wd (now + k) (stF c cs st xs now k).2 cs.length) cs.length).2)) := rfl
      obtain ⟨s, r, hsr⟩ : ∃ s r, stF c cs st xs now k = (s, r) := ⟨_, _, rfl⟩
      rw [hsr] at hF hSB HLV HNX
      dsimp only at hF hSB HLV HNX
      clear hsr
      obtain ⟨hr, hs0, hs1⟩ := hSB
      dsimp only at hr hs0 hs1
      have hr16 := hr.1
      have HFA := Lib.hid hF.all
      have HI17 : Hid ((Try.prog.info? 117).map (·.size) = some (fcs s r).length) := by unfold Hid; rw [fcs_len _ hr16]; kernel_rfl
      have HF := Lib.hid hF
      have HB := Lib.hid hB
      have HR16 := Lib.hid hr16
      have HRB := Lib.hid hr
      clear hF hB hr16 hr
      go_upto_region 5 with (first
        | (with_reducible refine wpList_load_mid rfl 117 (.tmp 7) rfl W.heap.size 0 rfl (fcs s r) _ HFA.out Try.underlying117 rfl HI17.out ?_)
        | (with_reducible refine wpList_store_mid rfl 117 (.tmp 9) (.tmp 28) rfl wr.heap.size 0 (fcs s r).toArray rfl rfl (there17 (FX.zero wr) HR16.out) (info17 s HR16.out) (fcs_one s r) ?_))
      simp only [Act.put]
      obtain ⟨Wc, hWc⟩ : ∃ Wc : World, Wc = (wr.alloc (.cells #[.int .u64 0, .int .u64 0, .int .u64 0, .int .u64 0, .int .u64 0, .int .u64 0, .int .u64 0, .int .u64 0, .int .u64 0, .int .u64 0, .int .u64 0, .int .u64 0, .int .u64 0, .int .u64 0, .int .u64 0, .int .u64 0, .int .u64 0] 117)).setCells wr.heap.size 0 (fcs s r) := ⟨_, rfl⟩
      rw [← hWc]
      have hN1 : FX Wc wr.heap.size s r := by rw [hWc]; exact (FX.zero wr).setAll HR16.out
      have hne : W.heap.size ≠ wr.heap.size := by have := HF.out.lt; omega
      have hF1 : FX Wc W.heap.size s r := by rw [hWc]; exact (HF.out.al _).others hne _ _
      have hS1 : St W wr Wc := by
        rw [hWc]
        exact St.sets hzr _ _ _ ⟨_, (FX.zero wr).2⟩ ((St.refl W wr).next hzr ((Below.refl _ wr).alloc (Nat.le_refl _) _))
      clear hWc g0 g3 gs gl gn gu
      obtain ⟨Nb, hNb⟩ : ∃ Nb, Nb = wr.heap.size := ⟨_, rfl⟩
      rw [← hNb] at hN1 hne ⊢
      have hzn : W.heap.size ≤ Nb := by rw [hNb]; exact hzr
      obtain ⟨g0, g3, _, _, gl, gn, gu⟩ := (HB.out.st hS1).cells
      have HN1 := Lib.hid hN1
      have HF1 := Lib.hid hF1
      have HS1 := Lib.hid hS1
      clear hNb hN1 hF1 hS1 gn gu
      go_wp2_with fail
      clear g0 g3 gl
      go_loopw [31] (fun i w2 => ∃ m : Nat, m ≤ N ∧ i = .int .i64 m ∧ FX w2 Nb s (nxK cs c.nd c.wd (now + k) r m) ∧ FX w2 W.heap.size s r ∧ St W wr w2) (fun i _ => N - (intOf i).toNat)
      case atStart => exact ⟨0, Nat.zero_le _, rfl, HN1.out, HF1.out, HS1.out⟩
      case round =>
        clear HN1 HF1 HS1
        obtain ⟨m, hm, rfl, hN2, hF2, hS2⟩ := hrel
        rename World => w2
        by_cases hml : m < N
        · have d3 : decide ((m : Int) < (N : Int)) = true := yb (by omega)
          obtain ⟨b3, off3, rfl, hcap, hca⟩ := HR.out.at HN.out m hml
          have hB2 : Below w0.heap.size w0 w2 := (hW.trans hWr).trans (hS2.below hW.size)
          have hca : CA w2 b3 (off3 + m * 6) (cs.getD m c0) := CA.kp hB2 (cell_lt hca.1) hca
          obtain ⟨hj16, hjf⟩ := ok_ix HZ.out (k := m) (by rw [HN.out]; exact hml)
          have hok := (stepE_ok (HZ.out m (by rw [HN.out]; exact hml))).1
          obtain ⟨cc, HC⟩ : ∃ x, Hid (cs.getD m c0 = x) := ⟨_, rfl⟩
          rw [HC.out] at hca hj16 hjf hok
          have hrt1 := hok.2.2.2.2.2.2.1
          have hrt2 := hok.2.2.2.2.2.2.2.1
          obtain ⟨j, HJX⟩ : ∃ j, Hid (ix cc = j) := ⟨_, rfl⟩
          rw [HJX.out] at hj16 hjf
          obtain ⟨W1, hW1⟩ : ∃ W : World, W = w2.alloc (.cells #[.int .i64 cc.fr, .int .i64 cc.dt, .int .i64 cc.st, .int .i64 cc.en, .int .i64 cc.rt, .int .i64 cc.dl] 23) := ⟨_, rfl⟩
          have hb1 : Below w2.heap.size w2 W1 := by rw [hW1]; exact (Below.refl _ w2).alloc (Nat.le_refl _) _
          have hz2 : W.heap.size ≤ w2.heap.size := Nat.le_trans hzr hS2.size
          have hBC : BC W1 w2.heap.size cc := by rw [hW1]; simp [BC, go_sem]
          have hS3 : St W wr W1 := hS2.next hz2 hb1
          have hi1 : (0 : Int) ≤ (m : Int) := by omega
          have hi2 : (m : Int) < (N : Int) := by omega
          have hwm : IntKind.i64.wrap (m : Int) = (m : Int) := IntWalk.i64_in _ (by omega)
          have hwm1 : IntKind.i64.wrap ((m : Int) + 1) = (m : Int) + 1 := IntWalk.i64_in _ (by omega)
          have hst : nxK cs c.nd c.wd (now + k) r (m + 1) = if into (cs.getD m c0) c.nd (now + k) then (nxK cs c.nd c.wd (now + k) r m).set (ix (cs.getD m c0)) (max ((nxK cs c.nd c.wd (now + k) r m).getD (ix (cs.getD m c0)) 0) c.wd) else nxK cs c.nd c.wd (now + k) r m := rfl
          have hrb := nxK_rb HZ.out (nd := c.nd) (t := now + k) hwd HRB.out m (by rw [HN.out]; exact hm)
          obtain ⟨r2, hr2⟩ : ∃ r2, nxK cs c.nd c.wd (now + k) r m = r2 := ⟨_, rfl⟩
          rw [hr2] at hst hN2 hrb
          rw [HC.out, HJX.out] at hst
          have HST := Lib.hid hst
          have hxv := hrb.2 j hj16
          obtain ⟨x, hx⟩ : ∃ x, r2.getD j 0 = x := ⟨_, rfl⟩
          have HX := Lib.hid hx
          rw [hx] at hxv
          have HN2 := Lib.hid hN2
          have HF2 := Lib.hid hF2
          have HS2 := Lib.hid hS2
          clear hst hr2 hrb hx hN2 hF2 hS2
          go_upto_region 8 with fail
          rw [← hW1]
          obtain ⟨Sx, hSx⟩ : ∃ S : Nat, S = w2.heap.size := ⟨_, rfl⟩
          rw [← hSx] at hBC ⊢
          have hzS : W.heap.size ≤ W1.heap.size := Nat.le_trans hzr hS3.size
          obtain ⟨g0, g3, _, _, gl, gn, gu⟩ := (HB.out.st hS3).cells
          have HCA := Lib.hid hBC
          have HB1 := Lib.hid hb1
          clear hW1 hSx hca hok hb1 gl gn gu
          by_cases h1 : cc.dt = c.nd
          · have f1 : (cc.dt == c.nd) = true := by simp [h1]
            have H1 := Lib.hid h1
            clear h1
            go_wp2_with fail
            refine (active_any cc (now + k) _).mono ?_
            rintro e w3 ⟨rfl, hb⟩
            have hBC := BC.keep hb hBC
            have hb1 := Below.next HB1.out hb
            have hS3 := hS3.next hzS hb
            have hzS : W.heap.size ≤ w3.heap.size := Nat.le_trans hzr hS3.size
            have g0 := cell_later hb g0
            have g3 := cell_later hb g3
            clear hb HB1 HCA
            by_cases hin : into cc c.nd (now + k)
            · rw [yb hin.2]
              go_upto_region 9 with fail
              have hst := HST.out
              rw [if_pos hin, HX.out] at hst
              have HST := Lib.hid hst
              clear hst hin
              have cF : w3.cell? ⟨Sx, 0, none⟩ = some (.int .i64 ((j : Int) + 1)) := by rw [hjf]; exact hBC.1
              clear hjf hBC
              have hNX := HN2.out.keep hb1
              have hw1 : IntKind.i64.wrap ((j : Int) + 1 - 1) = (j : Int) := by rw [show (j : Int) + 1 - 1 = (j : Int) by omega]; exact IntWalk.i64_in _ (by omega)
              have hwj : IntKind.i64.wrap (j : Int) = (j : Int) := IntWalk.i64_in _ (by omega)
              have hj0 : (0 : Int) ≤ (j : Int) := by omega
              have hj1 : (j : Int) < 16 := by omega
              have cX := hNX.ci j hj16
              rw [HX.out] at cX
              have fX := hNX.fz (1 + j)
              have hlt9 := hNX.lt
              have HNXH := Lib.hid hNX
              clear hNX
              refine wp_region_calm (fun w' => Below w3.heap.size w3 w') 14 (by kernel_rfl) ((Below.refl _ w3).drew) ?_
              refine cm_run 0 45 (v := ?_) rfl rfl (by kernel_rfl) (by kernel_rfl) (by kernel_rfl) (by kernel_rfl) (by kernel_rfl) (fun _ _ _ h => h) (by rfl) ?_ ?_
              rotate_left
              · (intro wS hS; skip; go_simp; (try with_reducible rfl))
              simp only [List.setIfInBounds_toArray, List.set_cons_zero, List.set_cons_succ]
              refine cm_run 1 46 (v := ?_) rfl rfl (by kernel_rfl) (by kernel_rfl) (by kernel_rfl) (by kernel_rfl) (by kernel_rfl) (fun _ _ _ h => h) (by rfl) ?_ ?_
              rotate_left
              · (intro wS hS; have g := cell_later hS cF; go_simp; (try with_reducible rfl))
              simp only [List.setIfInBounds_toArray, List.set_cons_zero, List.set_cons_succ]
              refine cm_run 2 47 (v := ?_) rfl rfl (by kernel_rfl) (by kernel_rfl) (by kernel_rfl) (by kernel_rfl) (by kernel_rfl) (fun _ _ _ h => h) (by rfl) ?_ ?_
              rotate_left
              · (intro wS hS; skip; go_simp; (try with_reducible rfl))
              simp only [List.setIfInBounds_toArray, List.set_cons_zero, List.set_cons_succ]
              refine cm_run 3 48 (v := ?_) rfl rfl (by kernel_rfl) (by kernel_rfl) (by kernel_rfl) (by kernel_rfl) (by kernel_rfl) (fun _ _ _ h => h) (by rfl) ?_ ?_
              rotate_left
              · (intro wS hS; skip; go_simp; (try with_reducible rfl))
              simp only [List.setIfInBounds_toArray, List.set_cons_zero, List.set_cons_succ]
              refine cm_run 4 49 (v := ?_) rfl rfl (by kernel_rfl) (by kernel_rfl) (by kernel_rfl) (by kernel_rfl) (by kernel_rfl) (fun _ _ _ h => h) (by rfl) ?_ ?_
              rotate_left
              · (intro wS hS; have g := cell_later hS cF; go_simp; (try with_reducible rfl))
              simp only [List.setIfInBounds_toArray, List.set_cons_zero, List.set_cons_succ]
              refine cm_run 5 50 (v := ?_) rfl rfl (by kernel_rfl) (by kernel_rfl) (by kernel_rfl) (by kernel_rfl) (by kernel_rfl) (fun _ _ _ h => h) (by rfl) ?_ ?_
              rotate_left
              · (intro wS hS; skip; go_simp; (try with_reducible rfl))
              simp only [List.setIfInBounds_toArray, List.set_cons_zero, List.set_cons_succ]
              refine cm_run 6 51 (v := ?_) rfl rfl (by kernel_rfl) (by kernel_rfl) (by kernel_rfl) (by kernel_rfl) (by kernel_rfl) (fun _ _ _ h => h) (by rfl) ?_ ?_
              rotate_left
              · (intro wS hS; skip; go_simp; (try with_reducible rfl))
              simp only [List.setIfInBounds_toArray, List.set_cons_zero, List.set_cons_succ]
              refine cm_run 7 52 (v := ?_) rfl rfl (by kernel_rfl) (by kernel_rfl) (by kernel_rfl) (by kernel_rfl) (by kernel_rfl) (fun _ _ _ h => h) (by rfl) ?_ ?_
              rotate_left
              · (intro wS hS; skip; go_simp; (try with_reducible rfl))
              simp only [List.setIfInBounds_toArray, List.set_cons_zero, List.set_cons_succ]
              refine cm_run 8 53 (v := ?_) rfl rfl (by kernel_rfl) (by kernel_rfl) (by kernel_rfl) (by kernel_rfl) (by kernel_rfl) (fun _ _ _ h => h) (by rfl) ?_ ?_
              rotate_left
              · (intro wS hS; have g := cell_later hS cX; go_simp; (try with_reducible rfl))
              simp only [List.setIfInBounds_toArray, List.set_cons_zero, List.set_cons_succ]
              refine cm_run 9 54 (v := ?_) rfl rfl (by kernel_rfl) (by kernel_rfl) (by kernel_rfl) (by kernel_rfl) (by kernel_rfl) (fun _ _ _ h => h) (by rfl) ?_ ?_
              rotate_left
              · (intro wS hS; skip; go_simp; (try with_reducible rfl))
              simp only [List.setIfInBounds_toArray, List.set_cons_zero, List.set_cons_succ]
              refine cm_run 10 55 (v := ?_) rfl rfl (by kernel_rfl) (by kernel_rfl) (by kernel_rfl) (by kernel_rfl) (by kernel_rfl) (fun _ _ _ h => h) (by rfl) ?_ ?_
              rotate_left
              · (intro wS hS; have g := cell_later hS g3; go_simp; (try with_reducible rfl))
              simp only [List.setIfInBounds_toArray, List.set_cons_zero, List.set_cons_succ]
              refine cm_run 11 56 (v := ?_) rfl rfl (by kernel_rfl) (by kernel_rfl) (by kernel_rfl) (by kernel_rfl) (by kernel_rfl) (fun _ _ _ h => h) (by rfl) ?_ ?_
              rotate_left
              · (intro wS hS; skip; go_simp; (try with_reducible rfl))
              simp only [List.setIfInBounds_toArray, List.set_cons_zero, List.set_cons_succ]
              refine cm_run 12 57 (v := ?_) rfl rfl (by kernel_rfl) (by kernel_rfl) (by kernel_rfl) (by kernel_rfl) (by kernel_rfl) (fun _ _ _ h => h) (by rfl) ?_ ?_
              rotate_left
              · (intro wS hS; skip; go_simp; (try with_reducible rfl))
              simp only [List.setIfInBounds_toArray, List.set_cons_zero, List.set_cons_succ]
              refine cm_run 13 58 (v := ?_) rfl rfl (by kernel_rfl) (by kernel_rfl) (by kernel_rfl) (by kernel_rfl) (by kernel_rfl) (fun _ _ _ h => h) (by rfl) ?_ ?_
              rotate_left
              · (intro wS hS; skip; go_simp; (try with_reducible rfl))
              simp only [List.setIfInBounds_toArray, List.set_cons_zero, List.set_cons_succ]
              refine cm_tail 14 rfl (by kernel_rfl) (by kernel_rfl) (by kernel_rfl) (by rfl) ?_
              intro wS hS K hK
              have gx := cell_later hS cX; have fx := fz_later hS hlt9 fX
              go_simp
              refine hK _ _ ?_
              clear hK K
              refine NoPanic.normal ?_
              rw [show (if x < c.wd then c.wd else x) = max x c.wd by omega]
              have hzw := hS.size
              have hNS := HNXH.out.keep hS
              have hNS2 := hNS.set j (max x c.wd)
              have hFS := ((HF2.out.keep hb1).keep hS).other (p := ⟨Nb, 1 + j, none⟩) hne (.int .u64 (max x c.wd))
              have hSS := (hS3.next hzS hS).set hNS hzn (1 + j) (.int .u64 (max x c.wd))
              obtain ⟨WD, hWD⟩ : ∃ WD : World, WD = wS.setCell ⟨Nb, 1 + j, none⟩ (.int .u64 (max x c.wd)) := ⟨_, rfl⟩
              rw [← hWD] at hNS2 hFS hSS ⊢
              have HNS := Lib.hid hNS2
              have HFS := Lib.hid hFS
              have HSS := Lib.hid hSS
              clear hWD hNS hNS2 hFS hSS hS cX fX cF g0 g3 gx fx hlt9
              go_wp2_with fail
              go_roundw
              case rel => exact ⟨m + 1, by omega, by go_num, by rw [HST.out]; exact HNS.out, HFS.out, HSS.out⟩
              case measure => simp [intOf]; omega
            · rw [nb (fun h => hin ⟨H1.out, h⟩)]
              have hst := HST.out
              rw [if_neg hin] at hst
              have HST := Lib.hid hst
              clear hst hin
              go_wp2_with fail
              go_roundw
              case rel => exact ⟨m + 1, by omega, by go_num, by rw [HST.out]; exact HN2.out.keep hb1, HF2.out.keep hb1, hS3⟩
              case measure => simp [intOf]; omega
          · have f1 : (cc.dt == c.nd) = false := by simp [h1]
            have hst := HST.out
            rw [if_neg (fun h => h1 h.1)] at hst
            have HST := Lib.hid hst
            clear hst h1
            go_wp2_with fail
            go_roundw
            case rel => exact ⟨m + 1, by omega, by go_num, by rw [HST.out]; exact HN2.out.keep HB1.out, HF2.out.keep HB1.out, hS3⟩
            case measure => simp [intOf]; omega
        · obtain rfl : N = m := by omega
          have d3 : decide ((N : Int) < (N : Int)) = false := nb (by omega)
          have HN2 := Lib.hid hN2
          have HF2 := Lib.hid hF2
          have HS2 := Lib.hid hS2
          clear hN2 hF2 hS2
          go_upto_region 11 with fail
          have hzS : W.heap.size ≤ w2.heap.size := Nat.le_trans hzr HS2.out.size
          have hrb := nxK_rb HZ.out (nd := c.nd) (t := now + k) hwd HRB.out N (by rw [HN.out]; exact Nat.le_refl _)
          have hHN := HN.out
          rw [HN.out] at HLV HNX
          obtain ⟨r2, hr2⟩ : ∃ r2, nxK cs c.nd c.wd (now + k) r N = r2 := ⟨_, rfl⟩
          rw [hr2] at HN2 HLV HNX hrb
          have HFA2 := Lib.hid HN2.out.all
          have HI2 : Hid ((Try.prog.info? 117).map (·.size) = some (fcs s r2).length) := by unfold Hid; rw [fcs_len _ hrb.1]; kernel_rfl
          have HRB2 := Lib.hid hrb
          clear hr2 hrb hHN
          refine (wpIn_wide (n := n)).1 ?_
          gi_wp2_with (with_reducible refine wpListIn_load_mid rfl 117 (.tmp 9) rfl Nb 0 rfl (fcs s r2) _ HFA2.out Try.underlying117 rfl HI2.out ?_)
          refine ⟨trivial, fun h0 => by simp [Fence.wide] at h0, CallsIn.mono (callsIn_wide.2 (level_any s r2 (now + k) HRB2.out w2)) ?_⟩
          rintro e w3 ⟨rfl, hb⟩
          have hS3 := HS2.out.next hzS hb
          obtain ⟨fn, tmps, assign, body, hy, hRd⟩ := HY.out k w3 hlt (HJ.out k wr w3 hJk hS3.1 hS3.2)
          rw [HLV.out] at hy
          simp only [Lv.cells] at hy
          have hN3 := HN2.out.keep hb
          have hF3 := HF2.out.keep hb
          have hB3 := HB.out.st hS3
          have hz3 := hS3.size
          have hW3 := hWr.trans (hS3.below hW.size)
          clear HS2 HN2 HF2 HFA2 HI2 hS3
          gi_wp2
          refine ⟨fun h0 => by simp [Fence.wide] at h0, hRd.mono ?_⟩
          rintro e w4 ⟨rfl, hJ4, hB4, hq4⟩
          have hW4 := hW3.trans hB4
          have HN4 := Lib.hid (hN3.round hq4)
          have hF4 := hF3.round hq4
          have HB4 := Lib.hid (hB3.round hq4)
          have hz4 : W.heap.size ≤ w4.heap.size := Nat.le_trans (Nat.le_trans hzr hz3) hB4.size
          have HF4 := Lib.hid hF4
          clear hy hRd hN3 hF3 hB3 hW3 hz3 hF4 hb hq4 HF HB
          gi_wp2
          obtain ⟨hn1, hn2⟩ : Rb r2 ∧ Rb r2 := ⟨HRB2.out, HRB2.out⟩
          have HFA4 := Lib.hid HN4.out.all
          have HI4 : Hid ((Try.prog.info? 117).map (·.size) = some (fcs s r2).length) := by unfold Hid; rw [fcs_len _ hn1.1]; kernel_rfl
          have H216 := Lib.hid hn1.1
          clear hn1 hn2
          go_upto_region 13 with (first
            | (with_reducible refine wpList_load_mid rfl 117 (.tmp 9) rfl Nb 0 rfl (fcs s r2) _ HFA4.out Try.underlying117 rfl HI4.out ?_)
            | (with_reducible refine wpList_store_mid rfl 117 (.tmp 7) (.tmp 67) rfl W.heap.size 0 (fcs s r2).toArray rfl rfl (there17 HF4.out H216.out) (info17 s H216.out) (fcs_one s r2) ?_))
          simp only [Act.put]
          obtain ⟨W5, hW5⟩ : ∃ W5 : World, W5 = w4.setCells W.heap.size 0 (fcs s r2) := ⟨_, rfl⟩
          rw [← hW5]
          have hF5 : FX W5 W.heap.size s r2 := by rw [hW5]; exact HF4.out.setAll H216.out
          have hS5 : St W w4 W5 := by rw [hW5]; exact St.sets (Nat.le_refl _) _ _ _ ⟨_, HF4.out.2⟩ (St.refl _ _)
          obtain ⟨g0, g3, _, _, gl, gn, gu⟩ := (HB4.out.st hS5).cells
          have HF5 := Lib.hid hF5
          have HS5 := Lib.hid hS5
          clear hW5 hF5 hS5 g0 g3 gn gu HFA4 HI4 HF4 HN4
          go_wp2_with fail
          clear gl
          have hWr := hW4
          have hzr := hz4
          have HB := HB4
          go_loopw [70] (fun i w2 => ∃ m : Nat, m ≤ N ∧ i = .int .i64 m ∧ FX w2 W.heap.size (mvK cs c.nd (now + k) s r2 m).1 (mvK cs c.nd (now + k) s r2 m).2 ∧ St W w4 w2) (fun i _ => N - (intOf i).toNat)
          case atStart => exact ⟨0, Nat.zero_le _, rfl, HF5.out, HS5.out⟩
          case round =>
            clear HF5 HS5
            rename World => w2
            clear hm
            obtain ⟨m, hm, rfl, hN2, hS2⟩ := hrel
            have hmb := mvK_rb HZ.out (nd := c.nd) (t := now + k) (st := s) HRB2.out m (by rw [HN.out]; exact hm)
            have hms := mvK_sum HZ.out (nd := c.nd) (t := now + k) (st := s) H216.out m (by rw [HN.out]; exact hm)
            have hml0 := mvK_lo HZ.out (nd := c.nd) (t := now + k) HRB2.out hs0 m (by rw [HN.out]; exact hm)
            have hsr := HRB2.out.sum
            have hsm := hmb.sum
            by_cases hml : m < N
            · have d3 : decide ((m : Int) < (N : Int)) = true := yb (by omega)
              obtain ⟨b3, off3, rfl, hcap, hca⟩ := HR.out.at HN.out m hml
              have hB2 : Below w0.heap.size w0 w2 := (hW.trans hWr).trans (hS2.below hW.size)
              have hca : CA w2 b3 (off3 + m * 6) (cs.getD m c0) := CA.kp hB2 (cell_lt hca.1) hca
              obtain ⟨hj16, hjf⟩ := ok_ix HZ.out (k := m) (by rw [HN.out]; exact hml)
              have hok := (stepE_ok (HZ.out m (by rw [HN.out]; exact hml))).1
              obtain ⟨cc, HC⟩ : ∃ x, Hid (cs.getD m c0 = x) := ⟨_, rfl⟩
              rw [HC.out] at hca hj16 hjf hok
              have hrt1 := hok.2.2.2.2.2.2.1
              have hrt2 := hok.2.2.2.2.2.2.2.1
              obtain ⟨j, HJX⟩ : ∃ j, Hid (ix cc = j) := ⟨_, rfl⟩
              rw [HJX.out] at hj16 hjf
              obtain ⟨W1, hW1⟩ : ∃ W : World, W = w2.alloc (.cells #[.int .i64 cc.fr, .int .i64 cc.dt, .int .i64 cc.st, .int .i64 cc.en, .int .i64 cc.rt, .int .i64 cc.dl] 23) := ⟨_, rfl⟩
              have hb1 : Below w2.heap.size w2 W1 := by rw [hW1]; exact (Below.refl _ w2).alloc (Nat.le_refl _) _
              have hz2 : W.heap.size ≤ w2.heap.size := Nat.le_trans hzr hS2.size
              have hBC : BC W1 w2.heap.size cc := by rw [hW1]; simp [BC, go_sem]
              have hS3 : St W w4 W1 := hS2.next hz2 hb1
              have hi1 : (0 : Int) ≤ (m : Int) := by omega
              have hi2 : (m : Int) < (N : Int) := by omega
              have hwm : IntKind.i64.wrap (m : Int) = (m : Int) := IntWalk.i64_in _ (by omega)
              have hwm1 : IntKind.i64.wrap ((m : Int) + 1) = (m : Int) + 1 := IntWalk.i64_in _ (by omega)
              have hst2 : mvK cs c.nd (now + k) s r2 (m + 1) = if into (cs.getD m c0) c.nd (now + k) then
                ((mvK cs c.nd (now + k) s r2 m).1 + min (cs.getD m c0).rt ((mvK cs c.nd (now + k) s r2 m).2.getD (ix (cs.getD m c0)) 0), (mvK cs c.nd (now + k) s r2 m).2.set (ix (cs.getD m c0)) ((mvK cs c.nd (now + k) s r2 m).2.getD (ix (cs.getD m c0)) 0 - min (cs.getD m c0).rt ((mvK cs c.nd (now + k) s r2 m).2.getD (ix (cs.getD m c0)) 0)))
                else mvK cs c.nd (now + k) s r2 m := rfl
              obtain ⟨s3, r3, hr3⟩ : ∃ s3 r3, mvK cs c.nd (now + k) s r2 m = (s3, r3) := ⟨_, _, rfl⟩
              rw [hr3] at hst2 hN2 hmb hms hml0 hsm
              dsimp only at hst2 hN2 hmb hms hml0 hsm
              rw [HC.out, HJX.out] at hst2
              have HST := Lib.hid hst2
              have hxv := hmb.2 j hj16
              obtain ⟨x, hx⟩ : ∃ x, r3.getD j 0 = x := ⟨_, rfl⟩
              have HX := Lib.hid hx
              rw [hx] at hxv
              have hbig : s3 + min cc.rt x < 18446744073709551616 := by omega
              have HN2 := Lib.hid hN2
              have HS2 := Lib.hid hS2
              have hneS : W.heap.size ≠ w2.heap.size := by have := HN2.out.lt; omega
              clear hst2 hr3 hmb hx hN2 hS2 hms hsr hsm hneS
              go_upto_region 16 with fail
              rw [← hW1]
              obtain ⟨Sx, hSx⟩ : ∃ S : Nat, S = w2.heap.size := ⟨_, rfl⟩
              rw [← hSx] at hBC ⊢
              have hzS : W.heap.size ≤ W1.heap.size := Nat.le_trans hzr hS3.size
              obtain ⟨g0, g3, _, _, gl, gn, gu⟩ := (HB.out.st hS3).cells
              have HCA := Lib.hid hBC
              have HB1 := Lib.hid hb1
              clear hW1 hSx hca hok hb1 gl gn gu
              by_cases h1 : cc.dt = c.nd
              · have f1 : (cc.dt == c.nd) = true := by simp [h1]
                have H1 := Lib.hid h1
                clear h1
                go_wp2_with fail
                refine (active_any cc (now + k) _).mono ?_
                rintro e w3 ⟨rfl, hb⟩
                have hBC := BC.keep hb hBC
                have hb1 := Below.next HB1.out hb
                have hS3 := hS3.next hzS hb
                have hzS : W.heap.size ≤ w3.heap.size := Nat.le_trans hzr hS3.size
                have g0 := cell_later hb g0
                have g3 := cell_later hb g3
                clear hb HB1 HCA
                by_cases hin : into cc c.nd (now + k)
                · rw [yb hin.2]
                  go_upto_region 17 with fail
                  have hst2 := HST.out
                  rw [if_pos hin, HX.out] at hst2
                  obtain ⟨nn, hnn⟩ : ∃ nn, min cc.rt x = nn := ⟨_, rfl⟩
                  rw [hnn] at hst2 hbig
                  have hn1 : 0 ≤ nn ∧ nn ≤ x := by omega
                  have hif : (if x < cc.rt then x else cc.rt) = nn := by rw [← hnn]; split <;> omega
                  have HIF := Lib.hid hif
                  have HST := Lib.hid hst2
                  clear hst2 hin hnn hif
                  have cF : w3.cell? ⟨Sx, 0, none⟩ = some (.int .i64 ((j : Int) + 1)) := by rw [hjf]; exact hBC.1
                  have cR : w3.cell? ⟨Sx, 4, none⟩ = some (.int .i64 cc.rt) := hBC.2.2.2.2.1
                  have hNX := HN2.out.keep hb1
                  have hneS : W.heap.size ≠ Sx := by
                    intro h
                    have a := hNX.c0
                    rw [h, hBC.1] at a
                    cases a
                  clear hjf hBC
                  have hw1 : IntKind.i64.wrap ((j : Int) + 1 - 1) = (j : Int) := by rw [show (j : Int) + 1 - 1 = (j : Int) by omega]; exact IntWalk.i64_in _ (by omega)
                  have hwj : IntKind.i64.wrap (j : Int) = (j : Int) := IntWalk.i64_in _ (by omega)
                  have hwr : IntKind.u64.wrap cc.rt = cc.rt := IntWalk.u64_in _ (by omega)
                  have hws1 : IntKind.u64.wrap (x - nn) = x - nn := IntWalk.u64_in _ (by omega)
                  have hws2 : IntKind.u64.wrap (s3 + nn) = s3 + nn := IntWalk.u64_in _ (by omega)
                  have hj0 : (0 : Int) ≤ (j : Int) := by omega
                  have hj1 : (j : Int) < 16 := by omega
                  have cX := hNX.ci j hj16
                  rw [HX.out] at cX
                  have c0X := hNX.c0
                  have HNXH := Lib.hid hNX
                  clear hNX
                  refine wp_region_calm (fun w' => Below w3.heap.size w3 w') 99 (by kernel_rfl) ((Below.refl _ w3).drew) ?_
                  refine cm_run 0 84 (v := ?_) rfl rfl (by kernel_rfl) (by kernel_rfl) (by kernel_rfl) (by kernel_rfl) (by kernel_rfl) (fun _ _ _ h => h) (by rfl) ?_ ?_
                  rotate_left
                  · (intro wS hS; skip; go_simp; (try with_reducible rfl))
                  simp only [List.setIfInBounds_toArray, List.set_cons_zero, List.set_cons_succ]
                  refine cm_run 1 85 (v := ?_) rfl rfl (by kernel_rfl) (by kernel_rfl) (by kernel_rfl) (by kernel_rfl) (by kernel_rfl) (fun _ _ _ h => h) (by rfl) ?_ ?_
                  rotate_left
                  · (intro wS hS; have g := cell_later hS cR; go_simp; (try with_reducible rfl))
                  simp only [List.setIfInBounds_toArray, List.set_cons_zero, List.set_cons_succ]
                  refine cm_run 2 86 (v := ?_) rfl rfl (by kernel_rfl) (by kernel_rfl) (by kernel_rfl) (by kernel_rfl) (by kernel_rfl) (fun _ _ _ h => h) (by rfl) ?_ ?_
                  rotate_left
                  · (intro wS hS; skip; go_simp; (try with_reducible rfl))
                  simp only [List.setIfInBounds_toArray, List.set_cons_zero, List.set_cons_succ]
                  refine cm_run 3 87 (v := ?_) rfl rfl (by kernel_rfl) (by kernel_rfl) (by kernel_rfl) (by kernel_rfl) (by kernel_rfl) (fun _ _ _ h => h) (by rfl) ?_ ?_
                  rotate_left
                  · (intro wS hS; skip; go_simp; (try with_reducible rfl))
                  simp only [List.setIfInBounds_toArray, List.set_cons_zero, List.set_cons_succ]
                  refine cm_run 4 88 (v := ?_) rfl rfl (by kernel_rfl) (by kernel_rfl) (by kernel_rfl) (by kernel_rfl) (by kernel_rfl) (fun _ _ _ h => h) (by rfl) ?_ ?_
                  rotate_left
                  · (intro wS hS; have g := cell_later hS cF; go_simp; (try with_reducible rfl))
                  simp only [List.setIfInBounds_toArray, List.set_cons_zero, List.set_cons_succ]
                  refine cm_run 5 89 (v := ?_) rfl rfl (by kernel_rfl) (by kernel_rfl) (by kernel_rfl) (by kernel_rfl) (by kernel_rfl) (fun _ _ _ h => h) (by rfl) ?_ ?_
                  rotate_left
                  · (intro wS hS; skip; go_simp; (try with_reducible rfl))
                  simp only [List.setIfInBounds_toArray, List.set_cons_zero, List.set_cons_succ]
                  refine cm_run 6 90 (v := ?_) rfl rfl (by kernel_rfl) (by kernel_rfl) (by kernel_rfl) (by kernel_rfl) (by kernel_rfl) (fun _ _ _ h => h) (by rfl) ?_ ?_
                  rotate_left
                  · (intro wS hS; skip; go_simp; (try with_reducible rfl))
                  simp only [List.setIfInBounds_toArray, List.set_cons_zero, List.set_cons_succ]
                  refine cm_run 7 91 (v := ?_) rfl rfl (by kernel_rfl) (by kernel_rfl) (by kernel_rfl) (by kernel_rfl) (by kernel_rfl) (fun _ _ _ h => h) (by rfl) ?_ ?_
                  rotate_left
                  · (intro wS hS; skip; go_simp; (try with_reducible rfl))
                  simp only [List.setIfInBounds_toArray, List.set_cons_zero, List.set_cons_succ]
                  refine cm_run 8 92 (v := ?_) rfl rfl (by kernel_rfl) (by kernel_rfl) (by kernel_rfl) (by kernel_rfl) (by kernel_rfl) (fun _ _ _ h => h) (by rfl) ?_ ?_
                  rotate_left
                  · (intro wS hS; have g := cell_later hS cX; go_simp; (try with_reducible rfl))
                  simp only [List.setIfInBounds_toArray, List.set_cons_zero, List.set_cons_succ]
                  refine cm_run 9 93 (v := ?_) rfl rfl (by kernel_rfl) (by kernel_rfl) (by kernel_rfl) (by kernel_rfl) (by kernel_rfl) (fun _ _ _ h => h) (by rfl) ?_ ?_
                  rotate_left
                  · (intro wS hS; skip; go_simp; (try with_reducible rfl))
                  simp only [List.setIfInBounds_toArray, List.set_cons_zero, List.set_cons_succ]
                  refine cm_run 10 14 (v := ?_) rfl rfl (by kernel_rfl) (by kernel_rfl) (by kernel_rfl) (by kernel_rfl) (by kernel_rfl) (fun _ _ _ h => h) (by rfl) ?_ ?_
                  rotate_left
                  · (intro wS hS; skip; go_simp; (try with_reducible rfl))
                  simp only [List.setIfInBounds_toArray, List.set_cons_zero, List.set_cons_succ]
                  refine cm_done (by kernel_rfl) ?_
                  intro wS hS
                  refine NoPanic.normal ?_
                  rw [HIF.out]
                  have hNS := HNXH.out.keep hS
                  have cF := cell_later hS cF
                  have cX := cell_later hS cX
                  have c0X := cell_later hS c0X
                  have hSS := hS3.next hzS hS
                  have hzS : W.heap.size ≤ wS.heap.size := Nat.le_trans hzr hSS.size
                  clear cR hS g0 g3
                  go_upto_region 18 with fail
                  refine wp_region_noPanic ?_
                  refine wp_region_held_drew (S := (fun w' => w'.cell? ⟨Sx, 0, none⟩ = some (.int .i64 ((j : Int) + 1)))) (by kernel_rfl) cF (fun hHeld => ?_)
                  obtain ⟨Wd, hWd⟩ : ∃ Wd : World, Wd = wS.drew := ⟨_, rfl⟩
                  rw [← hWd] at hHeld ⊢
                  have hNS : FX Wd W.heap.size s3 r3 := by rw [hWd]; exact hNS
                  have cX : Wd.cell? ⟨W.heap.size, 1 + j, none⟩ = some (.int .u64 x) := by rw [hWd]; exact cX
                  have c0X : Wd.cell? ⟨W.heap.size, 0, none⟩ = some (.int .u64 s3) := by rw [hWd]; exact c0X
                  have cF : Wd.cell? ⟨Sx, 0, none⟩ = some (.int .i64 ((j : Int) + 1)) := hHeld
                  have hSS : St W w4 Wd := by rw [hWd]; exact hSS.next hzS (Below.refl _ wS).drew
                  have fX := hNS.fz (1 + j)
                  have f0 := hNS.fz 0
                  clear hWd
                  refine reg_tk (v := ?_) 0 94 rfl rfl (by kernel_rfl) (by kernel_rfl) (by kernel_rfl) (fun _ _ _ h => h) (by rfl) ?_ (by assumption) ?_
                  rotate_left
                  · (intro w3 hS; skip; go_simp; (try with_reducible rfl))
                  simp only [List.setIfInBounds_toArray, List.set_cons_zero, List.set_cons_succ]
                  refine reg_tk (v := ?_) 1 95 rfl rfl (by kernel_rfl) (by kernel_rfl) (by kernel_rfl) (fun _ _ _ h => h) (by rfl) ?_ (by assumption) ?_
                  rotate_left
                  · (intro w3 hS; skip; go_simp; (try with_reducible rfl))
                  simp only [List.setIfInBounds_toArray, List.set_cons_zero, List.set_cons_succ]
                  refine reg_tk (v := ?_) 2 96 rfl rfl (by kernel_rfl) (by kernel_rfl) (by kernel_rfl) (fun _ _ _ h => h) (by rfl) ?_ (by assumption) ?_
                  rotate_left
                  · (intro w3 hS; skip; go_simp; (try with_reducible rfl))
                  simp only [List.setIfInBounds_toArray, List.set_cons_zero, List.set_cons_succ]
                  refine reg_tk (v := ?_) 3 97 rfl rfl (by kernel_rfl) (by kernel_rfl) (by kernel_rfl) (fun _ _ _ h => h) (by rfl) ?_ (by assumption) ?_
                  rotate_left
                  · (intro w3 hS; skip; go_simp; (try with_reducible rfl))
                  simp only [List.setIfInBounds_toArray, List.set_cons_zero, List.set_cons_succ]
                  refine reg_tk (v := ?_) 4 98 rfl rfl (by kernel_rfl) (by kernel_rfl) (by kernel_rfl) (fun _ _ _ h => h) (by rfl) ?_ (by assumption) ?_
                  rotate_left
                  · (intro w3 hS; skip; go_simp; (try with_reducible rfl))
                  simp only [List.setIfInBounds_toArray, List.set_cons_zero, List.set_cons_succ]
                  refine reg_tk (v := ?_) 5 99 rfl rfl (by kernel_rfl) (by kernel_rfl) (by kernel_rfl) (fun _ _ _ h => h) (by rfl) ?_ (by assumption) ?_
                  rotate_left
                  · (intro w3 hS; skip; go_simp; (try with_reducible rfl))
                  simp only [List.setIfInBounds_toArray, List.set_cons_zero, List.set_cons_succ]
                  refine reg_tk (v := ?_) 6 100 rfl rfl (by kernel_rfl) (by kernel_rfl) (by kernel_rfl) (fun _ _ _ h => h) (by rfl) ?_ (by assumption) ?_
                  rotate_left
                  · (intro w3 hS; skip; go_simp; (try with_reducible rfl))
                  simp only [List.setIfInBounds_toArray, List.set_cons_zero, List.set_cons_succ]
                  refine reg_tk (v := ?_) 7 101 rfl rfl (by kernel_rfl) (by kernel_rfl) (by kernel_rfl) (fun _ _ _ h => h) (by rfl) ?_ (by assumption) ?_
                  rotate_left
                  · (intro w3 hS; skip; go_simp; (try with_reducible rfl))
                  simp only [List.setIfInBounds_toArray, List.set_cons_zero, List.set_cons_succ]
                  refine reg_tk (v := ?_) 9 103 rfl rfl (by kernel_rfl) (by kernel_rfl) (by kernel_rfl) (fun _ _ _ h => h) (by rfl) ?_ (by assumption) ?_
                  rotate_left
                  · (intro w3 hS; skip; go_simp; (try with_reducible rfl))
                  simp only [List.setIfInBounds_toArray, List.set_cons_zero, List.set_cons_succ]
                  refine reg_tk (v := ?_) 11 105 rfl rfl (by kernel_rfl) (by kernel_rfl) (by kernel_rfl) (fun _ _ _ h => h) (by rfl) ?_ (by assumption) ?_
                  rotate_left
                  · (intro w3 hS; skip; go_simp; (try with_reducible rfl))
                  simp only [List.setIfInBounds_toArray, List.set_cons_zero, List.set_cons_succ]
                  refine reg_tk (v := ?_) 13 107 rfl rfl (by kernel_rfl) (by kernel_rfl) (by kernel_rfl) (fun _ _ _ h => h) (by rfl) ?_ (by assumption) ?_
                  rotate_left
                  · (intro w3 hS; skip; go_simp; (try with_reducible rfl))
                  simp only [List.setIfInBounds_toArray, List.set_cons_zero, List.set_cons_succ]
                  refine reg_tk (v := ?_) 15 109 rfl rfl (by kernel_rfl) (by kernel_rfl) (by kernel_rfl) (fun _ _ _ h => h) (by rfl) ?_ (by assumption) ?_
                  rotate_left
                  · (intro w3 hS; skip; go_simp; (try with_reducible rfl))
                  simp only [List.setIfInBounds_toArray, List.set_cons_zero, List.set_cons_succ]
                  refine wpAnyH_ready (rs := [8, 12]) (by kernel_rfl) (by simp) ?_
                  refine AllReadyH.cons rfl (fun K hK => ?_) (AllReadyH.cons rfl (fun K hK => ?_) AllReadyH.nil)
                  · go_simp
                    refine hK.out _ _ hHeld (fun hHeld2 => ?_)
                    clear hK K hHeld
                    have hHeld := hHeld2
                    clear hHeld2
                    try simp only [Act.put, List.setIfInBounds_toArray, List.set_cons_zero, List.set_cons_succ]
                    refine reg_tk (v := ?_) 10 104 rfl rfl (by kernel_rfl) (by kernel_rfl) (by kernel_rfl) (fun _ _ _ h => h) (by rfl) ?_ (by assumption) ?_
                    rotate_left
                    · (intro w3 hS; skip; go_simp; (try with_reducible rfl))
                    simp only [List.setIfInBounds_toArray, List.set_cons_zero, List.set_cons_succ]
                    refine wpAnyH_ready (rs := [12]) (by kernel_rfl) (by simp) ?_
                    refine AllReadyH.cons rfl (fun K hK => ?_) AllReadyH.nil
                    go_simp
                    refine hK.out _ _ hHeld (fun hHeld2 => ?_)
                    clear hK K hHeld
                    have hHeld := hHeld2
                    clear hHeld2
                    try simp only [Act.put, List.setIfInBounds_toArray, List.set_cons_zero, List.set_cons_succ]
                    refine reg_tk (v := ?_) 14 108 rfl rfl (by kernel_rfl) (by kernel_rfl) (by kernel_rfl) (fun _ _ _ h => h) (by rfl) ?_ (by assumption) ?_
                    rotate_left
                    · (intro w3 hS; skip; go_simp; (try with_reducible rfl))
                    simp only [List.setIfInBounds_toArray, List.set_cons_zero, List.set_cons_succ]
                    refine reg_tk (v := ?_) 16 110 rfl rfl (by kernel_rfl) (by kernel_rfl) (by kernel_rfl) (fun _ _ _ h => h) (by rfl) ?_ (by assumption) ?_
                    rotate_left
                    · (intro w3 hS; skip; go_simp; (try with_reducible rfl))
                    simp only [List.setIfInBounds_toArray, List.set_cons_zero, List.set_cons_succ]
                    refine wpAnyH_ready (rs := [17]) (by kernel_rfl) (by simp) ?_
                    refine AllReadyH.cons rfl (fun K hK => ?_) AllReadyH.nil
                    go_simp
                    have hNS2 := hNS.set j (x - nn)
                    have hSS2 := hSS.set hNS (Nat.le_refl _) (1 + j) (.int .u64 (x - nn))
                    obtain ⟨Wf, hWf⟩ : ∃ Wf : World, Wf = Wd.setCell ⟨W.heap.size, 1 + j, none⟩ (.int .u64 (x - nn)) := ⟨_, rfl⟩
                    have cF2 : Wf.cell? ⟨Sx, 0, none⟩ = some (.int .i64 ((j : Int) + 1)) := by rw [hWf]; exact cell_set _ (fun h => hneS h.symm) cF
                    rw [← hWf] at hNS2 hSS2 ⊢
                    clear hWf
                    refine hK.out _ _ cF2 (fun hHeld2 => ?_)
                    clear hK K hHeld
                    have hHeld := hHeld2
                    clear hHeld2
                    try simp only [Act.put, List.setIfInBounds_toArray, List.set_cons_zero, List.set_cons_succ]
                    refine reg_tk (v := ?_) 18 111 rfl rfl (by kernel_rfl) (by kernel_rfl) (by kernel_rfl) (fun _ _ _ h => h) (by rfl) ?_ (by assumption) ?_
                    rotate_left
                    · (intro w3 hS; skip; go_simp; (try with_reducible rfl))
                    simp only [List.setIfInBounds_toArray, List.set_cons_zero, List.set_cons_succ]
                    have f0 := hNS2.fz 0
                    have c0X := hNS2.c0
                    refine wpAnyH_ready (rs := [19]) (by kernel_rfl) (by simp) ?_
                    refine AllReadyH.cons rfl (fun K hK => ?_) AllReadyH.nil
                    go_simp
                    have hNS3 := hNS2.setSt (s3 + nn)
                    have hSS3 := hSS2.set hNS2 (Nat.le_refl _) 0 (.int .u64 (s3 + nn))
                    obtain ⟨Wg, hWg⟩ : ∃ Wg : World, Wg = Wf.setCell ⟨W.heap.size, 0, none⟩ (.int .u64 (s3 + nn)) := ⟨_, rfl⟩
                    have cF3 : Wg.cell? ⟨Sx, 0, none⟩ = some (.int .i64 ((j : Int) + 1)) := by rw [hWg]; exact cell_set _ (fun h => hneS h.symm) cF2
                    rw [← hWg] at hNS3 hSS3 ⊢
                    clear hWg
                    refine hK.out _ _ cF3 (fun hHeld2 => ?_)
                    clear hK K hHeld
                    have hHeld := hHeld2
                    clear hHeld2
                    try simp only [Act.put, List.setIfInBounds_toArray, List.set_cons_zero, List.set_cons_succ]
                    refine wpAnyH_done (by kernel_rfl) ?_ _
                    refine NoPanic.normal ?_
                    have HNS := Lib.hid hNS3
                    have HSS := Lib.hid hSS3
                    clear hNS hNS2 hNS3 hSS hSS2 hSS3 cF cF2 cF3 c0X cX f0 fX hHeld
                    go_wp2_with fail
                    go_roundw
                    case rel => exact ⟨m + 1, by omega, by go_num, by rw [HST.out]; exact HNS.out, HSS.out⟩
                    case measure => simp [intOf]; omega
                  · go_simp
                    refine hK.out _ _ hHeld (fun hHeld2 => ?_)
                    clear hK K hHeld
                    have hHeld := hHeld2
                    clear hHeld2
                    try simp only [Act.put, List.setIfInBounds_toArray, List.set_cons_zero, List.set_cons_succ]
                    refine reg_tk (v := ?_) 14 108 rfl rfl (by kernel_rfl) (by kernel_rfl) (by kernel_rfl) (fun _ _ _ h => h) (by rfl) ?_ (by assumption) ?_
                    rotate_left
                    · (intro w3 hS; skip; go_simp; (try with_reducible rfl))
                    simp only [List.setIfInBounds_toArray, List.set_cons_zero, List.set_cons_succ]
                    refine wpAnyH_ready (rs := [8]) (by kernel_rfl) (by simp) ?_
                    refine AllReadyH.cons rfl (fun K hK => ?_) AllReadyH.nil
                    go_simp
                    refine hK.out _ _ hHeld (fun hHeld2 => ?_)
                    clear hK K hHeld
                    have hHeld := hHeld2
                    clear hHeld2
                    try simp only [Act.put, List.setIfInBounds_toArray, List.set_cons_zero, List.set_cons_succ]
                    refine reg_tk (v := ?_) 10 104 rfl rfl (by kernel_rfl) (by kernel_rfl) (by kernel_rfl) (fun _ _ _ h => h) (by rfl) ?_ (by assumption) ?_
                    rotate_left
                    · (intro w3 hS; skip; go_simp; (try with_reducible rfl))
                    simp only [List.setIfInBounds_toArray, List.set_cons_zero, List.set_cons_succ]
                    refine reg_tk (v := ?_) 16 110 rfl rfl (by kernel_rfl) (by kernel_rfl) (by kernel_rfl) (fun _ _ _ h => h) (by rfl) ?_ (by assumption) ?_
                    rotate_left
                    · (intro w3 hS; skip; go_simp; (try with_reducible rfl))
                    simp only [List.setIfInBounds_toArray, List.set_cons_zero, List.set_cons_succ]
                    refine wpAnyH_ready (rs := [17]) (by kernel_rfl) (by simp) ?_
                    refine AllReadyH.cons rfl (fun K hK => ?_) AllReadyH.nil
                    go_simp
                    have hNS2 := hNS.set j (x - nn)
                    have hSS2 := hSS.set hNS (Nat.le_refl _) (1 + j) (.int .u64 (x - nn))
                    obtain ⟨Wf, hWf⟩ : ∃ Wf : World, Wf = Wd.setCell ⟨W.heap.size, 1 + j, none⟩ (.int .u64 (x - nn)) := ⟨_, rfl⟩
                    have cF2 : Wf.cell? ⟨Sx, 0, none⟩ = some (.int .i64 ((j : Int) + 1)) := by rw [hWf]; exact cell_set _ (fun h => hneS h.symm) cF
                    rw [← hWf] at hNS2 hSS2 ⊢
                    clear hWf
                    refine hK.out _ _ cF2 (fun hHeld2 => ?_)
                    clear hK K hHeld
                    have hHeld := hHeld2
                    clear hHeld2
                    try simp only [Act.put, List.setIfInBounds_toArray, List.set_cons_zero, List.set_cons_succ]
                    refine reg_tk (v := ?_) 18 111 rfl rfl (by kernel_rfl) (by kernel_rfl) (by kernel_rfl) (fun _ _ _ h => h) (by rfl) ?_ (by assumption) ?_
                    rotate_left
                    · (intro w3 hS; skip; go_simp; (try with_reducible rfl))
                    simp only [List.setIfInBounds_toArray, List.set_cons_zero, List.set_cons_succ]
                    have f0 := hNS2.fz 0
                    have c0X := hNS2.c0
                    refine wpAnyH_ready (rs := [19]) (by kernel_rfl) (by simp) ?_
                    refine AllReadyH.cons rfl (fun K hK => ?_) AllReadyH.nil
                    go_simp
                    have hNS3 := hNS2.setSt (s3 + nn)
                    have hSS3 := hSS2.set hNS2 (Nat.le_refl _) 0 (.int .u64 (s3 + nn))
                    obtain ⟨Wg, hWg⟩ : ∃ Wg : World, Wg = Wf.setCell ⟨W.heap.size, 0, none⟩ (.int .u64 (s3 + nn)) := ⟨_, rfl⟩
                    have cF3 : Wg.cell? ⟨Sx, 0, none⟩ = some (.int .i64 ((j : Int) + 1)) := by rw [hWg]; exact cell_set _ (fun h => hneS h.symm) cF2
                    rw [← hWg] at hNS3 hSS3 ⊢
                    clear hWg
                    refine hK.out _ _ cF3 (fun hHeld2 => ?_)
                    clear hK K hHeld
                    have hHeld := hHeld2
                    clear hHeld2
                    try simp only [Act.put, List.setIfInBounds_toArray, List.set_cons_zero, List.set_cons_succ]
                    refine wpAnyH_done (by kernel_rfl) ?_ _
                    refine NoPanic.normal ?_
                    have HNS := Lib.hid hNS3
                    have HSS := Lib.hid hSS3
                    clear hNS hNS2 hNS3 hSS hSS2 hSS3 cF cF2 cF3 c0X cX f0 fX hHeld
                    go_wp2_with fail
                    go_roundw
                    case rel => exact ⟨m + 1, by omega, by go_num, by rw [HST.out]; exact HNS.out, HSS.out⟩
                    case measure => simp [intOf]; omega
                  skip
                · rw [nb (fun h => hin ⟨H1.out, h⟩)]
                  have hst2 := HST.out
                  rw [if_neg hin] at hst2
                  have HST := Lib.hid hst2
                  clear hst2 hin
                  go_wp2_with fail
                  go_roundw
                  case rel => exact ⟨m + 1, by omega, by go_num, by rw [HST.out]; exact HN2.out.keep hb1, hS3⟩
                  case measure => simp [intOf]; omega
              · have f1 : (cc.dt == c.nd) = false := by simp [h1]
                have hst2 := HST.out
                rw [if_neg (fun h => h1 h.1)] at hst2
                have HST := Lib.hid hst2
                clear hst2 h1
                go_wp2_with fail
                go_roundw
                case rel => exact ⟨m + 1, by omega, by go_num, by rw [HST.out]; exact HN2.out.keep HB1.out, hS3⟩
                case measure => simp [intOf]; omega
            · obtain rfl : N = m := by omega
              have d3 : decide ((N : Int) < (N : Int)) = false := nb (by omega)
              obtain ⟨s3, r3, hr3⟩ : ∃ s3 r3, mvK cs c.nd (now + k) s r2 N = (s3, r3) := ⟨_, _, rfl⟩
              rw [hr3] at HNX hN2 hmb hms hml0 hsm
              dsimp only at HNX hN2 hmb hms hml0 hsm
              have hs3 : 0 ≤ s3 ∧ s3 < 18446744073709551616 := by omega
              have hob := outK_bd (fun k hk => (stepE_ok (HZ.out k hk)).1) c.nd (now + k) cs.length (Nat.le_refl _)
              rw [HN.out] at hob
              obtain ⟨o, ho⟩ : ∃ o, outK cs c.nd (now + k) N = o := ⟨_, rfl⟩
              rw [ho] at hob HNX
              have HO : Hid (outK cs c.nd (now + k) cs.length = o) := by unfold Hid; rw [HN.out]; exact ho
              have hws : IntKind.u64.wrap (s3 - min s3 o) = s3 - min s3 o := IntWalk.u64_in _ (by omega)
              have hif : (if o < s3 then o else s3) = min s3 o := by split <;> omega
              obtain ⟨mo, hmo⟩ : ∃ mo, min s3 o = mo := ⟨_, rfl⟩
              rw [hmo] at hws hif HNX
              have HIF := Lib.hid hif
              have hoo : ∀ j, j < cs.length → okC (cs.getD j c0) := fun j hj => (stepE_ok (HZ.out j hj)).1
              have HOK := Lib.hid hoo
              have hNB := Below.trans (hW.trans hWr) (hS2.below hW.size)
              obtain ⟨g0, g3, _, _, gl, gn, gu⟩ := (HB.out.st hS2).cells
              have c0X := hN2.c0
              have f0 := hN2.fz 0
              have hlt0 := hN2.lt
              have hl200 : cs.length ≤ 200 := by rw [HN.out]; exact hN200
              have HL200 := Lib.hid hl200
              have HN2 := Lib.hid hN2
              have HS2 := Lib.hid hS2
              clear hr3 hmb hms hml0 hsm hsr ho hif hmo hoo hN2 hS2 g3 gn gu hob hl200 hs3
              go_upto_region 20 with fail
              refine wp_region_calm (fun w' => Below w2.heap.size w2 w') 12 (by kernel_rfl) ((Below.refl _ w2).drew) ?_
              refine cm_run 0 113 (v := ?_) rfl rfl (by kernel_rfl) (by kernel_rfl) (by kernel_rfl) (by kernel_rfl) (by kernel_rfl) (fun _ _ _ h => h) (by rfl) ?_ ?_
              rotate_left
              · (intro wS hS; skip; go_simp; (try with_reducible rfl))
              simp only [List.setIfInBounds_toArray, List.set_cons_zero, List.set_cons_succ]
              refine cm_run 1 114 (v := ?_) rfl rfl (by kernel_rfl) (by kernel_rfl) (by kernel_rfl) (by kernel_rfl) (by kernel_rfl) (fun _ _ _ h => h) (by rfl) ?_ ?_
              rotate_left
              · (intro wS hS; have g := cell_later hS c0X; go_simp; (try with_reducible rfl))
              simp only [List.setIfInBounds_toArray, List.set_cons_zero, List.set_cons_succ]
              refine cm_run 2 115 (v := ?_) rfl rfl (by kernel_rfl) (by kernel_rfl) (by kernel_rfl) (by kernel_rfl) (by kernel_rfl) (fun _ _ _ h => h) (by rfl) ?_ ?_
              rotate_left
              · (intro wS hS; skip; go_simp; (try with_reducible rfl))
              simp only [List.setIfInBounds_toArray, List.set_cons_zero, List.set_cons_succ]
              refine cm_run 3 116 (v := ?_) rfl rfl (by kernel_rfl) (by kernel_rfl) (by kernel_rfl) (by kernel_rfl) (by kernel_rfl) (fun _ _ _ h => h) (by rfl) ?_ ?_
              rotate_left
              · (intro wS hS; have g := cell_later hS c0X; go_simp; (try with_reducible rfl))
              simp only [List.setIfInBounds_toArray, List.set_cons_zero, List.set_cons_succ]
              refine cm_run 4 117 (v := ?_) rfl rfl (by kernel_rfl) (by kernel_rfl) (by kernel_rfl) (by kernel_rfl) (by kernel_rfl) (fun _ _ _ h => h) (by rfl) ?_ ?_
              rotate_left
              · (intro wS hS; skip; go_simp; (try with_reducible rfl))
              simp only [List.setIfInBounds_toArray, List.set_cons_zero, List.set_cons_succ]
              refine cm_run 5 118 (v := ?_) rfl rfl (by kernel_rfl) (by kernel_rfl) (by kernel_rfl) (by kernel_rfl) (by kernel_rfl) (fun _ _ _ h => h) (by rfl) ?_ ?_
              rotate_left
              · (intro wS hS; have g := cell_later hS g0; go_simp; (try with_reducible rfl))
              simp only [List.setIfInBounds_toArray, List.set_cons_zero, List.set_cons_succ]
              refine cm_run 6 119 (v := ?_) rfl rfl (by kernel_rfl) (by kernel_rfl) (by kernel_rfl) (by kernel_rfl) (by kernel_rfl) (fun _ _ _ h => h) (by rfl) ?_ ?_
              rotate_left
              · (intro wS hS; have g := cell_later hS gl; go_simp; (try with_reducible rfl))
              simp only [List.setIfInBounds_toArray, List.set_cons_zero, List.set_cons_succ]
              refine cm_run 7 120 (v := ?_) rfl rfl (by kernel_rfl) (by kernel_rfl) (by kernel_rfl) (by kernel_rfl) (by kernel_rfl) (fun _ _ _ h => h) (by rfl) ?_ ?_
              rotate_left
              · (intro wS hS; skip; go_simp; (try with_reducible rfl))
              simp only [List.setIfInBounds_toArray, List.set_cons_zero, List.set_cons_succ]
              refine cm_call 8 121 89 (v := .int .u64 o) (args := ?_) rfl rfl (by kernel_rfl) (by kernel_rfl) (by kernel_rfl) (by kernel_rfl) (by kernel_rfl) (fun _ _ _ h => h) (by rfl) ?_ ?_ ?_
              rotate_left 1
              · (intro wS hS; go_simp; (try with_reducible rfl))
              · (intro wS hS; refine (out_any cs (.slice a0 N n0) c.nd (now + k) HOK.out HL200.out _ (HR.out.keep (Below.next hNB hS))).mono ?_; (rw [HO.out]; rintro e w5 ⟨rfl, hb⟩; exact ⟨rfl, Below.next hS hb⟩))
              simp only [List.setIfInBounds_toArray, List.set_cons_zero, List.set_cons_succ]
              refine cm_run 9 122 (v := ?_) rfl rfl (by kernel_rfl) (by kernel_rfl) (by kernel_rfl) (by kernel_rfl) (by kernel_rfl) (fun _ _ _ h => h) (by rfl) ?_ ?_
              rotate_left
              · (intro wS hS; skip; go_simp; (try with_reducible rfl))
              simp only [List.setIfInBounds_toArray, List.set_cons_zero, List.set_cons_succ]
              rw [HIF.out]
              refine cm_run 10 123 (v := ?_) rfl rfl (by kernel_rfl) (by kernel_rfl) (by kernel_rfl) (by kernel_rfl) (by kernel_rfl) (fun _ _ _ h => h) (by rfl) ?_ ?_
              rotate_left
              · (intro wS hS; skip; go_simp; (try with_reducible rfl))
              simp only [List.setIfInBounds_toArray, List.set_cons_zero, List.set_cons_succ]
              refine cm_run 11 124 (v := ?_) rfl rfl (by kernel_rfl) (by kernel_rfl) (by kernel_rfl) (by kernel_rfl) (by kernel_rfl) (fun _ _ _ h => h) (by rfl) ?_ ?_
              rotate_left
              · (intro wS hS; skip; go_simp; (try with_reducible rfl))
              simp only [List.setIfInBounds_toArray, List.set_cons_zero, List.set_cons_succ]
              refine cm_tail 12 rfl (by kernel_rfl) (by kernel_rfl) (by kernel_rfl) (by rfl) ?_
              intro wS hS K hK
              have gx := cell_later hS c0X; have fx := fz_later hS hlt0 f0
              go_simp
              refine hK _ _ ?_
              clear hK K
              refine NoPanic.normal ?_
              have hzw : W.heap.size ≤ w2.heap.size := Nat.le_trans hzr HS2.out.size
              have hNS := HN2.out.keep hS
              have hNS2 := hNS.setSt (s3 - mo)
              have hSS := (HS2.out.next hzw hS).set hNS (Nat.le_refl _) 0 (.int .u64 (s3 - mo))
              obtain ⟨WD, hWD⟩ : ∃ WD : World, WD = wS.setCell ⟨W.heap.size, 0, none⟩ (.int .u64 (s3 - mo)) := ⟨_, rfl⟩
              rw [← hWD] at hNS2 hSS ⊢
              have HNS := Lib.hid hNS2
              have HSS := Lib.hid hSS
              clear hWD hNS hNS2 hSS hS c0X f0 g0 gl gx fx hlt0 hNB
              have hwk : IntKind.i64.wrap (now + (k : Int) + 1) = now + (k : Int) + 1 := IntWalk.i64_in _ (by omega)
              go_wp2_with fail
              go_roundw
              case rel => exact ⟨k + 1, by omega, by congr 1; push_cast; omega, HJ.out _ _ _ hJ4 HSS.out.1 HSS.out.2, by rw [HNX.out]; exact HNS.out, HB.out.st HSS.out, hWr.trans (HSS.out.below hW.size), Nat.le_trans hzr HSS.out.size⟩
              case measure => simp [intOf]; omega
    · obtain rfl : k = M := by omega
      have d2 : decide (now + (k : Int) < now + (k : Int)) = false := nb (by omega)
      have HF := Lib.hid hF
      have HB := Lib.hid hB
      clear hF hB
      go_wp2_with fail
      go_end0
      exact ⟨⟨_, rfl⟩, hJk⟩
end Go.Proofs.Ytnbjdgjopdeolaa
