

/- Volume: the pairs of a plan (a range over a function): the iterator's contract. -/
import Derived.Test.YtnbjdgjopdeolaaH
import Derived.Test.YtnbjdgjopdeolaaI
import Derived.Test.YtnbjdgjopdeolaaX
import Derived.Shelf.Abstract
import Derived.Shelf.RegionOpen
import Derived.OwnWalkIn
import Derived.TacticsInMore
import Derived.LoopNIn
import Derived.LoopIn
namespace Go.Proofs.Ytnbjdgjopdeolaa
open Go.RowKit Go.Shelf
set_option linter.unusedSimpArgs false
set_option linter.unusedVariables false
set_option maxRecDepth 100000
attribute [local go_sem] Oper.semAt_some

/-- a contact of a plan that goes from one node to another one, with its number -/
abbrev Px (cs : List Ct) (fr dt : Int) := { x : Nat × Ct // x.1 < cs.length ∧ cs.getD x.1 c0 = x.2 ∧ x.2.fr = fr ∧ x.2.dt = dt }
def picks (cs : List Ct) (fr dt : Int) : Nat → List (Px cs fr dt)
  | 0 => []
  | k + 1 => if h : k < cs.length ∧ (cs.getD k c0).fr = fr ∧ (cs.getD k c0).dt = dt then picks cs fr dt k ++ [⟨(k, cs.getD k c0), h.1, rfl, h.2⟩] else picks cs fr dt k
theorem picks_len (cs : List Ct) (fr dt : Int) : ∀ k, (picks cs fr dt k).length ≤ k
  | 0 => Nat.le_refl _
  | k + 1 => by
    have := picks_len cs fr dt k
    unfold picks
    split
    · simp; omega
    · omega
theorem picks_yes {cs : List Ct} {fr dt : Int} {k : Nat} (hk : k < cs.length) (hf : (cs.getD k c0).fr = fr) (ht : (cs.getD k c0).dt = dt) : ∃ x : Px cs fr dt, picks cs fr dt (k + 1) = picks cs fr dt k ++ [x] ∧ x.1.1 = k ∧ x.1.2 = cs.getD k c0 :=
  ⟨⟨(k, cs.getD k c0), hk, rfl, hf, ht⟩, dif_pos ⟨hk, hf, ht⟩, rfl, rfl⟩
theorem picks_no {cs : List Ct} {fr dt : Int} {k : Nat} (h : ¬ ((cs.getD k c0).fr = fr ∧ (cs.getD k c0).dt = dt)) : picks cs fr dt (k + 1) = picks cs fr dt k := dif_neg (fun h1 => h h1.2)
/-- what a round of the loop keeps: what lay below n, and the three boxes from B on -/
def KP (n B : Nat) (W W' : World) : Prop := Below n W W' ∧ ∀ (o : Nat) (v : Value), o < 3 → W.cell? ⟨B + o, 0, none⟩ = some v → W'.cell? ⟨B + o, 0, none⟩ = some v
theorem KP.trans {n B : Nat} {W W1 W2 : World} (h : KP n B W W1) (h2 : KP n B W1 W2) : KP n B W W2 := ⟨h.1.trans h2.1, fun o v ho hv => h2.2 o v ho (h.2 o v ho hv)⟩
theorem KP.refl (n B : Nat) (W : World) : KP n B W W := ⟨Below.refl _ _, fun _ _ _ h => h⟩
theorem CA.kp {n : Nat} {W W1 : World} {b o : Nat} {c : Ct} (hb : Below n W W1) (hn : b < n) (h : CA W b o c) : CA W1 b o c :=
  ⟨(hb.cell (p := ⟨b, _, none⟩) hn).trans h.1, (hb.cell (p := ⟨b, _, none⟩) hn).trans h.2.1, (hb.cell (p := ⟨b, _, none⟩) hn).trans h.2.2.1, (hb.cell (p := ⟨b, _, none⟩) hn).trans h.2.2.2.1, (hb.cell (p := ⟨b, _, none⟩) hn).trans h.2.2.2.2.1, (hb.cell (p := ⟨b, _, none⟩) hn).trans h.2.2.2.2.2⟩
theorem KP.alloc {n B : Nat} {W W1 : World} (h : KP n B W W1) (hn : n ≤ W1.heap.size) (o : Obj) : KP n B W (W1.alloc o) := ⟨h.1.alloc hn _, fun i v hi hv => cell_al _ (h.2 i v hi hv)⟩

set_option maxHeartbeats 1000000 in
theorem vpair1_in (cs : List Ct) (fr dt : Int) (a0 : Option Addr) (N n0 n B l : Nat) (w0 : World) (h : RdC w0 (.slice a0 N n0) cs) (hN : cs.length = N) (hB : w0.heap.size ≤ B)
    (J Jx : List (Px cs fr dt) → World → Prop) (hJa : ∀ pre W o, J pre W → J pre (W.alloc o))
    (hY : ∀ pre (x : Px cs fr dt) W, J pre W → pre.length < N → YieldAt Fence.wide (n - 1) Try.prog l #[.int .i64 (x.1.1 : Int), x.1.2.v] W fun e W' =>
      (e = .returned (.bool true) ∧ J (pre ++ [x]) W' ∧ KP w0.heap.size B W W') ∨ (e = .returned (.bool false) ∧ Jx (pre ++ [x]) W'))
    (W : World) (hW : Below w0.heap.size w0 W) (b0 : W.cell? ⟨B, 0, none⟩ = some (.slice a0 N n0)) (b1 : W.cell? ⟨B + 1, 0, none⟩ = some (.int .i64 fr)) (b2 : W.cell? ⟨B + 2, 0, none⟩ = some (.int .i64 dt)) (h0 : J [] W) :
    CallsIn Fence.wide n Try.prog 104 #[.func (.yield l) #[] #[], .pointer (some ⟨B, 0, none⟩), .pointer (some ⟨B + 1, 0, none⟩), .pointer (some ⟨B + 2, 0, none⟩)] W fun e W' => (∃ v, e = .returned v) ∧
      ((∃ ys, ys = picks cs fr dt N ∧ J ys W') ∨ (∃ pre, True ∧ Jx pre W')) := by
  have hm : N ≤ 9223372036854775807 := by have := h.cases.1; unfold maxLen at this; omega
  have HR := Lib.hid h
  have HN := Lib.hid hN
  clear h hN
  have HB1 := Lib.hid b1
  have HB2 := Lib.hid b2
  clear b1 b2
  refine callsIn_of_wp Try.func104 rfl trivial ?_ rfl
  simp only [Try.ntmps104, List.size_toArray, List.length_cons, List.length_nil, Nat.reduceAdd, Nat.reduceSub, Array.replicate_succ, Array.replicate_zero, List.push_toArray, List.append_toArray, List.nil_append, List.cons_append]
  gi_wp2
  gi_loopw [9] (fun i wr => ∃ k : Nat, k ≤ N ∧ i = .int .i64 k ∧ J (picks cs fr dt k) wr ∧ KP w0.heap.size B W wr) (fun i _ => N - (intOf i).toNat)
  case atStart => exact ⟨0, Nat.zero_le _, rfl, h0, KP.refl _ _ _⟩
  case round =>
    obtain ⟨k, hk, rfl, hJ, hK⟩ := hrel
    by_cases hlt : k < N
    · obtain ⟨b, off, rfl, hcap, hca⟩ := HR.out.at HN.out k hlt
      obtain ⟨c, HC⟩ : ∃ c, Hid (cs.getD k c0 = c) := ⟨_, rfl⟩
      rw [HC.out] at hca
      have hbl : b < w0.heap.size := cell_lt hca.1
      have hca := CA.kp hK.1 hbl (CA.kp hW hbl hca)
      have c1 : wr.cell? ⟨B + 1, 0, none⟩ = some (.int .i64 fr) := hK.2 1 _ (by omega) HB1.out
      have c2 : wr.cell? ⟨B + 2, 0, none⟩ = some (.int .i64 dt) := hK.2 2 _ (by omega) HB2.out
      have c1 := cell_al (.cells #[.int .i64 c.fr, .int .i64 c.dt, .int .i64 c.st, .int .i64 c.en, .int .i64 c.rt, .int .i64 c.dl] 23) c1
      have c2 := cell_al (.cells #[.int .i64 c.fr, .int .i64 c.dt, .int .i64 c.st, .int .i64 c.en, .int .i64 c.rt, .int .i64 c.dl] 23) c2
      by_cases hf : c.fr = fr
      · by_cases ht : c.dt = dt
        · have e1 : (c.fr == fr) = true := by simp [hf]
          have e2 : (c.dt == dt) = true := by simp [ht]
          obtain ⟨x, hp, hx1, hx2⟩ := picks_yes (cs := cs) (fr := fr) (dt := dt) (k := k) (by rw [HN.out]; exact hlt) (by rw [HC.out]; exact hf) (by rw [HC.out]; exact ht)
          rw [HC.out] at hx2
          have HP := Lib.hid hp
          obtain ⟨fn, tmps, assign, body, hy, hR⟩ := hY _ x (wr.alloc (.cells #[.int .i64 c.fr, .int .i64 c.dt, .int .i64 c.st, .int .i64 c.en, .int .i64 c.rt, .int .i64 c.dl] 23)) (hJa _ _ _ hJ) (by have := picks_len cs fr dt k; omega)
          rw [hx1, hx2] at hy
          clear hx1 hx2 hp hf ht
          gi_wp2
          refine ⟨fun h0 => by simp [Fence.wide] at h0, hR.mono ?_⟩
          rintro e W3 (⟨rfl, hJ3, hk3⟩ | ⟨rfl, hJx3⟩)
          · gi_wp2
            go_roundw
            case rel => exact ⟨k + 1, by omega, by go_num, by rw [HP.out]; exact hJ3, (hK.alloc (by have := hW.size; have := hK.1.size; omega) _).trans hk3⟩
            case measure => simp [intOf]; omega
          · gi_wp2
            refine bodyPost_ret (results_none rfl _ _ _) rfl ?_
            exact ⟨⟨_, rfl⟩, .inr ⟨_, trivial, hJx3⟩⟩
        · have e1 : (c.fr == fr) = true := by simp [hf]
          have e2 : (c.dt == dt) = false := by simp [ht]
          have HP := Lib.hid (picks_no (cs := cs) (fr := fr) (dt := dt) (k := k) (by rw [HC.out]; exact fun h1 => ht h1.2))
          clear hf ht
          gi_wp2
          refine ⟨fun _ _ => trivial, ?_⟩
          gi_wp2
          go_roundw
          case rel => exact ⟨k + 1, by omega, by go_num, by rw [HP.out]; exact hJa _ _ _ hJ, hK.alloc (by have := hW.size; have := hK.1.size; omega) _⟩
          case measure => simp [intOf]; omega
      · have e1 : (c.fr == fr) = false := by simp [hf]
        have HP := Lib.hid (picks_no (cs := cs) (fr := fr) (dt := dt) (k := k) (by rw [HC.out]; exact fun h1 => hf h1.1))
        clear hf
        gi_wp2
        refine ⟨fun _ _ => trivial, ?_⟩
        gi_wp2
        go_roundw
        case rel => exact ⟨k + 1, by omega, by go_num, by rw [HP.out]; exact hJa _ _ _ hJ, hK.alloc (by have := hW.size; have := hK.1.size; omega) _⟩
        case measure => simp [intOf]; omega
    · obtain rfl : k = N := by omega
      gi_wp2
      go_end0
      exact ⟨⟨_, rfl⟩, .inl ⟨_, rfl, hJ⟩⟩

/-- the iterator's value over the boxes from B on stops, or comes to its end, at the contacts of the two nodes in their order -/
theorem vpair_stops (cs : List Ct) (fr dt : Int) (v : Value) (n B : Nat) (w0 w : World) (h : RdC w0 v cs) (hB : w0.heap.size ≤ B) (hB2 : B + 2 < w.heap.size)
    (hW : Below w0.heap.size w0 w) (b0 : w.cell? ⟨B, 0, none⟩ = some v) (b1 : w.cell? ⟨B + 1, 0, none⟩ = some (.int .i64 fr)) (b2 : w.cell? ⟨B + 2, 0, none⟩ = some (.int .i64 dt)) :
    SeqStopsK Fence.wide n Try.prog 104 #[.pointer (some ⟨B, 0, none⟩), .pointer (some ⟨B + 1, 0, none⟩), .pointer (some ⟨B + 2, 0, none⟩)] (fun x : Px cs fr dt => #[Value.int .i64 (x.1.1 : Int), x.1.2.v]) (KP w0.heap.size B)
      (fun ys => ys = picks cs fr dt cs.length) (fun _ => True) cs.length w := fun l J Jx W hW1 hJ _ hY h0 => by
  obtain ⟨a0, n0, rfl⟩ := h.form
  have hbs := hW.size
  refine vpair1_in cs fr dt a0 cs.length n0 n B l w0 h rfl hB J Jx (fun pre W o hj => hJ pre W _ none hj (World.grownBy_alloc W o none) (fun r e => by cases e)) hY W (hW.trans (hW1.mono hbs))
    ((hW1.cell (p := ⟨B, 0, none⟩) (by show B < _; omega)).trans b0) ((hW1.cell (p := ⟨B + 1, 0, none⟩) (by show B + 1 < _; omega)).trans b1) ((hW1.cell (p := ⟨B + 2, 0, none⟩) (by show B + 2 < _; omega)).trans b2) h0

theorem KP_b {n B : Nat} {w : World} (hn : n ≤ w.heap.size) (hB : B + 2 < w.heap.size) (W : World) (l : Nat) (o o' : Obj) (hl : w.heap.size ≤ l) (h : W.heap[l]? = some o) (h1 : o.isCells = false) (h2 : o.isWalk = false) : KP n B W (W.putObj l o') := by
  refine ⟨belowK_b hn W l o o' hl h h1 h2, fun i v hi hv => ?_⟩
  exact cell_kept hv (grownBy_putObj' W l o') (fun r e => by cases e; exact ⟨o, h, h1⟩)

/-- pair(l, from, to): three boxes, and the function over them -/
theorem vpair_any (a : Option Addr) (n c : Nat) (fr dt : Int) (w : World) :
    Calls Try.prog 82 #[.slice a n c, .int .i64 fr, .int .i64 dt] w fun e w' => e = .returned (.func (.func 104) #[] #[.pointer (some ⟨w.heap.size, 0, none⟩), .pointer (some ⟨w.heap.size + 1, 0, none⟩), .pointer (some ⟨w.heap.size + 2, 0, none⟩)]) ∧
      w' = ((w.alloc (.cells #[.slice a n c] 39)).alloc (.cells #[.int .i64 fr] 3)).alloc (.cells #[.int .i64 dt] 3) := by
  go_enter Try.func82, Try.ntmps82
  go_wp2
  go_ret
  exact ⟨rfl, rfl⟩
end Go.Proofs.Ytnbjdgjopdeolaa
