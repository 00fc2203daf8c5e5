
/- Space: made, free, awake. -/
import Derived.Test.YtcbolpjacoiclaaF
namespace Go.Proofs.Ytcbolpjacoiclaa
open Go.RowKit

def Ib (l : List Int) : Prop := ∀ x, x ∈ l → -9223372036854775808 ≤ x ∧ x ≤ 9223372036854775807
theorem Ib.get {l : List Int} (h : Ib l) (i : Nat) : -9223372036854775808 ≤ l.getD i 0 ∧ l.getD i 0 ≤ 9223372036854775807 := by
  by_cases hi : i < l.length
  · have := h l[i] (List.getElem_mem hi)
    simpa [List.getElem?_eq_getElem hi] using this
  · rw [List.getD_eq_getElem?_getD, List.getElem?_eq_none (by omega)]; simp

theorem free_yes (q st : Int) (rs : Value) (xs : List Int) (g : Good q st xs) (want : Int) (hw : q - st - xs.sum = want) (w : World) (h : RdI .u64 w rs xs) :
    Calls Try.prog 31 #[Sv q st rs, .int .u64 want] w fun e w' => e = .returned (.bool true) ∧ Below w.heap.size w w' := by
  subst hw
  have HR := Lib.hid h
  clear h
  go_enter Try.func31, Try.ntmps31
  go_wp2_with (go_at_call 16; refine (freeS_ok q st rs xs g _ (HR.out.keep (by repeat (first | assumption | exact Below.refl _ _ | apply Below.al | apply below_drewN | apply Below.drew | refine Below.next ?_ (by assumption) | refine Below.st ?_ (by first | exact Nat.le_refl _ | (simp; done) | (simp; omega)) _)))).mono ?_; rintro e w1 ⟨rfl, hb⟩)
  go_ret
  exact ⟨rfl, (by repeat (first | assumption | exact Below.refl _ _ | apply Below.al | apply below_drewN | apply Below.drew | refine Below.next ?_ (by assumption) | refine Below.st ?_ (by first | exact Nat.le_refl _ | (simp; done) | (simp; omega)) _))⟩

theorem sum_set {xs : List Int} {k : Nat} (h : k < xs.length) (y : Int) : (xs.set k y).sum = xs.sum - xs.getD k 0 + y := by
  induction xs generalizing k with
  | nil => simp at h
  | cons a xs ih =>
    cases k with
    | zero => simp; omega
    | succ k => simp only [List.set_cons_succ, List.sum_cons, List.getD_cons_succ]; rw [ih (by simpa using h)]; omega
theorem Nn.set {xs : List Int} (h : Nn xs) (k : Nat) {y : Int} (hy : 0 ≤ y ∧ y < 18446744073709551616) : Nn (xs.set k y) := fun x hx => by
  rcases List.mem_or_eq_of_mem_set hx with h1 | h1
  · exact h x h1
  · rw [h1]; exact hy
theorem set_get {xs : List Int} {k : Nat} (h : k < xs.length) (y : Int) : (xs.set k y).getD k 0 = y := by
  simp [h]
theorem set_set_back {xs : List Int} {k : Nat} (h : k < xs.length) (n : Int) : (xs.set k (xs.getD k 0 + n)).set k ((xs.set k (xs.getD k 0 + n)).getD k 0 - n) = xs := by
  rw [set_get h, List.set_set, show xs.getD k 0 + n - n = xs.getD k 0 by omega]
  simp [List.getElem?_eq_getElem h]

def z16 : List Int := List.replicate 16 0
theorem g0 : Good 100 0 z16 := ⟨by decide, by decide, rfl, by unfold z16 Nn; simp, by decide⟩
theorem Good.inp {q st : Int} {xs : List Int} (g : Good q st xs) : Inp q st xs := by
  have := g.sum; have := g.gle; have := g.gq; have := g.gst
  exact ⟨by omega, by omega, g.gxs⟩
theorem Good.reserve {q st : Int} {xs : List Int} (g : Good q st xs) {k : Nat} (hk : k < 16) {n : Int} (hn : 0 ≤ n) (hf : n ≤ q - st - xs.sum) : Good q st (xs.set k (xs.getD k 0 + n)) := by
  have := g.sum; have := g.gle; have := g.gq; have := g.gst
  have hl := g.gn
  have hx := g.gxs.get k (by omega)
  have hs := get_le_sum g.gxs k (by omega)
  exact ⟨g.gq, g.gst, by simp [hl], g.gxs.set k (by omega), by rw [sum_set (by omega)]; omega⟩

def a1 : List Int := z16.set 1 (z16.getD 1 0 + 60)
theorem g1 : Good 100 0 a1 := g0.reserve (k := 1) (by decide) (by decide) (by decide)
theorem s1 : St 100 0 z16 2 60 0 100 0 a1 0 := .rfine g0.chk 1 (by decide) rfl (by decide)
theorem s2 : St 100 0 a1 3 41 0 0 0 [] 5 := .rfull g1.chk 2 (by decide) rfl (by decide)
theorem chk_make (q : Int) (h : q ≤ 1099511627776) (w : World) : Calls Try.prog 11 #[.int .u64 q] w (SpRes w q 0 z16 0) := make_ok q h w

set_option maxHeartbeats 1000000 in
theorem awake_any (w : World) : Calls Try.prog 9 #[] w fun e w' => e = .returned (.bool true) ∧ Below w.heap.size w w' := by
  go_enter Try.func9, Try.ntmps9
  go_wp2_with fail
  refine (chk_make 100 (by decide) _).mono ?_
  rintro e w1 ⟨v1, rfl, hr1, hF1, hb1⟩
  obtain ⟨a1', c1, rfl⟩ := hr1.form
  have R1 := Lib.hid hr1
  clear hr1 hF1
  go_wp2_with fail
  refine (reserve_any 100 0 _ z16 g0.inp 2 60 (by decide) _ _ _ _ s1 _ (R1.out.keep (by repeat (first | assumption | exact Below.refl _ _ | apply Below.al | apply below_drewN | apply Below.drew | refine Below.next ?_ (by assumption) | refine Below.st ?_ (by first | exact Nat.le_refl _ | (simp; done) | (simp; omega)) _)))).mono ?_
  rintro e w2 ⟨v2, rfl, hr2, hF2, hb2⟩
  obtain ⟨a2', c2, rfl⟩ := hr2.form
  have R2 := Lib.hid hr2
  clear hr2 hF2
  go_wp2_with fail
  refine (reserve_any 100 0 _ a1 g1.inp 3 41 (by decide) _ _ _ _ s2 _ (R2.out.keep (by repeat (first | assumption | exact Below.refl _ _ | apply Below.al | apply below_drewN | apply Below.drew | refine Below.next ?_ (by assumption) | refine Below.st ?_ (by first | exact Nat.le_refl _ | (simp; done) | (simp; omega)) _)))).mono ?_
  rintro e w3 ⟨v3, rfl, hr3, hF3, hb3⟩
  obtain ⟨a3', c3, rfl⟩ := hr3.form
  clear hr3 hF3
  have hA : BS w3 w2.heap.size 100 0 (.slice a2' a1.length c2) := BS.keep hb3 (by simp [BS, go_sem])
  have hs3 : w2.heap.size < w3.heap.size := cell_lt hA.1
  go_wp2_with fail
  refine (free_yes 100 0 _ a1 g1 40 (by decide) _ (R2.out.keep (by repeat (first | assumption | exact Below.refl _ _ | apply Below.al | apply below_drewN | apply Below.drew | refine Below.next ?_ (by assumption) | refine Below.st ?_ (by first | exact Nat.le_refl _ | (simp; done) | (simp; omega)) _)))).mono ?_
  rintro e w4 ⟨rfl, hb4⟩
  go_wp2_with fail
  go_ret
  exact ⟨rfl, (by repeat (first | assumption | exact Below.refl _ _ | apply Below.al | apply below_drewN | apply Below.drew | refine Below.next ?_ (by assumption) | refine Below.st ?_ (by first | exact Nat.le_refl _ | (simp; done) | (simp; omega)) _))⟩


def f40 (l : List Int) (i : Nat) : Int := l.getD (i + 1) 0 % 40
def mk (l : List Int) : List Int := (List.range 16).map (f40 l)
theorem mk_len (l : List Int) : (mk l).length = 16 := by simp [mk]
theorem mk_get (l : List Int) (i : Nat) (h : i < 16) : (mk l).getD i 0 = f40 l i := by
  simp [mk, h]
theorem f40_bd (l : List Int) (i : Nat) : 0 ≤ f40 l i ∧ f40 l i < 40 := by unfold f40; omega
theorem ext16 {xs ys : List Int} (h1 : xs.length = 16) (h2 : ys.length = 16) (h : ∀ i, i < 16 → xs.getD i 0 = ys.getD i 0) : xs = ys := by
  apply List.ext_getElem (by omega)
  intro i hi hj
  have := h i (by omega)
  simpa [List.getElem?_eq_getElem hi, List.getElem?_eq_getElem hj] using this

def SpV1 (w : World) (q st : Int) (xs : List Int) (e : Ending) (w' : World) : Prop :=
  ∃ v, e = .returned (Sv q st v) ∧ RdI .u64 w' v xs ∧ Below w.heap.size w w'


/-- block B is a row of numbers -/
def Row (w : World) (B : Nat) (ys : List Int) : Prop := w.heap[B]? = some (.cells (ic .u64 ys).toArray 22 (0, 0))
theorem Row.cell {w : World} {B : Nat} {ys : List Int} (h : Row w B ys) (i : Nat) (hi : i < ys.length) : w.cell? ⟨B, i, none⟩ = some (.int .u64 (ys.getD i 0)) := by
  have := ic_get .u64 ys i hi
  unfold Row at h
  simp only [World.cell?, h]
  simpa using this
theorem Row.fz {w : World} {B : Nat} {ys : List Int} (h : Row w B ys) (i : Nat) : w.frozen? ⟨B, i, none⟩ = false := by
  unfold Row at h; simp [World.frozen?, h]
theorem Row.set {w : World} {B : Nat} {ys : List Int} (h : Row w B ys) (k : Nat) (y : Int) : Row (w.setCell ⟨B, k, none⟩ (.int .u64 y)) B (ys.set k y) := by
  unfold Row at *
  simp only [World.setCell, Array.getElem?_modify, if_true, h, Option.map_some]
  congr 2
  simp [ic, List.map_set]
theorem Row.rd {w : World} {B : Nat} {ys : List Int} (h : Row w B ys) (hl : ys.length = 16) : RdI .u64 w (.slice (some ⟨B, 0, none⟩) 16 16) ys := by
  refine ⟨by simp, by rw [hl]; decide, .inr ⟨B, 0, 16, by rw [hl], by rw [hl]; exact Nat.le_refl _, fun j u hj => ?_⟩⟩
  have hjl : j < ys.length := by have := (List.getElem?_eq_some_iff.1 hj).1; simpa using this
  rw [ic_get .u64 ys j hjl] at hj
  cases hj
  have := h.cell j hjl
  simpa using this

theorem heap_mid (w : World) (a b c : Obj) : ((((w.alloc a).alloc b).alloc c).drew).heap[w.heap.size + 1]? = some b := by
  have h1 := heap_last (w.alloc a) b
  rw [World.size_alloc] at h1
  exact (Below.heap_alloc _ _ _ (by simp)).trans h1
theorem heap_end (w : World) (a b c : Obj) : ((((w.alloc a).alloc b).alloc c).drew).heap[w.heap.size + 1 + 1]? = some c := by
  have h1 := heap_last ((w.alloc a).alloc b) c
  rw [World.size_alloc, World.size_alloc] at h1
  exact h1

def MadeAt (w : World) (s0 : Int) (s3 : Value) (wx : World) : Prop :=
  ∃ B S : Nat, s3 = .pointer (some ⟨S, 0, none⟩) ∧ w.heap.size < B ∧ w.heap.size < S ∧ B ≠ S ∧ BS wx S 1000 s0 (.slice (some ⟨B, 0, none⟩) 16 16) ∧ Row wx B z16 ∧ RC wx w.heap.size ∧ Below w.heap.size w wx

set_option maxHeartbeats 1000000 in
theorem made_any (v : Value) (l : List Int) (hb : Ib l) (w : World) (h : RdI .i64 w v l) :
    Calls Try.prog 24 #[v] w (SpV w 1000 (l.getD 0 0 % 300) (mk l)) := by
  have HR := Lib.hid h
  have HI := Lib.hid hb
  clear h
  obtain ⟨x0, HX0⟩ : ∃ x, Hid (l.getD 0 0 = x) := ⟨_, rfl⟩
  have hx0 := hb.get 0
  clear hb
  rw [HX0.out] at hx0 ⊢
  have hp : 0 ≤ x0 % 300 ∧ x0 % 300 < 300 := by omega
  obtain ⟨s0, HS0⟩ : ∃ x, Hid (x0 % 300 = x) := ⟨_, rfl⟩
  rw [HS0.out] at hp ⊢
  have hw0 : IntKind.u64.wrap s0 = s0 := IntWalk.u64_in s0 (by omega)
  go_enter Try.func24, Try.ntmps24
  go_upto_region 1 with fail
  go_cut [3] (fun s3 wx => MadeAt w s0 s3 wx)
  case first =>
    have hmk : ∀ w' : World, (Instr.makeSlice 23 (.int .i64 16) (.int .i64 16)).run Try.prog w' = .ok (.slice (some ⟨w'.heap.size, 0, none⟩) 16 16) (w'.alloc (.cells #[.int .u64 0, .int .u64 0, .int .u64 0, .int .u64 0, .int .u64 0, .int .u64 0, .int .u64 0, .int .u64 0, .int .u64 0, .int .u64 0, .int .u64 0, .int .u64 0, .int .u64 0, .int .u64 0, .int .u64 0, .int .u64 0] 22)) := fun _ => by kernel_rfl
    go_region_held3 (fun w' => w'.cell? ⟨w.heap.size, 0, none⟩ = some (.int .u64 0))
      (first | (simp [go_sem]; done))
      (first
        | (go_at_call 43; refine (at_any v l 0 _ (HR.out.keep (by repeat (first | assumption | exact Below.refl _ _ | apply Below.al | apply below_drewN | apply Below.drew | refine Below.next ?_ (by assumption) | refine Below.st ?_ (by first | exact Nat.le_refl _ | (simp; done) | (simp; omega)) _)))).mono ?_; rintro e w3 ⟨rfl, rfl⟩; rw [HX0.out])
        | (go_at_call 25; refine (mod_any x0 300 (by decide) (by decide) hx0 _).mono ?_; rintro e w3 ⟨rfl, rfl⟩; rw [HS0.out]))
    all_goals
      go_wp2_with fail
      go_meet
      first
        | exact ⟨w.heap.size + 1, w.heap.size + 1 + 1, rfl, by omega, by omega, by omega, by simp [BS, go_sem], heap_mid w _ _ _, by simp [RC, go_sem], (by repeat (first | assumption | exact Below.refl _ _ | apply Below.al | apply below_drewN | apply Below.drew | refine Below.next ?_ (by assumption) | refine Below.st ?_ (by first | exact Nat.le_refl _ | (simp; done) | (simp; omega)) _))⟩
        | exact ⟨w.heap.size + 1 + 1, w.heap.size + 1, rfl, by omega, by omega, by omega, by simp [BS, go_sem], heap_end w _ _ _, by simp [RC, go_sem], (by repeat (first | assumption | exact Below.refl _ _ | apply Below.al | apply below_drewN | apply Below.drew | refine Below.next ?_ (by assumption) | refine Below.st ?_ (by first | exact Nat.le_refl _ | (simp; done) | (simp; omega)) _))⟩
        | trace_state
  case rest =>
    obtain ⟨B, S, rfl, hB, hS, hBS, hA, hR, hC, hbw⟩ := hcut
    go_wp2
    go_loopw [4] (fun i wr => ∃ (k : Nat) (ys : List Int), k ≤ 16 ∧ i = .int .i64 k ∧ Hid (ys.length = 16 ∧ ∀ j, j < k → ys.getD j 0 = f40 l j) ∧ Hid (Row wr B ys) ∧ BS wr S 1000 s0 (.slice (some ⟨B, 0, none⟩) 16 16) ∧ RC wr w.heap.size ∧ Below w.heap.size w wr) (fun i _ => 16 - (intOf i).toNat)
    case atStart => exact ⟨0, z16, by omega, rfl, ⟨rfl, fun j hj => absurd hj (Nat.not_lt_zero _)⟩, hR, hA, hC, hbw⟩
    case round =>
      clear hA hR hC hbw
      obtain ⟨k, ys, hk, rfl, HY, HRow, hA, hC, hbw⟩ := hrel
      by_cases hlt : k < 16
      · have c1 := HRow.out.cell k (by rw [HY.out.1]; exact hlt)
        have c2 := HRow.out.fz k
        obtain ⟨y0, HY0⟩ : ∃ x, Hid (ys.getD k 0 = x) := ⟨_, rfl⟩
        rw [HY0.out] at c1
        obtain ⟨x, HX⟩ : ∃ x, Hid (l.getD (k + 1) 0 = x) := ⟨_, rfl⟩
        have hx := HI.out.get (k + 1)
        rw [HX.out] at hx
        have hm : 0 ≤ x % 40 ∧ x % 40 < 40 := by omega
        obtain ⟨m, HM⟩ : ∃ m, Hid (x % 40 = m) := ⟨_, rfl⟩
        rw [HM.out] at hm
        have hw1 : IntKind.u64.wrap m = m := IntWalk.u64_in m (by omega)
        have e1 : IntKind.i64.wrap ((k : Int) + 1) = (k : Int) + 1 := IntWalk.i64_in _ (by omega)
        have i1 : (0 : Int) ≤ (k : Int) := by omega
        have i2 : (k : Int) < 16 := by omega
        have hSB : S ≠ B := Ne.symm hBS
        have hsz : S < wr.heap.size := cell_lt hA.1
        have HF : Hid (f40 l k = m) := by unfold Hid f40; rw [HX.out, HM.out]
        go_wp2
        go_region_held3 (fun w' => w'.cell? ⟨S, 2, none⟩ = some (.slice (some ⟨B, 0, none⟩) 16 16))
          (first | with_reducible exact hA.2.2 | with_reducible exact cell_drew hA.2.2 | with_reducible exact cell_drew (cell_set _ hSB hA.2.2) | with_reducible exact cell_set _ hSB (cell_drew hA.2.2))
          (first
            | (go_at_call 43; refine (at_any v l (k + 1) _ (HR.out.keep (Below.drew hbw))).mono ?_; rintro e w3 ⟨rfl, rfl⟩; rw [HX.out])
            | (go_at_call 25; refine (mod_any x 40 (by decide) (by decide) hx _).mono ?_; rintro e w3 ⟨rfl, rfl⟩; rw [HM.out]))
        go_wp2
        have HY2 : Hid ((ys.set k m).length = 16 ∧ ∀ j, j < k + 1 → (ys.set k m).getD j 0 = f40 l j) := by
          refine ⟨by rw [List.length_set]; exact HY.out.1, fun j hj => ?_⟩
          by_cases hjk : j = k
          · subst hjk; rw [set_get (by rw [HY.out.1]; exact hlt), HF.out]
          · have := HY.out.2 j (by omega)
            simp only [List.getD_eq_getElem?_getD] at this ⊢
            rw [List.getElem?_set_ne (by omega)]; exact this
        have hA2 : BS (wr.setCell ⟨B, k, none⟩ (.int .u64 m)).drew S 1000 s0 (.slice (some ⟨B, 0, none⟩) 16 16) := ⟨cell_drew (cell_set _ hSB hA.1), cell_drew (cell_set _ hSB hA.2.1), cell_drew (cell_set _ hSB hA.2.2)⟩
        have hC2 : RC (wr.setCell ⟨B, k, none⟩ (.int .u64 m)).drew w.heap.size := RC.set _ (by show w.heap.size ≠ B; omega) hC
        have hR2 := HRow.out.set k m
        go_roundw
        case rel => exact ⟨k + 1, ys.set k m, by omega, by go_num, HY2, hR2, hA2, hC2, Below.drew (Below.st hbw (Nat.le_of_lt hB) _)⟩
        case measure => simp [intOf]; omega
      · have HE : Hid (ys = mk l) := ext16 HY.out.1 (mk_len l) (fun j hj => by rw [HY.out.2 j (by omega), mk_get l j hj])
        go_wp2
        have hF : Fresh (w.heap.size + 1) (.slice (some ⟨B, 0, none⟩) 16 16) := fun a n c e => by cases e; exact hB
        refine bodyPost_ret (v := Sv 1000 s0 (.slice (some ⟨B, 0, none⟩) 16 16)) ?_ rfl ?_
        · simp [results, Try.results24, go_sem, hC]
        · rw [← HE.out]
          exact ⟨_, rfl, RdI.set _ (RdI.set _ (RdI.set _ (HRow.out.rd HY.out.1) hF (Nat.lt_succ_self _)) hF (Nat.lt_succ_self _)) hF (Nat.lt_succ_self _), hF.mono (Nat.le_succ _), Below.st (Below.st (Below.st hbw (Nat.le_refl _) _) (Nat.le_refl _) _) (Nat.le_refl _) _⟩

end Go.Proofs.Ytcbolpjacoiclaa
