

/- Space: of, held, free, space, at. -/
import Derived.Test.YtnbjdgjopdeolaaSA
import Derived.Laws.Cover3
namespace Go.Proofs.Ytnbjdgjopdeolaa
open Go.RowKit
set_option linter.unusedSimpArgs false
set_option linter.unusedVariables false
set_option maxRecDepth 100000

/-- the error of a space -/
def chk (q st : Int) (xs : List Int) : Int := if 1099511627776 < q then 2 else if xs.length ≠ 16 then 3 else if q < st + xs.sum then 5 else 0

abbrev Sv (q st : Int) (rs : Value) : Value := .agg #[.int .u64 q, .int .u64 st, rs]
abbrev BS (w : World) (b : Nat) (q st : Int) (rs : Value) : Prop := w.cell? ⟨b, 0, none⟩ = some (.int .u64 q) ∧ w.cell? ⟨b, 1, none⟩ = some (.int .u64 st) ∧ w.cell? ⟨b, 2, none⟩ = some rs

theorem BS.keep {W w1 : World} {b : Nat} {q st : Int} {rs : Value} (hb : Below W.heap.size W w1) (h : BS W b q st rs) : BS w1 b q st rs := ⟨cell_later hb h.1, cell_later hb h.2.1, cell_later hb h.2.2⟩
theorem E22 : ElemOk Try.prog 36 32 (.int .u64 0) 1 8 := ⟨Try.underlying36, by kernel_rfl, rfl, by decide⟩

theorem rangeAt_al {w : World} {b o : Nat} {cs : List Value} (x : Obj) (h : w.rangeAt b o cs) : (w.alloc x).rangeAt b o cs := fun j u hj => cell_al x (h j u hj)

theorem of_big (q st : Int) (rs : Value) (hq : 1099511627776 < q) (w : World) :
    Calls Try.prog 107 #[Sv q st rs] w fun e w' => e = .returned (.tuple #[.pointer none, .int .i64 2]) ∧ Below w.heap.size w w' := by
  go_enter Try.func107, Try.ntmps107
  go_wp2
  go_ret2
  exact ⟨rfl, (by repeat (first | assumption | exact Below.refl _ _ | apply Below.al | apply below_drewN | apply Below.drew | refine Below.next ?_ (by assumption) | refine Below.st ?_ (by first | exact Nat.le_refl _ | (simp; done) | (simp; omega)) _))⟩

theorem of_len (q st : Int) (rs : Value) (xs : List Int) (hq : q ≤ 1099511627776) (hl : xs.length ≠ 16) (w : World) (h : RdI .u64 w rs xs) :
    Calls Try.prog 107 #[Sv q st rs] w fun e w' => e = .returned (.tuple #[.pointer none, .int .i64 3]) ∧ Below w.heap.size w w' := by
  obtain ⟨hm, ⟨a0, cap0, rfl, rfl⟩ | ⟨b, off, cap, rfl, hc, hr⟩⟩ := h.cases
  · go_enter Try.func107, Try.ntmps107
    go_wp2
    go_ret2
    exact ⟨rfl, (by repeat (first | assumption | exact Below.refl _ _ | apply Below.al | apply below_drewN | apply Below.drew | refine Below.next ?_ (by assumption) | refine Below.st ?_ (by first | exact Nat.le_refl _ | (simp; done) | (simp; omega)) _))⟩
  · clear hr h
    obtain ⟨N, hN⟩ : ∃ N, xs.length = N := ⟨_, rfl⟩
    rw [hN] at hl ⊢
    have hl2 : (((N : Nat) : Int) != 16) = true := by simp; omega
    clear hN hl
    go_enter Try.func107, Try.ntmps107
    go_wp2
    go_ret2
    exact ⟨rfl, (by repeat (first | assumption | exact Below.refl _ _ | apply Below.al | apply below_drewN | apply Below.drew | refine Below.next ?_ (by assumption) | refine Below.st ?_ (by first | exact Nat.le_refl _ | (simp; done) | (simp; omega)) _))⟩

theorem fold_acc (q st : Int) (rs : Value) (xs : List Int) (hl : xs.length = 16) :
    List.foldl (fun cs x => cs.setIfInBounds (3 + x.snd) x.fst) #[Value.int .u64 q, .int .u64 st, rs, .int .u64 0, .int .u64 0, .int .u64 0, .int .u64 0, .int .u64 0, .int .u64 0, .int .u64 0, .int .u64 0, .int .u64 0, .int .u64 0, .int .u64 0, .int .u64 0, .int .u64 0, .int .u64 0, .int .u64 0, .int .u64 0]
      (ic .u64 xs).zipIdx = ([.int .u64 q, .int .u64 st, rs] ++ ic .u64 xs).toArray := by
  match xs, hl with
  | [a0, a1, a2, a3, a4, a5, a6, a7, a8, a9, a10, a11, a12, a13, a14, a15], _ => simp [ic]

theorem World.size_drew' (w : World) : w.drew.heap.size = w.heap.size := rfl


theorem tot_gt {q st : Int} {xs : List Int} (hq : q ≤ 1099511627776) (hf : q < st + xs.sum) : q < tot (st :: xs) := by
  unfold tot; rw [List.sum_cons]; split <;> omega
theorem tot_le {q st : Int} {xs : List Int} (hq : q ≤ 1099511627776) (hf : st + xs.sum ≤ q) : tot (st :: xs) ≤ q := by
  unfold tot; rw [List.sum_cons, if_pos (by omega)]; exact hf

set_option maxHeartbeats 1000000 in
theorem of_full (q st : Int) (rs : Value) (xs : List Int) (hq : q ≤ 1099511627776) (hs : 0 ≤ st ∧ st < 18446744073709551616) (hn : Nn xs) (hl : xs.length = 16) (hf : q < st + xs.sum) (w : World) (h : RdI .u64 w rs xs) :
    Calls Try.prog 107 #[Sv q st rs] w fun e w' => e = .returned (.tuple #[.pointer none, .int .i64 5]) ∧ Below w.heap.size w w' := by
  obtain ⟨hm, ⟨a0, cap0, rfl, rfl⟩ | ⟨b, off, cap, rfl, hc, hr⟩⟩ := h.cases
  · cases hl
  rw [hl] at hc hr ⊢
  have HR := Lib.hid hr
  clear hr h
  go_enter Try.func107, Try.ntmps107
  have hR0 : World.rangeAt w b off (ic .u64 xs) := fun j u hj => by
    have hjl : j < 16 := by have := (List.getElem?_eq_some_iff.1 hj).1; simp [hl] at this; exact this
    rw [ic_get .u64 xs j (by omega)] at hj
    cases hj
    exact HR.out j hjl
  have hu := Try.underlying115
  have harr := fun w' : World => run_arrayAt (P := Try.prog) (w := w') 115 32 16 (some ⟨b, off, none⟩) 16 cap Try.underlying115 (Nat.le_refl _)
  have hi : (Try.prog.info? 115).map (·.size) = some (ic .u64 xs).length := by rw [ic_length, hl]; kernel_rfl
  go_wp2
  go_region_held3 (fun w' => w'.cell? ⟨w.heap.size, 0, none⟩ = some (.int .u64 q) ∧ w'.cell? ⟨w.heap.size, 1, none⟩ = some (.int .u64 st) ∧ w'.cell? ⟨w.heap.size, 2, none⟩ = some (.slice (some ⟨b, off, none⟩) 16 cap) ∧ w'.rangeAt b off (ic .u64 xs))
    (first | (refine ⟨?_, ?_, ?_, ?_⟩ <;> first | exact rangeAt_al _ hR0 | exact rangeAt_al _ (rangeAt_al _ hR0) | (simp [go_sem]; done)))
    (first | fail)
  go_wp2
  rw [fold_acc q st _ xs hl]
  obtain ⟨W1, hW1⟩ : ∃ W1 : World, W1 = ((w.alloc (.cells #[.int .u64 q, .int .u64 st, .slice (some ⟨b, off, none⟩) 16 cap] 38)).alloc (.cells ([Value.int .u64 q, .int .u64 st, .slice (some ⟨b, off, none⟩) 16 cap] ++ ic .u64 xs).toArray 134)).drew := ⟨_, rfl⟩
  rw [← hW1]
  have hB1 : Below w.heap.size w W1 := by rw [hW1]; exact (by repeat (first | assumption | exact Below.refl _ _ | apply Below.al | apply below_drewN | apply Below.drew | refine Below.next ?_ (by assumption) | refine Below.st ?_ (by first | exact Nat.le_refl _ | (simp; done) | (simp; omega)) _))
  have hS1 : BS W1 w.heap.size q st (.slice (some ⟨b, off, none⟩) 16 cap) := by rw [hW1]; simp [BS, go_sem]
  have hA1 : Acc W1 (w.heap.size + 1) q st (.slice (some ⟨b, off, none⟩) 16 cap) xs := by
    rw [hW1]; exact ⟨hl, by have := heap_last (w.alloc (.cells #[.int .u64 q, .int .u64 st, .slice (some ⟨b, off, none⟩) 16 cap] 38)) (.cells ([Value.int .u64 q, .int .u64 st, .slice (some ⟨b, off, none⟩) 16 cap] ++ ic .u64 xs).toArray 134); rw [World.size_alloc] at this; exact this⟩
  have hz : w.heap.size + 1 < W1.heap.size := by rw [hW1, World.size_drew']; simp
  clear hW1
  have hown0 : ((W1.alloc (.cells #[.int .u64 st] 32)).drew).ownsRow W1.heap.size 32 1 (.slice (some ⟨W1.heap.size, 0, none⟩) 1 1) 1 [.int .u64 st] :=
    owns_block _ _ 32 1 1 [.int .u64 st] W1.heap.size (Nat.le_refl _) (heap_last W1 _) rfl (by decide)
  have hB2 : Below W1.heap.size W1 ((W1.alloc (.cells #[.int .u64 st] 32)).drew) := (by repeat (first | assumption | exact Below.refl _ _ | apply Below.al | apply below_drewN | apply Below.drew | refine Below.next ?_ (by assumption) | refine Below.st ?_ (by first | exact Nat.le_refl _ | (simp; done) | (simp; omega)) _))
  have hrd0 : RdS ((W1.alloc (.cells #[.int .u64 st] 32)).drew) 1 (.slice (some ⟨w.heap.size + 1, 3, none⟩) 16 16) 16 (ic .u64 xs) := by
    have := (hA1.keep hB2).rd; unfold RdI at this; rwa [hl] at this
  have HT : Hid (Nn (st :: xs)) := by
    intro x hx
    rcases List.mem_cons.1 hx with rfl | hx
    · exact hs
    · exact hn x hx
  have hgt := tot_gt hq hf; clear hf
  have hq2 := Lib.hid hq
  clear hq hR0 hi harr HR
  go_region_held3 (fun w' => w'.cell? ⟨w.heap.size, 0, none⟩ = some (.int .u64 q) ∧ w'.cell? ⟨w.heap.size, 1, none⟩ = some (.int .u64 st))
    (first | exact ⟨hS1.1, hS1.2.1⟩ | exact ⟨cell_al _ hS1.1, cell_al _ hS1.2.1⟩)
    (first
      | (refine wp_app (.tmp 23) (.tmp 27) 36 rfl W1.heap.size 32 (.int .u64 0) 1 8 E22 _ 1 [.int .u64 st] rfl hown0 _ 16 (ic .u64 xs) rfl hrd0 (ic_one _ _) (by decide) (by decide) (by simp) ?_; intro a3 c3 w3 hown3 hg3 hb3; have hS1 : BS w3 w.heap.size q st _ := BS.keep (hB2.trans hb3) hS1; have hB5 : Below W1.heap.size W1 w3 := hB2.trans hb3; have hA5 := hA1.keep hB5; have hrd3 := RdS.of_owns hown3 (by decide))
      | (go_at_call 110; refine (total_any _ (st :: xs) HT.out _ (by simpa [RdI, ic, hl] using hrd3)).mono ?_; rintro e w4 ⟨rfl, rfl⟩))
  go_wp2
  go_ret2
  exact ⟨rfl, (by repeat (first | assumption | exact Below.refl _ _ | apply Below.al | apply below_drewN | apply Below.drew | refine Below.next ?_ (by assumption) | refine Below.st ?_ (by first | exact Nat.le_refl _ | (simp; done) | (simp; omega)) _))⟩

/-- a good space: its account lies in a new block -/
def OfOk (w : World) (q st : Int) (rs : Value) (xs : List Int) (e : Ending) (w' : World) : Prop :=
  ∃ p, e = .returned (.tuple #[.pointer (some ⟨p, 0, none⟩), .int .i64 0]) ∧ w.heap.size ≤ p ∧ Acc w' p q st rs xs ∧ Below w.heap.size w w'

set_option maxHeartbeats 1000000 in
theorem of_ok (q st : Int) (rs : Value) (xs : List Int) (hq : q ≤ 1099511627776) (hs : 0 ≤ st ∧ st < 18446744073709551616) (hn : Nn xs) (hl : xs.length = 16) (hf : st + xs.sum ≤ q) (w : World) (h : RdI .u64 w rs xs) :
    Calls Try.prog 107 #[Sv q st rs] w (OfOk w q st rs xs) := by
  obtain ⟨hm, ⟨a0, cap0, rfl, rfl⟩ | ⟨b, off, cap, rfl, hc, hr⟩⟩ := h.cases
  · cases hl
  rw [hl] at hc hr ⊢
  have HR := Lib.hid hr
  clear hr h
  go_enter Try.func107, Try.ntmps107
  have hR0 : World.rangeAt w b off (ic .u64 xs) := fun j u hj => by
    have hjl : j < 16 := by have := (List.getElem?_eq_some_iff.1 hj).1; simp [hl] at this; exact this
    rw [ic_get .u64 xs j (by omega)] at hj
    cases hj
    exact HR.out j hjl
  have hu := Try.underlying115
  have harr := fun w' : World => run_arrayAt (P := Try.prog) (w := w') 115 32 16 (some ⟨b, off, none⟩) 16 cap Try.underlying115 (Nat.le_refl _)
  have hi : (Try.prog.info? 115).map (·.size) = some (ic .u64 xs).length := by rw [ic_length, hl]; kernel_rfl
  go_wp2
  go_region_held3 (fun w' => w'.cell? ⟨w.heap.size, 0, none⟩ = some (.int .u64 q) ∧ w'.cell? ⟨w.heap.size, 1, none⟩ = some (.int .u64 st) ∧ w'.cell? ⟨w.heap.size, 2, none⟩ = some (.slice (some ⟨b, off, none⟩) 16 cap) ∧ w'.rangeAt b off (ic .u64 xs))
    (first | (refine ⟨?_, ?_, ?_, ?_⟩ <;> first | exact rangeAt_al _ hR0 | exact rangeAt_al _ (rangeAt_al _ hR0) | (simp [go_sem]; done)))
    (first | fail)
  go_wp2
  rw [fold_acc q st _ xs hl]
  obtain ⟨W1, hW1⟩ : ∃ W1 : World, W1 = ((w.alloc (.cells #[.int .u64 q, .int .u64 st, .slice (some ⟨b, off, none⟩) 16 cap] 38)).alloc (.cells ([Value.int .u64 q, .int .u64 st, .slice (some ⟨b, off, none⟩) 16 cap] ++ ic .u64 xs).toArray 134)).drew := ⟨_, rfl⟩
  rw [← hW1]
  have hB1 : Below w.heap.size w W1 := by rw [hW1]; exact (by repeat (first | assumption | exact Below.refl _ _ | apply Below.al | apply below_drewN | apply Below.drew | refine Below.next ?_ (by assumption) | refine Below.st ?_ (by first | exact Nat.le_refl _ | (simp; done) | (simp; omega)) _))
  have hS1 : BS W1 w.heap.size q st (.slice (some ⟨b, off, none⟩) 16 cap) := by rw [hW1]; simp [BS, go_sem]
  have hA1 : Acc W1 (w.heap.size + 1) q st (.slice (some ⟨b, off, none⟩) 16 cap) xs := by
    rw [hW1]; exact ⟨hl, by have := heap_last (w.alloc (.cells #[.int .u64 q, .int .u64 st, .slice (some ⟨b, off, none⟩) 16 cap] 38)) (.cells ([Value.int .u64 q, .int .u64 st, .slice (some ⟨b, off, none⟩) 16 cap] ++ ic .u64 xs).toArray 134); rw [World.size_alloc] at this; exact this⟩
  have hz : w.heap.size + 1 < W1.heap.size := by rw [hW1, World.size_drew']; simp
  clear hW1
  have hown0 : ((W1.alloc (.cells #[.int .u64 st] 32)).drew).ownsRow W1.heap.size 32 1 (.slice (some ⟨W1.heap.size, 0, none⟩) 1 1) 1 [.int .u64 st] :=
    owns_block _ _ 32 1 1 [.int .u64 st] W1.heap.size (Nat.le_refl _) (heap_last W1 _) rfl (by decide)
  have hB2 : Below W1.heap.size W1 ((W1.alloc (.cells #[.int .u64 st] 32)).drew) := (by repeat (first | assumption | exact Below.refl _ _ | apply Below.al | apply below_drewN | apply Below.drew | refine Below.next ?_ (by assumption) | refine Below.st ?_ (by first | exact Nat.le_refl _ | (simp; done) | (simp; omega)) _))
  have hrd0 : RdS ((W1.alloc (.cells #[.int .u64 st] 32)).drew) 1 (.slice (some ⟨w.heap.size + 1, 3, none⟩) 16 16) 16 (ic .u64 xs) := by
    have := (hA1.keep hB2).rd; unfold RdI at this; rwa [hl] at this
  have HT : Hid (Nn (st :: xs)) := by
    intro x hx
    rcases List.mem_cons.1 hx with rfl | hx
    · exact hs
    · exact hn x hx
  have hgt := tot_le hq hf; clear hf
  have hq2 := Lib.hid hq
  clear hq hR0 hi harr HR
  go_region_held3 (fun w' => w'.cell? ⟨w.heap.size, 0, none⟩ = some (.int .u64 q) ∧ w'.cell? ⟨w.heap.size, 1, none⟩ = some (.int .u64 st))
    (first | exact ⟨hS1.1, hS1.2.1⟩ | exact ⟨cell_al _ hS1.1, cell_al _ hS1.2.1⟩)
    (first
      | (refine wp_app (.tmp 23) (.tmp 27) 36 rfl W1.heap.size 32 (.int .u64 0) 1 8 E22 _ 1 [.int .u64 st] rfl hown0 _ 16 (ic .u64 xs) rfl hrd0 (ic_one _ _) (by decide) (by decide) (by simp) ?_; intro a3 c3 w3 hown3 hg3 hb3; have hS1 : BS w3 w.heap.size q st _ := BS.keep (hB2.trans hb3) hS1; have hB5 : Below W1.heap.size W1 w3 := hB2.trans hb3; have hA5 := hA1.keep hB5; have hrd3 := RdS.of_owns hown3 (by decide))
      | (go_at_call 110; refine (total_any _ (st :: xs) HT.out _ (by simpa [RdI, ic, hl] using hrd3)).mono ?_; rintro e w4 ⟨rfl, rfl⟩))
  go_wp2
  go_ret2
  exact ⟨w.heap.size + 1, rfl, by omega, hA5, (by repeat (first | assumption | exact Below.refl _ _ | apply Below.al | apply below_drewN | apply Below.drew | refine Below.next ?_ (by assumption) | refine Below.st ?_ (by first | exact Nat.le_refl _ | (simp; done) | (simp; omega)) _))⟩
end Go.Proofs.Ytnbjdgjopdeolaa
