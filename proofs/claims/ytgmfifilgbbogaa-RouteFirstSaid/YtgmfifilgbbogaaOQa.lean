


/- OwnPlan's plan is one's own; a plan cut before and behind a contact. -/
import Derived.Test.YtgmfifilgbbogaaPW
import Derived.Test.YtgmfifilgbbogaaLAp
namespace Go.Proofs.Ytgmfifilgbbogaa
open Go.RowKit
set_option linter.unusedSimpArgs false
set_option linter.unusedVariables false
set_option maxRecDepth 100000

theorem ownPlan_own (v : Value) (cs : List Ct) (hl : cs.length ≤ 1000000) (w : World) (h : RdC w v cs) :
    Calls Try.prog 11 #[v] w fun e w' => ∃ a c, e = .returned (.slice a cs.length c) ∧ w'.ownsRow w.heap.size 52 6 (.slice a cs.length c) cs.length (ccs cs) ∧ Below w.heap.size w w' := by
  have hrd0 : RdS (w.alloc (.cells #[] 52)) 6 v cs.length (ccs cs) := h.keep (by repeat (first | assumption | exact Below.refl _ _ | apply Below.al | apply below_drewN | apply Below.drew | refine Below.next ?_ (by assumption)))
  have hown0 : (w.alloc (.cells #[] 52)).ownsRow w.heap.size 52 6 (.slice (some ⟨w.heap.size, 0, none⟩) 0 0) 0 [] := owns_block _ _ 52 6 0 [] _ (Nat.le_refl _) (heap_last w _) rfl (by decide)
  obtain ⟨N, hN⟩ : ∃ N, cs.length = N := ⟨_, rfl⟩
  rw [hN] at hl hrd0 ⊢
  have HRD := Lib.hid hrd0
  clear hN h hrd0
  go_enter Try.func11, Try.ntmps11
  go_wp2_with (at_builtin; refine wpList_app rfl (.tmp 3) (.tmp 4) 22 rfl w.heap.size 52 _ 6 48 ECt _ 0 [] rfl hown0 _ N (ccs cs) rfl HRD.out (ccs_one _) ?c1 ?c2 ?c3 ?c4)
  case c1 => unfold maxLen; omega
  case c2 => omega
  case c3 => simp
  case c4 =>
    intro a3 c3 w3 hown3 hg3 hb3
    have hown3 : w3.ownsRow w.heap.size 52 6 (.slice a3 N c3) N (ccs cs) := by first | with_reducible exact hown3 | simpa using hown3
    have hB : Below w.heap.size w w3 := Below.trans (Below.al (Below.refl _ _) _) hb3
    clear hown0 hg3
    have HO := Lib.hid hown3
    clear hown3
    go_wp2
    go_ret
    exact ⟨a3, c3, rfl, HO.out, hB⟩
theorem plan_cap {w : World} {a0 : Option Addr} {N n0 : Nat} {cs : List Ct} (h : RdC w (.slice a0 N n0) cs) (hN : cs.length = N) : N ≤ n0 := by
  rcases h.2.2 with ⟨h0, _⟩ | ⟨_, _, _, hv, hc, _⟩
  · omega
  · simp only [Value.slice.injEq] at hv
    omega
theorem pcut_take {w : World} {a0 : Option Addr} {N n0 : Nat} {cs : List Ct} (h : RdC w (.slice a0 N n0) cs) (hN : cs.length = N) (a : Nat) (ha : a ≤ N) :
    ∃ v, (∀ w : World, (Instr.slice 22 (.slice a0 N n0) none (some (.int .i64 a)) none).run Try.prog w = .ok v w) ∧ RdC w v (cs.take a) := by
  have hs6 : ∀ w : World, (sizeOf (Try.prog.elem 22)).run Try.prog w = .ok 6 w := fun w => by kernel_rfl
  have hun : Try.prog.underlying 22 = some (.slice (Try.prog.elem 22)) := by kernel_rfl
  have hkn := plan_cap h hN
  refine ⟨sliced a0 0 a n0 6, fun w => ?_, ?_⟩
  · rw [run_slice_h _ _ _ _ _ hun _ _ (by omega) (by omega), hs6]
    show Result.ok (sliced a0 0 (a : Int).toNat n0 6) w = _
    rw [Int.toNat_natCast]
  · have := slc_take h hN a ha
    unfold RdC
    rwa [List.length_take, show min a cs.length = a by omega]
theorem pcut_drop {w : World} {a0 : Option Addr} {N n0 : Nat} {cs : List Ct} (h : RdC w (.slice a0 N n0) cs) (hN : cs.length = N) (a : Nat) (ha : a ≤ N) :
    ∃ v, (∀ w : World, (Instr.slice 22 (.slice a0 N n0) (some (.int .i64 a)) none none).run Try.prog w = .ok v w) ∧ RdC w v (cs.drop a) := by
  have hs6 : ∀ w : World, (sizeOf (Try.prog.elem 22)).run Try.prog w = .ok 6 w := fun w => by kernel_rfl
  have hun : Try.prog.underlying 22 = some (.slice (Try.prog.elem 22)) := by kernel_rfl
  have hkn := plan_cap h hN
  refine ⟨sliced a0 a N n0 6, fun w => ?_, ?_⟩
  · rw [run_slice_l _ _ _ _ _ hun _ _ (by omega) (by omega), hs6]
    show Result.ok (sliced a0 (a : Int).toNat N n0 6) w = _
    rw [Int.toNat_natCast]
  · have := slc_drop h hN a ha
    unfold RdC
    rwa [List.length_drop, hN]
end Go.Proofs.Ytgmfifilgbbogaa
