


/- Custody: slices.Delete of one frame in a row of one's own. -/
import Derived.Test.YtnkpjfogjkjcfaaK
namespace Go.Proofs.Ytnkpjfogjkjcfaa
open Go.RowKit
set_option linter.unusedSimpArgs false
set_option linter.unusedVariables false
set_option maxRecDepth 100000

set_option maxHeartbeats 4000000 in
theorem delete_any (w : World) (base : Nat) (v : Value) (l : List Ps) (i : Nat) (hi : i < l.length) (hl : l.length ≤ 1000000) (hown : OwP w base v l) :
    Calls Try.prog 56 #[v, .int .i64 (i : Int), .int .i64 ((i : Int) + 1)] w (InsP w base v (dlF l i)) := by
  obtain ⟨hlen, ⟨h1, h0⟩ | ⟨q, c0, cur, rfl, hgb, hg, hnc, hcm, hcs, htk⟩⟩ := hown
  · omega
  obtain ⟨M, hM⟩ : ∃ M, l.length = M + 1 := ⟨l.length - 1, by omega⟩
  rw [hM] at htk hnc hi hl hlen ⊢
  have hR : psR.size = 4 := rfl
  have hcl : cur.toList.length = c0 * 4 := by simpa using hcs
  have hrl := rcs_length psR l
  rw [hM, hR] at hrl
  have hdl : ((rcs psR l).drop ((i + 1) * 4)).length = (M - i) * 4 := by rw [List.length_drop, hrl]; omega
  obtain ⟨c1, hc1⟩ : ∃ c1, c1 = cur.toList.take (i * 4) ++ (rcs psR l).drop ((i + 1) * 4) ++ cur.toList.drop (i * 4 + ((rcs psR l).drop ((i + 1) * 4)).length) := ⟨_, rfl⟩
  obtain ⟨r1, r2⟩ := del_cells psR l i M cur.toList (by omega) hM (by rw [hcl, hR]; omega) (by rw [hR]; exact htk) c1 hc1
  rw [hR] at r2
  have hcells : ∀ j u, (rcs psR l)[j]? = some u → w.cell? ⟨q, j, none⟩ = some u := fun j u hj => by
    rw [← htk, List.getElem?_take] at hj
    split at hj
    · unfold World.cell?
      simp only [hg]
      simpa using hj
    · cases hj
  obtain ⟨i0, hi0, hz0, hzs, hzb⟩ := info_parts EPs.hi
  have hrun0 : ∀ (A : Addr), (∀ j u, ((rcs psR l).drop ((i + 1) * 4))[j]? = some u → w.drew.cell? (A.add j) = some u) → ∀ ty cc, (Builtin.append_ #[23, 23] ty #[.slice (some ⟨q, 0, none⟩) i c0, .slice (some A) (M - i) cc]).run Try.prog w.drew = .ok (.slice (some ⟨q, 0, none⟩) M c0) (w.drew.setRow q c1.toArray) := fun A hA ty cc => by
    rw [run_append_room (P := Try.prog) (w := w.drew) 23 ty 47 i0 Try.underlying23 hi0 q i c0 cur hg A (M - i) cc ((rcs psR l).drop ((i + 1) * 4)) (by rw [hdl, hzs]) hA (fun u hu => rcs_one psR l u (List.mem_of_mem_drop hu)) (by omega) (by rw [hdl, hzs, hcs]; omega), hzs, ← hc1, show i + (M - i) = M by omega]
  obtain ⟨W1, hW1⟩ : ∃ W1, W1 = w.drew.setRow q c1.toArray := ⟨_, rfl⟩
  rw [← hW1] at hrun0
  have hll : (l.take i ++ l.drop (i + 1) ++ l.drop M).length = M + 1 := by simp only [List.length_append, List.length_take, List.length_drop]; omega
  have hO1 : W1.ownsRow base 47 4 (.slice (some ⟨q, 0, none⟩) (M + 1) c0) (M + 1) (rcs psR (l.take i ++ l.drop (i + 1) ++ l.drop M)) :=
    ⟨by rw [rcs_length, hll, hR], .inr ⟨q, c0, c1.toArray, rfl, hgb, by rw [hW1]; exact setRow_heap w.drew q cur _ 47 (0, 0) hg, hnc, hcm, by simp only [List.size_toArray]; omega, by simpa using r2⟩⟩
  obtain ⟨W2, hcl2, ho2, hkx, hsz⟩ := cut_clear (i := M) hO1 hll (by omega)
  have hld : (dlF l i).length = M := by unfold dlF; simp only [List.length_append, List.length_take, List.length_drop]; omega
  have htm : (l.take i ++ l.drop (i + 1) ++ l.drop M).take M = dlF l i := by
    rw [List.take_append_of_le_length (by simp only [List.length_append, List.length_take, List.length_drop]; omega), List.take_of_length_le (by simp only [List.length_append, List.length_take, List.length_drop]; omega)]
    rfl
  have HR : Hid (InsP w base (.slice (some ⟨q, 0, none⟩) (M + 1) c0) (dlF l i) (.returned (.slice (some ⟨q, 0, none⟩) M c0)) W2) := Lib.hid (by
    refine ⟨some ⟨q, 0, none⟩, c0, by rw [hld], ?_, hkx (fun k => (Value.slice (some ⟨q, 0, none⟩) (M + 1) c0).ownBlock = some k) w ?_ (.inl rfl), fun k hk => .inl hk⟩
    · unfold OwP
      rw [hld, ← htm]
      exact ho2
    · rw [hW1]
      exact Kx.setRow (Kx.refl (fun k => (Value.slice (some ⟨q, 0, none⟩) (M + 1) c0).ownBlock = some k) w).drew (.inl rfl) _)
  have hcl3 : ∀ ty cc, (Builtin.clear_ #[23] ty #[.slice (some ⟨q, M * 4, none⟩) 1 cc]).run Try.prog W1 = .ok (.tuple #[]) W2 := fun ty cc => by
    have := hcl2 ty cc
    rwa [show M + 1 - M = 1 by omega] at this
  have mixed : Try.prog.follows .mixedOrders = true := by kernel_rfl
  have z : ∀ w, (Go.sizeOf 47).run Try.prog w = .ok 4 w := fun w => by kernel_rfl
  unfold maxLen at hcm
  have hw1 : IntKind.i64.wrap ((i : Int) + 1) = (i : Int) + 1 := IntWalk.i64_in _ (by omega)
  have d1 : ((i : Int) == (i : Int) + 1) = false := by rw [beq_eq_false_iff_ne]; omega
  have b1 : (0 : Int) ≤ (i : Int) := by omega
  have b2 : (i : Int) ≤ (i : Int) + 1 := by omega
  have b3 : (i : Int) + 1 ≤ (M : Int) + 1 := by omega
  have b3' : (i : Int) ≤ (M : Int) := by omega
  have b4 : (M : Int) + 1 ≤ (c0 : Int) := by omega
  have b5 : (i : Int) ≤ (c0 : Int) := by omega
  have b6 : (M : Int) ≤ (M : Int) + 1 := by omega
  have b7 : (0 : Int) ≤ (M : Int) := by omega
  have b8 : ¬ (c0 = M) := by omega
  have b9 : (0 : Int) ≤ (i : Int) + 1 := by omega
  have t1 : ((i : Int) + 1).toNat = i + 1 := by omega
  have t2 : ((M : Int) + 1).toNat = M + 1 := by omega
  have hqs : ∀ j u, w.cell? ⟨q, j, none⟩ = some u → w.drew.cell? ⟨q, j, none⟩ = some u := fun j u h => h
  by_cases hcn : c0 = i + 1
  · have hrun := hrun0 ⟨q, 0, none⟩ (fun j u hj => by
      have hj2 := (List.getElem?_eq_some_iff.1 hj).1
      rw [hdl] at hj2
      omega)
    clear hW1 hrun0 hcl2 ho2 hkx hsz hO1 hll htm hld r1 r2 hcells hc1 hdl hrl hcl hlen htk hcs hi0 hz0 hzs hzb hqs
    have hmi : M - i = 0 := by omega
    subst hcn
    go_enter Try.func56, Try.ntmps56
    go_wp2_with fail
    go_region_law_o (refine step_app_runS rfl _ _ 23 23 rfl (.slice (some ⟨q, 0, none⟩) i (i + 1)) (.slice (some ⟨q, 0, none⟩) (M - i) ((i + 1) - (i + 1))) (by simp [Act.eval, Act.put, hmi]) (by simp [Act.eval, Act.put, hmi]) (hrun _ _) ?_)
    go_wp2_with fail
    go_ret
    exact HR.out
  · have hrun := hrun0 ⟨q, (i + 1) * 4, none⟩ (fun j u hj => by
      rw [List.getElem?_drop] at hj
      rw [Addr.add_lit]
      exact hqs _ _ (hcells _ u hj))
    clear hW1 hrun0 hcl2 ho2 hkx hsz hO1 hll htm hld r1 r2 hcells hc1 hdl hrl hcl hlen htk hcs hi0 hz0 hzs hzb hqs
    go_enter Try.func56, Try.ntmps56
    go_wp2_with fail
    go_region_law_o (refine step_app_runS rfl _ _ 23 23 rfl (.slice (some ⟨q, 0, none⟩) i c0) (.slice (some ⟨q, (i + 1) * 4, none⟩) (M - i) (c0 - (i + 1))) (by simp [Act.eval, Act.put, hcn]) (by simp [Act.eval, Act.put, hcn]) (hrun _ _) ?_)
    go_wp2_with fail
    go_ret
    exact HR.out
end Go.Proofs.Ytnkpjfogjkjcfaa
