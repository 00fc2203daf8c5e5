


/- RouteTrue, plainly: an array of marks; a simple walk meets no node twice. -/
import Derived.Test.YtgmfifilgbbogaaSAp
import Derived.Test.YtgmfifilgbbogaaRLq
namespace Go.Proofs.Ytgmfifilgbbogaa
open Go.RowKit
set_option linter.unusedSimpArgs false
set_option linter.unusedVariables false
set_option maxRecDepth 100000

def sN (xs : List Int) : List Bool := List.map (fun j : Nat => decide ((j : Int) ∈ xs)) (List.range 17)
theorem sN_len (xs : List Int) : (sN xs).length = 17 := by simp [sN]
theorem sN_nil : sN [] = List.replicate 17 false := by decide
theorem sN_get (xs : List Int) (k : Nat) (hk : k < 17) : (sN xs).getD k false = decide ((k : Int) ∈ xs) := by
  unfold sN
  rw [List.getD_eq_getElem?_getD, List.getElem?_map, List.getElem?_range hk]
  rfl
theorem sN_set (xs : List Int) (k : Nat) (hk : k < 17) : (sN xs).set k true = sN ((k : Int) :: xs) := by
  apply List.ext_getElem?
  intro j
  by_cases hj : j < 17
  · rw [List.getElem?_set]
    unfold sN
    simp only [List.getElem?_map, List.getElem?_range hj, List.length_map, List.length_range, Option.map_some]
    by_cases hkj : k = j
    · subst hkj; simp [hk]
    · simp [hkj, show ¬ (j : Int) = (k : Int) by omega]
  · rw [List.getElem?_eq_none (by simp [sN]; omega), List.getElem?_eq_none (by simp [sN]; omega)]
theorem sN_mem {xs ys : List Int} (h : ∀ x, x ∈ xs ↔ x ∈ ys) : sN xs = sN ys := by
  unfold sN
  simp [h]
/-- an array of marks in a box -/
def ArT (w : World) (p : Nat) (L : List Bool) : Prop := BoxN w p 50 (L.map Value.bool).toArray
theorem ArT.below {w w' : World} {p : Nat} {L : List Bool} (h : ArT w p L) (hb : Below w.heap.size w w') : ArT w' p L := BoxN.below h hb
theorem ArT.at {w : World} {p : Nat} {L : List Bool} (h : ArT w p L) (k : Nat) (hk : k < L.length) : w.cell? ⟨p, k, none⟩ = some (.bool (L.getD k false)) := by
  rw [BoxN.cell h k]
  simp [List.getD_eq_getElem?_getD, hk]
theorem ArT.fz {w : World} {p : Nat} {L : List Bool} (h : ArT w p L) (k : Nat) : w.frozen? ⟨p, k, none⟩ = false := BoxN.frozen h k
theorem ArT.set {w : World} {p : Nat} {L : List Bool} (h : ArT w p L) (k : Nat) (x : Bool) : ArT (w.setCell ⟨p, k, none⟩ (.bool x)) p (L.set k x) := by
  have h1 := heap_setCell_same w p k _ 50 (.bool x) h
  unfold ArT BoxN
  rw [h1]
  simp [List.map_set]
/-- what comes next in a list without repetition is new -/
theorem fresh_at {u : Int} {ys : List Int} (h : (u :: ys).Nodup) {i : Nat} (hi : i < ys.length) : ys.getD i 0 ∉ u :: ys.take i := by
  have h1 : u :: ys = (u :: ys.take i) ++ ys.getD i 0 :: ys.drop (i + 1) := by
    rw [List.getD_eq_getElem?_getD, List.getElem?_eq_getElem hi]
    simp
  rw [h1] at h
  intro hm
  exact (List.nodup_append.1 h).2.2 _ hm _ (List.mem_cons_self ..) rfl
theorem ndl_get {cs : List Ct} {l : List Nat} {i : Nat} (hi : i < l.length) : (ndl cs l).getD i 0 = (cs.getD (l.getD i 0) c0).dt := by
  unfold ndl
  simp [List.getD_eq_getElem?_getD, List.getElem?_eq_getElem hi]
theorem take_next {ys : List Int} {u : Int} {i : Nat} (hi : i < ys.length) : ∀ x, x ∈ ys.getD i 0 :: u :: ys.take i ↔ x ∈ u :: ys.take (i + 1) := by
  intro x
  rw [List.take_add_one, List.getD_eq_getElem?_getD, List.getElem?_eq_getElem hi]
  simp only [List.mem_cons, List.mem_append, Option.toList_some, Option.getD_some, List.mem_nil_iff, or_false]
  constructor
  · rintro (h | h | h)
    · exact .inr (.inr h)
    · exact .inl h
    · exact .inr (.inl h)
  · rintro (h | h | h)
    · exact .inr (.inl h)
    · exact .inr (.inr h)
    · exact .inl h
theorem ints_get (l : List Nat) (i : Nat) : (ints l).getD i 0 = ((l.getD i 0 : Nat) : Int) := by
  unfold ints
  simp only [List.getD_eq_getElem?_getD, List.getElem?_map]
  cases l[i]? <;> simp
/-- what Reach answers, where the arguments are right -/
theorem reach_ok {cs : List Ct} {u t n : Int} (h : chkE cs t n [u] = 0) : ∃ lR, reachV cs u t n = (lR, 0) ∧ lR.length = 16 ∧ ∀ v : Int, 1 ≤ v → v ≤ 16 → lR.getD (v - 1).toNat 0 = arrE cs n u t v := by
  obtain ⟨hp, hq, hno⟩ := chkE_ok h
  refine ⟨_, by unfold reachV; rw [if_neg (by simpa using h)], ?_, fun v hv hv2 => ?_⟩
  · rw [List.length_drop, rchL_len (planOk hp).1 hq.2.2.1 (hno u (by simp)) hq.1 16]
  · unfold arrE gI
    rw [List.getD_eq_getElem?_getD, List.getElem?_drop, List.getD_eq_getElem?_getD, show 1 + (v - 1).toNat = v.toNat by omega, List.getElem?_eq_getElem (by rw [rchL_len (planOk hp).1 hq.2.2.1 (hno u (by simp)) hq.1 16]; omega)]
    rfl
theorem is_ok {cs : List Ct} {u v t n : Int} (h : chkE cs t n [u, v] = 0) : isV cs u v t n = (decide (0 ≤ arrE cs n u t v), 0) := by
  unfold isV
  rw [if_neg (by simpa using h)]
end Go.Proofs.Ytgmfifilgbbogaa
