

/- Links, plainly: faults of frames, pushes, deliveries, faults, what undoes them. No program is named. -/
import Derived.Test.YtimkeafpefkheaaDoorR
namespace Go.Proofs.YtimkeafpefkheaaDoor
set_option linter.unusedSimpArgs false
set_option linter.unusedVariables false
open Go.RowKit

abbrev Fr := ByteArray
def e0 : Fr := ByteArray.empty
/-- a list of texts as cells -/
def tcs (l : List Fr) : List Value := l.map Value.string
@[simp] theorem tcs_length (l : List Fr) : (tcs l).length = l.length := by simp [tcs]
theorem tcs_get (l : List Fr) (i : Nat) (h : i < l.length) : (tcs l)[i]? = some (.string (l.getD i e0)) := by
  simp [tcs, List.getElem?_map, List.getElem?_eq_getElem h]
theorem tcs_append (xs ys : List Fr) : tcs (xs ++ ys) = tcs xs ++ tcs ys := by simp [tcs]
theorem tcs_one (l : List Fr) : ∀ u ∈ tcs l, u.oneCell' = true := by
  intro u hu
  obtain ⟨x, _, rfl⟩ := List.mem_map.1 hu
  rfl
/-- v reads as the texts l -/
def RdT (w : World) (v : Value) (l : List Fr) : Prop := RdS w 1 v l.length (tcs l)
theorem RdT.keep {W w1 : World} {v : Value} {l : List Fr} (hb : Below W.heap.size W w1) (h : RdT W v l) : RdT w1 v l := RdS.keep hb h
theorem RdT.nil (w : World) : RdT w (.slice none 0 0) [] := RdS.nil w 1
theorem RdT.form {w : World} {v : Value} {l : List Fr} (h : RdT w v l) : ∃ a c, v = .slice a l.length c := RdS.form h
theorem RdT.at {w : World} {a : Option Addr} {n c : Nat} {l : List Fr} (h : RdT w (.slice a n c) l) (hn : l.length = n) (k : Nat) (hk : k < n) : ∃ b off, a = some ⟨b, off, none⟩ ∧ n ≤ c ∧ w.cell? ⟨b, off + k, none⟩ = some (.string (l.getD k e0)) := by
  obtain ⟨_, _, ⟨h0, _⟩ | ⟨b, off, cap, hv, hc, hr⟩⟩ := h
  · omega
  · simp only [Value.slice.injEq] at hv
    obtain ⟨rfl, _, rfl⟩ := hv
    exact ⟨b, off, rfl, by omega, hr k _ (tcs_get l k (by omega))⟩
theorem RdT.of_owns {w : World} {base : Nat} {e : TypeId} {v : Value} {l : List Fr} (h : w.ownsRow base e 1 v l.length (tcs l)) : RdT w v l := RdS.of_owns h (by decide)

theorem toList_loop_len (bs : ByteArray) : ∀ (f i : Nat) (r : List UInt8), bs.size - i ≤ f → (ByteArray.toList.loop bs i r).length = r.length + (bs.size - i)
  | 0, i, r, h => by
    unfold ByteArray.toList.loop
    rw [if_neg (by omega), List.length_reverse]
    omega
  | f + 1, i, r, h => by
    unfold ByteArray.toList.loop
    split
    · rw [toList_loop_len bs f (i + 1) _ (by omega), List.length_cons]
      omega
    · rw [List.length_reverse]; omega
theorem toList_len (s : ByteArray) : s.toList.length = s.size := by
  unfold ByteArray.toList
  rw [toList_loop_len s s.size 0 [] (by omega)]
  simp
theorem emp_yes {s : ByteArray} (h : s.size = 0) : s.toList.isEmpty = true := by
  rw [List.isEmpty_iff, ← List.length_eq_zero_iff, toList_len, h]
theorem emp_no {s : ByteArray} (h : s.size ≠ 0) : s.toList.isEmpty = false := by
  rw [List.isEmpty_eq_false_iff, ne_eq, ← List.length_eq_zero_iff, toList_len]; exact h
/-- what is at fault with a frame -/
def oneE (s : Fr) : Int := if s.size = 0 then 2 else if 1200 < s.size then 4 else 0
/-- the first fault among the first k frames, and its number -/
def scanL (l : List Fr) : Nat → Int × Int
  | 0 => (0, 0)
  | k + 1 => if (scanL l k).1 ≠ 0 then scanL l k else if oneE (l.getD k e0) ≠ 0 then (oneE (l.getD k e0), k) else (0, 0)
def chkL (l : List Fr) : Int × Int := if 64 < l.length then (5, 0) else scanL l l.length
theorem scanL_zero {l : List Fr} : ∀ k, (∀ j, j < k → oneE (l.getD j e0) = 0) → scanL l k = (0, 0)
  | 0, _ => rfl
  | k + 1, h => by
    unfold scanL
    rw [scanL_zero k fun j hj => h j (by omega), if_neg (by simp), if_neg (by rw [h k (by omega)]; simp)]
theorem scanL_fail {l : List Fr} {k : Nat} (h : ∀ j, j < k → oneE (l.getD j e0) = 0) (hk : oneE (l.getD k e0) ≠ 0) : ∀ n, k < n → scanL l n = (oneE (l.getD k e0), (k : Int))
  | 0, h0 => by omega
  | n + 1, hn => by
    unfold scanL
    by_cases he : k = n
    · subst he
      rw [scanL_zero k h, if_neg (by simp), if_pos hk]
    · rw [scanL_fail h hk n (by omega), if_pos hk]
theorem scanL_ok {l : List Fr} : ∀ k, (scanL l k).1 = 0 → ∀ j, j < k → oneE (l.getD j e0) = 0
  | 0, _, j, hj => by omega
  | k + 1, h, j, hj => by
    unfold scanL at h
    by_cases h1 : (scanL l k).1 ≠ 0
    · rw [if_pos h1] at h; exact absurd h h1
    · rw [if_neg h1] at h
      by_cases h2 : oneE (l.getD k e0) ≠ 0
      · rw [if_pos h2] at h; exact absurd h h2
      · by_cases hjk : j = k
        · subst hjk; simpa using h2
        · exact scanL_ok k (by simpa using h1) j (by omega)
theorem chkL_zero {l : List Fr} (h : (chkL l).1 = 0) : l.length ≤ 64 ∧ ∀ j, j < l.length → 1 ≤ (l.getD j e0).size ∧ (l.getD j e0).size ≤ 1200 := by
  unfold chkL at h
  by_cases h1 : 64 < l.length
  · rw [if_pos h1] at h; cases h
  · rw [if_neg h1] at h
    refine ⟨by omega, fun j hj => ?_⟩
    have := scanL_ok _ h j hj
    unfold oneE at this
    by_cases h2 : (l.getD j e0).size = 0
    · rw [if_pos h2] at this; cases this
    · rw [if_neg h2] at this
      by_cases h3 : 1200 < (l.getD j e0).size
      · rw [if_pos h3] at this; cases this
      · omega
/-- what a push makes -/
def pushV (l : List Fr) (f : Fr) : List Fr × Bool × Int :=
  if (chkL l).1 ≠ 0 then ([], false, (chkL l).1) else if oneE f ≠ 0 then ([], false, oneE f) else if l.length = 64 then (l, false, 0) else (l ++ [f], true, 0)
/-- what a delivery makes -/
def delV (l : List Fr) (i : Int) : List Fr × Fr × Int :=
  if (chkL l).1 ≠ 0 then ([], e0, (chkL l).1) else if i < 0 ∨ (l.length : Int) ≤ i then ([], e0, 2) else (l.take i.toNat ++ l.drop (i.toNat + 1), l.getD i.toNat e0, 0)
/-- a fault -/
structure Tr where
  k : Int
  i : Int
  j : Int
  b : Int
abbrev Tr.v (t : Tr) : Value := .agg #[.int .i64 t.k, .int .i64 t.i, .int .i64 t.j, .int .i64 t.b]
/-- whether J and By are possible -/
def fitT (l : List Fr) (t : Tr) : Bool :=
  if t.k = 1 ∨ t.k = 2 then decide (t.j = 0) && decide (t.b = 0)
  else if t.k = 3 then decide (0 ≤ t.j) && decide (t.j < l.length) && decide (t.b = 0)
  else if t.k = 4 then decide (0 ≤ t.j) && decide (t.j < (l.getD t.i.toNat e0).size) && decide (1 ≤ t.b) && decide (t.b ≤ 255)
  else decide (1 ≤ t.j) && decide (t.j < (l.getD t.i.toNat e0).size) && decide (t.b = 0)
/-- the error of a fault -/
def apE (l : List Fr) (t : Tr) : Int :=
  if (chkL l).1 ≠ 0 then (chkL l).1 else if t.k < 1 ∨ 5 < t.k then 7 else if t.i < 0 ∨ (l.length : Int) ≤ t.i then 2
  else if t.k = 2 ∧ l.length = 64 then 5 else if fitT l t = false then 2 else 0
end Go.Proofs.YtimkeafpefkheaaDoor
