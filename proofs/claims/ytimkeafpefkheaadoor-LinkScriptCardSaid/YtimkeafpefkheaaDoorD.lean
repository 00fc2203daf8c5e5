

/- Links: one frame taken out of a list of one's own. -/
import Derived.Test.YtimkeafpefkheaaDoorC
namespace Go.Proofs.YtimkeafpefkheaaDoor
open Go.RowKit
set_option linter.unusedSimpArgs false
set_option linter.unusedVariables false
set_option maxRecDepth 100000

/-- the list without one of its frames -/
def lessV (l : List Fr) (i : Nat) : List Fr := l.take i ++ l.drop (i + 1)
theorem lessV_len (l : List Fr) {i : Nat} (h : i < l.length) : (lessV l i).length = l.length - 1 := by
  unfold lessV; rw [List.length_append, List.length_take, List.length_drop]; omega
/-- the bytes of a text -/
abbrev byt (s : Fr) : List UInt8 := s.data.toList
theorem enc_byt (s : Fr) : encStr (byt s) = .string s := by
  show Value.string ⟨s.data.toList.toArray⟩ = _
  simp
theorem enc_map (l : List Fr) : (l.map byt).map encStr = tcs l := by
  unfold tcs
  rw [List.map_map]
  apply List.map_congr_left
  intro s _
  exact enc_byt s
theorem below_putRow {w W : World} {n g off : Nat} {d : Array (List UInt8)} (h : Below n w W) (hg : n ≤ g) : Below n w (Sort.putRow encStr W g off d) := by
  refine h.trans ⟨rfl, rfl, rfl, by rw [Sort.size_putRow]; exact Nat.le_refl _, fun k hk => ?_⟩
  unfold Sort.putRow Sort.mapBlock
  simp [Array.getElem?_modify, show g ≠ k by omega]
theorem below_ahead {w W : World} {n : Nat} (h : Below n w W) (q : Nat) : Below n w (Sort.ahead W q) := h.trans ⟨rfl, rfl, rfl, Nat.le_refl _, fun _ _ => rfl⟩
theorem holds_own {w : World} {base : Nat} {g n c : Nat} {l : List Fr} (h : w.ownsRow base 9 1 (.slice (some ⟨g, 0, none⟩) n c) n (tcs l)) (hn : l.length = n) : Sort.Holds encStr w g 0 (l.map byt).toArray := by
  obtain ⟨hl, ⟨hv, _⟩ | ⟨g', cap, cur, hv, hg, hh, hc, hm, hs, ht⟩⟩ := h
  · cases hv
  · simp only [Value.slice.injEq, Option.some.injEq, Addr.mk.injEq, and_true, true_and] at hv
    obtain ⟨rfl, rfl⟩ := hv
    intro j hj
    simp at hj
    refine ⟨?_, by simp [World.frozen?, hh]⟩
    have h1 : (tcs l)[j]? = some (.string (l.getD j e0)) := tcs_get l j hj
    rw [← ht, List.getElem?_take] at h1
    split at h1
    · rw [Nat.zero_add]
      unfold World.cell?
      simp only [hh]
      rw [show cur[j]? = cur.toList[j]? by simp, h1]
      congr 1
      rw [← enc_byt]
      congr 1
      rw [getElem!_pos _ _ (by simpa using hj)]
      simp [List.getD_eq_getElem?_getD, List.getElem?_eq_getElem hj]
    · cases h1
theorem rdT_holds {w : World} {g c : Nat} {l : List Fr} {zs : List (List UInt8)} (h : Sort.Holds encStr w g 0 zs.toArray) (hz : ∀ j, j < l.length → zs[j]? = some (byt (l.getD j e0))) (hc : l.length ≤ c) (hm : l.length ≤ maxLen) : RdT w (.slice (some ⟨g, 0, none⟩) l.length c) l := by
  refine ⟨by simp, hm, .inr ⟨g, 0, c, rfl, hc, fun j u hj => ?_⟩⟩
  have hjl : j < l.length := by have := (List.getElem?_eq_some_iff.1 hj).1; simpa using this
  rw [tcs_get l j hjl] at hj
  cases hj
  have h1 := hz j hjl
  obtain ⟨h2, h3⟩ := List.getElem?_eq_some_iff.1 h1
  have h4 := (h j (by simpa using h2)).1
  rw [h4]
  congr 1
  rw [getElem!_pos _ _ (by simpa using h2)]
  rw [show zs.toArray[j] = byt (l.getD j e0) by simpa using h3, enc_byt]
theorem del_own (a : Option Addr) (c base : Nat) (l : List Fr) (i : Nat) (hi : i < l.length) (w : World) (h : w.ownsRow base 9 1 (.slice a l.length c) l.length (tcs l)) :
    Calls Tryd.prog 36 #[.slice a l.length c, .int .i64 (i : Int), .int .i64 ((i : Int) + 1)] w fun x w' => ∃ c', x = .returned (.slice a (l.length - 1) c') ∧ RdT w' (.slice a (l.length - 1) c') (lessV l i) ∧ Below base w w' := by
  have h' := h
  obtain ⟨hl, ⟨hv, _⟩ | ⟨g, cap, cur, hv, hg, hh, hc, hm, hs, ht⟩⟩ := h'
  · simp only [Value.slice.injEq] at hv; omega
  · simp only [Value.slice.injEq, true_and] at hv
    obtain ⟨rfl, rfl⟩ := hv
    have hH := holds_own h rfl
    have hlen : (l.map byt).length = l.length := by simp
    have hd := Tryd.slices_Delete_string g 0 c i (i + 1) (l.map byt) w hH (by rw [hlen]; exact hc) (by unfold maxLen at hm; omega) (by omega) (by rw [hlen]; omega)
    rw [hlen] at hd
    rw [show ((i : Int) + 1) = ((i + 1 : Nat) : Int) by push_cast; rfl]
    refine hd.mono ?_
    rintro x w' ⟨rfl, q, rfl⟩
    rw [show i + 1 - i = 1 by omega]
    have hH2 : Sort.Holds encStr (Sort.ahead w q) g 0 (l.map byt).toArray := hH
    have hsz : ((l.map byt).take i ++ (l.map byt).drop (i + 1) ++ List.replicate 1 []).toArray.size = (l.map byt).toArray.size := by
      simp; omega
    have hH3 := Sort.holds_putRow encStr (Sort.ahead w q) g 0 _ _ hH2 hsz
    refine ⟨c, rfl, ?_, below_putRow (below_ahead (Below.refl _ _) q) hg⟩
    rw [← lessV_len l hi]
    refine rdT_holds hH3 (fun j hj => ?_) (by rw [lessV_len l hi]; omega) (by rw [lessV_len l hi]; have := hm; omega)
    rw [← List.map_take, ← List.map_drop, ← List.map_append, List.getElem?_append_left (by simpa [lessV] using hj), List.getElem?_map]
    rw [show l.take i ++ l.drop (i + 1) = lessV l i from rfl, List.getElem?_eq_getElem hj, List.getD_eq_getElem?_getD, List.getElem?_eq_getElem hj]
    rfl
end Go.Proofs.YtimkeafpefkheaaDoor
