

/- Links: LinkOrder holds of what is computed (walk). -/
import Derived.Test.YtimkeafpefkheaaDoorTb
import Derived.Test.YtimkeafpefkheaaDoorKn
namespace Go.Proofs.YtimkeafpefkheaaDoor
open Go.RowKit
set_option linter.unusedSimpArgs false
set_option linter.unusedVariables false
set_option maxRecDepth 100000

theorem take_succ_getD {l : List Fr} {k : Nat} (hk : k < l.length) : l.take (k + 1) = l.take k ++ [l.getD k e0] := by
  rw [List.take_add_one, List.getElem?_eq_getElem hk, List.getD_eq_getElem?_getD, List.getElem?_eq_getElem hk]
  rfl
theorem push_take {l : List Fr} (h64 : l.length ≤ 64) {k : Nat} (hk : k < l.length) (h : ∀ j, j ≤ k → 1 ≤ (l.getD j e0).size ∧ (l.getD j e0).size ≤ 40) : pushV (l.take k) (l.getD k e0) = (l.take (k + 1), true, 0) := by
  have hs : ∀ s, s ∈ l.take k → 1 ≤ s.size ∧ s.size ≤ 1200 := by
    intro s hs
    obtain ⟨j, hj, rfl⟩ := mem_getD hs
    rw [List.length_take] at hj
    have := h j (by omega)
    rw [show (l.take k).getD j e0 = l.getD j e0 by rw [List.getD_eq_getElem?_getD, List.getD_eq_getElem?_getD, List.getElem?_take, if_pos (by omega)]]
    omega
  have hc : (chkL (l.take k)).1 = 0 := by rw [chk_ok (by rw [List.length_take]; omega) hs]
  have := h k (Nat.le_refl _)
  unfold pushV
  rw [if_neg (by simpa using hc), if_neg (by unfold oneE; rw [if_neg (by omega), if_neg (by omega)]; simp), if_neg (by rw [List.length_take]; omega), take_succ_getD hk]
theorem del_drop {l : List Fr} (h64 : l.length ≤ 64) {k : Nat} (hk : k < l.length) (h : ∀ j, j < l.length → 1 ≤ (l.getD j e0).size ∧ (l.getD j e0).size ≤ 40) : delV (l.drop k) 0 = (l.drop (k + 1), l.getD k e0, 0) := by
  have hs : ∀ s, s ∈ l.drop k → 1 ≤ s.size ∧ s.size ≤ 1200 := by
    intro s hs
    obtain ⟨j, hj, rfl⟩ := mem_getD (List.mem_of_mem_drop hs)
    have := h j hj
    omega
  have hc : (chkL (l.drop k)).1 = 0 := by rw [chk_ok (by rw [List.length_drop]; omega) hs]
  unfold delV
  rw [if_neg (by simpa using hc), if_neg (by rw [List.length_drop]; omega)]
  simp only [Int.toNat_zero, List.take_zero, List.nil_append, Nat.zero_add, List.drop_drop]
  rw [show (l.drop k).getD 0 e0 = l.getD k e0 by rw [List.getD_eq_getElem?_getD, List.getD_eq_getElem?_getD, List.getElem?_drop]; rfl]
theorem szs_take {l : List Fr} (hz : Szs l) (k : Nat) : Szs (l.take k) := fun s hs => hz s (List.mem_of_mem_take hs)
theorem szs_drop {l : List Fr} (hz : Szs l) (k : Nat) : Szs (l.drop k) := fun s hs => hz s (List.mem_of_mem_drop hs)
set_option maxHeartbeats 4000000 in
theorem order_any (v : Value) (l : List Fr) (hz : Szs l) (w : World) (hkd : KD w) (h : RdT w v l) :
    Calls Tryd.prog 6 #[v] w fun x w' => x = .returned (.bool true) ∧ Below w.heap.size w w' := by
  have HKD := Lib.hid hkd
  have HZ := Lib.hid hz
  obtain ⟨a0, n0, rfl⟩ := h.form
  have hmx := h.2.1
  unfold maxLen at hmx
  obtain ⟨N, hN⟩ : ∃ N, l.length = N := ⟨_, rfl⟩
  rw [hN] at h hmx ⊢
  have HN := Lib.hid hN
  have HR := Lib.hid h
  clear hkd h hz hN
  go_enter Tryd.func6, Tryd.ntmps6
  go_wp2_with fail
  refine (known_any _ HKD.out).mono ?_
  rintro x w1 ⟨rfl, hB⟩
  have HR := Lib.hid (HR.out.keep hB)
  clear HKD
  by_cases h64 : 64 < N
  · have d1 : decide ((64 : Int) < (N : Int)) = true := yb (by omega)
    go_wp2_with fail
    go_ret
    exact ⟨rfl, hB⟩
  · have d1 : decide ((64 : Int) < (N : Int)) = false := nb (by omega)
    go_wp2_with fail
    go_loopw [4, 5] (fun u i wr => ∃ k : Nat, k ≤ N ∧ i = .int .i64 k ∧ RdT wr u (l.take k) ∧ Below w1.heap.size w1 wr ∧ ∀ j, j < k → 1 ≤ (l.getD j e0).size ∧ (l.getD j e0).size ≤ 40) (fun _ i _ => N - (intOf i).toNat)
    case atStart => exact ⟨0, Nat.zero_le _, rfl, by rw [List.take_zero]; exact RdT.nil _, Below.refl _ _, fun j hj => by omega⟩
    case round =>
      obtain ⟨k, hk, rfl, hv, hBr, hz0⟩ := hrel
      have HZ0 := Lib.hid hz0
      have HV := Lib.hid hv
      clear hv hz0
      by_cases hlt : k < N
      · have d2 : decide ((k : Int) < (N : Int)) = true := yb (by omega)
        obtain ⟨b, off, rfl, hcap, hc⟩ := RdT.at (HR.out.keep hBr) HN.out k hlt
        obtain ⟨s, HS⟩ : ∃ s, Hid (l.getD k e0 = s) := ⟨_, rfl⟩
        have hsz := HZ.out.get (k := k) (by rw [HN.out]; exact hlt)
        rw [HS.out] at hc hsz
        have i1 : (0 : Int) ≤ (k : Int) := by omega
        have i2 : (k : Int) < (N : Int) := by omega
        have hwk : IntKind.i64.wrap (k : Int) = (k : Int) := IntWalk.i64_in _ (by omega)
        have hwk1 : IntKind.i64.wrap ((k : Int) + 1) = (k : Int) + 1 := IntWalk.i64_in _ (by omega)
        by_cases c1 : (s.size : Int) < 1
        · have e1 : decide ((s.size : Int) < 1) = true := yb c1
          clear c1
          go_wp2_with fail
          go_ret
          exact ⟨rfl, Below.next hB hBr⟩
        · have e1 : decide ((s.size : Int) < 1) = false := nb c1
          by_cases c2 : (40 : Int) < (s.size : Int)
          · have e2 : decide ((40 : Int) < (s.size : Int)) = true := yb c2
            clear c1 c2
            go_wp2_with fail
            go_ret
            exact ⟨rfl, Below.next hB hBr⟩
          · have e2 : decide ((40 : Int) < (s.size : Int)) = false := nb c2
            have HP := Lib.hid (push_take (l := l) (k := k) (by rw [HN.out]; omega) (by rw [HN.out]; exact hlt) (fun j hj => by
              by_cases hjk : j = k
              · subst hjk; rw [HS.out]; omega
              · exact HZ0.out j (by omega)))
            rw [HS.out] at HP
            have HSZ : Hid (1 ≤ s.size ∧ s.size ≤ 40) := by unfold Hid; omega
            have HTL : Hid ((l.take (k + 1)).length = k + 1) := by unfold Hid; rw [List.length_take, HN.out]; omega
            clear c1 c2
            go_wp2_with fail
            refine (push_any _ (l.take k) (szs_take HZ.out k) s hsz _ HV.out).mono ?_
            rw [HP.out]
            rintro x w2 ⟨v2, rfl, hr2, hb2⟩
            obtain ⟨a2, c2, rfl⟩ := hr2.form
            rw [HTL.out] at hr2 ⊢
            have HR2 := Lib.hid hr2
            have hB2 := Below.next hBr hb2
            clear hr2 hb2
            have dk : (((k + 1 : Nat) : Int) != (k : Int) + 1) = false := by simp
            go_wp2_with fail
            go_roundw
            case rel => exact ⟨k + 1, by omega, by go_num, HR2.out, hB2, fun j hj => by
              by_cases hjk : j = k
              · subst hjk; rw [HS.out]; exact HSZ.out
              · exact HZ0.out j (by omega)⟩
            case measure => simp [intOf]; omega
      · obtain rfl : k = N := by omega
        have d2 : decide ((k : Int) < (k : Int)) = false := nb (by omega)
        have HV2 : Hid (RdT wr u4 (l.drop 0)) := by unfold Hid; rw [List.drop_zero]; have := HV.out; rwa [← HN.out, List.take_length] at this
        have HR := Lib.hid (HR.out.keep hBr)
        have hB := Below.next hB hBr
        clear hBr HV
        go_wp2_with fail
        go_loopw [4, 9] (fun u i wr2 => ∃ m : Nat, m ≤ k ∧ i = .int .i64 m ∧ RdT wr2 u (l.drop m) ∧ Below wr.heap.size wr wr2) (fun _ i _ => k - (intOf i).toNat)
        case atStart => exact ⟨0, Nat.zero_le _, rfl, HV2.out, Below.refl _ _⟩
        case round =>
          obtain ⟨m, hm, rfl, hv, hBr⟩ := hrel
          have HV := Lib.hid hv
          clear hv HV2
          by_cases hlt : m < k
          · have d3 : decide ((m : Int) < (k : Int)) = true := yb (by omega)
            obtain ⟨b, off, rfl, hcap, hc⟩ := RdT.at (HR.out.keep hBr) HN.out m hlt
            obtain ⟨s, HS⟩ : ∃ s, Hid (l.getD m e0 = s) := ⟨_, rfl⟩
            rw [HS.out] at hc
            have i1 : (0 : Int) ≤ (m : Int) := by omega
            have i2 : (m : Int) < (k : Int) := by omega
            have hwm : IntKind.i64.wrap (m : Int) = (m : Int) := IntWalk.i64_in _ (by omega)
            have HD := Lib.hid (del_drop (l := l) (k := m) (by rw [HN.out]; omega) (by rw [HN.out]; exact hlt) (by rw [HN.out]; exact HZ0.out))
            rw [HS.out] at HD
            have HDL : Hid ((l.drop (m + 1)).length = k - (m + 1)) := by unfold Hid; rw [List.length_drop, HN.out]
            go_wp2_with fail
            refine (deliver_any _ (l.drop m) (szs_drop HZ.out m) 0 (by constructor <;> decide) _ HV.out).mono ?_
            rw [HD.out]
            rintro x w2 ⟨v2, rfl, hr2, hb2⟩
            obtain ⟨a2, c2, rfl⟩ := hr2.form
            rw [HDL.out] at hr2 ⊢
            have HR2 := Lib.hid hr2
            have hc := cell_later hb2 hc
            have hB2 := Below.next hBr hb2
            clear hr2 hb2
            have hw1 : IntKind.i64.wrap ((k : Int) - (m : Int)) = (k : Int) - (m : Int) := IntWalk.i64_in _ (by omega)
            have hw2 : IntKind.i64.wrap ((k : Int) - (m : Int) - 1) = (k : Int) - (m : Int) - 1 := IntWalk.i64_in _ (by omega)
            have dk : (((k - (m + 1) : Nat) : Int) != (k : Int) - (m : Int) - 1) = false := by simp; omega
            go_wp2_with fail
            go_roundw
            case rel => exact ⟨m + 1, by omega, by go_num, HR2.out, hB2⟩
            case measure => simp [intOf]; omega
          · obtain rfl : m = k := by omega
            have d3 : decide ((m : Int) < (m : Int)) = false := nb (by omega)
            go_wp2_with fail
            go_ret
            exact ⟨rfl, Below.next hB hBr⟩
end Go.Proofs.YtimkeafpefkheaaDoor
