


/- The queue of stops: container/heap at it: Push, Pop. -/
import Derived.Test.YtgmfifilgbbogaaQV
namespace Go.Proofs.Ytgmfifilgbbogaa
open Go.RowKit
set_option linter.unusedSimpArgs false
set_option linter.unusedVariables false
set_option maxRecDepth 100000

theorem swp_last (l : List Tm) (i n : Nat) (hl : l.length = n + 1) (hi : i ≤ n) : swp l i n = cutL l i ++ [g l i] := by
  refine ext_g (by rw [swp_len, List.length_append, cut_len]; simp; omega) fun k hk => ?_
  rw [swp_len] at hk
  rw [swp_get l _ _ _ (by omega) (by omega)]
  by_cases hkl : n = k
  · rw [if_pos hkl]
    unfold g
    rw [List.getD_eq_getElem?_getD (l := cutL l i ++ _), List.getElem?_append_right (by rw [cut_len]; omega), cut_len, ← hkl, hl, show n - (n + 1 - 1) = 0 by omega]
    rfl
  · rw [if_neg hkl, g_app_l (by rw [cut_len]; omega), cut_get l i k (by omega) (by omega), hl]
    rfl
theorem cut_last (l : List Tm) (n : Nat) (hl : l.length = n + 1) : cutL l n = l.take n := by
  unfold cutL
  rw [hl, show n + 1 - 1 = n from rfl, List.take_set_of_le (Nat.le_refl n)]
theorem out0 (l : List Tm) : (dn (cutL l 0) 0).1 = outL l 0 := by
  unfold outL
  by_cases h : 0 = l.length - 1
  · rw [if_pos h]
    have : cutL l 0 = [] := List.length_eq_zero_iff.1 (by rw [cut_len]; omega)
    rw [this]
    rfl
  · rw [if_neg h, show up (cutL l 0) 0 = (cutL l 0, 0) from rfl, if_neg (fun h => h rfl)]
theorem g_last (m : List Tm) (x : Tm) (n : Nat) (hm : m.length = n) : g (m ++ [x]) n = x := by
  unfold g
  rw [List.getD_eq_getElem?_getD, List.getElem?_append_right (by omega), hm, Nat.sub_self]
  rfl
theorem take_last (m : List Tm) (x : Tm) (n : Nat) (hm : m.length = n) : (m ++ [x]).take n = m := by
  rw [List.take_append_of_le_length (by omega), ← hm, List.take_length]
theorem TM.cast {w : World} {base P : Nat} {v : Value} {l m : List Tm} (h : TM w base P v l) (e : l = m) : TM w base P v m := e ▸ h
set_option maxHeartbeats 2000000 in
theorem hpush_any (w : World) (base P : Nat) (v : Value) (l : List Tm) (x : Tm) (hl : l.length ≤ 90000) (h : TM w base P v l) : Calls Try.prog 56 #[.iface 81 (.pointer (some ⟨P, 0, none⟩)), .iface 83 x.v] w fun e w' => e = .returned (.tuple #[]) ∧ ∃ v', TM w' base P v' (putL l x) ∧ TR w P v w' v' := by
  have HT := Lib.hid h
  have mLHT := HT.out.mL
  have mSHT := HT.out.mS
  have mNHT := HT.out.mN
  have HPU : Hid ((up (l ++ [x]) l.length).1 = putL l x) := rfl
  obtain ⟨N, hN⟩ : ∃ N, l.length = N := ⟨_, rfl⟩
  rw [hN] at HPU hl
  have HN : Hid ((l ++ [x]).length = N + 1) := by unfold Hid; rw [List.length_append, hN]; rfl
  have HN0 := Lib.hid hN
  have hmP : (∀ w : World, (method 232 81 (.pointer (some ⟨P, 0, none⟩)) "Push").run Try.prog w = .ok (105, .pointer (some ⟨P, 0, none⟩)) w) := fun _ => by kernel_rfl
  have hw : IntKind.i64.wrap (((N + 1 : Nat) : Int) - 1) = (N : Int) := by rw [show ((N + 1 : Nat) : Int) - 1 = (N : Int) by omega]; exact IntWalk.i64_in _ (by omega)
  clear h hN
  go_enter Try.func56, Try.ntmps56
  go_wp2_with fail
  refine (push_any _ base P v l x (by rw [HN0.out]; omega) HT.out).mono ?_
  rintro e w1 ⟨rfl, v1, hT1, hR1⟩
  have HT1 := Lib.hid hT1
  have mLHT1 := HT1.out.mL
  have mSHT1 := HT1.out.mS
  have mNHT1 := HT1.out.mN
  have HR1 := Lib.hid hR1
  clear hT1 hR1
  go_wp2_with fail
  refine (len_any _ base P v1 (l ++ [x]) HT1.out).mono ?_
  rw [HN.out]
  rintro e w2 ⟨rfl, rfl⟩
  obtain ⟨NN, hNN⟩ : ∃ z : Int, z = ((N + 1 : Nat) : Int) := ⟨_, rfl⟩
  rw [← hNN] at hw ⊢
  clear hNN
  go_wp2_with fail
  refine (hup_any _ base P v1 (l ++ [x]) [] N (by rw [HN.out]; omega) (HT1.out.cast (List.append_nil _).symm)).mono ?_
  rw [HPU.out]
  rintro e w3 ⟨rfl, hT3, hR3⟩
  have HF : Hid (∃ v', TM w3 base P v' (putL l x) ∧ TR w P v w3 v') := ⟨v1, hT3.cast (List.append_nil _), HR1.out.trans hR3⟩
  clear hT3 hR3
  go_wp2_with fail
  exact bodyPost_end (results_none rfl _ _ _) rfl ⟨rfl, HF.out⟩
set_option maxHeartbeats 2000000 in
theorem hpop_any (w : World) (base P : Nat) (v : Value) (l : List Tm) (n : Nat) (hl : l.length = n + 1) (h : TM w base P v l) : Calls Try.prog 55 #[.iface 81 (.pointer (some ⟨P, 0, none⟩))] w fun e w' => e = .returned (.iface 83 (g l 0).v) ∧ ∃ v', TM w' base P v' (outL l 0) ∧ TR w P v w' v' ∧ ∀ k, v'.ownBlock = some k → v.ownBlock = some k := by
  have HT := Lib.hid h
  have mLHT := HT.out.mL
  have mSHT := HT.out.mS
  have mNHT := HT.out.mN
  have hn : n ≤ 100000 := by have := h.len; omega
  have HL := Lib.hid hl
  have HC : Hid ((cutL l 0).length = n) := by unfold Hid; rw [cut_len, hl]; rfl
  have hmP : (∀ w : World, (method 232 81 (.pointer (some ⟨P, 0, none⟩)) "Pop").run Try.prog w = .ok (104, .pointer (some ⟨P, 0, none⟩)) w) := fun _ => by kernel_rfl
  have hw : IntKind.i64.wrap (((n + 1 : Nat) : Int) - 1) = (n : Int) := by rw [show ((n + 1 : Nat) : Int) - 1 = (n : Int) by omega]; exact IntWalk.i64_in _ (by omega)
  clear h hl
  go_enter Try.func55, Try.ntmps55
  go_wp2_with fail
  refine (len_any _ base P v l HT.out).mono ?_
  rw [HL.out]
  rintro e w2 ⟨rfl, rfl⟩
  obtain ⟨NN, hNN⟩ : ∃ z : Int, z = ((n + 1 : Nat) : Int) := ⟨_, rfl⟩
  rw [← hNN] at hw ⊢
  clear hNN
  go_wp2_with fail
  refine (swap_any _ base P v l 0 n (by rw [HL.out]; omega) (by rw [HL.out]; omega) HT.out).mono ?_
  rw [swp_last l 0 n HL.out (Nat.zero_le _)]
  rintro e w3 ⟨rfl, hT3, hk3⟩
  have HT3 := Lib.hid hT3
  have mLHT3 := HT3.out.mL
  have mSHT3 := HT3.out.mS
  have mNHT3 := HT3.out.mN
  have HR3 := Lib.hid (TR.swap (P := P) hk3)
  clear hT3 hk3
  have HDW := fun wx (hT : TM wx base P v (cutL l 0 ++ [g l 0])) => Lib.hid (hdown_any wx base P v (cutL l 0) [g l 0] 0 (Nat.zero_le _) hT)
  rw [HC.out] at HDW
  go_wp2_with fail
  refine (HDW _ HT3.out).out.mono ?_
  rw [out0]
  rintro e w4 ⟨rfl, hT4, hR4⟩
  have HT4 := Lib.hid hT4
  have mLHT4 := HT4.out.mL
  have mSHT4 := HT4.out.mS
  have mNHT4 := HT4.out.mN
  have HR4 := Lib.hid (HR3.out.trans hR4)
  have HOL : Hid ((outL l 0).length = n) := by unfold Hid; rw [out_len, HL.out]; rfl
  obtain ⟨b, hb⟩ : ∃ b, decide (0 < (dn (cutL l 0) 0).2) = b := ⟨_, rfl⟩
  rw [hb]
  clear hT4 hR4 hb
  go_wp2_with fail
  refine (pop_any _ base P v (outL l 0 ++ [g l 0]) n (by rw [List.length_append, HOL.out]; rfl) HT4.out).mono ?_
  rw [g_last _ _ n HOL.out, take_last _ _ n HOL.out]
  rintro e w5 ⟨rfl, v5, hT5, hR5, hv5⟩
  have HF : Hid (∃ v', TM w5 base P v' (outL l 0) ∧ TR w P v w5 v' ∧ ∀ k, v'.ownBlock = some k → v.ownBlock = some k) := ⟨v5, hT5, HR4.out.trans hR5, hv5⟩
  clear hv5
  clear hT5 hR5
  go_wp2_with fail
  go_ret
  exact ⟨rfl, HF.out⟩
end Go.Proofs.Ytgmfifilgbbogaa
