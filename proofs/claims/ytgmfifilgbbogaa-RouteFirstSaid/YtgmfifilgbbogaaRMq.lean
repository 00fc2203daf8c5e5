


/- Routes: the program's Is, Reach, latest. -/
import Derived.Test.YtgmfifilgbbogaaRLq
import Derived.Test.YtgmfifilgbbogaaRH
namespace Go.Proofs.Ytgmfifilgbbogaa
open Go.RowKit
set_option linter.unusedSimpArgs false
set_option linter.unusedVariables false
set_option maxRecDepth 100000

theorem run_index_ar (w : World) (L : List Int) (v : Int) (hl : L.length = 17) (h0 : 0 ≤ v) (h1 : v < 17) : (Instr.index 63 (.agg (ic .i64 L).toArray) (.int .i64 v)).run Try.prog w = .ok (.int .i64 (L.getD v.toNat 0)) w := by
  have hu : (underlying 63).run Try.prog w = .ok (.array 17 3) w := by kernel_rfl
  have hs : (sizeOf 3).run Try.prog w = .ok 1 w := by kernel_rfl
  have hg : (isAgg 3).run Try.prog w = .ok false w := by kernel_rfl
  have hv := ic_get .i64 L v.toNat (by omega)
  unfold Instr.index
  simp only [asIntOf, Sem.run_bind, Sem.run_pure, Result.andThen_ok, hu]
  rw [if_pos ⟨h0, by simpa using h1⟩]
  simp only [Sem.run_bind, hs, Result.andThen_ok, Nat.mul_one, part, hg]
  simp [hv]
set_option maxHeartbeats 2000000 in
theorem is_any (pv : Value) (cs : List Ct) (u v t n : Int) (hwf : ∀ c, c ∈ cs → Wf c) (w : World) (hr : RdC w pv cs) :
    Calls Try.prog 15 #[pv, .int .i64 u, .int .i64 v, .int .i64 t, .int .i64 n] w fun e w' => e = .returned (.tuple #[.bool (isV cs u v t n).1, .int .i64 (isV cs u v t n).2]) ∧ Below w.heap.size w w' := by
  obtain ⟨a0, n0, rfl⟩ := hr.form
  obtain ⟨W2, hW2⟩ : ∃ V : World, V = w.alloc (.cells #[.int .i64 u, .int .i64 v] 3) := ⟨_, rfl⟩
  have hb2 : Below w.heap.size w W2 := by rw [hW2]; exact (by repeat (first | assumption | exact Below.refl _ _ | apply Below.al | apply below_drewN | apply Below.drew | refine Below.next ?_ (by assumption)))
  have hri : RdI .i64 W2 (.slice (some ⟨w.heap.size, 0, none⟩) 2 2) [u, v] := by rw [hW2]; exact RdI.two w u v
  have hC := checked_any (.slice a0 cs.length n0) (.slice (some ⟨w.heap.size, 0, none⟩) 2 2) cs t n [u, v] hwf W2 (hr.keep hb2) hri
  obtain ⟨b, y, HV⟩ : ∃ b y, Hid (isV cs u v t n = (b, y)) := ⟨_, _, Lib.hid rfl⟩
  rw [HV.out]
  have hv := HV.out
  unfold isV at hv
  obtain ⟨er, her⟩ : ∃ er, chkE cs t n [u, v] = er := ⟨_, rfl⟩
  rw [her] at hv hC
  have HC := Lib.hid hC
  have HE := Lib.hid her
  have HR := Lib.hid hr
  have HB2 := Lib.hid hb2
  clear hC her hr HV hri hb2
  go_enter Try.func15, Try.ntmps15
  go_wp2_with (go_at_call 36; rw [← hW2]; refine HC.out.mono ?_)
  rintro e w1 ⟨rfl, hb1⟩
  have hb1 := Below.next HB2.out hb1
  clear hW2
  by_cases h0 : er = 0
  · subst h0
    rw [if_neg (by simp)] at hv
    obtain ⟨hp, hq, hno⟩ := chkE_ok HE.out
    obtain ⟨hpk, hpl⟩ := planOk hp
    have hu := hno u (by simp)
    have hv2 := hno v (by simp)
    have HCALL := Lib.hid (reached_any (.slice a0 cs.length n0) cs u t n hpk hpl hu hq.1 ⟨hq.2.2.1, hq.2.2.2⟩ w1 (HR.out.keep hb1))
    have hlen := rchL_len hpk hq.2.2.1 hu hq.1 16
    obtain ⟨RL, HRL⟩ : ∃ RL, Hid (rchL cs n u t 16 = RL) := ⟨_, Lib.hid rfl⟩
    have hat := gI_to (L := rchL cs n u t 16) (v := v) hlen (by omega) (by omega)
    obtain ⟨E, hE⟩ : ∃ E, gI (rchL cs n u t 16) v = E := ⟨_, rfl⟩
    have hE2 : arrE cs n u t v = E := hE
    rw [hE2] at hv
    rw [hE, HRL.out] at hat
    rw [HRL.out] at hlen HCALL
    have hix : ∀ w : World, (Instr.index 63 (.agg (ic .i64 RL).toArray) (.int .i64 v)).run Try.prog w = .ok (.int .i64 E) w := fun w => by rw [run_index_ar w RL v hlen (by omega) (by omega), ← hat]
    have HM1 : E < 0 → E = -1 := fun h => by rw [← hE2]; exact arr_neg hpk hq.2.2.1 hu hq.1 (by omega) (by rw [hE2]; exact h)
    have HM := Lib.hid HM1
    have HV2 := Lib.hid hv
    clear hv hat hp hno hpk hE hE2 hlen HM1
    go_wp2_with fail
    refine HCALL.out.mono ?_
    rintro e w2 ⟨rfl, hb2⟩
    have hv := HV2.out
    have hB := Below.next hb1 hb2
    clear hb2
    by_cases hn : 0 ≤ E
    · have d1 : (E != -1) = true := by simp; omega
      rw [yb hn] at hv
      cases hv
      clear hn
      go_wp2_with fail
      go_ret2
      exact ⟨rfl, hB⟩
    · have d1 : (E != -1) = false := by have := HM.out (by omega); simp [this]
      rw [nb hn] at hv
      cases hv
      clear hn
      go_wp2_with fail
      go_ret2
      exact ⟨rfl, hB⟩
  · rw [if_pos (by simpa using h0)] at hv
    have e1 : (er != 0) = true := by simpa using h0
    clear h0
    cases hv
    go_wp2_with fail
    go_ret2
    exact ⟨rfl, hb1⟩
set_option maxHeartbeats 1000000 in
theorem clone_any (a : Addr) (N c : Nat) (l : List Int) (hN : l.length = N) (h1 : N ≤ 1000) (w : World) (h : RdI .i64 w (.slice (some a) N c) l) :
    Calls Try.prog 43 #[.slice (some a) N c] w fun e w' => ∃ a' c', e = .returned (.slice a' N c') ∧ w'.ownsRow w.heap.size 3 1 (.slice a' N c') N (ic .i64 l) ∧ Below w.heap.size w w' := by
  have hown0 : (w.alloc (.cells #[] 3)).ownsRow w.heap.size 3 1 (.slice (some ⟨w.heap.size, 0, none⟩) 0 0) 0 [] := owns_block _ _ 3 1 0 [] _ (Nat.le_refl _) (heap_last w _) rfl (by decide)
  have HRD : Hid (RdS (w.alloc (.cells #[] 3)) 1 (.slice (some a) N c) N (ic .i64 l)) := Lib.hid (by
    have := RdI.keep ((by repeat (first | assumption | exact Below.refl _ _ | apply Below.al | apply below_drewN | apply Below.drew | refine Below.next ?_ (by assumption))) : Below w.heap.size w (w.alloc (.cells #[] 3))) h
    unfold RdI at this
    rwa [hN] at this)
  have heq : ∀ w : World, (binOp .eql 25 (.slice (some a) N c) (.slice none 0 0)).run Try.prog w = .ok (.bool false) w := fun w => by kernel_rfl
  clear h hN
  go_enter Try.func43, Try.ntmps43
  go_wp2_with (at_builtin; refine wpList_app rfl (.tmp 5) (.tmp 6) 25 rfl w.heap.size 3 (.int .i64 0) 1 8 E25 _ 0 [] rfl hown0 _ N (ic .i64 l) rfl HRD.out (ic_one _ _) ?c1 ?c2 ?c3 ?c4)
  case c1 => unfold maxLen; omega
  case c2 => omega
  case c3 => simp
  case c4 =>
    intro a3 c3 w3 hown3 hg3 hb3
    have hown3 : w3.ownsRow w.heap.size 3 1 (.slice a3 N c3) N (ic .i64 l) := by first | with_reducible exact hown3 | simpa using hown3
    have hB3 : Below w.heap.size w w3 := Below.trans (Below.al (Below.refl _ _) _) hb3
    have HO := Lib.hid hown3
    clear hown3 hown0 hg3 hb3 HRD
    go_wp2_with fail
    go_ret
    exact ⟨_, _, rfl, HO.out, hB3⟩
set_option maxHeartbeats 1000000 in
theorem latest_any (c : Ct) (n E : Int) (hok : okC c) (hn : 1 ≤ n ∧ n ≤ 1200) (hE : -1 ≤ E) (hE2 : E ≤ 1099512676352) (w : World) : Calls Try.prog 38 #[c.v, .int .i64 n, .int .i64 E] w fun e w' => e = .returned (.int .i64 (lateT c n E)) ∧ Below w.heap.size w w' := by
  obtain ⟨_, _, _, h0, h1, h2, h3, h4, h5, h6⟩ := id hok
  have hq : (n + c.rt - 1) / c.rt ≤ n + c.rt - 1 := Int.ediv_le_self _ (by omega)
  have hq0 : 0 ≤ (n + c.rt - 1) / c.rt := Int.ediv_nonneg (by omega) (by omega)
  unfold lateT need
  by_cases hE1 : E = -1
  · rw [if_pos (.inl hE1)]
    have d1 : (E == -1) = true := by simp [hE1]
    by_cases he : c.en < E - c.dl
    · have hm : min (E - c.dl) c.en = c.en := by omega
      clear hE1
      go_enter Try.func38, Try.ntmps38
      go_wp2
      go_ret
      exact ⟨rfl, (by repeat (first | assumption | exact Below.refl _ _ | apply Below.al | apply below_drewN | apply Below.drew | refine Below.next ?_ (by assumption)))⟩
    · have hm : min (E - c.dl) c.en = E - c.dl := by omega
      clear hE1
      go_enter Try.func38, Try.ntmps38
      go_wp2
      go_ret
      exact ⟨rfl, (by repeat (first | assumption | exact Below.refl _ _ | apply Below.al | apply below_drewN | apply Below.drew | refine Below.next ?_ (by assumption)))⟩
  · have d1 : (E == -1) = false := by simp [hE1]
    by_cases he : c.en < E - c.dl
    · rw [show min (E - c.dl) c.en = c.en by omega]
      by_cases hl : c.en - (n + c.rt - 1) / c.rt < c.st
      · rw [if_pos (.inr hl)]
        go_enter Try.func38, Try.ntmps38
        go_wp2
        go_ret
        exact ⟨rfl, (by repeat (first | assumption | exact Below.refl _ _ | apply Below.al | apply below_drewN | apply Below.drew | refine Below.next ?_ (by assumption)))⟩
      · rw [if_neg (by omega)]
        go_enter Try.func38, Try.ntmps38
        go_wp2
        go_ret
        exact ⟨rfl, (by repeat (first | assumption | exact Below.refl _ _ | apply Below.al | apply below_drewN | apply Below.drew | refine Below.next ?_ (by assumption)))⟩
    · rw [show min (E - c.dl) c.en = E - c.dl by omega]
      by_cases hl : E - c.dl - (n + c.rt - 1) / c.rt < c.st
      · rw [if_pos (.inr hl)]
        go_enter Try.func38, Try.ntmps38
        go_wp2
        go_ret
        exact ⟨rfl, (by repeat (first | assumption | exact Below.refl _ _ | apply Below.al | apply below_drewN | apply Below.drew | refine Below.next ?_ (by assumption)))⟩
      · rw [if_neg (by omega)]
        go_enter Try.func38, Try.ntmps38
        go_wp2
        go_ret
        exact ⟨rfl, (by repeat (first | assumption | exact Below.refl _ _ | apply Below.al | apply below_drewN | apply Below.drew | refine Below.next ?_ (by assumption)))⟩
end Go.Proofs.Ytgmfifilgbbogaa
