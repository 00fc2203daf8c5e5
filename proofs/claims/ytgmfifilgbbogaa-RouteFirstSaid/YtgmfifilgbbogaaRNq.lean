


/- Routes: the program's Reach. -/
import Derived.Test.YtgmfifilgbbogaaRMq
namespace Go.Proofs.Ytgmfifilgbbogaa
open Go.RowKit
set_option linter.unusedSimpArgs false
set_option linter.unusedVariables false
set_option maxRecDepth 100000

theorem ar_info {L : List Int} (hl : L.length = 17) : (Try.prog.info? 63).map (·.size) = some (ic .i64 L).length := by
  rw [show (ic .i64 L).length = 17 by simp [ic, hl]]
  kernel_rfl
theorem ar_one (L : List Int) : (ic .i64 L).toArray.all (·.oneCell') = true := by
  rw [Array.all_eq_true']
  intro x hx
  exact ic_one .i64 L x (by simpa using hx)
/-- an array of arrivals, stored whole -/
theorem ArrB.all {w : World} {p : Nat} {K L : List Int} (h : ArrB w p K) (hk : K.length = 17) (hl : L.length = 17) : ArrB (w.setCells p 0 (ic .i64 L)) p L := BoxN.sets h (ic .i64 L) (by simp [ic, hl, hk])
theorem ArrB.there {w : World} {p : Nat} {K L : List Int} (h : ArrB w p K) (hk : K.length = 17) (hl : L.length = 17) : w.there p 0 (ic .i64 L).toArray.size := BoxN.there h _ (by simp [ic, hl, hk])
theorem ArrB.rdrop {w : World} {p : Nat} {L : List Int} (h : ArrB w p L) (hl : L.length = 17) : RdI .i64 w (.slice (some ⟨p, 1, none⟩) 16 16) (L.drop 1) := by
  refine ⟨by simp [ic], by simp [hl, maxLen], .inr ⟨p, 1, 16, by simp [hl], by simp [hl], fun j u hj => ?_⟩⟩
  rw [BoxN.cell h (1 + j)]
  have : (ic .i64 (L.drop 1))[j]? = (ic .i64 L)[1 + j]? := by simp [ic, List.getElem?_drop, Nat.add_comm]
  rw [this] at hj
  simpa using hj
set_option maxHeartbeats 2000000 in
theorem reachq_any (pv : Value) (cs : List Ct) (u t n : Int) (hwf : ∀ c, c ∈ cs → Wf c) (w : World) (hr : RdC w pv cs) :
    Calls Try.prog 17 #[pv, .int .i64 u, .int .i64 t, .int .i64 n] w fun e w' => ∃ sv, e = .returned (.tuple #[sv, .int .i64 (reachV cs u t n).2]) ∧ RdI .i64 w' sv (reachV cs u t n).1 ∧ Below w.heap.size w w' := by
  obtain ⟨a0, n0, rfl⟩ := hr.form
  obtain ⟨W2, hW2⟩ : ∃ V : World, V = w.alloc (.cells #[.int .i64 u] 3) := ⟨_, rfl⟩
  have hb2 : Below w.heap.size w W2 := by rw [hW2]; exact (by repeat (first | assumption | exact Below.refl _ _ | apply Below.al | apply below_drewN | apply Below.drew | refine Below.next ?_ (by assumption)))
  have hri : RdI .i64 W2 (.slice (some ⟨w.heap.size, 0, none⟩) 1 1) [u] := by rw [hW2]; exact RdI.one w u
  have hC := checked_any (.slice a0 cs.length n0) (.slice (some ⟨w.heap.size, 0, none⟩) 1 1) cs t n [u] hwf W2 (hr.keep hb2) hri
  obtain ⟨l, y, HV⟩ : ∃ l y, Hid (reachV cs u t n = (l, y)) := ⟨_, _, Lib.hid rfl⟩
  rw [HV.out]
  have hv := HV.out
  unfold reachV at hv
  obtain ⟨er, her⟩ : ∃ er, chkE cs t n [u] = er := ⟨_, rfl⟩
  rw [her] at hv hC
  have HC := Lib.hid hC
  have HE := Lib.hid her
  have HR := Lib.hid hr
  have HB2 := Lib.hid hb2
  clear hC her hr HV hri hb2
  go_enter Try.func17, Try.ntmps17
  go_wp2_with (go_at_call 36; rw [← hW2]; refine HC.out.mono ?_)
  rintro e w1 ⟨rfl, hb1⟩
  have hb1 := Below.next HB2.out hb1
  clear hW2
  by_cases h0 : er = 0
  · subst h0
    rw [if_neg (by simp)] at hv
    obtain ⟨hp, hq, hno⟩ := chkE_ok HE.out
    obtain ⟨hpk, hpl⟩ := planOk hp
    have hu := hno u (by simp)
    have HCALL := Lib.hid (reached_any (.slice a0 cs.length n0) cs u t n hpk hpl hu hq.1 ⟨hq.2.2.1, hq.2.2.2⟩ w1 (HR.out.keep hb1))
    have hlen := rchL_len hpk hq.2.2.1 hu hq.1 16
    obtain ⟨rfl, rfl⟩ : (rchL cs n u t 16).drop 1 = l ∧ 0 = y := by simpa using hv
    obtain ⟨RL, HRL⟩ : ∃ RL, Hid (rchL cs n u t 16 = RL) := ⟨_, Lib.hid rfl⟩
    rw [HRL.out] at hlen HCALL
    have HLEN := Lib.hid hlen
    clear hv hp hno hpk hlen
    go_wp2_with fail
    refine HCALL.out.mono ?_
    rintro e w2 ⟨rfl, hb2⟩
    have HB := Lib.hid (Below.next hb1 hb2)
    obtain ⟨P, HPp⟩ : ∃ P, Hid (w2.heap.size = P) := ⟨_, Lib.hid rfl⟩
    obtain ⟨W3, hW3⟩ : ∃ V : World, V = w2.alloc (.cells #[.int .i64 0, .int .i64 0, .int .i64 0, .int .i64 0, .int .i64 0, .int .i64 0, .int .i64 0, .int .i64 0, .int .i64 0, .int .i64 0, .int .i64 0, .int .i64 0, .int .i64 0, .int .i64 0, .int .i64 0, .int .i64 0, .int .i64 0] 63) := ⟨_, rfl⟩
    have ha3 : ArrB W3 P (List.replicate 17 0) := by rw [hW3, ← HPp.out]; exact ArrB.new w2
    have hb3 : Below w2.heap.size w2 W3 := by rw [hW3]; exact (by repeat (first | assumption | exact Below.refl _ _ | apply Below.al | apply below_drewN | apply Below.drew | refine Below.next ?_ (by assumption)))
    have HTH := Lib.hid (ha3.there (by simp) HLEN.out)
    have HI := Lib.hid (ar_info HLEN.out)
    obtain ⟨W4, hW4⟩ : ∃ V : World, V = W3.setCells P 0 (ic .i64 RL) := ⟨_, rfl⟩
    have HA4 : Hid (ArrB W4 P RL) := Lib.hid (by rw [hW4]; exact ha3.all (by simp) HLEN.out)
    have HB4 : Hid (Below w.heap.size w W4) := Lib.hid (by
      rw [hW4]
      have hk := Kx.setCells (X := fun k => k = P) (Kx.of_below (Below.refl W3.heap.size W3)) (.inl rfl) 0 (ic .i64 RL)
      have hB3 := Below.next HB.out hb3
      exact hB3.trans (hk.below hB3.size (fun k hk => by have hk : k = P := hk; have := HPp.out; have := HB.out.size; omega)))
    have HCL := Lib.hid (clone_any ⟨P, 1, none⟩ 16 16 (RL.drop 1) (by rw [List.length_drop, HLEN.out]) (by decide) W4 (HA4.out.rdrop HLEN.out))
    clear hb2 ha3 hb3
    go_upto_region 5 with (first | (refine wpList_plain rfl (fun K hK => ?_); rw [← hW3, HPp.out]; refine wp_store_mid 63 (.tmp 11) (.tmp 25) rfl P 0 (ic .i64 RL).toArray rfl rfl HTH.out HI.out (ar_one RL) ?_; refine hK _ _ ?_) | fail)
    rw [← hW4]
    clear hW3 hW4 HTH
    go_wp2_with fail
    refine HCL.out.mono ?_
    rintro e w5 ⟨a5, c5, rfl, ho5, hb5⟩
    have HRD : Hid (RdI .i64 w5 (.slice a5 16 c5) ((rchL cs n u t 16).drop 1)) := Lib.hid (by
      rw [HRL.out]
      have := RdS.of_owns ho5 (by decide)
      unfold RdI
      rwa [show (RL.drop 1).length = 16 by rw [List.length_drop, HLEN.out]])
    have HB5 := Lib.hid (Below.next HB4.out hb5)
    clear ho5 hb5
    go_wp2_with fail
    go_ret2
    exact ⟨_, rfl, HRD.out, HB5.out⟩
  · rw [if_pos (by simpa using h0)] at hv
    have e1 : (er != 0) = true := by simpa using h0
    clear h0
    obtain ⟨rfl, rfl⟩ : [] = l ∧ er = y := by simpa using hv
    clear hv
    go_wp2_with fail
    go_ret2
    exact ⟨_, rfl, RdI.nil .i64 _, hb1⟩
end Go.Proofs.Ytgmfifilgbbogaa
