


/- Routes: Check and Compare, in both texts. -/
import Derived.Test.YtgmfifilgbbogaaRB
import Derived.Test.YtgmfifilgbbogaaRW
import Derived.Test.YtgmfifilgbbogaaRX
namespace Go.Proofs.Ytgmfifilgbbogaa
open Go.RowKit
set_option linter.unusedSimpArgs false
set_option linter.unusedVariables false
set_option maxRecDepth 100000

abbrev toN (l : List Int) : List Nat := l.map Int.toNat
def inR (cs : List Ct) (l : List Int) : Bool := l.all fun x => decide (0 ≤ x ∧ x < (cs.length : Int))
def finV (R : Option (Int × Int)) (v arr : Int) : Int := match R with
  | none => 15
  | some (x, s) => if x ≠ v then 15 else if s ≠ arr then 12 else 0
/-- what Check answers -/
def checkV (cs : List Ct) (u v t n arr : Int) (l : List Int) : Int := if chkE cs t n [u, v] ≠ 0 then chkE cs t n [u, v] else if inR cs l = false then 2 else finV (walkP cs n (toN l) u t) v arr
/-- a route as a value -/
def RdR (w : World) (v : Value) (arr : Int) (l : List Int) : Prop := ∃ cv, v = .agg #[cv, .int .i64 arr] ∧ RdI .i64 w cv l
theorem RdR.keep {w w' : World} {v : Value} {arr : Int} {l : List Int} (hb : Below w.heap.size w w') (h : RdR w v arr l) : RdR w' v arr l := by
  obtain ⟨cv, rfl, hr⟩ := h
  exact ⟨cv, rfl, hr.keep hb⟩
theorem RdI.two (w : World) (x y : Int) : RdI .i64 (w.alloc (.cells #[.int .i64 x, .int .i64 y] 3)) (.slice (some ⟨w.heap.size, 0, none⟩) 2 2) [x, y] := by
  have := owns_block (w.alloc (.cells #[.int .i64 x, .int .i64 y] 3)) w.heap.size 3 1 2 [.int .i64 x, .int .i64 y] w.heap.size (Nat.le_refl _) (heap_last w _) rfl (by decide)
  exact RdS.of_owns this (by decide)
theorem RdI.one (w : World) (x : Int) : RdI .i64 (w.alloc (.cells #[.int .i64 x] 3)) (.slice (some ⟨w.heap.size, 0, none⟩) 1 1) [x] := by
  have := owns_block (w.alloc (.cells #[.int .i64 x] 3)) w.heap.size 3 1 1 [.int .i64 x] w.heap.size (Nat.le_refl _) (heap_last w _) rfl (by decide)
  exact RdS.of_owns this (by decide)
theorem inR_at {cs : List Ct} {l : List Int} (h : inR cs l = true) {j : Nat} (hj : j < l.length) : ∃ i : Nat, l.getD j 0 = (i : Int) ∧ i < cs.length := by
  have := List.all_eq_true.1 h (l.getD j 0) (by rw [List.getD_eq_getElem?_getD, List.getElem?_eq_getElem hj]; exact List.getElem_mem hj)
  simp only [decide_eq_true_eq] at this
  exact ⟨(l.getD j 0).toNat, by omega, by omega⟩
theorem inR_of {cs : List Ct} {l : List Int} (h : ∀ j, j < l.length → 0 ≤ l.getD j 0 ∧ l.getD j 0 < (cs.length : Int)) : inR cs l = true := by
  refine List.all_eq_true.2 fun x hx => ?_
  obtain ⟨j, hj, rfl⟩ := mem_gi hx
  exact decide_eq_true (h j hj)
theorem inR_no {cs : List Ct} {l : List Int} {j : Nat} (hj : j < l.length) (h : ¬ (0 ≤ l.getD j 0 ∧ l.getD j 0 < (cs.length : Int))) : inR cs l = false := by
  cases he : inR cs l
  · rfl
  · obtain ⟨i, h1, h2⟩ := inR_at he hj
    exact absurd ⟨by omega, by omega⟩ h
theorem toN_drop {l : List Int} {j i : Nat} (hj : j < l.length) (hi : l.getD j 0 = (i : Int)) : toN (l.drop j) = i :: toN (l.drop (j + 1)) := by
  rw [List.drop_eq_getElem_cons hj]
  have e : l[j] = (i : Int) := by rw [← hi, List.getD_eq_getElem?_getD, List.getElem?_eq_getElem hj]; rfl
  simp [toN, e]
set_option maxHeartbeats 2000000 in
theorem check_any (pv rv : Value) (cs : List Ct) (u v t n arr : Int) (l : List Int) (hwf : ∀ c, c ∈ cs → Wf c) (w : World) (h : RdC w pv cs) (hr : RdR w rv arr l) :
    Calls Try.prog 21 #[pv, .int .i64 u, .int .i64 v, .int .i64 t, .int .i64 n, rv] w fun e w' => e = .returned (.int .i64 (checkV cs u v t n arr l)) ∧ Below w.heap.size w w' := by
  obtain ⟨a0, n0, rfl⟩ := h.form
  obtain ⟨cv, rfl, hl⟩ := hr
  obtain ⟨a1, n1, rfl⟩ := hl.form
  obtain ⟨N, hN⟩ : ∃ N, cs.length = N := ⟨_, rfl⟩
  obtain ⟨M, hM⟩ : ∃ M, l.length = M := ⟨_, rfl⟩
  have hmx := hl.2.1
  unfold maxLen at hmx
  rw [hM] at hmx
  rw [hN] at h ⊢
  rw [hM] at hl ⊢
  obtain ⟨g, hg⟩ : ∃ g, checkV cs u v t n arr l = g := ⟨_, rfl⟩
  rw [hg]
  unfold checkV at hg
  obtain ⟨er, her⟩ : ∃ er, chkE cs t n [u, v] = er := ⟨_, rfl⟩
  rw [her] at hg
  have HG := Lib.hid hg
  have HE := Lib.hid her
  obtain ⟨W, hW⟩ : ∃ W : World, W = w.alloc (.cells #[.slice a1 M n1, .int .i64 arr] 27) := ⟨_, rfl⟩
  have hB0 : Below w.heap.size w W := by rw [hW]; exact (by repeat (first | assumption | exact Below.refl _ _ | apply Below.al | apply below_drewN | apply Below.drew | refine Below.next ?_ (by assumption)))
  have HBX : Hid (BoxN W w.heap.size 27 #[.slice a1 M n1, .int .i64 arr]) := Lib.hid (by rw [hW]; exact BoxN.new w _ _)
  have HRC : Hid (RdC W (.slice a0 N n0) cs) := Lib.hid (h.keep hB0)
  have HRI : Hid (RdI .i64 W (.slice a1 M n1) l) := Lib.hid (hl.keep hB0)
  have HN := Lib.hid hN
  have HM := Lib.hid hM
  have HB := Lib.hid hB0
  clear h hl hN hM hg her hB0
  have HWF := Lib.hid hwf
  clear hwf
  go_enter Try.func21, Try.ntmps21
  go_upto_region 1 with fail
  rw [← hW]
  clear hW
  obtain ⟨W2, hW2⟩ : ∃ V : World, V = W.alloc (.cells #[.int .i64 u, .int .i64 v] 3) := ⟨_, rfl⟩
  have hb2 : Below W.heap.size W W2 := by rw [hW2]; exact (by repeat (first | assumption | exact Below.refl _ _ | apply Below.al | apply below_drewN | apply Below.drew | refine Below.next ?_ (by assumption)))
  have hri : RdI .i64 W2 (.slice (some ⟨W.heap.size, 0, none⟩) 2 2) [u, v] := by rw [hW2]; exact RdI.two W u v
  have hck := checked_any (.slice a0 N n0) (.slice (some ⟨W.heap.size, 0, none⟩) 2 2) cs t n [u, v] HWF.out W2 (HRC.out.keep hb2) hri
  rw [HE.out] at hck
  have HCK := Lib.hid hck
  have hB2 := Below.next HB.out hb2
  replace HBX := Lib.hid (HBX.out.below hb2)
  replace HRC := Lib.hid (HRC.out.keep hb2)
  replace HRI := Lib.hid (HRI.out.keep hb2)
  clear hb2 hck hri HB
  have HB := Lib.hid hB2
  clear hB2
  go_wp2_with (go_at_call 36; rw [← hW2]; refine HCK.out.mono ?_)
  rintro e w3 ⟨rfl, hb3⟩
  replace HBX := Lib.hid (HBX.out.below hb3)
  replace HRC := Lib.hid (HRC.out.keep hb3)
  replace HRI := Lib.hid (HRI.out.keep hb3)
  replace HB := Lib.hid (Below.next HB.out hb3)
  clear hb3 hW2 HCK
  by_cases h0 : er = 0
  · subst h0
    have hg := HG.out
    rw [if_neg (by simp)] at hg
    obtain ⟨hp, hq, hno⟩ := chkE_ok HE.out
    obtain ⟨hpk, hpl⟩ := planOk hp
    have HP := Lib.hid hpk
    have HG := Lib.hid hg
    rw [HN.out] at hpl
    have x0 : w3.cell? ⟨w.heap.size, 0, none⟩ = some (.slice a1 M n1) := HBX.out.cell 0
    clear hg hp hno hpk HE
    go_wp2_with fail
    go_loopw [35] (fun i wr => ∃ j : Nat, j ≤ M ∧ i = .int .i64 j ∧ w3 = wr ∧ ∀ k, k < j → 0 ≤ l.getD k 0 ∧ l.getD k 0 < (N : Int)) (fun i _ => M - (intOf i).toNat)
    case atStart => exact ⟨0, Nat.zero_le _, rfl, rfl, fun k hk => absurd hk (Nat.not_lt_zero _)⟩
    case round =>
      obtain ⟨j, hj, rfl, rfl, hz⟩ := hrel
      have HZ := Lib.hid hz
      clear hz
      by_cases hlt : j < M
      · have d2 : decide ((j : Int) < (M : Int)) = true := yb (by omega)
        obtain ⟨b1, o1, rfl, hc1, g0⟩ := RdI.at HRI.out HM.out j hlt
        obtain ⟨y, HY⟩ : ∃ y, Hid (l.getD j 0 = y) := ⟨_, rfl⟩
        rw [HY.out] at g0
        have n1 : (0 : Int) ≤ (j : Int) := by omega
        have n2 : (j : Int) < (M : Int) := by omega
        have hwk : IntKind.i64.wrap (j : Int) = (j : Int) := IntWalk.i64_in _ (by omega)
        have hwk1 : IntKind.i64.wrap ((j : Int) + 1) = (j : Int) + 1 := IntWalk.i64_in _ (by omega)
        by_cases y0 : y < 0
        · have hgg : 2 = g := by
            have := HG.out
            rwa [if_pos (inR_no (by rw [HM.out]; exact hlt) (by rw [HY.out]; omega))] at this
          subst hgg
          go_wp2_with fail
          go_ret
          exact ⟨rfl, HB.out⟩
        · have e1 : decide (y < 0) = false := nb y0
          by_cases y1 : (N : Int) ≤ y
          · have hgg : 2 = g := by
              have := HG.out
              rwa [if_pos (inR_no (by rw [HM.out]; exact hlt) (by rw [HY.out, HN.out]; omega))] at this
            subst hgg
            have e2 : decide (y ≥ (N : Int)) = true := yb y1
            go_wp2_with fail
            go_ret
            exact ⟨rfl, HB.out⟩
          · have e2 : decide (y ≥ (N : Int)) = false := nb (by omega)
            have HZ2 : Hid (∀ k, k < j + 1 → 0 ≤ l.getD k 0 ∧ l.getD k 0 < (N : Int)) := Lib.hid (fun k hk => by
              by_cases hkj : k = j
              · subst hkj; rw [HY.out]; omega
              · exact HZ.out k (by omega))
            clear y0 y1
            go_wp2_with fail
            go_roundw
            case rel => exact ⟨j + 1, by omega, by go_num, (by trivial), HZ2.out⟩
            case measure => simp [intOf]; omega
      · obtain rfl : j = M := by omega
        have d2 : decide ((j : Int) < (j : Int)) = false := nb (by omega)
        have hin : inR cs l = true := inR_of (by rw [HM.out, HN.out]; exact HZ.out)
        have hg := HG.out
        rw [if_neg (by rw [hin]; decide)] at hg
        have HIN := Lib.hid hin
        obtain ⟨R, hR⟩ : ∃ R, walkP cs n (toN l) u t = R := ⟨_, rfl⟩
        rw [hR] at hg
        have HG2 := Lib.hid hg
        have HRR := Lib.hid hR
        clear hg hin hR HZ HG
        have y1 : w3.cell? ⟨w.heap.size, 1, none⟩ = some (.int .i64 arr) := HBX.out.cell 1
        go_wp2_with fail
        go_loopw [16, 17, 53] (fun hh nn i wr => ∃ (k : Nat) (x s : Int), k ≤ j ∧ i = .int .i64 k ∧ hh = .int .i64 x ∧ nn = .int .i64 s ∧ 0 ≤ s ∧ walkP cs n (toN (l.drop k)) x s = R ∧ Below w3.heap.size w3 wr) (fun _ _ i _ => j - (intOf i).toNat)
        case atStart => exact ⟨0, u, t, Nat.zero_le _, rfl, rfl, rfl, hq.1, HRR.out, Below.refl _ _⟩
        case round =>
          obtain ⟨k, x, s, hk, rfl, rfl, rfl, hs0, hwalk, hbr⟩ := hrel
          have HW := Lib.hid hwalk
          clear hwalk
          have hBr := Below.next HB.out hbr
          have y0 := cell_later hbr x0
          have y1 := cell_later hbr y1
          by_cases hlt : k < j
          · have d3 : decide ((k : Int) < (j : Int)) = true := yb (by omega)
            obtain ⟨i, hil, hiN⟩ := inR_at HIN.out (j := k) (by rw [HM.out]; exact hlt)
            rw [HN.out] at hiN
            obtain ⟨b1, o1, rfl, hc1, g0⟩ := RdI.at (HRI.out.keep hbr) HM.out k hlt
            rw [hil] at g0
            obtain ⟨b, off, rfl, hc2, ca0, ca1, ca2, ca3, ca4, ca5⟩ := RdC.at (HRC.out.keep hbr) HN.out i hiN
            have hokj := HP.out.at (i := i) (by rw [HN.out]; omega)
            have hwk := HW.out
            rw [toN_drop (by rw [HM.out]; exact hlt) hil, walkP] at hwk
            obtain ⟨c, hcj⟩ : ∃ c, cs.getD i c0 = c := ⟨_, rfl⟩
            rw [hcj] at ca0 ca1 ca2 ca3 ca4 ca5 hokj hwk
            have hpos := fun s' (hs' : hopO c s n = some s') => (hop_gt hokj hq.2.2.1 hs').2
            have HO := Lib.hid (fun w => hop_any c s n hokj hs0 ⟨hq.2.2.1, hq.2.2.2⟩ w)
            obtain ⟨r, hr⟩ : ∃ r, hopO c s n = r := ⟨_, rfl⟩
            rw [hr] at hwk hpos
            have HRr := Lib.hid hr
            have n1 : (0 : Int) ≤ (k : Int) := by omega
            have n2 : (k : Int) < (j : Int) := by omega
            have i1 : (0 : Int) ≤ (i : Int) := by omega
            have i2 : (i : Int) < (N : Int) := by omega
            have hwi : IntKind.i64.wrap (i : Int) = (i : Int) := IntWalk.i64_in _ (by omega)
            have hwk0 : IntKind.i64.wrap (k : Int) = (k : Int) := IntWalk.i64_in _ (by omega)
            have hwk1 : IntKind.i64.wrap ((k : Int) + 1) = (k : Int) + 1 := IntWalk.i64_in _ (by omega)
            have HCJ := Lib.hid hcj
            clear hokj hr hcj hil
            go_wp2_with fail
            refine (HO.out _).mono ?_
            rintro e w5 ⟨x9, rfl, hx9, hb5⟩
            rw [HRr.out] at hx9 ⊢
            have hbr5 := Below.next hbr hb5
            have ca0 := cell_later hb5 ca0
            have ca1 := cell_later hb5 ca1
            clear hb5 ca2 ca3 ca4 ca5 g0 y0 y1 hBr HO
            by_cases hfr : c.fr = x
            · have d4 : (c.fr != x) = false := by simp [hfr]
              rw [if_pos ⟨by rw [HN.out]; exact hiN, hfr⟩] at hwk
              cases r with
              | none =>
                have hgg : 15 = g := by
                  have h1 := HG2.out
                  have h2 : none = R := hwk
                  rw [← h2] at h1
                  exact h1
                subst hgg
                clear hfr
                go_wp2_with fail
                go_ret
                exact ⟨rfl, Below.next HB.out hbr5⟩
              | some s2 =>
                obtain rfl := hx9 s2 rfl
                have HW2 : Hid (walkP cs n (toN (l.drop (k + 1))) c.dt x9 = R) := Lib.hid hwk
                have hs2 := hpos x9 rfl
                clear hfr hwk hpos
                go_wp2_with fail
                go_roundw
                case rel => exact ⟨k + 1, c.dt, x9, by omega, by go_num, rfl, rfl, by omega, HW2.out, hbr5⟩
                case measure => simp [intOf]; omega
            · have d4 : (c.fr != x) = true := by simp [hfr]
              rw [if_neg (fun h => hfr h.2)] at hwk
              have hgg : 15 = g := by
                have h1 := HG2.out
                rw [← hwk] at h1
                exact h1
              subst hgg
              clear hfr
              go_wp2_with fail
              go_ret
              exact ⟨rfl, Below.next HB.out hbr5⟩
          · obtain rfl : k = j := by omega
            have d3 : decide ((k : Int) < (k : Int)) = false := nb (by omega)
            have hR : some (x, s) = R := by
              have := HW.out
              rwa [List.drop_eq_nil_of_le (by rw [HM.out]; exact Nat.le_refl _)] at this
            have hgg := HG2.out
            rw [← hR] at hgg
            have hgg : (if x ≠ v then 15 else if s ≠ arr then 12 else 0) = g := hgg
            by_cases h1 : x = v
            · have d4 : (x != v) = false := by simp [h1]
              rw [if_neg (by simpa using h1)] at hgg
              clear h1
              by_cases h2 : s = arr
              · have d5 : (s != arr) = false := by simp [h2]
                rw [if_neg (by simpa using h2)] at hgg
                subst hgg
                clear h2
                go_wp2_with fail
                go_ret
                exact ⟨rfl, hBr⟩
              · have d5 : (s != arr) = true := by simp [h2]
                rw [if_pos h2] at hgg
                subst hgg
                clear h2
                go_wp2_with fail
                go_ret
                exact ⟨rfl, hBr⟩
            · have d4 : (x != v) = true := by simp [h1]
              rw [if_pos h1] at hgg
              subst hgg
              clear h1
              go_wp2_with fail
              go_ret
              exact ⟨rfl, hBr⟩
  · have hg := HG.out
    rw [if_pos (by simpa using h0)] at hg
    subst hg
    have e1 : (er != 0) = true := by simpa using h0
    clear h0
    go_wp2_with fail
    go_ret
    exact ⟨rfl, HB.out⟩
end Go.Proofs.Ytgmfifilgbbogaa
