


/- Timers: the reference tells what is due, sorts, makes a heap. -/
import Derived.Test.YtigmhglkohjlhaaLr
namespace Go.Proofs.Ytigmhglkohjlhaa
open Go.RowKit
set_option linter.unusedSimpArgs false
set_option linter.unusedVariables false
set_option maxRecDepth 100000

def lenOf : Value → Nat
  | .slice _ n _ => n
  | _ => 0
def dueW (l : List Tm) (now : Int) : List Tm × List Tm × Int := if (chkW l).1 ≠ 0 then ([], [], (chkW l).1) else if now < 0 ∨ 1099511627776 < now then ([], [], 2) else ((pops now l).1, (pops now l).2, 0)
def sortW (l : List Tm) : List Tm × Int := ((dueW l 1099511627776).1, (dueW l 1099511627776).2.2)
/-- a call has returned two lists and an error -/
def LLE (w : World) (r : List Tm × List Tm × Int) (x : Ending) (w' : World) : Prop := ∃ v u, x = .returned (.tuple #[v, u, .int .i64 r.2.2]) ∧ RdM w' v r.1 ∧ RdM w' u r.2.1 ∧ Below w.heap.size w w'
theorem RdS.box1 (w : World) (T : TypeId) (t : Tm) : RdS (w.alloc (.cells #[.int .i64 t.tk, .int .i64 t.kd, .int .i64 t.nd, .int .u64 t.sq, .int .i64 t.of] T)) 5 (.slice (some ⟨w.heap.size, 0, none⟩) 1 1) 1 (Tm.cs t) :=
  RdS.of_owns (owns_block (w.alloc (.cells (Tm.cs t).toArray T)) 0 T 5 1 (Tm.cs t) w.heap.size (Nat.zero_le _) (heap_last w _) rfl (by decide)) (by decide)
theorem own_kept {w w' : World} {B : Nat} {v u : Value} {n : Nat} {xs : List Value} {e size : Nat} (h : w.ownsRow B e size v n xs) (hg : w.grownBy w' u.ownBlock) (hu : ∀ b, u.ownBlock = some b → b < B) : w'.ownsRow B e size v n xs :=
  h.kept hg (by
    cases hv : v.ownBlock with
    | none => exact .inl rfl
    | some k =>
      right
      intro he
      have h1 := (h.lt k hv).1
      have h2 := hu k he.symm
      omega)
theorem RdM.own {w : World} {B : Nat} {v : Value} {n : Nat} {l : List Tm} (h : w.ownsRow B 41 5 v n (rcs tmR l)) (hl : l.length = n) : RdM w v l := by
  subst hl
  exact RdL.of_owns h
set_option maxHeartbeats 4000000 in
theorem rdue_any (v : Value) (l : List Tm) (now : Int) (w : World) (h : RdM w v l) : Calls Try.prog 32 #[v, .int .i64 now] w (LLE w (dueW l now)) := by
  obtain ⟨a0, n0, rfl⟩ := h.form
  obtain ⟨N, hN⟩ : ∃ N, l.length = N := ⟨_, rfl⟩
  have HR := Lib.hid (show RdM w (.slice a0 N n0) l by rw [hN] at h; exact h)
  have HN := Lib.hid hN
  obtain ⟨er, ix, hen⟩ : ∃ er ix, chkW l = (er, ix) := ⟨_, _, rfl⟩
  have HEN := Lib.hid hen
  obtain ⟨R, hRr⟩ : ∃ R, dueW l now = R := ⟨_, rfl⟩
  have HRR := Lib.hid hRr
  have hdef : dueW l now = if er ≠ 0 then ([], [], er) else if now < 0 ∨ 1099511627776 < now then ([], [], 2) else ((pops now l).1, (pops now l).2, 0) := by unfold dueW; rw [hen]
  have HD := Lib.hid hdef
  rw [hN, hRr]
  clear hN h hen hRr hdef
  go_enter Try.func32, Try.ntmps32
  go_wp2_with fail
  refine (rcheck_is _ l er ix HEN.out _ HR.out).mono ?_
  rintro e w1 ⟨rfl, hB1⟩
  have HR := Lib.hid (RdL.keep hB1 HR.out)
  by_cases he : er ≠ 0
  · have d0 : (er != 0) = true := by simpa using he
    have HX : Hid (R = ([], [], er)) := by unfold Hid; rw [← HRR.out, HD.out, if_pos he]
    clear he
    go_wp2_with fail
    go_ret3
    exact ⟨_, _, by rw [HX.out]; rfl, by rw [HX.out]; exact RdM.nil _, by rw [HX.out]; exact RdM.nil _, hB1⟩
  · obtain rfl : er = 0 := by omega
    have d0 : ((0 : Int) != 0) = false := rfl
    by_cases h1 : now < 0
    · have d1 : decide (now < 0) = true := yb h1
      have HX : Hid (R = ([], [], 2)) := by unfold Hid; rw [← HRR.out, HD.out, if_neg he, if_pos (.inl h1)]
      clear he h1
      go_wp2_with fail
      go_ret3
      exact ⟨_, _, by rw [HX.out]; rfl, by rw [HX.out]; exact RdM.nil _, by rw [HX.out]; exact RdM.nil _, hB1⟩
    · have d1 : decide (now < 0) = false := nb h1
      by_cases h2 : 1099511627776 < now
      · have d2 : decide (1099511627776 < now) = true := yb h2
        have HX : Hid (R = ([], [], 2)) := by unfold Hid; rw [← HRR.out, HD.out, if_neg he, if_pos (.inr h2)]
        clear he h1 h2
        go_wp2_with fail
        go_ret3
        exact ⟨_, _, by rw [HX.out]; rfl, by rw [HX.out]; exact RdM.nil _, by rw [HX.out]; exact RdM.nil _, hB1⟩
      · have d2 : decide (1099511627776 < now) = false := nb h2
        have HX : Hid (R = ((pops now l).1, (pops now l).2, 0)) := by unfold Hid; rw [← HRR.out, HD.out, if_neg he, if_neg (fun h => h.elim h1 h2)]
        have hn : N ≤ 1000 := by have := chk_len (l := l) (by rw [HEN.out]); rwa [HN.out] at this
        have hown0 : (w1.alloc (.cells #[] 41)).ownsRow w1.heap.size 41 5 (.slice (some ⟨w1.heap.size, 0, none⟩) 0 0) 0 [] := owns_block _ _ 41 5 0 [] _ (Nat.le_refl _) (heap_last w1 _) rfl (by decide)
        have HRD := Lib.hid (show RdS (w1.alloc (.cells #[] 41)) 5 (.slice a0 N n0) N (rcs tmR l) by have := RdL.keep ((by repeat (first | assumption | exact Below.refl _ _ | apply Below.al | apply below_drewN | apply Below.drew | refine Below.next ?_ (by assumption))) : Below w1.heap.size w1 (w1.alloc (.cells #[] 41))) HR.out; unfold RdL at this; rwa [HN.out] at this)
        clear he h1 h2
        go_upto_region 8 with (at_builtin; refine wpList_app rfl (.tmp 25) (.tmp 26) 22 rfl w1.heap.size 41 _ 5 40 ETm _ 0 [] rfl hown0 _ N (rcs tmR l) rfl HRD.out (rcs_one _ _) ?c1 ?c2 ?c3 ?c4)
        case c1 => unfold maxLen; omega
        case c2 => omega
        case c3 => simp
        case c4 =>
          intro a3 c3 w3 hown3 hg3 hb3
          have hown3 : w3.ownsRow w1.heap.size 41 5 (.slice a3 N c3) N (rcs tmR l) := by first | with_reducible exact hown3 | simpa using hown3
          have hB3 : Below w.heap.size w w3 := hB1.trans ((Below.trans (Below.al (Below.refl _ _) _) hb3).mono hB1.size)
          have HO := Lib.hid hown3
          have hz1 := hB1.size
          clear hown3 hown0 hg3 hb3 HRD
          go_upto_region 8 with fail
          go_loopw [9, 10] (fun du re wr => ∃ (d m : List Tm) (D M B : Nat) (ad ar : Option Addr) (cd cr : Nat), d.length = D ∧ m.length = M ∧ D + M ≤ 1000 ∧ du = .slice ad D cd ∧ re = .slice ar M cr ∧ wr.ownsRow w.heap.size 41 5 (.slice ad D cd) D (rcs tmR d) ∧ wr.ownsRow B 41 5 (.slice ar M cr) M (rcs tmR m) ∧ (∀ b, (Value.slice ad D cd).ownBlock = some b → b < B) ∧ pops now l = (d ++ (pops now m).1, (pops now m).2) ∧ Below w.heap.size w wr) (fun _ re _ => lenOf re)
          case atStart => exact ⟨[], l, 0, N, w1.heap.size, none, a3, 0, c3, rfl, HN.out, by omega, rfl, rfl, ⟨rfl, .inl ⟨rfl, rfl⟩⟩, HO.out, (fun b hb => by simp [Value.ownBlock] at hb), rfl, hB3⟩
          case round =>
            clear HO hB3 hB1 HR hz1
            obtain ⟨d, m, D, M, B, ad, ar, cd, cr, hd, hm, hDM, rfl, rfl, hod, hor, hlt, hpop, hBr⟩ := hrel
            have HDL := Lib.hid hd
            have HML := Lib.hid hm
            have HOD := Lib.hid hod
            have HOR := Lib.hid hor
            have HLT := Lib.hid hlt
            have HPOP := Lib.hid hpop
            have hpm := pops_eq now m
            rw [hm] at hpm
            have HPM := Lib.hid hpm
            clear hd hm hod hor hlt hpop hpm
            by_cases hM : 0 < M
            · have d3 : decide ((0 : Int) < (M : Int)) = true := yb (by omega)
              have d3' : decide (0 < M) = true := yb hM
              obtain ⟨q, rfl, hq1, hq2⟩ := OwM.addr HOR.out (by omega)
              obtain ⟨g0, g1, g2, g3, g4⟩ := OwM.at HOR.out HML.out 0 hM
              obtain ⟨x, HX1⟩ : ∃ y, Hid (g m 0 = y) := ⟨_, rfl⟩
              rw [HX1.out] at g0 g1 g2 g3 g4
              simp only [Nat.zero_mul, Nat.add_zero, Nat.zero_add] at g0 g1 g2 g3 g4
              have i2 : (0 : Int) < (M : Int) := by omega
              by_cases hx : x.tk ≤ now
              · have d4 : decide (x.tk ≤ now) = true := yb hx
                have HPN : Hid (pops now l = ((d ++ [x]) ++ (pops now (outL m 0)).1, (pops now (outL m 0)).2)) := by
                  unfold Hid
                  rw [HPOP.out, HPM.out, HX1.out, if_pos ⟨hM, hx⟩]
                  simp
                clear hx
                go_upto_region 9 with fail
                rename World => wr
                have HOD2 := Lib.hid (HOD.out.alloc (.cells #[.int .i64 x.tk, .int .i64 x.kd, .int .i64 x.nd, .int .u64 x.sq, .int .i64 x.of] 41))
                have HOR2 := Lib.hid (HOR.out.alloc (.cells #[.int .i64 x.tk, .int .i64 x.kd, .int .i64 x.nd, .int .u64 x.sq, .int .i64 x.of] 41))
                have HBX := Lib.hid (RdS.box1 wr 41 x)
                have hBr2 := Below.al hBr (.cells #[.int .i64 x.tk, .int .i64 x.kd, .int .i64 x.nd, .int .u64 x.sq, .int .i64 x.of] 41)
                have hbz := hBr.size
                go_upto_region 10 with (at_builtin; refine wpList_app rfl (.tmp 39) (.tmp 43) 22 rfl w.heap.size 41 _ 5 40 ETm _ D (rcs tmR d) rfl HOD2.out _ 1 (Tm.cs x) rfl HBX.out (Tm.cs_one _) ?_ ?_ ?_ ?_)
                · unfold maxLen; omega
                · omega
                · simp; omega
                intro a5 c5 w5 hown5 hg5 hb5
                have hB5 : Below w.heap.size w w5 := hBr2.trans hb5
                have HOR5 := Lib.hid (own_kept HOR2.out hg5 HLT.out)
                have HOD5 := Lib.hid (show w5.ownsRow w.heap.size 41 5 (.slice a5 (D + 1) c5) (D + 1) (rcs tmR (d ++ [x])) by rw [show rcs tmR (d ++ [x]) = rcs tmR d ++ Tm.cs x by rw [rcs_append]; simp [rcs, tmR]]; exact hown5)
                clear hown5 hg5 hb5 hBr2 HOD2 HOR2 HBX g0 g1 g2 g3 g4 HOD HOR
                go_wp2_with fail
                refine (rout_any _ m 0 (by rw [HML.out]; omega) (by rw [HML.out]; exact hM) _ (RdM.own HOR5.out HML.out)).mono ?_
                obtain ⟨m', HM'⟩ : ∃ m', Hid (outL m 0 = m') := ⟨_, rfl⟩
                have HPN := Lib.hid (show pops now l = ((d ++ [x]) ++ (pops now m').1, (pops now m').2) by rw [← HM'.out]; exact HPN.out)
                have hml : m'.length = M - 1 := by rw [← HM'.out, out_len, HML.out]
                unfold OM
                rw [HM'.out, hml]
                have HML' := Lib.hid hml
                rintro e w6 ⟨a6, c6, rfl, hown6, hb6⟩
                have hB6 := Below.next hB5 hb6
                have HOR6 := Lib.hid hown6
                have HLT6 : Hid (∀ b, (Value.slice a5 (D + 1) c5).ownBlock = some b → b < w5.heap.size) := fun b hb => (World.ownsRow.lt HOD5.out b hb).2
                have HOD6 := Lib.hid (OwM.keep HOD5.out hb6)
                clear hown6 hb6 hml HM' HOR5 HOD5
                go_wp2_with fail
                go_roundw
                case rel => exact ⟨d ++ [x], m', D + 1, M - 1, w5.heap.size, a5, a6, c5, c6, by rw [List.length_append, HDL.out]; rfl, HML'.out, by omega, rfl, rfl, HOD6.out, HOR6.out, HLT6.out, HPN.out, hB6⟩
                case measure => simp [lenOf]; omega
              · have d4 : decide (x.tk ≤ now) = false := nb hx
                have HPN : Hid (pops now l = (d, m)) := by
                  unfold Hid
                  rw [HPOP.out, HPM.out, HX1.out, if_neg (fun h => hx h.2)]
                  simp
                clear hx
                have HRD := Lib.hid (RdM.own HOD.out HDL.out)
                have HRM := Lib.hid (RdM.own HOR.out HML.out)
                go_wp2_with fail
                go_ret3
                exact ⟨_, _, by rw [HX.out]; rfl, by rw [HX.out, HPN.out]; exact HRD.out, by rw [HX.out, HPN.out]; exact HRM.out, hBr⟩
            · obtain rfl : M = 0 := by omega
              have d3 : decide ((0 : Int) < ((0 : Nat) : Int)) = false := rfl
              have HPN : Hid (pops now l = (d, m)) := by
                unfold Hid
                rw [HPOP.out, HPM.out, if_neg (fun h => hM h.1)]
                simp
              have HRD := Lib.hid (RdM.own HOD.out HDL.out)
              have HRM := Lib.hid (RdM.own HOR.out HML.out)
              clear hM
              go_wp2_with fail
              go_ret3
              exact ⟨_, _, by rw [HX.out]; rfl, by rw [HX.out, HPN.out]; exact HRD.out, by rw [HX.out, HPN.out]; exact HRM.out, hBr⟩
theorem rsorted_any (v : Value) (l : List Tm) (w : World) (h : RdM w v l) : Calls Try.prog 33 #[v] w (LE w (sortW l)) := by
  have HR := Lib.hid h
  obtain ⟨d, HD⟩ : ∃ d, Hid (dueW l 1099511627776 = d) := ⟨_, rfl⟩
  unfold sortW
  rw [HD.out]
  clear h
  go_enter Try.func33, Try.ntmps33
  go_wp2_with fail
  refine (rdue_any v l 1099511627776 _ HR.out).mono ?_
  rw [HD.out]
  rintro e w1 ⟨v1, u1, rfl, h1, h2, hB⟩
  have H1 := Lib.hid h1
  clear h1 h2
  go_wp2_with fail
  go_ret2
  exact ⟨_, rfl, H1.out, hB⟩
theorem add_good {l : List Tm} (h : Good l) (t : Tm) : addW l t = if putE l t ≠ 0 then ([], putE l t) else (putL l t, 0) := by
  unfold addW
  rw [chk_good h, if_neg (by simp)]
set_option maxHeartbeats 4000000 in
theorem rmake_any (v : Value) (l : List Tm) (hl : l.length ≤ 1000000) (w : World) (h : RdM w v l) : Calls Try.prog 14 #[v] w (LE w (mkL l)) := by
  obtain ⟨a0, n0, rfl⟩ := h.form
  obtain ⟨N, hN⟩ : ∃ N, l.length = N := ⟨_, rfl⟩
  have HR := Lib.hid (show RdM w (.slice a0 N n0) l by rw [hN] at h; exact h)
  have HN := Lib.hid hN
  obtain ⟨R, hRr⟩ : ∃ R, mkL l = R := ⟨_, rfl⟩
  have HRR := Lib.hid (show mkF l N = R by rw [← hN]; exact hRr)
  rw [hN] at hl
  rw [hN, hRr]
  clear hN h hRr
  go_enter Try.func14, Try.ntmps14
  go_wp2_with fail
  go_loopw [4, 5] (fun u i wr => ∃ (k : Nat) (L : List Tm), k ≤ N ∧ i = .int .i64 k ∧ RdM wr u L ∧ mkF l k = (L, 0) ∧ Below w.heap.size w wr) (fun _ i _ => N - (intOf i).toNat)
  case atStart => exact ⟨0, [], Nat.zero_le _, rfl, RdM.nil _, rfl, Below.refl _ _⟩
  case round =>
    obtain ⟨k, L, hk, rfl, hrl, hmk, hB⟩ := hrel
    have HRL := Lib.hid hrl
    have HMK := Lib.hid hmk
    have HG := Lib.hid (show Good L by have := mkF_good l k; rwa [hmk] at this)
    clear hrl hmk
    by_cases hlt : k < N
    · have d2 : decide ((k : Int) < (N : Int)) = true := yb (by omega)
      obtain ⟨b1, o1, rfl, hc1, g0, g1, g2, g3, g4⟩ := RdM.at (HR.out.keep hB) HN.out k hlt
      obtain ⟨t, HT⟩ : ∃ y, Hid (g l k = y) := ⟨_, rfl⟩
      rw [HT.out] at g0 g1 g2 g3 g4
      have n1 : (0 : Int) ≤ (k : Int) := by omega
      have n2 : (k : Int) < (N : Int) := by omega
      have hwk : IntKind.i64.wrap (k : Int) = (k : Int) := IntWalk.i64_in _ (by omega)
      have hmk1 : mkF l (k + 1) = addW L t := by
        rw [add_good HG.out]
        show (if (mkF l k).2 ≠ 0 then _ else if putE (mkF l k).1 (g l k) ≠ 0 then _ else _) = _
        rw [HMK.out, HT.out, if_neg (by simp)]
      have HMK1 := Lib.hid hmk1
      clear hmk1
      go_wp2_with fail
      refine (radd_any _ L t _ HRL.out).mono ?_
      obtain ⟨⟨L2, e2⟩, HA⟩ : ∃ r, Hid (addW L t = r) := ⟨_, rfl⟩
      unfold LE
      rw [HA.out]
      rintro x w2 ⟨v2, rfl, hr2, hb2⟩
      have HR2 := Lib.hid hr2
      have hB2 := Below.next hB hb2
      have HMK2 := Lib.hid (show mkF l (k + 1) = (L2, e2) by rw [HMK1.out, HA.out])
      clear hr2 hb2 g0 g1 g2 g3 g4
      by_cases he : e2 = 0
      · subst he
        go_wp2_with fail
        go_roundw
        case rel => exact ⟨k + 1, L2, by omega, by go_num, HR2.out, HMK2.out, hB2⟩
        case measure => simp [intOf]; omega
      · have d3 : (e2 != 0) = true := by simpa using he
        have HX : Hid (R = ([], e2)) := by
          unfold Hid
          have h1 := mkF_fail (l := l) (k := k + 1) (by rw [HMK2.out]; exact he) N (by omega)
          rw [HRR.out, HMK2.out] at h1
          exact h1
        clear he
        go_wp2_with fail
        go_ret2
        exact ⟨_, by rw [HX.out]; rfl, by rw [HX.out]; exact RdM.nil _, hB2⟩
    · obtain rfl : k = N := by omega
      have d2 : decide ((k : Int) < (k : Int)) = false := nb (by omega)
      have HX : Hid (R = (L, 0)) := by unfold Hid; rw [← HRR.out, HMK.out]
      go_wp2_with fail
      go_ret2
      exact ⟨_, by rw [HX.out]; rfl, by rw [HX.out]; exact HRL.out, hB⟩
end Go.Proofs.Ytigmhglkohjlhaa
