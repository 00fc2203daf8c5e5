


/- Routes: the reference's made, Best, Reach. -/
import Derived.Test.YtgmfifilgbbogaaRF
namespace Go.Proofs.Ytgmfifilgbbogaa
open Go.RowKit
set_option linter.unusedSimpArgs false
set_option linter.unusedVariables false
set_option maxRecDepth 100000

theorem gI_to {L : List Int} {v : Int} (hl : L.length = 17) (h0 : 0 ≤ v) (h1 : v < 17) : gI L v = L.getD v.toNat 0 := by
  have := gI_at hl (d := v.toNat) (by omega)
  rwa [show ((v.toNat : Nat) : Int) = v by omega] at this
theorem chk_uu (cs : List Ct) (t n u : Int) : chkE cs t n [u, u] = chkE cs t n [u] := by
  unfold chkE
  simp
theorem cut_lo {w : World} {a : Option Addr} {N c : Nat} {l : List Int} (h : RdI .i64 w (.slice a N c) l) (hN : l.length = N) (k : Nat) (hk : k ≤ N) :
    ∃ v, (∀ w', (Instr.slice 25 (.slice a N c) (some (.int .i64 (k : Int))) none none).run Try.prog w' = .ok v w') ∧ RdI .i64 w v (l.drop k) := by
  have h2 : RdL intR w (.slice a N c) l := by unfold RdL; rw [rcs_int]; exact h
  have hc : N ≤ c := by
    obtain ⟨_, _, ⟨h0, _⟩ | ⟨b, off, cap, hv, hc, _⟩⟩ := h2
    · omega
    · simp only [Value.slice.injEq] at hv; omega
  have hun : Try.prog.underlying 25 = some (.slice (Try.prog.elem 25)) := by kernel_rfl
  have hs : ∀ w : World, (sizeOf (Try.prog.elem 25)).run Try.prog w = .ok intR.size w := fun w => by kernel_rfl
  refine ⟨sliced a k N c intR.size, fun w' => by rw [run_slice_l _ _ _ _ _ hun _ _ (by omega) (by omega), hs]; simp, ?_⟩
  have e := rdl_drop h2 hN k hk
  unfold RdL at e
  rw [rcs_int] at e
  exact e
/-- what Reach answers -/
def reachV (cs : List Ct) (u t n : Int) : List Int × Int := if chkE cs t n [u] ≠ 0 then ([], chkE cs t n [u]) else ((rchL cs n u t 16).drop 1, 0)
set_option maxHeartbeats 2000000 in
theorem rreachq_any (pv : Value) (cs : List Ct) (u t n : Int) (w : World) (hr : RdC w pv cs) :
    Calls Try.prog 18 #[pv, .int .i64 u, .int .i64 t, .int .i64 n] w fun e w' => ∃ sv, e = .returned (.tuple #[sv, .int .i64 (reachV cs u t n).2]) ∧ RdI .i64 w' sv (reachV cs u t n).1 ∧ Below w.heap.size w w' := by
  obtain ⟨a0, n0, rfl⟩ := hr.form
  have hC := rbetween_any (.slice a0 cs.length n0) cs u u t n w hr
  rw [chk_uu] at hC
  obtain ⟨l, y, HV⟩ : ∃ l y, Hid (reachV cs u t n = (l, y)) := ⟨_, _, Lib.hid rfl⟩
  rw [HV.out]
  have hv := HV.out
  unfold reachV at hv
  obtain ⟨er, her⟩ : ∃ er, chkE cs t n [u] = er := ⟨_, rfl⟩
  rw [her] at hv hC
  have HC := Lib.hid hC
  have HE := Lib.hid her
  have HR := Lib.hid hr
  clear hC her hr HV
  go_enter Try.func18, Try.ntmps18
  go_wp2_with fail
  refine HC.out.mono ?_
  rintro e w1 ⟨rfl, hb1⟩
  by_cases h0 : er = 0
  · subst h0
    rw [if_neg (by simp)] at hv
    obtain ⟨hp, hq, hno⟩ := chkE_ok HE.out
    obtain ⟨hpk, hpl⟩ := planOk hp
    have hu := hno u (by simp)
    have HCALL := Lib.hid (rreach_any (.slice a0 cs.length n0) cs u t n 16 hpk hpl hu hq.1 ⟨hq.2.2.1, hq.2.2.2⟩ (Nat.le_refl _) w1 (HR.out.keep hb1))
    have HLEN := Lib.hid (rchL_len hpk hq.2.2.1 hu hq.1 16)
    have HV2 := Lib.hid hv
    clear hv hp hno hpk
    go_wp2_with fail
    refine HCALL.out.mono ?_
    rintro e w2 ⟨⟨q, c, rfl, ho⟩, hb2⟩
    obtain ⟨sv, hsl, hrd⟩ := cut_lo ho.rd HLEN.out 1 (by decide)
    have hv := HV2.out
    have HB := Lib.hid (Below.next hb1 hb2)
    obtain ⟨rfl, rfl⟩ : (rchL cs n u t 16).drop 1 = l ∧ 0 = y := by simpa using hv
    have HRD := Lib.hid hrd
    have hsl : ∀ w' : World, (Instr.slice 25 (.slice (some ⟨q, 0, none⟩) 17 c) (some (.int .i64 1)) none none).run Try.prog w' = .ok sv w' := hsl
    clear hb2 ho hv hrd
    go_wp2_with fail
    go_ret2
    exact ⟨_, rfl, HRD.out, HB.out⟩
  · rw [if_pos (by simpa using h0)] at hv
    have e1 : (er != 0) = true := by simpa using h0
    clear h0
    obtain ⟨rfl, rfl⟩ : [] = l ∧ er = y := by simpa using hv
    clear hv
    go_wp2_with fail
    go_ret2
    exact ⟨_, rfl, RdI.nil .i64 _, hb1⟩

/-- a route's box while it is made -/
structure MdB (w wr : World) (P : Nat) (E : Int) (cv : Value) (l : List Int) : Prop where
  box : BoxN wr P 27 #[cv, .int .i64 E]
  row : wr.ownsRow (P + 1) 3 1 cv l.length (ic .i64 l)
  res : BoxN wr w.heap.size 27 #[.slice none 0 0, .int .i64 0]
  bel : Below w.heap.size w wr
  ge : w.heap.size < P
theorem own_keep {W w1 : World} {base : Nat} {e : TypeId} {size : Nat} {v : Value} {n : Nat} {xs : List Value} (hb : Below W.heap.size W w1) (h : W.ownsRow base e size v n xs) : w1.ownsRow base e size v n xs :=
  World.ownsRow.kept (row := none) h ⟨hb.os, hb.tape, hb.output, hb.size, fun k hk _ => hb.block k hk⟩ (by cases hv : v.ownBlock <;> simp)
theorem MdB.keep {w wr wx : World} {P : Nat} {E : Int} {cv : Value} {l : List Int} (h : MdB w wr P E cv l) (hb : Below wr.heap.size wr wx) : MdB w wx P E cv l :=
  ⟨h.box.below hb, own_keep hb h.row, h.res.below hb, Below.next h.bel hb, h.ge⟩
theorem MdB.app {w w5 w6 : World} {P : Nat} {E : Int} {cv : Value} {l : List Int} (h : MdB w w5 P E cv l) (hb : Below (P + 1) w5 w6) {v6 : Value} {m : List Int} (hr : w6.ownsRow (P + 1) 3 1 v6 m.length (ic .i64 m)) : MdB w (w6.setCell ⟨P, 0, none⟩ v6) P E v6 m := by
  have hge := h.ge
  have hk : Kx (fun k => k = P) w6 (w6.setCell ⟨P, 0, none⟩ v6) := Kx.setCell (X := fun k => k = P) (Kx.refl _ w6) (.inl rfl) _
  refine ⟨?_, hk.owns (fun k hk he => ?_) hr, hk.box (by omega) ((hb.block w.heap.size (by omega)).trans h.res), ?_, hge⟩
  · have h1 : BoxN w6 P 27 #[cv, .int .i64 E] := (hb.block P (by omega)).trans h.box
    exact (heap_setCell_same w6 P 0 _ 27 v6 h1)
  · have := (hr.lt k hk).1
    omega
  · exact (h.bel.trans (hb.mono (by omega))).setCell (p := ⟨P, 0, none⟩) (by show w.heap.size ≤ P; omega) _
/-- a finished route in new memory -/
def RtF (w : World) (base : Nat) (v : Value) (arr : Int) (l : List Int) : Prop := ∃ cv, v = .agg #[cv, .int .i64 arr] ∧ w.ownsRow base 3 1 cv l.length (ic .i64 l)
theorem RtF.rd {w : World} {base : Nat} {v : Value} {arr : Int} {l : List Int} (h : RtF w base v arr l) : RdR w v arr l := by
  obtain ⟨cv, rfl, hr⟩ := h
  exact ⟨cv, rfl, RdS.of_owns hr (by decide)⟩
theorem RtF.zero (w : World) (base : Nat) : RtF w base (.agg #[.slice none 0 0, .int .i64 0]) 0 [] := ⟨_, rfl, rfl, .inl ⟨rfl, rfl⟩⟩
theorem RtF.keep {w w' : World} {base : Nat} {v : Value} {arr : Int} {l : List Int} (h : RtF w base v arr l) (hb : Below w.heap.size w w') : RtF w' base v arr l := by
  obtain ⟨cv, rfl, hr⟩ := h
  exact ⟨cv, rfl, own_keep hb hr⟩
theorem own_set {w : World} {base P o : Nat} {e : TypeId} {size : Nat} {v : Value} {n : Nat} {xs : List Value} (h : w.ownsRow base e size v n xs) (hP : P < base) (u : Value) : (w.setCell ⟨P, o, none⟩ u).ownsRow base e size v n xs :=
  (Kx.setCell (X := fun k => k = P) (Kx.refl _ w) (.inl rfl) u).owns (fun k hk he => by have := (h.lt k hk).1; omega) h
/-- what made answers -/
def MadeR (cs : List Ct) (n u t v : Int) (b : Bool) (arr : Int) (l : List Nat) : Prop := (arrE cs n u t v < 0 ∧ b = false ∧ arr = 0 ∧ l = []) ∨ (∃ h, BestR cs n u t v arr h l ∧ arr = arrE cs n u t v ∧ b = true)
theorem ints_app (m : List Nat) (i : Nat) : ints (m ++ [i]) = ints m ++ [(i : Int)] := by simp [ints]
theorem walk_snoc {cs : List Ct} {n u t x s s1 : Int} {m : List Nat} {i : Nat} (h : walkP cs n m u t = some (x, s)) (hi : i < cs.length) (hf : (cs.getD i c0).fr = x) (hs : hopO (cs.getD i c0) s n = some s1) : walkP cs n (m ++ [i]) u t = some ((cs.getD i c0).dt, s1) :=
  walk_app' h (walk_step hi hf hs rfl)
set_option maxHeartbeats 4000000 in
theorem rmade_any (pv : Value) (cs : List Ct) (u v t n : Int) (b : Bool) (arr : Int) (l : List Nat) (hp : okP cs) (hl : cs.length ≤ 200) (hu : 1 ≤ u ∧ u ≤ 16) (hv : 1 ≤ v ∧ v ≤ 16) (ht : 0 ≤ t) (hn : 1 ≤ n ∧ n ≤ 1200) (hf : MadeR cs n u t v b arr l) (w : World) (hr : RdC w pv cs) :
    Calls Try.prog 41 #[pv, .int .i64 u, .int .i64 v, .int .i64 t, .int .i64 n] w fun e w' => (∃ rv, e = .returned (.tuple #[rv, .bool b]) ∧ RtF w' (w.heap.size + 1) rv arr (ints l)) ∧ Below w.heap.size w w' := by
  obtain ⟨a0, n0, rfl⟩ := hr.form
  obtain ⟨N, hN⟩ : ∃ N, cs.length = N := ⟨_, rfl⟩
  rw [hN] at hl hr ⊢
  have HN := Lib.hid hN
  have HP := Lib.hid hp
  have HR := Lib.hid hr
  obtain ⟨x, y, hxy, hcase⟩ : ∃ x y, FewR cs n u t v x y ∧ ((x = -1 ∧ y = -1 ∧ b = false ∧ arr = 0 ∧ l = []) ∨ ∃ h, BestR cs n u t v arr h l ∧ x = (h : Int) ∧ y = arr ∧ b = true) := by
    rcases hf with ⟨h1, h2, h3, h4⟩ | ⟨h, h1, h2, h3⟩
    · exact ⟨_, _, .inl ⟨h1, rfl, rfl⟩, .inl ⟨rfl, rfl, h2, h3, h4⟩⟩
    · exact ⟨(h : Int), arr, .inr ⟨h, l, by rw [← h2]; exact h1, rfl, h2⟩, .inr ⟨h, h1, rfl, rfl, h3⟩⟩
  obtain ⟨W0, hW0⟩ : ∃ W : World, W = w.alloc (.cells #[.slice none 0 0, .int .i64 0] 27) := ⟨_, rfl⟩
  have hB0 : Below w.heap.size w W0 := by rw [hW0]; exact (by repeat (first | assumption | exact Below.refl _ _ | apply Below.al | apply below_drewN | apply Below.drew | refine Below.next ?_ (by assumption)))
  have hs0 : w.heap.size + 1 = W0.heap.size := by rw [hW0]; simp
  have hr0 : BoxN W0 w.heap.size 27 #[.slice none 0 0, .int .i64 0] := by rw [hW0]; exact BoxN.new w _ _
  have hfw := rfewest_any (.slice a0 N n0) cs u v t n x y hp (by rw [hN]; exact hl) hu hv ht hn hxy W0 (hr.keep hB0)
  have HF := Lib.hid hfw
  have HS0 := Lib.hid hs0
  clear hr hxy hfw hs0 hp
  go_enter Try.func41, Try.ntmps41
  go_upto_region 1 with fail
  rw [← hW0]
  clear hW0
  go_wp2_with fail
  refine HF.out.mono ?_
  rintro e w1 ⟨rfl, hb1⟩
  have hB1 := Below.next hB0 hb1
  have hr1 := hr0.below hb1
  have hsz1 := hb1.size
  clear hb1 hr0 hB0
  rcases hcase with ⟨rfl, rfl, rfl, rfl, rfl⟩ | ⟨h, hbest, rfl, rfl, rfl⟩
  · have z0 := hr1.frozen 0
    have z1 := hr1.frozen 1
    have t0 : w1.cell? ⟨w.heap.size, 0, none⟩ = some (.slice none 0 0) := hr1.cell 0
    have t1 : w1.cell? ⟨w.heap.size, 1, none⟩ = some (.int .i64 0) := hr1.cell 1
    go_wp2_with fail
    refine bodyPost_ret (v := .tuple #[.agg #[.slice none 0 0, .int .i64 0], .bool false]) (by simp [results, Try.results41, go_sem, t0, t1]) rfl ⟨⟨_, rfl, RtF.zero _ _⟩, ?_⟩
    exact (hB1.setCell (p := ⟨w.heap.size, 0, none⟩) (Nat.le_refl _) _).setCell (p := ⟨w.heap.size, 1, none⟩) (Nat.le_refl _) _
  · have d1 : decide ((h : Int) < 0) = false := nb (by omega)
    have h15 := hbest.few15 HP.out hn.1 hu
    have hsz : w.heap.size < w1.heap.size := by have := HS0.out; omega
    obtain ⟨P, HPp⟩ : ∃ P, Hid (w1.heap.size = P) := ⟨_, Lib.hid rfl⟩
    obtain ⟨W2, hW2⟩ : ∃ W : World, W = w1.alloc (.cells #[.slice none 0 0, .int .i64 y] 27) := ⟨_, rfl⟩
    have hb2 : Below w1.heap.size w1 W2 := by rw [hW2]; exact (by repeat (first | assumption | exact Below.refl _ _ | apply Below.al | apply below_drewN | apply Below.drew | refine Below.next ?_ (by assumption)))
    have HM0 : Hid (MdB w W2 P y (.slice none 0 0) []) := Lib.hid ⟨by rw [hW2, ← HPp.out]; exact BoxN.new w1 _ _, ⟨rfl, .inl ⟨rfl, rfl⟩⟩, hr1.below hb2, Below.next hB1 hb2, by rw [← HPp.out]; exact hsz⟩
    have HBEST := Lib.hid hbest
    clear hbest hr1 hb2 hB1 hsz hsz1
    go_upto_region 5 with fail
    rw [← hW2, HPp.out]
    clear hW2 HPp
    go_loopw [1, 3, 12] (fun xv sv kv wr => ∃ (k : Nat) (x s : Int) (m rest : List Nat) (cv : Value), kv = .int .i64 k ∧ xv = .int .i64 x ∧ sv = .int .i64 s ∧ m.length + k = h ∧ l = m ++ rest ∧ walkP cs n m u t = some (x, s) ∧ gdP cs n v y k x s ∧ Grd cs n v y k x s rest ∧ MdB w wr P y cv (ints m)) (fun _ _ kv _ => (intOf kv).toNat)
    case atStart => exact ⟨h, u, t, [], l, _, rfl, rfl, rfl, by simp, rfl, rfl, HBEST.out.good, HBEST.out.grd, HM0.out⟩
    case round =>
      clear HM0
      obtain ⟨k, x, s, m, rest, cv, rfl, rfl, rfl, hmk, hlm, hwm, hgd, hgr, hmd⟩ := hrel
      have HMD := Lib.hid hmd
      have HLM := Lib.hid hlm
      have HWM := Lib.hid hwm
      have hx : 1 ≤ x ∧ x ≤ 16 := walk_node HP.out _ _ _ _ _ hu hwm
      have hs0 : 0 ≤ s := by have := walk_le HP.out hn.1 _ _ _ _ _ hwm; omega
      clear hmd hlm hwm
      cases k with
      | zero =>
        have hre : rest = [] := hgr
        subst hre
        have hlm2 : l = m := by have := HLM.out; simpa using this
        obtain ⟨ca9, cc9, hcv⟩ := owns_form HMD.out.row
        obtain ⟨ML, hML⟩ : ∃ ML, (ints m).length = ML := ⟨_, rfl⟩
        rw [hML] at hcv
        subst hcv
        clear hML
        have HRES := Lib.hid HMD.out.res
        have HBOX := Lib.hid HMD.out.box
        have z0 := HRES.out.frozen 0
        have z1 := HRES.out.frozen 1
        have t0 : wr.cell? ⟨w.heap.size, 0, none⟩ = some (.slice none 0 0) := HRES.out.cell 0
        have t1 : wr.cell? ⟨w.heap.size, 1, none⟩ = some (.int .i64 0) := HRES.out.cell 1
        have r0 : wr.cell? ⟨P, 0, none⟩ = some (.slice ca9 ML cc9) := HBOX.out.cell 0
        have r1 : wr.cell? ⟨P, 1, none⟩ = some (.int .i64 y) := HBOX.out.cell 1
        have hge := HMD.out.ge
        have HFIN : Hid (RtF ((wr.setCell ⟨w.heap.size, 0, none⟩ (.slice ca9 ML cc9)).setCell ⟨w.heap.size, 1, none⟩ (.int .i64 y)) (w.heap.size + 1) (.agg #[.slice ca9 ML cc9, .int .i64 y]) y (ints l) ∧ Below w.heap.size w ((wr.setCell ⟨w.heap.size, 0, none⟩ (.slice ca9 ML cc9)).setCell ⟨w.heap.size, 1, none⟩ (.int .i64 y))) := Lib.hid ⟨⟨_, rfl, by
          rw [hlm2]
          exact own_set (own_set (owns_mono HMD.out.row (by omega)) (Nat.lt_succ_self _) _) (Nat.lt_succ_self _) _⟩, (HMD.out.bel.setCell (p := ⟨w.heap.size, 0, none⟩) (Nat.le_refl _) _).setCell (p := ⟨w.heap.size, 1, none⟩) (Nat.le_refl _) _⟩
        have d2 : decide (((0 : Nat) : Int) > 0) = false := by decide
        clear hgd hgr hmk hlm2 hx hs0
        go_wp2_with fail
        refine bodyPost_ret (v := .tuple #[.agg #[.slice ca9 ML cc9, .int .i64 y], .bool true]) (by simp [results, Try.results41, go_sem, t0, t1]) rfl ⟨⟨_, rfl, HFIN.out.1⟩, HFIN.out.2⟩
      | succ k =>
        obtain ⟨i0, rest', s1, hre, hi0, hf0, hh0, hg0, hfirst, hgr'⟩ := hgr
        subst hre
        have d2 : decide (((k + 1 : Nat) : Int) > 0) = true := yb (by omega)
        have hwk : IntKind.i64.wrap (((k + 1 : Nat) : Int) - 1) = (k : Int) := by rw [show ((k + 1 : Nat) : Int) - 1 = (k : Int) by omega]; exact IntWalk.i64_in _ (by omega)
        obtain ⟨K, hK⟩ : ∃ K : Int, K = ((k + 1 : Nat) : Int) := ⟨_, rfl⟩
        rw [← hK] at d2 hwk ⊢
        have HFST := Lib.hid hfirst
        have HFIT : Hid (gdP cs n v y k (cs.getD i0 c0).dt s1 ∧ Grd cs n v y k (cs.getD i0 c0).dt s1 rest' ∧ hopO (cs.getD i0 c0) s n = some s1 ∧ (cs.getD i0 c0).fr = x) := Lib.hid ⟨hg0, hgr', hh0, hf0⟩
        have hi0N : i0 < N := by rw [← HN.out]; exact hi0
        have HKK := Lib.hid hK
        have HMK := Lib.hid hmk
        clear hgd hfirst hg0 hgr' hh0 hf0 hi0 hK hmk
        go_wp2_with fail
        go_loopw [1, 3, 15] (fun xv sv iv wx => ∃ i : Nat, i ≤ i0 ∧ xv = .int .i64 x ∧ sv = .int .i64 s ∧ iv = .int .i64 i ∧ Below wr.heap.size wr wx) (fun _ _ iv _ => i0 + 1 - (intOf iv).toNat)
        case atStart => exact ⟨0, Nat.zero_le _, rfl, rfl, rfl, Below.refl _ _⟩
        case round =>
          rename World => wx
          obtain ⟨i, hi, rfl, rfl, rfl, hb⟩ := hrel
          have HBX := Lib.hid hb
          have d3 : decide ((i : Int) < (N : Int)) = true := yb (by omega)
          obtain ⟨bb, off, rfl, hc2, ca0, ca1, ca2, ca3, ca4, ca5⟩ := RdC.at ((HR.out.keep HMD.out.bel).keep hb) HN.out i (by omega)
          have hokj := HP.out.at (i := i) (by rw [HN.out]; omega)
          obtain ⟨cc, HCC⟩ : ∃ cc, Hid (cs.getD i c0 = cc) := ⟨_, Lib.hid rfl⟩
          rw [HCC.out] at ca0 ca1 ca2 ca3 ca4 ca5 hokj
          have HOV := Lib.hid (rover_any cc s n hokj hs0 hn wx)
          obtain ⟨r, HRr⟩ : ∃ r, Hid (hopO cc s n = r) := ⟨_, Lib.hid rfl⟩
          have hdt := hokj.2.1
          have n1 : (0 : Int) ≤ (i : Int) := by omega
          have n2 : (i : Int) < (N : Int) := by omega
          have hwi : IntKind.i64.wrap (i : Int) = (i : Int) := IntWalk.i64_in _ (by omega)
          have hwi1 : IntKind.i64.wrap ((i : Int) + 1) = (i : Int) + 1 := IntWalk.i64_in _ (by omega)
          have hpos := fun s' (hs' : hopO cc s n = some s') => (hop_gt hokj hn.1 hs').2
          rw [HRr.out] at hpos
          clear hokj hb
          go_wp2_with fail
          refine HOV.out.mono ?_
          rintro e w5 ⟨x9, rfl, hx9, hb5⟩
          rw [HRr.out] at hx9 ⊢
          have HB5 := Lib.hid (Below.next HBX.out hb5)
          have ca0 := cell_later hb5 ca0
          have ca1 := cell_later hb5 ca1
          clear hb5 ca2 ca3 ca4 ca5 HOV
          by_cases hfr : cc.fr = x
          · have d4 : (cc.fr == x) = true := by simp [hfr]
            cases r with
            | none =>
              have hne : i ≠ i0 := fun hh => by
                subst hh
                have h2 := HFIT.out.2.2.1
                rw [HCC.out, HRr.out] at h2
                cases h2
              clear hfr hx9 hpos
              go_wp2_with fail
              go_roundw
              case rel => exact ⟨i + 1, by omega, rfl, rfl, by go_num, HB5.out⟩
              case measure => simp [intOf]; omega
            | some s2 =>
              obtain rfl := hx9 s2 rfl
              have hs2 := hpos x9 rfl
              have hRC := rreach_any (.slice (some ⟨bb, off, none⟩) N n0) cs cc.dt x9 n k HP.out (by rw [HN.out]; exact hl) hdt (by omega) hn (by have := HMK.out; omega) w5 ((HR.out.keep HMD.out.bel).keep HB5.out)
              have HRC := Lib.hid hRC
              have hat := gI_to (L := rchL cs n cc.dt x9 k) (v := v) (rchL_len HP.out hn.1 hdt (by omega) k) (by omega) (by omega)
              have htest : gI (rchL cs n cc.dt x9 k) v = y ↔ gdP cs n v y k cc.dt x9 := by
                have hw2 := walk_snoc HWM.out (i := i) (by rw [HN.out]; omega) (by rw [HCC.out]; exact hfr) (by rw [HCC.out]; exact HRr.out)
                rw [HCC.out] at hw2
                exact HBEST.out.test HP.out hn.1 (by omega) hw2 hdt (by omega) (by rw [List.length_append]; have := HMK.out; simp; omega)
              rw [hat] at htest
              have HT := Lib.hid htest
              have V1 : (0 : Int) ≤ v := by omega
              have V2 : v < 17 := by omega
              have hwV : IntKind.i64.wrap v = v := IntWalk.i64_in _ (by omega)
              obtain ⟨z, hz⟩ : ∃ z, (rchL cs n cc.dt x9 k).getD v.toNat 0 = z := ⟨_, rfl⟩
              have HZ := Lib.hid hz
              clear hRC hat htest hx9 hpos hz
              go_wp2_with fail
              refine HRC.out.mono ?_
              rintro e w6 ⟨⟨q6, c6, rfl, ho6⟩, hb6⟩
              have gV := ho6.at v.toNat (by omega)
              rw [HZ.out] at gV
              have HB6 := Lib.hid (Below.next HB5.out hb6)
              have ca0 := cell_later hb6 ca0
              have ca1 := cell_later hb6 ca1
              have ht2 := HT.out
              rw [HZ.out] at ht2
              clear ho6 hb6 HRC
              by_cases hzE : z = y
              · have d5 : (z == y) = true := by simp [hzE]
                have hio : i = i0 := by
                  refine Decidable.byContradiction fun hne => HFST.out i (by omega) ⟨by rw [HCC.out]; exact hfr, x9, by rw [HCC.out]; exact HRr.out, by rw [HCC.out]; exact ht2.1 hzE⟩
                have hse : s1 = x9 := by
                  have h2 := HFIT.out.2.2.1
                  rw [← hio, HCC.out, HRr.out] at h2
                  simpa using h2.symm
                have hfin : gdP cs n v y k cc.dt x9 ∧ Grd cs n v y k cc.dt x9 rest' := by
                  have h1 := HFIT.out.1
                  have h2 := HFIT.out.2.1
                  rw [← hio, HCC.out, hse] at h1 h2
                  exact ⟨h1, h2⟩
                have hwf : walkP cs n (m ++ [i]) u t = some (cc.dt, x9) := by
                  have := walk_snoc HWM.out (i := i) (by rw [HN.out]; omega) (by rw [HCC.out]; exact hfr) (by rw [HCC.out]; exact HRr.out)
                  rwa [HCC.out] at this
                have HFIN := Lib.hid hfin
                have HWF := Lib.hid hwf
                have HLF : Hid (l = (m ++ [i]) ++ rest') := Lib.hid (by rw [HLM.out, ← hio]; simp)
                have HM6 := Lib.hid (HMD.out.keep HB6.out)
                have hbx6 : BoxN w6 P 27 #[cv, .int .i64 y] := HM6.out.box
                have r0 : w6.cell? ⟨P, 0, none⟩ = some cv := hbx6.cell 0
                have hone : RdS (w6.alloc (.cells #[.int .i64 (i : Int)] 3)) 1 (.slice (some ⟨w6.heap.size, 0, none⟩) 1 1) 1 [.int .i64 (i : Int)] := RdI.one w6 (i : Int)
                have hrow : (w6.alloc (.cells #[.int .i64 (i : Int)] 3)).ownsRow (P + 1) 3 1 cv m.length (ic .i64 (ints m)) := by
                  have := own_keep ((by repeat (first | assumption | exact Below.refl _ _ | apply Below.al | apply below_drewN | apply Below.drew | refine Below.next ?_ (by assumption))) : Below w6.heap.size w6 (w6.alloc (.cells #[.int .i64 (i : Int)] 3))) HM6.out.row
                  rwa [show (ints m).length = m.length by simp [ints]] at this
                have hml : m.length ≤ 16 := by have := HMK.out; omega
                have hsz6 : P < w6.heap.size := hbx6.lt
                clear hzE hio hse hfin hwf hfr ht2 hs2
                go_upto_region 12 with fail
                go_upto_region 13 with (at_builtin; refine wpList_app rfl (.tmp 80) (.tmp 82) 25 rfl (P + 1) 3 (.int .i64 0) 1 8 E25 cv m.length (ic .i64 (ints m)) rfl hrow _ 1 [.int .i64 (i : Int)] rfl hone (ic_one .i64 [(i : Int)]) ?c1 ?c2 ?c3 ?c4)
                case c1 => unfold maxLen; omega
                case c2 => omega
                case c3 => simp; omega
                case c4 =>
                  intro a' c' w7 hown7 hg7 hb7
                  have hln : (ints (m ++ [i])).length = m.length + 1 := by simp [ints]
                  have hown8 : w7.ownsRow (P + 1) 3 1 (.slice a' (m.length + 1) c') (ints (m ++ [i])).length (ic .i64 (ints (m ++ [i]))) := by
                    rw [hln, ints_app, ic_append]
                    exact hown7
                  have hM6a := HM6.out.keep ((by repeat (first | assumption | exact Below.refl _ _ | apply Below.al | apply below_drewN | apply Below.drew | refine Below.next ?_ (by assumption))) : Below w6.heap.size w6 (w6.alloc (.cells #[.int .i64 (i : Int)] 3)))
                  have hbx7 : BoxN w7 P 27 #[cv, .int .i64 y] := (hb7.block P (by omega)).trans hM6a.box
                  have z7 := hbx7.frozen 0
                  have r7 : w7.cell? ⟨P, 0, none⟩ = some cv := hbx7.cell 0
                  obtain ⟨W8, hW8⟩ : ∃ V : World, V = w7.setCell ⟨P, 0, none⟩ (.slice a' (m.length + 1) c') := ⟨_, rfl⟩
                  have HM8 : Hid (MdB w W8 P y (.slice a' (m.length + 1) c') (ints (m ++ [i]))) := Lib.hid (by rw [hW8]; exact hM6a.app hb7 hown8)
                  obtain ⟨b9, o9, he9, _, _, cb1, _⟩ := RdC.at (HR.out.keep HM8.out.bel) HN.out i (by omega)
                  simp only [Option.some.injEq, Addr.mk.injEq] at he9
                  obtain ⟨rfl, rfl, _⟩ := he9
                  rw [HCC.out] at cb1
                  clear hown7 hown8 hg7 hb7 hbx7 hM6a hone hrow hbx6 r0 gV ca0 ca1
                  go_upto_region 13 with fail
                  rw [← hW8]
                  clear hW8 z7 r7
                  go_wp2_with fail
                  go_roundw
                  case rel => exact ⟨k, cc.dt, x9, m ++ [i], rest', _, rfl, rfl, rfl, by rw [List.length_append]; have := HMK.out; simp; omega, HLF.out, HWF.out, HFIN.out.1, HFIN.out.2, HM8.out⟩
                  case measure => have := HKK.out; simp [intOf]; omega
              · have d5 : (z == y) = false := by simp [hzE]
                have hne : i ≠ i0 := fun hh => by
                  have h1 := HFIT.out.1
                  have h2 := HFIT.out.2.2.1
                  rw [← hh, HCC.out, HRr.out] at h2
                  rw [← hh, HCC.out] at h1
                  have h3 : x9 = s1 := by simpa using h2
                  rw [← h3] at h1
                  exact hzE (ht2.2 h1)
                clear hzE ht2 hfr hs2
                go_wp2_with fail
                go_roundw
                case rel => exact ⟨i + 1, by omega, rfl, rfl, by go_num, HB6.out⟩
                case measure => simp [intOf]; omega
          · have d4 : (cc.fr == x) = false := by simp [hfr]
            have hne : i ≠ i0 := fun hh => by
              subst hh
              have h2 := HFIT.out.2.2.2
              rw [HCC.out] at h2
              exact hfr h2
            clear hfr hx9 hpos
            go_wp2_with fail
            go_roundw
            case rel => exact ⟨i + 1, by omega, rfl, rfl, by go_num, HB5.out⟩
            case measure => simp [intOf]; omega
end Go.Proofs.Ytgmfifilgbbogaa
