


/- Routes: rows of numbers of one's own; the reference's reach. -/
import Derived.Test.YtgmfifilgbbogaaRB
import Derived.Test.YtgmfifilgbbogaaRX
import Derived.Test.YtgmfifilgbbogaaRS
namespace Go.Proofs.Ytgmfifilgbbogaa
open Go.RowKit
set_option linter.unusedSimpArgs false
set_option linter.unusedVariables false
set_option maxRecDepth 100000

def intR : RowT Int := ⟨1, fun x => [.int .i64 x], 0, by decide, fun _ => rfl, fun t u hu => by
  simp only [List.mem_cons, List.mem_nil_iff, or_false] at hu
  subst hu
  rfl⟩
theorem rcs_int (l : List Int) : rcs intR l = ic .i64 l := by
  induction l with
  | nil => rfl
  | cons a l ih => rw [rcs_cons, ih]; rfl
/-- a row of numbers of one's own -/
abbrev OwI (w : World) (base : Nat) (q n c : Nat) (l : List Int) : Prop := w.ownsRow base 3 1 (.slice (some ⟨q, 0, none⟩) n c) n (ic .i64 l)
theorem OwI.keep {w w' : World} {base q n c : Nat} {l : List Int} (h : OwI w base q n c l) (hb : Below w.heap.size w w') : OwI w' base q n c l :=
  World.ownsRow.kept (row := none) h ⟨hb.os, hb.tape, hb.output, hb.size, fun k hk _ => hb.block k hk⟩ (by simp [Value.ownBlock])
theorem OwI.len {w : World} {base q n c : Nat} {l : List Int} (h : OwI w base q n c l) : l.length = n := by
  have := h.1
  simpa [ic] using this
theorem OwI.at {w : World} {base q n c : Nat} {l : List Int} (h : OwI w base q n c l) (k : Nat) (hk : k < n) : w.cell? ⟨q, k, none⟩ = some (.int .i64 (l.getD k 0)) := by
  rw [World.ownsRow.cellAt h k (by omega), ic_get .i64 l k (by rw [h.len]; exact hk)]
theorem OwI.fz {w : World} {base q n c : Nat} {l : List Int} (h : OwI w base q n c l) (k : Nat) : w.frozen? ⟨q, k, none⟩ = false := World.ownsRow.frozenAt h k
theorem OwI.set {w : World} {base q n c : Nat} {l : List Int} (h : OwI w base q n c l) (k : Nat) (hk : k < n) (x : Int) : OwI (w.setCell ⟨q, k, none⟩ (.int .i64 x)) base q n c (l.set k x) := by
  have h2 : w.ownsRow base 3 intR.size (.slice (some ⟨q, 0, none⟩) n c) n (rcs intR l) := by rw [rcs_int]; exact h
  have := own_row (R := intR) h2 k (by rw [h.len]; exact hk) x
  rw [rcs_int, show intR.size = 1 from rfl, Nat.mul_one] at this
  exact this
theorem OwI.lt {w : World} {base q n c : Nat} {l : List Int} (h : OwI w base q n c l) : base ≤ q ∧ q < w.heap.size := World.ownsRow.lt h q rfl
theorem OwI.rd {w : World} {base q n c : Nat} {l : List Int} (h : OwI w base q n c l) : RdI .i64 w (.slice (some ⟨q, 0, none⟩) n c) l := by
  have := RdS.of_owns h (by decide)
  unfold RdI
  rwa [h.len]
theorem own_addr {w : World} {base e size n c : Nat} {a : Option Addr} {xs : List Value} (h : w.ownsRow base e size (.slice a n c) n xs) (hn : n ≠ 0) : ∃ q, a = some ⟨q, 0, none⟩ := by
  rcases h.2 with ⟨_, h0⟩ | ⟨q, cap, cur, hv, hb, hh, _⟩
  · exact absurd h0 hn
  · simp only [Value.slice.injEq] at hv
    exact ⟨q, hv.1⟩
theorem owns_mono {w : World} {base base' : Nat} {e : TypeId} {size : Nat} {v : Value} {n : Nat} {xs : List Value} (h : w.ownsRow base e size v n xs) (hb : base' ≤ base) : w.ownsRow base' e size v n xs := by
  refine ⟨h.1, ?_⟩
  rcases h.2 with h2 | ⟨g, cap, cur, hv, hg, rest⟩
  · exact .inl h2
  · exact .inr ⟨g, cap, cur, hv, Nat.le_trans hb hg, rest⟩
theorem OwI.new17 (w : World) : OwI (w.alloc (.cells #[.int .i64 0, .int .i64 0, .int .i64 0, .int .i64 0, .int .i64 0, .int .i64 0, .int .i64 0, .int .i64 0, .int .i64 0, .int .i64 0, .int .i64 0, .int .i64 0, .int .i64 0, .int .i64 0, .int .i64 0, .int .i64 0, .int .i64 0] 3)) w.heap.size w.heap.size 17 17 (List.replicate 17 0) :=
  owns_block (w.alloc (.cells (ic .i64 (List.replicate 17 0)).toArray 3)) w.heap.size 3 1 17 (ic .i64 (List.replicate 17 0)) w.heap.size (Nat.le_refl _) (heap_last w _) rfl (by decide)
theorem E25 : ElemOk Try.prog 25 3 (.int .i64 0) 1 8 := ⟨Try.underlying25, by kernel_rfl, rfl, by decide⟩
theorem getD_set (L : List Int) (j k : Nat) (x : Int) (hj : j < L.length) : (L.set j x).getD k 0 = if j = k then x else L.getD k 0 := by
  rw [List.getD_eq_getElem?_getD, List.getD_eq_getElem?_getD, List.getElem?_set]
  by_cases h : j = k
  · subst h; rw [if_pos rfl, if_pos hj, if_pos rfl]; rfl
  · rw [if_neg h, if_neg h]
theorem all_rep {L : List Int} (hl : L.length = 17) (h : ∀ k, k < 17 → L.getD k 0 = -1) : L = List.replicate 17 (-1) := by
  refine List.ext_getElem (by rw [hl, List.length_replicate]) fun i h1 h2 => ?_
  have := h i (by omega)
  rw [List.getD_eq_getElem?_getD, List.getElem?_eq_getElem h1] at this
  rw [List.getElem_replicate]
  exact this
theorem gI_at {L : List Int} (hl : L.length = 17) {d : Nat} (hd : d < 17) : gI L (d : Int) = L.getD d 0 := by
  unfold gI
  rw [Int.toNat_natCast, List.getD_eq_getElem?_getD, List.getD_eq_getElem?_getD, List.getElem?_eq_getElem (by omega)]
  rfl
theorem ini_len (u t : Int) : (ini u t).length = 17 := by unfold ini; simp
set_option maxHeartbeats 4000000 in
theorem rreach_any (pv : Value) (cs : List Ct) (u t n : Int) (h : Nat) (hp : okP cs) (hl : cs.length ≤ 200) (hu : 1 ≤ u ∧ u ≤ 16) (ht : 0 ≤ t) (hn : 1 ≤ n ∧ n ≤ 1200) (hh : h ≤ 16) (w : World) (hr : RdC w pv cs) :
    Calls Try.prog 42 #[pv, .int .i64 u, .int .i64 t, .int .i64 n, .int .i64 (h : Int)] w fun e w' => (∃ q c, e = .returned (.slice (some ⟨q, 0, none⟩) 17 c) ∧ OwI w' w.heap.size q 17 c (rchL cs n u t h)) ∧ Below w.heap.size w w' := by
  obtain ⟨a0, n0, rfl⟩ := hr.form
  obtain ⟨N, hN⟩ : ∃ N, cs.length = N := ⟨_, rfl⟩
  rw [hN] at hr hl ⊢
  obtain ⟨U, hU⟩ : ∃ U : Nat, u = (U : Int) := ⟨u.toNat, by omega⟩
  have hU1 : 1 ≤ U ∧ U ≤ 16 := by omega
  have hmk : ∀ w' : World, (Instr.makeSlice 25 (.int .i64 17) (.int .i64 17)).run Try.prog w' = .ok (.slice (some ⟨w'.heap.size, 0, none⟩) 17 17) (w'.alloc (.cells #[.int .i64 0, .int .i64 0, .int .i64 0, .int .i64 0, .int .i64 0, .int .i64 0, .int .i64 0, .int .i64 0, .int .i64 0, .int .i64 0, .int .i64 0, .int .i64 0, .int .i64 0, .int .i64 0, .int .i64 0, .int .i64 0, .int .i64 0] 3)) := fun _ => by kernel_rfl
  have HRCH := Lib.hid (fun k => rch_all hp hn.1 hu ht k (cs := cs))
  have HIN := Lib.hid (show ini u t = (List.replicate 17 (-1)).set U t by unfold ini; rw [hU, Int.toNat_natCast])
  have HU := Lib.hid hU
  have HN := Lib.hid hN
  have HP := Lib.hid hp
  have HR := Lib.hid hr
  obtain ⟨W1, hW1⟩ : ∃ W : World, W = w.alloc (.cells #[.int .i64 0, .int .i64 0, .int .i64 0, .int .i64 0, .int .i64 0, .int .i64 0, .int .i64 0, .int .i64 0, .int .i64 0, .int .i64 0, .int .i64 0, .int .i64 0, .int .i64 0, .int .i64 0, .int .i64 0, .int .i64 0, .int .i64 0] 3) := ⟨_, rfl⟩
  have HO1 : Hid (OwI W1 w.heap.size w.heap.size 17 17 (List.replicate 17 0)) := Lib.hid (by rw [hW1]; exact OwI.new17 w)
  have HB1 : Hid (Below w.heap.size w W1) := Lib.hid (by rw [hW1]; exact (by repeat (first | assumption | exact Below.refl _ _ | apply Below.al | apply below_drewN | apply Below.drew | refine Below.next ?_ (by assumption))))
  clear hr hp hU
  go_enter Try.func42, Try.ntmps42
  go_upto_region 2 with fail
  rw [← hW1]
  clear hW1 hmk
  go_wp2_with fail
  go_loopw [12] (fun i wr => ∃ (j : Nat) (L : List Int), j ≤ 17 ∧ i = .int .i64 j ∧ OwI wr w.heap.size w.heap.size 17 17 L ∧ (∀ k, k < j → L.getD k 0 = -1) ∧ Below w.heap.size w wr) (fun i _ => 17 - (intOf i).toNat)
  case atStart => exact ⟨0, _, Nat.zero_le _, rfl, HO1.out, (fun k hk => absurd hk (Nat.not_lt_zero _)), HB1.out⟩
  case round =>
    clear HO1 HB1
    obtain ⟨j, L, hj, rfl, ho, hz, hb⟩ := hrel
    have HO := Lib.hid ho
    have HZ := Lib.hid hz
    have HB := Lib.hid hb
    clear ho hz hb
    by_cases hlt : j < 17
    · have d2 : decide ((j : Int) < 17) = true := yb (by omega)
      have g0 := HO.out.at j hlt
      have f0 := HO.out.fz j
      have n1 : (0 : Int) ≤ (j : Int) := by omega
      have n2 : (j : Int) < 17 := by omega
      have hwk : IntKind.i64.wrap (j : Int) = (j : Int) := IntWalk.i64_in _ (by omega)
      have hwk1 : IntKind.i64.wrap ((j : Int) + 1) = (j : Int) + 1 := IntWalk.i64_in _ (by omega)
      obtain ⟨W2, hW2⟩ : ∃ W2 : World, W2 = wr.setCell ⟨w.heap.size, j, none⟩ (.int .i64 (-1)) := ⟨_, rfl⟩
      have HF : Hid (OwI W2 w.heap.size w.heap.size 17 17 (L.set j (-1)) ∧ (∀ k, k < j + 1 → (L.set j (-1)).getD k 0 = -1) ∧ Below w.heap.size w W2) := Lib.hid ⟨by rw [hW2]; exact HO.out.set j hlt _, fun k hk => by
        rw [getD_set _ _ _ _ (by rw [HO.out.len]; exact hlt)]
        split
        · rfl
        · exact HZ.out k (by omega), by rw [hW2]; exact HB.out.setCell (p := ⟨w.heap.size, j, none⟩) (Nat.le_refl _) _⟩
      go_upto_region 4 with fail
      rw [← hW2]
      clear hW2 g0 f0
      go_wp2_with fail
      go_roundw
      case rel => exact ⟨j + 1, _, by omega, by go_num, HF.out.1, HF.out.2.1, HF.out.2.2⟩
      case measure => simp [intOf]; omega
    · have d2 : decide ((j : Int) < 17) = false := nb (by omega)
      have hL := all_rep HO.out.len (fun k hk => HZ.out k (by omega))
      clear hlt hj
      subst hL
      have g0 := HO.out.at U (by omega)
      have f0 := HO.out.fz U
      have n1 : (0 : Int) ≤ (U : Int) := by omega
      have n2 : (U : Int) < 17 := by omega
      have hwk : IntKind.i64.wrap (U : Int) = (U : Int) := IntWalk.i64_in _ (by omega)
      obtain ⟨W2, hW2⟩ : ∃ W2 : World, W2 = wr.setCell ⟨w.heap.size, U, none⟩ (.int .i64 t) := ⟨_, rfl⟩
      have HF : Hid (OwI W2 w.heap.size w.heap.size 17 17 (rchL cs n u t 0) ∧ Below w.heap.size w W2) := Lib.hid ⟨by
        show OwI W2 w.heap.size w.heap.size 17 17 (ini u t)
        rw [HIN.out, hW2]
        exact HO.out.set U (by omega) _, by rw [hW2]; exact HB.out.setCell (p := ⟨w.heap.size, U, none⟩) (Nat.le_refl _) _⟩
      rw [HU.out]
      go_upto_region 7 with fail
      rw [← hW2]
      clear hW2 g0 f0 HO HZ HB HIN
      go_wp2_with fail
      go_loopw [11, 13] (fun nv hv wr => ∃ (k q c : Nat), k ≤ h ∧ nv = .slice (some ⟨q, 0, none⟩) 17 c ∧ hv = .int .i64 k ∧ OwI wr w.heap.size q 17 c (rchL cs n u t k) ∧ Below w.heap.size w wr) (fun _ hv _ => h - (intOf hv).toNat)
      case atStart => exact ⟨0, _, _, Nat.zero_le _, rfl, rfl, HF.out.1, HF.out.2⟩
      case round =>
        clear HF
        obtain ⟨k, q, c, hk, rfl, rfl, ho, hb⟩ := hrel
        have HO := Lib.hid ho
        have HB := Lib.hid hb
        by_cases hlt : k < h
        · have d3 : decide ((k : Int) < (h : Int)) = true := yb (by omega)
          have hwk1 : IntKind.i64.wrap ((k : Int) + 1) = (k : Int) + 1 := IntWalk.i64_in _ (by omega)
          obtain ⟨NW, HNW⟩ : ∃ NW, Hid (rchL cs n u t k = NW) := ⟨_, Lib.hid rfl⟩
          have hrk := HRCH.out k
          rw [HNW.out] at hrk ho
          have HRK := Lib.hid hrk
          have HON := Lib.hid ho
          have hown0 : (wr.alloc (.cells #[] 3)).ownsRow wr.heap.size 3 1 (.slice (some ⟨wr.heap.size, 0, none⟩) 0 0) 0 [] := owns_block _ _ 3 1 0 [] _ (Nat.le_refl _) (heap_last wr _) rfl (by decide)
          have HRD : Hid (RdS (wr.alloc (.cells #[] 3)) 1 (.slice (some ⟨q, 0, none⟩) 17 c) 17 (ic .i64 NW)) := Lib.hid (by
            have := RdI.keep ((by repeat (first | assumption | exact Below.refl _ _ | apply Below.al | apply below_drewN | apply Below.drew | refine Below.next ?_ (by assumption))) : Below wr.heap.size wr (wr.alloc (.cells #[] 3))) HON.out.rd
            unfold RdI at this
            rwa [HON.out.len] at this)
          clear ho hb hrk
          go_upto_region 11 with (at_builtin; refine wpList_app rfl (.tmp 38) (.tmp 39) 25 rfl wr.heap.size 3 (.int .i64 0) 1 8 E25 _ 0 [] rfl hown0 _ 17 (ic .i64 NW) rfl HRD.out (ic_one _ _) ?c1 ?c2 ?c3 ?c4)
          case c1 => unfold maxLen; omega
          case c2 => omega
          case c3 => simp
          case c4 =>
            intro a3 c3 w3 hown3 hg3 hb3
            have hown3 : w3.ownsRow wr.heap.size 3 1 (.slice a3 17 c3) 17 (ic .i64 NW) := by first | with_reducible exact hown3 | simpa using hown3
            obtain ⟨q3, rfl⟩ := own_addr hown3 (by omega)
            have hB3 : Below wr.heap.size wr w3 := Below.trans (Below.al (Below.refl _ _) _) hb3
            have HO3 : Hid (OwI w3 wr.heap.size q3 17 c3 NW) := Lib.hid hown3
            have HB3 := Lib.hid hB3
            clear hown3 hown0 hg3 hb3 HRD hB3
            go_upto_region 11 with fail
            go_wp2_with fail
            go_loopw [15] (fun iv wx => ∃ (i : Nat) (L : List Int), i ≤ N ∧ iv = .int .i64 i ∧ OwI wx wr.heap.size q3 17 c3 L ∧ Rin cs n u t k NW L i ∧ Below wr.heap.size wr wx ∧ L = (cs.take i).foldl (rlx n NW) NW) (fun iv _ => N - (intOf iv).toNat)
            case atStart => exact ⟨0, NW, Nat.zero_le _, rfl, HO3.out, rin_fold HP.out hn.1 HRK.out 0 (Nat.zero_le _), HB3.out, rfl⟩
            case round =>
              clear HO3 HB3
              rename World => wx
              obtain ⟨i, L, hi, rfl, ho, hri, hb, hL⟩ := hrel
              have HOX := Lib.hid ho
              have HRI := Lib.hid hri
              have HBX := Lib.hid hb
              have HL := Lib.hid hL
              by_cases hin : i < N
              · have d4 : decide ((i : Int) < (N : Int)) = true := yb (by omega)
                obtain ⟨b, off, rfl, hc2, ca0, ca1, ca2, ca3, ca4, ca5⟩ := RdC.at ((HR.out.keep HB.out).keep hb) HN.out i hin
                have hokj := HP.out.at (i := i) (by rw [HN.out]; exact hin)
                have hstep := rin_step HP.out hn.1 HRK.out hri (by rw [HN.out]; exact hin)
                have hLn : rlx n NW L (cs.getD i c0) = (cs.take (i + 1)).foldl (rlx n NW) NW := by
                  rw [List.take_succ_eq_append_getElem (by rw [HN.out]; exact hin), List.foldl_append, ← hL]
                  rw [List.getD_eq_getElem?_getD, List.getElem?_eq_getElem (by rw [HN.out]; exact hin)]
                  rfl
                obtain ⟨cc, HCC⟩ : ∃ cc, Hid (cs.getD i c0 = cc) := ⟨_, Lib.hid rfl⟩
                rw [HCC.out] at ca0 ca1 ca2 ca3 ca4 ca5 hokj hstep hLn
                obtain ⟨F, hF⟩ : ∃ F : Nat, cc.fr = (F : Int) := ⟨cc.fr.toNat, by have := hokj.1; omega⟩
                obtain ⟨D, hD⟩ : ∃ D : Nat, cc.dt = (D : Int) := ⟨cc.dt.toNat, by have := hokj.2.1; omega⟩
                have hF1 : 1 ≤ F ∧ F ≤ 16 := by have := hokj.1; omega
                have hD1 : 1 ≤ D ∧ D ≤ 16 := by have := hokj.2.1; omega
                have hok2 := hokj
                have hNl := HON.out.len
                have hXl := ho.len
                obtain ⟨s0, hs0⟩ : ∃ s0, NW.getD F 0 = s0 := ⟨_, rfl⟩
                obtain ⟨z0, hz0⟩ : ∃ z0, L.getD D 0 = z0 := ⟨_, rfl⟩
                have hgF : gI NW cc.fr = s0 := by rw [hF, gI_at hNl (by omega), hs0]
                have hgD : gI L cc.dt = z0 := by rw [hD, gI_at hXl (by omega), hz0]
                have gF := (HON.out.keep hb).at F (by omega)
                have gD := ho.at D (by omega)
                have fD := ho.fz D
                rw [hs0] at gF
                rw [hz0] at gD
                obtain ⟨LN, HLN⟩ : ∃ LN, Hid (rlx n NW L cc = LN) := ⟨_, Lib.hid rfl⟩
                have hdef := HLN.out
                unfold rlx at hdef
                rw [hgF, hgD] at hdef
                rw [HLN.out] at hstep hLn
                have HSTEP := Lib.hid hstep
                have HLNN := Lib.hid hLn
                have HO := fun w' => rover_is cc s0 n hok2 (w := w')
                obtain ⟨W5, hW5⟩ : ∃ V : World, V = wx.alloc (.cells #[.int .i64 (F : Int), .int .i64 (D : Int), .int .i64 cc.st, .int .i64 cc.en, .int .i64 cc.rt, .int .i64 cc.dl] 52) := ⟨_, rfl⟩
                have hb5 : Below wx.heap.size wx W5 := by rw [hW5]; exact (by repeat (first | assumption | exact Below.refl _ _ | apply Below.al | apply below_drewN | apply Below.drew | refine Below.next ?_ (by assumption)))
                have hA5 : BC W5 wx.heap.size cc := by rw [hW5]; simp [BC, go_sem, hF, hD]
                have n1 : (0 : Int) ≤ (i : Int) := by omega
                have n2 : (i : Int) < (N : Int) := by omega
                have hwi : IntKind.i64.wrap (i : Int) = (i : Int) := IntWalk.i64_in _ (by omega)
                have hwi1 : IntKind.i64.wrap ((i : Int) + 1) = (i : Int) + 1 := IntWalk.i64_in _ (by omega)
                have F1 : (0 : Int) ≤ (F : Int) := by omega
                have F2 : (F : Int) < 17 := by omega
                have hwF : IntKind.i64.wrap (F : Int) = (F : Int) := IntWalk.i64_in _ (by omega)
                have D1 : (0 : Int) ≤ (D : Int) := by omega
                have D2 : (D : Int) < 17 := by omega
                have hwD : IntKind.i64.wrap (D : Int) = (D : Int) := IntWalk.i64_in _ (by omega)
                have hO5 := ho.keep hb5
                have gF5 := cell_later hb5 gF
                have gD5 := cell_later hb5 gD
                have fD5 := hO5.fz D
                have e0 : W5.cell? ⟨wx.heap.size, 0, none⟩ = some (.int .i64 (F : Int)) := by rw [← hF]; exact hA5.1
                have e1 : W5.cell? ⟨wx.heap.size, 1, none⟩ = some (.int .i64 (D : Int)) := by rw [← hD]; exact hA5.2.1
                have HBX5 := Lib.hid (Below.next hb hb5)
                have HO5 := Lib.hid hO5
                have HF := Lib.hid hF
                have HD := Lib.hid hD
                clear ho hri hb hL hstep hLn hok2 hNl hXl hs0 hz0 hgF hgD gF gD fD hO5
                go_upto_region 15 with fail
                rw [← hW5]
                clear hW5 ca0 ca1 ca2 ca3 ca4 ca5
                by_cases hneg : s0 < 0
                · rw [if_pos hneg] at hdef
                  have HLL := Lib.hid hdef
                  have t1 : decide (s0 < 0) = true := yb hneg
                  clear hdef HO hneg
                  go_wp2_with fail
                  go_roundw
                  case rel => exact ⟨i + 1, LN, by omega, by go_num, by rw [← HLL.out]; exact HO5.out, HSTEP.out, HBX5.out, HLNN.out⟩
                  case measure => simp [intOf]; omega
                · rw [if_neg hneg] at hdef
                  have t1 : decide (s0 < 0) = false := nb hneg
                  have hov := fun w' => HO w' (by omega) ⟨hn.1, hn.2⟩
                  obtain ⟨r, hr⟩ : ∃ r, hopO cc s0 n = r := ⟨_, rfl⟩
                  rw [hr] at hdef
                  simp only [hr] at hov
                  obtain ⟨xv, hxv⟩ : ∃ xv, r.getD cc.dl = xv := ⟨_, rfl⟩
                  simp only [hxv] at hov
                  have HOVV : Hid (∀ w', Calls Try.prog 44 #[.agg #[.int .i64 (F : Int), .int .i64 (D : Int), .int .i64 cc.st, .int .i64 cc.en, .int .i64 cc.rt, .int .i64 cc.dl], .int .i64 s0, .int .i64 n] w' fun e w'' => e = .returned (.tuple #[.int .i64 xv, .bool r.isSome]) ∧ Below w'.heap.size w' w'') := Lib.hid (fun w' => by have := hov w'; rwa [show cc.v = .agg #[.int .i64 (F : Int), .int .i64 (D : Int), .int .i64 cc.st, .int .i64 cc.en, .int .i64 cc.rt, .int .i64 cc.dl] by rw [← hF, ← hD]] at this)
                  have HXV := Lib.hid hxv
                  have gfr := hA5.2.2.1
                  have gen := hA5.2.2.2.1
                  have grt := hA5.2.2.2.2.1
                  have gdl := hA5.2.2.2.2.2
                  clear HO hov hneg hr hxv hF hD hA5
                  go_upto_region 16 with fail
                  refine wp_region_calm (fun w' => Below W5.heap.size W5 w') 99 (by kernel_rfl) ((Below.refl _ W5).drew) ?_
                  refine cm_run 0 58 (v := .agg #[.int .i64 (F : Int), .int .i64 (D : Int), .int .i64 cc.st, .int .i64 cc.en, .int .i64 cc.rt, .int .i64 cc.dl]) rfl rfl (by kernel_rfl) (by kernel_rfl) (by kernel_rfl) (by kernel_rfl) (by kernel_rfl) (fun _ _ _ h => h) (by rfl) ?_ ?_
                  · (intro wS hS; (have j0 := cell_later hS e0; have j1 := cell_later hS e1; have j2 := cell_later hS gfr; have j3 := cell_later hS gen; have j4 := cell_later hS grt; have j5 := cell_later hS gdl); go_simp; (try with_reducible rfl))
                  simp only [List.setIfInBounds_toArray, List.set_cons_zero, List.set_cons_succ]
                  refine cm_run 1 59 (v := ?_) rfl rfl (by kernel_rfl) (by kernel_rfl) (by kernel_rfl) (by kernel_rfl) (by kernel_rfl) (fun _ _ _ h => h) (by rfl) ?_ ?_
                  rotate_left
                  · (intro wS hS; skip; go_simp; (try with_reducible rfl))
                  simp only [List.setIfInBounds_toArray, List.set_cons_zero, List.set_cons_succ]
                  refine cm_run 2 60 (v := ?_) rfl rfl (by kernel_rfl) (by kernel_rfl) (by kernel_rfl) (by kernel_rfl) (by kernel_rfl) (fun _ _ _ h => h) (by rfl) ?_ ?_
                  rotate_left
                  · (intro wS hS; skip; go_simp; (try with_reducible rfl))
                  simp only [List.setIfInBounds_toArray, List.set_cons_zero, List.set_cons_succ]
                  refine cm_run 3 61 (v := ?_) rfl rfl (by kernel_rfl) (by kernel_rfl) (by kernel_rfl) (by kernel_rfl) (by kernel_rfl) (fun _ _ _ h => h) (by rfl) ?_ ?_
                  rotate_left
                  · (intro wS hS; have j0 := cell_later hS e0; go_simp; (try with_reducible rfl))
                  simp only [List.setIfInBounds_toArray, List.set_cons_zero, List.set_cons_succ]
                  refine cm_run 4 62 (v := ?_) rfl rfl (by kernel_rfl) (by kernel_rfl) (by kernel_rfl) (by kernel_rfl) (by kernel_rfl) (fun _ _ _ h => h) (by rfl) ?_ ?_
                  rotate_left
                  · (intro wS hS; skip; go_simp; (try with_reducible rfl))
                  simp only [List.setIfInBounds_toArray, List.set_cons_zero, List.set_cons_succ]
                  refine cm_run 5 63 (v := ?_) rfl rfl (by kernel_rfl) (by kernel_rfl) (by kernel_rfl) (by kernel_rfl) (by kernel_rfl) (fun _ _ _ h => h) (by rfl) ?_ ?_
                  rotate_left
                  · (intro wS hS; have j0 := cell_later hS gF5; go_simp; (try with_reducible rfl))
                  simp only [List.setIfInBounds_toArray, List.set_cons_zero, List.set_cons_succ]
                  refine cm_run 6 64 (v := ?_) rfl rfl (by kernel_rfl) (by kernel_rfl) (by kernel_rfl) (by kernel_rfl) (by kernel_rfl) (fun _ _ _ h => h) (by rfl) ?_ ?_
                  rotate_left
                  · (intro wS hS; skip; go_simp; (try with_reducible rfl))
                  simp only [List.setIfInBounds_toArray, List.set_cons_zero, List.set_cons_succ]
                  refine cm_call 7 65 44 (v := .tuple #[.int .i64 xv, .bool r.isSome]) (args := ?_) rfl rfl (by kernel_rfl) (by kernel_rfl) (by kernel_rfl) (by kernel_rfl) (by kernel_rfl) (fun _ _ _ h => h) (by rfl) ?_ ?_ ?_
                  rotate_left 1
                  · (intro wS hS; go_simp; (try with_reducible rfl))
                  · (intro wS hS; refine (HOVV.out _).mono ?_; (rintro e w2 ⟨rfl, hb⟩; exact ⟨rfl, Below.next hS hb⟩))
                  simp only [List.setIfInBounds_toArray, List.set_cons_zero, List.set_cons_succ]
                  refine cm_run 8 57 (v := ?_) rfl rfl (by kernel_rfl) (by kernel_rfl) (by kernel_rfl) (by kernel_rfl) (by kernel_rfl) (fun _ _ _ h => h) (by rfl) ?_ ?_
                  rotate_left
                  · (intro wS hS; skip; go_simp; (try with_reducible rfl))
                  simp only [List.setIfInBounds_toArray, List.set_cons_zero, List.set_cons_succ]
                  refine cm_run 9 66 (v := ?_) rfl rfl (by kernel_rfl) (by kernel_rfl) (by kernel_rfl) (by kernel_rfl) (by kernel_rfl) (fun _ _ _ h => h) (by rfl) ?_ ?_
                  rotate_left
                  · (intro wS hS; skip; go_simp; (try with_reducible rfl))
                  simp only [List.setIfInBounds_toArray, List.set_cons_zero, List.set_cons_succ]
                  refine cm_run 10 67 (v := ?_) rfl rfl (by kernel_rfl) (by kernel_rfl) (by kernel_rfl) (by kernel_rfl) (by kernel_rfl) (fun _ _ _ h => h) (by rfl) ?_ ?_
                  rotate_left
                  · (intro wS hS; skip; go_simp; (try with_reducible rfl))
                  simp only [List.setIfInBounds_toArray, List.set_cons_zero, List.set_cons_succ]
                  refine cm_run 11 17 (v := ?_) rfl rfl (by kernel_rfl) (by kernel_rfl) (by kernel_rfl) (by kernel_rfl) (by kernel_rfl) (fun _ _ _ h => h) (by rfl) ?_ ?_
                  rotate_left
                  · (intro wS hS; skip; go_simp; (try with_reducible rfl))
                  simp only [List.setIfInBounds_toArray, List.set_cons_zero, List.set_cons_succ]
                  refine cm_run 12 18 (v := ?_) rfl rfl (by kernel_rfl) (by kernel_rfl) (by kernel_rfl) (by kernel_rfl) (by kernel_rfl) (fun _ _ _ h => h) (by rfl) ?_ ?_
                  rotate_left
                  · (intro wS hS; skip; go_simp; (try with_reducible rfl))
                  simp only [List.setIfInBounds_toArray, List.set_cons_zero, List.set_cons_succ]
                  refine cm_done (by kernel_rfl) ?_
                  intro wS hS
                  refine NoPanic.normal ?_
                  have HBS := Lib.hid (Below.next HBX5.out hS)
                  have HOS := Lib.hid (HO5.out.keep hS)
                  have gDS := cell_later hS gD5
                  have fDS := HOS.out.fz D
                  have e1S := cell_later hS e1
                  clear hS gF5 gD5 fD5 e0 e1 gfr gen grt gdl HOVV HO5 HBX5
                  cases r with
                  | none =>
                    have HLL : Hid (L = LN) := Lib.hid hdef
                    clear hdef
                    go_wp2_with fail
                    go_roundw
                    case rel => exact ⟨i + 1, LN, by omega, by go_num, by rw [← HLL.out]; exact HOS.out, HSTEP.out, HBS.out, HLNN.out⟩
                    case measure => simp [intOf]; omega
                  | some s =>
                    have hxs : s = xv := HXV.out
                    subst hxs
                    have hdef : (if z0 < 0 ∨ s < z0 then L.set cc.dt.toNat s else L) = LN := hdef
                    rw [HD.out, Int.toNat_natCast] at hdef
                    have HW6 := Lib.hid (fun (W6 : World) (h6 : W6 = wS.setCell ⟨q3, D, none⟩ (.int .i64 s)) => (show OwI W6 wr.heap.size q3 17 c3 (L.set D s) ∧ Below wr.heap.size wr W6 by
                      rw [h6]
                      exact ⟨HOS.out.set D (by omega) s, HBS.out.setCell (p := ⟨q3, D, none⟩) HOS.out.lt.1 _⟩))
                    by_cases hz : z0 < 0
                    · rw [if_pos (.inl hz)] at hdef
                      have HLL := Lib.hid hdef
                      have t2 : decide (z0 < 0) = true := yb hz
                      obtain ⟨W6, hW6⟩ : ∃ V : World, V = wS.setCell ⟨q3, D, none⟩ (.int .i64 s) := ⟨_, rfl⟩
                      have H6 := Lib.hid (HW6.out W6 hW6)
                      clear hdef hz
                      go_upto_region 13 with fail
                      rw [← hW6]
                      clear hW6 gDS fDS e1S
                      go_wp2_with fail
                      go_roundw
                      case rel => exact ⟨i + 1, LN, by omega, by go_num, by rw [← HLL.out]; exact H6.out.1, HSTEP.out, H6.out.2, HLNN.out⟩
                      case measure => simp [intOf]; omega
                    · have t2 : decide (z0 < 0) = false := nb hz
                      by_cases hs : s < z0
                      · rw [if_pos (.inr hs)] at hdef
                        have HLL := Lib.hid hdef
                        have t3 : decide (s < z0) = true := yb hs
                        obtain ⟨W6, hW6⟩ : ∃ V : World, V = wS.setCell ⟨q3, D, none⟩ (.int .i64 s) := ⟨_, rfl⟩
                        have H6 := Lib.hid (HW6.out W6 hW6)
                        clear hdef hz hs
                        go_upto_region 13 with fail
                        rw [← hW6]
                        clear hW6 gDS fDS e1S
                        go_wp2_with fail
                        go_roundw
                        case rel => exact ⟨i + 1, LN, by omega, by go_num, by rw [← HLL.out]; exact H6.out.1, HSTEP.out, H6.out.2, HLNN.out⟩
                        case measure => simp [intOf]; omega
                      · rw [if_neg (by omega)] at hdef
                        have HLL := Lib.hid hdef
                        have t3 : decide (s < z0) = false := nb hs
                        clear hdef hz hs
                        go_wp2_with fail
                        go_roundw
                        case rel => exact ⟨i + 1, LN, by omega, by go_num, by rw [← HLL.out]; exact HOS.out, HSTEP.out, HBS.out, HLNN.out⟩
                        case measure => simp [intOf]; omega
              · obtain rfl : i = N := by omega
                have d4 : decide ((i : Int) < (i : Int)) = false := nb (by omega)
                have hfin : L = rchL cs n u t (k + 1) := by
                  rw [hL, List.take_of_length_le (by rw [HN.out]; exact Nat.le_refl _)]
                  show _ = rnd cs n (rchL cs n u t k)
                  rw [HNW.out]
                  rfl
                have HFI : Hid (OwI wx w.heap.size q3 17 c3 (rchL cs n u t (k + 1)) ∧ Below w.heap.size w wx) := Lib.hid ⟨by rw [← hfin]; exact owns_mono HOX.out HB.out.size, Below.next HB.out HBX.out⟩
                clear hfin hL ho hri hb
                go_wp2_with fail
                go_roundw
                case rel => exact ⟨k + 1, q3, c3, by omega, rfl, by go_num, HFI.out.1, HFI.out.2⟩
                case measure => simp [intOf]; omega
        · obtain rfl : k = h := by omega
          have d3 : decide ((k : Int) < (k : Int)) = false := nb (by omega)
          go_wp2_with fail
          go_ret
          exact ⟨⟨q, c, rfl, HO.out⟩, HB.out⟩
end Go.Proofs.Ytgmfifilgbbogaa
