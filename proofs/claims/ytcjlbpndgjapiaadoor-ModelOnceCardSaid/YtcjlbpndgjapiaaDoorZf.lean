/- fateOf, in the reference. Holders, Copies, in the reference. -/
import Derived.Test.YtcjlbpndgjapiaaDoorXf
namespace Go.Proofs.YtcjlbpndgjapiaaDoor
open Go.RowKit
set_option linter.unusedSimpArgs false
set_option linter.unusedVariables false
set_option maxRecDepth 100000

abbrev FtV (f : Ft) : Value := .agg (frs f).toArray
theorem frs_info (f : Ft) : (Tryd.prog.info? 92).map (·.size) = some (frs f).toArray.size := by rw [List.size_toArray, frs_len]; rfl
theorem frs_one (f : Ft) : (frs f).toArray.all (·.oneCell') = true := by
  simp only [List.all_toArray, List.all_eq_true]
  intro u hu
  have := frR.one f u hu
  rcases hu with hu
  simp only [frs, bls, List.mem_append, List.mem_map, List.mem_cons, List.mem_nil_iff, or_false] at hu
  rcases hu with ⟨_, _, rfl⟩ | ⟨_, _, rfl⟩ | rfl | rfl | rfl <;> rfl
/-- a fate's box -/
abbrev FtX (w : World) (B : Nat) (f : Ft) : Prop := BoxN w B 92 (frs f).toArray
theorem FtX.there {w : World} {B : Nat} {f g : Ft} (h : FtX w B f) : w.there B 0 (frs g).toArray.size := BoxN.there h _ (by rw [List.size_toArray, List.size_toArray, frs_len, frs_len])
theorem FtX.sets {w : World} {B : Nat} {f : Ft} (h : FtX w B f) (g : Ft) : FtX (w.setCells B 0 (frs g).toArray.toList) B g := BoxN.sets h (frs g) (by rw [List.size_toArray, frs_len, frs_len])
theorem FtX.range {w : World} {B : Nat} {f : Ft} (h : FtX w B f) : w.rangeAt B 0 (frs f) := fun j v hj => by
  have := BoxN.cell h j
  rw [Nat.zero_add, this]
  simpa using hj
theorem OwF.range {w : World} {base g n c : Nat} {S : List Ft} (h : OwF w base g n c S) (hn : S.length = n) {k : Nat} (hk : k < n) : w.rangeAt g (k * 37) (frs (S.getD k f0)) := fun j v hj => by
  have hl : j < 37 := by
    have := (List.getElem?_eq_some_iff.1 hj).1
    rwa [frs_len] at this
  rw [h.at hn hk hl]; exact hj
theorem results_ft (a : Act) (w : World) (q : Nat) (e : Int) (f : Ft) (h8 : a.tmps.getD 6 undef = .pointer (some ⟨q, 0, none⟩)) (h9 : a.tmps.getD 7 undef = .int .i64 e) (hr : FtX w q f) : (results Tryd.f51 a.tmps).run Tryd.prog w = .ok (.tuple #[FtV f, .int .i64 e]) w := by
  have hv : (loadVar 92 ⟨q, 0, none⟩).run Tryd.prog w = .ok (FtV f) w := run_loadVar_mid w q 0 92 (frs f) _ hr.range Tryd.underlying92 rfl (by rw [frs_len]; rfl)
  unfold results
  rw [Tryd.results51]
  have h1 : a.tmps[6]?.getD undef = .pointer (some ⟨q, 0, none⟩) := by simpa using h8
  have h2 : a.tmps[7]?.getD undef = .int .i64 e := by simpa using h9
  simp [h1, h2, asAddr, hv]
/-- the search, under way -/
def SrI (ws : List Bd) (i : Idn) (k : Nat) (a : Int) : Prop := (a = -1 ∧ ∀ j, j < k → (gb ws j).id ≠ i) ∨ ∃ j : Nat, j < k ∧ (gb ws j).id = i ∧ a = j
theorem SrI.ne {ws : List Bd} {i : Idn} {k : Nat} {a : Int} (h : SrI ws i k a) (hne : (gb ws k).id ≠ i) : SrI ws i (k + 1) a := by
  rcases h with ⟨h1, h2⟩ | ⟨j, h1, h2⟩
  · exact .inl ⟨h1, fun j hj => by
      rcases Nat.lt_succ_iff_lt_or_eq.1 hj with hj | rfl
      · exact h2 j hj
      · exact hne⟩
  · exact .inr ⟨j, by omega, h2⟩
theorem SrI.end {ws : List Bd} {i : Idn} {a : Int} (hu : Uniq ws) (h : SrI ws i ws.length a) : (a = -1 ∧ idx ws i = none) ∨ ∃ j : Nat, j < ws.length ∧ a = j ∧ idx ws i = some j := by
  rcases h with ⟨h1, h2⟩ | ⟨j, h1, h2, h3⟩
  · refine .inl ⟨h1, ?_⟩
    cases hx : idx ws i with
    | none => rfl
    | some j => obtain ⟨a, b⟩ := idx_some hx; exact absurd b (h2 j a)
  · exact .inr ⟨j, h1, h3, by rw [← h2]; exact idx_at hu h1⟩
theorem z37 : (#[.bool false, .bool false, .bool false, .bool false, .bool false, .bool false, .bool false, .bool false, .bool false, .bool false, .bool false, .bool false, .bool false, .bool false, .bool false, .bool false, .bool false, .bool false, .bool false, .bool false, .bool false, .bool false, .bool false, .bool false, .bool false, .bool false, .bool false, .bool false, .bool false, .bool false, .bool false, .bool false, .bool false, .bool false, .bool false, .bool false, .int .i64 0] : Array Value) = (frs f0).toArray := by kernel_rfl
theorem fol_len {ws : List Bd} : ∀ (l : List Oc) (i : Nat) (S : List Ft), (fol ws l i S).1.length = S.length
  | [], i, S => rfl
  | o :: l, i, S => by
    rw [fol]
    split
    · split
      · rfl
      · split
        · rfl
        · rw [fol_len l, List.length_set]
    · exact fol_len l _ _
theorem folW_len (ws : List Bd) (l : List Oc) : (folW ws l).1.length = ws.length := by
  unfold folW
  rw [fol_len]
  unfold zeros
  simp
/-- what fateOf answers -/
def OfR (w : World) (ws : List Bd) (l : List Oc) (i : Idn) (e : Ending) (w' : World) : Prop := e = .returned (.tuple #[FtV (if ofE ws l i = 0 then ofF ws l i else f0), .int .i64 (ofE ws l i)]) ∧ Below w.heap.size w w'
set_option maxHeartbeats 4000000 in
theorem rfateof_any (v u : Value) (ws : List Bd) (l : List Oc) (i : Idn) (w : World) (h : Wr w v u ws l) : Calls Tryd.prog 51 #[v, u, i.v] w (OfR w ws l i) := by
  obtain ⟨a0, n0, rfl⟩ := h.rb.form
  have hmx := h.rb.2.1
  unfold maxLen at hmx
  obtain ⟨N, hN⟩ : ∃ N, ws.length = N := ⟨_, rfl⟩
  have HN := Lib.hid hN
  obtain ⟨W, hW⟩ : ∃ W : World, W = (w.alloc (.cells #[.int .i64 i.nd, .int .u64 i.sq, .int .i64 i.off] 26)).alloc (.cells #[.bool false, .bool false, .bool false, .bool false, .bool false, .bool false, .bool false, .bool false, .bool false, .bool false, .bool false, .bool false, .bool false, .bool false, .bool false, .bool false, .bool false, .bool false, .bool false, .bool false, .bool false, .bool false, .bool false, .bool false, .bool false, .bool false, .bool false, .bool false, .bool false, .bool false, .bool false, .bool false, .bool false, .bool false, .bool false, .bool false, .int .i64 0] 92) := ⟨_, rfl⟩
  have hB : Below w.heap.size w W := by rw [hW]; exact (by repeat (first | assumption | exact Below.refl _ _ | apply Below.al | apply below_drewN | apply Below.drew | refine Below.next ?_ (by assumption)))
  have bI : BoxN W w.heap.size 26 #[.int .i64 i.nd, .int .u64 i.sq, .int .i64 i.off] := by rw [hW]; exact (BoxN.new w _ _).alloc _
  have bF : FtX W (w.heap.size + 1) f0 := by
    have := BoxN.new (w.alloc (.cells #[.int .i64 i.nd, .int .u64 i.sq, .int .i64 i.off] 26)) 92 #[.bool false, .bool false, .bool false, .bool false, .bool false, .bool false, .bool false, .bool false, .bool false, .bool false, .bool false, .bool false, .bool false, .bool false, .bool false, .bool false, .bool false, .bool false, .bool false, .bool false, .bool false, .bool false, .bool false, .bool false, .bool false, .bool false, .bool false, .bool false, .bool false, .bool false, .bool false, .bool false, .bool false, .bool false, .bool false, .bool false, .int .i64 0]
    rw [World.alloc_size, z37] at this
    rw [hW, z37]; exact this
  have h0 : W.cell? ⟨w.heap.size, 0, none⟩ = some (.int .i64 i.nd) := bI.cell 0
  have h1 : W.cell? ⟨w.heap.size, 1, none⟩ = some (.int .u64 i.sq) := bI.cell 1
  have h2 : W.cell? ⟨w.heap.size, 2, none⟩ = some (.int .i64 i.off) := bI.cell 2
  have HH := Lib.hid (h.keep hB)
  have HC := Lib.hid (rchecked_any _ u ws l W HH.out)
  obtain ⟨z, hz⟩ : ∃ z, chkE ws l = z := ⟨_, rfl⟩
  rw [hz] at HC
  have HZ := Lib.hid hz
  obtain ⟨Q, hQ⟩ : ∃ Q, w.heap.size = Q := ⟨_, rfl⟩
  have HQ := Lib.hid hQ
  rw [hQ] at h0 h1 h2 bF
  have HX := Lib.hid bF
  have HB := Lib.hid hB
  have HBS : Hid (∀ wS f, Below w.heap.size w wS → Below w.heap.size w (wS.setCells (Q + 1) 0 (frs f).toArray.toList)) := Lib.hid (fun wS f hb => hb.trans ((Kx.setCells (X := fun k => k = Q + 1) (Kx.refl _ wS) (.inl rfl) 0 _).below hb.size (fun k hk => by have hk : k = Q + 1 := hk; omega)))
  rw [hN] at hmx HC HH ⊢
  have hQW : Q + 1 < W.heap.size := bF.lt
  clear hz h bI bF hB hQ hN
  go_enter Tryd.func51, Tryd.ntmps51
  go_upto_region 1 with fail
  rw [← hW, HQ.out]
  clear hW
  go_wp2_with fail
  refine HC.out.mono ?_
  rintro e w1 ⟨rfl, hb1⟩
  replace HX := Lib.hid (BoxN.below HX.out hb1)
  replace HH := Lib.hid (HH.out.keep hb1)
  have k0 := cell_later hb1 h0
  have k1 := cell_later hb1 h1
  have k2 := cell_later hb1 h2
  have hQ1 := Nat.lt_of_lt_of_le hQW hb1.size
  have HB1 := Lib.hid (Below.next HB.out hb1)
  clear h0 h1 h2 hQW hb1 HC HB
  by_cases hz0 : z = 0
  · have d1 : (z != 0) = false := by simp [hz0]
    have he : chkE ws l = 0 := by rw [HZ.out, hz0]
    have HE := Lib.hid he
    obtain ⟨e1, e2⟩ := chkE_parts he
    obtain ⟨p1, p2, p3⟩ := chk_world e1
    have HU := Lib.hid p3
    clear hz0 he e1 e2 p1 p2 p3
    go_wp2_with fail
    rename World => wq
    go_loopw [9, 10] (fun av iv wr => ∃ (k : Nat) (a : Int), k ≤ N ∧ iv = .int .i64 k ∧ av = .int .i64 a ∧ Below wq.heap.size wq wr ∧ Hid (SrI ws i k a)) (fun _ iv _ => N - (intOf iv).toNat)
    case atStart => exact ⟨0, -1, Nat.zero_le _, rfl, rfl, Below.refl _ _, Lib.hid (.inl ⟨rfl, fun j hj => absurd hj (Nat.not_lt_zero _)⟩)⟩
    case round =>
      obtain ⟨k, a, hkN, rfl, rfl, hB2, HS⟩ := hrel
      by_cases hlt : k < N
      · have d2 : decide ((k : Int) < (N : Int)) = true := yb (by omega)
        obtain ⟨b1, o1, rfl, hc1, hrow⟩ := RdB.at (HH.out.rb.keep hB2) HN.out k hlt
        obtain ⟨y, HY⟩ : ∃ y, Hid (gb ws k = y) := ⟨_, Lib.hid rfl⟩
        rw [HY.out] at hrow
        obtain ⟨g0, g1, g2, _⟩ := hrow
        have m0 := cell_later hB2 k0
        have m1 := cell_later hB2 k1
        have m2 := cell_later hB2 k2
        have i1 : (0 : Int) ≤ (k : Int) := by omega
        have i2 : (k : Int) < (N : Int) := by omega
        have hwk : IntKind.i64.wrap (k : Int) = (k : Int) := IntWalk.i64_in _ (by omega)
        have hwk1 : IntKind.i64.wrap ((k : Int) + 1) = (k : Int) + 1 := IntWalk.i64_in _ (by omega)
        by_cases hid : y.id = i
        · obtain ⟨e1, e2, e3⟩ := id_eq hid
          have HS2 : Hid (SrI ws i (k + 1) k) := Lib.hid (.inr ⟨k, by omega, by rw [HY.out]; exact hid, rfl⟩)
          clear hid
          go_wp2_with fail
          go_quiet (fail)
          go_wp2_with fail
          go_roundw
          case rel => exact ⟨k + 1, k, by omega, by go_num, rfl, below_drewN hB2 _, HS2⟩
          case measure => simp [intOf]; omega
        · have hne := id_ne hid
          have HS2 : Hid (SrI ws i (k + 1) a) := Lib.hid (HS.out.ne (by rw [HY.out]; exact hid))
          clear hid
          rcases hne with e1 | ⟨e1, e2⟩ | ⟨e1, e2, e3⟩
          all_goals
            go_wp2_with fail
            go_quiet (fail)
            go_wp2_with fail
            go_roundw
            case rel => exact ⟨k + 1, a, by omega, by go_num, rfl, below_drewN hB2 _, HS2⟩
            case measure => simp [intOf]; omega
      · obtain rfl : k = N := by omega
        have d2 : decide ((k : Int) < (k : Int)) = false := nb (by omega)
        have HX2 := Lib.hid (BoxN.below HX.out hB2)
        have HH2 := Lib.hid (HH.out.keep hB2)
        have HB2 := Lib.hid (Below.next HB1.out hB2)
        have hQ2 := Nat.lt_of_lt_of_le hQ1 hB2.size
        have hend := SrI.end HU.out (by rw [HN.out]; exact HS.out)
        clear hB2 HS HX HH HB1 k0 k1 k2 hQ1
        rcases hend with ⟨rfl, hx⟩ | ⟨j, hj, rfl, hx⟩
        · have HOE : Hid (ofE ws l i = 8) := Lib.hid (by unfold ofE; rw [if_neg (by rw [HE.out]; simp), if_pos hx])
          clear hx
          go_wp2_with (first
            | (refine wpList_plain rfl (fun K hK => ?_); refine wp_store_mid 92 (.tmp 6) (.tmp 35) rfl (Q + 1) 0 (frs f0).toArray rfl (congrArg Value.agg z37) (FtX.there HX2.out) (frs_info f0) (frs_one f0) ?_; refine hK _ _ ?_)
            | fail)
          refine bodyPost_ret (v := .tuple #[FtV f0, .int .i64 8]) (results_ft _ _ (Q + 1) 8 f0 rfl rfl (FtX.sets HX2.out f0)) rfl ⟨by rw [HOE.out]; rfl, HBS.out _ _ HB2.out⟩
        · have d3 : decide ((j : Int) < 0) = false := nb (by omega)
          have HOE : Hid (ofE ws l i = fatE ws l) := Lib.hid (by unfold ofE; rw [if_neg (by rw [HE.out]; simp), if_neg (by rw [hx]; simp)])
          have HOF : Hid (ofF ws l i = (folW ws l).1.getD j f0) := Lib.hid (by unfold ofF; rw [hx]; rfl)
          have HFA := Lib.hid (rfates_any _ u ws l _ HH2.out)
          have HJ := Lib.hid hj
          have j1 : (0 : Int) ≤ (j : Int) := by omega
          have j2 : (j : Int) < (k : Int) := by have := HN.out; omega
          have hwj : IntKind.i64.wrap (j : Int) = (j : Int) := IntWalk.i64_in _ (by omega)
          clear hx hj
          go_wp2_with fail
          refine HFA.out.mono ?_
          rintro e w3 ⟨hb3, hcase⟩
          replace HX2 := Lib.hid (BoxN.below HX2.out hb3)
          have HB3 := Lib.hid (Below.next HB2.out hb3)
          clear hb3 HFA
          rcases hcase with ⟨hne, rfl⟩ | ⟨he0, g, rfl, hOW⟩
          · obtain ⟨z2, hz2⟩ : ∃ z2, fatE ws l = z2 := ⟨_, rfl⟩
            rw [hz2] at hne HOE ⊢
            have d4 : (z2 != 0) = true := by simpa using hne
            have HNE := Lib.hid hne
            clear hne hz2
            go_wp2_with (first
              | (refine wpList_plain rfl (fun K hK => ?_); refine wp_store_mid 92 (.tmp 6) (.tmp 44) rfl (Q + 1) 0 (frs f0).toArray rfl (congrArg Value.agg z37) (FtX.there HX2.out) (frs_info f0) (frs_one f0) ?_; refine hK _ _ ?_)
              | fail)
            refine bodyPost_ret (v := .tuple #[FtV f0, .int .i64 z2]) (results_ft _ _ (Q + 1) z2 f0 rfl rfl (FtX.sets HX2.out f0)) rfl ⟨by rw [HOE.out, if_neg HNE.out], HBS.out _ _ HB3.out⟩
          · obtain ⟨f, hf⟩ : ∃ f, (folW ws l).1.getD j f0 = f := ⟨_, rfl⟩
            have hrg := hOW.range (by rw [folW_len]) HJ.out
            rw [hf] at hrg HOF
            rw [HN.out]
            have HRG := Lib.hid hrg
            have HE0 := Lib.hid he0
            clear hrg hf hOW he0
            go_wp2_with (first
              | (refine wpList_load_mid rfl 92 (.tmp 48) rfl g (j * 37) rfl (frs f) _ HRG.out Tryd.underlying92 rfl (by rw [frs_len]; rfl) ?_)
              | (refine wpList_plain rfl (fun K hK => ?_); refine wp_store_mid 92 (.tmp 6) (.tmp 49) rfl (Q + 1) 0 (frs f).toArray rfl rfl (FtX.there HX2.out) (frs_info f) (frs_one f) ?_; refine hK _ _ ?_)
              | fail)
            refine bodyPost_ret (v := .tuple #[FtV f, .int .i64 0]) (results_ft _ _ (Q + 1) 0 f rfl rfl (FtX.sets HX2.out f)) rfl ⟨by rw [HOE.out, HE0.out, if_pos rfl, HOF.out], HBS.out _ _ HB3.out⟩
  · have d1 : (z != 0) = true := by simpa using hz0
    have HOE : Hid (ofE ws l i = z ∧ z ≠ 0) := Lib.hid ⟨by unfold ofE; rw [HZ.out, if_pos hz0], hz0⟩
    clear hz0
    go_wp2_with (first
      | (refine wpList_plain rfl (fun K hK => ?_); refine wp_store_mid 92 (.tmp 6) (.tmp 17) rfl (Q + 1) 0 (frs f0).toArray rfl (congrArg Value.agg z37) (FtX.there HX.out) (frs_info f0) (frs_one f0) ?_; refine hK _ _ ?_)
      | fail)
    refine bodyPost_ret (v := .tuple #[FtV f0, .int .i64 z]) (results_ft _ _ (Q + 1) z f0 rfl rfl (FtX.sets HX.out f0)) rfl ⟨by rw [HOE.out.1, if_neg HOE.out.2], HBS.out _ _ HB1.out⟩
end Go.Proofs.YtcjlbpndgjapiaaDoor
namespace Go.Proofs.YtcjlbpndgjapiaaDoor
open Go.RowKit
set_option linter.unusedSimpArgs false
set_option linter.unusedVariables false
set_option maxRecDepth 100000

theorem EIn : ElemOk Tryd.prog 43 3 (.int .i64 0) 1 8 := ⟨Tryd.underlying43, by kernel_rfl, rfl, by decide⟩
theorem rds_one (W : World) (x : Value) (T : TypeId) : RdS (W.alloc (.cells #[x] T)) 1 (.slice (some ⟨W.heap.size, 0, none⟩) 1 1) 1 [x] := by
  refine ⟨rfl, by decide, .inr ⟨W.heap.size, 0, 1, rfl, Nat.le_refl _, fun j u hj => ?_⟩⟩
  match j, hj with
  | 0, hj => simp at hj; subst hj; simp [go_sem]
  | j + 1, hj => simp at hj
def holT (s j : Nat) : List Int := ((List.range j).filter fun i => decide (1 ≤ i) && s.testBit i).map fun (i : Nat) => (i : Int)
theorem holT_succ (s j : Nat) : holT s (j + 1) = holT s j ++ if (decide (1 ≤ j) && s.testBit j) = true then [(j : Int)] else [] := by
  unfold holT
  rw [List.range_succ, List.filter_append, List.map_append]
  by_cases h : (decide (1 ≤ j) && s.testBit j) = true
  · simp [h]
  · rw [if_neg h]
    simp only [List.filter_cons, if_neg h, List.filter_nil, List.map_nil]
theorem holT_len (s : Nat) : ∀ j, (holT s j).length ≤ j
  | 0 => Nat.le_refl _
  | j + 1 => by rw [holT_succ, List.length_append]; have := holT_len s j; split <;> simp <;> omega
theorem holT_one (s : Nat) : holT s 1 = [] := by rw [holT_succ]; rfl
def hoV (ws : List Bd) (l : List Oc) (i : Idn) : List Int := if ofE ws l i = 0 then holV (ofF ws l i) else []
def cpV (ws : List Bd) (l : List Oc) (i : Idn) : Nat := (if ofE ws l i = 0 then ofF ws l i else f0).mo
theorem rcopies_any (v u : Value) (ws : List Bd) (l : List Oc) (i : Idn) (w : World) (h : Wr w v u ws l) : Calls Tryd.prog 23 #[v, u, i.v] w fun e w' => e = .returned (V2 (cpV ws l i) (ofE ws l i)) ∧ Below w.heap.size w w' := by
  obtain ⟨W, hW⟩ : ∃ W : World, W = w.alloc (.cells #[.int .i64 i.nd, .int .u64 i.sq, .int .i64 i.off] 26) := ⟨_, rfl⟩
  have hB : Below w.heap.size w W := by rw [hW]; exact (by repeat (first | assumption | exact Below.refl _ _ | apply Below.al | apply below_drewN | apply Below.drew | refine Below.next ?_ (by assumption)))
  have bI : BoxN W w.heap.size 26 #[.int .i64 i.nd, .int .u64 i.sq, .int .i64 i.off] := by rw [hW]; exact BoxN.new w _ _
  have h0 : W.cell? ⟨w.heap.size, 0, none⟩ = some (.int .i64 i.nd) := bI.cell 0
  have h1 : W.cell? ⟨w.heap.size, 1, none⟩ = some (.int .u64 i.sq) := bI.cell 1
  have h2 : W.cell? ⟨w.heap.size, 2, none⟩ = some (.int .i64 i.off) := bI.cell 2
  obtain ⟨f, hf⟩ : ∃ f, (if ofE ws l i = 0 then ofF ws l i else f0) = f := ⟨_, rfl⟩
  obtain ⟨z, hz⟩ : ∃ z, ofE ws l i = z := ⟨_, rfl⟩
  have hca := rfateof_any v u ws l i W (h.keep hB)
  unfold OfR at hca
  rw [hf, hz] at hca
  have HC := Lib.hid hca
  have HF := Lib.hid hf
  have HZ := Lib.hid hz
  obtain ⟨Q, hQ⟩ : ∃ Q, w.heap.size = Q := ⟨_, rfl⟩
  have HQ := Lib.hid hQ
  rw [hQ] at h0 h1 h2
  have HB := Lib.hid hB
  clear bI h hB hca hf hz hQ
  go_enter Tryd.func23, Tryd.ntmps23
  go_upto_region 1 with fail
  rw [← hW, HQ.out]
  clear hW
  go_wp2_with fail
  refine HC.out.mono ?_
  rintro e w1 ⟨rfl, hb1⟩
  have HB1 := Lib.hid (Below.next HB.out hb1)
  clear h0 h1 h2 hb1 HC HB
  obtain ⟨W2, hW2⟩ : ∃ V : World, V = w1.alloc (.cells #[.bool false, .bool false, .bool false, .bool false, .bool false, .bool false, .bool false, .bool false, .bool false, .bool false, .bool false, .bool false, .bool false, .bool false, .bool false, .bool false, .bool false, .bool false, .bool false, .bool false, .bool false, .bool false, .bool false, .bool false, .bool false, .bool false, .bool false, .bool false, .bool false, .bool false, .bool false, .bool false, .bool false, .bool false, .bool false, .bool false, .int .i64 0] 92) := ⟨_, rfl⟩
  have hx2 : FtX W2 w1.heap.size f0 := by
    have := BoxN.new w1 92 #[.bool false, .bool false, .bool false, .bool false, .bool false, .bool false, .bool false, .bool false, .bool false, .bool false, .bool false, .bool false, .bool false, .bool false, .bool false, .bool false, .bool false, .bool false, .bool false, .bool false, .bool false, .bool false, .bool false, .bool false, .bool false, .bool false, .bool false, .bool false, .bool false, .bool false, .bool false, .bool false, .bool false, .bool false, .bool false, .bool false, .int .i64 0]
    rw [z37] at this
    rw [hW2, z37]; exact this
  have hb2 : Below w1.heap.size w1 W2 := by rw [hW2]; exact (by repeat (first | assumption | exact Below.refl _ _ | apply Below.al | apply below_drewN | apply Below.drew | refine Below.next ?_ (by assumption)))
  obtain ⟨P, hP⟩ : ∃ P, w1.heap.size = P := ⟨_, rfl⟩
  have HPp := Lib.hid hP
  have HTH := Lib.hid (FtX.there (g := f) hx2)
  obtain ⟨W3, hW3⟩ : ∃ V : World, V = W2.setCells P 0 (frs f).toArray.toList := ⟨_, rfl⟩
  have HX3 : Hid (FtX W3 P f) := Lib.hid (by rw [hW3, ← hP]; exact FtX.sets hx2 f)
  have HB3 : Hid (Below w.heap.size w W3) := Lib.hid (by
    rw [hW3]
    have hk := Kx.setCells (X := fun k => k = P) (Kx.refl _ W2) (.inl rfl) 0 (frs f).toArray.toList
    have hB2 := Below.next HB1.out hb2
    exact hB2.trans (hk.below hB2.size (fun k hk => by have hk : k = P := hk; have := HB1.out.size; omega)))
  rw [hP] at HTH
  clear hx2 hb2 hP
  go_upto_region 2 with (first | (refine wpList_plain rfl (fun K hK => ?_); rw [← hW2, HPp.out]; clear hW2; refine wp_store_mid 92 (.tmp 8) _ rfl P 0 (frs f).toArray rfl rfl HTH.out (frs_info f) (frs_one f) ?_; refine hK _ _ ?_) | fail)
  rw [← hW3]
  clear hW3 HTH HPp HB1
  have cm : W3.cell? ⟨P, 36, none⟩ = some (.int .i64 (f.mo : Int)) := (BoxN.cell HX3.out 36).trans (by rw [List.getElem?_toArray]; exact frs_tail f 2)
  go_wp2_with fail
  go_ret2
  exact ⟨by unfold cpV; rw [HF.out, HZ.out]; rfl, HB3.out⟩
theorem rholders_any (v u : Value) (ws : List Bd) (l : List Oc) (i : Idn) (w : World) (h : Wr w v u ws l) : Calls Tryd.prog 20 #[v, u, i.v] w fun e w' => ∃ x, e = .returned (.tuple #[x, .int .i64 (ofE ws l i)]) ∧ RdI .i64 w' x (hoV ws l i) ∧ Below w.heap.size w w' := by
  obtain ⟨W, hW⟩ : ∃ W : World, W = w.alloc (.cells #[.int .i64 i.nd, .int .u64 i.sq, .int .i64 i.off] 26) := ⟨_, rfl⟩
  have hB : Below w.heap.size w W := by rw [hW]; exact (by repeat (first | assumption | exact Below.refl _ _ | apply Below.al | apply below_drewN | apply Below.drew | refine Below.next ?_ (by assumption)))
  have bI : BoxN W w.heap.size 26 #[.int .i64 i.nd, .int .u64 i.sq, .int .i64 i.off] := by rw [hW]; exact BoxN.new w _ _
  have h0 : W.cell? ⟨w.heap.size, 0, none⟩ = some (.int .i64 i.nd) := bI.cell 0
  have h1 : W.cell? ⟨w.heap.size, 1, none⟩ = some (.int .u64 i.sq) := bI.cell 1
  have h2 : W.cell? ⟨w.heap.size, 2, none⟩ = some (.int .i64 i.off) := bI.cell 2
  obtain ⟨f, hf⟩ : ∃ f, (if ofE ws l i = 0 then ofF ws l i else f0) = f := ⟨_, rfl⟩
  obtain ⟨z, hz⟩ : ∃ z, ofE ws l i = z := ⟨_, rfl⟩
  have hca := rfateof_any v u ws l i W (h.keep hB)
  unfold OfR at hca
  rw [hf, hz] at hca
  have HC := Lib.hid hca
  have HF := Lib.hid hf
  have HZ := Lib.hid hz
  obtain ⟨Q, hQ⟩ : ∃ Q, w.heap.size = Q := ⟨_, rfl⟩
  have HQ := Lib.hid hQ
  rw [hQ] at h0 h1 h2
  have HB := Lib.hid hB
  clear bI h hB hca hf hz hQ
  go_enter Tryd.func20, Tryd.ntmps20
  go_upto_region 1 with fail
  rw [← hW, HQ.out]
  clear hW
  go_wp2_with fail
  refine HC.out.mono ?_
  rintro e w1 ⟨rfl, hb1⟩
  have HB1 := Lib.hid (Below.next HB.out hb1)
  clear h0 h1 h2 hb1 HC HB
  obtain ⟨W2, hW2⟩ : ∃ V : World, V = w1.alloc (.cells #[.bool false, .bool false, .bool false, .bool false, .bool false, .bool false, .bool false, .bool false, .bool false, .bool false, .bool false, .bool false, .bool false, .bool false, .bool false, .bool false, .bool false, .bool false, .bool false, .bool false, .bool false, .bool false, .bool false, .bool false, .bool false, .bool false, .bool false, .bool false, .bool false, .bool false, .bool false, .bool false, .bool false, .bool false, .bool false, .bool false, .int .i64 0] 92) := ⟨_, rfl⟩
  have hx2 : FtX W2 w1.heap.size f0 := by
    have := BoxN.new w1 92 #[.bool false, .bool false, .bool false, .bool false, .bool false, .bool false, .bool false, .bool false, .bool false, .bool false, .bool false, .bool false, .bool false, .bool false, .bool false, .bool false, .bool false, .bool false, .bool false, .bool false, .bool false, .bool false, .bool false, .bool false, .bool false, .bool false, .bool false, .bool false, .bool false, .bool false, .bool false, .bool false, .bool false, .bool false, .bool false, .bool false, .int .i64 0]
    rw [z37] at this
    rw [hW2, z37]; exact this
  have hb2 : Below w1.heap.size w1 W2 := by rw [hW2]; exact (by repeat (first | assumption | exact Below.refl _ _ | apply Below.al | apply below_drewN | apply Below.drew | refine Below.next ?_ (by assumption)))
  obtain ⟨P, hP⟩ : ∃ P, w1.heap.size = P := ⟨_, rfl⟩
  have HPp := Lib.hid hP
  have HTH := Lib.hid (FtX.there (g := f) hx2)
  obtain ⟨W3, hW3⟩ : ∃ V : World, V = W2.setCells P 0 (frs f).toArray.toList := ⟨_, rfl⟩
  have HX3 : Hid (FtX W3 P f) := Lib.hid (by rw [hW3, ← hP]; exact FtX.sets hx2 f)
  have HB3 : Hid (Below w.heap.size w W3) := Lib.hid (by
    rw [hW3]
    have hk := Kx.setCells (X := fun k => k = P) (Kx.refl _ W2) (.inl rfl) 0 (frs f).toArray.toList
    have hB2 := Below.next HB1.out hb2
    exact hB2.trans (hk.below hB2.size (fun k hk => by have hk : k = P := hk; have := HB1.out.size; omega)))
  rw [hP] at HTH
  clear hx2 hb2 hP
  go_upto_region 2 with (first | (refine wpList_plain rfl (fun K hK => ?_); rw [← hW2, HPp.out]; clear hW2; refine wp_store_mid 92 (.tmp 8) _ rfl P 0 (frs f).toArray rfl rfl HTH.out (frs_info f) (frs_one f) ?_; refine hK _ _ ?_) | fail)
  rw [← hW3]
  clear hW3 HTH HPp HB1
  by_cases hz0 : z = 0
  · have d1 : (z != 0) = false := by simp [hz0]
    have HV : Hid (hoV ws l i = holT f.nw 17) := Lib.hid (by
      have h1 := HF.out
      have h2 := HZ.out
      unfold hoV
      rw [if_pos (by rw [h2]; exact hz0)]
      rw [if_pos (by rw [h2]; exact hz0)] at h1
      rw [h1]; rfl)
    have HZ0 := Lib.hid hz0
    clear hz0
    obtain ⟨s, hs⟩ : ∃ s, f.nw = s := ⟨_, rfl⟩
    have hcs : ∀ j, j < 17 → W3.cell? ⟨P, j, none⟩ = some (.bool (s.testBit j)) := fun j hj => (BoxN.cell HX3.out j).trans (by rw [List.getElem?_toArray, ← hs]; exact frs_nw f hj)
    have HCS := Lib.hid hcs
    rw [hs] at HV
    clear hcs hs
    go_wp2_with fail
    rename World => wq
    go_loopw [10, 11] (fun ov iv wr => ∃ (j : Nat) (a : Option Addr) (c : Nat), 1 ≤ j ∧ j ≤ 17 ∧ iv = .int .i64 j ∧ ov = .slice a (holT s j).length c ∧ wr.ownsRow wq.heap.size 3 1 (.slice a (holT s j).length c) (holT s j).length (ic .i64 (holT s j)) ∧ Below wq.heap.size wq wr) (fun _ iv _ => 17 - (intOf iv).toNat)
    case atStart => exact ⟨1, none, 0, Nat.le_refl _, by omega, rfl, by rw [holT_one]; rfl, by rw [holT_one]; exact ⟨rfl, .inl ⟨rfl, rfl⟩⟩, Below.refl _ _⟩
    case round =>
      obtain ⟨j, a, c, hj1, hj2, rfl, rfl, hOW, hB⟩ := hrel
      by_cases hlt : j ≤ 16
      · have d2 : decide ((j : Int) ≤ 16) = true := yb (by omega)
        have hcj := cell_later hB (HCS.out j (by omega))
        have i1 : (0 : Int) ≤ (j : Int) := by omega
        have i2 : (j : Int) < 17 := by omega
        have hwj : IntKind.i64.wrap (j : Int) = (j : Int) := IntWalk.i64_in _ (by omega)
        have hwj1 : IntKind.i64.wrap ((j : Int) + 1) = (j : Int) + 1 := IntWalk.i64_in _ (by omega)
        have hsc := holT_succ s j
        have hll := holT_len s j
        obtain ⟨L, hL⟩ : ∃ L, holT s j = L := ⟨_, rfl⟩
        rw [hL] at hsc hll hOW ⊢
        have HSC := Lib.hid hsc
        have HLL := Lib.hid hll
        have HOW := Lib.hid hOW
        have HB := Lib.hid hB
        have HJ := Lib.hid hj1
        have HJ2 := Lib.hid hlt
        clear hsc hll hOW hB hL hj1 hj2
        cases hb : s.testBit j with
        | true =>
          rw [hb] at hcj
          have HE : Hid (holT s (j + 1) = L ++ [(j : Int)]) := Lib.hid (by rw [HSC.out, hb, if_pos (by simp; exact HJ.out)])
          clear hb HSC hlt
          go_wp2_with (at_builtin; refine wpList_app rfl (.tmp 30) (.tmp 32) 43 rfl wq.heap.size 3 (.int .i64 0) 1 8 EIn _ _ _ rfl (HOW.out.alloc _) _ 1 [.int .i64 (j : Int)] rfl (rds_one _ _ _) (by simp [Value.oneCell']) ?c1 ?c2 ?c3 ?_)
          case c1 => have := HLL.out; have := HJ2.out; unfold maxLen; omega
          case c2 => have := HLL.out; have := HJ2.out; omega
          case c3 => have := HB.out.size; simp; omega
          intro a3 c3 w3 hown3 hg3 hb3
          have hown3 : w3.ownsRow wq.heap.size 3 1 (.slice a3 (L.length + 1) c3) (L.length + 1) (ic .i64 L ++ [.int .i64 (j : Int)]) := by with_reducible exact hown3
          have HB5 : Hid (Below wq.heap.size wq w3) := Lib.hid ((Below.al HB.out _).trans hb3)
          have HOW3 := Lib.hid hown3
          clear hown3 hg3 hb3 HOW HB
          go_wp2_with fail
          go_roundw
          case rel => exact ⟨j + 1, a3, c3, by omega, by have := HJ2.out; omega, by go_num, by rw [HE.out, List.length_append]; rfl, by rw [HE.out, List.length_append, ic_append]; exact HOW3.out, HB5.out⟩
          case measure => simp [intOf]; have := HJ2.out; omega
        | false =>
          rw [hb] at hcj
          have HE : Hid (holT s (j + 1) = L) := Lib.hid (by rw [HSC.out, hb, if_neg (by simp), List.append_nil])
          clear hb HSC hlt
          go_wp2_with fail
          go_roundw
          case rel => exact ⟨j + 1, a, c, by omega, by have := HJ2.out; omega, by go_num, by rw [HE.out], by rw [HE.out]; exact HOW.out, HB.out⟩
          case measure => simp [intOf]; have := HJ2.out; omega
      · obtain rfl : j = 17 := by omega
        have d2 : decide ((17 : Int) ≤ 16) = false := by decide
        have HOW := Lib.hid hOW
        have HB := Lib.hid hB
        clear hOW hB
        go_wp2_with fail
        go_ret2
        exact ⟨_, by rw [HZ.out, HZ0.out]; rfl, by rw [HV.out]; exact RdS.of_owns HOW.out (by decide), Below.next HB3.out HB.out⟩
  · have d1 : (z != 0) = true := by simpa using hz0
    have HV : Hid (hoV ws l i = []) := Lib.hid (by unfold hoV; rw [if_neg (by rw [HZ.out]; exact hz0)])
    clear hz0
    go_wp2_with fail
    go_ret2
    exact ⟨_, by rw [HZ.out]; rfl, by rw [HV.out]; exact RdI.nil _ _, HB3.out⟩
end Go.Proofs.YtcjlbpndgjapiaaDoor
