/- followed, in the reference: its ground. followed, in the reference. checked, Allowed, fates, in the reference. -/
import Derived.Test.YtcjlbpndgjapiaaDoorT9
import Derived.Test.YtcjlbpndgjapiaaDoorPf
namespace Go.Proofs.YtcjlbpndgjapiaaDoor
open Go.RowKit
set_option linter.unusedSimpArgs false
set_option linter.unusedVariables false
set_option maxRecDepth 100000

theorem rfol_any (base g n c k : Nat) (S : List Ft) (b : Bd) (o : Oc) (hSn : S.length = n) (hk : k < n) (hbk : BdK b) (hok : OcK o) (hnd : 1 ≤ o.nd) (hfk : FtK (S.getD k f0)) (hz : (S.getD k f0).nw.testBit 0 = false) (hkd : mat o.kd = true) (w : World) (h : OwF w base g n c S) (hbase : base ≤ w.heap.size) :
    Calls Tryd.prog 65 #[.pointer (some ⟨g, k * 37, none⟩), b.v, o.v] w (RfR w base g n c S k (stp b (S.getD k f0) o)) := by
  rcases mat_cases hkd with e | e | e | e | e
  · exact rfol1 base g n c k S b o hSn hk hbk hok hnd hfk hz e w h hbase
  · exact rfol6 base g n c k S b o hSn hk hbk hok hnd hfk hz e w h hbase
  · exact rfol7 base g n c k S b o hSn hk hbk hok hnd hfk hz e w h hbase
  · exact rfol8 base g n c k S b o hSn hk hbk hok hnd hfk hz e w h hbase
  · exact rfol9 base g n c k S b o hSn hk hbk hok hnd hfk hz e w h hbase
theorem frs0_get {j : Nat} (hj : j < 37) : (frs f0).toArray[j]? = (frs f0)[j]? := by simp
theorem made_frs (n : Nat) : (madeCells (frs f0).toArray (n * 37)).toList = rcs frR (List.replicate n f0) := by
  apply List.ext_getElem?
  intro i
  have hl : (rcs frR (List.replicate n f0)).length = n * 37 := by rw [rcs_length, List.length_replicate]; rfl
  by_cases hi : i < n * 37
  · have hdm : i / 37 * 37 + i % 37 = i := by omega
    have h1 := rcs_get frR (List.replicate n f0) (i / 37) (i % 37) (by rw [List.length_replicate]; omega) (Nat.mod_lt _ (by decide))
    have hz : (List.replicate n f0).getD (i / 37) frR.zero = f0 := zeros_take [] n (i / 37)
    have e : i / 37 * frR.size + i % 37 = i := hdm
    rw [e, hz] at h1
    rw [h1]
    have hsz : (frs f0).toArray.size = 37 := by simp [frs_len]
    have hm : i % 37 < (frs f0).toArray.size := by rw [hsz]; exact Nat.mod_lt _ (by decide)
    rw [Array.getElem?_toList]
    unfold madeCells
    rw [hsz]
    simp only [Array.getElem?_map, Array.getElem?_range, hi, if_true, Option.map_some]
    rw [getElem!_pos (frs f0).toArray (i % 37) hm]
    simp only [List.getElem_toArray]
    exact (List.getElem?_eq_getElem _).symm
  · rw [List.getElem?_eq_none (l := (madeCells (frs f0).toArray (n * 37)).toList) (by rw [Array.length_toList, size_madeCells]; omega), List.getElem?_eq_none (by omega)]
theorem mk_frs (w : World) (N : Nat) (hN : N ≤ 200) : ∃ w', (Instr.makeSlice 74 (.int .i64 (N : Int)) (.int .i64 (N : Int))).run Tryd.prog w = .ok (.slice (some ⟨w.heap.size, 0, none⟩) N N) w' ∧ OwF w' w.heap.size w.heap.size N N (List.replicate N f0) ∧ w.grownBy w' none := by
  obtain ⟨w', h1, h2, h3⟩ := run_makeSlice_full (P := Tryd.prog) (w := w) w.heap.size 74 92 _ _ 37 Tryd.underlying74 rfl rfl rfl .i64 .i64 N (by omega) (Nat.le_trans (Nat.mul_le_mul_left _ hN) (by decide)) (by unfold maxLen; omega) (Nat.le_refl _)
  refine ⟨w', h1, ?_, h3⟩
  unfold OwF
  rw [← made_frs N]
  exact h2
theorem stp_z {b : Bd} {f g : Ft} {o : Oc} (hf : f.nw.testBit 0 = false) (hn : 1 ≤ o.nd) (h : stp b f o = some g) : g.nw.testBit 0 = false := by
  have h0 : ¬ o.nd.toNat = 0 := by omega
  have ha : ∀ s : Nat, s.testBit 0 = false → (addB s o.nd.toNat).testBit 0 = false := fun s hs => by rw [addB_bit, hs]; simp [h0]
  have hr : ∀ s : Nat, s.testBit 0 = false → (remB s o.nd.toNat).testBit 0 = false := fun s hs => by rw [remB_bit, hs]; rfl
  unfold stp at h
  split at h
  · split at h
    · cases h
    · cases h; exact ha _ hf
  · split at h
    · split at h
      · cases h
      · cases h; exact ha _ hf
    · split at h
      · split at h
        · cases h
        · cases h; exact hr _ hf
      · split at h
        · split at h
          · cases h
          · cases h; exact hr _ hf
        · split at h
          · split at h
            · cases h
            · cases h; exact hr _ hf
          · cases h; exact hf
/-- all rows are in order -/
def FtA (N : Nat) (S : List Ft) : Prop := S.length = N ∧ ∀ k, k < N → FtK (S.getD k f0) ∧ (S.getD k f0).nw.testBit 0 = false
theorem FtA.zero (N : Nat) : FtA N (List.replicate N f0) := ⟨by simp, fun k hk => by rw [zeros_take []]; exact ⟨f0_k, by decide⟩⟩
theorem FtA.set {N k : Nat} {S : List Ft} (h : FtA N S) (hk : k < N) {f : Ft} (h1 : FtK f) (h2 : f.nw.testBit 0 = false) : FtA N (S.set k f) := ⟨by rw [List.length_set]; exact h.1, fun j hj => by
  rw [getD_set S k j f f0 (by rw [h.1]; exact hk)]
  split
  · exact ⟨h1, h2⟩
  · exact h.2 j hj⟩
theorem FtA.stp {N k : Nat} {S : List Ft} {b : Bd} {o : Oc} (h : FtA N S) (hk : k < N) (ho : OcK o) (hn : 1 ≤ o.nd) : FtA N (S.set k ((stp b (S.getD k f0) o).getD (S.getD k f0))) := by
  obtain ⟨h1, h2⟩ := h.2 k hk
  cases hr : Go.Proofs.YtcjlbpndgjapiaaDoor.stp b (S.getD k f0) o with
  | none => exact h.set hk h1 h2
  | some f => exact h.set hk (stp_k h1 ho hr) (stp_z h2 hn hr)
/-- the inner loop, over the bundles -/
def IN (ws : List Bd) (y : Oc) (S : List Ft) (m : Nat) (fb : Bool) (S' : List Ft) : Prop :=
  (fb = false ∧ S' = S ∧ ∀ j, j < m → (gb ws j).id ≠ y.id) ∨
  (∃ j, j < m ∧ (gb ws j).id = y.id ∧ fb = (stp (gb ws j) (S.getD j f0) y).isSome ∧ S' = S.set j ((stp (gb ws j) (S.getD j f0) y).getD (S.getD j f0)))
theorem IN.zero (ws : List Bd) (y : Oc) (S : List Ft) : IN ws y S 0 false S := .inl ⟨rfl, rfl, fun j hj => absurd hj (Nat.not_lt_zero _)⟩
theorem IN.ne {ws : List Bd} {y : Oc} {S S' : List Ft} {m : Nat} {fb : Bool} (h : IN ws y S m fb S') (hne : (gb ws m).id ≠ y.id) : IN ws y S (m + 1) fb S' := by
  rcases h with ⟨h1, h2, h3⟩ | ⟨j, h1, h2⟩
  · exact .inl ⟨h1, h2, fun j hj => by
      rcases Nat.lt_succ_iff_lt_or_eq.1 hj with hj | rfl
      · exact h3 j hj
      · exact hne⟩
  · exact .inr ⟨j, by omega, h2⟩
theorem IN.eq {ws : List Bd} {y : Oc} {S S' : List Ft} {m : Nat} {fb : Bool} (hu : Uniq ws) (hm : m < ws.length) (h : IN ws y S m fb S') (he : (gb ws m).id = y.id) : S' = S := by
  rcases h with ⟨_, h2, _⟩ | ⟨j, h1, h2, _⟩
  · exact h2
  · have := hu j m (by omega) hm (h2.trans he.symm)
    omega
theorem IN.hit {ws : List Bd} {y : Oc} {S : List Ft} {m : Nat} (he : (gb ws m).id = y.id) : IN ws y S (m + 1) (stp (gb ws m) (S.getD m f0) y).isSome (S.set m ((stp (gb ws m) (S.getD m f0) y).getD (S.getD m f0))) :=
  .inr ⟨m, by omega, he, rfl, rfl⟩
theorem IN.no {ws : List Bd} {y : Oc} {l : List Oc} {S S' : List Ft} {i : Nat} (hu : Uniq ws) (hm : mat y.kd = true) (hS : S.length = ws.length) (h : IN ws y S ws.length false S') : fol ws (y :: l) i S = (S', i) := by
  rcases h with ⟨_, h2, h3⟩ | ⟨j, h1, h2, h3, h4⟩
  · have hx : idx ws y.id = none := by
      cases hx : idx ws y.id with
      | none => rfl
      | some j => obtain ⟨a, b⟩ := idx_some hx; exact absurd b (h3 j a)
    rw [fol_no hm hx, h2]
  · have hx : idx ws y.id = some j := by rw [← h2]; exact idx_at hu h1
    cases hs : stp (gb ws j) (S.getD j f0) y with
    | none =>
      rw [hs] at h4
      rw [fol_bad hm hx hs, h4]
      simp only [Option.getD_none]
      rw [set_same (by omega)]
    | some f => rw [hs] at h3; cases h3
theorem IN.yes {ws : List Bd} {y : Oc} {l : List Oc} {S S' : List Ft} {i : Nat} (hu : Uniq ws) (hm : mat y.kd = true) (h : IN ws y S ws.length true S') : fol ws (y :: l) i S = fol ws l (i + 1) S' := by
  rcases h with ⟨h1, _⟩ | ⟨j, h1, h2, h3, h4⟩
  · cases h1
  · have hx : idx ws y.id = some j := by rw [← h2]; exact idx_at hu h1
    cases hs : stp (gb ws j) (S.getD j f0) y with
    | none => rw [hs] at h3; cases h3
    | some f =>
      rw [hs] at h4
      rw [fol_yes hm hx hs, h4]
      rfl
end Go.Proofs.YtcjlbpndgjapiaaDoor
namespace Go.Proofs.YtcjlbpndgjapiaaDoor
open Go.RowKit
set_option linter.unusedSimpArgs false
set_option linter.unusedVariables false
set_option maxRecDepth 100000

/-- followed has returned -/
def RwR (w : World) (ws : List Bd) (l : List Oc) (e : Ending) (w' : World) : Prop := ∃ g, e = .returned (.tuple #[.slice (some ⟨g, 0, none⟩) ws.length ws.length, .int .i64 ((folW ws l).2 : Int)]) ∧ OwF w' w.heap.size g ws.length ws.length (folW ws l).1 ∧ Below w.heap.size w w'
theorem below_kx {base g : Nat} {w a b : World} (hB : Below base w a) (hk : Kx (fun k => k = g) a b) (hg : base ≤ g) (hs : base ≤ a.heap.size) : Below base w b :=
  hB.trans (hk.below hs (fun k e => by rw [e]; exact hg))
set_option maxHeartbeats 8000000 in
theorem rfollowed_any (v u : Value) (ws : List Bd) (l : List Oc) (hbk : ∀ b, b ∈ ws → BdK b) (hu : Uniq ws) (hwl : ws.length ≤ 200) (hok : ∀ o, o ∈ l → OcK o) (hnd : ∀ o, o ∈ l → 1 ≤ o.nd) (w : World) (h : RdB w v ws) (h2 : RdO w u l) :
    Calls Tryd.prog 44 #[v, u] w (RwR w ws l) := by
  obtain ⟨a0, n0, rfl⟩ := h.form
  obtain ⟨a1, n1, rfl⟩ := h2.form
  have hmx := h2.2.1
  unfold maxLen at hmx
  obtain ⟨N, hN⟩ : ∃ N, ws.length = N := ⟨_, rfl⟩
  obtain ⟨M, hM⟩ : ∃ M, l.length = M := ⟨_, rfl⟩
  rw [hN] at h hwl
  rw [hM] at h2 hmx
  rw [hN, hM]
  have HN := Lib.hid hN
  have HM := Lib.hid hM
  have HR := Lib.hid h
  have HO := Lib.hid h2
  have HBK := Lib.hid hbk
  have HU := Lib.hid hu
  have HOK := Lib.hid hok
  have HND := Lib.hid hnd
  obtain ⟨R, hRR⟩ : ∃ R, folW ws l = R := ⟨_, rfl⟩
  have HRR := Lib.hid hRR
  obtain ⟨W0, hmk, hown, hgr⟩ := mk_frs w N hwl
  have hB0 : Below w.heap.size w W0 := Below.grown (Below.refl _ _) hgr (Nat.le_refl _) (fun j hj => by cases hj)
  obtain ⟨g, hg⟩ : ∃ g, w.heap.size = g := ⟨_, rfl⟩
  have HG := Lib.hid hg
  rw [hg] at hmk hown hB0
  have HOW0 := Lib.hid hown
  have HB0 := Lib.hid hB0
  clear hN hM h h2 hbk hu hok hnd hRR hown hgr hB0 hg
  go_enter Tryd.func44, Tryd.ntmps44
  go_wp2_with fail
  go_loopw [7] (fun iv wr => ∃ (i : Nat) (S : List Ft), i ≤ M ∧ iv = .int .i64 i ∧ OwF wr g g N N S ∧ Below g w wr ∧ Hid (FtA N S) ∧ Hid (R = fol ws (l.drop i) i S)) (fun iv _ => M - (intOf iv).toNat)
  case atStart => exact ⟨0, List.replicate N f0, Nat.zero_le _, rfl, HOW0.out, HB0.out, Lib.hid (FtA.zero N), Lib.hid (by rw [← HRR.out, List.drop_zero]; unfold folW zeros; rw [HN.out])⟩
  case round =>
    obtain ⟨i, S, hiM, rfl, hOS, hB3, HA, HF⟩ := hrel
    by_cases hit : i < M
    · have d3 : decide ((i : Int) < (M : Int)) = true := yb (by omega)
      obtain ⟨b2, o2, rfl, hc2, hrow⟩ := RdO.at (HO.out.keep (by rw [HG.out]; exact hB3)) HM.out i hit
      have hmem : gx l i ∈ l := getD_mem (by rw [HM.out]; exact hit)
      have hdr : l.drop i = gx l i :: l.drop (i + 1) := drop_at (by rw [HM.out]; exact hit)
      have hoo := HOK.out _ hmem
      have hnn := HND.out _ hmem
      obtain ⟨y, HY⟩ : ∃ y, Hid (gx l i = y) := ⟨_, Lib.hid rfl⟩
      rw [HY.out] at hrow hoo hdr hnn
      replace HF : Hid (R = fol ws (y :: l.drop (i + 1)) i S) := Lib.hid (by rw [HF.out, hdr])
      obtain ⟨g0, g1, g2, g3, g4, g5, g6⟩ := hrow
      have j1 : (0 : Int) ≤ (i : Int) := by omega
      have j2 : (i : Int) < (M : Int) := by omega
      have hwi : IntKind.i64.wrap (i : Int) = (i : Int) := IntWalk.i64_in _ (by omega)
      have hwi1 : IntKind.i64.wrap ((i : Int) + 1) = (i : Int) + 1 := IntWalk.i64_in _ (by omega)
      have HMT := Lib.hid (rmat_any y.kd wr)
      have HOS := Lib.hid hOS
      have HB := Lib.hid hB3
      have HOO := Lib.hid hoo
      have HNN := Lib.hid hnn
      obtain ⟨mk, hmt⟩ : ∃ mk, mat y.kd = mk := ⟨_, rfl⟩
      rw [hmt] at HMT
      have HMK := Lib.hid hmt
      clear hOS hB3 hdr hmem hmk hoo hnn hmt
      go_wp2_with fail
      refine HMT.out.mono ?_
      rintro e w2 ⟨rfl, rfl⟩
      clear HMT g0 g1 g2 g3 g4 g5 g6
      cases mk with
      | false =>
        have HF2 : Hid (R = fol ws (l.drop (i + 1)) (i + 1) S) := Lib.hid (by rw [HF.out, fol_mat HMK.out])
        go_wp2_with fail
        go_roundw
        case rel => exact ⟨i + 1, S, by omega, by go_num, HOS.out, HB.out, HA, HF2⟩
        case measure => simp [intOf]; omega
      | true =>
        go_wp2_with fail
        rename World => wq
        go_loopw [8, 9] (fun fv mv wx => ∃ (m : Nat) (fb : Bool) (S' : List Ft), m ≤ N ∧ mv = .int .i64 m ∧ fv = .bool fb ∧ OwF wx g g N N S' ∧ Below g w wx ∧ Hid (FtA N S') ∧ Hid (IN ws y S m fb S')) (fun _ mv _ => N - (intOf mv).toNat)
        case atStart => exact ⟨0, false, S, Nat.zero_le _, rfl, rfl, HOS.out, HB.out, HA, Lib.hid (IN.zero ws y S)⟩
        case round =>
          obtain ⟨m, fb, S', hmN, rfl, rfl, hOS', hB4, HA', HIN⟩ := hrel
          by_cases hmlt : m < N
          · have d4 : decide ((m : Int) < (N : Int)) = true := yb (by omega)
            obtain ⟨b3, o3, rfl, hc3, hrb⟩ := RdB.at (HR.out.keep (by rw [HG.out]; exact hB4)) HN.out m hmlt
            obtain ⟨b4, o4, he4, _, hro⟩ := RdO.at (HO.out.keep (by rw [HG.out]; exact hB4)) HM.out i hit
            cases he4
            have hbk : BdK (gb ws m) := HBK.out _ (getD_mem (by rw [HN.out]; exact hmlt))
            have HBK2 := Lib.hid hbk
            obtain ⟨x, HX⟩ : ∃ x, Hid (gb ws m = x) := ⟨_, Lib.hid rfl⟩
            rw [HX.out] at hrb HBK2
            rw [HY.out] at hro
            obtain ⟨q0, q1, q2, q3, q4, q5, q6, q7, q8⟩ := hrb
            obtain ⟨g0, g1, g2, g3, g4, g5, g6⟩ := hro
            have i1 : (0 : Int) ≤ (m : Int) := by omega
            have i2 : (m : Int) < (N : Int) := by omega
            have hwm : IntKind.i64.wrap (m : Int) = (m : Int) := IntWalk.i64_in _ (by omega)
            have hwm1 : IntKind.i64.wrap ((m : Int) + 1) = (m : Int) + 1 := IntWalk.i64_in _ (by omega)
            have HOS' := Lib.hid hOS'
            have HB4 := Lib.hid hB4
            have hgx := (OwF.lt hOS').2
            clear hbk hOS' hB4
            by_cases hid : x.id = y.id
            · obtain ⟨e1, e2, e3⟩ := id_eq hid
              obtain ⟨b5, o5, he5, _, hrb5⟩ := RdB.at HR.out HN.out m hmlt
              cases he5
              obtain ⟨b6, o6, he6, _, hro6⟩ := RdO.at HO.out HM.out i hit
              cases he6
              rw [HX.out] at hrb5
              rw [HY.out] at hro6
              obtain ⟨p0, p1, p2, p3, p4, p5, p6, p7, p8⟩ := hrb5
              obtain ⟨r0, r1, r2, r3, r4, r5, r6⟩ := hro6
              have hse : S' = S := HIN.out.eq HU.out (by rw [HN.out]; exact hmlt) (by rw [HX.out]; exact hid)
              obtain ⟨f', hf'⟩ : ∃ f', S'.getD m f0 = f' := ⟨_, rfl⟩
              obtain ⟨r, hr⟩ : ∃ r, stp x f' y = r := ⟨_, rfl⟩
              have HHIT : Hid (IN ws y S (m + 1) r.isSome (S'.set m (r.getD f'))) := Lib.hid (by
                have := IN.hit (ws := ws) (y := y) (S := S) (m := m) (by rw [HX.out]; exact hid)
                rw [HX.out, ← hse, hf', hr] at this
                rw [← hse]; exact this)
              have HA2 : Hid (FtA N (S'.set m (r.getD f'))) := Lib.hid (by
                have := FtA.stp (b := x) HA'.out hmlt HOO.out HNN.out
                rw [hf', hr] at this; exact this)
              have HCT : Hid (∀ wS, OwF wS g g N N S' → g ≤ wS.heap.size → Calls Tryd.prog 65 #[.pointer (some ⟨g, m * 37, none⟩), x.v, y.v] wS fun e w' => e = .returned (.bool r.isSome) ∧ OwF w' g g N N (S'.set m (r.getD f')) ∧ Kx (fun k => k = g) wS w') := Lib.hid (fun wS h1 h2 => by
                have := rfol_any g g N N m S' x y HA'.out.1 hmlt HBK2.out HOO.out HNN.out (HA'.out.2 m hmlt).1 (HA'.out.2 m hmlt).2 HMK.out wS h1 h2
                rw [hf', hr] at this
                unfold RfR at this
                rw [hf'] at this
                exact this)
              have hBW := HB4.out
              rw [← HG.out] at hBW
              have HBW := Lib.hid hBW
              obtain ⟨fin, hfin⟩ : ∃ fin, r.isSome = fin := ⟨_, rfl⟩
              rw [hfin] at HHIT HCT
              clear hid hse hf' hr hfin hBW
              go_wp2_with fail
              go_quiet (fail)
              go_wp2_with fail
              clear q0 q1 q2 q3 q4 q5 q6 q7 q8 g0 g1 g2 g3 g4 g5 g6
              refine wp_region_noPanic ?_
              refine wp_region_held_drew (S := (fun w' => Below w.heap.size w w')) (by kernel_rfl) (below_drewN HBW.out _).drew (fun hHeld => ?_)
              refine reg_tk (v := ?_) 0 43 rfl rfl (by kernel_rfl) (by kernel_rfl) (by kernel_rfl) (fun _ _ _ h => h) (by rfl) ?_ (by assumption) ?_
              rotate_left
              · (intro w3 hS; (try dsimp only at hS); skip; go_simp; (try with_reducible rfl))
              simp only [List.setIfInBounds_toArray, List.set_cons_zero, List.set_cons_succ]
              refine reg_tk (v := ?_) 1 44 rfl rfl (by kernel_rfl) (by kernel_rfl) (by kernel_rfl) (fun _ _ _ h => h) (by rfl) ?_ (by assumption) ?_
              rotate_left
              · (intro w3 hS; (try dsimp only at hS); skip; go_simp; (try with_reducible rfl))
              simp only [List.setIfInBounds_toArray, List.set_cons_zero, List.set_cons_succ]
              refine reg_tk (v := ?_) 2 45 rfl rfl (by kernel_rfl) (by kernel_rfl) (by kernel_rfl) (fun _ _ _ h => h) (by rfl) ?_ (by assumption) ?_
              rotate_left
              · (intro w3 hS; (try dsimp only at hS); skip; go_simp; (try with_reducible rfl))
              simp only [List.setIfInBounds_toArray, List.set_cons_zero, List.set_cons_succ]
              refine reg_tk (v := ?_) 3 46 rfl rfl (by kernel_rfl) (by kernel_rfl) (by kernel_rfl) (fun _ _ _ h => h) (by rfl) ?_ (by assumption) ?_
              rotate_left
              · (intro w3 hS; (try dsimp only at hS); skip; go_simp; (try with_reducible rfl))
              simp only [List.setIfInBounds_toArray, List.set_cons_zero, List.set_cons_succ]
              refine reg_tk (v := ?_) 4 47 rfl rfl (by kernel_rfl) (by kernel_rfl) (by kernel_rfl) (fun _ _ _ h => h) (by rfl) ?_ (by assumption) ?_
              rotate_left
              · (intro w3 hS; (try dsimp only at hS); skip; go_simp; (try with_reducible rfl))
              simp only [List.setIfInBounds_toArray, List.set_cons_zero, List.set_cons_succ]
              refine reg_tk (v := ?_) 5 48 rfl rfl (by kernel_rfl) (by kernel_rfl) (by kernel_rfl) (fun _ _ _ h => h) (by rfl) ?_ (by assumption) ?_
              rotate_left
              · (intro w3 hS; (try dsimp only at hS); skip; go_simp; (try with_reducible rfl))
              simp only [List.setIfInBounds_toArray, List.set_cons_zero, List.set_cons_succ]
              refine reg_tk (v := ?_) 6 49 rfl rfl (by kernel_rfl) (by kernel_rfl) (by kernel_rfl) (fun _ _ _ h => h) (by rfl) ?_ (by assumption) ?_
              rotate_left
              · (intro w3 hS; (try dsimp only at hS); (have z0 := cell_later hS p0; have z1 := cell_later hS p1; have z2 := cell_later hS p2; have z3 := cell_later hS p3; have z4 := cell_later hS p4; have z5 := cell_later hS p5; have z6 := cell_later hS p6; have z7 := cell_later hS p7; have z8 := cell_later hS p8); go_simp; (try with_reducible rfl))
              simp only [List.setIfInBounds_toArray, List.set_cons_zero, List.set_cons_succ]
              refine reg_tk (v := ?_) 7 50 rfl rfl (by kernel_rfl) (by kernel_rfl) (by kernel_rfl) (fun _ _ _ h => h) (by rfl) ?_ (by assumption) ?_
              rotate_left
              · (intro w3 hS; (try dsimp only at hS); skip; go_simp; (try with_reducible rfl))
              simp only [List.setIfInBounds_toArray, List.set_cons_zero, List.set_cons_succ]
              refine reg_tk (v := ?_) 8 51 rfl rfl (by kernel_rfl) (by kernel_rfl) (by kernel_rfl) (fun _ _ _ h => h) (by rfl) ?_ (by assumption) ?_
              rotate_left
              · (intro w3 hS; (try dsimp only at hS); skip; go_simp; (try with_reducible rfl))
              simp only [List.setIfInBounds_toArray, List.set_cons_zero, List.set_cons_succ]
              refine reg_tk (v := ?_) 9 52 rfl rfl (by kernel_rfl) (by kernel_rfl) (by kernel_rfl) (fun _ _ _ h => h) (by rfl) ?_ (by assumption) ?_
              rotate_left
              · (intro w3 hS; (try dsimp only at hS); skip; go_simp; (try with_reducible rfl))
              simp only [List.setIfInBounds_toArray, List.set_cons_zero, List.set_cons_succ]
              refine reg_tk (v := ?_) 10 53 rfl rfl (by kernel_rfl) (by kernel_rfl) (by kernel_rfl) (fun _ _ _ h => h) (by rfl) ?_ (by assumption) ?_
              rotate_left
              · (intro w3 hS; (try dsimp only at hS); (have z0 := cell_later hS r0; have z1 := cell_later hS r1; have z2 := cell_later hS r2; have z3 := cell_later hS r3; have z4 := cell_later hS r4; have z5 := cell_later hS r5; have z6 := cell_later hS r6); go_simp; (try with_reducible rfl))
              simp only [List.setIfInBounds_toArray, List.set_cons_zero, List.set_cons_succ]
              refine wpAnyH_ready (rs := [11]) (by kernel_rfl) (by simp) ?_
              refine AllReadyH.cons rfl (fun K hK => ?_) AllReadyH.nil
              go_simp
              refine (HCT.out _ (HOS'.out.keep (below_drewN (Below.refl _ _) _).drew) (by rw [← HG.out]; exact hHeld.size)).mono ?_
              rintro e w3 ⟨rfl, hO3, hk3⟩
              have hB5 : Below w.heap.size w w3 := below_kx hHeld hk3 (by rw [HG.out]; exact Nat.le_refl _) hHeld.size
              have HO3 := Lib.hid hO3
              clear hO3 hk3
              refine hK.out _ _ hB5 (fun hHeld2 => ?_)
              clear hK K hHeld
              have hHeld := hHeld2
              clear hHeld2
              try simp only [Act.put, List.setIfInBounds_toArray, List.set_cons_zero, List.set_cons_succ]
              refine reg_tk (v := ?_) 12 8 rfl rfl (by kernel_rfl) (by kernel_rfl) (by kernel_rfl) (fun _ _ _ h => h) (by rfl) ?_ (by assumption) ?_
              rotate_left
              · (intro w3 hS; (try dsimp only at hS); skip; go_simp; (try with_reducible rfl))
              simp only [List.setIfInBounds_toArray, List.set_cons_zero, List.set_cons_succ]
              refine wpAnyH_done (by kernel_rfl) ?_ _
              refine NoPanic.normal ?_
              have HB5 : Hid (Below g w w3) := Lib.hid (by rw [← HG.out]; exact hB5)
              clear hHeld hB5 p0 p1 p2 p3 p4 p5 p6 p7 p8 r0 r1 r2 r3 r4 r5 r6
              go_wp2_with fail
              go_roundw
              case rel => exact ⟨m + 1, fin, _, by omega, by go_num, rfl, HO3.out, HB5.out, HA2, HHIT⟩
              case measure => simp [intOf]; omega
            · have hne := id_ne hid
              have HM2 : Hid (IN ws y S (m + 1) fb S') := Lib.hid (HIN.out.ne (by rw [HX.out]; exact hid))
              clear hid
              rcases hne with e1 | ⟨e1, e2⟩ | ⟨e1, e2, e3⟩
              all_goals
                go_wp2_with fail
                go_quiet (fail)
                go_wp2_with fail
                go_roundw
                case rel => exact ⟨m + 1, fb, S', by omega, by go_num, rfl, HOS'.out.keep (below_drewN (Below.refl _ _) _), below_drewN HB4.out _, HA', HM2⟩
                case measure => simp [intOf]; omega
          · obtain rfl : m = N := by omega
            have d4 : decide ((m : Int) < (m : Int)) = false := nb (by omega)
            have HIN2 : Hid (IN ws y S ws.length fb S') := Lib.hid (by rw [HN.out]; exact HIN.out)
            have HOS' := Lib.hid hOS'
            have HB4 := Lib.hid hB4
            clear hOS' hB4
            cases fb with
            | true =>
              have HF2 : Hid (R = fol ws (l.drop (i + 1)) (i + 1) S') := Lib.hid (by rw [HF.out, HIN2.out.yes HU.out HMK.out])
              go_wp2_with fail
              go_roundw
              case rel => exact ⟨i + 1, S', by omega, by go_num, HOS'.out, HB4.out, HA', HF2⟩
              case measure => simp [intOf]; omega
            | false =>
              have HE : Hid (R = (S', i)) := Lib.hid (by rw [HF.out, HIN2.out.no HU.out HMK.out (by rw [HN.out]; exact HA.out.1)])
              go_wp2_with fail
              go_ret2
              exact ⟨g, by rw [HRR.out, HE.out, HN.out]; rfl, by rw [HRR.out, HE.out, HN.out, HG.out]; exact HOS'.out, by rw [HG.out]; exact HB4.out⟩
    · obtain rfl : i = M := by omega
      have d3 : decide ((i : Int) < (i : Int)) = false := nb (by omega)
      have HE : Hid (R = (S, i)) := Lib.hid (by rw [HF.out, List.drop_of_length_le (by rw [HM.out]; exact Nat.le_refl _)]; rfl)
      have HOS := Lib.hid hOS
      have HB := Lib.hid hB3
      clear hOS hB3
      go_wp2_with fail
      go_ret2
      exact ⟨g, by rw [HRR.out, HE.out, HN.out]; rfl, by rw [HRR.out, HE.out, HN.out, HG.out]; exact HOS.out, by rw [HG.out]; exact HB.out⟩
end Go.Proofs.YtcjlbpndgjapiaaDoor
namespace Go.Proofs.YtcjlbpndgjapiaaDoor
open Go.RowKit
set_option linter.unusedSimpArgs false
set_option linter.unusedVariables false
set_option maxRecDepth 100000

/-- what the walks of the reference ask of a world -/
structure Wr (w : World) (v u : Value) (ws : List Bd) (l : List Oc) : Prop where
  rb : RdB w v ws
  ro : RdO w u l
theorem Wr.keep {W w1 : World} {v u : Value} {ws : List Bd} {l : List Oc} (hb : Below W.heap.size W w1) (h : Wr W v u ws l) : Wr w1 v u ws l := ⟨h.rb.keep hb, h.ro.keep hb⟩
theorem OwF.low {w : World} {base base' g n c : Nat} {S : List Ft} (h : OwF w base g n c S) (hb : base' ≤ base) : OwF w base' g n c S := by
  refine ⟨h.1, ?_⟩
  rcases h.2 with ⟨h1, _⟩ | ⟨g', cap, cur, hv, h2, rest⟩
  · cases h1
  · exact .inr ⟨g', cap, cur, hv, Nat.le_trans hb h2, rest⟩
theorem nd_of {o : Oc} (h : oneE o = 0) : 1 ≤ o.nd := by
  unfold oneE at h
  split at h
  · cases h
  · split at h
    · cases h
    · omega
theorem rchecked_any (v u : Value) (ws : List Bd) (l : List Oc) (w : World) (h : Wr w v u ws l) : Calls Tryd.prog 43 #[v, u] w fun e w' => e = .returned (.int .i64 (chkE ws l)) ∧ Below w.heap.size w w' := by
  have HH := Lib.hid h
  obtain ⟨R, hR⟩ : ∃ R, chkE ws l = R := ⟨_, rfl⟩
  rw [hR]
  have HR := Lib.hid hR
  have HW := Lib.hid (rworld_any v ws w h.rb)
  obtain ⟨z, ix, hz⟩ : ∃ z ix, chkW ws = (z, ix) := ⟨_, _, rfl⟩
  rw [hz] at HW
  have HZ := Lib.hid hz
  clear hR hz h
  go_enter Tryd.func43, Tryd.ntmps43
  go_wp2_with fail
  refine HW.out.mono ?_
  rintro e w1 ⟨rfl, hb1⟩
  have HB1 := Lib.hid hb1
  have HT := Lib.hid (rtrace_any u l w1 (HH.out.ro.keep hb1))
  clear hb1 HW
  by_cases hz0 : z = 0
  · have d1 : (z != 0) = false := by simp [hz0]
    have HE : Hid ((chkT l).1 = R) := Lib.hid (by rw [← HR.out]; unfold chkE; rw [HZ.out, if_neg (by simp [hz0])])
    obtain ⟨t, it, ht⟩ : ∃ t it, chkT l = (t, it) := ⟨_, _, rfl⟩
    rw [ht] at HT HE
    clear hz0 ht
    go_wp2_with fail
    refine HT.out.mono ?_
    rintro e w2 ⟨rfl, hb2⟩
    have HB2 := Lib.hid (Below.next HB1.out hb2)
    clear hb2
    go_wp2_with fail
    go_ret
    exact ⟨by rw [← HE.out]; rfl, HB2.out⟩
  · have d1 : (z != 0) = true := by simpa using hz0
    obtain rfl : R = z := by rw [← HR.out]; unfold chkE; rw [HZ.out, if_pos (by simpa using hz0)]
    clear hz0
    go_wp2_with fail
    go_ret
    exact ⟨rfl, HB1.out⟩
theorem rallowed_any (v u : Value) (ws : List Bd) (l : List Oc) (w : World) (h : Wr w v u ws l) : Calls Tryd.prog 15 #[v, u] w fun e w' => e = .returned (V2 (allV ws l).1 (allV ws l).2) ∧ Below w.heap.size w w' := by
  have HH := Lib.hid h
  have HC := Lib.hid (rchecked_any v u ws l w h)
  obtain ⟨x, y, hR⟩ : ∃ x y, allV ws l = (x, y) := ⟨_, _, rfl⟩
  rw [hR]
  have HR := Lib.hid hR
  obtain ⟨z, hz⟩ : ∃ z, chkE ws l = z := ⟨_, rfl⟩
  rw [hz] at HC
  have HZ := Lib.hid hz
  clear hR hz h
  go_enter Tryd.func15, Tryd.ntmps15
  go_wp2_with fail
  refine HC.out.mono ?_
  rintro e w1 ⟨rfl, hb1⟩
  have HB1 := Lib.hid hb1
  replace HH := Lib.hid (HH.out.keep hb1)
  clear hb1 HC
  by_cases hz0 : z = 0
  · have d1 : (z != 0) = false := by simp [hz0]
    have he : chkE ws l = 0 := by rw [HZ.out, hz0]
    obtain ⟨h1, h2⟩ := chkE_parts he
    obtain ⟨p1, p2, p3⟩ := chk_world h1
    obtain ⟨q1, q2⟩ := chk_trace h2
    have HF := Lib.hid (rfollowed_any v u ws l (fun b hb => bk_of (p2 b hb)) p3 p1 (fun o ho => ok_of (q2 o ho)) (fun o ho => nd_of (q2 o ho)) w1 HH.out.rb HH.out.ro)
    have HE : Hid (((folW ws l).2 : Int) = x ∧ y = 0) := Lib.hid (by
      have h3 := HR.out
      unfold allV at h3
      rw [if_neg (by rw [he]; simp)] at h3
      simp only [Prod.mk.injEq] at h3
      exact ⟨h3.1, h3.2.symm⟩)
    clear hz0 he h1 h2 p1 p2 p3 q1 q2
    go_wp2_with fail
    refine HF.out.mono ?_
    rintro e w2 ⟨g, rfl, hF, hb2⟩
    have HB2 := Lib.hid (Below.next HB1.out hb2)
    clear hb2 hF HF
    go_wp2_with fail
    go_ret2
    exact ⟨by rw [← HE.out.1, HE.out.2]; rfl, HB2.out⟩
  · have d1 : (z != 0) = true := by simpa using hz0
    have HE : Hid (x = 0 ∧ y = z) := Lib.hid (by
      have h3 := HR.out
      unfold allV at h3
      rw [HZ.out, if_pos hz0] at h3
      simp only [Prod.mk.injEq] at h3
      exact ⟨h3.1.symm, h3.2.symm⟩)
    clear hz0
    go_wp2_with fail
    go_ret2
    exact ⟨by rw [HE.out.1, HE.out.2]; rfl, HB1.out⟩
/-- fates has returned -/
def RaR (w : World) (ws : List Bd) (l : List Oc) (e : Ending) (w' : World) : Prop :=
  Below w.heap.size w w' ∧ ((fatE ws l ≠ 0 ∧ e = .returned (.tuple #[.slice none 0 0, .int .i64 (fatE ws l)])) ∨ (fatE ws l = 0 ∧ ∃ g, e = .returned (.tuple #[.slice (some ⟨g, 0, none⟩) ws.length ws.length, .int .i64 0]) ∧ OwF w' w.heap.size g ws.length ws.length (folW ws l).1))
theorem rfates_any (v u : Value) (ws : List Bd) (l : List Oc) (w : World) (h : Wr w v u ws l) : Calls Tryd.prog 48 #[v, u] w (RaR w ws l) := by
  have HH := Lib.hid h
  have HC := Lib.hid (rchecked_any v u ws l w h)
  obtain ⟨z, hz⟩ : ∃ z, chkE ws l = z := ⟨_, rfl⟩
  rw [hz] at HC
  have HZ := Lib.hid hz
  obtain ⟨a1, n1, rfl⟩ := h.ro.form
  obtain ⟨M, hM⟩ : ∃ M, l.length = M := ⟨_, rfl⟩
  have HM := Lib.hid hM
  rw [hM] at HC HH ⊢
  clear hz h hM
  go_enter Tryd.func48, Tryd.ntmps48
  go_wp2_with fail
  refine HC.out.mono ?_
  rintro e w1 ⟨rfl, hb1⟩
  have HB1 := Lib.hid hb1
  replace HH := Lib.hid (HH.out.keep hb1)
  clear hb1 HC
  by_cases hz0 : z = 0
  · have d1 : (z != 0) = false := by simp [hz0]
    have he : chkE ws l = 0 := by rw [HZ.out, hz0]
    obtain ⟨h1, h2⟩ := chkE_parts he
    obtain ⟨p1, p2, p3⟩ := chk_world h1
    obtain ⟨q1, q2⟩ := chk_trace h2
    have HF := Lib.hid (rfollowed_any v (.slice a1 M n1) ws l (fun b hb => bk_of (p2 b hb)) p3 p1 (fun o ho => ok_of (q2 o ho)) (fun o ho => nd_of (q2 o ho)) w1 HH.out.rb HH.out.ro)
    have HE : Hid (fatE ws l = if (folW ws l).2 < M then 12 else 0) := Lib.hid (by unfold fatE; rw [if_neg (by rw [he]; simp), HM.out])
    clear hz0 he h1 h2 p1 p2 p3 q1 q2
    go_wp2_with fail
    refine HF.out.mono ?_
    rintro e w2 ⟨g, rfl, hF, hb2⟩
    have HFW := Lib.hid (OwF.low hF HB1.out.size)
    have HB2 := Lib.hid (Below.next HB1.out hb2)
    obtain ⟨Z, hZ⟩ : ∃ Z, (folW ws l).2 = Z := ⟨_, rfl⟩
    rw [hZ] at HE
    rw [hZ]
    clear hb2 hF HF hZ
    by_cases hlt : Z < M
    · have d2 : decide ((Z : Int) < (M : Int)) = true := yb (by omega)
      have d2' : decide (Z < M) = true := yb hlt
      have HE2 : Hid (fatE ws l = 12) := Lib.hid (by rw [HE.out, if_pos hlt])
      clear hlt
      go_wp2_with fail
      go_ret2
      exact ⟨HB2.out, .inl ⟨by rw [HE2.out]; simp, by rw [HE2.out]; rfl⟩⟩
    · have d2 : decide ((Z : Int) < (M : Int)) = false := nb (by omega)
      have d2' : decide (Z < M) = false := nb hlt
      have HE2 : Hid (fatE ws l = 0) := Lib.hid (by rw [HE.out, if_neg hlt])
      clear hlt
      go_wp2_with fail
      go_ret2
      exact ⟨HB2.out, .inr ⟨HE2.out, g, rfl, HFW.out⟩⟩
  · have d1 : (z != 0) = true := by simpa using hz0
    have HE2 : Hid (fatE ws l = z ∧ z ≠ 0) := Lib.hid ⟨by unfold fatE; rw [HZ.out, if_pos hz0], hz0⟩
    clear hz0
    go_wp2_with fail
    go_ret2
    exact ⟨HB1.out, .inl ⟨by rw [HE2.out.1]; exact HE2.out.2, by rw [HE2.out.1]; rfl⟩⟩
end Go.Proofs.YtcjlbpndgjapiaaDoor
