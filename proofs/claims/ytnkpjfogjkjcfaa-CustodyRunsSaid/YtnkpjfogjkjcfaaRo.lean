


/- Custody: the reference's copy of a world. -/
import Derived.Test.YtnkpjfogjkjcfaaP
import Derived.Test.YtnkpjfogjkjcfaaRT
namespace Go.Proofs.Ytnkpjfogjkjcfaa
open Go.RowKit
set_option linter.unusedSimpArgs false
set_option linter.unusedVariables false
set_option maxRecDepth 100000

/-- one node more, its tags stored one after the other -/
theorem OL.step2 {w0 w w1 w2 : World} {B g cap : Nat} {fv : Value} {q0 q : List Cq} {X : Wd} {k : Nat} (h : OL w0 w B g cap fv q0 q X k) (hk : k < X.cs.length) {ta ka : Option Addr} {tc kc : Nat}
    (h1 : w1.ownsRow w.heap.size 80 2 (.slice ta (gc X.cs k).tk.length tc) (gc X.cs k).tk.length (rcs tgR (gc X.cs k).tk)) (b1 : Below w.heap.size w w1)
    (h2 : w2.ownsRow w1.heap.size 80 2 (.slice ka (gc X.cs k).kp.length kc) (gc X.cs k).kp.length (rcs tgR (gc X.cs k).kp)) (b2 : Below w1.heap.size (w1.setCell ⟨g, k * 6 + 4, none⟩ (.slice ta (gc X.cs k).tk.length tc)) w2) :
    OL w0 (w2.setCell ⟨g, k * 6 + 5, none⟩ (.slice ka (gc X.cs k).kp.length kc)) B g cap fv q0 (q.set k { gq q k with ta := ta, tn := (gc X.cs k).tk.length, tc := tc, ka := ka, kn := (gc X.cs k).kp.length, kc := kc }) X (k + 1) := by
  have hB := h.bel.size
  have hBe := h.base
  have hgw := (h.rows.lt g rfl).2
  have hgB := (h.rows.lt g rfl).1
  have hq : k < q.length := by rw [h.len]; exact hk
  have hrk : CopR w (gq q k) (gc X.cs k) := h.cop k
  have hs1 := b1.size
  have rows1 : OwC w1 B g cap X.cs.length q := Own.keep h.rows b1
  obtain ⟨wa, hwa⟩ : ∃ V : World, V = w1.setCell ⟨g, k * 6 + 4, none⟩ (.slice ta (gc X.cs k).tk.length tc) := ⟨_, rfl⟩
  have hka : Kx (fun k => k = g) w1 wa := by rw [hwa]; exact kx_cell w1 g _ _
  have hsa : wa.heap.size = w1.heap.size := by rw [hwa]; simp
  rw [← hwa] at b2
  have b2' : Below wa.heap.size wa w2 := by rw [hsa]; exact b2
  have hk2 : Kx (fun k => k = g) w2 (w2.setCell ⟨g, k * 6 + 5, none⟩ (.slice ka (gc X.cs k).kp.length kc)) := kx_cell w2 g _ _
  have hkall : Kx (fun k => k = g) w (w2.setCell ⟨g, k * 6 + 5, none⟩ (.slice ka (gc X.cs k).kp.length kc)) := (((Kx.of_below (X := fun k => k = g) b1).trans hka (fun _ _ e => e)).next b2').trans hk2 (fun _ _ e => e)
  have e1 := own_cell rows1 h.len k hk { gq q k with ta := ta, tn := (gc X.cs k).tk.length, tc := tc } 4 (.slice ta (gc X.cs k).tk.length tc) (by decide) rfl
  rw [← hwa] at e1
  have e2 : OwC w2 B g cap X.cs.length _ := Own.keep e1 b2'
  have e3 := own_cell e2 (by rw [List.length_set]; exact h.len) k hk { gq q k with ta := ta, tn := (gc X.cs k).tk.length, tc := tc, ka := ka, kn := (gc X.cs k).kp.length, kc := kc } 5 (.slice ka (gc X.cs k).kp.length kc) (by decide) (by rw [gq_set hq, if_pos rfl]; rfl)
  rw [List.set_set] at e3
  have hga : ∀ {w' : World} {B' B2 s n n2 : Nat} {v : Value} {xs : List Value} {e : TypeId} {qq : List Cq}, w'.ownsRow B' e s v n xs → OwC w' B2 g cap n2 qq → 45 ≠ e → ∀ k, v.ownBlock = some k → ¬ k = g := fun ho hr he k hvk e => by
    rw [e] at hvk
    exact own_apart hr ho he g rfl hvk
  have t1 := hka.owns (hga h1 rows1 (by decide)) h1
  have t2 : w2.ownsRow w.heap.size 80 2 (.slice ta (gc X.cs k).tk.length tc) (gc X.cs k).tk.length (rcs tgR (gc X.cs k).tk) := Own.keep t1 b2'
  have t3 := hk2.owns (hga t2 e2 (by decide)) t2
  have k3 := hk2.owns (hga h2 e2 (by decide)) h2
  have hold : ∀ i b, i < k → (gq q i).tv.ownBlock = some b → b < w.heap.size := fun i b hi e => ((h.done i hi).tk.lt b e).2
  have holdk : ∀ i b, i < k → (gq q i).kv.ownBlock = some b → b < w.heap.size := fun i b hi e => ((h.done i hi).kp.lt b e).2
  have hnt : ∀ b, (Value.slice ta (gc X.cs k).tk.length tc).ownBlock = some b → w.heap.size ≤ b ∧ b < w1.heap.size := fun b e => h1.lt b e
  have hnk : ∀ b, (Value.slice ka (gc X.cs k).kp.length kc).ownBlock = some b → w1.heap.size ≤ b := fun b e => (h2.lt b e).1
  have egq : ∀ j, gq (q.set k { gq q k with ta := ta, tn := (gc X.cs k).tk.length, tc := tc, ka := ka, kn := (gc X.cs k).kp.length, kc := kc }) j = if j = k then { gq q k with ta := ta, tn := (gc X.cs k).tk.length, tc := tc, ka := ka, kn := (gc X.cs k).kp.length, kc := kc } else gq q j := fun j => gq_set hq
  refine ⟨e3, hkall.owns (hga h.frs h.rows (by decide)) h.frs, by rw [List.length_set]; exact h.len, fun i hi => ?_, fun i hi => ?_, h.src, fun i j b hi hj e1 e2 => ?_, fun i j b hi hj e1 e2 => ?_, fun i j b hi hj e1 e2 => ?_, ?_, h.base⟩
  · rw [egq]
    split
    · rename_i e
      subst e
      exact ⟨hrk.st, hrk.tt, hrk.of, hrk.nx, own_mono t3 (by omega), own_mono k3 (by omega)⟩
    · rename_i e
      have hd := h.done i (by omega)
      exact ⟨hd.st, hd.tt, hd.of, hd.nx, hkall.owns (hga hd.tk h.rows (by decide)) hd.tk, hkall.owns (hga hd.kp h.rows (by decide)) hd.kp⟩
  · rw [egq, if_neg (by omega)]
    exact h.rest i (by omega)
  · rw [egq] at e1 e2
    by_cases hx : i = k <;> by_cases hy : j = k
    · omega
    · rw [if_pos hx] at e1; rw [if_neg hy] at e2
      have := hnt b e1; have := hold j b (by omega) e2; omega
    · rw [if_neg hx] at e1; rw [if_pos hy] at e2
      have := hnt b e2; have := hold i b (by omega) e1; omega
    · rw [if_neg hx] at e1; rw [if_neg hy] at e2
      exact h.tt i j b (by omega) (by omega) e1 e2
  · rw [egq] at e1 e2
    by_cases hx : i = k <;> by_cases hy : j = k
    · omega
    · rw [if_pos hx] at e1; rw [if_neg hy] at e2
      have := hnk b e1; have := holdk j b (by omega) e2; omega
    · rw [if_neg hx] at e1; rw [if_pos hy] at e2
      have := hnk b e2; have := holdk i b (by omega) e1; omega
    · rw [if_neg hx] at e1; rw [if_neg hy] at e2
      exact h.kk i j b (by omega) (by omega) e1 e2
  · rw [egq] at e1 e2
    by_cases hx : i = k <;> by_cases hy : j = k
    · rw [if_pos hx] at e1; rw [if_pos hy] at e2
      have := hnt b e1; have := hnk b e2; omega
    · rw [if_pos hx] at e1; rw [if_neg hy] at e2
      have := hnt b e1; have := holdk j b (by omega) e2; omega
    · rw [if_neg hx] at e1; rw [if_pos hy] at e2
      have := hnk b e2; have := hold i b (by omega) e1; omega
    · rw [if_neg hx] at e1; rw [if_neg hy] at e2
      exact h.tk i j b (by omega) (by omega) e1 e2
  · exact ((Kx.of_below (X := fun k => k = g) h.bel).trans hkall (fun _ _ h => h)).below (Nat.le_refl _) (fun k e => by omega)
/-- a box of another type lies apart -/
theorem OR.nbox {w : World} {B g cap : Nat} {fv : Value} {q : List Cq} {X : Wd} {p T : Nat} {vs : Array Value} (h : OR w B g cap fv q X) (hb : BoxN w p T vs) (h1 : T ≠ 45) (h2 : T ≠ 47) (h3 : T ≠ 80) : ¬ Mn g fv q p := by
  rintro (e | e | ⟨i, e | e⟩)
  · exact row_ne h.rows hb h1 g rfl e
  · exact row_ne h.frs hb h2 p e rfl
  · exact row_ne (h.cop i).tk hb h3 p e rfl
  · exact row_ne (h.cop i).kp hb h3 p e rfl
/-- a world's copy, whole -/
def ROw (w : World) (X : Wd) (e : Ending) (w' : World) : Prop := ∃ (g cap : Nat) (fv : Value) (q : List Cq), e = .returned (wV X (.slice (some ⟨g, 0, none⟩) X.cs.length cap) fv) ∧ OR w' w.heap.size g cap fv q X ∧ Below w.heap.size w w'
set_option maxHeartbeats 4000000 in
theorem rown_any (w : World) (v : Value) (X : Wd) (h : RdW w v X) (hs : Sml X) (hne : 0 < X.cs.length) : Calls Try.prog 41 #[v] w (ROw w X) := by
  obtain ⟨cv, fv, q, rfl, hp⟩ := h
  obtain ⟨a, c, rfl⟩ := hp.rows.form
  obtain ⟨fa, fc, rfl⟩ := hp.frs.form
  have hl := hp.len
  obtain ⟨N, hN⟩ : ∃ N, X.cs.length = N := ⟨_, rfl⟩
  obtain ⟨F, hF⟩ : ∃ F, X.fr.length = F := ⟨_, rfl⟩
  have hsc := hs.cs
  have hsf := hs.fr
  have HS := Lib.hid hs.tg
  rw [hN] at hsc hne hl
  rw [hF] at hsf
  rw [hl] at hp ⊢
  rw [hF] at hp ⊢
  have HN := Lib.hid hN
  have HF := Lib.hid hF
  have HQ := Lib.hid hl
  clear hs hl hN hF
  obtain ⟨W, hW⟩ : ∃ W : World, W = (w.alloc (.cells #[.int .i64 X.ds, .slice a N c, .slice fa F fc] 25)).alloc (.cells #[.int .i64 0, .slice none 0 0, .slice none 0 0] 25) := ⟨_, rfl⟩
  have hB0 : Below w.heap.size w W := by rw [hW]; exact (by repeat (first | assumption | exact Below.refl _ _ | apply Below.al | apply below_drewN | apply Below.drew | refine Below.next ?_ (by assumption)))
  have hWs : w.heap.size + 2 ≤ W.heap.size := by rw [hW]; simp
  have e0 : BoxN W w.heap.size 25 #[.int .i64 X.ds, .slice a N c, .slice fa F fc] := by rw [hW]; exact (BoxN.new w _ _).below (by repeat (first | assumption | exact Below.refl _ _ | apply Below.al | apply below_drewN | apply Below.drew | refine Below.next ?_ (by assumption)))
  have e1 : BoxN W (w.heap.size + 1) 25 #[.int .i64 0, .slice none 0 0, .slice none 0 0] := by
    rw [hW]
    have := BoxN.new (w.alloc (.cells #[.int .i64 X.ds, .slice a N c, .slice fa F fc] 25)) 25 #[.int .i64 0, .slice none 0 0, .slice none 0 0]
    simpa using this
  have x1 : W.cell? ⟨w.heap.size, 1, none⟩ = some (.slice a N c) := e0.cell 1
  have x1a : (W.alloc (.cells #[] 45)).cell? ⟨w.heap.size, 1, none⟩ = some (.slice a N c) := cell_al _ x1
  have HP := Lib.hid hp
  -- the copies' row
  have hrd0 : RdS (W.alloc (.cells #[] 45)) 6 (.slice a N c) N (rcs cpR q) := by
    have e : RdL cpR (W.alloc (.cells #[] 45)) (.slice a N c) q := (hp.rows.keep hB0).keep (by repeat (first | assumption | exact Below.refl _ _ | apply Below.al | apply below_drewN | apply Below.drew | refine Below.next ?_ (by assumption)))
    unfold RdL at e
    rw [HQ.out] at e
    exact e
  have hown0 : (W.alloc (.cells #[] 45)).ownsRow w.heap.size 45 6 (.slice (some ⟨W.heap.size, 0, none⟩) 0 0) 0 [] := owns_block _ _ 45 6 0 [] _ (by omega) (heap_last W _) rfl (by decide)
  have E0 := Lib.hid e0
  have E1 := Lib.hid e1
  have HB0 := Lib.hid hB0
  have HRD := Lib.hid hrd0
  have HOW0 := Lib.hid hown0
  clear e0 e1 hB0 hp hrd0 hown0
  go_enter Try.func41, Try.ntmps41
  go_upto_region 1 with fail
  rw [← hW]
  clear hW
  go_wp2_with (at_builtin; refine wpList_app rfl (.tmp 4) (.tmp 6) 22 rfl w.heap.size 45 _ 6 80 ECp _ 0 [] rfl HOW0.out _ N (rcs cpR q) rfl HRD.out (rcs_one cpR _) ?c1 ?c2 ?c3 ?_)
  case c1 => unfold maxLen; omega
  case c2 => omega
  case c3 => simp; omega
  intro ca cc w1 ho1 hg1 hb1
  have ho1 : w1.ownsRow w.heap.size 45 6 (.slice ca N cc) N (rcs cpR q) := by first | with_reducible exact ho1 | simpa using ho1
  have hbW : Below w.heap.size w w1 := (Below.al HB0.out _).trans hb1
  -- the boxes stand
  have hkg : Kx (fun b => b = W.heap.size) W w1 := ((Kx.refl _ W).alloc _).grown hg1 (fun b e => .inl (by simpa [Value.ownBlock] using e.symm))
  have e0 := hkg.box (by omega) E0.out
  have e1 := hkg.box (by omega) E1.out
  obtain ⟨g, rfl⟩ : ∃ g, ca = some ⟨g, 0, none⟩ := by
    rcases ho1.2 with ⟨h1, h2⟩ | ⟨g, cap, cur, h1, _⟩
    · omega
    · simp only [Value.slice.injEq] at h1; exact ⟨g, h1.1⟩
  have z1 : w1.cell? ⟨w.heap.size, 1, none⟩ = some (.slice a N c) := e0.cell 1
  have z2 := e0.frozen 1
  obtain ⟨W3, hW3⟩ : ∃ V : World, Hid (V = w1.setCell ⟨w.heap.size, 1, none⟩ (.slice (some ⟨g, 0, none⟩) N cc)) := ⟨_, Lib.hid rfl⟩
  have hk3 : Kx (fun b => b = w.heap.size) w1 W3 := by rw [hW3.out]; exact kx_cell _ _ _ _
  have f0 : BoxN W3 w.heap.size 25 #[.int .i64 X.ds, .slice (some ⟨g, 0, none⟩) N cc, .slice fa F fc] := by rw [hW3.out]; exact e0.setc 1 _
  have f1 := hk3.box (by omega) e1
  have ho3 := hk3.owns (fun b e e2 => row_ne ho1 e0 (by decide) b e e2.symm) ho1
  have hb3 : Below w.heap.size w W3 := hbW.trans (hk3.below hbW.size (fun b e => by omega))
  have hol : OL w W3 w.heap.size g cc (.slice none 0 0) q q { X with fr := [] } 0 := by
    refine ⟨?_, ⟨rfl, .inl ⟨rfl, rfl⟩⟩, ?_, fun i hi => by omega, fun i _ => rfl, HP.out.cop, fun i j b hi => by omega, fun i j b hi => by omega, fun i j b hi => by omega, hb3, rfl⟩
    · show OwC W3 w.heap.size g cc X.cs.length q
      rw [HN.out]
      exact ho3
    · show q.length = X.cs.length
      rw [HN.out, HQ.out]
  have HOL := Lib.hid hol
  have F0 := Lib.hid f0
  have F1 := Lib.hid f1
  clear hol f0 f1 ho3 hb3 hk3 ho1 hg1 hb1 hbW hkg e0 e1 x1 x1a HRD HOW0
  go_wp2_with fail
  rw [← hW3.out]
  clear z1 z2 hW3
  go_loopw [3] (fun i wr => ∃ (k : Nat) (qk : List Cq), k ≤ N ∧ i = .int .i64 k ∧ OL w wr w.heap.size g cc (.slice none 0 0) q qk { X with fr := [] } k ∧ BoxN wr w.heap.size 25 #[.int .i64 X.ds, .slice (some ⟨g, 0, none⟩) N cc, .slice fa F fc] ∧ BoxN wr (w.heap.size + 1) 25 #[.int .i64 0, .slice none 0 0, .slice none 0 0]) (fun i _ => N - (intOf i).toNat)
  case atStart => exact ⟨0, q, Nat.zero_le _, rfl, HOL.out, F0.out, F1.out⟩
  case round =>
    clear HOL F0 F1
    obtain ⟨k, qk, hk, rfl, hol, hb0, hb1⟩ := hrel
    have HOLk := Lib.hid hol
    have HBX := Lib.hid hb0
    have HBT := Lib.hid hb1
    have x1 : wr.cell? ⟨w.heap.size, 1, none⟩ = some (.slice (some ⟨g, 0, none⟩) N cc) := hb0.cell 1
    have hwr := hol.bel.size
    clear hol hb0 hb1
    by_cases hlt : k < N
    · have d2 : decide ((k : Int) < (N : Int)) = true := yb (by omega)
      have hkX : k < ({ X with fr := [] } : Wd).cs.length := by show k < X.cs.length; rw [HN.out]; exact hlt
      have hrow := PtW.node HOLk.out.pt k hkX
      rw [Nat.zero_add] at hrow
      obtain ⟨y, HY⟩ : ∃ y, Hid (gq qk k = y) := ⟨_, Lib.hid rfl⟩
      have hcr := HOLk.out.src k
      rw [← HOLk.out.rest k (Nat.le_refl _), HY.out] at hcr
      rw [HY.out] at hrow
      obtain ⟨_, _, _, _, a4, a5⟩ := hrow
      obtain ⟨tks, htks⟩ : ∃ l, (gc X.cs k).tk = l := ⟨_, rfl⟩
      obtain ⟨kps, hkps⟩ : ∃ l, (gc X.cs k).kp = l := ⟨_, rfl⟩
      have hcr : CopR w y (gc X.cs k) := hcr
      have hsk := HS.out k
      rw [htks, hkps] at hsk
      have htn : y.tn = tks.length := by
        obtain ⟨a9, c9, e9⟩ := hcr.tk.form
        rw [htks] at e9
        simp only [Cq.tv, Value.slice.injEq] at e9
        exact e9.2.1
      have hkn : y.kn = kps.length := by
        obtain ⟨a9, c9, e9⟩ := hcr.kp.form
        rw [hkps] at e9
        simp only [Cq.kv, Value.slice.injEq] at e9
        exact e9.2.1
      have htm : y.tn ≤ 100000 := by omega
      have hkm : y.kn ≤ 100000 := by omega
      have HTK : Hid (∀ w', Below w.heap.size w w' → RdS w' 2 (.slice y.ta y.tn y.tc) y.tn (rcs tgR tks)) := Lib.hid (fun w' hb => by
        have e := hcr.tk.keep hb
        rw [htks] at e
        have e : RdS w' 2 (.slice y.ta y.tn y.tc) tks.length (rcs tgR tks) := e
        rw [← htn] at e
        exact e)
      have HKP : Hid (∀ w', Below w.heap.size w w' → RdS w' 2 (.slice y.ka y.kn y.kc) y.kn (rcs tgR kps)) := Lib.hid (fun w' hb => by
        have e := hcr.kp.keep hb
        rw [hkps] at e
        have e : RdS w' 2 (.slice y.ka y.kn y.kc) kps.length (rcs tgR kps) := e
        rw [← hkn] at e
        exact e)
      have HX1 := Lib.hid htks
      have HX2 := Lib.hid hkps
      have HTN := Lib.hid htn
      have HKN := Lib.hid hkn
      have i1 : (0 : Int) ≤ (k : Int) := by omega
      have i2 : (k : Int) < (N : Int) := by omega
      have hwk : IntKind.i64.wrap ((k : Int) + 1) = (k : Int) + 1 := IntWalk.i64_in _ (by omega)
      have hwk0 : IntKind.i64.wrap (k : Int) = (k : Int) := IntWalk.i64_in _ (by omega)
      have z1 := HOLk.out.rows.frozenAt (k * 6 + 4)
      have z2 := HOLk.out.rows.frozenAt (k * 6 + 5)
      have hgl := (HOLk.out.rows.lt g rfl).2
      have hgB := (HOLk.out.rows.lt g rfl).1
      have HBL := Lib.hid HOLk.out.bel
      clear htks hkps htn hkn hsk hcr
      have hbase : wr.heap.size ≤ wr.heap.size := Nat.le_refl _
      go_upto_region 5 with fail
      refine wp_region_noPanic ?_
      refine wp_region_late (fun _ => True) (fun w' => Below (wr).heap.size wr w') [13] (by kernel_rfl) trivial ((Below.refl _ wr).drew) (fun hHeld0 hHeld => ?_)
      refine reg0_tk (v := ?_) 0 16 rfl rfl (by kernel_rfl) (by kernel_rfl) (by kernel_rfl) (by kernel_rfl) (by kernel_rfl) (fun _ _ _ h => h) (by rfl) ?_ (by assumption) (by assumption) ?_
      rotate_left
      · (intro w3 hS; (try dsimp only at hS); skip; go_simp; (try with_reducible rfl))
      simp only [List.setIfInBounds_toArray, List.set_cons_zero, List.set_cons_succ]
      refine regG_tk (v := ?_) 1 17 rfl rfl (by kernel_rfl) (by kernel_rfl) (by kernel_rfl) (by kernel_rfl) (by kernel_rfl) (fun _ _ _ h => h) (by rfl) ?_ (by assumption) (by assumption) ?_
      rotate_left
      · (intro w3 hS; (try dsimp only at hS); have j0 := cell_later hS x1; go_simp; (try with_reducible rfl))
      simp only [List.setIfInBounds_toArray, List.set_cons_zero, List.set_cons_succ]
      refine reg0_tk (v := ?_) 2 18 rfl rfl (by kernel_rfl) (by kernel_rfl) (by kernel_rfl) (by kernel_rfl) (by kernel_rfl) (fun _ _ _ h => h) (by rfl) ?_ (by assumption) (by assumption) ?_
      rotate_left
      · (intro w3 hS; (try dsimp only at hS); skip; go_simp; (try with_reducible rfl))
      simp only [List.setIfInBounds_toArray, List.set_cons_zero, List.set_cons_succ]
      refine reg0_tk (v := ?_) 4 20 rfl rfl (by kernel_rfl) (by kernel_rfl) (by kernel_rfl) (by kernel_rfl) (by kernel_rfl) (fun _ _ _ h => h) (by rfl) ?_ (by assumption) (by assumption) ?_
      rotate_left
      · (intro w3 hS; (try dsimp only at hS); skip; go_simp; (try with_reducible rfl))
      simp only [List.setIfInBounds_toArray, List.set_cons_zero, List.set_cons_succ]
      refine regG_tk (v := ?_) 5 21 rfl rfl (by kernel_rfl) (by kernel_rfl) (by kernel_rfl) (by kernel_rfl) (by kernel_rfl) (fun _ _ _ h => h) (by rfl) ?_ (by assumption) (by assumption) ?_
      rotate_left
      · (intro w3 hS; (try dsimp only at hS); have j0 := cell_later hS x1; go_simp; (try with_reducible rfl))
      simp only [List.setIfInBounds_toArray, List.set_cons_zero, List.set_cons_succ]
      refine reg0_tk (v := ?_) 6 22 rfl rfl (by kernel_rfl) (by kernel_rfl) (by kernel_rfl) (by kernel_rfl) (by kernel_rfl) (fun _ _ _ h => h) (by rfl) ?_ (by assumption) (by assumption) ?_
      rotate_left
      · (intro w3 hS; (try dsimp only at hS); skip; go_simp; (try with_reducible rfl))
      simp only [List.setIfInBounds_toArray, List.set_cons_zero, List.set_cons_succ]
      refine reg0_tk (v := ?_) 7 23 rfl rfl (by kernel_rfl) (by kernel_rfl) (by kernel_rfl) (by kernel_rfl) (by kernel_rfl) (fun _ _ _ h => h) (by rfl) ?_ (by assumption) (by assumption) ?_
      rotate_left
      · (intro w3 hS; (try dsimp only at hS); skip; go_simp; (try with_reducible rfl))
      simp only [List.setIfInBounds_toArray, List.set_cons_zero, List.set_cons_succ]
      refine reg0_tk (v := ?_) 8 24 rfl rfl (by kernel_rfl) (by kernel_rfl) (by kernel_rfl) (by kernel_rfl) (by kernel_rfl) (fun _ _ _ h => h) (by rfl) ?_ (by assumption) (by assumption) ?_
      rotate_left
      · (intro w3 hS; (try dsimp only at hS); skip; go_simp; (try with_reducible rfl))
      simp only [List.setIfInBounds_toArray, List.set_cons_zero, List.set_cons_succ]
      refine regG_tk (v := ?_) 9 25 rfl rfl (by kernel_rfl) (by kernel_rfl) (by kernel_rfl) (by kernel_rfl) (by kernel_rfl) (fun _ _ _ h => h) (by rfl) ?_ (by assumption) (by assumption) ?_
      rotate_left
      · (intro w3 hS; (try dsimp only at hS); have j0 := cell_later hS a4; go_simp; (try with_reducible rfl))
      simp only [List.setIfInBounds_toArray, List.set_cons_zero, List.set_cons_succ]
      refine wpAnyG_oneS (i := 3) (by kernel_rfl) rfl (by rfl) (fun K hK => ?_)
      go_simp
      obtain ⟨wa, hwa⟩ : ∃ V : World, V = (World.alloc wr (.cells #[] 80)).drew := ⟨_, rfl⟩
      have hba : Below (wr).heap.size wr wa := by rw [hwa]; exact (Below.al (Below.refl _ _) _).drew
      have oA : wa.ownsRow (wr.heap.size) 80 2 (.slice (some ⟨(wr).heap.size, 0, none⟩) 0 0) 0 [] := by rw [hwa]; exact owns_block _ _ 80 2 0 [] _ hbase (heap_last _ _) rfl (by decide)
      rw [← hwa]
      clear hwa
      refine hK _ _ trivial hba ?_
      clear hK K
      try simp only [Act.put, List.setIfInBounds_toArray, List.set_cons_zero, List.set_cons_succ]
      refine wpAnyG_oneS (i := 10) (by kernel_rfl) rfl (by rfl) (fun K hK => ?_)
      refine wp_app_new (.tmp 19) (.tmp 25) 43 rfl (wr.heap.size) 80 _ 2 16 ETg _ rfl oA _ (y.tn) _ rfl (HTK.out _ (HBL.out.trans (hba.mono hwr))) (rcs_one _ _) (by unfold maxLen; omega) (by omega) (by have := hba.size; omega) ?_
      intro aA cA w1 oA2 hb1
      go_simp
      have hB1 := Below.next hba hb1
      refine hK _ _ trivial hB1 ?_
      clear hK K
      try simp only [Act.put, List.setIfInBounds_toArray, List.set_cons_zero, List.set_cons_succ]
      refine reg0_tk (v := ?_) 11 27 rfl rfl (by kernel_rfl) (by kernel_rfl) (by kernel_rfl) (by kernel_rfl) (by kernel_rfl) (fun _ _ _ h => h) (by rfl) ?_ (by assumption) (by assumption) ?_
      rotate_left
      · (intro w3 hS; (try dsimp only at hS); skip; go_simp; (try with_reducible rfl))
      simp only [List.setIfInBounds_toArray, List.set_cons_zero, List.set_cons_succ]
      refine reg0_tk (v := ?_) 12 28 rfl rfl (by kernel_rfl) (by kernel_rfl) (by kernel_rfl) (by kernel_rfl) (by kernel_rfl) (fun _ _ _ h => h) (by rfl) ?_ (by assumption) (by assumption) ?_
      rotate_left
      · (intro w3 hS; (try dsimp only at hS); skip; go_simp; (try with_reducible rfl))
      simp only [List.setIfInBounds_toArray, List.set_cons_zero, List.set_cons_succ]
      have v4 := cell_later hB1 a4
      have v5 := cell_later hB1 a5
      have vx := cell_later hB1 x1
      have t4 : w1.frozen? ⟨g, k * 6 + 4, none⟩ = false := fz_later hB1 hgl z1
      have t5 : w1.frozen? ⟨g, k * 6 + 5, none⟩ = false := fz_later hB1 hgl z2
      refine wpAnyG_one (i := 13) (by kernel_rfl) rfl (by rfl) (by kernel_rfl) (fun K hK => ?_)
      go_simp
      refine hK _ _ trivial ?_
      clear hK K
      try simp only [Act.put, List.setIfInBounds_toArray, List.set_cons_zero, List.set_cons_succ]
      refine wpAnyG_done (by kernel_rfl) ?_ _
      refine NoPanic.normal ?_
      obtain ⟨wt, hwt⟩ : ∃ V : World, V = w1 := ⟨_, rfl⟩
      obtain ⟨aT, haT⟩ : ∃ V, V = aA := ⟨_, rfl⟩
      obtain ⟨cT, hcT⟩ : ∃ V, V = cA := ⟨_, rfl⟩
      rw [← hwt, ← haT, ← hcT] at oA2
      rw [← hwt] at hB1 v4 v5 vx t4 t5
      rw [← hwt, ← haT, ← hcT]
      clear hwt haT hcT hb1 hba oA
      obtain ⟨wb, hwb⟩ : ∃ V : World, V = wt.setCell ⟨g, k * 6 + 4, none⟩ (.slice aT y.tn cT) := ⟨_, rfl⟩
      have hsb : wt.heap.size ≤ wb.heap.size := by rw [hwb]; simp
      have hkb : Kx (fun b => b = g) wt wb := by rw [hwb]; exact kx_cell _ _ _ _
      have hgp1 : ¬ w.heap.size = g := fun e => by
        have e1 := HBX.out
        rw [e] at e1
        exact row_ne HOLk.out.rows e1 (by decide) g rfl rfl
      have hgp2 : ¬ w.heap.size + 1 = g := fun e => by
        have e1 := HBT.out
        rw [e] at e1
        exact row_ne HOLk.out.rows e1 (by decide) g rfl rfl
      have xb : wb.cell? ⟨w.heap.size, 1, none⟩ = some (.slice (some ⟨g, 0, none⟩) N cc) := hkb.cell (p := ⟨w.heap.size, 1, none⟩) hgp1 vx
      have ab : wb.cell? ⟨g, k * 6 + 5, none⟩ = some y.kv := by rw [hwb]; go_simp
      have tb : wb.frozen? ⟨g, k * 6 + 5, none⟩ = false := by rw [hwb]; simp [go_sem, t5]
      have hBwb : Below w.heap.size w wb := (HBL.out.trans (hB1.mono hwr)).trans (hkb.below (by have := hB1.size; omega) (fun b e => by omega))
      have OT := Lib.hid oA2
      have HT1 := Lib.hid hB1
      have HWB := Lib.hid hwb
      have HKB := Lib.hid hkb
      have HBWB := Lib.hid hBwb
      have hglb : g < wb.heap.size := by have := hB1.size; omega
      rw [← hwb]
      have hbase2 : wt.heap.size ≤ wb.heap.size := hsb
      have hwz2 := hBwb.size
      clear hwb hkb hBwb oA2 hB1 v4 v5 vx t4 t5 x1 a4 a5 z1 z2 hbase
      have hbase : wt.heap.size ≤ wb.heap.size := hbase2
      go_upto_region 6 with fail
      refine wp_region_noPanic ?_
      refine wp_region_late (fun _ => True) (fun w' => Below (wb).heap.size wb w') [13] (by kernel_rfl) trivial ((Below.refl _ wb).drew) (fun hHeld0 hHeld => ?_)
      refine reg0_tk (v := ?_) 0 29 rfl rfl (by kernel_rfl) (by kernel_rfl) (by kernel_rfl) (by kernel_rfl) (by kernel_rfl) (fun _ _ _ h => h) (by rfl) ?_ (by assumption) (by assumption) ?_
      rotate_left
      · (intro w3 hS; (try dsimp only at hS); skip; go_simp; (try with_reducible rfl))
      simp only [List.setIfInBounds_toArray, List.set_cons_zero, List.set_cons_succ]
      refine regG_tk (v := ?_) 1 30 rfl rfl (by kernel_rfl) (by kernel_rfl) (by kernel_rfl) (by kernel_rfl) (by kernel_rfl) (fun _ _ _ h => h) (by rfl) ?_ (by assumption) (by assumption) ?_
      rotate_left
      · (intro w3 hS; (try dsimp only at hS); have j0 := cell_later hS xb; go_simp; (try with_reducible rfl))
      simp only [List.setIfInBounds_toArray, List.set_cons_zero, List.set_cons_succ]
      refine reg0_tk (v := ?_) 2 31 rfl rfl (by kernel_rfl) (by kernel_rfl) (by kernel_rfl) (by kernel_rfl) (by kernel_rfl) (fun _ _ _ h => h) (by rfl) ?_ (by assumption) (by assumption) ?_
      rotate_left
      · (intro w3 hS; (try dsimp only at hS); skip; go_simp; (try with_reducible rfl))
      simp only [List.setIfInBounds_toArray, List.set_cons_zero, List.set_cons_succ]
      refine reg0_tk (v := ?_) 4 33 rfl rfl (by kernel_rfl) (by kernel_rfl) (by kernel_rfl) (by kernel_rfl) (by kernel_rfl) (fun _ _ _ h => h) (by rfl) ?_ (by assumption) (by assumption) ?_
      rotate_left
      · (intro w3 hS; (try dsimp only at hS); skip; go_simp; (try with_reducible rfl))
      simp only [List.setIfInBounds_toArray, List.set_cons_zero, List.set_cons_succ]
      refine regG_tk (v := ?_) 5 34 rfl rfl (by kernel_rfl) (by kernel_rfl) (by kernel_rfl) (by kernel_rfl) (by kernel_rfl) (fun _ _ _ h => h) (by rfl) ?_ (by assumption) (by assumption) ?_
      rotate_left
      · (intro w3 hS; (try dsimp only at hS); have j0 := cell_later hS xb; go_simp; (try with_reducible rfl))
      simp only [List.setIfInBounds_toArray, List.set_cons_zero, List.set_cons_succ]
      refine reg0_tk (v := ?_) 6 35 rfl rfl (by kernel_rfl) (by kernel_rfl) (by kernel_rfl) (by kernel_rfl) (by kernel_rfl) (fun _ _ _ h => h) (by rfl) ?_ (by assumption) (by assumption) ?_
      rotate_left
      · (intro w3 hS; (try dsimp only at hS); skip; go_simp; (try with_reducible rfl))
      simp only [List.setIfInBounds_toArray, List.set_cons_zero, List.set_cons_succ]
      refine reg0_tk (v := ?_) 7 36 rfl rfl (by kernel_rfl) (by kernel_rfl) (by kernel_rfl) (by kernel_rfl) (by kernel_rfl) (fun _ _ _ h => h) (by rfl) ?_ (by assumption) (by assumption) ?_
      rotate_left
      · (intro w3 hS; (try dsimp only at hS); skip; go_simp; (try with_reducible rfl))
      simp only [List.setIfInBounds_toArray, List.set_cons_zero, List.set_cons_succ]
      refine reg0_tk (v := ?_) 8 37 rfl rfl (by kernel_rfl) (by kernel_rfl) (by kernel_rfl) (by kernel_rfl) (by kernel_rfl) (fun _ _ _ h => h) (by rfl) ?_ (by assumption) (by assumption) ?_
      rotate_left
      · (intro w3 hS; (try dsimp only at hS); skip; go_simp; (try with_reducible rfl))
      simp only [List.setIfInBounds_toArray, List.set_cons_zero, List.set_cons_succ]
      refine regG_tk (v := ?_) 9 38 rfl rfl (by kernel_rfl) (by kernel_rfl) (by kernel_rfl) (by kernel_rfl) (by kernel_rfl) (fun _ _ _ h => h) (by rfl) ?_ (by assumption) (by assumption) ?_
      rotate_left
      · (intro w3 hS; (try dsimp only at hS); have j0 := cell_later hS ab; go_simp; (try with_reducible rfl))
      simp only [List.setIfInBounds_toArray, List.set_cons_zero, List.set_cons_succ]
      refine wpAnyG_oneS (i := 3) (by kernel_rfl) rfl (by rfl) (fun K hK => ?_)
      go_simp
      obtain ⟨wa, hwa⟩ : ∃ V : World, V = (World.alloc wb (.cells #[] 80)).drew := ⟨_, rfl⟩
      have hba : Below (wb).heap.size wb wa := by rw [hwa]; exact (Below.al (Below.refl _ _) _).drew
      have oA : wa.ownsRow (wt.heap.size) 80 2 (.slice (some ⟨(wb).heap.size, 0, none⟩) 0 0) 0 [] := by rw [hwa]; exact owns_block _ _ 80 2 0 [] _ hbase (heap_last _ _) rfl (by decide)
      rw [← hwa]
      clear hwa
      refine hK _ _ trivial hba ?_
      clear hK K
      try simp only [Act.put, List.setIfInBounds_toArray, List.set_cons_zero, List.set_cons_succ]
      refine wpAnyG_oneS (i := 10) (by kernel_rfl) rfl (by rfl) (fun K hK => ?_)
      refine wp_app_new (.tmp 32) (.tmp 38) 43 rfl (wt.heap.size) 80 _ 2 16 ETg _ rfl oA _ (y.kn) _ rfl (HKP.out _ (HBWB.out.trans (hba.mono hwz2))) (rcs_one _ _) (by unfold maxLen; omega) (by omega) (by have := hba.size; omega) ?_
      intro aA cA w1 oA2 hb1
      go_simp
      have hB1 := Below.next hba hb1
      refine hK _ _ trivial hB1 ?_
      clear hK K
      try simp only [Act.put, List.setIfInBounds_toArray, List.set_cons_zero, List.set_cons_succ]
      refine reg0_tk (v := ?_) 11 40 rfl rfl (by kernel_rfl) (by kernel_rfl) (by kernel_rfl) (by kernel_rfl) (by kernel_rfl) (fun _ _ _ h => h) (by rfl) ?_ (by assumption) (by assumption) ?_
      rotate_left
      · (intro w3 hS; (try dsimp only at hS); skip; go_simp; (try with_reducible rfl))
      simp only [List.setIfInBounds_toArray, List.set_cons_zero, List.set_cons_succ]
      refine reg0_tk (v := ?_) 12 41 rfl rfl (by kernel_rfl) (by kernel_rfl) (by kernel_rfl) (by kernel_rfl) (by kernel_rfl) (fun _ _ _ h => h) (by rfl) ?_ (by assumption) (by assumption) ?_
      rotate_left
      · (intro w3 hS; (try dsimp only at hS); skip; go_simp; (try with_reducible rfl))
      simp only [List.setIfInBounds_toArray, List.set_cons_zero, List.set_cons_succ]
      have v5 := cell_later hB1 ab
      have t5 : w1.frozen? ⟨g, k * 6 + 5, none⟩ = false := fz_later hB1 hglb tb
      refine wpAnyG_one (i := 13) (by kernel_rfl) rfl (by rfl) (by kernel_rfl) (fun K hK => ?_)
      go_simp
      refine hK _ _ trivial ?_
      clear hK K
      try simp only [Act.put, List.setIfInBounds_toArray, List.set_cons_zero, List.set_cons_succ]
      refine wpAnyG_done (by kernel_rfl) ?_ _
      refine NoPanic.normal ?_
      have HR : Hid (OL w (w1.setCell ⟨g, k * 6 + 5, none⟩ (.slice aA y.kn cA)) w.heap.size g cc (.slice none 0 0) q (qk.set k { gq qk k with ta := aT, tn := y.tn, tc := cT, ka := aA, kn := y.kn, kc := cA }) { X with fr := [] } (k + 1)) := Lib.hid (by
        have e1 : (gc ({ X with fr := [] } : Wd).cs k).tk = tks := HX1.out
        have e2 : (gc ({ X with fr := [] } : Wd).cs k).kp = kps := HX2.out
        have st := HOLk.out.step2 hkX (ta := aT) (tc := cT) (ka := aA) (kc := cA) (w1 := wt) (w2 := w1) (by rw [e1, ← HTN.out]; exact OT.out) HT1.out (by rw [e2, ← HKN.out]; exact oA2) (by
          rw [e1, ← HTN.out, ← HWB.out]
          exact hB1.mono hbase)
        rw [e1, e2, ← HTN.out, ← HKN.out] at st
        exact st)
      have hk9 : Kx (fun b => b = g) wr (w1.setCell ⟨g, k * 6 + 5, none⟩ (.slice aA y.kn cA)) := (((Kx.of_below (X := fun b => b = g) HT1.out).trans HKB.out (fun _ _ e => e)).next hB1).setCell (.inl rfl) _
      have HR0 := Lib.hid (hk9.box hgp1 HBX.out)
      have HR1 := Lib.hid (hk9.box hgp2 HBT.out)
      clear hk9 oA2 hB1 v5 t5 hb1 hba oA xb ab tb
      go_wp2_with fail
      go_roundw
      case rel => exact ⟨k + 1, _, by omega, by go_num, HR.out, HR0.out, HR1.out⟩
      case measure => simp [intOf]; omega
    · obtain rfl : k = N := by omega
      have d2 : decide ((k : Int) < (k : Int)) = false := nb (by omega)
      have hfin := HOLk.out
      rw [show k = ({ X with fr := [] } : Wd).cs.length from HN.out.symm] at hfin
      have hor := hfin.fin
      have x2 : wr.cell? ⟨w.heap.size, 2, none⟩ = some (.slice fa F fc) := HBX.out.cell 2
      have x2a : (wr.alloc (.cells #[] 47)).cell? ⟨w.heap.size, 2, none⟩ = some (.slice fa F fc) := cell_al _ x2
      have hfr0 : RdS (wr.alloc (.cells #[] 47)) 4 (.slice fa F fc) F (rcs psR X.fr) := by
        have e : RdL psR (wr.alloc (.cells #[] 47)) (.slice fa F fc) X.fr := (HP.out.frs.keep HOLk.out.bel).keep (by repeat (first | assumption | exact Below.refl _ _ | apply Below.al | apply below_drewN | apply Below.drew | refine Below.next ?_ (by assumption)))
        unfold RdL at e
        rw [HF.out] at e
        exact e
      have hown0 : (wr.alloc (.cells #[] 47)).ownsRow wr.heap.size 47 4 (.slice (some ⟨wr.heap.size, 0, none⟩) 0 0) 0 [] := owns_block _ _ 47 4 0 [] _ (Nat.le_refl _) (heap_last wr _) rfl (by decide)
      have HFR0 := Lib.hid hfr0
      have HOW0 := Lib.hid hown0
      have HOR := Lib.hid hor
      clear hfin hor hfr0 hown0
      go_wp2_with (at_builtin; refine wpList_app rfl (.tmp 42) (.tmp 44) 23 rfl wr.heap.size 47 _ 4 32 EPs _ 0 [] rfl HOW0.out _ F (rcs psR X.fr) rfl HFR0.out (rcs_one psR _) ?c1 ?c2 ?c3 ?_)
      case c1 => unfold maxLen; omega
      case c2 => omega
      case c3 => simp
      intro fa3 fc3 w3 ho3 hg3 hb3
      have ho3 : w3.ownsRow wr.heap.size 47 4 (.slice fa3 F fc3) F (rcs psR X.fr) := by first | with_reducible exact ho3 | simpa using ho3
      have hbr3 : Below wr.heap.size wr w3 := (Below.al (Below.refl _ _) _).trans hb3
      have e0 := HBX.out.below hbr3
      have e1 := HBT.out.below hbr3
      have u0 : w3.cell? ⟨w.heap.size, 0, none⟩ = some (.int .i64 X.ds) := e0.cell 0
      have u1 : w3.cell? ⟨w.heap.size, 1, none⟩ = some (.slice (some ⟨g, 0, none⟩) k cc) := e0.cell 1
      have u2 : w3.cell? ⟨w.heap.size, 2, none⟩ = some (.slice fa F fc) := e0.cell 2
      have u3 := e0.frozen 2
      have t0 : w3.cell? ⟨w.heap.size + 1, 0, none⟩ = some (.int .i64 0) := e1.cell 0
      have t1 : w3.cell? ⟨w.heap.size + 1, 1, none⟩ = some (.slice none 0 0) := e1.cell 1
      have t2 : w3.cell? ⟨w.heap.size + 1, 2, none⟩ = some (.slice none 0 0) := e1.cell 2
      have y0 := e1.frozen 0
      have y1 := e1.frozen 1
      have y2 := e1.frozen 2
      have hor3 : OR w3 w.heap.size g cc (.slice fa3 F fc3) qk X := by
        have hfo : OwP w3 w.heap.size (.slice fa3 F fc3) X.fr := by
          have e := own_mono ho3 (B' := w.heap.size) hwr
          unfold OwP
          rw [HF.out]
          exact e
        exact (HOR.out.below hbr3).frames (fv' := .slice fa3 F fc3) (F := X.fr) (Kx.refl _ _) hfo
      have n1 := hor3.nbox e0 (by decide) (by decide) (by decide)
      have n2 := hor3.nbox e1 (by decide) (by decide) (by decide)
      have HOR3 := Lib.hid hor3
      have HB3 := Lib.hid (HOLk.out.bel.trans (hbr3.mono hwr))
      have hkf : ∀ u0 u1 u2 u3, Kx (fun b => b = w.heap.size ∨ b = w.heap.size + 1) w3 ((((w3.setCell ⟨w.heap.size, 2, none⟩ u0).setCell ⟨w.heap.size + 1, 0, none⟩ u1).setCell ⟨w.heap.size + 1, 1, none⟩ u2).setCell ⟨w.heap.size + 1, 2, none⟩ u3) := fun u0 u1 u2 u3 => (((((Kx.refl _ _).setCell (.inl (.inl rfl)) _).setCell (.inl (.inr rfl)) _).setCell (.inl (.inr rfl)) _).setCell (.inl (.inr rfl)) _)
      have HKF := Lib.hid hkf
      clear hkf ho3 hg3 hb3 hbr3 e0 e1 hor3 x2a HFR0 HOW0
      go_wp2_with fail
      refine bodyPost_ret (v := .agg #[.int .i64 X.ds, .slice (some ⟨g, 0, none⟩) k cc, .slice fa3 F fc3]) (by simp [results, Try.results41, go_sem, t0, t1, t2, u0, u1, u2]) rfl ⟨g, cc, .slice fa3 F fc3, qk, by rw [HN.out], ?_, ?_⟩
      · exact HOR3.out.kx (HKF.out _ _ _ _) (fun b hb e => by rcases e with e | e; exact n1 (by rw [← e]; exact hb); exact n2 (by rw [← e]; exact hb))
      · exact HB3.out.trans ((HKF.out _ _ _ _).below HB3.out.size (fun b e => by omega))
end Go.Proofs.Ytnkpjfogjkjcfaa
