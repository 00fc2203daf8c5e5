





/- Space: the reference's steps (Move, Add, Drop). -/
import Derived.Test.YtcbolpjacoiclaaV
import Derived.BigRegion
namespace Go.Proofs.Ytcbolpjacoiclaa
open Go.RowKit
set_option linter.unusedSimpArgs false
set_option linter.unusedVariables false

/-- what a move makes, from what the release makes -/
theorem St.move {q st : Int} {xs : List Int} {node n q' st' : Int} {ys : List Int} {er : Int} (h : St q st xs node n 2 q' st' ys er) :
    (er ≠ 0 ∧ q' = 0 ∧ st' = 0 ∧ ys = [] ∧ St q st xs node n 1 0 0 [] er) ∨ (er = 0 ∧ q = q' ∧ st + n = st' ∧ St q st xs node n 1 q st ys 0 ∧ chk q st xs = 0 ∧ ∃ k, k < 16 ∧ n ≤ xs.getD k 0) := by
  cases h with
  | bad _ _ _ hc hne => exact .inl ⟨hne, rfl, rfl, rfl, .bad _ _ (by decide) hc hne⟩
  | node _ hc _ hn => exact .inl ⟨by decide, rfl, rfl, rfl, .node _ hc (by decide) hn⟩
  | credit _ hk2 hc k hk he hf => exact .inl ⟨by decide, rfl, rfl, rfl, .credit _ (by decide) hc k hk he hf⟩
  | mfine hc k hk he hf => exact .inr ⟨rfl, rfl, rfl, .lfine hc k hk he hf, hc, k, hk, hf⟩
set_option maxHeartbeats 300000 in
theorem rmove_any (q st : Int) (rs : Value) (xs : List Int) (i : Inp q st xs) (node n : Int) (hn0 : 0 ≤ n) (q' st' : Int) (ys : List Int) (er : Int) (h : St q st xs node n 2 q' st' ys er) (w : World) (hr : RdI .u64 w rs xs) :
    Calls Try.prog 40 #[Sv q st rs, .int .i64 node, .int .u64 n] w (SpRes w q' st' ys er) := by
  have HR := Lib.hid hr
  clear hr
  obtain ⟨hne, rfl, rfl, rfl, hs⟩ | ⟨rfl, rfl, rfl, hs, hc0, k, hk, hnk⟩ := h.move
  · have HS := Lib.hid hs
    have hne3 : (er != 0) = true := by simpa using hne
    clear h hs
    go_enter Try.func40, Try.ntmps40
    go_wp2_with fail
    refine (rrelease_any q st rs xs i node n hn0 0 0 [] er HS.out _ (HR.out.keep (by repeat (first | assumption | exact Below.refl _ _ | apply Below.al | apply below_drewN | apply Below.drew | refine Below.next ?_ (by assumption) | refine Below.st ?_ (by first | exact Nat.le_refl _ | (simp; done) | (simp; omega)) _)))).mono ?_
    rintro e w1 ⟨v, rfl, hrd, hF, hb⟩
    have hC : RC w1 (w.heap.size + 1) := RC.keep hb (by simp [RC, go_sem])
    have hA : BS w1 w.heap.size q st rs := BS.keep hb (by simp [BS, go_sem])
    have hFA : FZ w1 w.heap.size := ⟨fz_later hb (by simp; omega) (by simp [go_sem]), fz_later hb (by simp; omega) (by simp [go_sem]), fz_later hb (by simp; omega) (by simp [go_sem])⟩
    have lC : w.heap.size + 1 < w1.heap.size := cell_lt hC.1
    have hB : Below w.heap.size w w1 := (by repeat (first | assumption | exact Below.refl _ _ | apply Below.al | apply below_drewN | apply Below.drew | refine Below.next ?_ (by assumption) | refine Below.st ?_ (by first | exact Nat.le_refl _ | (simp; done) | (simp; omega)) _))
    obtain ⟨a, c, hv⟩ := hrd.form; subst hv
    have hne2 : w.heap.size + 1 ≠ w.heap.size := by omega
    have hne1 : w.heap.size ≠ w.heap.size + 1 := by omega
    clear hrd
    go_wp2_with fail
    refine bodyPost_ret (v := .tuple #[Sv 0 0 (.slice none 0 0), .int .i64 er]) (by simp [results, Try.results40, go_sem, hC]) rfl (sv_nil _ _ _ (by repeat (first | with_reducible assumption | with_reducible exact Below.refl _ _ | with_reducible apply Below.al | with_reducible apply Below.drew | with_reducible refine Below.next ?_ (by assumption) | with_reducible refine Below.st ?_ (by first | exact Nat.le_refl _ | (simp; done) | (simp; omega)) _)))
  · have HS := Lib.hid hs
    have g : Good q st xs := .of i hc0
    have hgle := g.gle; have hgq := g.gq; have hgst := g.gst
    have hxs := get_le_sum g.gxs k (by rw [g.gn]; exact hk)
    clear h hs g
    go_enter Try.func40, Try.ntmps40
    go_wp2_with fail
    refine (rrelease_any q st rs xs i node n hn0 q st ys 0 HS.out _ (HR.out.keep (by repeat (first | assumption | exact Below.refl _ _ | apply Below.al | apply below_drewN | apply Below.drew | refine Below.next ?_ (by assumption) | refine Below.st ?_ (by first | exact Nat.le_refl _ | (simp; done) | (simp; omega)) _)))).mono ?_
    rintro e w1 ⟨v, rfl, hrd, hF, hb⟩
    have hC : RC w1 (w.heap.size + 1) := RC.keep hb (by simp [RC, go_sem])
    have hA : BS w1 w.heap.size q st rs := BS.keep hb (by simp [BS, go_sem])
    have hFA : FZ w1 w.heap.size := ⟨fz_later hb (by simp; omega) (by simp [go_sem]), fz_later hb (by simp; omega) (by simp [go_sem]), fz_later hb (by simp; omega) (by simp [go_sem])⟩
    have lC : w.heap.size + 1 < w1.heap.size := cell_lt hC.1
    have hB : Below w.heap.size w w1 := (by repeat (first | assumption | exact Below.refl _ _ | apply Below.al | apply below_drewN | apply Below.drew | refine Below.next ?_ (by assumption) | refine Below.st ?_ (by first | exact Nat.le_refl _ | (simp; done) | (simp; omega)) _))
    have HRD := Lib.hid hrd
    obtain ⟨a, c, hv⟩ := hrd.form; subst hv
    have hs3 : w.heap.size + 1 < ((w.alloc (.cells #[.int .u64 q, .int .u64 st, rs] 25)).alloc (.cells #[.int .u64 0, .int .u64 0, .slice none 0 0] 25)).heap.size := by simp
    have hs4 : w.heap.size < ((w.alloc (.cells #[.int .u64 q, .int .u64 st, rs] 25)).alloc (.cells #[.int .u64 0, .int .u64 0, .slice none 0 0] 25)).heap.size := by simp; omega
    have hne2 : w.heap.size + 1 ≠ w.heap.size := by omega
    have hne1 : w.heap.size ≠ w.heap.size + 1 := by omega
    clear hrd
    obtain ⟨W4, hW4⟩ : ∃ W4 : World, W4 = ((w1.setCell ⟨w.heap.size, 0, none⟩ (.int .u64 q)).setCell ⟨w.heap.size, 1, none⟩ (.int .u64 st)).setCell ⟨w.heap.size, 2, none⟩ (.slice a ys.length c) := ⟨_, rfl⟩
    have hA4 : BS W4 w.heap.size q st (.slice a ys.length c) := by
      rw [hW4]; simp [BS, go_sem, hA, hFA]
    have hC4 : RC W4 (w.heap.size + 1) := by
      rw [hW4]; exact RC.set _ hne2 (RC.set _ hne2 (RC.set _ hne2 hC))
    have hF4 : FZ W4 w.heap.size := by
      rw [hW4]; exact ⟨fz_set _ (fz_set _ (fz_set _ hFA.1)), fz_set _ (fz_set _ (fz_set _ hFA.2.1)), fz_set _ (fz_set _ (fz_set _ hFA.2.2))⟩
    have HR4 : Hid (RdI .u64 W4 (.slice a ys.length c) ys) := by
      unfold Hid; rw [hW4]; exact RdI.set _ (RdI.set _ (RdI.set _ HRD.out hF hs4) hF hs4) hF hs4
    have hB4 : Below w.heap.size w W4 := by
      have hBw : Below w.heap.size w w1 := (by repeat (first | assumption | exact Below.refl _ _ | apply Below.al | apply below_drewN | apply Below.drew | refine Below.next ?_ (by assumption) | refine Below.st ?_ (by first | exact Nat.le_refl _ | (simp; done) | (simp; omega)) _))
      rw [hW4]; exact (by repeat (first | with_reducible assumption | with_reducible exact Below.refl _ _ | with_reducible apply Below.al | with_reducible apply Below.drew | with_reducible refine Below.next ?_ (by assumption) | with_reducible refine Below.st ?_ (by first | exact Nat.le_refl _ | (simp; done) | (simp; omega)) _))
    go_upto_region 2 with fail
    rw [← hW4]
    clear hW4 hA hC hFA
    go_wp2_with fail
    refine bodyPost_ret (v := .tuple #[Sv q (st + n) (.slice a ys.length c), .int .i64 0]) (by simp [results, Try.results40, go_sem, hC4]) rfl ?_
    exact ⟨_, rfl, RdI.set _ (RdI.set _ (RdI.set _ (RdI.set _ HR4.out hF hs4) hF hs3) hF hs3) hF hs3, hF.mono (by simp; omega), (by repeat (first | with_reducible assumption | with_reducible exact Below.refl _ _ | with_reducible apply Below.al | with_reducible apply Below.drew | with_reducible refine Below.next ?_ (by assumption) | with_reducible refine Below.st ?_ (by first | exact Nat.le_refl _ | (simp; done) | (simp; omega)) _))⟩

set_option maxHeartbeats 300000 in
theorem radd_any (q st : Int) (rs : Value) (xs : List Int) (i : Inp q st xs) (node n : Int) (hn0 : 0 ≤ n) (q' st' : Int) (ys : List Int) (er : Int) (h : St q st xs node n 3 q' st' ys er) (w : World) (hr : RdI .u64 w rs xs) :
    Calls Try.prog 41 #[Sv q st rs, .int .u64 n] w (SpRes w q' st' ys er) := by
  have HR := Lib.hid hr
  clear hr
  cases h with
  | node _ hc hk hn => omega
  | credit _ hk2 => omega
  | bad _ _ _ hc hne =>
    have HE := Lib.hid hc
    have hne3 : (er != 0) = true := by simpa using hne
    clear hc
    go_enter Try.func41, Try.ntmps41
    go_wp2_with fail
    refine (rfree_bad q st rs xs i er HE.out hne _ (HR.out.keep (by repeat (first | assumption | exact Below.refl _ _ | apply Below.al | apply below_drewN | apply Below.drew | refine Below.next ?_ (by assumption) | refine Below.st ?_ (by first | exact Nat.le_refl _ | (simp; done) | (simp; omega)) _)))).mono ?_
    rintro e w1 ⟨rfl, hb⟩
    have hC : RC w1 (w.heap.size + 1) := RC.keep hb (by simp [RC, go_sem])
    have lC : w.heap.size + 1 < w1.heap.size := cell_lt hC.1
    go_wp2_with fail
    refine bodyPost_ret (v := .tuple #[Sv 0 0 (.slice none 0 0), .int .i64 er]) ?_ rfl (sv_nil _ _ _ (by repeat (first | assumption | exact Below.refl _ _ | apply Below.al | apply below_drewN | apply Below.drew | refine Below.next ?_ (by assumption) | refine Below.st ?_ (by first | exact Nat.le_refl _ | (simp; done) | (simp; omega)) _)))
    simp [results, Try.results41, go_sem, hC]
  | afull hc hf =>
    have HG := Lib.hid (Good.of i hc)
    obtain ⟨F, hF⟩ : ∃ F, q - st - xs.sum = F := ⟨_, rfl⟩
    rw [hF] at hf
    have HFE := Lib.hid hF
    have d1 := yb hf
    clear hc hF
    go_enter Try.func41, Try.ntmps41
    go_wp2_with fail
    refine (rfree_ok q st rs xs HG.out _ (HR.out.keep (by repeat (first | assumption | exact Below.refl _ _ | apply Below.al | apply below_drewN | apply Below.drew | refine Below.next ?_ (by assumption) | refine Below.st ?_ (by first | exact Nat.le_refl _ | (simp; done) | (simp; omega)) _)))).mono ?_
    rw [HFE.out]
    rintro e w1 ⟨rfl, hb⟩
    have hC : RC w1 (w.heap.size + 1) := RC.keep hb (by simp [RC, go_sem])
    have lC : w.heap.size + 1 < w1.heap.size := cell_lt hC.1
    go_wp2_with fail
    refine bodyPost_ret (v := .tuple #[Sv 0 0 (.slice none 0 0), .int .i64 5]) ?_ rfl (sv_nil _ _ _ (by repeat (first | assumption | exact Below.refl _ _ | apply Below.al | apply below_drewN | apply Below.drew | refine Below.next ?_ (by assumption) | refine Below.st ?_ (by first | exact Nat.le_refl _ | (simp; done) | (simp; omega)) _)))
    simp [results, Try.results41, go_sem, hC]
  | afine hc hf =>
    have HG := Lib.hid (Good.of i hc)
    obtain ⟨F, hF⟩ : ∃ F, q - st - xs.sum = F := ⟨_, rfl⟩
    rw [hF] at hf
    have HFE := Lib.hid hF
    have hsum := HG.out.sum; have hgle := HG.out.gle; have hgq := HG.out.gq; have hgst := HG.out.gst
    have d1 := nb (show ¬ F < n by omega)
    clear hc
    go_enter Try.func41, Try.ntmps41
    go_wp2_with fail
    refine (rfree_ok q st rs xs HG.out _ (HR.out.keep (by repeat (first | assumption | exact Below.refl _ _ | apply Below.al | apply below_drewN | apply Below.drew | refine Below.next ?_ (by assumption) | refine Below.st ?_ (by first | exact Nat.le_refl _ | (simp; done) | (simp; omega)) _)))).mono ?_
    rw [HFE.out]
    rintro e w1 ⟨rfl, hb⟩
    have hC0 : RC w1 (w.heap.size + 1) := RC.keep hb (by simp [RC, go_sem])
    have hA : BS w1 w.heap.size q st rs := BS.keep hb (by simp [BS, go_sem])
    have hFA0 : FZ w1 w.heap.size := ⟨fz_later hb (by simp; omega) (by simp [go_sem]), fz_later hb (by simp; omega) (by simp [go_sem]), fz_later hb (by simp; omega) (by simp [go_sem])⟩
    have lC : w.heap.size + 1 < w1.heap.size := cell_lt hC0.1
    have hB : Below w.heap.size w w1 := (by repeat (first | assumption | exact Below.refl _ _ | apply Below.al | apply below_drewN | apply Below.drew | refine Below.next ?_ (by assumption) | refine Below.st ?_ (by first | exact Nat.le_refl _ | (simp; done) | (simp; omega)) _))
    go_wp2_with fail
    refine (rown_any q st rs xs HG.out.gn _ (HR.out.keep hB)).mono ?_
    rintro e w3 ⟨b, c, rfl, hown, hb3⟩
    have hC : RC w3 (w.heap.size + 1) := RC.keep hb3 hC0
    have hA : BS w3 w.heap.size q st rs := BS.keep hb3 hA
    have hFA : FZ w3 w.heap.size := ⟨fz_later hb3 (by show w.heap.size < _; omega) hFA0.1, fz_later hb3 (by show w.heap.size < _; omega) hFA0.2.1, fz_later hb3 (by show w.heap.size < _; omega) hFA0.2.2⟩
    have hs3 : w.heap.size + 1 < w1.heap.size := lC
    have hs4 : w.heap.size < w1.heap.size := by omega
    have hne2 : w.heap.size + 1 ≠ w.heap.size := by omega
    have hne1 : w.heap.size ≠ w.heap.size + 1 := by omega
    have hlen := HG.out.gn
    have hrd : RdI .u64 w3 (.slice (some ⟨b, 0, none⟩) 16 c) xs := by unfold RdI; rw [hlen]; exact RdS.of_owns hown (by decide)
    have hF := Fresh.of_owns hown
    have HRD := Lib.hid hrd
    have lC3 : w.heap.size + 1 < w3.heap.size := cell_lt hC.1
    clear hrd hown hFA0 hC0
    obtain ⟨W4, hW4⟩ : ∃ W4 : World, W4 = ((w3.setCell ⟨w.heap.size, 0, none⟩ (.int .u64 q)).setCell ⟨w.heap.size, 1, none⟩ (.int .u64 st)).setCell ⟨w.heap.size, 2, none⟩ (.slice (some ⟨b, 0, none⟩) 16 c) := ⟨_, rfl⟩
    have hA4 : BS W4 w.heap.size q st (.slice (some ⟨b, 0, none⟩) 16 c) := by
      rw [hW4]; simp [BS, go_sem, hA, hFA]
    have hC4 : RC W4 (w.heap.size + 1) := by
      rw [hW4]; exact RC.set _ hne2 (RC.set _ hne2 (RC.set _ hne2 hC))
    have hF4 : FZ W4 w.heap.size := by
      rw [hW4]; exact ⟨fz_set _ (fz_set _ (fz_set _ hFA.1)), fz_set _ (fz_set _ (fz_set _ hFA.2.1)), fz_set _ (fz_set _ (fz_set _ hFA.2.2))⟩
    have HR4 : Hid (RdI .u64 W4 (.slice (some ⟨b, 0, none⟩) 16 c) xs) := by
      unfold Hid; rw [hW4]; exact RdI.set _ (RdI.set _ (RdI.set _ HRD.out hF hs4) hF hs4) hF hs4
    have hB4 : Below w.heap.size w W4 := by
      have hBw : Below w.heap.size w w3 := (by repeat (first | assumption | exact Below.refl _ _ | apply Below.al | apply below_drewN | apply Below.drew | refine Below.next ?_ (by assumption) | refine Below.st ?_ (by first | exact Nat.le_refl _ | (simp; done) | (simp; omega)) _))
      rw [hW4]; exact (by repeat (first | with_reducible assumption | with_reducible exact Below.refl _ _ | with_reducible apply Below.al | with_reducible apply Below.drew | with_reducible refine Below.next ?_ (by assumption) | with_reducible refine Below.st ?_ (by first | exact Nat.le_refl _ | (simp; done) | (simp; omega)) _))
    go_upto_region 7 with fail
    rw [← hW4]
    clear hW4 hA hC hFA
    go_wp2_with fail
    refine bodyPost_ret (v := .tuple #[Sv q (st + n) (.slice (some ⟨b, 0, none⟩) 16 c), .int .i64 0]) (by simp [results, Try.results41, go_sem, hC4]) rfl ?_
    exact ⟨_, rfl, RdI.set _ (RdI.set _ (RdI.set _ (RdI.set _ HR4.out hF hs4) hF hs3) hF hs3) hF hs3, hF.mono (by omega), (by repeat (first | with_reducible assumption | with_reducible exact Below.refl _ _ | with_reducible apply Below.al | with_reducible apply Below.drew | with_reducible refine Below.next ?_ (by assumption) | with_reducible refine Below.st ?_ (by first | exact Nat.le_refl _ | (simp; done) | (simp; omega)) _))⟩


set_option maxHeartbeats 300000 in
theorem rdrop_any (q st : Int) (rs : Value) (xs : List Int) (i : Inp q st xs) (node n : Int) (hn0 : 0 ≤ n) (q' st' : Int) (ys : List Int) (er : Int) (h : St q st xs node n 4 q' st' ys er) (w : World) (hr : RdI .u64 w rs xs) :
    Calls Try.prog 42 #[Sv q st rs, .int .u64 n] w (SpRes w q' st' ys er) := by
  have HR := Lib.hid hr
  clear hr
  cases h with
  | node _ hc hk hn => omega
  | credit _ hk2 => omega
  | bad _ _ _ hc hne =>
    have HE := Lib.hid hc
    have hne3 : (er != 0) = true := by simpa using hne
    clear hc
    go_enter Try.func42, Try.ntmps42
    go_wp2_with fail
    refine (rcheck_aux q st rs xs i er HE.out _ (HR.out.keep (by repeat (first | assumption | exact Below.refl _ _ | apply Below.al | apply below_drewN | apply Below.drew | refine Below.next ?_ (by assumption) | refine Below.st ?_ (by first | exact Nat.le_refl _ | (simp; done) | (simp; omega)) _)))).mono ?_
    rintro e w1 ⟨rfl, hb⟩
    have hC : RC w1 (w.heap.size + 1) := RC.keep hb (by simp [RC, go_sem])
    have lC : w.heap.size + 1 < w1.heap.size := cell_lt hC.1
    go_wp2_with fail
    refine bodyPost_ret (v := .tuple #[Sv 0 0 (.slice none 0 0), .int .i64 er]) ?_ rfl (sv_nil _ _ _ (by repeat (first | assumption | exact Below.refl _ _ | apply Below.al | apply below_drewN | apply Below.drew | refine Below.next ?_ (by assumption) | refine Below.st ?_ (by first | exact Nat.le_refl _ | (simp; done) | (simp; omega)) _)))
    simp [results, Try.results42, go_sem, hC]
  | dstate hc hf =>
    have HE := Lib.hid hc
    have d1 := yb hf
    clear hc
    go_enter Try.func42, Try.ntmps42
    go_wp2_with fail
    refine (rcheck_aux q st rs xs i 0 HE.out _ (HR.out.keep (by repeat (first | assumption | exact Below.refl _ _ | apply Below.al | apply below_drewN | apply Below.drew | refine Below.next ?_ (by assumption) | refine Below.st ?_ (by first | exact Nat.le_refl _ | (simp; done) | (simp; omega)) _)))).mono ?_
    rintro e w1 ⟨rfl, hb⟩
    have hC : RC w1 (w.heap.size + 1) := RC.keep hb (by simp [RC, go_sem])
    have hA : BS w1 w.heap.size q st rs := BS.keep hb (by simp [BS, go_sem])
    have lC : w.heap.size + 1 < w1.heap.size := cell_lt hC.1
    go_wp2_with fail
    refine bodyPost_ret (v := .tuple #[Sv 0 0 (.slice none 0 0), .int .i64 12]) ?_ rfl (sv_nil _ _ _ (by repeat (first | assumption | exact Below.refl _ _ | apply Below.al | apply below_drewN | apply Below.drew | refine Below.next ?_ (by assumption) | refine Below.st ?_ (by first | exact Nat.le_refl _ | (simp; done) | (simp; omega)) _)))
    simp [results, Try.results42, go_sem, hC]
  | dfine hc hf =>
    have HE := Lib.hid hc
    have HG := Lib.hid (Good.of i hc)
    have hsum := HG.out.sum; have hgle := HG.out.gle; have hgq := HG.out.gq; have hgst := HG.out.gst
    have d1 := nb (show ¬ st < n by omega)
    clear hc
    go_enter Try.func42, Try.ntmps42
    go_wp2_with fail
    refine (rcheck_aux q st rs xs i 0 HE.out _ (HR.out.keep (by repeat (first | assumption | exact Below.refl _ _ | apply Below.al | apply below_drewN | apply Below.drew | refine Below.next ?_ (by assumption) | refine Below.st ?_ (by first | exact Nat.le_refl _ | (simp; done) | (simp; omega)) _)))).mono ?_
    rintro e w1 ⟨rfl, hb⟩
    have hC0 : RC w1 (w.heap.size + 1) := RC.keep hb (by simp [RC, go_sem])
    have hA : BS w1 w.heap.size q st rs := BS.keep hb (by simp [BS, go_sem])
    have hFA0 : FZ w1 w.heap.size := ⟨fz_later hb (by simp; omega) (by simp [go_sem]), fz_later hb (by simp; omega) (by simp [go_sem]), fz_later hb (by simp; omega) (by simp [go_sem])⟩
    have lC : w.heap.size + 1 < w1.heap.size := cell_lt hC0.1
    have hB : Below w.heap.size w w1 := (by repeat (first | assumption | exact Below.refl _ _ | apply Below.al | apply below_drewN | apply Below.drew | refine Below.next ?_ (by assumption) | refine Below.st ?_ (by first | exact Nat.le_refl _ | (simp; done) | (simp; omega)) _))
    go_wp2_with fail
    refine (rown_any q st rs xs HG.out.gn _ (HR.out.keep hB)).mono ?_
    rintro e w3 ⟨b, c, rfl, hown, hb3⟩
    have hC : RC w3 (w.heap.size + 1) := RC.keep hb3 hC0
    have hA : BS w3 w.heap.size q st rs := BS.keep hb3 hA
    have hFA : FZ w3 w.heap.size := ⟨fz_later hb3 (by show w.heap.size < _; omega) hFA0.1, fz_later hb3 (by show w.heap.size < _; omega) hFA0.2.1, fz_later hb3 (by show w.heap.size < _; omega) hFA0.2.2⟩
    have hs3 : w.heap.size + 1 < w1.heap.size := lC
    have hs4 : w.heap.size < w1.heap.size := by omega
    have hne2 : w.heap.size + 1 ≠ w.heap.size := by omega
    have hne1 : w.heap.size ≠ w.heap.size + 1 := by omega
    have hlen := HG.out.gn
    have hrd : RdI .u64 w3 (.slice (some ⟨b, 0, none⟩) 16 c) xs := by unfold RdI; rw [hlen]; exact RdS.of_owns hown (by decide)
    have hF := Fresh.of_owns hown
    have HRD := Lib.hid hrd
    have lC3 : w.heap.size + 1 < w3.heap.size := cell_lt hC.1
    clear hrd hown hFA0 hC0
    obtain ⟨W4, hW4⟩ : ∃ W4 : World, W4 = ((w3.setCell ⟨w.heap.size, 0, none⟩ (.int .u64 q)).setCell ⟨w.heap.size, 1, none⟩ (.int .u64 st)).setCell ⟨w.heap.size, 2, none⟩ (.slice (some ⟨b, 0, none⟩) 16 c) := ⟨_, rfl⟩
    have hA4 : BS W4 w.heap.size q st (.slice (some ⟨b, 0, none⟩) 16 c) := by
      rw [hW4]; simp [BS, go_sem, hA, hFA]
    have hC4 : RC W4 (w.heap.size + 1) := by
      rw [hW4]; exact RC.set _ hne2 (RC.set _ hne2 (RC.set _ hne2 hC))
    have hF4 : FZ W4 w.heap.size := by
      rw [hW4]; exact ⟨fz_set _ (fz_set _ (fz_set _ hFA.1)), fz_set _ (fz_set _ (fz_set _ hFA.2.1)), fz_set _ (fz_set _ (fz_set _ hFA.2.2))⟩
    have HR4 : Hid (RdI .u64 W4 (.slice (some ⟨b, 0, none⟩) 16 c) xs) := by
      unfold Hid; rw [hW4]; exact RdI.set _ (RdI.set _ (RdI.set _ HRD.out hF hs4) hF hs4) hF hs4
    have hB4 : Below w.heap.size w W4 := by
      have hBw : Below w.heap.size w w3 := (by repeat (first | assumption | exact Below.refl _ _ | apply Below.al | apply below_drewN | apply Below.drew | refine Below.next ?_ (by assumption) | refine Below.st ?_ (by first | exact Nat.le_refl _ | (simp; done) | (simp; omega)) _))
      rw [hW4]; exact (by repeat (first | with_reducible assumption | with_reducible exact Below.refl _ _ | with_reducible apply Below.al | with_reducible apply Below.drew | with_reducible refine Below.next ?_ (by assumption) | with_reducible refine Below.st ?_ (by first | exact Nat.le_refl _ | (simp; done) | (simp; omega)) _))
    go_upto_region 7 with fail
    rw [← hW4]
    clear hW4 hA hC hFA
    go_wp2_with fail
    refine bodyPost_ret (v := .tuple #[Sv q (st - n) (.slice (some ⟨b, 0, none⟩) 16 c), .int .i64 0]) (by simp [results, Try.results42, go_sem, hC4]) rfl ?_
    exact ⟨_, rfl, RdI.set _ (RdI.set _ (RdI.set _ (RdI.set _ HR4.out hF hs4) hF hs3) hF hs3) hF hs3, hF.mono (by omega), (by repeat (first | with_reducible assumption | with_reducible exact Below.refl _ _ | with_reducible apply Below.al | with_reducible apply Below.drew | with_reducible refine Below.next ?_ (by assumption) | with_reducible refine Below.st ?_ (by first | exact Nat.le_refl _ | (simp; done) | (simp; omega)) _))⟩
end Go.Proofs.Ytcbolpjacoiclaa
