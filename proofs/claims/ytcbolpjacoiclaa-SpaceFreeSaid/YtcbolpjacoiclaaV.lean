





/- Space: the reference's steps (Release). -/
import Derived.Test.YtcbolpjacoiclaaY
import Derived.BigRegion
namespace Go.Proofs.Ytcbolpjacoiclaa
open Go.RowKit
set_option linter.unusedSimpArgs false
set_option linter.unusedVariables false

theorem rrelease_bad (q st : Int) (rs : Value) (xs : List Int) (i : Inp q st xs) (er : Int) (he : chk q st xs = er) (hne : er ≠ 0) (node n : Int) (w : World) (h : RdI .u64 w rs xs) :
    Calls Try.prog 39 #[Sv q st rs, .int .i64 node, .int .u64 n] w (SpRes w 0 0 [] er) := by
  have HE := Lib.hid he; have HR := Lib.hid h
  clear he h
  have hne3 : (er != 0) = true := by simpa using hne
  have hne4 : er ≠ 0 := hne
  go_enter Try.func39, Try.ntmps39
  go_wp2_with fail
  refine (rasks_bad q st rs xs i er HE.out hne node _ (HR.out.keep (by repeat (first | assumption | exact Below.refl _ _ | apply Below.al | apply below_drewN | apply Below.drew | refine Below.next ?_ (by assumption) | refine Below.st ?_ (by first | exact Nat.le_refl _ | (simp; done) | (simp; omega)) _)))).mono ?_
  rintro e w1 ⟨rfl, hb⟩
  have hC : RC w1 (w.heap.size + 1) := RC.keep hb (by simp [RC, go_sem])
  have lC : w.heap.size + 1 < w1.heap.size := cell_lt hC.1
  go_wp2_with fail
  refine bodyPost_ret (v := .tuple #[Sv 0 0 (.slice none 0 0), .int .i64 er]) ?_ rfl (sv_nil _ _ _ (by repeat (first | assumption | exact Below.refl _ _ | apply Below.al | apply below_drewN | apply Below.drew | refine Below.next ?_ (by assumption) | refine Below.st ?_ (by first | exact Nat.le_refl _ | (simp; done) | (simp; omega)) _)))
  simp [results, Try.results39, go_sem, hC]
theorem rrelease_node (q st : Int) (rs : Value) (xs : List Int) (g : Good q st xs) (node n : Int) (hk : node < 1 ∨ 16 < node) (w : World) (h : RdI .u64 w rs xs) :
    Calls Try.prog 39 #[Sv q st rs, .int .i64 node, .int .u64 n] w (SpRes w 0 0 [] 2) := by
  have HR := Lib.hid h
  clear h
  go_enter Try.func39, Try.ntmps39
  go_wp2_with fail
  refine (rasks_node q st rs xs g node hk _ (HR.out.keep (by repeat (first | assumption | exact Below.refl _ _ | apply Below.al | apply below_drewN | apply Below.drew | refine Below.next ?_ (by assumption) | refine Below.st ?_ (by first | exact Nat.le_refl _ | (simp; done) | (simp; omega)) _)))).mono ?_
  rintro e w1 ⟨rfl, hb⟩
  have hC : RC w1 (w.heap.size + 1) := RC.keep hb (by simp [RC, go_sem])
  have lC : w.heap.size + 1 < w1.heap.size := cell_lt hC.1
  go_wp2_with fail
  refine bodyPost_ret (v := .tuple #[Sv 0 0 (.slice none 0 0), .int .i64 2]) ?_ rfl (sv_nil _ _ _ (by repeat (first | assumption | exact Below.refl _ _ | apply Below.al | apply below_drewN | apply Below.drew | refine Below.next ?_ (by assumption) | refine Below.st ?_ (by first | exact Nat.le_refl _ | (simp; done) | (simp; omega)) _)))
  simp [results, Try.results39, go_sem, hC]
set_option maxHeartbeats 1000000 in
theorem rrelease_credit (q st : Int) (rs : Value) (xs : List Int) (g : Good q st xs) (k : Nat) (hk : k < 16) (n : Int) (hf : xs.getD k 0 < n) (w : World) (h : RdI .u64 w rs xs) :
    Calls Try.prog 39 #[Sv q st rs, .int .i64 ((k : Int) + 1), .int .u64 n] w (SpRes w 0 0 [] 14) := by
  have HR := Lib.hid h; have HG := Lib.hid g
  obtain ⟨b0, off, cap0, rfl, hr⟩ := rd_cells h g.gn
  obtain ⟨x, hx⟩ : ∃ x, xs.getD k 0 = x := ⟨_, rfl⟩
  have hck := hr k hk
  rw [hx] at hf hck
  have HCK := Lib.hid hck
  have d1 := yb hf
  have i1 : (0 : Int) ≤ (k : Int) := by omega
  have i2 : (k : Int) < 16 := by omega
  clear h g hr hck
  go_enter Try.func39, Try.ntmps39
  go_wp2_with fail
  refine (rasks_ok q st (.slice (some ⟨b0, off, none⟩) 16 cap0) xs HG.out k hk _ (HR.out.keep (by repeat (first | assumption | exact Below.refl _ _ | apply Below.al | apply below_drewN | apply Below.drew | refine Below.next ?_ (by assumption) | refine Below.st ?_ (by first | exact Nat.le_refl _ | (simp; done) | (simp; omega)) _)))).mono ?_
  rintro e w1 ⟨rfl, hb⟩
  have hC : RC w1 (w.heap.size + 1) := RC.keep hb (by simp [RC, go_sem])
  have hA : BS w1 w.heap.size q st (.slice (some ⟨b0, off, none⟩) 16 cap0) := BS.keep hb (by simp [BS, go_sem])
  have lC : w.heap.size + 1 < w1.heap.size := cell_lt hC.1
  have hB : Below w.heap.size w w1 := (by repeat (first | assumption | exact Below.refl _ _ | apply Below.al | apply below_drewN | apply Below.drew | refine Below.next ?_ (by assumption) | refine Below.st ?_ (by first | exact Nat.le_refl _ | (simp; done) | (simp; omega)) _))
  have hck := cell_later hB HCK.out
  go_wp2_with fail
  refine bodyPost_ret (v := .tuple #[Sv 0 0 (.slice none 0 0), .int .i64 14]) ?_ rfl (sv_nil _ _ _ (by repeat (first | assumption | exact Below.refl _ _ | apply Below.al | apply below_drewN | apply Below.drew | refine Below.next ?_ (by assumption) | refine Below.st ?_ (by first | exact Nat.le_refl _ | (simp; done) | (simp; omega)) _)))
  simp [results, Try.results39, go_sem, hC]
set_option maxHeartbeats 1000000 in
theorem rrelease_fine (q st : Int) (rs : Value) (xs : List Int) (g : Good q st xs) (k : Nat) (hk : k < 16) (n : Int) (hn0 : 0 ≤ n) (hf : n ≤ xs.getD k 0) (w : World) (h : RdI .u64 w rs xs) :
    Calls Try.prog 39 #[Sv q st rs, .int .i64 ((k : Int) + 1), .int .u64 n] w (SpRes w q st (xs.set k (xs.getD k 0 - n)) 0) := by
  have HR := Lib.hid h; have HG := Lib.hid g
  obtain ⟨b0, off, cap0, rfl, hr⟩ := rd_cells h g.gn
  obtain ⟨x0, hx0⟩ : ∃ x, xs.getD k 0 = x := ⟨_, rfl⟩
  have hck0 := hr k hk
  rw [hx0] at hck0
  have hf0 : n ≤ x0 := by rw [← hx0]; exact hf
  have HCK := Lib.hid hck0
  have HX0 := Lib.hid hx0
  have HF0 := Lib.hid hf
  have d1 : decide (x0 < n) = false := nb (by omega)
  have i1 : (0 : Int) ≤ (k : Int) := by omega
  have i2 : (k : Int) < 16 := by omega
  clear h g hr hck0 hx0 hf
  go_enter Try.func39, Try.ntmps39
  go_wp2_with fail
  refine (rasks_ok q st (.slice (some ⟨b0, off, none⟩) 16 cap0) xs HG.out k hk _ (HR.out.keep (by repeat (first | assumption | exact Below.refl _ _ | apply Below.al | apply below_drewN | apply Below.drew | refine Below.next ?_ (by assumption) | refine Below.st ?_ (by first | exact Nat.le_refl _ | (simp; done) | (simp; omega)) _)))).mono ?_
  rintro e w1 ⟨rfl, hb⟩
  have hC0 : RC w1 (w.heap.size + 1) := RC.keep hb (by simp [RC, go_sem])
  have hA : BS w1 w.heap.size q st (.slice (some ⟨b0, off, none⟩) 16 cap0) := BS.keep hb (by simp [BS, go_sem])
  have hFA : FZ w1 w.heap.size := ⟨fz_later hb (by simp; omega) (by simp [go_sem]), fz_later hb (by simp; omega) (by simp [go_sem]), fz_later hb (by simp; omega) (by simp [go_sem])⟩
  have lC : w.heap.size + 1 < w1.heap.size := cell_lt hC0.1
  have hB : Below w.heap.size w w1 := (by repeat (first | assumption | exact Below.refl _ _ | apply Below.al | apply below_drewN | apply Below.drew | refine Below.next ?_ (by assumption) | refine Below.st ?_ (by first | exact Nat.le_refl _ | (simp; done) | (simp; omega)) _))
  have hck1 := cell_later hB HCK.out
  go_upto_region 6 with fail
  clear hck1
  go_wp2_with fail
  refine (rown_any q st (.slice (some ⟨b0, off, none⟩) 16 cap0) xs HG.out.gn _ (HR.out.keep hB)).mono ?_
  rintro e w3 ⟨b, c, rfl, hown, hb3⟩
  have hC : RC w3 (w.heap.size + 1) := RC.keep hb3 hC0
  have hA : BS w3 w.heap.size q st (.slice (some ⟨b0, off, none⟩) 16 cap0) := BS.keep hb3 hA
  have hf : n ≤ xs.getD k 0 := HF0.out
  have hlb : w1.heap.size ≤ b := by
    have := hown.lt b rfl
    exact this.1
  have hl2 : w.heap.size + 1 < w1.heap.size := cell_lt hC0.1
  have hFA : FZ w3 w.heap.size := ⟨fz_later hb3 (by show w.heap.size < _; omega) hFA.1, fz_later hb3 (by show w.heap.size < _; omega) hFA.2.1, fz_later hb3 (by show w.heap.size < _; omega) hFA.2.2⟩
  obtain ⟨x, hx⟩ : ∃ x, xs.getD k 0 = x := ⟨_, rfl⟩
  have hxn := HG.out.gxs.get k (by rw [HG.out.gn]; exact hk)
  have hxs := get_le_sum HG.out.gxs k (by rw [HG.out.gn]; exact hk)
  rw [hx] at hxn hxs
  have hgle := HG.out.gle; have hgq := HG.out.gq; have hgst := HG.out.gst
  have hck : w3.cell? ⟨b, k, none⟩ = some (.int .u64 x) := by
    rw [hown.cellAt k (by omega), ic_get .u64 xs k (by rw [HG.out.gn]; exact hk), hx]
  have hfk : w3.frozen? ⟨b, k, none⟩ = false := hown.frozenAt k
  have hBw : Below w.heap.size w w3 := (by repeat (first | assumption | exact Below.refl _ _ | apply Below.al | apply below_drewN | apply Below.drew | refine Below.next ?_ (by assumption) | refine Below.st ?_ (by first | exact Nat.le_refl _ | (simp; done) | (simp; omega)) _))
  obtain ⟨W4, hW4⟩ : ∃ W4 : World, W4 = ((w3.setCell ⟨w.heap.size, 0, none⟩ (.int .u64 q)).setCell ⟨w.heap.size, 1, none⟩ (.int .u64 st)).setCell ⟨w.heap.size, 2, none⟩ (.slice (some ⟨b, 0, none⟩) 16 c) := ⟨_, rfl⟩
  have hO4 : W4.ownsRow w1.heap.size 22 1 (.slice (some ⟨b, 0, none⟩) 16 c) 16 (ic .u64 xs) := by
    rw [hW4]
    exact ownsRow_setCell_below (ownsRow_setCell_below (ownsRow_setCell_below hown (by show w.heap.size < _; omega) _) (by show w.heap.size < _; omega) _) (by show w.heap.size < _; omega) _
  have hne : b ≠ w.heap.size := by omega
  have hne1 : b ≠ w.heap.size + 1 := by omega
  have hne2 : w.heap.size + 1 ≠ w.heap.size := by omega
  have hA4 : BS W4 w.heap.size q st (.slice (some ⟨b, 0, none⟩) 16 c) := by
    rw [hW4]; simp [BS, go_sem, hA, hFA]
  have hC4 : RC W4 (w.heap.size + 1) := by
    rw [hW4]; exact RC.set _ hne2 (RC.set _ hne2 (RC.set _ hne2 hC))
  have hck4 : W4.cell? ⟨b, k, none⟩ = some (.int .u64 x) := by rw [hW4]; exact cell_set3 _ _ _ hne hne hne hck
  have hfk4 : W4.frozen? ⟨b, k, none⟩ = false := by rw [hW4]; exact fz_set _ (fz_set _ (fz_set _ hfk))
  have hB4 : Below w.heap.size w W4 := by rw [hW4]; exact (by repeat (first | assumption | exact Below.refl _ _ | apply Below.al | apply below_drewN | apply Below.drew | refine Below.next ?_ (by assumption) | refine Below.st ?_ (by first | exact Nat.le_refl _ | (simp; done) | (simp; omega)) _))
  go_upto_region 7 with fail
  rw [← hW4]
  have lC4 : w.heap.size + 1 < W4.heap.size := cell_lt hC4.1
  clear hW4 hown hck hfk hA hC hFA hC0
  have i1 : (0 : Int) ≤ (k : Int) := by omega
  have i2 : (k : Int) < 16 := by omega
  have hwr : IntKind.u64.wrap (x - n) = x - n := wrapU _ ⟨by omega, by omega⟩
  have hA5 : BS (W4.setCell ⟨b, k, none⟩ (.int .u64 (x - n))).drew w.heap.size q st (.slice (some ⟨b, 0, none⟩) 16 c) := ⟨cell_drew (cell_set _ (Ne.symm hne) hA4.1), cell_drew (cell_set _ (Ne.symm hne) hA4.2.1), cell_drew (cell_set _ (Ne.symm hne) hA4.2.2)⟩
  have hC5 : RC (W4.setCell ⟨b, k, none⟩ (.int .u64 (x - n))).drew (w.heap.size + 1) := RC.set _ (Ne.symm hne1) hC4
  have hO5 : (W4.setCell ⟨b, k, none⟩ (.int .u64 (x - n))).drew.ownsRow w1.heap.size 22 1 (.slice (some ⟨b, 0, none⟩) 16 c) 16 (ic .u64 (xs.set k (x - n))) := by
    have := (hO4.stored k (.int .u64 (x - n))).1
    unfold ic at this ⊢
    rw [List.map_set]
    exact this.drew
  have hB5 : Below w.heap.size w (W4.setCell ⟨b, k, none⟩ (.int .u64 (x - n))).drew := (Below.st hB4 (by show w.heap.size ≤ b; omega) _).drew
  have lC5 : w.heap.size + 1 < (W4.setCell ⟨b, k, none⟩ (.int .u64 (x - n))).drew.heap.size := cell_lt hC5.1
  clear hC4 hO4
  go_region
  try simp only [hwr]
  revert hA5 hC5 hO5 hB5 lC5
  generalize (W4.setCell ⟨b, k, none⟩ (.int .u64 (x - n))).drew = W5
  intro hA5 hC5 hO5 hB5 lC5
  go_wp2
  refine bodyPost_ret (v := .tuple #[Sv q st (.slice (some ⟨b, 0, none⟩) 16 c), .int .i64 0]) (by simp [results, Try.results39, go_sem, hC5]) rfl ?_
  rw [hx]
  have hO6 := ownsRow_setCell_below (ownsRow_setCell_below (ownsRow_setCell_below hO5 (a := ⟨w.heap.size + 1, 0, none⟩) hl2 (.int .u64 q)) (a := ⟨w.heap.size + 1, 1, none⟩) hl2 (.int .u64 st)) (a := ⟨w.heap.size + 1, 2, none⟩) hl2 (.slice (some ⟨b, 0, none⟩) 16 c)
  have hle : (xs.set k (x - n)).length = 16 := by rw [List.length_set]; exact HG.out.gn
  exact ⟨_, rfl, by unfold RdI; rw [hle]; exact RdS.of_owns hO6 (by decide), (Fresh.of_owns hO6).mono (by omega), (by repeat (first | assumption | exact Below.refl _ _ | apply Below.al | apply below_drewN | apply Below.drew | refine Below.next ?_ (by assumption) | refine Below.st ?_ (by first | exact Nat.le_refl _ | (simp; done) | (simp; omega)) _))⟩

theorem rrelease_any (q st : Int) (rs : Value) (xs : List Int) (i : Inp q st xs) (node n : Int) (hn0 : 0 ≤ n) (q' st' : Int) (ys : List Int) (er : Int) (h : St q st xs node n 1 q' st' ys er) (w : World) (hr : RdI .u64 w rs xs) :
    Calls Try.prog 39 #[Sv q st rs, .int .i64 node, .int .u64 n] w (SpRes w q' st' ys er) := by
  cases h with
  | bad _ _ _ hc hne => exact rrelease_bad q st rs xs i er hc hne node n w hr
  | node _ hc _ hn => exact rrelease_node q st rs xs (.of i hc) node n hn w hr
  | credit _ hk2 hc k hk he hf => subst he; exact rrelease_credit q st rs xs (.of i hc) k hk n hf w hr
  | lfine hc k hk he hf => subst he; exact rrelease_fine q st rs xs (.of i hc) k hk n hn0 hf w hr
theorem rreserve_any (q st : Int) (rs : Value) (xs : List Int) (i : Inp q st xs) (node n : Int) (hn0 : 0 ≤ n) (q' st' : Int) (ys : List Int) (er : Int) (h : St q st xs node n 0 q' st' ys er) (w : World) (hr : RdI .u64 w rs xs) :
    Calls Try.prog 38 #[Sv q st rs, .int .i64 node, .int .u64 n] w (SpRes w q' st' ys er) := by
  cases h with
  | bad _ _ _ hc hne => exact rreserve_bad q st rs xs i er hc hne node n w hr
  | node _ hc _ hn => exact rreserve_node q st rs xs (.of i hc) node n hn w hr
  | rfull hc k hk he hf => subst he; exact rreserve_full q st rs xs (.of i hc) k hk n hf w hr
  | rfine hc k hk he hf => subst he; exact rreserve_fine q st rs xs (.of i hc) k hk n hn0 hf w hr
  | credit _ hk2 => omega

end Go.Proofs.Ytcbolpjacoiclaa
