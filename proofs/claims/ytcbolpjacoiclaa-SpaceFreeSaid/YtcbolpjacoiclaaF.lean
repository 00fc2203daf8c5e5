
/- Space: SameSpace, OwnSpace, step, and the law's helpers. -/
import Derived.Test.YtcbolpjacoiclaaE
namespace Go.Proofs.Ytcbolpjacoiclaa
open Go.RowKit

theorem BS.al {w : World} {b : Nat} {q st : Int} {rs : Value} (o : Obj) (h : BS w b q st rs) : BS (w.alloc o) b q st rs := ⟨cell_al o h.1, cell_al o h.2.1, cell_al o h.2.2⟩


set_option maxHeartbeats 400000 in
theorem same_yes (q st : Int) (v u : Value) (xs : List Int) (w : World) (h : RdI .u64 w v xs) (h2 : RdI .u64 w u xs) :
    Calls Try.prog 13 #[Sv q st v, Sv q st u] w fun e w' => e = .returned (.bool true) ∧ Below w.heap.size w w' := by
  have HV := Lib.hid h
  have HU := Lib.hid h2
  clear h h2
  go_enter Try.func13, Try.ntmps13
  go_wp2_with (go_at_call 34; refine (sameNumbers_any v u xs xs rfl true (by simp) _ (HV.out.keep (by repeat (first | assumption | exact Below.refl _ _ | apply Below.al | apply below_drewN | apply Below.drew | refine Below.next ?_ (by assumption) | refine Below.st ?_ (by first | exact Nat.le_refl _ | (simp; done) | (simp; omega)) _))) (HU.out.keep (by repeat (first | assumption | exact Below.refl _ _ | apply Below.al | apply below_drewN | apply Below.drew | refine Below.next ?_ (by assumption) | refine Below.st ?_ (by first | exact Nat.le_refl _ | (simp; done) | (simp; omega)) _)))).mono ?_; rintro e w1 ⟨rfl, hb⟩)
  go_ret
  exact ⟨rfl, (by repeat (first | assumption | exact Below.refl _ _ | apply Below.al | apply below_drewN | apply Below.drew | refine Below.next ?_ (by assumption) | refine Below.st ?_ (by first | exact Nat.le_refl _ | (simp; done) | (simp; omega)) _))⟩

/-- a space in new memory -/
def SpV (w : World) (q st : Int) (xs : List Int) (e : Ending) (w' : World) : Prop :=
  ∃ v, e = .returned (Sv q st v) ∧ RdI .u64 w' v xs ∧ Fresh w.heap.size v ∧ Below w.heap.size w w'

set_option maxHeartbeats 400000 in
theorem ownSpace_any (q st : Int) (rs : Value) (xs : List Int) (hl : xs.length ≤ 1000000) (w : World) (h : RdI .u64 w rs xs) :
    Calls Try.prog 10 #[Sv q st rs] w (SpV w q st xs) := by
  have HR := Lib.hid h
  clear h
  go_enter Try.func10, Try.ntmps10
  go_wp2
  obtain ⟨W, hW⟩ : ∃ W : World, W = ((w.alloc (.cells #[.int .u64 q, .int .u64 st, rs] 25)).alloc (.cells #[.int .u64 0, .int .u64 0, .slice none 0 0] 25)) := ⟨_, rfl⟩
  have hB0 : Below w.heap.size w W := by rw [hW]; exact (by repeat (first | assumption | exact Below.refl _ _ | apply Below.al | apply below_drewN | apply Below.drew | refine Below.next ?_ (by assumption) | refine Below.st ?_ (by first | exact Nat.le_refl _ | (simp; done) | (simp; omega)) _))
  have hA : BS W w.heap.size q st rs := by rw [hW]; simp [BS, go_sem]
  have hC : RC W (w.heap.size + 1) := by rw [hW]; simp [RC, go_sem]
  rw [← hW]
  have hs0 : w.heap.size + 1 < W.heap.size := cell_lt hC.1
  clear hW
  have hne : w.heap.size ≠ w.heap.size + 1 := by omega
  go_region_held3 (fun w' => w'.cell? ⟨w.heap.size, 0, none⟩ = some (.int .u64 q) ∧ w'.cell? ⟨w.heap.size, 1, none⟩ = some (.int .u64 st) ∧ w'.cell? ⟨w.heap.size, 2, none⟩ = some rs)
    (first | with_reducible exact hA | with_reducible exact ⟨cell_drew hA.1, cell_drew hA.2.1, cell_drew hA.2.2⟩ | with_reducible exact ⟨cell_set3 _ _ _ hne hne hne hA.1, cell_set3 _ _ _ hne hne hne hA.2.1, cell_set3 _ _ _ hne hne hne hA.2.2⟩)
    (first
      | (go_at_call 32; refine (ownNumbers_any rs xs hl _ (HR.out.keep (Below.drew hB0))).mono ?_; rintro e w3 ⟨a, c, rfl, hrd, hF, hb⟩; have hC : RC w3 (w.heap.size + 1) := RC.keep hb hC; have hA : BS w3 w.heap.size q st rs := BS.keep hb hA; have HRD := Lib.hid hrd; clear hrd))
  go_wp2
  refine bodyPost_ret (v := Sv q st (.slice a xs.length c)) ?_ rfl ?_
  · simp [results, Try.results10, go_sem, hC]
  · have hs3 : w.heap.size + 1 < W.drew.heap.size := hs0
    refine ⟨_, rfl, RdI.set _ (RdI.set _ (RdI.set _ HRD.out hF hs3) hF hs3) hF hs3, hF.mono (by omega), (by repeat (first | assumption | exact Below.refl _ _ | apply Below.al | apply below_drewN | apply Below.drew | refine Below.next ?_ (by assumption) | refine Below.st ?_ (by first | exact Nat.le_refl _ | (simp; done) | (simp; omega)) _))⟩

/-- what one step makes of a space -/
inductive St (q st : Int) (xs : List Int) (node n : Int) : Int → Int → Int → List Int → Int → Prop
  | bad (kind er : Int) (hk : 0 ≤ kind ∧ kind ≤ 4) (hc : chk q st xs = er) (hne : er ≠ 0) : St q st xs node n kind 0 0 [] er
  | node (kind : Int) (hc : chk q st xs = 0) (hk : kind = 0 ∨ kind = 1 ∨ kind = 2) (hn : node < 1 ∨ 16 < node) : St q st xs node n kind 0 0 [] 2
  | rfull (hc : chk q st xs = 0) (k : Nat) (hk : k < 16) (he : node = (k : Int) + 1) (hf : q - st - xs.sum < n) : St q st xs node n 0 0 0 [] 5
  | rfine (hc : chk q st xs = 0) (k : Nat) (hk : k < 16) (he : node = (k : Int) + 1) (hf : n ≤ q - st - xs.sum) : St q st xs node n 0 q st (xs.set k (xs.getD k 0 + n)) 0
  | credit (kind : Int) (hk2 : kind = 1 ∨ kind = 2) (hc : chk q st xs = 0) (k : Nat) (hk : k < 16) (he : node = (k : Int) + 1) (hf : xs.getD k 0 < n) : St q st xs node n kind 0 0 [] 14
  | lfine (hc : chk q st xs = 0) (k : Nat) (hk : k < 16) (he : node = (k : Int) + 1) (hf : n ≤ xs.getD k 0) : St q st xs node n 1 q st (xs.set k (xs.getD k 0 - n)) 0
  | mfine (hc : chk q st xs = 0) (k : Nat) (hk : k < 16) (he : node = (k : Int) + 1) (hf : n ≤ xs.getD k 0) : St q st xs node n 2 q (st + n) (xs.set k (xs.getD k 0 - n)) 0
  | afull (hc : chk q st xs = 0) (hf : q - st - xs.sum < n) : St q st xs node n 3 0 0 [] 5
  | afine (hc : chk q st xs = 0) (hf : n ≤ q - st - xs.sum) : St q st xs node n 3 q (st + n) xs 0
  | dstate (hc : chk q st xs = 0) (hf : st < n) : St q st xs node n 4 0 0 [] 12
  | dfine (hc : chk q st xs = 0) (hf : n ≤ st) : St q st xs node n 4 q (st - n) xs 0

theorem St.ex (q st : Int) (xs : List Int) (node n kind : Int) (h : 0 ≤ kind ∧ kind ≤ 4) : ∃ q' st' ys er, St q st xs node n kind q' st' ys er := by
  by_cases hc : chk q st xs = 0
  · by_cases hk : kind = 0 ∨ kind = 1 ∨ kind = 2
    · by_cases hn : node < 1 ∨ 16 < node
      · exact ⟨_, _, _, _, .node kind hc hk hn⟩
      · obtain ⟨k, hk16, he⟩ : ∃ k : Nat, k < 16 ∧ node = (k : Int) + 1 := ⟨(node - 1).toNat, by omega, by omega⟩
        rcases hk with rfl | rfl | rfl
        · by_cases hf : q - st - xs.sum < n
          · exact ⟨_, _, _, _, .rfull hc k hk16 he hf⟩
          · exact ⟨_, _, _, _, .rfine hc k hk16 he (by omega)⟩
        · by_cases hf : xs.getD k 0 < n
          · exact ⟨_, _, _, _, .credit 1 (.inl rfl) hc k hk16 he hf⟩
          · exact ⟨_, _, _, _, .lfine hc k hk16 he (by omega)⟩
        · by_cases hf : xs.getD k 0 < n
          · exact ⟨_, _, _, _, .credit 2 (.inr rfl) hc k hk16 he hf⟩
          · exact ⟨_, _, _, _, .mfine hc k hk16 he (by omega)⟩
    · by_cases h3 : kind = 3
      · subst h3
        by_cases hf : q - st - xs.sum < n
        · exact ⟨_, _, _, _, .afull hc hf⟩
        · exact ⟨_, _, _, _, .afine hc (by omega)⟩
      · obtain rfl : kind = 4 := by omega
        by_cases hf : st < n
        · exact ⟨_, _, _, _, .dstate hc hf⟩
        · exact ⟨_, _, _, _, .dfine hc (by omega)⟩
  · exact ⟨_, _, _, _, .bad kind _ h rfl hc⟩

theorem St.len {q st : Int} {xs : List Int} {node n kind q' st' : Int} {ys : List Int} {er : Int} (h : St q st xs node n kind q' st' ys er) : (er ≠ 0 ∧ ys = [] ∧ q' = 0 ∧ st' = 0) ∨ (er = 0 ∧ ys.length = xs.length) := by
  cases h <;> first | exact .inl ⟨by assumption, rfl, rfl, rfl⟩ | exact .inl ⟨by decide, rfl, rfl, rfl⟩ | exact .inr ⟨rfl, by simp⟩ | exact .inr ⟨rfl, rfl⟩

theorem reserve_any (q st : Int) (rs : Value) (xs : List Int) (i : Inp q st xs) (node n : Int) (hn0 : 0 ≤ n) (q' st' : Int) (ys : List Int) (er : Int) (h : St q st xs node n 0 q' st' ys er) (w : World) (hr : RdI .u64 w rs xs) :
    Calls Try.prog 26 #[Sv q st rs, .int .i64 node, .int .u64 n] w (SpRes w q' st' ys er) := by
  cases h with
  | bad _ _ _ hc hne => exact reserve_bad q st rs xs i er hc hne node n w hr
  | node _ hc _ hn => exact reserve_node q st rs xs (.of i hc) node n hn w hr
  | rfull hc k hk he hf => subst he; exact reserve_full q st rs xs (.of i hc) k hk n hf w hr
  | rfine hc k hk he hf => subst he; exact reserve_fine q st rs xs (.of i hc) k hk n hn0 hf w hr
  | credit _ hk2 => omega
theorem release_any (q st : Int) (rs : Value) (xs : List Int) (i : Inp q st xs) (node n : Int) (hn0 : 0 ≤ n) (q' st' : Int) (ys : List Int) (er : Int) (h : St q st xs node n 1 q' st' ys er) (w : World) (hr : RdI .u64 w rs xs) :
    Calls Try.prog 27 #[Sv q st rs, .int .i64 node, .int .u64 n] w (SpRes w q' st' ys er) := by
  cases h with
  | bad _ _ _ hc hne => exact release_bad q st rs xs i er hc hne node n w hr
  | node _ hc _ hn => exact release_node q st rs xs (.of i hc) node n hn w hr
  | credit _ hk2 hc k hk he hf => subst he; exact release_credit q st rs xs (.of i hc) k hk n hf w hr
  | lfine hc k hk he hf => subst he; exact release_fine q st rs xs (.of i hc) k hk n hn0 hf w hr
theorem move_any (q st : Int) (rs : Value) (xs : List Int) (i : Inp q st xs) (node n : Int) (hn0 : 0 ≤ n) (q' st' : Int) (ys : List Int) (er : Int) (h : St q st xs node n 2 q' st' ys er) (w : World) (hr : RdI .u64 w rs xs) :
    Calls Try.prog 30 #[Sv q st rs, .int .i64 node, .int .u64 n] w (SpRes w q' st' ys er) := by
  cases h with
  | bad _ _ _ hc hne => exact move_bad q st rs xs i er hc hne node n w hr
  | node _ hc _ hn => exact move_node q st rs xs (.of i hc) node n hn w hr
  | credit _ hk2 hc k hk he hf => subst he; exact move_credit q st rs xs (.of i hc) k hk n hf w hr
  | mfine hc k hk he hf => subst he; exact move_fine q st rs xs (.of i hc) k hk n hn0 hf w hr
theorem add_any (q st : Int) (rs : Value) (xs : List Int) (i : Inp q st xs) (node n : Int) (hn0 : 0 ≤ n) (q' st' : Int) (ys : List Int) (er : Int) (h : St q st xs node n 3 q' st' ys er) (w : World) (hr : RdI .u64 w rs xs) :
    Calls Try.prog 28 #[Sv q st rs, .int .u64 n] w (SpRes w q' st' ys er) := by
  cases h with
  | bad _ _ _ hc hne => exact add_bad q st rs xs i er hc hne n w hr
  | node _ hc hk hn => omega
  | credit _ hk2 => omega
  | afull hc hf => exact add_full q st rs xs (.of i hc) n hf w hr
  | afine hc hf => exact add_fine q st rs xs (.of i hc) n hn0 hf w hr
theorem drop_any (q st : Int) (rs : Value) (xs : List Int) (i : Inp q st xs) (node n : Int) (hn0 : 0 ≤ n) (q' st' : Int) (ys : List Int) (er : Int) (h : St q st xs node n 4 q' st' ys er) (w : World) (hr : RdI .u64 w rs xs) :
    Calls Try.prog 29 #[Sv q st rs, .int .u64 n] w (SpRes w q' st' ys er) := by
  cases h with
  | bad _ _ _ hc hne => exact drop_bad q st rs xs i er hc hne n w hr
  | node _ hc hk hn => omega
  | credit _ hk2 => omega
  | dstate hc hf => exact drop_state q st rs xs (.of i hc) n hf w hr
  | dfine hc hf => exact drop_fine q st rs xs (.of i hc) n hn0 hf w hr

set_option maxHeartbeats 1000000 in
theorem step_any (q st : Int) (rs : Value) (xs : List Int) (i : Inp q st xs) (node n : Int) (hn0 : 0 ≤ n) (kind : Int) (hkd : 0 ≤ kind ∧ kind ≤ 4) (q' st' : Int) (ys : List Int) (er : Int) (h : St q st xs node n kind q' st' ys er) (w : World) (hr : RdI .u64 w rs xs) :
    Calls Try.prog 22 #[.int .i64 kind, Sv q st rs, .int .i64 node, .int .u64 n] w (SpRes w q' st' ys er) := by
  obtain rfl | rfl | rfl | rfl | rfl : kind = 0 ∨ kind = 1 ∨ kind = 2 ∨ kind = 3 ∨ kind = 4 := by omega
  · have HH := Lib.hid h
    have HR := Lib.hid hr
    clear h hr
    go_enter Try.func22, Try.ntmps22
    go_wp2_with (go_at_call 26; refine (reserve_any q st rs xs i node n hn0 q' st' ys er HH.out _ (HR.out.keep (by repeat (first | assumption | exact Below.refl _ _ | apply Below.al | apply below_drewN | apply Below.drew | refine Below.next ?_ (by assumption) | refine Below.st ?_ (by first | exact Nat.le_refl _ | (simp; done) | (simp; omega)) _)))).mono ?_; rintro e w1 ⟨v, rfl, hrd, hF, hb⟩; have hC : RC w1 (w.heap.size + 1) := RC.keep hb (by simp [RC, go_sem]); obtain ⟨a, c, hv⟩ := hrd.form; subst hv; have HRD := Lib.hid hrd; clear hrd)
    have hs3 : w.heap.size + 1 < ((w.alloc (.cells #[.int .u64 q, .int .u64 st, rs] 25)).alloc (.cells #[.int .u64 0, .int .u64 0, .slice none 0 0] 25)).heap.size := by simp
    refine bodyPost_ret (v := .tuple #[Sv q' st' (.slice a ys.length c), .int .i64 er]) ?_ rfl ?_
    · simp [results, Try.results22, go_sem, hC]
    · exact ⟨_, rfl, RdI.set _ (RdI.set _ (RdI.set _ HRD.out hF hs3) hF hs3) hF hs3, hF.mono (by simp; omega), (by repeat (first | assumption | exact Below.refl _ _ | apply Below.al | apply below_drewN | apply Below.drew | refine Below.next ?_ (by assumption) | refine Below.st ?_ (by first | exact Nat.le_refl _ | (simp; done) | (simp; omega)) _))⟩
  · have HH := Lib.hid h
    have HR := Lib.hid hr
    clear h hr
    go_enter Try.func22, Try.ntmps22
    go_wp2_with (go_at_call 27; refine (release_any q st rs xs i node n hn0 q' st' ys er HH.out _ (HR.out.keep (by repeat (first | assumption | exact Below.refl _ _ | apply Below.al | apply below_drewN | apply Below.drew | refine Below.next ?_ (by assumption) | refine Below.st ?_ (by first | exact Nat.le_refl _ | (simp; done) | (simp; omega)) _)))).mono ?_; rintro e w1 ⟨v, rfl, hrd, hF, hb⟩; have hC : RC w1 (w.heap.size + 1) := RC.keep hb (by simp [RC, go_sem]); obtain ⟨a, c, hv⟩ := hrd.form; subst hv; have HRD := Lib.hid hrd; clear hrd)
    have hs3 : w.heap.size + 1 < ((w.alloc (.cells #[.int .u64 q, .int .u64 st, rs] 25)).alloc (.cells #[.int .u64 0, .int .u64 0, .slice none 0 0] 25)).heap.size := by simp
    refine bodyPost_ret (v := .tuple #[Sv q' st' (.slice a ys.length c), .int .i64 er]) ?_ rfl ?_
    · simp [results, Try.results22, go_sem, hC]
    · exact ⟨_, rfl, RdI.set _ (RdI.set _ (RdI.set _ HRD.out hF hs3) hF hs3) hF hs3, hF.mono (by simp; omega), (by repeat (first | assumption | exact Below.refl _ _ | apply Below.al | apply below_drewN | apply Below.drew | refine Below.next ?_ (by assumption) | refine Below.st ?_ (by first | exact Nat.le_refl _ | (simp; done) | (simp; omega)) _))⟩
  · have HH := Lib.hid h
    have HR := Lib.hid hr
    clear h hr
    go_enter Try.func22, Try.ntmps22
    go_wp2_with (go_at_call 30; refine (move_any q st rs xs i node n hn0 q' st' ys er HH.out _ (HR.out.keep (by repeat (first | assumption | exact Below.refl _ _ | apply Below.al | apply below_drewN | apply Below.drew | refine Below.next ?_ (by assumption) | refine Below.st ?_ (by first | exact Nat.le_refl _ | (simp; done) | (simp; omega)) _)))).mono ?_; rintro e w1 ⟨v, rfl, hrd, hF, hb⟩; have hC : RC w1 (w.heap.size + 1) := RC.keep hb (by simp [RC, go_sem]); obtain ⟨a, c, hv⟩ := hrd.form; subst hv; have HRD := Lib.hid hrd; clear hrd)
    have hs3 : w.heap.size + 1 < ((w.alloc (.cells #[.int .u64 q, .int .u64 st, rs] 25)).alloc (.cells #[.int .u64 0, .int .u64 0, .slice none 0 0] 25)).heap.size := by simp
    refine bodyPost_ret (v := .tuple #[Sv q' st' (.slice a ys.length c), .int .i64 er]) ?_ rfl ?_
    · simp [results, Try.results22, go_sem, hC]
    · exact ⟨_, rfl, RdI.set _ (RdI.set _ (RdI.set _ HRD.out hF hs3) hF hs3) hF hs3, hF.mono (by simp; omega), (by repeat (first | assumption | exact Below.refl _ _ | apply Below.al | apply below_drewN | apply Below.drew | refine Below.next ?_ (by assumption) | refine Below.st ?_ (by first | exact Nat.le_refl _ | (simp; done) | (simp; omega)) _))⟩
  · have HH := Lib.hid h
    have HR := Lib.hid hr
    clear h hr
    go_enter Try.func22, Try.ntmps22
    go_wp2_with (go_at_call 28; refine (add_any q st rs xs i node n hn0 q' st' ys er HH.out _ (HR.out.keep (by repeat (first | assumption | exact Below.refl _ _ | apply Below.al | apply below_drewN | apply Below.drew | refine Below.next ?_ (by assumption) | refine Below.st ?_ (by first | exact Nat.le_refl _ | (simp; done) | (simp; omega)) _)))).mono ?_; rintro e w1 ⟨v, rfl, hrd, hF, hb⟩; have hC : RC w1 (w.heap.size + 1) := RC.keep hb (by simp [RC, go_sem]); obtain ⟨a, c, hv⟩ := hrd.form; subst hv; have HRD := Lib.hid hrd; clear hrd)
    have hs3 : w.heap.size + 1 < ((w.alloc (.cells #[.int .u64 q, .int .u64 st, rs] 25)).alloc (.cells #[.int .u64 0, .int .u64 0, .slice none 0 0] 25)).heap.size := by simp
    refine bodyPost_ret (v := .tuple #[Sv q' st' (.slice a ys.length c), .int .i64 er]) ?_ rfl ?_
    · simp [results, Try.results22, go_sem, hC]
    · exact ⟨_, rfl, RdI.set _ (RdI.set _ (RdI.set _ HRD.out hF hs3) hF hs3) hF hs3, hF.mono (by simp; omega), (by repeat (first | assumption | exact Below.refl _ _ | apply Below.al | apply below_drewN | apply Below.drew | refine Below.next ?_ (by assumption) | refine Below.st ?_ (by first | exact Nat.le_refl _ | (simp; done) | (simp; omega)) _))⟩
  · have HH := Lib.hid h
    have HR := Lib.hid hr
    clear h hr
    go_enter Try.func22, Try.ntmps22
    go_wp2_with (go_at_call 29; refine (drop_any q st rs xs i node n hn0 q' st' ys er HH.out _ (HR.out.keep (by repeat (first | assumption | exact Below.refl _ _ | apply Below.al | apply below_drewN | apply Below.drew | refine Below.next ?_ (by assumption) | refine Below.st ?_ (by first | exact Nat.le_refl _ | (simp; done) | (simp; omega)) _)))).mono ?_; rintro e w1 ⟨v, rfl, hrd, hF, hb⟩; have hC : RC w1 (w.heap.size + 1) := RC.keep hb (by simp [RC, go_sem]); obtain ⟨a, c, hv⟩ := hrd.form; subst hv; have HRD := Lib.hid hrd; clear hrd)
    have hs3 : w.heap.size + 1 < ((w.alloc (.cells #[.int .u64 q, .int .u64 st, rs] 25)).alloc (.cells #[.int .u64 0, .int .u64 0, .slice none 0 0] 25)).heap.size := by simp
    refine bodyPost_ret (v := .tuple #[Sv q' st' (.slice a ys.length c), .int .i64 er]) ?_ rfl ?_
    · simp [results, Try.results22, go_sem, hC]
    · exact ⟨_, rfl, RdI.set _ (RdI.set _ (RdI.set _ HRD.out hF hs3) hF hs3) hF hs3, hF.mono (by simp; omega), (by repeat (first | assumption | exact Below.refl _ _ | apply Below.al | apply below_drewN | apply Below.drew | refine Below.next ?_ (by assumption) | refine Below.st ?_ (by first | exact Nat.le_refl _ | (simp; done) | (simp; omega)) _))⟩
end Go.Proofs.Ytcbolpjacoiclaa
