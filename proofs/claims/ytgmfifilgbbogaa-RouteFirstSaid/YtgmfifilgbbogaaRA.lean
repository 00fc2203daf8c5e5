


/- Routes: the small functions of both texts: node, checked, asked, between, hop, Over, Hop. -/
import Derived.Test.YtgmfifilgbbogaaRT2
import Derived.Test.YtgmfifilgbbogaaH
import Derived.Test.YtgmfifilgbbogaaI
import Derived.Test.YtgmfifilgbbogaaB
namespace Go.Proofs.Ytgmfifilgbbogaa
open Go.RowKit
set_option linter.unusedSimpArgs false
set_option linter.unusedVariables false
set_option maxRecDepth 100000

theorem RdI.at {k : IntKind} {w : World} {a : Option Addr} {n c : Nat} {xs : List Int} (h : RdI k w (.slice a n c) xs) (hn : xs.length = n) (i : Nat) (hi : i < n) : ∃ b off, a = some ⟨b, off, none⟩ ∧ n ≤ c ∧ w.cell? ⟨b, off + i, none⟩ = some (.int k (xs.getD i 0)) := by
  obtain ⟨_, ⟨a0, cap, hv, rfl⟩ | ⟨b, off, cap, hv, hc, hr⟩⟩ := h.cases
  · simp at hn; omega
  · simp only [Value.slice.injEq] at hv
    obtain ⟨rfl, rfl, rfl⟩ := hv
    exact ⟨b, off, rfl, hc, hr i (by omega)⟩

def nodB (x : Int) : Bool := decide (1 ≤ x ∧ x ≤ 16)
theorem node_any (x : Int) (w : World) : Calls Try.prog 52 #[.int .i64 x] w fun e w' => e = .returned (.bool (nodB x)) ∧ w = w' := by
  unfold nodB
  go_enter Try.func52, Try.ntmps52
  go_wp2
  all_goals (go_ret; first | exact ⟨rfl, rfl⟩ | (refine ⟨?_, rfl⟩; simp; omega))
theorem rnode_any (x : Int) (w : World) : Calls Try.prog 58 #[.int .i64 x] w fun e w' => e = .returned (.bool (nodB x)) ∧ w = w' := by
  unfold nodB
  go_enter Try.func58, Try.ntmps58
  go_wp2
  all_goals (go_ret; first | exact ⟨rfl, rfl⟩ | (refine ⟨?_, rfl⟩; simp; omega))
theorem bad_any (x : Int) (w : World) : Calls Try.prog 51 #[.int .i64 x] w fun e w' => e = .returned (.bool (!nodB x)) ∧ w = w' := by
  go_enter Try.func51, Try.ntmps51
  go_wp2_with (go_at_call 52; refine (node_any x _).mono ?_; rintro e w2 ⟨rfl, rfl⟩)
  go_ret
  exact ⟨rfl, rfl⟩
theorem mem_gi {l : List Int} {x : Int} (h : x ∈ l) : ∃ j, j < l.length ∧ l.getD j 0 = x := by
  obtain ⟨j, hj, rfl⟩ := List.getElem_of_mem h
  exact ⟨j, hj, by rw [List.getD_eq_getElem?_getD, List.getElem?_eq_getElem hj]; rfl⟩
set_option maxHeartbeats 1000000 in
theorem ixbad_any (v : Value) (l : List Int) (w : World) (h : RdI .i64 w v l) :
    Calls Try.prog 67 #[v, .func (.func 51) #[] #[]] w fun e w' => (∃ r : Int, e = .returned (.int .i64 r) ∧ decide (0 ≤ r) = l.any (fun x => !nodB x)) ∧ w = w' := by
  obtain ⟨a0, n0, rfl⟩ := h.form
  have hmx := h.2.1
  unfold maxLen at hmx
  obtain ⟨N, hN⟩ : ∃ N, l.length = N := ⟨_, rfl⟩
  rw [hN] at h hmx ⊢
  have HN := Lib.hid hN
  obtain ⟨r, hr⟩ : ∃ r, l.any (fun x => !nodB x) = r := ⟨_, rfl⟩
  rw [hr]
  have HF := Lib.hid hr
  have HR := Lib.hid h
  clear hN h hr
  go_enter Try.func67, Try.ntmps67
  go_wp2_with fail
  go_loopw [8] (fun i wr => ∃ k : Nat, k ≤ N ∧ i = .int .i64 k ∧ w = wr ∧ ∀ j, j < k → (!nodB (l.getD j 0)) = false) (fun i _ => N - (intOf i).toNat)
  case atStart => exact ⟨0, Nat.zero_le _, rfl, rfl, fun j hj => by omega⟩
  case round =>
    obtain ⟨k, hkN, rfl, rfl, hz0⟩ := hrel
    have HZ0 := Lib.hid hz0
    clear hz0
    by_cases hlt : k < N
    · have d2 : decide ((k : Int) < (N : Int)) = true := yb (by omega)
      obtain ⟨b1, o1, rfl, hc1, g0⟩ := RdI.at HR.out HN.out k hlt
      obtain ⟨y, HY⟩ : ∃ y, Hid (l.getD k 0 = y) := ⟨_, rfl⟩
      rw [HY.out] at g0
      have n1 : (0 : Int) ≤ (k : Int) := by omega
      have n2 : (k : Int) < (N : Int) := by omega
      have hwk : IntKind.i64.wrap (k : Int) = (k : Int) := IntWalk.i64_in _ (by omega)
      have hP := bad_any y w
      cases hs : !nodB y
      · rw [hs] at hP
        have HPP := Lib.hid hP
        have HS := Lib.hid hs
        clear hP hs
        go_wp2_with fail
        refine HPP.out.mono ?_
        rintro e w1 ⟨rfl, h9⟩
        obtain rfl := h9.symm
        go_wp2_with fail
        go_roundw
        case rel => exact ⟨k + 1, by omega, by go_num, (by trivial), fun j hj => by
          by_cases hjk : j = k
          · subst hjk; rw [HY.out]; exact HS.out
          · exact HZ0.out j (by omega)⟩
        case measure => simp [intOf]; omega
      · obtain rfl : r = true := by
          rw [← HF.out]
          refine List.any_eq_true.2 ⟨y, ?_, hs⟩
          have hk : k < l.length := by rw [HN.out]; exact hlt
          rw [← HY.out, List.getD_eq_getElem?_getD, List.getElem?_eq_getElem hk]
          exact List.getElem_mem hk
        rw [hs] at hP
        have HPP := Lib.hid hP
        clear hP hs
        go_wp2_with fail
        refine HPP.out.mono ?_
        rintro e w1 ⟨rfl, h9⟩
        obtain rfl := h9.symm
        go_wp2_with fail
        go_ret
        exact ⟨⟨_, rfl, yb (by omega)⟩, rfl⟩
    · obtain rfl : k = N := by omega
      have d2 : decide ((k : Int) < (k : Int)) = false := nb (by omega)
      obtain rfl : r = false := by
        rw [← HF.out]
        refine List.any_eq_false.2 (fun x hx => ?_)
        obtain ⟨j, hj, rfl⟩ := mem_gi hx
        rw [HZ0.out j (by rw [HN.out] at hj; exact hj)]
        decide
      go_wp2_with fail
      go_ret
      exact ⟨⟨_, rfl, nb (by omega)⟩, rfl⟩
theorem hasbad_any (v : Value) (l : List Int) (w : World) (h : RdI .i64 w v l) :
    Calls Try.prog 53 #[v, .func (.func 51) #[] #[]] w fun e w' => e = .returned (.bool (l.any (fun x => !nodB x))) ∧ w = w' := by
  obtain ⟨a0, n0, rfl⟩ := h.form
  have HP := Lib.hid (ixbad_any (.slice a0 l.length n0) l w h)
  clear h
  go_enter Try.func53, Try.ntmps53
  go_wp2_with fail
  refine HP.out.mono ?_
  rintro e w1 ⟨⟨x, rfl, hx⟩, h9⟩
  obtain rfl := h9.symm
  go_wp2_with fail
  go_ret
  exact ⟨by rw [← hx]; rfl, rfl⟩
def badA (t n : Int) : Prop := t < 0 ∨ 1099511627776 < t ∨ n < 1 ∨ 1200 < n
instance (t n : Int) : Decidable (badA t n) := by unfold badA; infer_instance
/-- the error of a plan, a tick and a size -/
def askE (cs : List Ct) (t n : Int) : Int := if (planChk cs).1 ≠ 0 then (planChk cs).1 else if badA t n then 2 else 0
/-- .. and of nodes -/
def chkE (cs : List Ct) (t n : Int) (l : List Int) : Int := if askE cs t n ≠ 0 then askE cs t n else if l.any (fun x => !nodB x) then 2 else 0
theorem chkE_ok {cs : List Ct} {t n : Int} {l : List Int} (h : chkE cs t n l = 0) : (planChk cs).1 = 0 ∧ (0 ≤ t ∧ t ≤ 1099511627776 ∧ 1 ≤ n ∧ n ≤ 1200) ∧ ∀ x, x ∈ l → 1 ≤ x ∧ x ≤ 16 := by
  unfold chkE at h
  split at h
  · rename_i h1; exact absurd h h1
  · rename_i h1
    split at h
    · cases h
    · rename_i h2
      have h1 : askE cs t n = 0 := by simpa using h1
      unfold askE at h1
      split at h1
      · rename_i h3; exact absurd h1 h3
      · rename_i h3
        split at h1
        · cases h1
        · rename_i h4
          unfold badA at h4
          refine ⟨by simpa using h3, by omega, fun x hx => ?_⟩
          have h5 : l.any (fun x => !nodB x) = false := by simpa using h2
          have := List.any_eq_false.1 h5 x hx
          simpa [nodB] using this
set_option maxHeartbeats 1000000 in
theorem checked_any (v u : Value) (cs : List Ct) (t n : Int) (l : List Int) (hwf : ∀ c, c ∈ cs → Wf c) (w : World) (h : RdC w v cs) (hl : RdI .i64 w u l) :
    Calls Try.prog 36 #[v, .int .i64 t, .int .i64 n, u] w fun e w' => e = .returned (.int .i64 (chkE cs t n l)) ∧ Below w.heap.size w w' := by
  obtain ⟨a0, n0, rfl⟩ := h.form
  obtain ⟨a1, n1, rfl⟩ := hl.form
  obtain ⟨N, hN⟩ : ∃ N, cs.length = N := ⟨_, rfl⟩
  obtain ⟨M, hM⟩ : ∃ M, l.length = M := ⟨_, rfl⟩
  obtain ⟨er, ix, hp⟩ : ∃ er ix, planChk cs = (er, ix) := ⟨_, _, rfl⟩
  have HC := Lib.hid (pchk_aux cs (.slice a0 cs.length n0) hwf er ix hp w h)
  have HL := Lib.hid hl
  obtain ⟨g, hg⟩ : ∃ g, chkE cs t n l = g := ⟨_, rfl⟩
  have hg2 := hg
  unfold chkE askE at hg2
  rw [hp] at hg2
  simp only at hg2
  have HG := Lib.hid hg2
  rw [hg]
  rw [hN] at HC
  rw [hM] at HL
  rw [hN, hM]
  clear h hl hp hg hg2 hN
  have HM := Lib.hid hM
  clear hM
  go_enter Try.func36, Try.ntmps36
  go_wp2_with fail
  refine HC.out.mono ?_
  rintro e w1 ⟨rfl, hb1⟩
  by_cases h0 : er = 0
  · subst h0
    have HL1 := Lib.hid (HL.out.keep hb1)
    have hcall := hasbad_any (.slice a1 M n1) l w1 HL1.out
    obtain ⟨bb, hbb⟩ : ∃ bb, l.any (fun x => !nodB x) = bb := ⟨_, rfl⟩
    have hgg := HG.out
    rw [hbb] at hcall hgg
    have HCA := Lib.hid hcall
    simp only [ne_eq, not_true_eq_false, if_false] at hgg
    unfold badA at hgg
    have HGG := Lib.hid hgg
    clear hgg hcall hbb HG HL HC
    by_cases t1 : t < 0
    · obtain rfl : 2 = g := by have := HGG.out; simpa [t1] using this
      go_wp2_with fail
      go_ret
      exact ⟨rfl, hb1⟩
    have e1 : decide (t < 0) = false := nb t1
    by_cases t2 : 1099511627776 < t
    · obtain rfl : 2 = g := by have := HGG.out; simpa [t2] using this
      go_wp2_with fail
      go_ret
      exact ⟨rfl, hb1⟩
    have e2 : decide (t > 1099511627776) = false := nb t2
    by_cases t3 : n < 1
    · obtain rfl : 2 = g := by have := HGG.out; simpa [t3] using this
      go_wp2_with fail
      go_ret
      exact ⟨rfl, hb1⟩
    have e3 : decide (n < 1) = false := nb t3
    by_cases t4 : 1200 < n
    · obtain rfl : 2 = g := by have := HGG.out; simpa [t4] using this
      go_wp2_with fail
      go_ret
      exact ⟨rfl, hb1⟩
    have hgb : (if bb = true then 2 else 0) = g := by have := HGG.out; simpa [t1, t2, t3, t4] using this
    have e4 : decide (n > 1200) = false := nb t4
    clear HGG
    cases bb
    · obtain rfl : 0 = g := by simpa using hgb
      clear t1 t2 t3 t4 hgb
      go_wp2_with (go_at_call 53; refine HCA.out.mono ?_; rintro e w2 ⟨rfl, rfl⟩)
      go_ret
      exact ⟨rfl, hb1⟩
    · obtain rfl : 2 = g := by simpa using hgb
      clear t1 t2 t3 t4 hgb
      go_wp2_with (go_at_call 53; refine HCA.out.mono ?_; rintro e w2 ⟨rfl, rfl⟩)
      go_ret
      exact ⟨rfl, hb1⟩
  · obtain rfl : er = g := by have := HG.out; simpa [h0] using this
    have e1 : (er != 0) = true := by simpa using h0
    go_wp2_with fail
    go_ret
    exact ⟨rfl, hb1⟩
set_option maxHeartbeats 1000000 in
theorem rasked_any (v : Value) (cs : List Ct) (t n : Int) (w : World) (h : RdC w v cs) :
    Calls Try.prog 48 #[v, .int .i64 t, .int .i64 n] w fun e w' => e = .returned (.int .i64 (askE cs t n)) ∧ Below w.heap.size w w' := by
  obtain ⟨a0, n0, rfl⟩ := h.form
  obtain ⟨er, ix, hp⟩ : ∃ er ix, planChk cs = (er, ix) := ⟨_, _, rfl⟩
  have HC := Lib.hid (rpchk_aux cs (.slice a0 cs.length n0) er ix hp w h)
  obtain ⟨N, hN⟩ : ∃ N, cs.length = N := ⟨_, rfl⟩
  obtain ⟨g, hg⟩ : ∃ g, askE cs t n = g := ⟨_, rfl⟩
  have hg2 := hg
  unfold askE badA at hg2
  rw [hp] at hg2
  simp only at hg2
  rw [hg]
  rw [hN] at HC
  rw [hN]
  clear h hp hg hN
  go_enter Try.func48, Try.ntmps48
  have HG := Lib.hid hg2
  clear hg2
  go_wp2_with fail
  refine HC.out.mono ?_
  rintro e w1 ⟨rfl, hb1⟩
  by_cases h0 : er = 0
  · subst h0
    have HGG := Lib.hid (by have := HG.out; simpa using this : (if t < 0 ∨ 1099511627776 < t ∨ n < 1 ∨ 1200 < n then 2 else 0) = g)
    clear HG HC
    by_cases t1 : t < 0
    · obtain rfl : 2 = g := by have := HGG.out; simpa [t1] using this
      go_wp2_with fail
      go_ret
      exact ⟨rfl, hb1⟩
    have e1 : decide (t < 0) = false := nb t1
    by_cases t2 : 1099511627776 < t
    · obtain rfl : 2 = g := by have := HGG.out; simpa [t2] using this
      go_wp2_with fail
      go_ret
      exact ⟨rfl, hb1⟩
    have e2 : decide (t > 1099511627776) = false := nb t2
    by_cases t3 : n < 1
    · obtain rfl : 2 = g := by have := HGG.out; simpa [t3] using this
      go_wp2_with fail
      go_ret
      exact ⟨rfl, hb1⟩
    have e3 : decide (n < 1) = false := nb t3
    by_cases t4 : 1200 < n
    · obtain rfl : 2 = g := by have := HGG.out; simpa [t4] using this
      go_wp2_with fail
      go_ret
      exact ⟨rfl, hb1⟩
    obtain rfl : 0 = g := by have := HGG.out; simpa [t1, t2, t3, t4] using this
    have e4 : decide (n > 1200) = false := nb t4
    go_wp2_with fail
    go_ret
    exact ⟨rfl, hb1⟩
  · obtain rfl : er = g := by have := HG.out; simpa [h0] using this
    have e1 : (er != 0) = true := by simpa using h0
    go_wp2_with fail
    go_ret
    exact ⟨rfl, hb1⟩
set_option maxHeartbeats 1000000 in
theorem rbetween_any (v : Value) (cs : List Ct) (x y t n : Int) (w : World) (h : RdC w v cs) :
    Calls Try.prog 40 #[v, .int .i64 x, .int .i64 y, .int .i64 t, .int .i64 n] w fun e w' => e = .returned (.int .i64 (chkE cs t n [x, y])) ∧ Below w.heap.size w w' := by
  obtain ⟨a0, n0, rfl⟩ := h.form
  have hC := rasked_any (.slice a0 cs.length n0) cs t n w h
  obtain ⟨N, hN⟩ : ∃ N, cs.length = N := ⟨_, rfl⟩
  obtain ⟨g, hg⟩ : ∃ g, chkE cs t n [x, y] = g := ⟨_, rfl⟩
  have hg2 := hg
  unfold chkE at hg2
  obtain ⟨er, her⟩ : ∃ er, askE cs t n = er := ⟨_, rfl⟩
  rw [her] at hg2 hC
  rw [hg]
  rw [hN] at hC
  rw [hN]
  have hbx := fun w => rnode_any x w
  have hby := fun w => rnode_any y w
  simp only [List.any_cons, List.any_nil, Bool.or_false] at hg2
  obtain ⟨bx, ebx⟩ : ∃ b, nodB x = b := ⟨_, rfl⟩
  obtain ⟨by', eby⟩ : ∃ b, nodB y = b := ⟨_, rfl⟩
  rw [ebx, eby] at hg2
  simp only [ebx] at hbx
  simp only [eby] at hby
  have HC := Lib.hid hC
  have HG := Lib.hid hg2
  have HX := Lib.hid hbx
  have HY := Lib.hid hby
  clear h hg hN her hC hg2 hbx hby ebx eby
  go_enter Try.func40, Try.ntmps40
  go_wp2_with fail
  refine HC.out.mono ?_
  rintro e w1 ⟨rfl, hb1⟩
  by_cases h0 : er = 0
  · subst h0
    cases bx <;> cases by'
    all_goals
      have hg := HG.out
      simp at hg
      subst hg
      clear HG
      go_wp2_with (first | (go_at_call 58; refine (HX.out _).mono ?_; rintro e w2 ⟨rfl, rfl⟩) | (go_at_call 58; refine (HY.out _).mono ?_; rintro e w2 ⟨rfl, rfl⟩))
      go_ret
      exact ⟨rfl, hb1⟩
  · obtain rfl : er = g := by have := HG.out; simpa [h0] using this
    have e1 : (er == 0) = false := by simpa using h0
    go_wp2_with fail
    go_ret
    exact ⟨rfl, hb1⟩
end Go.Proofs.Ytgmfifilgbbogaa
