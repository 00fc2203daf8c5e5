


/- Routes plainly: earliest arrivals by a queue of stops. No program is named. -/
import Derived.Test.YtgmfifilgbbogaaHQ
import Derived.Test.YtgmfifilgbbogaaRT1
namespace Go.Proofs.Ytgmfifilgbbogaa
set_option linter.unusedSimpArgs false
set_option linter.unusedVariables false

theorem nodup_nat {l : List Nat} (N : Nat) (hn : l.Nodup) (h : ∀ x, x ∈ l → x < N) : l.length ≤ N := by
  induction N generalizing l with
  | zero =>
    cases l with
    | nil => simp
    | cons a l => exact absurd (h a (List.mem_cons_self ..)) (Nat.not_lt_zero _)
  | succ N ih =>
    have h2 := ih (l := l.filter (fun x => x ≠ N)) (hn.filter _) (fun x hx => by
      rw [List.mem_filter] at hx
      have h3 := h x hx.1
      have h4 : x ≠ N := by simpa using hx.2
      omega)
    have h5 : (l.filter (fun x => decide (x ≠ N))).length + l.count N = l.length := by
      have := List.length_eq_countP_add_countP (l := l) (fun x => decide (x ≠ N))
      rw [← List.countP_eq_length_filter, this]
      congr 1
      unfold List.count
      refine List.countP_congr fun x _ => ?_
      simp
    have h6 := List.nodup_iff_count.1 hn N
    omega
/-- a search under way: X the nodes that are done, T the tick, D the contacts that led to a new stop -/
structure DJ (cs : List Ct) (n u t : Int) (out : List Int) (q : List Tm) (X : List Int) (D : List Nat) (T : Int) : Prop where
  lab : Lab cs n u t out
  ent : ∀ e, e ∈ q → (1 ≤ e.nd ∧ e.nd ≤ 16) ∧ T ≤ e.tk ∧ 0 ≤ gI out e.nd ∧ gI out e.nd ≤ e.tk
  nod : q.Nodup
  exp : ∀ x, x ∈ X → (1 ≤ x ∧ x ≤ 16) ∧ 0 ≤ gI out x ∧ gI out x ≤ T ∧ ∀ e, e ∈ q → e.nd = x → gI out x < e.tk
  clo : ∀ i, i < cs.length → (cs.getD i c0).fr ∈ X → Clo cs n out i
  pend : ∀ v, 1 ≤ v ∧ v ≤ 16 → 0 ≤ gI out v → v ∉ X → (⟨v, gI out v⟩ : Tm) ∈ q
  dnd : D.Nodup
  dlt : ∀ i, i ∈ D → i < cs.length ∧ (cs.getD i c0).fr ∈ X
  cnt : q.length ≤ 1 + D.length
  heap : hp q
  nn : 0 ≤ T
/-- .. while node x is being looked at: k contacts are done -/
structure DI (cs : List Ct) (n u t : Int) (out : List Int) (q : List Tm) (X : List Int) (D : List Nat) (T x : Int) (k : Nat) : Prop where
  lab : Lab cs n u t out
  ent : ∀ e, e ∈ q → (1 ≤ e.nd ∧ e.nd ≤ 16) ∧ T ≤ e.tk ∧ 0 ≤ gI out e.nd ∧ gI out e.nd ≤ e.tk
  nod : q.Nodup
  exp : ∀ y, y ∈ X → (1 ≤ y ∧ y ≤ 16) ∧ 0 ≤ gI out y ∧ gI out y ≤ T ∧ ∀ e, e ∈ q → e.nd = y → gI out y < e.tk
  clo : ∀ i, i < cs.length → (cs.getD i c0).fr ∈ X → Clo cs n out i
  xn : 1 ≤ x ∧ x ≤ 16
  xX : x ∉ X
  xT : gI out x = T
  xe : ∀ e, e ∈ q → e.nd = x → T < e.tk
  clx : ∀ i, i < k → i < cs.length → (cs.getD i c0).fr = x → Clo cs n out i
  pend : ∀ v, 1 ≤ v ∧ v ≤ 16 → 0 ≤ gI out v → v ∉ X → v ≠ x → (⟨v, gI out v⟩ : Tm) ∈ q
  dnd : D.Nodup
  dlt : ∀ i, i ∈ D → i < cs.length ∧ ((cs.getD i c0).fr ∈ X ∨ ((cs.getD i c0).fr = x ∧ i < k))
  cnt : q.length ≤ 1 + D.length
  heap : hp q
  nn : 0 ≤ T
theorem tm_eta (a : Tm) : (⟨a.nd, a.tk⟩ : Tm) = a := by cases a; rfl
theorem dj_ini {cs : List Ct} {n u t : Int} (hu : 1 ≤ u ∧ u ≤ 16) (ht : 0 ≤ t) : DJ cs n u t (ini u t) [⟨u, t⟩] [] [] t := by
  have hat := fun v (hv : 0 ≤ v) => ini_at (u := u) (t := t) (v := v) hu hv
  have hu2 : gI (ini u t) u = t := by rw [hat u (by omega), if_pos rfl]
  refine ⟨⟨by unfold ini; simp, by rw [hu2]; omega, fun v hv => ?_⟩, fun e he => ?_, by simp, (fun x hx => by cases hx), (fun i _ hx => by cases hx), fun v hv h0 _ => ?_, by simp, (fun i hi => by cases hi), by simp, fun k h0 hk => ?_, ht⟩
  · rw [hat v hv]
    split
    · rename_i e
      subst e
      exact .inr ⟨ht, [], rfl⟩
    · exact .inl rfl
  · simp only [List.mem_cons, List.mem_nil_iff, or_false] at he
    subst he
    exact ⟨hu, Int.le_refl _, by show 0 ≤ gI (ini u t) u; rw [hu2]; exact ht, by show gI (ini u t) u ≤ t; rw [hu2]; exact Int.le_refl _⟩
  · rw [hat v (by omega)] at h0 ⊢
    split at h0
    · rename_i e
      subst e
      rw [if_pos rfl]
      simp
    · omega
  · simp at hk
    omega
/-- a stop is taken: the earliest one -/
theorem dj_top {cs : List Ct} {n u t : Int} {out : List Int} {q : List Tm} {X : List Int} {D : List Nat} {T : Int} (h : DJ cs n u t out q X D T) (hq : 0 < q.length) : (∀ e, e ∈ outL q 0 → e ∈ q ∧ (g q 0).tk ≤ e.tk ∧ e ≠ g q 0) ∧ g q 0 ∈ q ∧ (outL q 0).Nodup ∧ (∀ e, e ∈ q → e ≠ g q 0 → e ∈ outL q 0) ∧ (outL q 0).length + 1 = q.length := by
  have hp := out_perm (l := q) hq
  have hnd : (g q 0 :: outL q 0).Nodup := hp.symm.nodup_iff.1 h.nod |> fun h => h
  obtain ⟨h1, h2⟩ := List.nodup_cons.1 hnd
  refine ⟨fun e he => ⟨hp.subset (List.mem_cons_of_mem _ he), ?_, fun hh => h1 (hh ▸ he)⟩, hp.subset (List.mem_cons_self ..), h2, fun e he hne => ?_, by rw [out_len]; omega⟩
  · have hm := hp.subset (List.mem_cons_of_mem _ he)
    obtain ⟨k, hk, rfl⟩ := List.getElem_of_mem hm
    have := hp_top h.heap k hk
    unfold ltT at this
    rw [g_at hk] at this
    omega
  · rcases List.mem_cons.1 (hp.symm.subset he) with hh | hh
    · exact absurd hh hne
    · exact hh
theorem dj_stale {cs : List Ct} {n u t : Int} {out : List Int} {q : List Tm} {X : List Int} {D : List Nat} {T : Int} (h : DJ cs n u t out q X D T) (hq : 0 < q.length) (hs : gI out (g q 0).nd < (g q 0).tk) : DJ cs n u t out (outL q 0) X D (g q 0).tk := by
  obtain ⟨h1, h2, h3, h4, h5⟩ := dj_top h hq
  have hT := (h.ent _ h2).2.1
  refine ⟨h.lab, fun e he => ⟨(h.ent e (h1 e he).1).1, (h1 e he).2.1, (h.ent e (h1 e he).1).2.2⟩, h3, fun x hx => ?_, h.clo, fun v hv h0 hvX => ?_, h.dnd, h.dlt, by have := h.cnt; omega, out_hp h.heap hq, by have := h.nn; omega⟩
  · obtain ⟨a, b, c, d⟩ := h.exp x hx
    exact ⟨a, b, by omega, fun e he hex => d e (h1 e he).1 hex⟩
  · refine h4 _ (h.pend v hv h0 hvX) (fun hh => ?_)
    rw [← hh] at hs
    exact absurd hs (by show ¬ gI out v < gI out v; omega)
theorem dj_take {cs : List Ct} {n u t : Int} {out : List Int} {q : List Tm} {X : List Int} {D : List Nat} {T : Int} (h : DJ cs n u t out q X D T) (hq : 0 < q.length) (hs : ¬ gI out (g q 0).nd < (g q 0).tk) : DI cs n u t out (outL q 0) X D (g q 0).tk (g q 0).nd 0 := by
  obtain ⟨h1, h2, h3, h4, h5⟩ := dj_top h hq
  obtain ⟨e1, e2, e3, e4⟩ := h.ent _ h2
  have hx : gI out (g q 0).nd = (g q 0).tk := by omega
  refine ⟨h.lab, fun e he => ⟨(h.ent e (h1 e he).1).1, (h1 e he).2.1, (h.ent e (h1 e he).1).2.2⟩, h3, fun x hx => ?_, h.clo, e1, fun hX => ?_, hx, fun e he hn => ?_, fun i hi => absurd hi (Nat.not_lt_zero _), fun v hv h0 hvX hvx => ?_, h.dnd, fun i hi => ⟨(h.dlt i hi).1, .inl (h.dlt i hi).2⟩, by have := h.cnt; omega, out_hp h.heap hq, by have := h.nn; omega⟩
  · obtain ⟨a, b, c, d⟩ := h.exp x hx
    exact ⟨a, b, by omega, fun e he hex => d e (h1 e he).1 hex⟩
  · have := (h.exp _ hX).2.2.2 _ h2 rfl
    omega
  · have hle := (h1 e he).2.1
    have hne := (h1 e he).2.2
    refine Decidable.byContradiction fun hlt => hne ?_
    rw [← tm_eta e, ← tm_eta (g q 0), hn, show e.tk = (g q 0).tk by omega]
  · exact h4 _ (h.pend v hv h0 hvX) (fun hh => hvx (by rw [← hh]))
theorem di_end {cs : List Ct} {n u t : Int} {out : List Int} {q : List Tm} {X : List Int} {D : List Nat} {T x : Int} (h : DI cs n u t out q X D T x cs.length) : DJ cs n u t out q (x :: X) D T := by
  refine ⟨h.lab, h.ent, h.nod, fun y hy => ?_, fun i hi hy => ?_, fun v hv h0 hvX => ?_, h.dnd, fun i hi => ?_, h.cnt, h.heap, h.nn⟩
  · rcases List.mem_cons.1 hy with rfl | hy
    · exact ⟨h.xn, by rw [h.xT]; exact h.nn, by rw [h.xT]; exact Int.le_refl _, fun e he hx => by rw [h.xT]; exact h.xe e he hx⟩
    · exact h.exp y hy
  · rcases List.mem_cons.1 hy with hy | hy
    · exact h.clx i hi hi hy
    · exact h.clo i hi hy
  · exact h.pend v hv h0 (fun hh => hvX (List.mem_cons_of_mem _ hh)) (fun hh => hvX (hh ▸ List.mem_cons_self ..))
  · obtain ⟨h1, h2⟩ := h.dlt i hi
    rcases h2 with h2 | ⟨h2, _⟩
    · exact ⟨h1, List.mem_cons_of_mem _ h2⟩
    · exact ⟨h1, h2 ▸ List.mem_cons_self ..⟩
/-- a contact that changes nothing -/
theorem di_skip {cs : List Ct} {n u t : Int} {out : List Int} {q : List Tm} {X : List Int} {D : List Nat} {T x : Int} {k : Nat} (h : DI cs n u t out q X D T x k) (hc : (cs.getD k c0).fr = x → Clo cs n out k) : DI cs n u t out q X D T x (k + 1) := by
  refine ⟨h.lab, h.ent, h.nod, h.exp, h.clo, h.xn, h.xX, h.xT, h.xe, fun i hi hl hx => ?_, h.pend, h.dnd, fun i hi => ?_, h.cnt, h.heap, h.nn⟩
  · rcases Nat.lt_succ_iff_lt_or_eq.1 hi with hi | rfl
    · exact h.clx i hi hl hx
    · exact hc hx
  · obtain ⟨h1, h2⟩ := h.dlt i hi
    rcases h2 with h2 | ⟨h2, h3⟩
    · exact ⟨h1, .inl h2⟩
    · exact ⟨h1, .inr ⟨h2, by omega⟩⟩
/-- a contact that brings something earlier -/
theorem di_put {cs : List Ct} {n u t : Int} {out : List Int} {q : List Tm} {X : List Int} {D : List Nat} {T x : Int} {k : Nat} (hp : okP cs) (hn : 1 ≤ n) (h : DI cs n u t out q X D T x k) (hk : k < cs.length) (hx : (cs.getD k c0).fr = x) {s : Int} (hs : hopO (cs.getD k c0) T n = some s) (hb : gI out (cs.getD k c0).dt = -1 ∨ s < gI out (cs.getD k c0).dt) : DI cs n u t (out.set (cs.getD k c0).dt.toNat s) (putL q ⟨(cs.getD k c0).dt, s⟩) X (k :: D) T x (k + 1) := by
  have hok := hp.at hk
  obtain ⟨hgt, hs0⟩ := hop_gt hok hn hs
  have hd := hok.2.1
  obtain ⟨d, hdd⟩ : ∃ d, (cs.getD k c0).dt = d := ⟨_, rfl⟩
  rw [hdd] at hb hd ⊢
  have hlen : d.toNat < out.length := by rw [h.lab.1]; omega
  have hset := fun y (hy : 0 ≤ y) => gI_set (l := out) (x := d) (y := y) (a := s) (by omega) hlen hy
  have hdX : d ∉ X := fun hh => by
    have := h.exp d hh
    rcases hb with hb | hb <;> omega
  have hdx : d ≠ x := fun hh => by
    have := h.xT
    rw [hh] at hb
    have := h.nn
    rcases hb with hb | hb <;> omega
  have hsame : ∀ y, 0 ≤ y → y ≠ d → gI (out.set d.toNat s) y = gI out y := fun y hy hne => by rw [hset y hy, if_neg (fun e => hne e.symm)]
  have hnew : gI (out.set d.toNat s) d = s := by rw [hset d (by omega), if_pos rfl]
  have hperm := put_perm q ⟨d, s⟩
  have hmem : ∀ e, e ∈ putL q ⟨d, s⟩ ↔ e = ⟨d, s⟩ ∨ e ∈ q := fun e => by
    rw [hperm.mem_iff, List.mem_cons]
  have hnq : (⟨d, s⟩ : Tm) ∉ q := fun hh => by
    have h3 : 0 ≤ gI out d ∧ gI out d ≤ s := (h.ent _ hh).2.2
    rcases hb with hb | hb <;> omega
  have hclo : ∀ i, i < cs.length → (cs.getD i c0).fr ≠ d → Clo cs n out i → Clo cs n (out.set d.toNat s) i := fun i hi hne hc => by
    have hoki := hp.at hi
    have hfi := hoki.1
    have hdi := hoki.2.1
    intro h0 r hr
    rw [hsame (cs.getD i c0).fr (by omega) hne] at h0 hr
    have h2 := hc h0 r hr
    by_cases hid : (cs.getD i c0).dt = d
    · rw [hid] at h2 ⊢
      rw [hnew]
      rcases hb with hb | hb <;> omega
    · rw [hsame (cs.getD i c0).dt (by omega) hid]
      exact h2
  refine ⟨⟨by rw [List.length_set]; exact h.lab.1, ?_, fun v hv => ?_⟩, fun e he => ?_, hperm.symm.nodup_iff.1 (List.nodup_cons.2 ⟨hnq, h.nod⟩), fun y hy => ?_, fun i hi hy => hclo i hi (fun e => hdX (e ▸ hy)) (h.clo i hi hy), h.xn, h.xX, ?_, fun e he hex => ?_, fun i hi hl hix => ?_, fun v hv h0 hvX hvx => ?_, List.nodup_cons.2 ⟨fun hh => ?_, h.dnd⟩, fun i hi => ?_, ?_, put_hp h.heap _, h.nn⟩
  · have hsrc := h.lab.2.1
    by_cases hud : u = d
    · rw [hud] at hsrc ⊢
      rw [hnew]
      rcases hb with hb | hb <;> omega
    · by_cases h0u : 0 ≤ u
      · rw [hsame u h0u hud]; exact hsrc
      · have e1 : u.toNat = (0 : Int).toNat := by omega
        have e2 : gI (out.set d.toNat s) u = gI (out.set d.toNat s) 0 := by unfold gI; rw [e1]
        have e3 : gI out u = gI out 0 := by unfold gI; rw [e1]
        rw [e2, hsame 0 (by omega) (by omega), ← e3]
        exact hsrc
  · by_cases hvd : v = d
    · subst hvd
      rw [hnew]
      refine .inr ⟨by omega, ?_⟩
      have hxa : Arr cs n u t x T := by
        rcases h.lab.2.2 x (by have := h.xn; omega) with h9 | ⟨_, h9⟩
        · rw [h.xT] at h9; have := h.nn; omega
        · rw [h.xT] at h9; exact h9
      obtain ⟨l, hw⟩ := hxa
      exact ⟨l ++ [k], walk_app' hw (walk_step hk hx hs (by rw [hdd]; rfl))⟩
    · rw [hsame v hv hvd]
      exact h.lab.2.2 v hv
  · rcases (hmem e).1 he with rfl | he
    · exact ⟨hd, by show T ≤ s; omega, by show 0 ≤ gI _ d; rw [hnew]; omega, by show gI _ d ≤ s; rw [hnew]; exact Int.le_refl _⟩
    · obtain ⟨a, b, c, f⟩ := h.ent e he
      by_cases hed : e.nd = d
      · refine ⟨a, b, ?_, ?_⟩ <;> rw [hed, hnew]
        · omega
        · rw [hed] at c f
          rcases hb with hb | hb <;> omega
      · rw [hsame _ (by omega) hed]
        exact ⟨a, b, c, f⟩
  · obtain ⟨a, b, c, f⟩ := h.exp y hy
    have hyd : y ≠ d := fun e => hdX (e ▸ hy)
    rw [hsame y (by omega) hyd]
    refine ⟨a, b, c, fun e he hey => ?_⟩
    rcases (hmem e).1 he with rfl | he
    · exact absurd hey.symm hyd
    · exact f e he hey
  · rw [hsame x (by have := h.xn; omega) (fun e => hdx e.symm)]
    exact h.xT
  · rcases (hmem e).1 he with rfl | he
    · exact absurd hex hdx
    · exact h.xe e he hex
  · rcases Nat.lt_succ_iff_lt_or_eq.1 hi with hi | rfl
    · exact hclo i hl (fun e => hdx (e.symm.trans hix)) (h.clx i hi hl hix)
    · intro h0 r hr
      rw [hix, hsame x (by have := h.xn; omega) (fun e => hdx e.symm), h.xT] at hr
      rw [hs] at hr
      simp only [Option.some.injEq] at hr
      subst hr
      rw [hdd, hnew]
      omega
  · by_cases hvd : v = d
    · subst hvd
      rw [hnew]
      exact (hmem _).2 (.inl rfl)
    · rw [hsame v (by omega) hvd] at h0 ⊢
      exact (hmem _).2 (.inr (h.pend v hv h0 hvX hvx))
  · rcases (h.dlt k hh).2 with h9 | ⟨_, h9⟩
    · rw [hx] at h9; exact h.xX h9
    · omega
  · rcases List.mem_cons.1 hi with rfl | hi
    · exact ⟨hk, .inr ⟨hx, by omega⟩⟩
    · obtain ⟨h1, h2⟩ := h.dlt i hi
      rcases h2 with h2 | ⟨h2, h3⟩
      · exact ⟨h1, .inl h2⟩
      · exact ⟨h1, .inr ⟨h2, by omega⟩⟩
  · rw [put_len]
    have := h.cnt
    simp only [List.length_cons]
    omega
theorem DJ.dlen {cs : List Ct} {n u t : Int} {out : List Int} {q : List Tm} {X : List Int} {D : List Nat} {T : Int} (h : DJ cs n u t out q X D T) : D.length ≤ cs.length := nodup_nat _ h.dnd fun i hi => (h.dlt i hi).1
theorem DI.dlen {cs : List Ct} {n u t : Int} {out : List Int} {q : List Tm} {X : List Int} {D : List Nat} {T x : Int} {k : Nat} (h : DI cs n u t out q X D T x k) : D.length ≤ cs.length := nodup_nat _ h.dnd fun i hi => (h.dlt i hi).1
/-- nothing left in the queue: all is known -/
theorem dj_done {cs : List Ct} {n u t : Int} {out : List Int} {X : List Int} {D : List Nat} {T : Int} (hp : okP cs) (hn : 1 ≤ n) (hu : 1 ≤ u ∧ u ≤ 16) (ht : 0 ≤ t) (h : DJ cs n u t out [] X D T) : out = rchL cs n u t 16 := by
  have hc : ∀ i, i < cs.length → Clo cs n out i := fun i hi h0 s hs => by
    have hok := hp.at hi
    have hX : (cs.getD i c0).fr ∈ X := Decidable.byContradiction fun hh => by
      have := h.pend _ hok.1 h0 hh
      cases this
    exact h.clo i hi hX h0 s hs
  have hr := rch_all hp hn hu ht 16 (cs := cs)
  refine List.ext_getElem (by rw [h.lab.1, hr.1]) fun i h1 h2 => ?_
  have e := (lab_least h.lab hc (i : Int) (by omega)).uniq (rch_least hp hn hu ht 16 (by decide) (i : Int) (by omega))
  unfold gI at e
  rw [Int.toNat_natCast, List.getD_eq_getElem?_getD, List.getD_eq_getElem?_getD, List.getElem?_eq_getElem h1, List.getElem?_eq_getElem h2] at e
  exact e
end Go.Proofs.Ytgmfifilgbbogaa
