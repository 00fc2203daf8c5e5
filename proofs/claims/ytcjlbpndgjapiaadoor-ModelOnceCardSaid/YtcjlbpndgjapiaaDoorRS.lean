/- A drawn region with more than one store into what it reads: what is read stands as it was till the first of the stores comes up. Plain; no program is named. -/
import Derived.Test.YtcjlbpndgjapiaaDoorRQ
import Derived.Laws.IdiomCopy
namespace Go.Proofs.YtcjlbpndgjapiaaDoor
set_option linter.unusedSimpArgs false
set_option linter.unusedVariables false
open Go.RowKit

section
variable {P : Program} {md : Region.Mode} {ops : Array Oper} {Q : Exit → Act → World → Prop} {S S0 : World → Prop} {B : List Nat}
/-- one of B has come up -/
def late (B : List Nat) (L : Array Bool) : Bool := B.any fun b => L.getD b false
/-- as wpAnyH; but S is asked for only till one of B has come up, S0 throughout -/
def wpAnyG (P : Program) (md : Region.Mode) (ops : Array Oper) (Q : Exit → Act → World → Prop) (S0 S : World → Prop) (B : List Nat) : Nat → Array Bool → Act → World → Prop
  | 0, L, a, w => Region.ready md ops L = [] ∧ Q .normal a w
  | fuel + 1, L, a, w =>
    (Region.ready md ops L = [] → Q .normal a w) ∧
    ∀ i ∈ Region.ready md ops L, wpOp P ops Q i (fun a' w' => (S0 w' ∧ (late B (L.setIfInBounds i true) = true ∨ S w')) ∧ wpAnyG P md ops Q S0 S B fuel (L.setIfInBounds i true) a' w') a w
theorem wpAny_of_G : ∀ (fuel : Nat) (L : Array Bool) (a : Act) (w : World), wpAnyG P md ops Q S0 S B fuel L a w → wpAny P md ops Q fuel L a w
  | 0, _, _, _, h => h
  | fuel + 1, _, _, _, h => ⟨h.1, fun i hi => wpOp_mono (fun a' w' h' => wpAny_of_G fuel _ a' w' h'.2) (h.2 i hi)⟩
/-- all of B wait for number i -/
def lateOk (md : Region.Mode) (ops : Array Oper) (B : List Nat) (i : Nat) : Bool := B.all fun b => b != i && (match ops[b]? with | some o => o.after.any fun e => Region.binds md e && e.on == i | none => true)
theorem lateOk_spec {i b : Nat} (h : lateOk md ops B i = true) (hb : b ∈ B) : b ≠ i ∧ ∀ o, ops[b]? = some o → ∃ e ∈ o.after, Region.binds md e = true ∧ e.on = i := by
  unfold lateOk at h
  rw [List.all_eq_true] at h
  have h1 := h b hb
  simp only [Bool.and_eq_true, bne_iff_ne, ne_eq] at h1
  refine ⟨h1.1, fun o ho => ?_⟩
  have h2 := h1.2
  rw [ho] at h2
  simp only [Array.any_eq_true] at h2
  obtain ⟨k, hk, hb⟩ := h2
  simp only [Bool.and_eq_true, beq_iff_eq] at hb
  exact ⟨_, Array.getElem_mem hk, hb.1, hb.2⟩
theorem late_set {L : Array Bool} {j : Nat} (hj : j ∉ B) (h : late B L = false) : late B (L.setIfInBounds j true) = false := by
  unfold late at h ⊢
  rw [List.any_eq_false] at h ⊢
  intro b hb
  have hne : j ≠ b := fun e => hj (e ▸ hb)
  rw [getD_set_ne false hne]
  exact h b hb
theorem late_more {L : Array Bool} {j : Nat} (h : late B L = true) : late B (L.setIfInBounds j true) = true := by
  unfold late at h ⊢
  rw [List.any_eq_true] at h ⊢
  obtain ⟨b, hb, h1⟩ := h
  refine ⟨b, hb, ?_⟩
  by_cases he : j = b
  · subst he
    rcases Nat.lt_or_ge j L.size with h' | h'
    · simp [h']
    · simp [Array.getElem?_eq_none h'] at h1
  · rw [getD_set_ne false he]; exact h1
/-- number i, not of B, yields its value in every world that meets T, where T is what is asked for till i comes up -/
theorem wpAnyG_first {i : Nat} {oi : Oper} {v : Value} {T : World → Prop} (hi : ops[i]? = some oi) (hsel : ∀ (j : Nat) (o : Oper) cs b, ops[j]? = some o → o.op ≠ .select cs b)
    (hQ : ∀ c a w, Q (.panic c) (a.put oi.dst v) w → Q (.panic c) a w) (hiB0 : i ∉ B) (hT : (∀ w, S0 w → T w) ∨ (lateOk md ops B i = true ∧ ∀ w, S w → T w)) :
    ∀ (fuel : Nat) (L : Array Bool) (a : Act) (w : World),
      (∀ j oj, ops[j]? = some oj → j ≠ i → L.getD j true = false → (∀ e ∈ oj.after, Region.binds md e = true → e.on ≠ i) → oi.apart ops oj = true) →
      i ∈ Region.ready md ops L → YieldsIf P ops T oi v a → S0 w → (late B L = true ∨ S w) → (lateOk md ops B i = true → late B L = false) → T w →
      wpAnyG P md ops Q S0 S B fuel (L.setIfInBounds i true) (a.put oi.dst v) w → wpAnyG P md ops Q S0 S B (fuel + 1) L a w := by
  intro fuel
  induction fuel with
  | zero =>
    intro L a w _ hr hy h0 hS hl hTw H
    refine ⟨fun h => (by rw [h] at hr; cases hr), fun j hj => ?_⟩
    by_cases hji : j = i
    · subst hji; exact hy.wpOp hi hTw ⟨⟨h0, hS.imp late_more id⟩, H⟩
    · have := ready_mono hj hji
      rw [H.1] at this
      cases this
  | succ fuel ih =>
    intro L a w hfree hr hy h0 hS hl hTw H
    refine ⟨fun h => (by rw [h] at hr; cases hr), fun j hj => ?_⟩
    by_cases hji : j = i
    · subst hji; exact hy.wpOp hi hTw ⟨⟨h0, hS.imp late_more id⟩, H⟩
    · have h1 := H.2 j (ready_mono hj hji)
      obtain ⟨hjun, oj, hoj, hall⟩ := mem_ready.1 hj
      have hnot : ∀ e ∈ oj.after, Region.binds md e = true → e.on ≠ i := fun e he hb heq => by
        have h1 := hall e he hb
        have h0 := (mem_ready.1 hr).1
        rw [heq] at h1
        rcases Nat.lt_or_ge i L.size with h' | h'
        · simp [h'] at h0 h1; rw [h0] at h1; cases h1
        · simp [Array.getElem?_eq_none h'] at h1
      have hjB : lateOk md ops B i = true → j ∉ B := fun hB h => by
        obtain ⟨e, he, hb, heq⟩ := (lateOk_spec hB h).2 oj hoj
        exact hnot e he hb heq
      have hiB : lateOk md ops B i = true → i ∉ B := fun hB h => (lateOk_spec hB h).1 rfl
      have h2 := wpOp_putIf hoj (hfree j oj hoj hji hjun hnot) (fun cs b => hsel i oi cs b hi) (fun cs b => hsel j oj cs b hoj) hQ hy h1
      have hfree' : ∀ k ok, ops[k]? = some ok → k ≠ i → (L.setIfInBounds j true).getD k true = false →
          (∀ e ∈ ok.after, Region.binds md e = true → e.on ≠ i) → oi.apart ops ok = true := fun k ok hk hki hun hno => by
        refine hfree k ok hk hki ?_ hno
        by_cases hjk : j = k
        · subst hjk; exact hjun
        · rw [getD_set_ne true hjk] at hun; exact hun
      have hgood : ∀ w', S0 w' → (late B ((L.setIfInBounds i true).setIfInBounds j true) = true ∨ S w') → (S0 w' ∧ (late B (L.setIfInBounds j true) = true ∨ S w')) ∧ T w' := fun w' k0 k1 => by
        rcases hT with hT | ⟨hB, hT⟩
        · refine ⟨⟨k0, ?_⟩, hT w' k0⟩
          rcases k1 with k1 | k1
          · by_cases hx : late B (L.setIfInBounds j true) = true
            · exact .inl hx
            · by_cases hib : i ∈ B
              · exact absurd hib hiB0
              · rw [Array.setIfInBounds_comm _ _ (Ne.symm hji)] at k1
                rw [late_set hib (by simpa using hx)] at k1
                cases k1
          · exact .inr k1
        · have hnl : late B ((L.setIfInBounds i true).setIfInBounds j true) = false := late_set (hjB hB) (late_set (hiB hB) (hl hB))
          rw [hnl] at k1
          have k1 : S w' := k1.resolve_left (by simp)
          exact ⟨⟨k0, .inr k1⟩, hT w' k1⟩
      refine wpOp_mono (fun a' w' h3 => ?_) h2
      obtain ⟨k1, k2⟩ := hgood w' h3.2.1.1 h3.2.1.2
      refine ⟨k1, ih (L.setIfInBounds j true) a' w' hfree' (ready_mono hr (Ne.symm hji)) h3.1 k1.1 k1.2 (fun hB => late_set (hjB hB) (hl hB)) k2 ?_⟩
      rw [Array.setIfInBounds_comm _ _ hji]
      exact h3.2.2
/-- taken first, its value the same in every world that meets S0 -/
theorem reg0_tk (i d : Nat) {oi : Oper} {v : Value} {fuel : Nat} {L : Array Bool} {a : Act} {w : World} (hi : ops[i]? = some oi) (hd : oi.dst = some d)
    (hs : Region.noSelect ops = true) (hf : Region.free md ops L i = true) (hr : (Region.ready md ops L).contains i = true) (hB : B.contains i = false) (hl : late B L = false)
    (hQ : ∀ c a w, Q (.panic c) (a.put oi.dst v) w → Q (.panic c) a w) (hw : Region.wanted oi (yielded ops a.tmps) = true) (hy : ∀ w, S0 w → (execOp a.eval oi).run P w = .ok (.value v) w) (hS0 : S0 w) (hS : S w)
    (h : wpAnyG P md ops Q S0 S B fuel (L.setIfInBounds i true) { a with tmps := a.tmps.setIfInBounds d v } w) : wpAnyG P md ops Q S0 S B (fuel + 1) L a w :=
  wpAnyG_first (T := S0) hi (Region.noSelect_spec hs) hQ (by simpa using hB) (.inl fun _ h => h) fuel L a w (Region.free_spec hi hf) (by simpa using hr) (Or.inl ⟨hw, hy⟩) hS0 (.inr hS) (fun _ => hl) hS0 (by rw [hd]; exact h)
/-- taken first, its value the same in every world that meets S: all of B wait for it -/
theorem regG_tk (i d : Nat) {oi : Oper} {v : Value} {fuel : Nat} {L : Array Bool} {a : Act} {w : World} (hi : ops[i]? = some oi) (hd : oi.dst = some d)
    (hs : Region.noSelect ops = true) (hf : Region.free md ops L i = true) (hr : (Region.ready md ops L).contains i = true) (hB : lateOk md ops B i = true) (hl : late B L = false)
    (hQ : ∀ c a w, Q (.panic c) (a.put oi.dst v) w → Q (.panic c) a w) (hw : Region.wanted oi (yielded ops a.tmps) = true) (hy : ∀ w, S w → (execOp a.eval oi).run P w = .ok (.value v) w) (hS0 : S0 w) (hS : S w)
    (h : wpAnyG P md ops Q S0 S B fuel (L.setIfInBounds i true) { a with tmps := a.tmps.setIfInBounds d v } w) : wpAnyG P md ops Q S0 S B (fuel + 1) L a w :=
  wpAnyG_first (T := S) hi (Region.noSelect_spec hs) hQ (fun h => (lateOk_spec hB h).1 rfl) (.inr ⟨hB, fun _ h => h⟩) fuel L a w (Region.free_spec hi hf) (by simpa using hr) (Or.inl ⟨hw, hy⟩) hS0 (.inr hS) (fun _ => hl) hS (by rw [hd]; exact h)
/-- the one operation that may come up now -/
theorem wpAnyG_oneS {i : Nat} {o : Oper} {fuel : Nat} {L : Array Bool} {a : Act} {w : World} (hr : Region.ready md ops L = [i]) (ho : ops[i]? = some o) (hw : Region.wanted o (yielded ops a.tmps) = true)
    (h : ∀ K' : Act → World → Prop, (∀ a w, S0 w → S w → wpAnyG P md ops Q S0 S B fuel (L.setIfInBounds i true) a w → K' a w) → Oper.wp P o a w K' Q) : wpAnyG P md ops Q S0 S B (fuel + 1) L a w := by
  refine ⟨(fun h0 => by rw [h0] at hr; cases hr), fun j hj => ?_⟩
  rw [hr] at hj
  obtain rfl : j = i := by simpa using hj
  refine wpOp_step ho (fun K' hK => ?_)
  rw [if_pos hw]
  exact h K' (fun a w h0 hS hW => hK a w ⟨⟨h0, .inr hS⟩, hW⟩)
/-- the one operation that may come up now, of B or behind one of B -/
theorem wpAnyG_one {i : Nat} {o : Oper} {fuel : Nat} {L : Array Bool} {a : Act} {w : World} (hr : Region.ready md ops L = [i]) (ho : ops[i]? = some o) (hw : Region.wanted o (yielded ops a.tmps) = true) (hl : late B (L.setIfInBounds i true) = true)
    (h : ∀ K' : Act → World → Prop, (∀ a w, S0 w → wpAnyG P md ops Q S0 S B fuel (L.setIfInBounds i true) a w → K' a w) → Oper.wp P o a w K' Q) : wpAnyG P md ops Q S0 S B (fuel + 1) L a w := by
  refine ⟨(fun h0 => by rw [h0] at hr; cases hr), fun j hj => ?_⟩
  rw [hr] at hj
  obtain rfl : j = i := by simpa using hj
  refine wpOp_step ho (fun K' hK => ?_)
  rw [if_pos hw]
  exact h K' (fun a w h0 hW => hK a w ⟨⟨h0, .inl hl⟩, hW⟩)
theorem wpAnyG_done {L : Array Bool} {a : Act} {w : World} (hr : Region.ready md ops L = []) (h : Q .normal a w) : ∀ fuel, wpAnyG P md ops Q S0 S B fuel L a w
  | 0 => ⟨hr, h⟩
  | _ + 1 => ⟨fun _ => h, by rw [hr]; simp⟩
theorem wp_region_late {id : Nat} {a : Act} {w : World} (S0 S : World → Prop) (B : List Nat) (hm : P.follows .mixedOrders = true) (h0 : S0 w.drew) (hS : S w.drew)
    (h : S0 w.drew → S w.drew → wpAnyG P .any ops Q S0 S B ops.size (Array.replicate ops.size false) a w.drew) : (Code.region id ops true).wp P Q a w :=
  wp_region_any hm (wpAny_of_G _ _ _ _ (h h0 hS))
end
section
variable {P : Program} {w : World}
/-- where an append leaves its row: where it was, or in new memory -/
theorem append_where {base : Nat} {t ty e : TypeId} {z : Value} {size bytes : Nat} (E : ElemOk P t e z size bytes) {v : Value} {n : Nat} {xs : List Value} (hown : w.ownsRow base e size v n xs)
    {ad : Addr} {m c : Nat} {news : List Value} (hl : news.length = m * size) (hnews : ∀ j u, news[j]? = some u → w.cell? (ad.add j) = some u) (h1 : ∀ u ∈ news, u.oneCell' = true)
    (h63 : n + m ≤ maxLen) (hbytes : (n + m) * bytes ≤ 140737488355328) (hbase : base ≤ w.heap.size) :
    ∃ v' w', (Builtin.append_ #[t, t] ty #[v, .slice (some ad) m c]).run P w = .ok v' w' ∧ w'.ownsRow base e size v' (n + m) (xs ++ news) ∧ w.grownBy w' v.ownBlock ∧ ∀ k, v'.ownBlock = some k → v.ownBlock = some k ∨ w.heap.size ≤ k := by
  obtain ⟨i, hi, hz, hsize, hby⟩ := info_parts E.hi
  obtain ⟨v', w', hr, ho, hg, _⟩ := run_append_own (P := P) w base t ty e i z size bytes E.ht hi hz hsize hby E.hzs E.hsz v n xs hown ad m c news hl hnews h1 h63 hbytes hbase
  refine ⟨v', w', hr, ho, hg, fun k hk => ?_⟩
  rcases hown.2 with ⟨hv, hn⟩ | ⟨g, cap, cur, hv, hb, hh, hnc, hcm, hcs, ht⟩
  · right
    have hown2 : w.ownsRow w.heap.size e size v n xs := ⟨hown.1, .inl ⟨hv, hn⟩⟩
    obtain ⟨v2, w2, hr2, ho2, _⟩ := run_append_own (P := P) w w.heap.size t ty e i z size bytes E.ht hi hz hsize hby E.hzs E.hsz v n xs hown2 ad m c news hl hnews h1 h63 hbytes (Nat.le_refl _)
    rw [hr] at hr2
    cases hr2
    exact (ho2.lt k hk).1
  · subst hv
    by_cases hroom : n + m ≤ cap
    · left
      have hr2 := run_append_room (P := P) w t ty e i E.ht hi g n cap cur hh ad m c news (by rw [hl, hsize]) hnews h1 hroom (by rw [hl, hsize, hcs, ← Nat.add_mul]; exact Nat.mul_le_mul_right _ hroom)
      rw [hr] at hr2
      cases hr2
      exact hk
    · right
      have hr2 := run_append_grow (P := P) w t ty e i z E.ht hi hz ⟨g, 0, none⟩ n cap xs (by rw [hown.1, hsize]) (hown.cells (g := g) rfl) ad m c news (by rw [hl, hsize]) hnews (by omega) (by unfold maxLen at h63; omega) (growslice_fits (by omega) (by rw [hby]; exact hbytes))
      rw [hr] at hr2
      cases hr2
      simp only [Value.ownBlock, Option.some.injEq] at hk
      omega
/-- append of what reads, not of nothing, onto what the call owns: where the row is then -/
theorem wp_app_at {o : Oper} {a : Act} {K : Act → World → Prop} {Q : Exit → Act → World → Prop} (s x : Operand) (t : TypeId)
    (ho : o.op = .call { callee := .builtin .append, args := #[s, x], argTypes := #[t, t] }) (base : Nat) (e : TypeId) (z : Value) (size bytes : Nat) (E : ElemOk P t e z size bytes)
    (v : Value) (n : Nat) (xs : List Value) (hs : a.eval s = v) (hown : w.ownsRow base e size v n xs) (u : Value) (m : Nat) (cs : List Value) (hm : m ≠ 0) (hx : a.eval x = u) (hr : RdS w size u m cs) (h1 : ∀ c ∈ cs, c.oneCell' = true)
    (h63 : n + m ≤ maxLen) (hbytes : (n + m) * bytes ≤ 140737488355328) (hbase : base ≤ w.heap.size)
    (h : ∀ a' c' w', w'.ownsRow base e size (.slice a' (n + m) c') (n + m) (xs ++ cs) → w.grownBy w' v.ownBlock → (∀ k, (Value.slice a' (n + m) c').ownBlock = some k → v.ownBlock = some k ∨ w.heap.size ≤ k) → K (a.put o.dst (.slice a' (n + m) c')) w') : o.wp P a w K Q := by
  obtain ⟨hl, _, ⟨h0, _⟩ | ⟨b, off, cap, rfl, hc, hrd⟩⟩ := hr
  · exact absurd h0 hm
  · obtain ⟨v', w', hrun, h2, h3, h4⟩ := append_where (P := P) (ty := o.type) E hown (ad := ⟨b, off, none⟩) (c := cap) hl (fun j c hj => by rw [Addr.add_mid]; exact hrd j c hj) h1 h63 hbytes hbase
    obtain ⟨a', c', rfl⟩ := owns_form h2
    unfold Oper.wp execOp
    simp only [ho, resolve, invoke, builtin, Sem.run_bind, Sem.run_pure, Result.andThen_ok, List.map_toArray, List.map_cons, List.map_nil, hs, hx, hrun]
    exact h a' c' w' h2 h3 h4
end
theorem setCells_block (b : Nat) (T : TypeId) : ∀ (vs ys : List Value) (o : Nat) (w : World), w.heap[b]? = some (.cells ys.toArray T (0, 0)) → o + vs.length ≤ ys.length →
    (w.setCells b o vs).heap[b]? = some (.cells (ys.take o ++ vs ++ ys.drop (o + vs.length)).toArray T (0, 0))
  | [], ys, o, w, h, hl => by
    rw [World.setCells, List.append_nil, List.length_nil, Nat.add_zero, List.take_append_drop]; exact h
  | v :: vs, ys, o, w, h, hl => by
    have hl' : o + 1 + vs.length ≤ ys.length := by simp at hl; omega
    have h1 : (w.setCell ⟨b, o, none⟩ v).heap[b]? = some (.cells (ys.set o v).toArray T (0, 0)) := by
      simp [World.setCell, Array.getElem?_modify, h]
    have ih := setCells_block b T vs (ys.set o v) (o + 1) _ h1 (by simpa using hl')
    rw [World.setCells, ih]
    congr 3
    have ho : o < ys.length := by simp at hl; omega
    rw [List.drop_set_of_lt (by omega), List.take_succ_eq_append_getElem (by simpa using ho)]
    have e1 : (ys.set o v).take o = ys.take o := by
      refine List.ext_getElem? fun i => ?_
      rw [List.getElem?_take, List.getElem?_take]
      split
      · rw [List.getElem?_set_ne (by omega)]
      · rfl
    rw [e1]
    simp [show o + 1 + vs.length = o + (vs.length + 1) by omega]
theorem BoxN.sets {w : World} {b : Nat} {T : TypeId} {vs : Array Value} (h : BoxN w b T vs) (us : List Value) (hl : us.length = vs.size) : BoxN (w.setCells b 0 us) b T us.toArray := by
  have := setCells_block b T us vs.toList 0 w (by simpa [BoxN] using h) (by simp [hl])
  unfold BoxN
  rw [this, List.take_zero, List.nil_append, List.drop_of_length_le (by simp [hl]), List.append_nil]
theorem BoxN.set1 {w : World} {b : Nat} {T : TypeId} {v : Value} (h : BoxN w b T #[v]) (u : Value) : BoxN (w.setCell ⟨b, 0, none⟩ u) b T #[u] := h.sets [u] rfl
theorem BoxN.there {w : World} {b : Nat} {T : TypeId} {vs : Array Value} (h : BoxN w b T vs) (n : Nat) (hn : n = vs.size) : w.there b 0 n := fun j hj => by
  refine ⟨?_, h.frozen _⟩
  rw [Nat.zero_add, h.cell j, Array.getElem?_eq_getElem (by omega)]; rfl
/-- a box is no row's block -/
theorem row_ne {w : World} {base e size n P T : Nat} {v : Value} {xs : List Value} {vs : Array Value} (h : w.ownsRow base e size v n xs) (hb : BoxN w P T vs) (ht : T ≠ e) : ∀ q, v.ownBlock = some q → P ≠ q := by
  intro q hq he
  subst he
  rcases h.2 with ⟨rfl, _⟩ | ⟨g, cap, cur, rfl, _, hh, _⟩
  · simp [Value.ownBlock] at hq
  · simp only [Value.ownBlock, Option.some.injEq] at hq
    subst hq
    unfold BoxN at hb
    rw [hb] at hh
    simp only [Option.some.injEq, Obj.cells.injEq] at hh
    exact ht hh.2.1
end Go.Proofs.YtcjlbpndgjapiaaDoor
