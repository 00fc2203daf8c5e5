


/- RouteFirst and RouteRest, plainly. -/
import Derived.Test.YtgmfifilgbbogaaLAp
namespace Go.Proofs.Ytgmfifilgbbogaa
open Go.RowKit
set_option linter.unusedSimpArgs false
set_option linter.unusedVariables false
set_option maxRecDepth 100000

/-- the walk over the shorter plan is the walk over the plan -/
theorem less_walk_eq {cs : List Ct} {n : Int} {k : Nat} (hk : k < cs.length) : ∀ (l : List Nat) (u t : Int), walkP (lessP cs k) n l u t = walkP cs n (l.map (upK k)) u t
  | [], u, t => rfl
  | i :: l, u, t => by
    have hl := less_len hk
    rw [List.map_cons, walkP, walkP, less_get hk]
    by_cases h : i < (lessP cs k).length ∧ (cs.getD (upK k i) c0).fr = u
    · rw [if_pos h, if_pos ⟨by have := h.1; unfold upK; split <;> omega, h.2⟩]
      cases hopO (cs.getD (upK k i) c0) t n with
      | none => rfl
      | some s => exact less_walk_eq hk l _ s
    · rw [if_neg h, if_neg (fun h2 => h ⟨by have := h2.1; unfold upK at this; split at this <;> omega, h2.2⟩)]
def dnK (k i : Nat) : Nat := if k < i then i - 1 else i
theorem up_dn {k i : Nat} (h : i ≠ k) : upK k (dnK k i) = i := by unfold upK dnK; split <;> split <;> omega
theorem up_dn_map {k : Nat} : ∀ (l : List Nat), k ∉ l → (l.map (dnK k)).map (upK k) = l
  | [], _ => rfl
  | i :: l, h => by
    rw [List.map_cons, List.map_cons, up_dn (fun e => h (by rw [e]; exact List.mem_cons_self ..)), up_dn_map l (fun hm => h (List.mem_cons_of_mem _ hm))]
theorem lex_up (k : Nat) : ∀ (l m : List Nat), lexI (ints (l.map (upK k))) (ints (m.map (upK k))) = lexI (ints l) (ints m)
  | [], m => by cases m <;> rfl
  | a :: l, [] => rfl
  | a :: l, b :: m => by
    show (if ((upK k a : Nat) : Int) < ((upK k b : Nat) : Int) then -1 else if ((upK k b : Nat) : Int) < ((upK k a : Nat) : Int) then 1 else lexI (ints (l.map (upK k))) (ints (m.map (upK k)))) = (if (a : Int) < (b : Int) then -1 else if (b : Int) < (a : Int) then 1 else lexI (ints l) (ints m))
    have h1 : ((upK k a : Nat) : Int) < ((upK k b : Nat) : Int) ↔ (a : Int) < (b : Int) := by unfold upK; split <;> split <;> omega
    have h2 : ((upK k b : Nat) : Int) < ((upK k a : Nat) : Int) ↔ (b : Int) < (a : Int) := by unfold upK; split <;> split <;> omega
    rw [lex_up k l m]
    simp only [h1, h2]
theorem cmp_up (k : Nat) (a b : Int) (l m : List Nat) : cmpR a (ints (l.map (upK k))) b (ints (m.map (upK k))) = cmpR a (ints l) b (ints m) := by
  unfold cmpR
  rw [lex_up]
  simp [ints]
/-- without a contact that it does not use, the best route stays -/
theorem best_less {cs : List Ct} {n u t v E E2 : Int} {k h h2 : Nat} {l l2 : List Nat} (hk : k < cs.length) (b : BestR cs n u t v E h l) (hn : k ∉ l) (b2 : BestR (lessP cs k) n u t v E2 h2 l2) : E2 = E ∧ l2.map (upK k) = l := by
  have w1 : walkP cs n (l2.map (upK k)) u t = some (v, E2) := by rw [← less_walk_eq hk]; exact b2.walk
  have w2 : walkP (lessP cs k) n (l.map (dnK k)) u t = some (v, E) := by rw [less_walk_eq hk, up_dn_map l hn]; exact b.walk
  have c1 := b.min w1
  have c2 := b2.min w2
  rw [← cmp_up k, up_dn_map l hn] at c2
  obtain ⟨h3, h4⟩ := cmpR_eq c1 c2
  refine ⟨h3.symm, ?_⟩
  have h5 : toN (ints l) = toN (ints (l2.map (upK k))) := by rw [h4]
  rw [toN_ints, toN_ints] at h5
  exact h5.symm
theorem less_ex {cs : List Ct} {n u t v E : Int} {k h : Nat} {l : List Nat} (hk : k < cs.length) (b : BestR cs n u t v E h l) (hn : k ∉ l) : Arr (lessP cs k) n u t v E :=
  ⟨l.map (dnK k), by rw [less_walk_eq hk, up_dn_map l hn]; exact b.walk⟩
/-- a claimed route that is one arrives -/
theorem check_arr {cs : List Ct} {u v t n A : Int} {l : List Int} (h : checkV cs u v t n A l = 0) : walkP cs n (toN l) u t = some (v, A) ∧ ints (toN l) = l := by
  unfold checkV at h
  by_cases h0 : chkE cs t n [u, v] = 0
  · rw [if_neg (by simpa using h0)] at h
    cases hr : inR cs l
    · rw [hr] at h; simp at h
    · rw [hr, if_neg (by simp)] at h
      refine ⟨?_, ?_⟩
      · revert h
        cases walkP cs n (toN l) u t with
        | none => intro h; simp [finV] at h
        | some x =>
          obtain ⟨x, s⟩ := x
          intro h
          unfold finV at h
          dsimp only at h
          split at h
          · cases h
          · split at h
            · cases h
            · rename_i h1 h2
              rw [show x = v by omega, show s = A by omega]
      · unfold ints toN
        rw [List.map_map]
        refine (List.map_congr_left (g := id) fun a ha => ?_).trans (List.map_id l)
        have := List.all_eq_true.1 hr a ha
        simp only [decide_eq_true_eq] at this
        simp only [Function.comp, id]
        omega
  · rw [if_pos (by simpa using h0)] at h
    exact absurd h h0
/-- no claimed route is before the best one -/
theorem first_ok {cs : List Ct} {u v t n E A : Int} {h : Nat} {l : List Nat} {m : List Int} (b : BestR cs n u t v E h l) (hc : checkV cs u v t n A m = 0) : ¬ 0 < cmpR E (ints l) A m := by
  obtain ⟨h1, h2⟩ := check_arr hc
  have := b.min h1
  rw [h2] at this
  omega
/-- no contacts: one is there, or one is nowhere -/
theorem arr_nil {n u t v s : Int} (h : Arr [] n u t v s) : u = v := by
  obtain ⟨l, hl⟩ := h
  cases l with
  | nil => simp only [walkP, Option.some.injEq, Prod.mk.injEq] at hl; exact hl.1
  | cons i l => obtain ⟨h1, _⟩ := walk_cons hl; cases h1
theorem arr_here {n u t : Int} : Arr [] n u t u t := ⟨[], rfl⟩

/-! the rest of a route -/
theorem rest_step {cs : List Ct} {n v E x s : Int} {l : List Nat} {i : Nat} (hi : i < l.length) (h : walkP cs n (l.drop i) x s = some (v, E)) :
    l.getD i 0 < cs.length ∧ ∃ r, hopO (cs.getD (l.getD i 0) c0) s n = some r ∧ walkP cs n (l.drop (i + 1)) (cs.getD (l.getD i 0) c0).dt r = some (v, E) := by
  rw [List.drop_eq_getElem_cons hi] at h
  obtain ⟨h1, h2, r, h3, h4⟩ := walk_cons h
  have e : l.getD i 0 = l[i] := by rw [List.getD_eq_getElem?_getD, List.getElem?_eq_getElem hi]; rfl
  rw [e]
  exact ⟨h1, r, h3, h4⟩
theorem ask_small (nums : List Int) (n : Int) : ∀ c, c ∈ (askV nums n).plan → smallC c := (plK_ok nums 12 nums.length).2.1
theorem hop_small {c : Ct} {t n s : Int} (h : okC c) (hs : smallC c) (ho : hopO c t n = some s) : s ≤ 1048646 := by
  unfold hopO at ho
  split at ho
  · simp only [Option.some.injEq] at ho
    obtain ⟨_, _, _, _, _, _, _, _, h2, h3⟩ := h
    have := hs.1
    omega
  · cases ho
theorem rest_check {cs : List Ct} {u v t n E : Int} {l : List Nat} (h0 : chkE cs t n [u, v] = 0) (h : walkP cs n l u t = some (v, E)) : checkV cs u v t n E (ints l) = 0 := by
  unfold checkV
  rw [h0, inR_ints (walk_in l _ _ _ h), toN_ints, h]
  simp [finV]
theorem hop_at {cs : List Ct} {t n s : Int} {k : Nat} (h0 : askE cs t n = 0) (hk : k < cs.length) (h : hopO (cs.getD k c0) t n = some s) : hopV cs (k : Int) t n = (s, 0) := by
  unfold hopV
  rw [if_neg (by simpa using h0), if_neg (by omega), show ((k : Nat) : Int).toNat = k by omega, h]
end Go.Proofs.Ytgmfifilgbbogaa
