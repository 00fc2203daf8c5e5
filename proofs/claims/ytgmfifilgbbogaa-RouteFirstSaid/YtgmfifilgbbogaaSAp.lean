


/- What is asked, plainly: the plan is valid, the numbers lie in range. -/
import Derived.Test.YtgmfifilgbbogaaRSq
import Derived.Test.YtgmfifilgbbogaaPL
namespace Go.Proofs.Ytgmfifilgbbogaa
open Go.RowKit
set_option linter.unusedSimpArgs false
set_option linter.unusedVariables false
set_option maxRecDepth 100000

/-- what the later laws ask about -/
structure Qn where
  plan : List Ct
  fr : Int
  nd : Int
  tk : Int
  sz : Int
def askV (nums : List Int) (n : Int) : Qn := ⟨plK nums 12 nums.length, 1 + n % 1048576 % 5, 1 + n % 1048576 / 5 % 5, n % 1048576 / 25 % 50, 1 + n % 1048576 / 1250 % 400⟩
structure QOk (q : Qn) : Prop where
  pv : PV q.plan
  len : q.plan.length ≤ 12
  wf : ∀ c, c ∈ q.plan → Wf c
  fr : 1 ≤ q.fr ∧ q.fr ≤ 5
  nd : 1 ≤ q.nd ∧ q.nd ≤ 5
  tk : 0 ≤ q.tk ∧ q.tk < 50
  sz : 1 ≤ q.sz ∧ q.sz ≤ 400
theorem wf_of_ok {c : Ct} (h : okC c) : Wf c := by
  unfold okC at h
  unfold Wf
  refine ⟨?_, ?_, ?_, ?_, ?_, ?_⟩ <;> (simp [Lit.wf, IntKind.min, IntKind.max, IntKind.signed, IntKind.bits]; omega)
theorem ask_ok (nums : List Int) (n : Int) : QOk (askV nums n) := by
  obtain ⟨h1, h2, h3⟩ := plK_ok nums 12 nums.length
  refine ⟨h1, h3, fun c hc => wf_of_ok (h1.1 c hc), ?_, ?_, ?_, ?_⟩ <;> (unfold askV; dsimp only; omega)
theorem pv_ok {cs : List Ct} {t n : Int} {l : List Int} (h : PV cs) (hl : cs.length ≤ 200) (ht : 0 ≤ t ∧ t ≤ 1099511627776) (hn : 1 ≤ n ∧ n ≤ 1200) (hx : ∀ x, x ∈ l → 1 ≤ x ∧ x ≤ 16) : chkE cs t n l = 0 := by
  have h1 : askE cs t n = 0 := by
    unfold askE
    rw [h.chk hl, if_neg (by simp), if_neg (by unfold badA; omega)]
  have h2 : l.any (fun x => !nodB x) = false := by
    rw [List.any_eq_false]
    intro x hxm
    have := hx x hxm
    simp [nodB]
    omega
  unfold chkE
  rw [h1, h2]
  simp
theorem QOk.chk2 {q : Qn} (h : QOk q) {t n : Int} (ht : 0 ≤ t ∧ t ≤ 100) (hn : 1 ≤ n ∧ n ≤ 800) : chkE q.plan t n [q.fr, q.nd] = 0 := by
  have h1 := h.fr
  have h2 := h.nd
  have h3 := h.len
  refine pv_ok h.pv (by omega) (by omega) (by omega) fun x hx => ?_
  simp only [List.mem_cons, List.mem_nil_iff, or_false] at hx
  rcases hx with rfl | rfl <;> omega
theorem QOk.chk1 {q : Qn} (h : QOk q) : chkE q.plan q.tk q.sz [q.fr] = 0 := by
  have h1 := h.fr
  have h3 := h.len
  have h4 := h.tk
  have h5 := h.sz
  refine pv_ok h.pv (by omega) (by omega) (by omega) fun x hx => ?_
  simp only [List.mem_cons, List.mem_nil_iff, or_false] at hx
  subst hx
  omega
theorem QOk.chk {q : Qn} (h : QOk q) : chkE q.plan q.tk q.sz [q.fr, q.nd] = 0 := h.chk2 (by have := h.tk; omega) (by have := h.sz; omega)
theorem QOk.okp {q : Qn} (h : QOk q) : okP q.plan := h.pv.1
/-- every contact of a walk is one of the plan -/
theorem walk_in {cs : List Ct} {n : Int} : ∀ (l : List Nat) (u t : Int) (x : Int × Int), walkP cs n l u t = some x → ∀ i, i ∈ l → i < cs.length
  | [], _, _, _, _, i, hi => by cases hi
  | j :: l, u, t, x, h, i, hi => by
    obtain ⟨h1, _, s, _, h2⟩ := walk_cons h
    cases hi with
    | head => exact h1
    | tail _ hi => exact walk_in l _ _ _ h2 i hi
theorem toN_ints (l : List Nat) : toN (ints l) = l := by
  unfold toN ints
  rw [List.map_map]
  exact (List.map_congr_left (fun a _ => by simp)).trans (List.map_id l)
theorem inR_ints {cs : List Ct} {l : List Nat} (h : ∀ i, i ∈ l → i < cs.length) : inR cs (ints l) = true := by
  unfold inR ints
  rw [List.all_eq_true]
  intro x hx
  obtain ⟨i, hi, rfl⟩ := List.mem_map.1 hx
  have := h i hi
  simp
  omega
/-- the best route is one -/
theorem check_best {cs : List Ct} {u v t n A : Int} {h : Nat} {l : List Nat} (h0 : chkE cs t n [u, v] = 0) (b : BestR cs n u t v A h l) : checkV cs u v t n A (ints l) = 0 := by
  unfold checkV
  rw [h0, inR_ints (walk_in l _ _ _ b.walk), toN_ints, b.walk]
  simp [finV]
end Go.Proofs.Ytgmfifilgbbogaa
