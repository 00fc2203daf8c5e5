


/- The kit's plans: what lay and Plan make, and that it is a valid plan. Plain. -/
import Derived.Test.YtgmfifilgbbogaaI
namespace Go.Proofs.Ytgmfifilgbbogaa
open Go.RowKit
set_option linter.unusedSimpArgs false
set_option linter.unusedVariables false

/-- two contacts of one pair whose times meet -/
def laps (x c : Ct) : Prop := x.fr = c.fr ∧ x.dt = c.dt ∧ x.st < c.en ∧ c.st < x.en
instance (x c : Ct) : Decidable (laps x c) := by unfold laps; infer_instance
def apartC (a b : Ct) : Prop := bef a b ∧ ¬ (a.fr = b.fr ∧ a.dt = b.dt ∧ b.st < a.en)
/-- a valid plan, said of pairs of contacts -/
def PV (cs : List Ct) : Prop := (∀ c, c ∈ cs → okC c) ∧ cs.Pairwise apartC
theorem bef_trans {a b c : Ct} (h1 : bef a b) (h2 : bef b c) : bef a c := by unfold bef at *; omega
theorem PV.get {cs : List Ct} (h : PV cs) {i j : Nat} (hij : i < j) (hj : j < cs.length) : apartC (cs.getD i c0) (cs.getD j c0) := by
  have := List.pairwise_iff_getElem.1 h.2 i j (by omega) hj hij
  simpa [List.getD_eq_getElem?_getD, List.getElem?_eq_getElem hj, List.getElem?_eq_getElem (show i < cs.length by omega)] using this
theorem PV.chk {cs : List Ct} (h : PV cs) (hl : cs.length ≤ 200) : planChk cs = (0, 0) := by
  have hok : ∀ j, j < cs.length → okC (cs.getD j c0) := fun j hj => by
    have : cs.getD j c0 ∈ cs := by rw [List.getD_eq_getElem?_getD, List.getElem?_eq_getElem hj]; exact List.getElem_mem hj
    exact h.1 _ this
  refine planChk_ok (by omega) fun j hj => ?_
  refine clash_no (fun m hm hc => ?_) (hok j hj) (fun h19 => ?_)
  · have := h.get hm hj
    exact this.2 ⟨hc.1.1, hc.1.2, hc.2⟩
  · have := h.get (show j - 1 < j by omega) hj
    exact h19.2 this.1

/-- where a contact is laid in -/
def atK (cs : List Ct) (c : Ct) : Nat → Nat
  | 0 => 0
  | k + 1 => if bef (cs.getD k c0) c then k + 1 else atK cs c k
theorem atK_le (cs : List Ct) (c : Ct) : ∀ k, atK cs c k ≤ k
  | 0 => Nat.le_refl _
  | k + 1 => by
    have := atK_le cs c k
    unfold atK
    split <;> omega
theorem atK_pos (cs : List Ct) (c : Ct) : ∀ k, 0 < atK cs c k → bef (cs.getD (atK cs c k - 1) c0) c
  | 0, h => by simp [atK] at h
  | k + 1, h => by
    unfold atK at h ⊢
    split
    · rename_i hb; simpa using hb
    · rename_i hb; rw [if_neg hb] at h; exact atK_pos cs c k h
theorem atK_after (cs : List Ct) (c : Ct) : ∀ k j, atK cs c k ≤ j → j < k → ¬ bef (cs.getD j c0) c
  | 0, j, _, hj => by omega
  | k + 1, j, h, hj => by
    unfold atK at h
    by_cases hb : bef (cs.getD k c0) c
    · rw [if_pos hb] at h; omega
    · rw [if_neg hb] at h
      by_cases hjk : j = k
      · rw [hjk]; exact hb
      · exact atK_after cs c k j h (by omega)
/-- does one of the first k contacts meet c? -/
def meets (cs : List Ct) (c : Ct) : Nat → Bool
  | 0 => false
  | k + 1 => meets cs c k || decide (laps (cs.getD k c0) c)
theorem meets_no {cs : List Ct} {c : Ct} : ∀ {k}, meets cs c k = false → ∀ j, j < k → ¬ laps (cs.getD j c0) c
  | 0, _, j, hj => by omega
  | k + 1, h, j, hj => by
    unfold meets at h
    simp only [Bool.or_eq_false_iff, decide_eq_false_iff_not] at h
    by_cases hjk : j = k
    · rw [hjk]; exact h.2
    · exact meets_no h.1 j (by omega)
theorem meets_mono {cs : List Ct} {c : Ct} {k : Nat} (h : meets cs c k = true) : ∀ n, k ≤ n → meets cs c n = true := by
  intro n hn
  induction n with
  | zero => rwa [Nat.le_zero.1 hn] at h
  | succ n ih =>
    by_cases hk : k = n + 1
    · rwa [hk] at h
    · unfold meets; rw [ih (by omega)]; rfl
def layP (cs : List Ct) (c : Ct) : List Ct :=
  if meets cs c cs.length = true then cs else cs.take (atK cs c cs.length) ++ c :: cs.drop (atK cs c cs.length)
theorem mem_getD {cs : List Ct} {x : Ct} (h : x ∈ cs) : ∃ j, j < cs.length ∧ cs.getD j c0 = x := by
  obtain ⟨j, hj, rfl⟩ := List.getElem_of_mem h
  exact ⟨j, hj, by rw [List.getD_eq_getElem?_getD, List.getElem?_eq_getElem hj]; rfl⟩
theorem layP_ok {cs : List Ct} {c : Ct} (h : PV cs) (hc : okC c) : PV (layP cs c) := by
  unfold layP
  cases hm : meets cs c cs.length with
  | true => exact h
  | false =>
    rw [if_neg (by simp)]
    have hno := meets_no hm
    have hle := atK_le cs c cs.length
    obtain ⟨a, ha⟩ : ∃ a, atK cs c cs.length = a := ⟨_, rfl⟩
    rw [ha] at hle ⊢
    have h1 : ∀ x, x ∈ cs.take a → bef x c ∧ ¬ laps x c := by
      intro x hx
      obtain ⟨j, hj, rfl⟩ := List.getElem_of_mem hx
      rw [List.length_take] at hj
      have hjc : j < cs.length := by omega
      have hx2 : (cs.take a)[j] = cs.getD j c0 := by rw [List.getElem_take, List.getD_eq_getElem?_getD, List.getElem?_eq_getElem hjc]; rfl
      rw [hx2]
      refine ⟨?_, hno j hjc⟩
      have hp := atK_pos cs c cs.length (by rw [ha]; omega)
      rw [ha] at hp
      by_cases hja : j = a - 1
      · rw [hja]; exact hp
      · exact bef_trans (h.get (show j < a - 1 by omega) (by omega)).1 hp
    have h2 : ∀ y, y ∈ cs.drop a → bef c y ∧ ¬ laps y c := by
      intro y hy
      obtain ⟨j, hj, rfl⟩ := List.getElem_of_mem hy
      rw [List.length_drop] at hj
      have hjc : a + j < cs.length := by omega
      have hy2 : (cs.drop a)[j] = cs.getD (a + j) c0 := by rw [List.getElem_drop, List.getD_eq_getElem?_getD, List.getElem?_eq_getElem hjc]; rfl
      rw [hy2]
      have hnl := hno (a + j) hjc
      refine ⟨?_, hnl⟩
      have hnb := atK_after cs c cs.length (a + j) (by rw [ha]; omega) hjc
      have hoy : okC (cs.getD (a + j) c0) := h.1 _ (by rw [List.getD_eq_getElem?_getD, List.getElem?_eq_getElem hjc]; exact List.getElem_mem hjc)
      have q1 := hoy.2.2.2.2.1
      have q2 := hc.2.2.2.2.1
      obtain ⟨y, hyy⟩ : ∃ y, cs.getD (a + j) c0 = y := ⟨_, rfl⟩
      rw [hyy] at hnl hnb q1 ⊢
      unfold laps at hnl
      unfold bef at hnb ⊢
      omega
    refine ⟨fun x hx => ?_, ?_⟩
    · rcases List.mem_append.1 hx with hx | hx
      · exact h.1 x (List.mem_of_mem_take hx)
      · rcases List.mem_cons.1 hx with rfl | hx
        · exact hc
        · exact h.1 x (List.mem_of_mem_drop hx)
    · refine List.pairwise_append.2 ⟨h.2.sublist (List.take_sublist _ _), List.pairwise_cons.2 ⟨fun y hy => ?_, h.2.sublist (List.drop_sublist _ _)⟩, fun x hx y hy => ?_⟩
      · have h3 := h2 y hy
        have q1 := (h.1 y (List.mem_of_mem_drop hy)).2.2.2.2.1
        refine ⟨h3.1, fun h4 => h3.2 ?_⟩
        have := h3.1
        unfold bef at this
        unfold laps
        omega
      · rcases List.mem_cons.1 hy with rfl | hy
        · have h3 := h1 x hx
          have q2 := hc.2.2.2.2.1
          refine ⟨h3.1, fun h4 => h3.2 ?_⟩
          have := h3.1
          unfold bef at this
          unfold laps
          omega
        · have h5 := h.2
          rw [← List.take_append_drop a cs] at h5
          exact (List.pairwise_append.1 h5).2.2 x hx y hy
theorem layP_mem {cs : List Ct} {c x : Ct} (h : x ∈ layP cs c) : x ∈ cs ∨ x = c := by
  unfold layP at h
  split at h
  · exact .inl h
  · rcases List.mem_append.1 h with h | h
    · exact .inl (List.mem_of_mem_take h)
    · rcases List.mem_cons.1 h with h | h
      · exact .inr h
      · exact .inl (List.mem_of_mem_drop h)
theorem layP_len (cs : List Ct) (c : Ct) : (layP cs c).length ≤ cs.length + 1 := by
  unfold layP
  split
  · omega
  · simp; omega

def rateN (k : Int) : Int := if k = 0 then 1 else if k = 1 then 10 else if k = 2 then 50 else if k = 3 then 100 else 1000
/-- the contact that Plan makes of a number n from 0 on -/
def ctN (n : Int) : Ct :=
  ⟨1 + n % 5, if 1 + n % 5 = 1 + n / 5 % 5 then 1 + (1 + n % 5) % 5 else 1 + n / 5 % 5, n / 25 % 41, n / 25 % 41 + 1 + n / 20500 % 30, rateN (n / 1025 % 5), n / 5125 % 4⟩
theorem ctN_ok {n : Int} (h : 0 ≤ n) : okC (ctN n) := by
  unfold okC ctN rateN
  dsimp only
  refine ⟨by omega, ?_, ?_, by omega, by omega, by omega, ?_, ?_, by omega, by omega⟩
  · split <;> omega
  · split <;> omega
  · split <;> (try split) <;> (try split) <;> (try split) <;> omega
  · split <;> (try split) <;> (try split) <;> (try split) <;> omega
/-- small numbers: what the contacts of Plan have -/
def smallC (c : Ct) : Prop := c.en ≤ 70 ∧ c.rt ≤ 1000
theorem ctN_small (n : Int) (h : 0 ≤ n) : smallC (ctN n) := by
  unfold smallC ctN rateN
  dsimp only
  refine ⟨by omega, ?_⟩
  split <;> (try split) <;> (try split) <;> (try split) <;> omega
def plK (nums : List Int) (most : Nat) : Nat → List Ct
  | 0 => []
  | k + 1 => if (plK nums most k).length < most then layP (plK nums most k) (ctN (nums.getD k 0 % 1048576)) else plK nums most k
theorem plK_ok (nums : List Int) (most : Nat) : ∀ k, PV (plK nums most k) ∧ (∀ c, c ∈ plK nums most k → smallC c) ∧ (plK nums most k).length ≤ most
  | 0 => ⟨⟨fun c hc => (by cases hc), List.Pairwise.nil⟩, fun c hc => (by cases hc), Nat.zero_le _⟩
  | k + 1 => by
    obtain ⟨h1, h2, h3⟩ := plK_ok nums most k
    unfold plK
    have hn : 0 ≤ nums.getD k 0 % 1048576 := by omega
    split
    · refine ⟨layP_ok h1 (ctN_ok hn), fun c hc => ?_, ?_⟩
      · rcases layP_mem hc with hc | rfl
        · exact h2 c hc
        · exact ctN_small _ hn
      · have := layP_len (plK nums most k) (ctN (nums.getD k 0 % 1048576))
        omega
    · exact ⟨h1, h2, h3⟩
theorem plK_full {nums : List Int} {most k : Nat} (h : ¬ (plK nums most k).length < most) : ∀ n, k ≤ n → plK nums most n = plK nums most k := by
  intro n hn
  induction n with
  | zero => rw [Nat.le_zero.1 hn]
  | succ n ih =>
    by_cases hk : k = n + 1
    · rw [hk]
    · have := ih (by omega)
      conv => { lhs; unfold plK }
      rw [this, if_neg h]
end Go.Proofs.Ytgmfifilgbbogaa
