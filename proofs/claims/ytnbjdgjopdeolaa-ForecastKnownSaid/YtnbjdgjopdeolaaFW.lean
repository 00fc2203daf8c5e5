

/- Forecast: Levels. -/
import Derived.Test.YtnbjdgjopdeolaaFI
import Derived.Test.YtnbjdgjopdeolaaOO
import Derived.Test.YtnbjdgjopdeolaaK
namespace Go.Proofs.Ytnbjdgjopdeolaa
open Go.RowKit Go.Shelf
set_option linter.unusedSimpArgs false
set_option linter.unusedVariables false
set_option maxRecDepth 100000
attribute [local go_sem] Oper.semAt_some

def lcs (ls : List Lv) : List Value := (ls.map Lv.cells).flatten
theorem lcs_length (ls : List Lv) : (lcs ls).length = ls.length * 3 := by
  induction ls with
  | nil => rfl
  | cons x ls ih => simp only [lcs, List.map_cons, List.flatten_cons, List.length_append, List.length_cons] at *; rw [ih]; simp [Lv.cells]; omega
theorem lcs_get (ls : List Lv) : ∀ (i j : Nat), i < ls.length → j < 3 → (lcs ls)[i * 3 + j]? = (ls.getD i lv0).cells[j]? := by
  induction ls with
  | nil => intro i j h; simp at h
  | cons x ls ih =>
    intro i j h hj
    have hl : x.cells.length = 3 := rfl
    show (x.cells ++ lcs ls)[i * 3 + j]? = _
    cases i with
    | zero =>
      rw [List.getElem?_append_left (by rw [hl]; omega)]
      simp
    | succ i =>
      rw [List.getElem?_append_right (by rw [hl]; omega), hl, show (i + 1) * 3 + j - 3 = i * 3 + j by omega]
      simpa using ih i j (by simpa using h) hj
theorem lcs_snoc (ls : List Lv) (x : Lv) : lcs (ls ++ [x]) = lcs ls ++ x.cells := by simp [lcs]
theorem lcs_one (ls : List Lv) : ∀ u ∈ lcs ls, u.oneCell' = true := by
  intro u hu
  obtain ⟨l, hl, hul⟩ := List.mem_flatten.1 hu
  obtain ⟨c, _, rfl⟩ := List.mem_map.1 hl
  simp [Lv.cells] at hul
  rcases hul with rfl | rfl | rfl <;> rfl
theorem ELv : ElemOk Try.prog 45 57 (.agg #[.int .i64 0, .int .u64 0, .int .u64 0]) 3 24 := ⟨Try.underlying45, by kernel_rfl, rfl, by decide⟩
/-- v reads as the levels ls -/
def RdL (w : World) (v : Value) (ls : List Lv) : Prop := RdS w 3 v ls.length (lcs ls)
theorem RdL.keep {W w1 : World} {v : Value} {ls : List Lv} (hb : Below W.heap.size W w1) (h : RdL W v ls) : RdL w1 v ls := RdS.keep hb h
theorem RdL.nil (w : World) : RdL w (.slice none 0 0) [] := RdS.nil w 3
theorem RdL.form {w : World} {v : Value} {ls : List Lv} (h : RdL w v ls) : ∃ a c, v = .slice a ls.length c := RdS.form h
abbrev LA (w : World) (b o : Nat) (x : Lv) : Prop := w.cell? ⟨b, o, none⟩ = some (.int .i64 x.tk) ∧ w.cell? ⟨b, o + 1, none⟩ = some (.int .u64 x.st) ∧ w.cell? ⟨b, o + 2, none⟩ = some (.int .u64 x.rv)
theorem LA.keep {W w1 : World} {b o : Nat} {x : Lv} (hb : Below W.heap.size W w1) (h : LA W b o x) : LA w1 b o x := ⟨cell_later hb h.1, cell_later hb h.2.1, cell_later hb h.2.2⟩
theorem RdL.at {w : World} {a : Option Addr} {n c : Nat} {ls : List Lv} (h : RdL w (.slice a n c) ls) (hn : ls.length = n) (k : Nat) (hk : k < n) : ∃ b off, a = some ⟨b, off, none⟩ ∧ n ≤ c ∧ LA w b (off + k * 3) (ls.getD k lv0) := by
  obtain ⟨_, _, ⟨h0, _⟩ | ⟨b, off, cap, hv, hc, hr⟩⟩ := h
  · omega
  · simp only [Value.slice.injEq] at hv
    obtain ⟨rfl, _, rfl⟩ := hv
    refine ⟨b, off, rfl, by omega, ?_, ?_, ?_⟩
    · have := hr (k * 3 + 0) (.int .i64 (ls.getD k lv0).tk) (by rw [lcs_get ls k 0 (by omega) (by omega)]; rfl)
      simpa [Nat.add_assoc] using this
    · have := hr (k * 3 + 1) (.int .u64 (ls.getD k lv0).st) (by rw [lcs_get ls k 1 (by omega) (by omega)]; rfl)
      simpa [Nat.add_assoc] using this
    · have := hr (k * 3 + 2) (.int .u64 (ls.getD k lv0).rv) (by rw [lcs_get ls k 2 (by omega) (by omega)]; rfl)
      simpa [Nat.add_assoc] using this
theorem own_keepP {W w1 : World} {p : Obj → Bool} {base : Nat} {e : TypeId} {size : Nat} {v : Value} {n : Nat} {xs : List Value} (hb : keepsP p W w1) (hp : ∀ c, p (.cells c e (0, 0)) = true) (h : W.ownsRow base e size v n xs) : w1.ownsRow base e size v n xs := by
  obtain ⟨h1, h2⟩ := h
  refine ⟨h1, ?_⟩
  rcases h2 with h2 | ⟨g, cap, cur, hv, hg, hh, hc⟩
  · exact .inl h2
  · exact .inr ⟨g, cap, cur, hv, hg, hb _ _ hh (hp _), hc⟩
/-- box L holds a slice that owns the levels ls -/
def LI (L : Nat) (ls : List Lv) (W : World) : Prop := ∃ v, Boxed W L 45 v ∧ W.ownsRow L 57 3 v ls.length (lcs ls)
theorem LI.keep {L : Nat} {ls : List Lv} {A B : World} (h : LI L ls A) (hk : keepsP (fun o => pF o && o.isCells) A B) : LI L ls B := by
  obtain ⟨v, h1, h2⟩ := h
  exact ⟨v, hk _ _ h1 rfl, own_keepP hk (fun _ => rfl) h2⟩

theorem levels_seq (c : Cf) (cs : List Ct) (q st : Int) (rs : Value) (xs : List Int) (v : Value) (now : Int) (M n B : Nat) (w0 w : World)
    (hcs : planChk cs = (0, 0)) (h : RdC w0 v cs) (hx : RdI .u64 w0 rs xs) (hx16 : Rb xs) (hst : 0 ≤ st ∧ st ≤ 1099511627776) (hwd : c.wd ≤ 1099511627776) (hnow : 0 ≤ now) (hun : now + M ≤ 1099511627776) (hM : M ≤ 1000)
    (hW : Below w0.heap.size w0 w) (hBX : BX w B c q st rs v now (now + M)) :
    SeqW n Try.prog 96 #[.pointer (some ⟨B + 1, 0, none⟩), .pointer (some ⟨B + 3, 0, none⟩), .pointer (some ⟨B + 4, 0, none⟩), .pointer (some ⟨B + 2, 0, none⟩), .pointer (some ⟨B, 0, none⟩)]
      (fun k => #[.int .i64 (now + k), .agg (lvl c cs st xs now k).cells.toArray]) pF qL w0.heap.size M w := fun l J W hW1 hJ hY h0 => by
  obtain ⟨a0, n0, rfl⟩ := h.form
  exact levels1_in c cs q st rs xs a0 cs.length n0 now M n B l w0 hcs rfl h hx hx16 hst hwd hnow hun hM J W (hW.trans (hW1.mono hW.size)) (hBX.below hW1) hJ hY h0

/-- levels(c, s, l, now, until): five boxes, and the function over them -/
theorem vlevels_any (c : Cf) (q st : Int) (rs : Value) (a : Option Addr) (n cap : Nat) (now un : Int) (w : World) :
    Calls Try.prog 75 #[c.v, Sv q st rs, .slice a n cap, .int .i64 now, .int .i64 un] w fun e w' => e = .returned (.func (.func 96) #[] #[.pointer (some ⟨w.heap.size + 1, 0, none⟩), .pointer (some ⟨w.heap.size + 3, 0, none⟩), .pointer (some ⟨w.heap.size + 4, 0, none⟩), .pointer (some ⟨w.heap.size + 2, 0, none⟩), .pointer (some ⟨w.heap.size, 0, none⟩)]) ∧
      BX w' w.heap.size c q st rs (.slice a n cap) now un ∧ Below w.heap.size w w' ∧ w'.heap.size = w.heap.size + 5 := by
  obtain ⟨A1, hA1⟩ : ∃ A : World, A = w.alloc (.cells #[.int .i64 c.nd, .int .u64 c.qo, .int .u64 c.la, .int .u64 c.wd, .int .u64 c.lo, .int .i64 c.re, .int .i64 c.rm, .int .i64 c.by', .int .i64 c.w0, .int .i64 c.w1, .int .i64 c.w2, .int .i64 c.rn, .int .i64 c.rd, .int .i64 c.bu, .int .i64 c.bl, .int .i64 c.ra] 35) := ⟨_, rfl⟩
  obtain ⟨A2, hA2⟩ : ∃ A : World, A = A1.alloc (.cells #[.int .u64 q, .int .u64 st, rs] 38) := ⟨_, rfl⟩
  obtain ⟨A3, hA3⟩ : ∃ A : World, A = A2.alloc (.cells #[.slice a n cap] 39) := ⟨_, rfl⟩
  obtain ⟨A4, hA4⟩ : ∃ A : World, A = A3.alloc (.cells #[.int .i64 now] 3) := ⟨_, rfl⟩
  obtain ⟨A5, hA5⟩ : ∃ A : World, A = A4.alloc (.cells #[.int .i64 un] 3) := ⟨_, rfl⟩
  have s1 : A1.heap.size = w.heap.size + 1 := by rw [hA1]; simp
  have s2 : A2.heap.size = w.heap.size + 2 := by rw [hA2]; simp [s1]
  have s3 : A3.heap.size = w.heap.size + 3 := by rw [hA3]; simp [s2]
  have s4 : A4.heap.size = w.heap.size + 4 := by rw [hA4]; simp [s3]
  have s5 : A5.heap.size = w.heap.size + 5 := by rw [hA5]; simp [s4]
  have hb : Below w.heap.size w A5 := by rw [hA5, hA4, hA3, hA2, hA1]; exact (by repeat (first | assumption | exact Below.refl _ _ | apply Below.al | apply below_drewN | apply Below.drew | refine Below.next ?_ (by assumption)))
  have hbx : BX A5 w.heap.size c q st rs (.slice a n cap) now un := by
    refine ⟨?_, ?_, ?_, ?_, ?_⟩
    · rw [hA5, hA4, hA3, hA2]; exact heap_al _ (heap_al _ (heap_al _ (heap_al _ (by rw [hA1]; exact heap_last w _))))
    · rw [hA5, hA4, hA3]; exact heap_al _ (heap_al _ (heap_al _ (by rw [← s1, hA2]; exact heap_last A1 _)))
    · rw [hA5, hA4]; exact heap_al _ (heap_al _ (by rw [← s2, hA3]; exact heap_last A2 _))
    · rw [hA5]; exact heap_al _ (by rw [← s3, hA4]; exact heap_last A3 _)
    · rw [← s4, hA5]; exact heap_last A4 _
  have HB : Hid (BX ((((w.alloc (.cells #[.int .i64 c.nd, .int .u64 c.qo, .int .u64 c.la, .int .u64 c.wd, .int .u64 c.lo, .int .i64 c.re, .int .i64 c.rm, .int .i64 c.by', .int .i64 c.w0, .int .i64 c.w1, .int .i64 c.w2, .int .i64 c.rn, .int .i64 c.rd, .int .i64 c.bu, .int .i64 c.bl, .int .i64 c.ra] 35)).alloc (.cells #[.int .u64 q, .int .u64 st, rs] 38)).alloc (.cells #[.slice a n cap] 39)).alloc (.cells #[.int .i64 now] 3) |>.alloc (.cells #[.int .i64 un] 3)) w.heap.size c q st rs (.slice a n cap) now un) := by
    unfold Hid; rw [← hA1, ← hA2, ← hA3, ← hA4, ← hA5]; exact hbx
  clear s1 s2 s3 s4 s5 hb hbx hA5 hA4 hA3 hA2 hA1
  go_enter Try.func75, Try.ntmps75
  go_wp2
  go_ret
  exact ⟨rfl, HB.out, (by repeat (first | assumption | exact Below.refl _ _ | apply Below.al | apply below_drewN | apply Below.drew | refine Below.next ?_ (by assumption))), by simp⟩
end Go.Proofs.Ytnbjdgjopdeolaa
