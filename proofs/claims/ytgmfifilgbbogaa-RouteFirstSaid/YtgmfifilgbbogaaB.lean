


/- Volume: Book, Finish, Left, Bytes: contracts of both texts. -/
import Derived.Test.YtgmfifilgbbogaaA
namespace Go.Proofs.Ytgmfifilgbbogaa
open Go.RowKit
set_option linter.unusedSimpArgs false
set_option linter.unusedVariables false

/-- what Book answers, as a relation by cases -/
inductive Bk (c : Ct) (b t n : Int) : Int → Int → Int → Prop
  | bad (h : ¬ okC c) : Bk c b t n 0 0 2
  | tick (h : okC c) (h1 : tickB t = false) : Bk c b t n 0 0 2
  | neg (h : okC c) (h1 : tickB t = true) (h2 : b < 0) : Bk c b t n 0 0 2
  | big (h : okC c) (h1 : tickB t = true) (h2 : 0 ≤ b) (h3 : vol c < b) : Bk c b t n 0 0 2
  | bytes (h : okC c) (h1 : tickB t = true) (h2 : 0 ≤ b) (h3 : b ≤ vol c) (h4 : bytesB n = false) : Bk c b t n 0 0 2
  | late (h : okC c) (h1 : tickB t = true) (h2 : 0 ≤ b) (h3 : b ≤ vol c) (h4 : bytesB n = true) (h5 : vol c < max b (pos c t) + n) : Bk c b t n 0 0 16
  | fine (h : okC c) (h1 : tickB t = true) (h2 : 0 ≤ b) (h3 : b ≤ vol c) (h4 : bytesB n = true) (h5 : max b (pos c t) + n ≤ vol c) : Bk c b t n (thr c (max b (pos c t) + n)) (max b (pos c t) + n) 0


theorem Bk.ex (c : Ct) (b t n : Int) : ∃ x y z, Bk c b t n x y z := by
  by_cases h : okC c
  · cases h1 : tickB t
    · exact ⟨_, _, _, .tick h h1⟩
    · by_cases h2 : b < 0
      · exact ⟨_, _, _, .neg h h1 h2⟩
      · by_cases h3 : vol c < b
        · exact ⟨_, _, _, .big h h1 (by omega) h3⟩
        · cases h4 : bytesB n
          · exact ⟨_, _, _, .bytes h h1 (by omega) (by omega) h4⟩
          · by_cases h5 : vol c < max b (pos c t) + n
            · exact ⟨_, _, _, .late h h1 (by omega) (by omega) h4 h5⟩
            · exact ⟨_, _, _, .fine h h1 (by omega) (by omega) h4 (by omega)⟩
  · exact ⟨_, _, _, .bad h⟩


set_option maxHeartbeats 1000000 in
theorem book_any (c : Ct) (b t n x y z : Int) (hk : Bk c b t n x y z) (w : World) :
    Calls Try.prog 70 #[c.v, .int .i64 b, .int .i64 t, .int .i64 n] w fun e w' => e = .returned (V3 x y z) ∧ Below w.heap.size w w' := by
  cases hk with
  | bad h =>
    have hA : True := trivial
    have hB : True := trivial
    have hok := Lib.hid h
    clear h
    have hA : True := trivial
    have hB : True := trivial
    go_enter Try.func70, Try.ntmps70
    go_wp2_with (first
      | (go_at_call 64; refine (one_no c hok.out _).mono ?_; rintro e w1 ⟨rfl, hb⟩)
      | (go_at_call 64; refine (one_yes c hok.out _).mono ?_; rintro e w1 ⟨rfl, hb⟩; have hA : BC w1 w.heap.size c := by first | exact BC.keep hb hA | exact BC.keep hb (by simp [BC, go_sem, hA]) | exact BC.keep hb (by simp [BC, go_sem]))
      | (go_at_call 76; refine (tick_any t _).mono ?_; rintro e w2 ⟨rfl, rfl⟩)
      | (go_at_call 78; refine (bytes_any n _).mono ?_; rintro e w2 ⟨rfl, rfl⟩)
      | (go_at_call 77; refine (vol_any c hok.out _).mono ?_; rintro e w2 ⟨rfl, hb⟩; have hB : BC w2 w1.heap.size c := by first | exact BC.keep hb hB | exact BC.keep hb (by simp [BC, go_sem, hB]) | exact BC.keep hb (by simp [BC, go_sem]))
      | (go_at_call 79; refine (from_any c hok.out b t _).mono ?_; rintro e w2 ⟨rfl, hb⟩; have hB : BC w2 w1.heap.size c := by first | exact BC.keep hb hB | exact BC.keep hb (by simp [BC, go_sem, hB]) | exact BC.keep hb (by simp [BC, go_sem]))
      | (go_at_call 80; refine (thr_any c hok.out _ (by omega) (by omega) _).mono ?_; rintro e w2 ⟨rfl, hb⟩)
      | fail)
    go_ret3
    exact ⟨rfl, (by repeat (first | assumption | exact Below.refl _ _ | apply Below.al | apply below_drewN | apply Below.drew | refine Below.next ?_ (by assumption)))⟩
  | tick h h1 =>
    have hA : True := trivial
    have hB : True := trivial
    have hok := Lib.hid h
    clear h
    have hA : True := trivial
    have hB : True := trivial
    go_enter Try.func70, Try.ntmps70
    go_wp2_with (first
      | (go_at_call 64; refine (one_no c hok.out _).mono ?_; rintro e w1 ⟨rfl, hb⟩)
      | (go_at_call 64; refine (one_yes c hok.out _).mono ?_; rintro e w1 ⟨rfl, hb⟩; have hA : BC w1 w.heap.size c := by first | exact BC.keep hb hA | exact BC.keep hb (by simp [BC, go_sem, hA]) | exact BC.keep hb (by simp [BC, go_sem]))
      | (go_at_call 76; refine (tick_any t _).mono ?_; rintro e w2 ⟨rfl, rfl⟩)
      | (go_at_call 78; refine (bytes_any n _).mono ?_; rintro e w2 ⟨rfl, rfl⟩)
      | (go_at_call 77; refine (vol_any c hok.out _).mono ?_; rintro e w2 ⟨rfl, hb⟩; have hB : BC w2 w1.heap.size c := by first | exact BC.keep hb hB | exact BC.keep hb (by simp [BC, go_sem, hB]) | exact BC.keep hb (by simp [BC, go_sem]))
      | (go_at_call 79; refine (from_any c hok.out b t _).mono ?_; rintro e w2 ⟨rfl, hb⟩; have hB : BC w2 w1.heap.size c := by first | exact BC.keep hb hB | exact BC.keep hb (by simp [BC, go_sem, hB]) | exact BC.keep hb (by simp [BC, go_sem]))
      | (go_at_call 80; refine (thr_any c hok.out _ (by omega) (by omega) _).mono ?_; rintro e w2 ⟨rfl, hb⟩)
      | fail)
    go_ret3
    exact ⟨rfl, (by repeat (first | assumption | exact Below.refl _ _ | apply Below.al | apply below_drewN | apply Below.drew | refine Below.next ?_ (by assumption)))⟩
  | neg h h1 h2 =>
    have hA : True := trivial
    have hB : True := trivial
    have hok := Lib.hid h
    clear h
    have hd1 : decide (b < 0) = true := by simp; omega
    have hA : True := trivial
    have hB : True := trivial
    go_enter Try.func70, Try.ntmps70
    go_wp2_with (first
      | (go_at_call 64; refine (one_no c hok.out _).mono ?_; rintro e w1 ⟨rfl, hb⟩)
      | (go_at_call 64; refine (one_yes c hok.out _).mono ?_; rintro e w1 ⟨rfl, hb⟩; have hA : BC w1 w.heap.size c := by first | exact BC.keep hb hA | exact BC.keep hb (by simp [BC, go_sem, hA]) | exact BC.keep hb (by simp [BC, go_sem]))
      | (go_at_call 76; refine (tick_any t _).mono ?_; rintro e w2 ⟨rfl, rfl⟩)
      | (go_at_call 78; refine (bytes_any n _).mono ?_; rintro e w2 ⟨rfl, rfl⟩)
      | (go_at_call 77; refine (vol_any c hok.out _).mono ?_; rintro e w2 ⟨rfl, hb⟩; have hB : BC w2 w1.heap.size c := by first | exact BC.keep hb hB | exact BC.keep hb (by simp [BC, go_sem, hB]) | exact BC.keep hb (by simp [BC, go_sem]))
      | (go_at_call 79; refine (from_any c hok.out b t _).mono ?_; rintro e w2 ⟨rfl, hb⟩; have hB : BC w2 w1.heap.size c := by first | exact BC.keep hb hB | exact BC.keep hb (by simp [BC, go_sem, hB]) | exact BC.keep hb (by simp [BC, go_sem]))
      | (go_at_call 80; refine (thr_any c hok.out _ (by omega) (by omega) _).mono ?_; rintro e w2 ⟨rfl, hb⟩)
      | fail)
    go_ret3
    exact ⟨rfl, (by repeat (first | assumption | exact Below.refl _ _ | apply Below.al | apply below_drewN | apply Below.drew | refine Below.next ?_ (by assumption)))⟩
  | big h h1 h2 h3 =>
    have hA : True := trivial
    have hB : True := trivial
    have hok := Lib.hid h
    clear h
    have hd1 : decide (b < 0) = false := nb (by omega)
    have hd2 : decide (vol c < b) = true := by simp; omega
    have hA : True := trivial
    have hB : True := trivial
    go_enter Try.func70, Try.ntmps70
    go_wp2_with (first
      | (go_at_call 64; refine (one_no c hok.out _).mono ?_; rintro e w1 ⟨rfl, hb⟩)
      | (go_at_call 64; refine (one_yes c hok.out _).mono ?_; rintro e w1 ⟨rfl, hb⟩; have hA : BC w1 w.heap.size c := by first | exact BC.keep hb hA | exact BC.keep hb (by simp [BC, go_sem, hA]) | exact BC.keep hb (by simp [BC, go_sem]))
      | (go_at_call 76; refine (tick_any t _).mono ?_; rintro e w2 ⟨rfl, rfl⟩)
      | (go_at_call 78; refine (bytes_any n _).mono ?_; rintro e w2 ⟨rfl, rfl⟩)
      | (go_at_call 77; refine (vol_any c hok.out _).mono ?_; rintro e w2 ⟨rfl, hb⟩; have hB : BC w2 w1.heap.size c := by first | exact BC.keep hb hB | exact BC.keep hb (by simp [BC, go_sem, hB]) | exact BC.keep hb (by simp [BC, go_sem]))
      | (go_at_call 79; refine (from_any c hok.out b t _).mono ?_; rintro e w2 ⟨rfl, hb⟩; have hB : BC w2 w1.heap.size c := by first | exact BC.keep hb hB | exact BC.keep hb (by simp [BC, go_sem, hB]) | exact BC.keep hb (by simp [BC, go_sem]))
      | (go_at_call 80; refine (thr_any c hok.out _ (by omega) (by omega) _).mono ?_; rintro e w2 ⟨rfl, hb⟩)
      | fail)
    go_ret3
    exact ⟨rfl, (by repeat (first | assumption | exact Below.refl _ _ | apply Below.al | apply below_drewN | apply Below.drew | refine Below.next ?_ (by assumption)))⟩
  | bytes h h1 h2 h3 h4 =>
    have hA : True := trivial
    have hB : True := trivial
    have hok := Lib.hid h
    clear h
    have hd1 : decide (b < 0) = false := nb (by omega)
    have hd2 : decide (vol c < b) = false := nb (by omega)
    have hA : True := trivial
    have hB : True := trivial
    go_enter Try.func70, Try.ntmps70
    go_wp2_with (first
      | (go_at_call 64; refine (one_no c hok.out _).mono ?_; rintro e w1 ⟨rfl, hb⟩)
      | (go_at_call 64; refine (one_yes c hok.out _).mono ?_; rintro e w1 ⟨rfl, hb⟩; have hA : BC w1 w.heap.size c := by first | exact BC.keep hb hA | exact BC.keep hb (by simp [BC, go_sem, hA]) | exact BC.keep hb (by simp [BC, go_sem]))
      | (go_at_call 76; refine (tick_any t _).mono ?_; rintro e w2 ⟨rfl, rfl⟩)
      | (go_at_call 78; refine (bytes_any n _).mono ?_; rintro e w2 ⟨rfl, rfl⟩)
      | (go_at_call 77; refine (vol_any c hok.out _).mono ?_; rintro e w2 ⟨rfl, hb⟩; have hB : BC w2 w1.heap.size c := by first | exact BC.keep hb hB | exact BC.keep hb (by simp [BC, go_sem, hB]) | exact BC.keep hb (by simp [BC, go_sem]))
      | (go_at_call 79; refine (from_any c hok.out b t _).mono ?_; rintro e w2 ⟨rfl, hb⟩; have hB : BC w2 w1.heap.size c := by first | exact BC.keep hb hB | exact BC.keep hb (by simp [BC, go_sem, hB]) | exact BC.keep hb (by simp [BC, go_sem]))
      | (go_at_call 80; refine (thr_any c hok.out _ (by omega) (by omega) _).mono ?_; rintro e w2 ⟨rfl, hb⟩)
      | fail)
    go_ret3
    exact ⟨rfl, (by repeat (first | assumption | exact Below.refl _ _ | apply Below.al | apply below_drewN | apply Below.drew | refine Below.next ?_ (by assumption)))⟩
  | late h h1 h2 h3 h4 h5 =>
    have hA : True := trivial
    have hB : True := trivial
    have hok := Lib.hid h
    have hv := vol_bd c h
    change 0 ≤ vol c ∧ vol c ≤ _ at hv
    have hpl := pos_le c h t
    have hn : 1 ≤ n ∧ n ≤ 1099511627776 := by simpa [bytesB] using h4
    have hm : 0 ≤ max b (pos c t) := by omega
    have hd1 : decide (b < 0) = false := nb (by omega)
    have hd2 : decide (vol c < b) = false := nb (by omega)
    clear h
    have hA : True := trivial
    have hB : True := trivial
    go_enter Try.func70, Try.ntmps70
    go_wp2_with (first
      | (go_at_call 64; refine (one_no c hok.out _).mono ?_; rintro e w1 ⟨rfl, hb⟩)
      | (go_at_call 64; refine (one_yes c hok.out _).mono ?_; rintro e w1 ⟨rfl, hb⟩; have hA : BC w1 w.heap.size c := by first | exact BC.keep hb hA | exact BC.keep hb (by simp [BC, go_sem, hA]) | exact BC.keep hb (by simp [BC, go_sem]))
      | (go_at_call 76; refine (tick_any t _).mono ?_; rintro e w2 ⟨rfl, rfl⟩)
      | (go_at_call 78; refine (bytes_any n _).mono ?_; rintro e w2 ⟨rfl, rfl⟩)
      | (go_at_call 77; refine (vol_any c hok.out _).mono ?_; rintro e w2 ⟨rfl, hb⟩; have hB : BC w2 w1.heap.size c := by first | exact BC.keep hb hB | exact BC.keep hb (by simp [BC, go_sem, hB]) | exact BC.keep hb (by simp [BC, go_sem]))
      | (go_at_call 79; refine (from_any c hok.out b t _).mono ?_; rintro e w2 ⟨rfl, hb⟩; have hB : BC w2 w1.heap.size c := by first | exact BC.keep hb hB | exact BC.keep hb (by simp [BC, go_sem, hB]) | exact BC.keep hb (by simp [BC, go_sem]))
      | (go_at_call 80; refine (thr_any c hok.out _ (by omega) (by omega) _).mono ?_; rintro e w2 ⟨rfl, hb⟩)
      | fail)
    go_ret3
    exact ⟨rfl, (by repeat (first | assumption | exact Below.refl _ _ | apply Below.al | apply below_drewN | apply Below.drew | refine Below.next ?_ (by assumption)))⟩
  | fine h h1 h2 h3 h4 h5 =>
    have hA : True := trivial
    have hB : True := trivial
    have hok := Lib.hid h
    have hv := vol_bd c h
    change 0 ≤ vol c ∧ vol c ≤ _ at hv
    have hpl := pos_le c h t
    have hn : 1 ≤ n ∧ n ≤ 1099511627776 := by simpa [bytesB] using h4
    have hm : 0 ≤ max b (pos c t) := by omega
    have hd1 : decide (b < 0) = false := nb (by omega)
    have hd2 : decide (vol c < b) = false := nb (by omega)
    clear h
    have hA : True := trivial
    have hB : True := trivial
    go_enter Try.func70, Try.ntmps70
    go_wp2_with (first
      | (go_at_call 64; refine (one_no c hok.out _).mono ?_; rintro e w1 ⟨rfl, hb⟩)
      | (go_at_call 64; refine (one_yes c hok.out _).mono ?_; rintro e w1 ⟨rfl, hb⟩; have hA : BC w1 w.heap.size c := by first | exact BC.keep hb hA | exact BC.keep hb (by simp [BC, go_sem, hA]) | exact BC.keep hb (by simp [BC, go_sem]))
      | (go_at_call 76; refine (tick_any t _).mono ?_; rintro e w2 ⟨rfl, rfl⟩)
      | (go_at_call 78; refine (bytes_any n _).mono ?_; rintro e w2 ⟨rfl, rfl⟩)
      | (go_at_call 77; refine (vol_any c hok.out _).mono ?_; rintro e w2 ⟨rfl, hb⟩; have hB : BC w2 w1.heap.size c := by first | exact BC.keep hb hB | exact BC.keep hb (by simp [BC, go_sem, hB]) | exact BC.keep hb (by simp [BC, go_sem]))
      | (go_at_call 79; refine (from_any c hok.out b t _).mono ?_; rintro e w2 ⟨rfl, hb⟩; have hB : BC w2 w1.heap.size c := by first | exact BC.keep hb hB | exact BC.keep hb (by simp [BC, go_sem, hB]) | exact BC.keep hb (by simp [BC, go_sem]))
      | (go_at_call 80; refine (thr_any c hok.out _ (by omega) (by omega) _).mono ?_; rintro e w2 ⟨rfl, hb⟩)
      | fail)
    go_ret3
    exact ⟨rfl, (by repeat (first | assumption | exact Below.refl _ _ | apply Below.al | apply below_drewN | apply Below.drew | refine Below.next ?_ (by assumption)))⟩

set_option maxHeartbeats 1000000 in
theorem rbook_any (c : Ct) (b t n x y z : Int) (hk : Bk c b t n x y z) (w : World) :
    Calls Try.prog 71 #[c.v, .int .i64 b, .int .i64 t, .int .i64 n] w fun e w' => e = .returned (V3 x y z) ∧ Below w.heap.size w w' := by
  cases hk with
  | bad h =>
    have hA : True := trivial
    have hB : True := trivial
    have hok := Lib.hid h
    clear h
    go_enter Try.func71, Try.ntmps71
    go_wp2_with (first
      | (go_at_call 72; refine (rone_no c hok.out _).mono ?_; rintro e w1 ⟨rfl, hb⟩)
      | (go_at_call 72; refine (rone_yes c hok.out _).mono ?_; rintro e w1 ⟨rfl, hb⟩; have hA : BC w1 w.heap.size c := by first | exact BC.keep hb hA | exact BC.keep hb (by simp [BC, go_sem, hA]) | exact BC.keep hb (by simp [BC, go_sem]))
      | (go_at_call 81; refine (rtick_any t _).mono ?_; rintro e w2 ⟨rfl, rfl⟩)
      | (go_at_call 82; refine (rvol_any c hok.out _).mono ?_; rintro e w1 ⟨rfl, hb⟩; have hA : BC w1 w.heap.size c := by first | exact BC.keep hb hA | exact BC.keep hb (by simp [BC, go_sem, hA]) | exact BC.keep hb (by simp [BC, go_sem]))
      | (go_at_call 83; refine (rpos_any c hok.out t _).mono ?_; rintro e w1 ⟨rfl, hb⟩; have hA : BC w1 w.heap.size c := by first | exact BC.keep hb hA | exact BC.keep hb (by simp [BC, go_sem, hA]) | exact BC.keep hb (by simp [BC, go_sem]))
      | fail)
    go_ret3
    exact ⟨rfl, (by repeat (first | assumption | exact Below.refl _ _ | apply Below.al | apply below_drewN | apply Below.drew | refine Below.next ?_ (by assumption)))⟩
  | tick h h1 =>
    have hA : True := trivial
    have hB : True := trivial
    have hok := Lib.hid h
    clear h
    go_enter Try.func71, Try.ntmps71
    go_wp2_with (first
      | (go_at_call 72; refine (rone_no c hok.out _).mono ?_; rintro e w1 ⟨rfl, hb⟩)
      | (go_at_call 72; refine (rone_yes c hok.out _).mono ?_; rintro e w1 ⟨rfl, hb⟩; have hA : BC w1 w.heap.size c := by first | exact BC.keep hb hA | exact BC.keep hb (by simp [BC, go_sem, hA]) | exact BC.keep hb (by simp [BC, go_sem]))
      | (go_at_call 81; refine (rtick_any t _).mono ?_; rintro e w2 ⟨rfl, rfl⟩)
      | (go_at_call 82; refine (rvol_any c hok.out _).mono ?_; rintro e w1 ⟨rfl, hb⟩; have hA : BC w1 w.heap.size c := by first | exact BC.keep hb hA | exact BC.keep hb (by simp [BC, go_sem, hA]) | exact BC.keep hb (by simp [BC, go_sem]))
      | (go_at_call 83; refine (rpos_any c hok.out t _).mono ?_; rintro e w1 ⟨rfl, hb⟩; have hA : BC w1 w.heap.size c := by first | exact BC.keep hb hA | exact BC.keep hb (by simp [BC, go_sem, hA]) | exact BC.keep hb (by simp [BC, go_sem]))
      | fail)
    go_ret3
    exact ⟨rfl, (by repeat (first | assumption | exact Below.refl _ _ | apply Below.al | apply below_drewN | apply Below.drew | refine Below.next ?_ (by assumption)))⟩
  | neg h h1 h2 =>
    have hA : True := trivial
    have hB : True := trivial
    have hok := Lib.hid h
    clear h
    have hd1 : decide (b < 0) = true := by simp; omega
    go_enter Try.func71, Try.ntmps71
    go_wp2_with (first
      | (go_at_call 72; refine (rone_no c hok.out _).mono ?_; rintro e w1 ⟨rfl, hb⟩)
      | (go_at_call 72; refine (rone_yes c hok.out _).mono ?_; rintro e w1 ⟨rfl, hb⟩; have hA : BC w1 w.heap.size c := by first | exact BC.keep hb hA | exact BC.keep hb (by simp [BC, go_sem, hA]) | exact BC.keep hb (by simp [BC, go_sem]))
      | (go_at_call 81; refine (rtick_any t _).mono ?_; rintro e w2 ⟨rfl, rfl⟩)
      | (go_at_call 82; refine (rvol_any c hok.out _).mono ?_; rintro e w1 ⟨rfl, hb⟩; have hA : BC w1 w.heap.size c := by first | exact BC.keep hb hA | exact BC.keep hb (by simp [BC, go_sem, hA]) | exact BC.keep hb (by simp [BC, go_sem]))
      | (go_at_call 83; refine (rpos_any c hok.out t _).mono ?_; rintro e w1 ⟨rfl, hb⟩; have hA : BC w1 w.heap.size c := by first | exact BC.keep hb hA | exact BC.keep hb (by simp [BC, go_sem, hA]) | exact BC.keep hb (by simp [BC, go_sem]))
      | fail)
    go_ret3
    exact ⟨rfl, (by repeat (first | assumption | exact Below.refl _ _ | apply Below.al | apply below_drewN | apply Below.drew | refine Below.next ?_ (by assumption)))⟩
  | big h h1 h2 h3 =>
    have hA : True := trivial
    have hB : True := trivial
    have hok := Lib.hid h
    clear h
    have hd1 : decide (b < 0) = false := nb (by omega)
    have hd2 : decide (vol c < b) = true := by simp; omega
    go_enter Try.func71, Try.ntmps71
    go_wp2_with (first
      | (go_at_call 72; refine (rone_no c hok.out _).mono ?_; rintro e w1 ⟨rfl, hb⟩)
      | (go_at_call 72; refine (rone_yes c hok.out _).mono ?_; rintro e w1 ⟨rfl, hb⟩; have hA : BC w1 w.heap.size c := by first | exact BC.keep hb hA | exact BC.keep hb (by simp [BC, go_sem, hA]) | exact BC.keep hb (by simp [BC, go_sem]))
      | (go_at_call 81; refine (rtick_any t _).mono ?_; rintro e w2 ⟨rfl, rfl⟩)
      | (go_at_call 82; refine (rvol_any c hok.out _).mono ?_; rintro e w1 ⟨rfl, hb⟩; have hA : BC w1 w.heap.size c := by first | exact BC.keep hb hA | exact BC.keep hb (by simp [BC, go_sem, hA]) | exact BC.keep hb (by simp [BC, go_sem]))
      | (go_at_call 83; refine (rpos_any c hok.out t _).mono ?_; rintro e w1 ⟨rfl, hb⟩; have hA : BC w1 w.heap.size c := by first | exact BC.keep hb hA | exact BC.keep hb (by simp [BC, go_sem, hA]) | exact BC.keep hb (by simp [BC, go_sem]))
      | fail)
    go_ret3
    exact ⟨rfl, (by repeat (first | assumption | exact Below.refl _ _ | apply Below.al | apply below_drewN | apply Below.drew | refine Below.next ?_ (by assumption)))⟩
  | bytes h h1 h2 h3 h4 =>
    have hA : True := trivial
    have hB : True := trivial
    have hok := Lib.hid h
    clear h
    have hd1 : decide (b < 0) = false := nb (by omega)
    have hd2 : decide (vol c < b) = false := nb (by omega)
    by_cases hn : n < 1
    · have hd3 : decide (n < 1) = true := by simp; omega
      go_enter Try.func71, Try.ntmps71
      go_wp2_with (first
        | (go_at_call 72; refine (rone_no c hok.out _).mono ?_; rintro e w1 ⟨rfl, hb⟩)
        | (go_at_call 72; refine (rone_yes c hok.out _).mono ?_; rintro e w1 ⟨rfl, hb⟩; have hA : BC w1 w.heap.size c := by first | exact BC.keep hb hA | exact BC.keep hb (by simp [BC, go_sem, hA]) | exact BC.keep hb (by simp [BC, go_sem]))
        | (go_at_call 81; refine (rtick_any t _).mono ?_; rintro e w2 ⟨rfl, rfl⟩)
        | (go_at_call 82; refine (rvol_any c hok.out _).mono ?_; rintro e w1 ⟨rfl, hb⟩; have hA : BC w1 w.heap.size c := by first | exact BC.keep hb hA | exact BC.keep hb (by simp [BC, go_sem, hA]) | exact BC.keep hb (by simp [BC, go_sem]))
        | (go_at_call 83; refine (rpos_any c hok.out t _).mono ?_; rintro e w1 ⟨rfl, hb⟩; have hA : BC w1 w.heap.size c := by first | exact BC.keep hb hA | exact BC.keep hb (by simp [BC, go_sem, hA]) | exact BC.keep hb (by simp [BC, go_sem]))
        | fail)
      go_ret3
      exact ⟨rfl, (by repeat (first | assumption | exact Below.refl _ _ | apply Below.al | apply below_drewN | apply Below.drew | refine Below.next ?_ (by assumption)))⟩
    · have hd3 : decide (n < 1) = false := nb hn
      have hd4 : decide (1099511627776 < n) = true := by simp [bytesB] at h4; simp; omega
      go_enter Try.func71, Try.ntmps71
      go_wp2_with (first
        | (go_at_call 72; refine (rone_no c hok.out _).mono ?_; rintro e w1 ⟨rfl, hb⟩)
        | (go_at_call 72; refine (rone_yes c hok.out _).mono ?_; rintro e w1 ⟨rfl, hb⟩; have hA : BC w1 w.heap.size c := by first | exact BC.keep hb hA | exact BC.keep hb (by simp [BC, go_sem, hA]) | exact BC.keep hb (by simp [BC, go_sem]))
        | (go_at_call 81; refine (rtick_any t _).mono ?_; rintro e w2 ⟨rfl, rfl⟩)
        | (go_at_call 82; refine (rvol_any c hok.out _).mono ?_; rintro e w1 ⟨rfl, hb⟩; have hA : BC w1 w.heap.size c := by first | exact BC.keep hb hA | exact BC.keep hb (by simp [BC, go_sem, hA]) | exact BC.keep hb (by simp [BC, go_sem]))
        | (go_at_call 83; refine (rpos_any c hok.out t _).mono ?_; rintro e w1 ⟨rfl, hb⟩; have hA : BC w1 w.heap.size c := by first | exact BC.keep hb hA | exact BC.keep hb (by simp [BC, go_sem, hA]) | exact BC.keep hb (by simp [BC, go_sem]))
        | fail)
      go_ret3
      exact ⟨rfl, (by repeat (first | assumption | exact Below.refl _ _ | apply Below.al | apply below_drewN | apply Below.drew | refine Below.next ?_ (by assumption)))⟩
  | late h h1 h2 h3 h4 h5 =>
    have hA : True := trivial
    have hB : True := trivial
    have hok := Lib.hid h
    have hv := vol_bd c h
    change 0 ≤ vol c ∧ vol c ≤ _ at hv
    have hpl := pos_le c h t
    have hn : 1 ≤ n ∧ n ≤ 1099511627776 := by simpa [bytesB] using h4
    have hm : 0 ≤ max b (pos c t) := by omega
    have hd1 : decide (b < 0) = false := nb (by omega)
    have hd2 : decide (vol c < b) = false := nb (by omega)
    clear h
    have hd3 : decide (n < 1) = false := nb (by omega)
    have hd4 : decide (1099511627776 < n) = false := nb (by omega)
    go_enter Try.func71, Try.ntmps71
    go_wp2_with (first
      | (go_at_call 72; refine (rone_no c hok.out _).mono ?_; rintro e w1 ⟨rfl, hb⟩)
      | (go_at_call 72; refine (rone_yes c hok.out _).mono ?_; rintro e w1 ⟨rfl, hb⟩; have hA : BC w1 w.heap.size c := by first | exact BC.keep hb hA | exact BC.keep hb (by simp [BC, go_sem, hA]) | exact BC.keep hb (by simp [BC, go_sem]))
      | (go_at_call 81; refine (rtick_any t _).mono ?_; rintro e w2 ⟨rfl, rfl⟩)
      | (go_at_call 82; refine (rvol_any c hok.out _).mono ?_; rintro e w1 ⟨rfl, hb⟩; have hA : BC w1 w.heap.size c := by first | exact BC.keep hb hA | exact BC.keep hb (by simp [BC, go_sem, hA]) | exact BC.keep hb (by simp [BC, go_sem]))
      | (go_at_call 83; refine (rpos_any c hok.out t _).mono ?_; rintro e w1 ⟨rfl, hb⟩; have hA : BC w1 w.heap.size c := by first | exact BC.keep hb hA | exact BC.keep hb (by simp [BC, go_sem, hA]) | exact BC.keep hb (by simp [BC, go_sem]))
      | fail)
    all_goals
      go_ret3
      exact ⟨rfl, (by repeat (first | assumption | exact Below.refl _ _ | apply Below.al | apply below_drewN | apply Below.drew | refine Below.next ?_ (by assumption)))⟩
  | fine h h1 h2 h3 h4 h5 =>
    have hA : True := trivial
    have hB : True := trivial
    have hok := Lib.hid h
    have hv := vol_bd c h
    change 0 ≤ vol c ∧ vol c ≤ _ at hv
    have hpl := pos_le c h t
    have hn : 1 ≤ n ∧ n ≤ 1099511627776 := by simpa [bytesB] using h4
    have hm : 0 ≤ max b (pos c t) := by omega
    have hd1 : decide (b < 0) = false := nb (by omega)
    have hd2 : decide (vol c < b) = false := nb (by omega)
    have hok2 := h
    obtain ⟨_, _, _, k1, k2, k3, k4, k5, _⟩ := h
    have hd3 : decide (n < 1) = false := nb (by omega)
    have hd4 : decide (1099511627776 < n) = false := nb (by omega)
    clear hok2
    have HT : ∀ m, Hid (max b (pos c t) = m) → V3 (thr c (max b (pos c t) + n)) (max b (pos c t) + n) 0 = V3 (c.st + (m + n + c.rt - 1) / c.rt) (m + n) 0 := fun m hm => by rw [hm.out]; rfl
    by_cases hbp : b < pos c t
    · have hq : (pos c t + n + c.rt - 1) / c.rt ≤ pos c t + n + c.rt - 1 := Int.ediv_le_self _ (by omega)
      have hq0 : 0 ≤ (pos c t + n + c.rt - 1) / c.rt := Int.ediv_nonneg (by omega) (by omega)
      rw [HT (pos c t) (by unfold Hid; omega)]
      rw [show max b (pos c t) = pos c t by omega] at *
      clear HT
      go_enter Try.func71, Try.ntmps71
      go_wp2_with (first
        | (go_at_call 72; refine (rone_no c hok.out _).mono ?_; rintro e w1 ⟨rfl, hb⟩)
        | (go_at_call 72; refine (rone_yes c hok.out _).mono ?_; rintro e w1 ⟨rfl, hb⟩; have hA : BC w1 w.heap.size c := by first | exact BC.keep hb hA | exact BC.keep hb (by simp [BC, go_sem, hA]) | exact BC.keep hb (by simp [BC, go_sem]))
        | (go_at_call 81; refine (rtick_any t _).mono ?_; rintro e w2 ⟨rfl, rfl⟩)
        | (go_at_call 82; refine (rvol_any c hok.out _).mono ?_; rintro e w1 ⟨rfl, hb⟩; have hA : BC w1 w.heap.size c := by first | exact BC.keep hb hA | exact BC.keep hb (by simp [BC, go_sem, hA]) | exact BC.keep hb (by simp [BC, go_sem]))
        | (go_at_call 83; refine (rpos_any c hok.out t _).mono ?_; rintro e w1 ⟨rfl, hb⟩; have hA : BC w1 w.heap.size c := by first | exact BC.keep hb hA | exact BC.keep hb (by simp [BC, go_sem, hA]) | exact BC.keep hb (by simp [BC, go_sem]))
        | fail)
      go_quiet (fail)
      go_wp2
      go_ret3
      exact ⟨rfl, (by repeat (first | assumption | exact Below.refl _ _ | apply Below.al | apply below_drewN | apply Below.drew | refine Below.next ?_ (by assumption)))⟩
    · have hq : (b + n + c.rt - 1) / c.rt ≤ b + n + c.rt - 1 := Int.ediv_le_self _ (by omega)
      have hq0 : 0 ≤ (b + n + c.rt - 1) / c.rt := Int.ediv_nonneg (by omega) (by omega)
      rw [HT b (by unfold Hid; omega)]
      rw [show max b (pos c t) = b by omega] at *
      clear HT
      go_enter Try.func71, Try.ntmps71
      go_wp2_with (first
        | (go_at_call 72; refine (rone_no c hok.out _).mono ?_; rintro e w1 ⟨rfl, hb⟩)
        | (go_at_call 72; refine (rone_yes c hok.out _).mono ?_; rintro e w1 ⟨rfl, hb⟩; have hA : BC w1 w.heap.size c := by first | exact BC.keep hb hA | exact BC.keep hb (by simp [BC, go_sem, hA]) | exact BC.keep hb (by simp [BC, go_sem]))
        | (go_at_call 81; refine (rtick_any t _).mono ?_; rintro e w2 ⟨rfl, rfl⟩)
        | (go_at_call 82; refine (rvol_any c hok.out _).mono ?_; rintro e w1 ⟨rfl, hb⟩; have hA : BC w1 w.heap.size c := by first | exact BC.keep hb hA | exact BC.keep hb (by simp [BC, go_sem, hA]) | exact BC.keep hb (by simp [BC, go_sem]))
        | (go_at_call 83; refine (rpos_any c hok.out t _).mono ?_; rintro e w1 ⟨rfl, hb⟩; have hA : BC w1 w.heap.size c := by first | exact BC.keep hb hA | exact BC.keep hb (by simp [BC, go_sem, hA]) | exact BC.keep hb (by simp [BC, go_sem]))
        | fail)
      go_quiet (fail)
      go_wp2
      go_ret3
      exact ⟨rfl, (by repeat (first | assumption | exact Below.refl _ _ | apply Below.al | apply below_drewN | apply Below.drew | refine Below.next ?_ (by assumption)))⟩

/-- Finish of both texts -/
theorem finish_any (c : Ct) (t n x y z : Int) (hk : Bk c 0 t n x y z) (w : World) :
    Calls Try.prog 57 #[c.v, .int .i64 t, .int .i64 n] w fun e w' => e = .returned (V2 x z) ∧ Below w.heap.size w w' := by
  go_enter Try.func57, Try.ntmps57
  go_wp2_with (go_at_call 70; refine (book_any c 0 t n x y z hk _).mono ?_; rintro e w1 ⟨rfl, hb⟩)
  go_ret2
  exact ⟨rfl, (by repeat (first | assumption | exact Below.refl _ _ | apply Below.al | apply below_drewN | apply Below.drew | refine Below.next ?_ (by assumption)))⟩
theorem rfinish_any (c : Ct) (t n x y z : Int) (hk : Bk c 0 t n x y z) (w : World) :
    Calls Try.prog 60 #[c.v, .int .i64 t, .int .i64 n] w fun e w' => e = .returned (V2 x z) ∧ Below w.heap.size w w' := by
  go_enter Try.func60, Try.ntmps60
  go_wp2_with (go_at_call 71; refine (rbook_any c 0 t n x y z hk _).mono ?_; rintro e w1 ⟨rfl, hb⟩)
  go_ret2
  exact ⟨rfl, (by repeat (first | assumption | exact Below.refl _ _ | apply Below.al | apply below_drewN | apply Below.drew | refine Below.next ?_ (by assumption)))⟩

end Go.Proofs.Ytgmfifilgbbogaa
