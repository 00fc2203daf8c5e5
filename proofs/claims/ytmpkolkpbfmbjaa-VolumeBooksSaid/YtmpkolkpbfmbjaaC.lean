
/- Volume: the statement VolumeBooks: the walk of the law. -/
import Derived.Test.YtmpkolkpbfmbjaaB
namespace Go.Proofs.Ytmpkolkpbfmbjaa
open Go.RowKit

abbrev exC : Ct := ⟨1, 2, 10, 20, 3, 0⟩
theorem exC_ok : okC exC := by decide

theorem first_any (w : World) : Calls Try.prog 32 #[] w fun e w' => e = .returned exC.v ∧ Below w.heap.size w w' := by
  go_enter Try.func32, Try.ntmps32
  go_wp2
  exact bodyPost_ret (v := exC.v) (by simp [results, Try.results32, go_sem]) rfl ⟨rfl, (by repeat (first | assumption | exact Below.refl _ _ | apply Below.al | apply below_drewN | apply Below.drew | refine Below.next ?_ (by assumption)))⟩

theorem books_yes (b t n f a : Int) (hk : Bk exC b t n f a 0) (w : World) :
    Calls Try.prog 30 #[.int .i64 b, .int .i64 t, .int .i64 n, .int .i64 f, .int .i64 a] w fun e w' => e = .returned (.bool true) ∧ Below w.heap.size w w' := by
  go_enter Try.func30, Try.ntmps30
  go_wp2_with (first
    | (go_at_call 32; refine (first_any _).mono ?_; rintro e w1 ⟨rfl, hb⟩)
    | (go_at_call 14; refine (book_any exC b t n f a 0 hk _).mono ?_; rintro e w1 ⟨rfl, hb⟩)
    | fail)
  go_ret
  exact ⟨rfl, (by repeat (first | assumption | exact Below.refl _ _ | apply Below.al | apply below_drewN | apply Below.drew | refine Below.next ?_ (by assumption)))⟩

theorem k1 : By exC 30 0 := By.fine exC_ok
theorem k2 : Bk exC 0 0 4 12 4 0 := Bk.fine exC_ok (by decide) (by decide) (by decide) (by decide) (by decide)
theorem k3 : Lf exC 20 12 10 0 := Lf.fine exC_ok (by decide) (by decide) (by decide)
theorem k4 : Bk exC 11 12 5 16 16 0 := Bk.fine exC_ok (by decide) (by decide) (by decide) (by decide) (by decide)

set_option maxHeartbeats 1000000 in
theorem awake_any (w : World) : Calls Try.prog 18 #[] w fun e w' => e = .returned (.bool true) ∧ Below w.heap.size w w' := by
  go_enter Try.func18, Try.ntmps18
  go_wp2_with (first
    | (go_at_call 32; refine (first_any _).mono ?_; rintro e w1 ⟨rfl, hb⟩)
    | (go_at_call 10; refine (bytesOf_any exC 30 0 k1 _).mono ?_; rintro e w1 ⟨rfl, hb⟩)
    | (go_at_call 12; refine (finish_any exC 0 4 12 4 0 k2 _).mono ?_; rintro e w1 ⟨rfl, hb⟩)
    | (go_at_call 16; refine (left_any exC 20 12 10 0 k3 _).mono ?_; rintro e w1 ⟨rfl, hb⟩)
    | (go_at_call 30; refine (books_yes 11 12 5 16 16 k4 _).mono ?_; rintro e w1 ⟨rfl, hb⟩)
    | fail)
  go_ret
  exact ⟨rfl, (by repeat (first | assumption | exact Below.refl _ _ | apply Below.al | apply below_drewN | apply Below.drew | refine Below.next ?_ (by assumption)))⟩

set_option maxHeartbeats 1000000 in
theorem lawBooks (c : Ct) (b t n : Int) (w : World) :
    Calls Try.prog 3 #[c.v, .int .i64 b, .int .i64 t, .int .i64 n] w fun e w' => e = .returned (.bool true) ∧ Below w.heap.size w w' := by
  obtain ⟨x1, z1, h1⟩ := By.ex c
  obtain ⟨x2, y2, z2, h2⟩ := Bk.ex c 0 t n
  obtain ⟨x3, y3, z3, h3⟩ := Bk.ex c b t n
  obtain ⟨x4, z4, h4⟩ := Lf.ex c b t
  have hA : True := trivial
  go_enter Try.func3, Try.ntmps3
  go_wp2_with (first
    | (go_at_call 10; refine (bytesOf_any c x1 z1 h1 _).mono ?_; rintro e w1 ⟨rfl, hb⟩; have hA : BC w1 w.heap.size c := by first | exact BC.keep hb hA | exact BC.keep hb (by simp [BC, go_sem, hA]) | exact BC.keep hb (by simp [BC, go_sem]))
    | (go_at_call 11; refine (rbytesOf_any c x1 z1 h1 _).mono ?_; rintro e w1 ⟨rfl, hb⟩; have hA : BC w1 w.heap.size c := by first | exact BC.keep hb hA | exact BC.keep hb (by simp [BC, go_sem, hA]) | exact BC.keep hb (by simp [BC, go_sem]))
    | (go_at_call 12; refine (finish_any c t n x2 y2 z2 h2 _).mono ?_; rintro e w1 ⟨rfl, hb⟩; have hA : BC w1 w.heap.size c := by first | exact BC.keep hb hA | exact BC.keep hb (by simp [BC, go_sem, hA]) | exact BC.keep hb (by simp [BC, go_sem]))
    | (go_at_call 13; refine (rfinish_any c t n x2 y2 z2 h2 _).mono ?_; rintro e w1 ⟨rfl, hb⟩; have hA : BC w1 w.heap.size c := by first | exact BC.keep hb hA | exact BC.keep hb (by simp [BC, go_sem, hA]) | exact BC.keep hb (by simp [BC, go_sem]))
    | (go_at_call 14; refine (book_any c b t n x3 y3 z3 h3 _).mono ?_; rintro e w1 ⟨rfl, hb⟩; have hA : BC w1 w.heap.size c := by first | exact BC.keep hb hA | exact BC.keep hb (by simp [BC, go_sem, hA]) | exact BC.keep hb (by simp [BC, go_sem]))
    | (go_at_call 15; refine (rbook_any c b t n x3 y3 z3 h3 _).mono ?_; rintro e w1 ⟨rfl, hb⟩; have hA : BC w1 w.heap.size c := by first | exact BC.keep hb hA | exact BC.keep hb (by simp [BC, go_sem, hA]) | exact BC.keep hb (by simp [BC, go_sem]))
    | (go_at_call 16; refine (left_any c b t x4 z4 h4 _).mono ?_; rintro e w1 ⟨rfl, hb⟩; have hA : BC w1 w.heap.size c := by first | exact BC.keep hb hA | exact BC.keep hb (by simp [BC, go_sem, hA]) | exact BC.keep hb (by simp [BC, go_sem]))
    | (go_at_call 17; refine (rleft_any c b t x4 z4 h4 _).mono ?_; rintro e w1 ⟨rfl, hb⟩; have hA : BC w1 w.heap.size c := by first | exact BC.keep hb hA | exact BC.keep hb (by simp [BC, go_sem, hA]) | exact BC.keep hb (by simp [BC, go_sem]))
    | (go_at_call 18; refine (awake_any _).mono ?_; rintro e w1 ⟨rfl, hb⟩; have hA : BC w1 w.heap.size c := by first | exact BC.keep hb hA | exact BC.keep hb (by simp [BC, go_sem, hA]) | exact BC.keep hb (by simp [BC, go_sem]))
    | fail)
  go_ret
  exact ⟨rfl, (by repeat (first | assumption | exact Below.refl _ _ | apply Below.al | apply below_drewN | apply Below.drew | refine Below.next ?_ (by assumption)))⟩

end Go.Proofs.Ytmpkolkpbfmbjaa
