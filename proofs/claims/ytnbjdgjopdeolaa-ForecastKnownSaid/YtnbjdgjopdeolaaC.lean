

/- Volume: the statement VolumeBooks: the walk of the law. -/
import Derived.Test.YtnbjdgjopdeolaaB
namespace Go.Proofs.Ytnbjdgjopdeolaa
open Go.RowKit

abbrev exC : Ct := ⟨1, 2, 10, 20, 3, 0⟩
theorem exC_ok : okC exC := by decide

theorem first_any (w : World) : Calls Try.prog 49 #[] w fun e w' => e = .returned exC.v ∧ Below w.heap.size w w' := by
  go_enter Try.func49, Try.ntmps49
  go_wp2
  exact bodyPost_ret (v := exC.v) (by simp [results, Try.results49, go_sem]) rfl ⟨rfl, (by repeat (first | assumption | exact Below.refl _ _ | apply Below.al | apply below_drewN | apply Below.drew | refine Below.next ?_ (by assumption)))⟩

theorem books_yes (b t n f a : Int) (hk : Bk exC b t n f a 0) (w : World) :
    Calls Try.prog 47 #[.int .i64 b, .int .i64 t, .int .i64 n, .int .i64 f, .int .i64 a] w fun e w' => e = .returned (.bool true) ∧ Below w.heap.size w w' := by
  go_enter Try.func47, Try.ntmps47
  go_wp2_with (first
    | (go_at_call 49; refine (first_any _).mono ?_; rintro e w1 ⟨rfl, hb⟩)
    | (go_at_call 22; refine (book_any exC b t n f a 0 hk _).mono ?_; rintro e w1 ⟨rfl, hb⟩)
    | fail)
  go_ret
  exact ⟨rfl, (by repeat (first | assumption | exact Below.refl _ _ | apply Below.al | apply below_drewN | apply Below.drew | refine Below.next ?_ (by assumption)))⟩

theorem k1 : By exC 30 0 := By.fine exC_ok
theorem k2 : Bk exC 0 0 4 12 4 0 := Bk.fine exC_ok (by decide) (by decide) (by decide) (by decide) (by decide)
theorem k3 : Lf exC 20 12 10 0 := Lf.fine exC_ok (by decide) (by decide) (by decide)
theorem k4 : Bk exC 11 12 5 16 16 0 := Bk.fine exC_ok (by decide) (by decide) (by decide) (by decide) (by decide)

set_option maxHeartbeats 1000000 in
theorem awake_any (w : World) : Calls Try.prog 26 #[] w fun e w' => e = .returned (.bool true) ∧ Below w.heap.size w w' := by
  go_enter Try.func26, Try.ntmps26
  go_wp2_with (first
    | (go_at_call 49; refine (first_any _).mono ?_; rintro e w1 ⟨rfl, hb⟩)
    | (go_at_call 18; refine (bytesOf_any exC 30 0 k1 _).mono ?_; rintro e w1 ⟨rfl, hb⟩)
    | (go_at_call 20; refine (finish_any exC 0 4 12 4 0 k2 _).mono ?_; rintro e w1 ⟨rfl, hb⟩)
    | (go_at_call 24; refine (left_any exC 20 12 10 0 k3 _).mono ?_; rintro e w1 ⟨rfl, hb⟩)
    | (go_at_call 47; refine (books_yes 11 12 5 16 16 k4 _).mono ?_; rintro e w1 ⟨rfl, hb⟩)
    | fail)
  go_ret
  exact ⟨rfl, (by repeat (first | assumption | exact Below.refl _ _ | apply Below.al | apply below_drewN | apply Below.drew | refine Below.next ?_ (by assumption)))⟩

end Go.Proofs.Ytnbjdgjopdeolaa
