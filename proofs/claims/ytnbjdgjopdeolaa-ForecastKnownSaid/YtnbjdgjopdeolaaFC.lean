

/- Forecast: the reference's out. -/
import Derived.Test.YtnbjdgjopdeolaaFB
namespace Go.Proofs.Ytnbjdgjopdeolaa
open Go.RowKit Go.Shelf
set_option linter.unusedSimpArgs false
set_option linter.unusedVariables false
set_option maxRecDepth 100000

theorem rateK_bd {cs : List Ct} (h : ∀ k, k < cs.length → okC (cs.getD k c0)) (fr dt t : Int) : ∀ k, k ≤ cs.length → 0 ≤ rateK cs fr dt t k ∧ rateK cs fr dt t k ≤ 1048576
  | 0, _ => ⟨Int.le_refl _, by show (0 : Int) ≤ _; omega⟩
  | k + 1, hk => by
    have ih := rateK_bd h fr dt t k (by omega)
    have h1 := (h k (by omega)).2.2.2.2.2.2.1
    have h2 := (h k (by omega)).2.2.2.2.2.2.2.1
    unfold rateK
    split
    · exact ih
    · split <;> omega
/-- what the reference sums up over the first m nodes -/
def sumK (cs : List Ct) (nd t : Int) : Nat → Int
  | 0 => 0
  | m + 1 => sumK cs nd t m + rateK cs nd ((m : Int) + 1) t cs.length
theorem sumK_bd {cs : List Ct} (h : ∀ k, k < cs.length → okC (cs.getD k c0)) (nd t : Int) : ∀ m, 0 ≤ sumK cs nd t m ∧ sumK cs nd t m ≤ 1048576 * m
  | 0 => ⟨Int.le_refl _, Int.le_refl _⟩
  | m + 1 => by
    have ih := sumK_bd h nd t m
    have := rateK_bd h nd ((m : Int) + 1) t cs.length (Nat.le_refl _)
    unfold sumK
    refine ⟨by omega, ?_⟩
    push_cast
    omega
set_option maxHeartbeats 2000000 in
theorem rout_any (cs : List Ct) (v : Value) (nd t : Int) (hok : ∀ k, k < cs.length → okC (cs.getD k c0)) (hl : cs.length ≤ 200) (w : World) (h : RdC w v cs) :
    Calls Try.prog 90 #[v, .int .i64 nd, .int .i64 t] w fun e w' => e = .returned (.int .u64 (sumK cs nd t 16)) ∧ Below w.heap.size w w' := by
  have HR := Lib.hid h
  have HOK := Lib.hid hok
  clear h hok
  go_enter Try.func90, Try.ntmps90
  go_wp2_with fail
  go_loopw [7, 8] (fun s i wr => ∃ m : Nat, m ≤ 16 ∧ i = .int .i64 ((m : Int) + 1) ∧ s = .int .u64 (sumK cs nd t m) ∧ Below w.heap.size w wr) (fun _ i _ => 17 - (intOf i).toNat)
  case atStart => exact ⟨0, Nat.zero_le _, rfl, rfl, Below.refl _ _⟩
  case round =>
    obtain ⟨m, hm, rfl, rfl, hB⟩ := hrel
    by_cases hlt : m < 16
    · have d2 : decide ((m : Int) + 1 ≤ 16) = true := yb (by omega)
      have hbd := sumK_bd HOK.out nd t m
      have hrb := rateK_bd HOK.out nd ((m : Int) + 1) t cs.length (Nat.le_refl _)
      have hst : sumK cs nd t (m + 1) = sumK cs nd t m + rateK cs nd ((m : Int) + 1) t cs.length := rfl
      obtain ⟨s, hs⟩ : ∃ s, sumK cs nd t m = s := ⟨_, rfl⟩
      obtain ⟨r, hr⟩ : ∃ r, rateK cs nd ((m : Int) + 1) t cs.length = r := ⟨_, rfl⟩
      rw [hs] at hbd hst ⊢
      rw [hr] at hrb hst
      have HST := Lib.hid hst
      have HRT := Lib.hid hr
      clear hs hr hst
      have hws : IntKind.u64.wrap (s + r) = s + r := IntWalk.u64_in _ (by omega)
      have hwm : IntKind.i64.wrap ((m : Int) + 1 + 1) = (m : Int) + 1 + 1 := IntWalk.i64_in _ (by omega)
      go_wp2_with fail
      refine (rrate_any cs v nd ((m : Int) + 1) t HOK.out hl _ (HR.out.keep hB)).mono ?_
      rw [HRT.out]
      rintro e w2 ⟨rfl, hb⟩
      have hB := Below.next hB hb
      clear hb
      go_wp2_with fail
      go_roundw
      case rel => exact ⟨m + 1, by omega, by push_cast; rfl, by rw [HST.out], hB⟩
      case measure => simp [intOf]; omega
    · obtain rfl : m = 16 := by omega
      go_wp2_with fail
      go_ret
      exact ⟨rfl, hB⟩
end Go.Proofs.Ytnbjdgjopdeolaa
