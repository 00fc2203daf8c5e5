

/- Links: the kit's Mod and Bytes; links made of numbers. -/
import Derived.Test.YtimkeafpefkheaaDoorZ
namespace Go.Proofs.YtimkeafpefkheaaDoor
open Go.RowKit
set_option linter.unusedSimpArgs false
set_option linter.unusedVariables false
set_option maxRecDepth 100000

theorem mod_any (a n : Int) (hn : 1 ≤ n) (h1 : n ≤ 9223372036854775807) (ha : -9223372036854775808 ≤ a ∧ a ≤ 9223372036854775807) (w : World) :
    Calls Tryd.prog 39 #[.int .i64 a, .int .i64 n] w fun e w' => e = .returned (.int .i64 (a % n)) ∧ w = w' := by
  have hd : decide (n < 1) = false := nb (by omega)
  by_cases h0 : 0 ≤ a
  · have hm := Int.emod_nonneg a (show n ≠ 0 by omega)
    have hm2 := Int.emod_lt_of_pos a (show 0 < n by omega)
    have hd2 : decide (a % n < 0) = false := nb (by omega)
    go_enter Tryd.func39, Tryd.ntmps39
    go_wp2
    go_ret
    exact ⟨rfl, rfl⟩
  · have ht : a.tmod n = - ((-a) % n) := by
      rw [show a = -(-a) by omega, Int.neg_tmod, Int.tmod_eq_emod_of_nonneg (by omega)]; simp
    have hm := Int.emod_nonneg (-a) (show n ≠ 0 by omega)
    have hm2 := Int.emod_lt_of_pos (-a) (show 0 < n by omega)
    have he : a % n = if (-a) % n = 0 then 0 else n - (-a) % n := by
      by_cases hz : (-a) % n = 0
      · rw [if_pos hz]
        obtain ⟨c, hc⟩ := Int.dvd_of_emod_eq_zero hz
        exact Int.emod_eq_zero_of_dvd ⟨-c, by rw [Int.mul_neg, ← hc]; omega⟩
      · rw [if_neg hz]
        have e1 := Int.emod_add_mul_ediv (-a) n
        have : a = (n - (-a) % n) + n * (-((-a) / n) - 1) := by rw [Int.mul_sub, Int.mul_neg]; omega
        have e2 := Int.add_mul_emod_self_left (n - (-a) % n) n (-((-a) / n) - 1)
        rw [← this] at e2
        rw [e2]
        exact Int.emod_eq_of_lt (by omega) (by omega)
    obtain ⟨r, hr⟩ : ∃ r, (-a) % n = r := ⟨_, rfl⟩
    rw [hr] at ht hm hm2 he
    have HE := Lib.hid he
    obtain ⟨t, htt⟩ : ∃ t, a.tmod n = t := ⟨_, rfl⟩
    rw [htt] at ht
    have htn := Lib.hid ht
    have hb1 : t ≤ 0 := by omega
    have hb2 : -n < t := by omega
    have ha' : a < 0 := by omega
    clear he ht hr h0
    go_enter Tryd.func39, Tryd.ntmps39
    go_wp2
    · go_ret
      refine ⟨?_, rfl⟩
      rw [HE.out, if_neg (by have := htn.out; omega)]
      show Ending.returned (.int .i64 (t + n)) = _
      rw [htn.out, show n - r = -r + n by omega]
    · go_ret
      refine ⟨?_, rfl⟩
      rw [HE.out, if_pos (by have := htn.out; omega)]
      show Ending.returned (.int .i64 t) = _
      rw [show t = 0 by omega]
theorem rdi_at {w : World} {a : Option Addr} {n c : Nat} {xs : List Int} (h : RdI .i64 w (.slice a n c) xs) (hn : xs.length = n) (k : Nat) (hk : k < n) : ∃ b off, a = some ⟨b, off, none⟩ ∧ n ≤ c ∧ w.cell? ⟨b, off + k, none⟩ = some (.int .i64 (xs.getD k 0)) := by
  obtain ⟨_, ⟨a0, cap, hv, hx⟩ | ⟨b, off, cap, hv, hc, hr⟩⟩ := h.cases
  · subst hx; simp at hn; omega
  · simp only [Value.slice.injEq] at hv
    obtain ⟨rfl, _, rfl⟩ := hv
    exact ⟨b, off, rfl, by omega, hr k (by omega)⟩
theorem ib_get {xs : List Int} (h : ∀ x, x ∈ xs → Ib x) (k : Nat) : Ib (xs.getD k 0) := by
  by_cases hk : k < xs.length
  · rw [List.getD_eq_getElem?_getD, List.getElem?_eq_getElem hk]
    exact h _ (List.getElem_mem hk)
  · rw [List.getD_eq_getElem?_getD, List.getElem?_eq_none (by omega)]
    show Ib 0
    unfold Ib
    decide
theorem EB : ElemOk Tryd.prog 61 5 (.int .u8 0) 1 1 := ⟨Tryd.underlying61, by kernel_rfl, rfl, by decide⟩
/-- bytes as cells -/
def bcs (bs : List UInt8) : List Value := bs.map fun b => .int .u8 (b.toNat : Int)
theorem bcs_one (bs : List UInt8) : ∀ u ∈ bcs bs, u.oneCell' = true := by
  intro u hu
  obtain ⟨x, _, rfl⟩ := List.mem_map.1 hu
  rfl
/-- what a call owns, as an address -/
theorem owns_back {w : World} {base k c : Nat} {a : Option Addr} {bs : List UInt8} (h : w.ownsRow base 5 1 (.slice a k c) k (bcs bs)) (hk : k ≠ 0) (hl : bs.length = k) :
    (convert 61 9 (.slice a k c)).run Tryd.prog w = .ok (.string ⟨bs.toArray⟩) w := by
  obtain ⟨_, _, ⟨h0, _⟩ | ⟨b, off, cap, hv, hc, hr⟩⟩ := RdS.of_owns h (by decide)
  · exact absurd h0 hk
  · simp only [Value.slice.injEq] at hv
    obtain ⟨rfl, _, rfl⟩ := hv
    have := run_convert_bytes_back (P := Tryd.prog) w 61 9 5 ⟨b, off, none⟩ c bs (by kernel_rfl) (by kernel_rfl) (by kernel_rfl) (fun j hj => by
      rw [Go.WideShapes.add_plain]
      exact hr j _ (by simp [bcs, List.getElem?_map, List.getElem?_eq_getElem hj]))
    rw [hl] at this
    exact this
def ByR (w : World) (m : Int) (x : Ending) (w' : World) : Prop := ∃ s : Fr, x = .returned (.string s) ∧ (s.size : Int) = m ∧ Below w.heap.size w w'
set_option maxHeartbeats 2000000 in
theorem bytes_any (v : Value) (xs : List Int) (m : Int) (hl : xs.length ≤ 1000) (hib : ∀ x, x ∈ xs → Ib x) (h1 : 1 ≤ m) (h2 : m ≤ xs.length) (w : World) (h : RdI .i64 w v xs) :
    Calls Tryd.prog 40 #[v, .int .i64 m] w (ByR w m) := by
  obtain ⟨a0, n0, rfl⟩ := h.form
  obtain ⟨N, hN⟩ : ∃ N, xs.length = N := ⟨_, rfl⟩
  rw [hN] at h hl h2 ⊢
  have HN := Lib.hid hN
  have HR := Lib.hid h
  clear hN h
  unfold ByR
  go_enter Tryd.func40, Tryd.ntmps40
  go_wp2_with fail
  go_loopw [5, 6] (fun o i wr => ∃ (k : Nat) (a : Option Addr) (c : Nat) (bs : List UInt8), (k : Int) ≤ m ∧ i = .int .i64 k ∧ o = .slice a k c ∧ bs.length = k ∧ wr.ownsRow w.heap.size 5 1 (.slice a k c) k (bcs bs) ∧ Below w.heap.size w wr) (fun _ i _ => m.toNat - (intOf i).toNat)
  case atStart => exact ⟨0, none, 0, [], by omega, rfl, rfl, rfl, ⟨rfl, .inl ⟨rfl, rfl⟩⟩, Below.refl _ _⟩
  case round =>
    obtain ⟨k, a, c, bs, hk, rfl, rfl, hbs, hown, hB⟩ := hrel
    have HO := Lib.hid hown
    have HBS := Lib.hid hbs
    clear hown hbs
    by_cases hlt : (k : Int) < m
    · have d1 : decide ((k : Int) < (N : Int)) = true := yb (by omega)
      have d2 : decide ((k : Int) < m) = true := yb hlt
      obtain ⟨b, off, rfl, hcap, hc⟩ := rdi_at HR.out HN.out k (by omega)
      have hc := cell_later hB hc
      have hix := ib_get hib k
      obtain ⟨x, HX⟩ : ∃ x, Hid (xs.getD k 0 = x) := ⟨_, rfl⟩
      rw [HX.out] at hc hix
      obtain ⟨ib1, ib2⟩ := hix
      have i1 : (0 : Int) ≤ (k : Int) := by omega
      have i2 : (k : Int) < (N : Int) := by omega
      have hwk : IntKind.i64.wrap (k : Int) = (k : Int) := IntWalk.i64_in _ (by omega)
      obtain ⟨y, hy⟩ : ∃ y, x % 256 = y := ⟨_, rfl⟩
      have hy0 : 0 ≤ y ∧ y < 256 := by omega
      obtain ⟨u, hu⟩ : ∃ u : UInt8, (u.toNat : Int) = y := ⟨UInt8.ofNat y.toNat, by rw [UInt8.toNat_ofNat']; omega⟩
      have hwu : IntKind.u8.wrap y = (u.toNat : Int) := by
        have : IntKind.u8.wrap y = y % 256 := by simp [IntKind.wrap, IntKind.bits, IntKind.signed]
        omega
      have HY := Lib.hid hy
      have HU := Lib.hid hu
      have hz0 := hB.size
      clear hy hu
      go_wp2_with fail
      refine (mod_any x 256 (by omega) (by omega) ⟨ib1, ib2⟩ _).mono ?_
      rw [HY.out]
      rintro e w1 ⟨rfl, rfl⟩
      have HO2 := Lib.hid (HO.out.alloc (.cells #[.int .u8 (u.toNat : Int)] 5))
      have HF1 : Hid (RdS (wr.alloc (.cells #[.int .u8 (u.toNat : Int)] 5)) 1 (.slice (some ⟨wr.heap.size, 0, none⟩) 1 1) 1 (bcs [u])) := RdS.box1 wr _ _
      go_wp2_with (at_builtin; refine wpList_app rfl (.tmp 18) (.tmp 25) 61 rfl w.heap.size 5 (.int .u8 0) 1 1 EB _ k (bcs bs) rfl HO2.out _ 1 (bcs [u]) rfl HF1.out (bcs_one _) ?_ ?_ ?_ ?_)
      · unfold maxLen; omega
      · omega
      · simp; omega
      intro a3 c3 w3 hown3 hg3 hb3
      have hB3 : Below w.heap.size w w3 := Below.trans (Below.al hB _) hb3
      have eb : bcs (bs ++ [u]) = bcs bs ++ bcs [u] := by simp [bcs]
      have HO3 : Hid (w3.ownsRow w.heap.size 5 1 (.slice a3 (k + 1) c3) (k + 1) (bcs (bs ++ [u]))) := by unfold Hid; rw [eb]; exact hown3
      clear eb
      clear hown3 hg3 hb3
      go_wp2_with fail
      go_roundw
      case rel => exact ⟨k + 1, a3, c3, bs ++ [u], by omega, by go_num, rfl, by rw [List.length_append, HBS.out]; rfl, HO3.out, hB3⟩
      case measure => simp [intOf]; omega
    · have d2 : decide ((k : Int) < m) = false := nb hlt
      have hkm : Hid ((k : Int) = m) := by unfold Hid; omega
      have hcv := owns_back HO.out (by omega) HBS.out
      have HSZ : Hid ((⟨bs.toArray⟩ : Fr).size = k) := by unfold Hid; rw [← HBS.out]; simp [ByteArray.size]
      by_cases hkN : k < N
      · have d1 : decide ((k : Int) < (N : Int)) = true := yb (by omega)
        go_wp2_with fail
        go_ret
        exact ⟨_, rfl, by rw [HSZ.out]; exact hkm.out, hB⟩
      · have d1 : decide ((k : Int) < (N : Int)) = false := nb (by omega)
        go_wp2_with fail
        go_ret
        exact ⟨_, rfl, by rw [HSZ.out]; exact hkm.out, hB⟩
/-- what made has returned: a link of few frames of few bytes -/
def MaR (w : World) (x : Ending) (w' : World) : Prop := ∃ (v : Value) (l : List Fr), x = .returned v ∧ RdT w' v l ∧ l.length ≤ 12 ∧ (∀ s, s ∈ l → 1 ≤ s.size ∧ s.size ≤ 5) ∧ Below w.heap.size w w'
set_option maxHeartbeats 4000000 in
theorem made_any (v : Value) (xs : List Int) (hib : ∀ x, x ∈ xs → Ib x) (w : World) (h : RdI .i64 w v xs) :
    Calls Tryd.prog 27 #[v] w (MaR w) := by
  obtain ⟨a0, n0, rfl⟩ := h.form
  have hmx := h.2.1
  unfold maxLen at hmx
  obtain ⟨N, hN⟩ : ∃ N, xs.length = N := ⟨_, rfl⟩
  rw [hN] at h hmx ⊢
  have HN := Lib.hid hN
  have HR := Lib.hid h
  clear hN h
  unfold MaR
  go_enter Tryd.func27, Tryd.ntmps27
  go_wp2_with fail
  go_loopw [3, 4] (fun o i wr => ∃ (k : Nat) (a : Option Addr) (c : Nat) (l : List Fr), k ≤ N ∧ k ≤ 12 ∧ i = .int .i64 k ∧ o = .slice a k c ∧ l.length = k ∧ (∀ s, s ∈ l → 1 ≤ s.size ∧ s.size ≤ 5) ∧ wr.ownsRow w.heap.size 9 1 (.slice a k c) k (tcs l) ∧ Below w.heap.size w wr) (fun _ i _ => 12 - (intOf i).toNat)
  case atStart => exact ⟨0, none, 0, [], by omega, by omega, rfl, rfl, rfl, fun s hs => by (cases hs), ⟨rfl, .inl ⟨rfl, rfl⟩⟩, Below.refl _ _⟩
  case round =>
    obtain ⟨k, a, c, l, hk, hk12, rfl, rfl, hl, hsz, hown, hB⟩ := hrel
    have HO := Lib.hid hown
    have HL := Lib.hid hl
    have HSZ := Lib.hid hsz
    have HRO : Hid (RdT wr (.slice a k c) l) := by unfold Hid RdT; rw [hl]; exact RdS.of_owns hown (by decide)
    clear hown hl hsz
    by_cases hlt : k < N
    · have d1 : decide ((k : Int) < (N : Int)) = true := yb (by omega)
      by_cases hlt2 : k < 12
      · have d2 : decide ((k : Int) < 12) = true := yb (by omega)
        obtain ⟨b, off, rfl, hcap, hc⟩ := rdi_at HR.out HN.out k hlt
        have hc := cell_later hB hc
        have hix := ib_get hib k
        obtain ⟨x, HX⟩ : ∃ x, Hid (xs.getD k 0 = x) := ⟨_, rfl⟩
        rw [HX.out] at hc hix
        have i1 : (0 : Int) ≤ (k : Int) := by omega
        have i2 : (k : Int) < (N : Int) := by omega
        have hwk : IntKind.i64.wrap (k : Int) = (k : Int) := IntWalk.i64_in _ (by omega)
        obtain ⟨n, hn⟩ : ∃ n, x % 1048576 = n := ⟨_, rfl⟩
        have hn0 : 0 ≤ n ∧ n < 1048576 := by omega
        have HN2 := Lib.hid hn
        have hz0 := hB.size
        have hw5 : IntKind.i64.wrap (1 + n % 5) = 1 + n % 5 := IntWalk.i64_in _ (by omega)
        clear hn
        go_wp2_with fail
        refine (mod_any x 1048576 (by omega) (by omega) hix _).mono ?_
        rw [HN2.out]
        rintro e w1 ⟨rfl, rfl⟩
        have hrd : RdI .i64 (wr.alloc (.cells #[.int .i64 n, .int .i64 (n / 7), .int .i64 (n / 49), .int .i64 (n / 343), .int .i64 (n / 2401)] 3)) (.slice (some ⟨wr.heap.size, 0, none⟩) 5 5) [n, n / 7, n / 49, n / 343, n / 2401] :=
          RdS.of_owns (owns_block _ 0 3 1 5 [.int .i64 n, .int .i64 (n / 7), .int .i64 (n / 49), .int .i64 (n / 343), .int .i64 (n / 2401)] _ (Nat.zero_le _) (heap_last wr _) rfl (by decide)) (by decide)
        have HRD := Lib.hid hrd
        clear hrd
        go_wp2_with fail
        refine (bytes_any _ [n, n / 7, n / 49, n / 343, n / 2401] (1 + n % 5) (by simp) (fun y hy => by
          simp only [List.mem_cons, List.mem_nil_iff, or_false] at hy
          unfold Ib
          rcases hy with rfl | rfl | rfl | rfl | rfl <;> omega) (by omega) (by simp; omega) _ HRD.out).mono ?_
        rintro e w2 ⟨s, rfl, hs, hb2⟩
        have HS := Lib.hid hs
        have hb2 := Below.next (Below.al (Below.refl _ wr) _) hb2
        have hB2 := Below.next hB hb2
        have hz2 := hB2.size
        have HO2 := Lib.hid ((own_below HO.out hb2).alloc (.cells #[.string s] 9))
        have HF1 : Hid (RdS (w2.alloc (.cells #[.string s] 9)) 1 (.slice (some ⟨w2.heap.size, 0, none⟩) 1 1) 1 (tcs [s])) := RdS.box1 w2 _ _
        clear hs hb2
        go_wp2_with (at_builtin; refine wpList_app rfl (.tmp 21) (.tmp 36) 22 rfl w.heap.size 9 (.string ⟨#[]⟩) 1 16 ET _ k (tcs l) rfl HO2.out _ 1 (tcs [s]) rfl HF1.out (tcs_one _) ?_ ?_ ?_ ?_)
        · unfold maxLen; omega
        · omega
        · simp; omega
        intro a3 c3 w3 hown3 hg3 hb3
        have hB3 : Below w.heap.size w w3 := Below.trans (Below.al hB2 _) hb3
        have HO3 : Hid (w3.ownsRow w.heap.size 9 1 (.slice a3 (k + 1) c3) (k + 1) (tcs (l ++ [s]))) := by unfold Hid; rw [tcs_append]; exact hown3
        clear hown3 hg3 hb3
        go_wp2_with fail
        go_roundw
        case rel => exact ⟨k + 1, a3, c3, l ++ [s], by omega, by omega, by go_num, rfl, by rw [List.length_append, HL.out]; rfl, fun t ht => by
          rcases List.mem_append.1 ht with h | h
          · exact HSZ.out t h
          · simp at h
            subst h
            have := HS.out
            omega, HO3.out, hB3⟩
        case measure => simp [intOf]; omega
      · have d2 : decide ((k : Int) < 12) = false := nb (by omega)
        go_wp2_with fail
        go_ret
        exact ⟨_, l, rfl, HRO.out, by rw [HL.out]; omega, HSZ.out, hB⟩
    · have d1 : decide ((k : Int) < (N : Int)) = false := nb (by omega)
      go_wp2_with fail
      go_ret
      exact ⟨_, l, rfl, HRO.out, by rw [HL.out]; omega, HSZ.out, hB⟩
end Go.Proofs.YtimkeafpefkheaaDoor
