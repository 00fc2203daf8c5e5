




/- The model: IDs, bundles, outcomes and lists of them in memory. -/
import Derived.Test.YtcjlbpndgjapiaaDoorPZ
import Derived.Test.YtcjlbpndgjapiaaDoorRX
import Derived.Test.YtcjlbpndgjapiaaDoorRS
import Derived.Test.YtcjlbpndgjapiaaDoorRQ
import Derived.Test.YtcjlbpndgjapiaaDoorRT
import Derived.Test.YtcjlbpndgjapiaaDoorProg
import Derived.StillTailTactics
namespace Go.Proofs.YtcjlbpndgjapiaaDoor
open Go.RowKit
set_option linter.unusedSimpArgs false
set_option linter.unusedVariables false
set_option maxRecDepth 100000

def Idn.cs (i : Idn) : List Value := [.int .i64 i.nd, .int .u64 i.sq, .int .i64 i.off]
abbrev Idn.v (i : Idn) : Value := .agg #[.int .i64 i.nd, .int .u64 i.sq, .int .i64 i.off]
def idR : RowT Idn := ⟨3, Idn.cs, i0, by decide, fun _ => rfl, fun t u hu => by
  simp only [Idn.cs, List.mem_cons, List.mem_nil_iff, or_false] at hu
  rcases hu with rfl | rfl | rfl <;> rfl⟩
def Bd.cs (b : Bd) : List Value := [.int .i64 b.id.nd, .int .u64 b.id.sq, .int .i64 b.id.off, .int .i64 b.dst, .int .i64 b.pri, .int .i64 b.born, .int .i64 b.life, .int .i64 b.tot, .string b.dat]
abbrev Bd.v (b : Bd) : Value := .agg #[.int .i64 b.id.nd, .int .u64 b.id.sq, .int .i64 b.id.off, .int .i64 b.dst, .int .i64 b.pri, .int .i64 b.born, .int .i64 b.life, .int .i64 b.tot, .string b.dat]
def bdR : RowT Bd := ⟨9, Bd.cs, b0, by decide, fun _ => rfl, fun t u hu => by
  simp only [Bd.cs, List.mem_cons, List.mem_nil_iff, or_false] at hu
  rcases hu with rfl | rfl | rfl | rfl | rfl | rfl | rfl | rfl | rfl <;> rfl⟩
def Oc.cs (o : Oc) : List Value := [.int .i64 o.tk, .int .i64 o.nd, .int .i64 o.kd, .int .i64 o.id.nd, .int .u64 o.id.sq, .int .i64 o.id.off, .int .i64 o.ot]
abbrev Oc.v (o : Oc) : Value := .agg #[.int .i64 o.tk, .int .i64 o.nd, .int .i64 o.kd, .int .i64 o.id.nd, .int .u64 o.id.sq, .int .i64 o.id.off, .int .i64 o.ot]
def ocR : RowT Oc := ⟨7, Oc.cs, o0, by decide, fun _ => rfl, fun t u hu => by
  simp only [Oc.cs, List.mem_cons, List.mem_nil_iff, or_false] at hu
  rcases hu with rfl | rfl | rfl | rfl | rfl | rfl | rfl <;> rfl⟩
abbrev RdB (w : World) (v : Value) (l : List Bd) : Prop := RdL bdR w v l
abbrev RdO (w : World) (v : Value) (l : List Oc) : Prop := RdL ocR w v l
abbrev RdD (w : World) (v : Value) (l : List Idn) : Prop := RdL idR w v l
abbrev gb (l : List Bd) (i : Nat) : Bd := l.getD i b0
abbrev gx (l : List Oc) (i : Nat) : Oc := l.getD i o0
abbrev gd (l : List Idn) (i : Nat) : Idn := l.getD i i0
abbrev IA (w : World) (b o : Nat) (i : Idn) : Prop := w.cell? ⟨b, o, none⟩ = some (.int .i64 i.nd) ∧ w.cell? ⟨b, o + 1, none⟩ = some (.int .u64 i.sq) ∧ w.cell? ⟨b, o + 2, none⟩ = some (.int .i64 i.off)
abbrev BA (w : World) (b o : Nat) (x : Bd) : Prop := w.cell? ⟨b, o, none⟩ = some (.int .i64 x.id.nd) ∧ w.cell? ⟨b, o + 1, none⟩ = some (.int .u64 x.id.sq) ∧ w.cell? ⟨b, o + 2, none⟩ = some (.int .i64 x.id.off) ∧ w.cell? ⟨b, o + 3, none⟩ = some (.int .i64 x.dst) ∧
  w.cell? ⟨b, o + 4, none⟩ = some (.int .i64 x.pri) ∧ w.cell? ⟨b, o + 5, none⟩ = some (.int .i64 x.born) ∧ w.cell? ⟨b, o + 6, none⟩ = some (.int .i64 x.life) ∧ w.cell? ⟨b, o + 7, none⟩ = some (.int .i64 x.tot) ∧ w.cell? ⟨b, o + 8, none⟩ = some (.string x.dat)
abbrev OA (w : World) (b o : Nat) (x : Oc) : Prop := w.cell? ⟨b, o, none⟩ = some (.int .i64 x.tk) ∧ w.cell? ⟨b, o + 1, none⟩ = some (.int .i64 x.nd) ∧ w.cell? ⟨b, o + 2, none⟩ = some (.int .i64 x.kd) ∧ w.cell? ⟨b, o + 3, none⟩ = some (.int .i64 x.id.nd) ∧
  w.cell? ⟨b, o + 4, none⟩ = some (.int .u64 x.id.sq) ∧ w.cell? ⟨b, o + 5, none⟩ = some (.int .i64 x.id.off) ∧ w.cell? ⟨b, o + 6, none⟩ = some (.int .i64 x.ot)
theorem IA.keep {W w1 : World} {b o : Nat} {i : Idn} (hb : Below W.heap.size W w1) (h : IA W b o i) : IA w1 b o i := ⟨cell_later hb h.1, cell_later hb h.2.1, cell_later hb h.2.2⟩
theorem BA.keep {W w1 : World} {b o : Nat} {x : Bd} (hb : Below W.heap.size W w1) (h : BA W b o x) : BA w1 b o x :=
  ⟨cell_later hb h.1, cell_later hb h.2.1, cell_later hb h.2.2.1, cell_later hb h.2.2.2.1, cell_later hb h.2.2.2.2.1, cell_later hb h.2.2.2.2.2.1, cell_later hb h.2.2.2.2.2.2.1, cell_later hb h.2.2.2.2.2.2.2.1, cell_later hb h.2.2.2.2.2.2.2.2⟩
theorem OA.keep {W w1 : World} {b o : Nat} {x : Oc} (hb : Below W.heap.size W w1) (h : OA W b o x) : OA w1 b o x :=
  ⟨cell_later hb h.1, cell_later hb h.2.1, cell_later hb h.2.2.1, cell_later hb h.2.2.2.1, cell_later hb h.2.2.2.2.1, cell_later hb h.2.2.2.2.2.1, cell_later hb h.2.2.2.2.2.2⟩
theorem RdD.at {w : World} {a : Option Addr} {n c : Nat} {l : List Idn} (h : RdD w (.slice a n c) l) (hn : l.length = n) (k : Nat) (hk : k < n) : ∃ b off, a = some ⟨b, off, none⟩ ∧ n ≤ c ∧ IA w b (off + k * 3) (gd l k) := by
  obtain ⟨b, off, rfl, hc, ra⟩ := RdL.at h hn k hk
  exact ⟨b, off, rfl, hc, ra 0 _ rfl, ra 1 _ rfl, ra 2 _ rfl⟩
theorem RdB.at {w : World} {a : Option Addr} {n c : Nat} {l : List Bd} (h : RdB w (.slice a n c) l) (hn : l.length = n) (k : Nat) (hk : k < n) : ∃ b off, a = some ⟨b, off, none⟩ ∧ n ≤ c ∧ BA w b (off + k * 9) (gb l k) := by
  obtain ⟨b, off, rfl, hc, ra⟩ := RdL.at h hn k hk
  exact ⟨b, off, rfl, hc, ra 0 _ rfl, ra 1 _ rfl, ra 2 _ rfl, ra 3 _ rfl, ra 4 _ rfl, ra 5 _ rfl, ra 6 _ rfl, ra 7 _ rfl, ra 8 _ rfl⟩
theorem RdO.at {w : World} {a : Option Addr} {n c : Nat} {l : List Oc} (h : RdO w (.slice a n c) l) (hn : l.length = n) (k : Nat) (hk : k < n) : ∃ b off, a = some ⟨b, off, none⟩ ∧ n ≤ c ∧ OA w b (off + k * 7) (gx l k) := by
  obtain ⟨b, off, rfl, hc, ra⟩ := RdL.at h hn k hk
  exact ⟨b, off, rfl, hc, ra 0 _ rfl, ra 1 _ rfl, ra 2 _ rfl, ra 3 _ rfl, ra 4 _ rfl, ra 5 _ rfl, ra 6 _ rfl⟩
/-- numbers of the machine -/
abbrev Ib (x : Int) : Prop := -9223372036854775808 ≤ x ∧ x ≤ 9223372036854775807
abbrev Ub (x : Int) : Prop := 0 ≤ x ∧ x < 18446744073709551616
def IdW (i : Idn) : Prop := Ib i.nd ∧ Ub i.sq ∧ Ib i.off
def BdW (b : Bd) : Prop := IdW b.id ∧ Ib b.dst ∧ Ib b.pri ∧ Ib b.born ∧ Ib b.life ∧ Ib b.tot ∧ b.dat.size ≤ maxLen
def OcW (o : Oc) : Prop := Ib o.tk ∧ Ib o.nd ∧ Ib o.kd ∧ IdW o.id ∧ Ib o.ot
theorem i0_w : IdW i0 := by unfold IdW i0 Ib Ub; simp
end Go.Proofs.YtcjlbpndgjapiaaDoor
