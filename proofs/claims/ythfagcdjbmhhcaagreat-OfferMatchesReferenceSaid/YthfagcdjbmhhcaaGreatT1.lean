/- what a call that changes a book comes to, as the laws read it. -/
import Derived.Test.YthfagcdjbmhhcaaGreatK27
set_option linter.unusedVariables false
set_option linter.unusedSimpArgs false
namespace Go.Proofs.YthfagcdjbmhhcaaGreat
open Go.RowKit
/-- a book's value in the block N -/
structure BB (w : World) (N : Nat) (b : Bk) (a1 : Option Addr) (c1 : Nat) (a2 : Option Addr) (c2 : Nat) (a3 : Option Addr) (c3 : Nat) : Prop where
 blk : w.heap[N]? = some (.cells #[.int .i64 b.round, .slice a1 b.ps.length c1, .slice a2 b.os.length c2, .slice a3 b.ws.length c3] 28 (0, 0))
 val : BkV w (.agg #[.int .i64 b.round, .slice a1 b.ps.length c1, .slice a2 b.os.length c2, .slice a3 b.ws.length c3]) b
theorem BB.step {w w' : World} {N : Nat} {b : Bk} {a1 a2 a3 : Option Addr} {c1 c2 c3 : Nat} (h : BB w N b a1 c1 a2 c2 a3 c3) (k : Gro w w') : BB w' N b a1 c1 a2 c2 a3 c3 := ⟨k.blk h.blk, h.val.gro k⟩
/-- what a call that changes a book comes to: the book, or an empty one -/
def OR (q : Option Bk) (c : Bk) (E : Int) : Prop := (q = some c ∧ E = 0) ∨ (q = none ∧ c = ⟨0, [], [], []⟩ ∧ E = 270)
def BPost (w : World) (q : Option Bk) (e : Ending) (w' : World) : Prop := ∃ (c : Bk) (E : Int) (a1 : Option Addr) (c1 : Nat) (a2 : Option Addr) (c2 : Nat) (a3 : Option Addr) (c3 : Nat),
 e = .returned (.tuple #[.agg #[.int .i64 c.round, .slice a1 c.ps.length c1, .slice a2 c.os.length c2, .slice a3 c.ws.length c3], .int .i64 E]) ∧ Gro w w' ∧ BkV w' (.agg #[.int .i64 c.round, .slice a1 c.ps.length c1, .slice a2 c.os.length c2, .slice a3 c.ws.length c3]) c ∧ OR q c E
theorem BPost.of {q : Option Bk} {w : World} (e : Ending) (w' : World) (h : ChPost w q e w') : BPost w q e w' := by
 obtain ⟨k, ⟨b2, vv, hr, rfl, p, o, q, rfl, ⟨a1, c1, rfl, l1⟩, ⟨a2, c2, rfl, l2⟩, ⟨a3, c3, rfl, l3⟩⟩ | ⟨hr, rfl⟩⟩ := h
 ·exact ⟨b2, 0, a1, c1, a2, c2, a3, c3, rfl, k, ⟨_, _, _, rfl, ⟨_, _, rfl, l1⟩, ⟨_, _, rfl, l2⟩, ⟨_, _, rfl, l3⟩⟩, .inl ⟨hr, rfl⟩⟩
 exact ⟨⟨0, [], [], []⟩, 270, none, 0, none, 0, none, 0, rfl, k, ⟨_, _, _, rfl, lv_none _, lv_none _, lv_none _⟩, .inr ⟨hr, rfl, rfl⟩⟩
theorem or_fits {g : Gr} {b c : Bk} {q : Option Bk} {E : Int} (hv : VG g) (h : OR (chk g b q) c E) : Fits g c := by
 rcases h with ⟨h, _⟩ | ⟨_, rfl, _⟩
 ·exact (chk_VB h).fits
 exact fits_of hv (by simp) (by simp) (by simp)
theorem cells7 {w : World} {X : Nat} {a b c d e f h' : Value} {t : TypeId} {fr : Nat × Nat} (h : w.heap[X]? = some (.cells #[a, b, c, d, e, f, h'] t fr)) : w.cell? ⟨X, 0, none⟩ = some a ∧ w.cell? ⟨X, 1, none⟩ = some b ∧ w.cell? ⟨X, 2, none⟩ = some c ∧ w.cell? ⟨X, 3, none⟩ = some d ∧ w.cell? ⟨X, 4, none⟩ = some e ∧ w.cell? ⟨X, 5, none⟩ = some f ∧ w.cell? ⟨X, 6, none⟩ = some h' ∧ X < w.heap.size :=
 ⟨blk_cell h 0, blk_cell h 1, blk_cell h 2, blk_cell h 3, blk_cell h 4, blk_cell h 5, blk_cell h 6, blk_lt h⟩
theorem setO {w : World} {T : Nat} {x0 x1 x2 x3 x4 x5 x6 : Value} {t : TypeId} {fr : Nat × Nat} (h : w.heap[T]? = some (.cells #[x0, x1, x2, x3, x4, x5, x6] t fr)) (y0 y1 y2 y3 y4 y5 y6 : Value) :
  (((((((w.setCell ⟨T, 0, none⟩ y0).setCell ⟨T, 1, none⟩ y1).setCell ⟨T, 2, none⟩ y2).setCell ⟨T, 3, none⟩ y3).setCell ⟨T, 4, none⟩ y4).setCell ⟨T, 5, none⟩ y5).setCell ⟨T, 6, none⟩ y6).heap[T]? = some (.cells #[y0, y1, y2, y3, y4, y5, y6] t fr) := by
 simpa using blk_set (blk_set (blk_set (blk_set (blk_set (blk_set (blk_set h 0 y0) 1 y1) 2 y2) 3 y3) 4 y4) 5 y5) 6 y6
theorem keptO {F : Nat → Prop} {w0 w : World} (h : Kept F w0 w) {T : Nat} (hT : F T ∨ w0.heap.size ≤ T) (y0 y1 y2 y3 y4 y5 y6 : Value) :
  Kept F w0 (((((((w.setCell ⟨T, 0, none⟩ y0).setCell ⟨T, 1, none⟩ y1).setCell ⟨T, 2, none⟩ y2).setCell ⟨T, 3, none⟩ y3).setCell ⟨T, 4, none⟩ y4).setCell ⟨T, 5, none⟩ y5).setCell ⟨T, 6, none⟩ y6) :=
 ((kept4 h hT y0 y1 y2 y3).setCell (p := ⟨T, 4, none⟩) hT y4).setCell (p := ⟨T, 5, none⟩) hT y5 |>.setCell (p := ⟨T, 6, none⟩) hT y6
end Go.Proofs.YthfagcdjbmhhcaaGreat
