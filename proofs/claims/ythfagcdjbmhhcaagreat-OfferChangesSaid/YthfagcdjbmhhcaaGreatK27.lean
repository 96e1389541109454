/- the laws: what they have in memory. -/
import Derived.Test.YthfagcdjbmhhcaaGreatK26
import Derived.Test.YthfagcdjbmhhcaaGreatK19
set_option linter.unusedVariables false
set_option linter.unusedSimpArgs false
namespace Go.Proofs.YthfagcdjbmhhcaaGreat
open Go.RowKit
attribute [local irreducible] wpQuiet
theorem GrV.old {w0 w : World} {v : Value} {g : Gr} (h : GrV w0 v g) (k : Kept (fun k => w0.heap.size ≤ k) w0 w) : GrV w v g := by
 obtain ⟨v1, v2, v3, rfl, hg⟩ := h
 exact ⟨v1, v2, v3, rfl, hg.old k⟩
/-- the roads' block R (w0: the world when they were made), the book's block X -/
structure LB (w w0 wr : World) (g : Gr) (cg : Array Value) (R X : Nat) (b : Bk) (a1 : Option Addr) (n1 c1 : Nat) (a2 : Option Addr) (n2 c2 : Nat) (a3 : Option Addr) (n3 c3 : Nat) : Prop where
 rb : wr.heap[R]? = some (.cells cg 38 (0, 0))
 xb : wr.heap[X]? = some (.cells #[.int .i64 b.round, .slice a1 n1 c1, .slice a2 n2 c2, .slice a3 n3 c3] 28 (0, 0))
 bv : BkV wr (.agg #[.int .i64 b.round, .slice a1 n1 c1, .slice a2 n2 c2, .slice a3 n3 c3]) b
 vb : VB g b
 kp : Kept (fun k => w0.heap.size ≤ k) w0 wr
 gro : Gro w wr
 low : w.heap.size ≤ w0.heap.size
 lor : w0.heap.size ≤ R
 lox : R < X
theorem LB.step {w w0 wr w' : World} {g : Gr} {cg : Array Value} {R X : Nat} {b : Bk} {a1 a2 a3 : Option Addr} {n1 n2 n3 c1 c2 c3 : Nat} (h : LB w w0 wr g cg R X b a1 n1 c1 a2 n2 c2 a3 n3 c3) (k : Gro wr w') : LB w w0 w' g cg R X b a1 n1 c1 a2 n2 c2 a3 n3 c3 :=
 ⟨k.blk h.rb, k.blk h.xb, h.bv.gro k, h.vb, h.kp.trans (k.kept _), h.gro.trans k, h.low, h.lor, h.lox⟩
theorem BkV.far {w w' : World} {b : Bk} {v : Value} {T : Nat} {fr : Nat × Nat} {x0 : Value} {t : TypeId} {a1 a2 a3 : Option Addr} {n1 n2 n3 c1 c2 c3 : Nat} (h : BkV w v b) (k : Kept (· = T) w w') (hT : w.heap[T]? = some (.cells #[x0, .slice a1 n1 c1, .slice a2 n2 c2, .slice a3 n3 c3] t fr)) : BkV w' v b := by
 obtain ⟨p, o, q, rfl, lp, lo, lq⟩ := h
 exact ⟨p, o, q, rfl, lp.farB k hT (by decide) (fun x => ⟨x.id, x.budget, rfl, rfl⟩), lo.farB k hT (by decide) (fun x => ⟨x.id, x.party, rfl, rfl⟩), lq.farB k hT (by decide) (fun x => ⟨x.edge, x.src, rfl, rfl⟩)⟩
/-- another block of a book's kind is written -/
theorem LB.other {w w0 wr w' : World} {g : Gr} {cg : Array Value} {R X N : Nat} {b : Bk} {a1 a2 a3 : Option Addr} {n1 n2 n3 c1 c2 c3 : Nat} (h : LB w w0 wr g cg R X b a1 n1 c1 a2 n2 c2 a3 n3 c3) (k : Kept (· = N) wr w') (hN : X < N)
  {x0 : Value} {t : TypeId} {fr : Nat × Nat} {e1 e2 e3 : Option Addr} {m1 m2 m3 d1 d2 d3 : Nat} (hb : wr.heap[N]? = some (.cells #[x0, .slice e1 m1 d1, .slice e2 m2 d2, .slice e3 m3 d3] t fr)) : LB w w0 w' g cg R X b a1 n1 c1 a2 n2 c2 a3 n3 c3 := by
 have h1 := h.lox
 have h2 := h.lor
 have h3 := h.low
 exact ⟨k.blk h.rb (by omega), k.blk h.xb (by omega), h.bv.far k hb, h.vb, Kept.trans' h.kp k (fun j (hj : j = N) => .inl (by show w0.heap.size ≤ j; omega)), Kept.trans' h.gro k (fun j (hj : j = N) => .inr (by omega)), h.low, h.lor, h.lox⟩
/-- the book's block is written -/
theorem LB.put {w w0 wr : World} {g : Gr} {cg : Array Value} {R X : Nat} {b b' : Bk} {a1 a2 a3 : Option Addr} {n1 n2 n3 c1 c2 c3 : Nat} (h : LB w w0 wr g cg R X b a1 n1 c1 a2 n2 c2 a3 n3 c3) {e1 e2 e3 : Option Addr} {m1 m2 m3 d1 d2 d3 : Nat} (hv : VB g b') (hb : BkV wr (.agg #[.int .i64 b'.round, .slice e1 m1 d1, .slice e2 m2 d2, .slice e3 m3 d3]) b') :
  LB w w0 ((((wr.setCell ⟨X, 0, none⟩ (.int .i64 b'.round)).setCell ⟨X, 1, none⟩ (.slice e1 m1 d1)).setCell ⟨X, 2, none⟩ (.slice e2 m2 d2)).setCell ⟨X, 3, none⟩ (.slice e3 m3 d3)) g cg R X b' e1 m1 d1 e2 m2 d2 e3 m3 d3 := by
 have k := kept4 (Kept.refl (· = X) wr) (.inl rfl) (.int .i64 b'.round) (.slice e1 m1 d1) (.slice e2 m2 d2) (.slice e3 m3 d3)
 have h1 := h.lox
 have h2 := h.lor
 have h3 := h.low
 exact ⟨k.blk h.rb (by omega), set4 h.xb _ _ _ _, hb.far k h.xb, hv, Kept.trans' h.kp k (fun j (hj : j = X) => .inl (by show w0.heap.size ≤ j; omega)), Kept.trans' h.gro k (fun j (hj : j = X) => .inr (by omega)), h.low, h.lor, h.lox⟩
theorem BkV.open {w : World} {v : Value} {b : Bk} (h : BkV w v b) : ∃ (a1 : Option Addr) (c1 : Nat) (a2 : Option Addr) (c2 : Nat) (a3 : Option Addr) (c3 : Nat), v = .agg #[.int .i64 b.round, .slice a1 b.ps.length c1, .slice a2 b.os.length c2, .slice a3 b.ws.length c3] := by
 obtain ⟨p, o, q, rfl, ⟨a1, c1, rfl, _⟩, ⟨a2, c2, rfl, _⟩, ⟨a3, c3, rfl, _⟩⟩ := h
 exact ⟨a1, c1, a2, c2, a3, c3, rfl⟩
theorem GrV.open {w : World} {v : Value} {g : Gr} (h : GrV w v g) : ∃ (a1 : Option Addr) (c1 : Nat) (a2 : Option Addr) (c2 : Nat) (a3 : Option Addr) (c3 : Nat), v = .agg #[.slice a1 g.vs.length c1, .slice a2 g.es.length c2, .slice a3 g.ds.length c3] := by
 obtain ⟨p, o, q, rfl, ⟨a1, c1, rfl, _⟩, ⟨a2, c2, rfl, _⟩, ⟨a3, c3, rfl, _⟩⟩ := h
 exact ⟨a1, c1, a2, c2, a3, c3, rfl⟩
/-- the lists of a book's value -/
theorem LB.lists {w w0 wr : World} {g : Gr} {cg : Array Value} {R X : Nat} {b : Bk} {a1 a2 a3 : Option Addr} {n1 n2 n3 c1 c2 c3 : Nat} (h : LB w w0 wr g cg R X b a1 n1 c1 a2 n2 c2 a3 n3 c3) :
  (n1 = b.ps.length ∧ n2 = b.os.length ∧ n3 = b.ws.length) ∧ Lst wr a1 b.ps.length c1 b.ps ∧ Lst wr a2 b.os.length c2 b.os ∧ Lst wr a3 b.ws.length c3 b.ws := by
 obtain ⟨p, o, q, e, ⟨_, _, e1, l1⟩, ⟨_, _, e2, l2⟩, ⟨_, _, e3, l3⟩⟩ := h.bv
 injection e with e
 simp only [Array.mk.injEq, List.cons.injEq, true_and, and_true] at e
 obtain ⟨rfl, rfl, rfl⟩ := e
 injection e1 with x1 x2 x3
 injection e2 with y1 y2 y3
 injection e3 with z1 z2 z3
 subst x1 x2 x3 y1 y2 y3 z1 z2 z3
 exact ⟨⟨rfl, rfl, rfl⟩, l1, l2, l3⟩
theorem lv_none {α : Type} [Rec α] (w : World) : LV w (.slice none 0 0) ([] : List α) := ⟨none, 0, rfl, lst_nil w 0⟩
theorem BkV.lists {w : World} {b : Bk} {r : Value} {a1 a2 a3 : Option Addr} {n1 n2 n3 c1 c2 c3 : Nat} (h : BkV w (.agg #[r, .slice a1 n1 c1, .slice a2 n2 c2, .slice a3 n3 c3]) b) :
  (n1 = b.ps.length ∧ n2 = b.os.length ∧ n3 = b.ws.length) ∧ Lst w a1 b.ps.length c1 b.ps ∧ Lst w a2 b.os.length c2 b.os ∧ Lst w a3 b.ws.length c3 b.ws := by
 obtain ⟨p, o, q, e, ⟨_, _, e1, l1⟩, ⟨_, _, e2, l2⟩, ⟨_, _, e3, l3⟩⟩ := h
 injection e with e
 simp only [Array.mk.injEq, List.cons.injEq, true_and, and_true] at e
 obtain ⟨_, rfl, rfl, rfl⟩ := e
 injection e1 with x1 x2 x3
 injection e2 with y1 y2 y3
 injection e3 with z1 z2 z3
 subst x1 x2 x3 y1 y2 y3 z1 z2 z3
 exact ⟨⟨rfl, rfl, rfl⟩, l1, l2, l3⟩
theorem GrV.lists {w : World} {g : Gr} {a1 a2 a3 : Option Addr} {n1 n2 n3 c1 c2 c3 : Nat} (h : GrV w (.agg #[.slice a1 n1 c1, .slice a2 n2 c2, .slice a3 n3 c3]) g) :
  (n1 = g.vs.length ∧ n2 = g.es.length ∧ n3 = g.ds.length) ∧ Lst w a1 g.vs.length c1 g.vs ∧ Lst w a2 g.es.length c2 g.es ∧ Lst w a3 g.ds.length c3 g.ds := by
 obtain ⟨p, o, q, e, ⟨_, _, e1, l1⟩, ⟨_, _, e2, l2⟩, ⟨_, _, e3, l3⟩⟩ := h
 injection e with e
 simp only [Array.mk.injEq, List.cons.injEq, true_and, and_true] at e
 obtain ⟨rfl, rfl, rfl⟩ := e
 injection e1 with x1 x2 x3
 injection e2 with y1 y2 y3
 injection e3 with z1 z2 z3
 subst x1 x2 x3 y1 y2 y3 z1 z2 z3
 exact ⟨⟨rfl, rfl, rfl⟩, l1, l2, l3⟩
/-- a graph of the law's own in the block H -/
structure GB (wr : World) (g : Gr) (H : Nat) (a1 : Option Addr) (n1 c1 : Nat) (a2 : Option Addr) (n2 c2 : Nat) (a3 : Option Addr) (n3 c3 : Nat) : Prop where
 blk : wr.heap[H]? = some (.cells #[.slice a1 n1 c1, .slice a2 n2 c2, .slice a3 n3 c3] 38 (0, 0))
 val : GrV wr (.agg #[.slice a1 n1 c1, .slice a2 n2 c2, .slice a3 n3 c3]) g
theorem GB.step {wr w' : World} {g : Gr} {H : Nat} {a1 a2 a3 : Option Addr} {n1 n2 n3 c1 c2 c3 : Nat} (h : GB wr g H a1 n1 c1 a2 n2 c2 a3 n3 c3) (k : Gro wr w') : GB w' g H a1 n1 c1 a2 n2 c2 a3 n3 c3 := ⟨k.blk h.blk, h.val.gro k⟩
def Truth (w : World) (e : Ending) (w' : World) : Prop := e = .returned (.bool true) ∧ Gro w w'
end Go.Proofs.YthfagcdjbmhhcaaGreat
