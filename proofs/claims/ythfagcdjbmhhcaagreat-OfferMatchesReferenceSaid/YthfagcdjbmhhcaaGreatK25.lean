/- the reference: Deed. -/
import Derived.Test.YthfagcdjbmhhcaaGreatK24
import Derived.Test.YthfagcdjbmhhcaaGreatK18
import Derived.Deep.RegionHeld3
set_option linter.unusedVariables false
set_option linter.unusedSimpArgs false
namespace Go.Proofs.YthfagcdjbmhhcaaGreat
open Go.RowKit
attribute [local irreducible] wpQuiet
/-- an error, or a valid book's value -/
def DP (g : Gr) (w : World) (E r : Int) (a1 : Option Addr) (n1 c1 : Nat) (a2 : Option Addr) (n2 c2 : Nat) (a3 : Option Addr) (n3 c3 : Nat) : Prop := E = 270 ∨ (E = 0 ∧ ∃ c, VB g c ∧ BkV w (.agg #[.int .i64 r, .slice a1 n1 c1, .slice a2 n2 c2, .slice a3 n3 c3]) c)
theorem DP.gro {g : Gr} {w w' : World} {E r : Int} {a1 a2 a3 : Option Addr} {n1 n2 n3 c1 c2 c3 : Nat} (h : DP g w E r a1 n1 c1 a2 n2 c2 a3 n3 c3) (k : Gro w w') : DP g w' E r a1 n1 c1 a2 n2 c2 a3 n3 c3 :=
 h.imp id (fun ⟨h1, c, h2, h3⟩ => ⟨h1, c, h2, h3.gro k⟩)
def DPost (g : Gr) (w : World) (e : Ending) (w' : World) : Prop := ∃ (E r : Int) (a1 : Option Addr) (n1 c1 : Nat) (a2 : Option Addr) (n2 c2 : Nat) (a3 : Option Addr) (n3 c3 : Nat),
 e = .returned (.tuple #[.agg #[.int .i64 r, .slice a1 n1 c1, .slice a2 n2 c2, .slice a3 n3 c3], .int .i64 E]) ∧ DP g w' E r a1 n1 c1 a2 n2 c2 a3 n3 c3 ∧ Gro w w'
theorem chk_VB {g : Gr} {b b' : Bk} {r : Option Bk} (h : chk g b r = some b') : VB g b' := by
 unfold chk at h
 split at h
 ·cases r with
  | none => cases h
  | some c =>
  simp only [Option.bind_some] at h
  split at h
  ·rename_i hc
   injection h with h
   subst h
   exact validB_iff.1 hc
  cases h
 cases h
theorem DPost.of {g : Gr} {b : Bk} {r : Option Bk} {w : World} (e : Ending) (w' : World) (h : ChPost w (chk g b r) e w') : DPost g w e w' := by
 obtain ⟨k, ⟨b2, vv, hr, rfl, p, o, q, rfl, ⟨a1, c1, rfl, l1⟩, ⟨a2, c2, rfl, l2⟩, ⟨a3, c3, rfl, l3⟩⟩ | ⟨_, rfl⟩⟩ := h
 ·exact ⟨0, b2.round, a1, _, c1, a2, _, c2, a3, _, c3, rfl, .inr ⟨rfl, b2, chk_VB hr, _, _, _, rfl, ⟨_, _, rfl, l1⟩, ⟨_, _, rfl, l2⟩, ⟨_, _, rfl, l3⟩⟩, k⟩
 exact ⟨270, 0, none, 0, 0, none, 0, 0, none, 0, 0, rfl, .inl rfl, k⟩
def DeedPost (w : World) (g : Gr) (e : Ending) (w' : World) : Prop := ∃ b' v' r, e = .returned (.tuple #[v', .bool r]) ∧ VB g b' ∧ BkV w' v' b' ∧ Gro w w'
theorem rem_idx (a : Int) (n : Nat) (h0 : 0 ≤ a) (hn : 0 < n) : ∃ j : Nat, a.tmod (n : Int) = j ∧ a % (n : Int) = j ∧ j < n := by
 have h1 := Int.emod_nonneg a (show (n : Int) ≠ 0 by omega)
 have h2 := Int.emod_lt_of_pos a (show (0 : Int) < n by omega)
 refine ⟨(a % (n : Int)).toNat, ?_, by omega, by omega⟩
 rw [Int.tmod_eq_emod_of_nonneg h0]; omega
/-- what Deed has in memory: the boxes of its arguments, its result's block, and the block N of what was done, with the error E -/
structure DX (w wr : World) (g : Gr) (cg cb cx : Array Value) (N : Nat) (E : Int) : Prop where
 gb : wr.heap[w.heap.size]? = some (.cells cg 38 (0, 0))
 bb : wr.heap[w.heap.size + 1]? = some (.cells cb 28 (0, 0))
 xb : wr.heap[w.heap.size + 1 + 1]? = some (.cells cx 63 (0, 0))
 tb : wr.heap[w.heap.size + 1 + 1 + 1]? = some (.cells #[Value.int IntKind.i64 0, Value.slice none 0 0, Value.slice none 0 0, Value.slice none 0 0] 28 (0, 0))
 gro : Gro w wr
 lo : w.heap.size + 1 + 1 + 1 < N
 nb : ∃ (r : Int) (a1 : Option Addr) (n1 c1 : Nat) (a2 : Option Addr) (n2 c2 : Nat) (a3 : Option Addr) (n3 c3 : Nat), wr.heap[N]? = some (.cells #[.int .i64 r, .slice a1 n1 c1, .slice a2 n2 c2, .slice a3 n3 c3] 28 (0, 0)) ∧ DP g wr E r a1 n1 c1 a2 n2 c2 a3 n3 c3
theorem DX.step {w wr w' : World} {g : Gr} {cg cb cx : Array Value} {N : Nat} {E : Int} (h : DX w wr g cg cb cx N E) (k : Gro wr w') : DX w w' g cg cb cx N E := by
 obtain ⟨r, a1, n1, c1, a2, n2, c2, a3, n3, c3, hN, hd⟩ := h.nb
 exact ⟨k.blk h.gb, k.blk h.bb, k.blk h.xb, k.blk h.tb, h.gro.trans k, h.lo, r, a1, n1, c1, a2, n2, c2, a3, n3, c3, k.blk hN, hd.gro k⟩
theorem DX.put {w wr w' : World} {g : Gr} {cg cb cx : Array Value} {N : Nat} {E E' r : Int} {a1 a2 a3 : Option Addr} {n1 n2 n3 c1 c2 c3 : Nat} (h : DX w wr g cg cb cx N E) (k : Gro wr w') (hd : DP g w' E' r a1 n1 c1 a2 n2 c2 a3 n3 c3) :
  DX w ((((w'.setCell ⟨N, 0, none⟩ (.int .i64 r)).setCell ⟨N, 1, none⟩ (.slice a1 n1 c1)).setCell ⟨N, 2, none⟩ (.slice a2 n2 c2)).setCell ⟨N, 3, none⟩ (.slice a3 n3 c3)) g cg cb cx N E' := by
 have h' := h.step k
 obtain ⟨_, _, _, _, _, _, _, _, _, _, hN, _⟩ := h'.nb
 have kk := kept4 (Kept.refl (· = N) w') (.inl rfl) (.int .i64 r) (.slice a1 n1 c1) (.slice a2 n2 c2) (.slice a3 n3 c3)
 have hl := h.lo
 refine ⟨kk.blk h'.gb (by omega), kk.blk h'.bb (by omega), kk.blk h'.xb (by omega), kk.blk h'.tb (by omega), kept4 h'.gro (.inr (by omega : w.heap.size ≤ N)) _ _ _ _, hl, r, a1, n1, c1, a2, n2, c2, a3, n3, c3, set4 hN _ _ _ _, ?_⟩
 rcases hd with rfl | ⟨rfl, c, hv, p, o, q, e, lp, lo, lq⟩
 ·exact .inl rfl
 refine .inr ⟨rfl, c, hv, p, o, q, e, ?_, ?_, ?_⟩
 ·exact lp.farB kk hN (by decide) (fun x => ⟨x.id, x.budget, rfl, rfl⟩)
 ·exact lo.farB kk hN (by decide) (fun x => ⟨x.id, x.party, rfl, rfl⟩)
 exact lq.farB kk hN (by decide) (fun x => ⟨x.edge, x.src, rfl, rfl⟩)
theorem DX.kept {w wr w' : World} {g : Gr} {cg cb cx : Array Value} {N R : Nat} (h : DX w wr g cg cb cx N 270) (k : Kept (· = R) wr w') (hR : N < R) : DX w w' g cg cb cx N 270 := by
 have hl := h.lo
 obtain ⟨r, a1, n1, c1, a2, n2, c2, a3, n3, c3, hN, _⟩ := h.nb
 exact ⟨k.blk h.gb (by omega), k.blk h.bb (by omega), k.blk h.xb (by omega), k.blk h.tb (by omega), Kept.trans' h.gro k (fun j (hj : j = R) => .inr (by omega)), hl, r, a1, n1, c1, a2, n2, c2, a3, n3, c3, k.blk hN (by omega), .inl rfl⟩
theorem DX.e270 {w wr : World} {g : Gr} {cg cb cx : Array Value} {N : Nat} {E : Int} (h : DX w wr g cg cb cx N E) (hE : E ≠ 0) : E = 270 := by
 obtain ⟨_, _, _, _, _, _, _, _, _, _, _, h1 | ⟨h1, _⟩⟩ := h.nb
 ·exact h1
 exact absurd h1 hE
set_option maxHeartbeats 400000000 in
set_option maxRecDepth 100000 in
theorem deed45 {w : World} {vg vb : Value} {g : Gr} {b : Bk} (hG : GrV w vg g) (hB : BkV w vb b) (hv : VB g b) (h0 : 0 < g.vs.length) (x0 x1 x2 x3 x4 x5 : Int) (r0 : -9223372036854775808 ≤ x0 ∧ x0 ≤ 9223372036854775807) (r1 : -9223372036854775808 ≤ x1 ∧ x1 ≤ 9223372036854775807) (r2 : -9223372036854775808 ≤ x2 ∧ x2 ≤ 9223372036854775807) (r3 : -9223372036854775808 ≤ x3 ∧ x3 ≤ 9223372036854775807) (r4 : -9223372036854775808 ≤ x4 ∧ x4 ≤ 9223372036854775807) (r5 : -9223372036854775808 ≤ x5 ∧ x5 ≤ 9223372036854775807) :
  Calls Tryz.prog 45 #[vg, vb, .agg #[.int .i64 x0, .int .i64 x1, .int .i64 x2, .int .i64 x3, .int .i64 x4, .int .i64 x5]] w (DeedPost w g) := by
 have hf := hv.fits
 have hlen := hv.lens
 have hglen := hv.vg.lens
 have hrd := inB_iff.1 hv.rd
 have HVB := yy hv
 have hmix := mixed
 obtain ⟨v1, v2, v3, rfl, hg0⟩ := hG
 obtain ⟨a1, n1, rfl, l1⟩ := hg0.vs
 obtain ⟨a2, n2, rfl, l2⟩ := hg0.es
 obtain ⟨a3, n3, rfl, l3⟩ := hg0.ds
 obtain ⟨p, o, q, rfl, hp, ho, hq⟩ := hB
 obtain ⟨ap, np, rfl, lp⟩ := hp
 obtain ⟨ao, no, rfl, lo⟩ := ho
 obtain ⟨aq, mq, rfl, lq⟩ := hq
 have HBW : Hid (∀ W, Gro w W → BkV W (.agg #[Value.int IntKind.i64 b.round, Value.slice ap b.ps.length np, Value.slice ao b.os.length no, Value.slice aq b.ws.length mq]) b) := yy (fun W hW => ⟨_, _, _, rfl, ⟨_, _, rfl, lp.gro hW⟩, ⟨_, _, rfl, lo.gro hW⟩, ⟨_, _, rfl, lq.gro hW⟩⟩)
 have LOW : Hid (∀ W, Gro w W → Lst W ao b.os.length no b.os) := yy (fun W hW => lo.gro hW)
 obtain ⟨wa, hwa⟩ : ∃ wa, wa = (((w.alloc (.cells #[Value.slice a1 g.vs.length n1, Value.slice a2 g.es.length n2, Value.slice a3 g.ds.length n3] 38)).alloc (.cells #[Value.int IntKind.i64 b.round, Value.slice ap b.ps.length np, Value.slice ao b.os.length no, Value.slice aq b.ws.length mq] 28)).alloc (.cells #[.int .i64 x0, .int .i64 x1, .int .i64 x2, .int .i64 x3, .int .i64 x4, .int .i64 x5] 63)).alloc (.cells #[Value.int IntKind.i64 0, Value.slice none 0 0, Value.slice none 0 0, Value.slice none 0 0] 28) := ⟨_, rfl⟩
 have k0 : Gro w wa := by rw [hwa]; exact ((((Gro.refl _).alloc _).alloc _).alloc _).alloc _
 have bG : wa.heap[w.heap.size]? = some (.cells #[Value.slice a1 g.vs.length n1, Value.slice a2 g.es.length n2, Value.slice a3 g.ds.length n3] 38 (0, 0)) := by rw [hwa]; exact blk_alloc (blk_alloc (blk_alloc (blk_new _ _) _) _) _
 have bB : wa.heap[w.heap.size + 1]? = some (.cells #[Value.int IntKind.i64 b.round, Value.slice ap b.ps.length np, Value.slice ao b.os.length no, Value.slice aq b.ws.length mq] 28 (0, 0)) := by
  rw [hwa]
  have := blk_new (w.alloc (.cells #[Value.slice a1 g.vs.length n1, Value.slice a2 g.es.length n2, Value.slice a3 g.ds.length n3] 38)) (.cells #[Value.int IntKind.i64 b.round, Value.slice ap b.ps.length np, Value.slice ao b.os.length no, Value.slice aq b.ws.length mq] 28)
  rw [asz] at this
  exact blk_alloc (blk_alloc (this) _) _
 have bC0 : wa.heap[w.heap.size + 1 + 1]? = some (.cells #[.int .i64 x0, .int .i64 x1, .int .i64 x2, .int .i64 x3, .int .i64 x4, .int .i64 x5] 63 (0, 0)) := by
  rw [hwa]
  have := blk_new ((w.alloc (.cells #[Value.slice a1 g.vs.length n1, Value.slice a2 g.es.length n2, Value.slice a3 g.ds.length n3] 38)).alloc (.cells #[Value.int IntKind.i64 b.round, Value.slice ap b.ps.length np, Value.slice ao b.os.length no, Value.slice aq b.ws.length mq] 28)) (.cells #[.int .i64 x0, .int .i64 x1, .int .i64 x2, .int .i64 x3, .int .i64 x4, .int .i64 x5] 63)
  rw [asz, asz] at this
  exact blk_alloc (this) _
 have bT : wa.heap[w.heap.size + 1 + 1 + 1]? = some (.cells #[Value.int IntKind.i64 0, Value.slice none 0 0, Value.slice none 0 0, Value.slice none 0 0] 28 (0, 0)) := by
  rw [hwa]
  have := blk_new (((w.alloc (.cells #[Value.slice a1 g.vs.length n1, Value.slice a2 g.es.length n2, Value.slice a3 g.ds.length n3] 38)).alloc (.cells #[Value.int IntKind.i64 b.round, Value.slice ap b.ps.length np, Value.slice ao b.os.length no, Value.slice aq b.ws.length mq] 28)).alloc (.cells #[.int .i64 x0, .int .i64 x1, .int .i64 x2, .int .i64 x3, .int .i64 x4, .int .i64 x5] 63)) (.cells #[Value.int IntKind.i64 0, Value.slice none 0 0, Value.slice none 0 0, Value.slice none 0 0] 28)
  rw [asz, asz, asz] at this
  exact this
 have GV : ∀ W, Gro wa W → GrV W (.agg #[Value.slice a1 g.vs.length n1, Value.slice a2 g.es.length n2, Value.slice a3 g.ds.length n3]) g := fun W hW => ⟨_, _, _, rfl, hg0.gro (k0.trans hW)⟩
 have BV : ∀ W, Gro wa W → BkV W (.agg #[Value.int IntKind.i64 b.round, Value.slice ap b.ps.length np, Value.slice ao b.os.length no, Value.slice aq b.ws.length mq]) b := fun W hW => ⟨_, _, _, rfl, ⟨_, _, rfl, lp.gro (k0.trans hW)⟩, ⟨_, _, rfl, lo.gro (k0.trans hW)⟩, ⟨_, _, rfl, lq.gro (k0.trans hW)⟩⟩
 have C15 := yy (fun W hW => valid15 (GV W hW) (BV W hW) hf)
 have C66 := yy (fun W hW id => open66 (BV W hW) hf.bfew id)
 have C67 := yy (fun W hW => copy67 (BV W hW) hf.bfew)
 have HGV := yy GV
 have HGW : Hid (∀ W, Gro w W → GrV W (.agg #[Value.slice a1 g.vs.length n1, Value.slice a2 g.es.length n2, Value.slice a3 g.ds.length n3]) g) := yy (fun W hW => ⟨_, _, _, rfl, hg0.gro hW⟩)
 have HBV := yy BV
 have HF := yy hf
 have HW := yy hwa
 have K0 := yy k0
 have BA := yy bG
 have BX := yy bB
 have BT := yy bT
 have LO := yy (lo.gro k0)
 have BC0 := yy bC0
 clear hg0 l1 l2 l3 lp lo lq hf k0 bG bB bT hwa GV BV bC0
 clear C15 C66 C67 HGV HBV hv
 have P0 := yy (fun W => pick48 (w := W) x0 10 r0 (by omega))
 have P1 := yy (fun W => pick48 (w := W) x1 3 r1 (by omega))
 have P2 := yy (fun W => pick48 (w := W) x2 19 r2 (by omega))
 have P29 := yy (fun W => pick48 (w := W) x2 9 r2 (by omega))
 have P33 := yy (fun W => pick48 (w := W) x3 3 r3 (by omega))
 have P39 := yy (fun W => pick48 (w := W) x3 9 r3 (by omega))
 have P4v := yy (fun W => pick48 (w := W) x4 (g.vs.length : Int) r4 (by omega))
 have P44 := yy (fun W => pick48 (w := W) x4 4 r4 (by omega))
 have P432 := yy (fun W => pick48 (w := W) x4 32 r4 (by omega))
 have P540 := yy (fun W => pick48 (w := W) x5 40 r5 (by omega))
 have P59 := yy (fun W => pick48 (w := W) x5 9 r5 (by omega))
 have q0 := pk_range (c := x0) (n := 10) (by omega)
 have q1 := pk_range (c := x1) (n := 3) (by omega)
 have q2 := pk_range (c := x2) (n := 19) (by omega)
 have q29 := pk_range (c := x2) (n := 9) (by omega)
 have q33 := pk_range (c := x3) (n := 3) (by omega)
 have q39 := pk_range (c := x3) (n := 9) (by omega)
 have q44 := pk_range (c := x4) (n := 4) (by omega)
 have q432 := pk_range (c := x4) (n := 32) (by omega)
 generalize pk x0 10 = v at P0 q0
 generalize pk x1 3 = y1 at P1 q1
 generalize pk x2 19 = y2 at P2 q2
 generalize pk x2 9 = y29 at P29 q29
 generalize pk x3 3 = y33 at P33 q33
 generalize pk x3 9 = y39 at P39 q39
 generalize pk x4 (g.vs.length : Int) = y4v at P4v
 generalize pk x4 4 = y44 at P44 q44
 generalize pk x4 32 = y432 at P432 q432
 generalize pk x5 40 = y540 at P540
 generalize pk x5 9 = y59 at P59
 have hw2 : IntKind.i64.wrap (5 + y2) = 5 + y2 := by rw [IntKind.wrap_i64]; omega
 clear r0 r1 r2 r3 r4 r5
 have cz := blk_cell ((Gro.refl _).blk BC0.out)
 have z0 := cz 0
 have z1 := cz 1
 have z2 := cz 2
 have z3 := cz 3
 have z4 := cz 4
 have z5 := cz 5
 simp only [lPa, lPb, lPc] at z0 z1 z2 z3 z4 z5
 have hlz := blk_lt ((Gro.refl _).blk BC0.out)
 clear cz
 go_enter Tryz.func45, Tryz.ntmps45
 go_wp2_with fail
 obtain ⟨wp, hwp⟩ : ∃ wp, wp = wa.alloc (Obj.cells #[.int .i64 0, .int .i64 2, .int .i64 5] 3) := ⟨_, rfl⟩
 have kp : Gro wa wp := by rw [hwp]; exact (Gro.refl _).alloc _
 have hsa : wa.heap.size = w.heap.size + 1 + 1 + 1 + 1 := by rw [HW.out]; simp only [asz]
 have bP : wp.heap[w.heap.size + 1 + 1 + 1 + 1]? = some (.cells #[.int .i64 0, .int .i64 2, .int .i64 5] 3 (0, 0)) := by
  rw [hwp, ← hsa]; exact blk_new _ _
 obtain ⟨m, rfl⟩ : ∃ m : Nat, y1 = m := ⟨y1.toNat, by omega⟩
 obtain ⟨pt, hpt⟩ : ∃ pt : Int, wp.cell? ⟨w.heap.size + 1 + 1 + 1 + 1, m, none⟩ = some (.int .i64 pt) := by
  rw [blk_cell bP]
  have : m = 0 ∨ m = 1 ∨ m = 2 := by omega
  rcases this with rfl | rfl | rfl
  ·exact ⟨0, rfl⟩
  ·exact ⟨2, rfl⟩
  exact ⟨5, rfl⟩
 have hlP := blk_lt bP
 rw [← HW.out, ← hwp]
 have z0 := kp.cell z0
 have z1 := kp.cell z1
 have z2 := kp.cell z2
 have hlz := blk_lt (kp.blk BC0.out)
 have DX0 : Hid (∀ (W : World) (N : Nat), W = wp.alloc (Obj.cells #[.int .i64 0, .slice none 0 0, .slice none 0 0, .slice none 0 0] 28) → N = wp.heap.size → DX w W g #[Value.slice a1 g.vs.length n1, Value.slice a2 g.es.length n2, Value.slice a3 g.ds.length n3] #[Value.int IntKind.i64 b.round, Value.slice ap b.ps.length np, Value.slice ao b.os.length no, Value.slice aq b.ws.length mq] #[.int .i64 x0, .int .i64 x1, .int .i64 x2, .int .i64 x3, .int .i64 x4, .int .i64 x5] N 270) := yy (fun W N e1 e2 => by
  have kW : Gro wp W := by rw [e1]; exact (Gro.refl _).alloc _
  have kN := kp.trans kW
  refine ⟨kN.blk BA.out, kN.blk BX.out, kN.blk BC0.out, kN.blk BT.out, K0.out.trans kN, ?_, 0, none, 0, 0, none, 0, 0, none, 0, 0, by rw [e1, e2]; exact blk_new _ _, .inl rfl⟩
  have := kp.size
  omega)
 have hz0w : ∀ W, W = wp.alloc (Obj.cells #[.int .i64 0, .slice none 0 0, .slice none 0 0, .slice none 0 0] 28) → W.cell? ⟨w.heap.size + 1 + 1, 0, none⟩ = some (.int .i64 x0) := fun W e => by rw [e]; exact ((Gro.refl wp).alloc _).cell z0
 have HZW := yy hz0w
 clear hwp kp bP hsa HW BA BX BC0 BT LO K0 z3 z4 z5 hz0w
 refine (P1.out _).mono ?_
 rintro e w' ⟨rfl, rfl⟩
 go_wp2_with fail
 refine (P2.out _).mono ?_
 rintro e w' ⟨rfl, rfl⟩
 clear P2
 go_wp2_with fail
 obtain ⟨wN, hwN⟩ : ∃ wN, wN = w'.alloc (Obj.cells #[.int .i64 0, .slice none 0 0, .slice none 0 0, .slice none 0 0] 28) := ⟨_, rfl⟩
 have HD0 := yy (DX0.out wN _ hwN rfl)
 rw [← hwN]
 clear z0 z1 z2 hpt hlP hlz hwN DX0 HZW
 generalize w'.heap.size = N at HD0 ⊢
 refine (P0.out _).mono ?_
 rintro e wz ⟨rfl, rfl⟩
 clear P0
 go_upto_block 0 with fail
 go_cut [11] (fun t wx => ∃ E : Int, t = .int .i64 E ∧ Hid (DX w wx g #[Value.slice a1 g.vs.length n1, Value.slice a2 g.es.length n2, Value.slice a3 g.ds.length n3] #[Value.int IntKind.i64 b.round, Value.slice ap b.ps.length np, Value.slice ao b.os.length no, Value.slice aq b.ws.length mq] #[.int .i64 x0, .int .i64 x1, .int .i64 x2, .int .i64 x3, .int .i64 x4, .int .i64 x5] N E))
 case first =>
  go_upto_if 30 with fail
  go_cut [30] (fun t wx => t = .bool (decide (v < 4)) ∧ wx = wz)
  case first =>
   rcases (show v = 0 ∨ v = 1 ∨ v = 2 ∨ v = 3 ∨ 4 ≤ v by omega) with h | h | h | h | h
   ·subst h
    go_wp2_with fail
    go_meet
    exact ⟨rfl, rfl⟩
   ·subst h
    go_wp2_with fail
    go_meet
    exact ⟨rfl, rfl⟩
   ·subst h
    go_wp2_with fail
    go_meet
    exact ⟨rfl, rfl⟩
   ·subst h
    go_wp2_with fail
    go_meet
    exact ⟨rfl, rfl⟩
   have e0 : (v == 0) = false := by simp; omega
   have e1 : (v == 1) = false := by simp; omega
   have e2 : (v == 2) = false := by simp; omega
   have e3 : (v == 3) = false := by simp; omega
   have hd : decide (v < 4) = false := by simp; omega
   have HD9 := yy hd
   clear hd
   go_wp2_with fail
   go_meet
   exact ⟨by rw [HD9.out], rfl⟩
  case rest =>
  obtain ⟨rfl, rfl⟩ := hcut
  by_cases h4 : v < 4
  ·have h4d := decide_eq_true h4
   refine nameGoal fun auxP auxH _ => ?_
   letI auxN : Nonempty auxP := ⟨by
    refine auxH ?_
    have hw33 : IntKind.i64.wrap (1 + y33) = 1 + y33 := by rw [IntKind.wrap_i64]; omega
    have hw44 : IntKind.i64.wrap (b.round + y44) = b.round + y44 := by rw [IntKind.wrap_i64]; omega
    go_wp2_with fail
    obtain ⟨ro, d1, l1, m1', d2, l2, m2', d3, l3, m3', hN, _⟩ := HD0.out.nb
    have hloN := HD0.out.lo
    have hneG : ¬ (w.heap.size = N) := by omega
    have hneB : ¬ (w.heap.size + 1 = N) := by omega
    have hneX : ¬ (w.heap.size + 1 + 1 = N) := by omega
    have hS0 : wc.drew.cell? ⟨w.heap.size, 0, none⟩ = some (Value.slice a1 g.vs.length n1) ∧ wc.drew.cell? ⟨w.heap.size, 1, none⟩ = some (Value.slice a2 g.es.length n2) ∧ wc.drew.cell? ⟨w.heap.size, 2, none⟩ = some (Value.slice a3 g.ds.length n3) ∧ wc.drew.cell? ⟨w.heap.size + 1, 0, none⟩ = some (Value.int IntKind.i64 b.round) ∧ wc.drew.cell? ⟨w.heap.size + 1, 1, none⟩ = some (Value.slice ap b.ps.length np) ∧ wc.drew.cell? ⟨w.heap.size + 1, 2, none⟩ = some (Value.slice ao b.os.length no) ∧ wc.drew.cell? ⟨w.heap.size + 1, 3, none⟩ = some (Value.slice aq b.ws.length mq) ∧ wc.drew.cell? ⟨w.heap.size + 1 + 1, 3, none⟩ = some (Value.int IntKind.i64 x3) ∧ wc.drew.cell? ⟨w.heap.size + 1 + 1, 4, none⟩ = some (Value.int IntKind.i64 x4) ∧ wc.drew.cell? ⟨w.heap.size + 1 + 1, 5, none⟩ = some (Value.int IntKind.i64 x5) := ⟨(Gro.refl wc).drew.cell (by rw [blk_cell HD0.out.gb]; rfl), (Gro.refl wc).drew.cell (by rw [blk_cell HD0.out.gb]; rfl), (Gro.refl wc).drew.cell (by rw [blk_cell HD0.out.gb]; rfl), (Gro.refl wc).drew.cell (by rw [blk_cell HD0.out.bb]; rfl), (Gro.refl wc).drew.cell (by rw [blk_cell HD0.out.bb]; rfl), (Gro.refl wc).drew.cell (by rw [blk_cell HD0.out.bb]; rfl), (Gro.refl wc).drew.cell (by rw [blk_cell HD0.out.bb]; rfl), (Gro.refl wc).drew.cell (by rw [blk_cell HD0.out.xb]; rfl), (Gro.refl wc).drew.cell (by rw [blk_cell HD0.out.xb]; rfl), (Gro.refl wc).drew.cell (by rw [blk_cell HD0.out.xb]; rfl)⟩
    have hlg := blk_lt HD0.out.gb
    have hlb := blk_lt HD0.out.bb
    have hlx := blk_lt HD0.out.xb
    go_region_held3 (fun w' => w'.cell? ⟨w.heap.size, 0, none⟩ = some (Value.slice a1 g.vs.length n1) ∧ w'.cell? ⟨w.heap.size, 1, none⟩ = some (Value.slice a2 g.es.length n2) ∧ w'.cell? ⟨w.heap.size, 2, none⟩ = some (Value.slice a3 g.ds.length n3) ∧ w'.cell? ⟨w.heap.size + 1, 0, none⟩ = some (Value.int IntKind.i64 b.round) ∧ w'.cell? ⟨w.heap.size + 1, 1, none⟩ = some (Value.slice ap b.ps.length np) ∧ w'.cell? ⟨w.heap.size + 1, 2, none⟩ = some (Value.slice ao b.os.length no) ∧ w'.cell? ⟨w.heap.size + 1, 3, none⟩ = some (Value.slice aq b.ws.length mq) ∧ w'.cell? ⟨w.heap.size + 1 + 1, 3, none⟩ = some (Value.int IntKind.i64 x3) ∧ w'.cell? ⟨w.heap.size + 1 + 1, 4, none⟩ = some (Value.int IntKind.i64 x4) ∧ w'.cell? ⟨w.heap.size + 1 + 1, 5, none⟩ = some (Value.int IntKind.i64 x5))
     (first | with_reducible exact hS0 | with_reducible exact hS1 | with_reducible exact hS2 | go_keep)
     (first
      | (go_at_call 48; (first | (with_reducible refine (P33.out _).mono ?_) | (with_reducible refine (P4v.out _).mono ?_) | (with_reducible refine (P540.out _).mono ?_) | (with_reducible refine (P44.out _).mono ?_)); rintro e w' ⟨rfl, rfl⟩)
      | (go_at_call 19; refine (((radd19 (HGW.out _ (HD0.out.gro.trans (Gro.refl _).drew)) (HBW.out _ (HD0.out.gro.trans (Gro.refl _).drew)) HF.out ⟨5 + y2, pt, 1 + y33, y4v, y540, b.round + y44, 1⟩).mono DPost.of).mono ?_); rintro e w5 ⟨E', r', b1, k1, c1, b2, k2, c2, b3, k3, c3, rfl, hd, k5⟩; have kA : Gro wc w5 := (Gro.refl wc).drew.trans k5; have hN5 := (kA).blk hN; have fN := blk_frozen hN5; have cN := blk_cell hN5; have fn0 := fN 0; have fn1 := fN 1; have fn2 := fN 2; have fn3 := fN 3; have nn0 := cN 0; have nn1 := cN 1; have nn2 := cN 2; have nn3 := cN 3; simp only [lPa, lPb, lPc] at nn0 nn1 nn2 nn3; have hlN := blk_lt hN5; clear fN cN hN5; have hS1 : w5.cell? ⟨w.heap.size, 0, none⟩ = some (Value.slice a1 g.vs.length n1) ∧ w5.cell? ⟨w.heap.size, 1, none⟩ = some (Value.slice a2 g.es.length n2) ∧ w5.cell? ⟨w.heap.size, 2, none⟩ = some (Value.slice a3 g.ds.length n3) ∧ w5.cell? ⟨w.heap.size + 1, 0, none⟩ = some (Value.int IntKind.i64 b.round) ∧ w5.cell? ⟨w.heap.size + 1, 1, none⟩ = some (Value.slice ap b.ps.length np) ∧ w5.cell? ⟨w.heap.size + 1, 2, none⟩ = some (Value.slice ao b.os.length no) ∧ w5.cell? ⟨w.heap.size + 1, 3, none⟩ = some (Value.slice aq b.ws.length mq) ∧ w5.cell? ⟨w.heap.size + 1 + 1, 3, none⟩ = some (Value.int IntKind.i64 x3) ∧ w5.cell? ⟨w.heap.size + 1 + 1, 4, none⟩ = some (Value.int IntKind.i64 x4) ∧ w5.cell? ⟨w.heap.size + 1 + 1, 5, none⟩ = some (Value.int IntKind.i64 x5) := ⟨k5.cell hS0.1, k5.cell hS0.2.1, k5.cell hS0.2.2.1, k5.cell hS0.2.2.2.1, k5.cell hS0.2.2.2.2.1, k5.cell hS0.2.2.2.2.2.1, k5.cell hS0.2.2.2.2.2.2.1, k5.cell hS0.2.2.2.2.2.2.2.1, k5.cell hS0.2.2.2.2.2.2.2.2.1, k5.cell hS0.2.2.2.2.2.2.2.2.2⟩; have kk := kept4 (Kept.refl (· = N) w5) (.inl rfl) (.int .i64 r') (.slice b1 k1 c1) (.slice b2 k2 c2) (.slice b3 k3 c3); have hS2 := (show ((((w5.setCell ⟨N, 0, none⟩ (.int .i64 r')).setCell ⟨N, 1, none⟩ (.slice b1 k1 c1)).setCell ⟨N, 2, none⟩ (.slice b2 k2 c2)).setCell ⟨N, 3, none⟩ (.slice b3 k3 c3)).cell? ⟨w.heap.size, 0, none⟩ = some (Value.slice a1 g.vs.length n1) ∧ ((((w5.setCell ⟨N, 0, none⟩ (.int .i64 r')).setCell ⟨N, 1, none⟩ (.slice b1 k1 c1)).setCell ⟨N, 2, none⟩ (.slice b2 k2 c2)).setCell ⟨N, 3, none⟩ (.slice b3 k3 c3)).cell? ⟨w.heap.size, 1, none⟩ = some (Value.slice a2 g.es.length n2) ∧ ((((w5.setCell ⟨N, 0, none⟩ (.int .i64 r')).setCell ⟨N, 1, none⟩ (.slice b1 k1 c1)).setCell ⟨N, 2, none⟩ (.slice b2 k2 c2)).setCell ⟨N, 3, none⟩ (.slice b3 k3 c3)).cell? ⟨w.heap.size, 2, none⟩ = some (Value.slice a3 g.ds.length n3) ∧ ((((w5.setCell ⟨N, 0, none⟩ (.int .i64 r')).setCell ⟨N, 1, none⟩ (.slice b1 k1 c1)).setCell ⟨N, 2, none⟩ (.slice b2 k2 c2)).setCell ⟨N, 3, none⟩ (.slice b3 k3 c3)).cell? ⟨w.heap.size + 1, 0, none⟩ = some (Value.int IntKind.i64 b.round) ∧ ((((w5.setCell ⟨N, 0, none⟩ (.int .i64 r')).setCell ⟨N, 1, none⟩ (.slice b1 k1 c1)).setCell ⟨N, 2, none⟩ (.slice b2 k2 c2)).setCell ⟨N, 3, none⟩ (.slice b3 k3 c3)).cell? ⟨w.heap.size + 1, 1, none⟩ = some (Value.slice ap b.ps.length np) ∧ ((((w5.setCell ⟨N, 0, none⟩ (.int .i64 r')).setCell ⟨N, 1, none⟩ (.slice b1 k1 c1)).setCell ⟨N, 2, none⟩ (.slice b2 k2 c2)).setCell ⟨N, 3, none⟩ (.slice b3 k3 c3)).cell? ⟨w.heap.size + 1, 2, none⟩ = some (Value.slice ao b.os.length no) ∧ ((((w5.setCell ⟨N, 0, none⟩ (.int .i64 r')).setCell ⟨N, 1, none⟩ (.slice b1 k1 c1)).setCell ⟨N, 2, none⟩ (.slice b2 k2 c2)).setCell ⟨N, 3, none⟩ (.slice b3 k3 c3)).cell? ⟨w.heap.size + 1, 3, none⟩ = some (Value.slice aq b.ws.length mq) ∧ ((((w5.setCell ⟨N, 0, none⟩ (.int .i64 r')).setCell ⟨N, 1, none⟩ (.slice b1 k1 c1)).setCell ⟨N, 2, none⟩ (.slice b2 k2 c2)).setCell ⟨N, 3, none⟩ (.slice b3 k3 c3)).cell? ⟨w.heap.size + 1 + 1, 3, none⟩ = some (Value.int IntKind.i64 x3) ∧ ((((w5.setCell ⟨N, 0, none⟩ (.int .i64 r')).setCell ⟨N, 1, none⟩ (.slice b1 k1 c1)).setCell ⟨N, 2, none⟩ (.slice b2 k2 c2)).setCell ⟨N, 3, none⟩ (.slice b3 k3 c3)).cell? ⟨w.heap.size + 1 + 1, 4, none⟩ = some (Value.int IntKind.i64 x4) ∧ ((((w5.setCell ⟨N, 0, none⟩ (.int .i64 r')).setCell ⟨N, 1, none⟩ (.slice b1 k1 c1)).setCell ⟨N, 2, none⟩ (.slice b2 k2 c2)).setCell ⟨N, 3, none⟩ (.slice b3 k3 c3)).cell? ⟨w.heap.size + 1 + 1, 5, none⟩ = some (Value.int IntKind.i64 x5) from ⟨Kept.cell kk hneG hS1.1, Kept.cell kk hneG hS1.2.1, Kept.cell kk hneG hS1.2.2.1, Kept.cell kk hneB hS1.2.2.2.1, Kept.cell kk hneB hS1.2.2.2.2.1, Kept.cell kk hneB hS1.2.2.2.2.2.1, Kept.cell kk hneB hS1.2.2.2.2.2.2.1, Kept.cell kk hneX hS1.2.2.2.2.2.2.2.1, Kept.cell kk hneX hS1.2.2.2.2.2.2.2.2.1, Kept.cell kk hneX hS1.2.2.2.2.2.2.2.2.2⟩); have HD2 := yy (HD0.out.put kA hd); clear kk kA hd k5))
    clear hS0 hS1 hS2 nn0 nn1 nn2 nn3 fn0 fn1 fn2 fn3 hlN hN
    go_wp2_with fail
    go_meet
    exact ⟨E', rfl, HD2⟩⟩
   exact (show Nonempty auxP from inferInstanceAs (Nonempty auxP)).elim id
  have h4d := decide_eq_false h4
  rw [h4d]
  clear h4d
  go_upto_if 63 with fail
  go_cut [63] (fun t wx => t = .bool (decide (v < 8)) ∧ wx = wc)
  case first =>
   rcases (show v = 4 ∨ v = 5 ∨ v = 6 ∨ v = 7 ∨ 8 ≤ v by omega) with h | h | h | h | h
   ·subst h
    go_wp2_with fail
    go_meet
    exact ⟨rfl, rfl⟩
   ·subst h
    go_wp2_with fail
    go_meet
    exact ⟨rfl, rfl⟩
   ·subst h
    go_wp2_with fail
    go_meet
    exact ⟨rfl, rfl⟩
   ·subst h
    go_wp2_with fail
    go_meet
    exact ⟨rfl, rfl⟩
   have e0 : (v == 4) = false := by simp; omega
   have e1 : (v == 5) = false := by simp; omega
   have e2 : (v == 6) = false := by simp; omega
   have e3 : (v == 7) = false := by simp; omega
   have hd : decide (v < 8) = false := by simp; omega
   have HD9 := yy hd
   clear hd
   go_wp2_with fail
   go_meet
   exact ⟨by rw [HD9.out], rfl⟩
  case rest =>
  obtain ⟨rfl, rfl⟩ := hcut
  by_cases h8 : v < 8
  ·have h8d := decide_eq_true h8
   rw [h8d]
   clear q0 h8d
   go_wp2_with fail
   go_loopw [12, 11] (fun t u wr => ∃ (i : Nat) (E : Int), i ≤ b.os.length ∧ t = .int .i64 i ∧ u = .int .i64 E ∧ Hid (DX w wr g #[Value.slice a1 g.vs.length n1, Value.slice a2 g.es.length n2, Value.slice a3 g.ds.length n3] #[Value.int IntKind.i64 b.round, Value.slice ap b.ps.length np, Value.slice ao b.os.length no, Value.slice aq b.ws.length mq] #[.int .i64 x0, .int .i64 x1, .int .i64 x2, .int .i64 x3, .int .i64 x4, .int .i64 x5] N E)) (fun t _ _ => b.os.length - (intOf t).toNat)
   case atStart => exact ⟨0, 270, Nat.zero_le _, by go_num, rfl, HD0⟩
   case round =>
   clear HD0
   obtain ⟨i, E, hi, rfl, rfl, HD⟩ := hrel
   have cbb := blk_cell HD.out.bb
   have s2 := cbb 2
   simp only [lPa, lPb, lPc] at s2
   have hlb := blk_lt HD.out.bb
   clear cbb
   by_cases hlt : i < b.os.length
   ·by_cases hE : E = 0
    ·have hEd : (E != 0) = false := by simpa using hE
     have HE := yy hE
     clear hE
     go_wp2_with fail
     go_meet
     exact ⟨E, rfl, HD⟩
    have hEd : (E != 0) = true := by simpa using hE
    have HE := yy hE
    clear hE
    go_wp2_with fail
    clear s2 hlb hEd
    go_loopw [13, 11] (fun t u wx => ∃ (k : Nat) (E2 : Int), k ≤ b.os.length ∧ t = .int .i64 k ∧ u = .int .i64 E2 ∧ Hid (DX w wx g #[Value.slice a1 g.vs.length n1, Value.slice a2 g.es.length n2, Value.slice a3 g.ds.length n3] #[Value.int IntKind.i64 b.round, Value.slice ap b.ps.length np, Value.slice ao b.os.length no, Value.slice aq b.ws.length mq] #[.int .i64 x0, .int .i64 x1, .int .i64 x2, .int .i64 x3, .int .i64 x4, .int .i64 x5] N E2)) (fun t _ _ => b.os.length - (intOf t).toNat)
    case atStart => exact ⟨0, E, Nat.zero_le _, by go_num, rfl, HD⟩
    case round =>
    clear HD HE
    obtain ⟨k, E2, hk, rfl, rfl, HD⟩ := hrel
    have cbb := blk_cell HD.out.bb
    have s2 := cbb 2
    simp only [lPa, lPb, lPc] at s2
    have hlb := blk_lt HD.out.bb
    clear cbb
    by_cases hkl : k < b.os.length
    ·by_cases hE : E2 = 0
     ·have hEd : (E2 != 0) = false := by simpa using hE
      have HE := yy hE
      clear hE
      go_wp2_with fail
      go_roundw
      case rel => first | exact ⟨i + 1, E2, by omega, by go_num, rfl, HD⟩ | ((repeat apply Exists.intro); exact ⟨⟨by omega, by go_num, rfl, HD⟩, rfl⟩) | trace_state
      case measure => simp [intOf]; omega
     have hEd : (E2 != 0) = true := by simpa using hE
     have he := HD.out.e270 hE
     subst he
     clear hE hEd
     go_upto_region 21 with fail
     go_cut [14] (fun t wq => ∃ (P : Nat) (x : Ofr), t = .pointer (some ⟨P, 0, none⟩) ∧ N < P ∧ (0 ≤ x.price ∧ x.price ≤ 1000) ∧ Hid (DX w wq g #[Value.slice a1 g.vs.length n1, Value.slice a2 g.es.length n2, Value.slice a3 g.ds.length n3] #[Value.int IntKind.i64 b.round, Value.slice ap b.ps.length np, Value.slice ao b.os.length no, Value.slice aq b.ws.length mq] #[.int .i64 x0, .int .i64 x1, .int .i64 x2, .int .i64 x3, .int .i64 x4, .int .i64 x5] N 270) ∧ Hid (wq.heap[P]? = some (.cells #[.int .i64 x.id, .int .i64 x.party, .int .i64 x.side, .int .i64 x.place, .int .i64 x.price, .int .i64 x.until_, .int .i64 x.state] 30 (0, 0))))
     case first =>
      refine nameGoal fun auxP auxH _ => ?_
      letI auxN : Nonempty auxP := ⟨by
       refine auxH ?_
       obtain ⟨wi, hwi⟩ : ∃ wi, wi = wr := ⟨_, rfl⟩
       rw [← hwi] at HD ⊢
       clear hwi
       have HDi := HD
       obtain ⟨OB, oo, hao, hob, hoc⟩ := (LOW.out _ HDi.out.gro).base hlt
       subst hao
       have hwi2 : IntKind.i64.wrap ((i : Int) + y29) = (i : Int) + y29 := by rw [IntKind.wrap_i64]; omega
       obtain ⟨j, hj1, hj2, hj3⟩ := rem_idx ((i : Int) + y29) b.os.length (by omega) (by omega)
       have hn0 : ¬ (b.os.length : Int) = 0 := by omega
       have hn0' : ((b.os.length : Int) == 0) = false := by rw [beq_eq_false_iff_ne]; exact hn0
       have hn1 : ¬ b.os.length = 0 := by omega
       have hn1' : (b.os.length == 0) = false := by rw [beq_eq_false_iff_ne]; exact hn1
       have hn2 : ¬ b.os = [] := fun h => hn1 (by rw [h]; rfl)
       have hwj : IntKind.i64.wrap (j : Int) = j := by rw [IntKind.wrap_i64]; omega
       have hjI : (j : Int) < (b.os.length : Int) := by omega
       have hj0 : (0 : Int) ≤ (j : Int) := by omega
       obtain ⟨d0, d1, d2, d3, d4, d5, d6⟩ := ocells hoc hj3
       have hpr := (okO_inv (HVB.out.oko _ (List.getElem_mem hj3))).2.2.2.2.2.1
       generalize b.os[j] = xa at d0 d1 d2 d3 d4 d5 d6 hpr
       have hlO := World.block_lt_of_cell? _ _ d0
       have hlg := blk_lt HDi.out.gb
       have hlb := blk_lt HDi.out.bb
       have hlx := blk_lt HDi.out.xb
       obtain ⟨_, _, _, _, _, _, _, _, _, _, hNN, _⟩ := HDi.out.nb
       have hlN := blk_lt hNN
       have hS0 : wi.drew.cell? ⟨w.heap.size + 1, 2, none⟩ = some (Value.slice (some ⟨OB, oo, none⟩) b.os.length no) ∧ wi.drew.cell? ⟨w.heap.size + 1 + 1, 2, none⟩ = some (Value.int IntKind.i64 x2) ∧ wi.drew.cell? ⟨OB, oo + j * 7, none⟩ = some (Value.int IntKind.i64 xa.id) ∧ wi.drew.cell? ⟨OB, oo + j * 7 + 1, none⟩ = some (Value.int IntKind.i64 xa.party) ∧ wi.drew.cell? ⟨OB, oo + j * 7 + 2, none⟩ = some (Value.int IntKind.i64 xa.side) ∧ wi.drew.cell? ⟨OB, oo + j * 7 + 3, none⟩ = some (Value.int IntKind.i64 xa.place) ∧ wi.drew.cell? ⟨OB, oo + j * 7 + 4, none⟩ = some (Value.int IntKind.i64 xa.price) ∧ wi.drew.cell? ⟨OB, oo + j * 7 + 5, none⟩ = some (Value.int IntKind.i64 xa.until_) ∧ wi.drew.cell? ⟨OB, oo + j * 7 + 6, none⟩ = some (Value.int IntKind.i64 xa.state) := ⟨(Gro.refl wi).drew.cell (by rw [blk_cell HDi.out.bb]; rfl), (Gro.refl wi).drew.cell (by rw [blk_cell HDi.out.xb]; rfl), (Gro.refl wi).drew.cell d0, (Gro.refl wi).drew.cell d1, (Gro.refl wi).drew.cell d2, (Gro.refl wi).drew.cell d3, (Gro.refl wi).drew.cell d4, (Gro.refl wi).drew.cell d5, (Gro.refl wi).drew.cell d6⟩
       have k1 : Gro wi (wi.alloc (Obj.cells #[.int .i64 0, .int .i64 0, .int .i64 0, .int .i64 0, .int .i64 0, .int .i64 0, .int .i64 0] 30)).drew := ((Gro.refl _).alloc _).drew
       have hS1 : (wi.alloc (Obj.cells #[.int .i64 0, .int .i64 0, .int .i64 0, .int .i64 0, .int .i64 0, .int .i64 0, .int .i64 0] 30)).drew.cell? ⟨w.heap.size + 1, 2, none⟩ = some (Value.slice (some ⟨OB, oo, none⟩) b.os.length no) ∧ (wi.alloc (Obj.cells #[.int .i64 0, .int .i64 0, .int .i64 0, .int .i64 0, .int .i64 0, .int .i64 0, .int .i64 0] 30)).drew.cell? ⟨w.heap.size + 1 + 1, 2, none⟩ = some (Value.int IntKind.i64 x2) ∧ (wi.alloc (Obj.cells #[.int .i64 0, .int .i64 0, .int .i64 0, .int .i64 0, .int .i64 0, .int .i64 0, .int .i64 0] 30)).drew.cell? ⟨OB, oo + j * 7, none⟩ = some (Value.int IntKind.i64 xa.id) ∧ (wi.alloc (Obj.cells #[.int .i64 0, .int .i64 0, .int .i64 0, .int .i64 0, .int .i64 0, .int .i64 0, .int .i64 0] 30)).drew.cell? ⟨OB, oo + j * 7 + 1, none⟩ = some (Value.int IntKind.i64 xa.party) ∧ (wi.alloc (Obj.cells #[.int .i64 0, .int .i64 0, .int .i64 0, .int .i64 0, .int .i64 0, .int .i64 0, .int .i64 0] 30)).drew.cell? ⟨OB, oo + j * 7 + 2, none⟩ = some (Value.int IntKind.i64 xa.side) ∧ (wi.alloc (Obj.cells #[.int .i64 0, .int .i64 0, .int .i64 0, .int .i64 0, .int .i64 0, .int .i64 0, .int .i64 0] 30)).drew.cell? ⟨OB, oo + j * 7 + 3, none⟩ = some (Value.int IntKind.i64 xa.place) ∧ (wi.alloc (Obj.cells #[.int .i64 0, .int .i64 0, .int .i64 0, .int .i64 0, .int .i64 0, .int .i64 0, .int .i64 0] 30)).drew.cell? ⟨OB, oo + j * 7 + 4, none⟩ = some (Value.int IntKind.i64 xa.price) ∧ (wi.alloc (Obj.cells #[.int .i64 0, .int .i64 0, .int .i64 0, .int .i64 0, .int .i64 0, .int .i64 0, .int .i64 0] 30)).drew.cell? ⟨OB, oo + j * 7 + 5, none⟩ = some (Value.int IntKind.i64 xa.until_) ∧ (wi.alloc (Obj.cells #[.int .i64 0, .int .i64 0, .int .i64 0, .int .i64 0, .int .i64 0, .int .i64 0, .int .i64 0] 30)).drew.cell? ⟨OB, oo + j * 7 + 6, none⟩ = some (Value.int IntKind.i64 xa.state) := ⟨k1.cell (by rw [blk_cell HDi.out.bb]; rfl), k1.cell (by rw [blk_cell HDi.out.xb]; rfl), k1.cell d0, k1.cell d1, k1.cell d2, k1.cell d3, k1.cell d4, k1.cell d5, k1.cell d6⟩
       have k2 : Gro wi (wi.alloc (Obj.cells #[.int .i64 xa.id, .int .i64 xa.party, .int .i64 xa.side, .int .i64 xa.place, .int .i64 xa.price, .int .i64 xa.until_, .int .i64 xa.state] 30)).drew := ((Gro.refl _).alloc _).drew
       have hS2 : (wi.alloc (Obj.cells #[.int .i64 xa.id, .int .i64 xa.party, .int .i64 xa.side, .int .i64 xa.place, .int .i64 xa.price, .int .i64 xa.until_, .int .i64 xa.state] 30)).drew.cell? ⟨w.heap.size + 1, 2, none⟩ = some (Value.slice (some ⟨OB, oo, none⟩) b.os.length no) ∧ (wi.alloc (Obj.cells #[.int .i64 xa.id, .int .i64 xa.party, .int .i64 xa.side, .int .i64 xa.place, .int .i64 xa.price, .int .i64 xa.until_, .int .i64 xa.state] 30)).drew.cell? ⟨w.heap.size + 1 + 1, 2, none⟩ = some (Value.int IntKind.i64 x2) ∧ (wi.alloc (Obj.cells #[.int .i64 xa.id, .int .i64 xa.party, .int .i64 xa.side, .int .i64 xa.place, .int .i64 xa.price, .int .i64 xa.until_, .int .i64 xa.state] 30)).drew.cell? ⟨OB, oo + j * 7, none⟩ = some (Value.int IntKind.i64 xa.id) ∧ (wi.alloc (Obj.cells #[.int .i64 xa.id, .int .i64 xa.party, .int .i64 xa.side, .int .i64 xa.place, .int .i64 xa.price, .int .i64 xa.until_, .int .i64 xa.state] 30)).drew.cell? ⟨OB, oo + j * 7 + 1, none⟩ = some (Value.int IntKind.i64 xa.party) ∧ (wi.alloc (Obj.cells #[.int .i64 xa.id, .int .i64 xa.party, .int .i64 xa.side, .int .i64 xa.place, .int .i64 xa.price, .int .i64 xa.until_, .int .i64 xa.state] 30)).drew.cell? ⟨OB, oo + j * 7 + 2, none⟩ = some (Value.int IntKind.i64 xa.side) ∧ (wi.alloc (Obj.cells #[.int .i64 xa.id, .int .i64 xa.party, .int .i64 xa.side, .int .i64 xa.place, .int .i64 xa.price, .int .i64 xa.until_, .int .i64 xa.state] 30)).drew.cell? ⟨OB, oo + j * 7 + 3, none⟩ = some (Value.int IntKind.i64 xa.place) ∧ (wi.alloc (Obj.cells #[.int .i64 xa.id, .int .i64 xa.party, .int .i64 xa.side, .int .i64 xa.place, .int .i64 xa.price, .int .i64 xa.until_, .int .i64 xa.state] 30)).drew.cell? ⟨OB, oo + j * 7 + 4, none⟩ = some (Value.int IntKind.i64 xa.price) ∧ (wi.alloc (Obj.cells #[.int .i64 xa.id, .int .i64 xa.party, .int .i64 xa.side, .int .i64 xa.place, .int .i64 xa.price, .int .i64 xa.until_, .int .i64 xa.state] 30)).drew.cell? ⟨OB, oo + j * 7 + 5, none⟩ = some (Value.int IntKind.i64 xa.until_) ∧ (wi.alloc (Obj.cells #[.int .i64 xa.id, .int .i64 xa.party, .int .i64 xa.side, .int .i64 xa.place, .int .i64 xa.price, .int .i64 xa.until_, .int .i64 xa.state] 30)).drew.cell? ⟨OB, oo + j * 7 + 6, none⟩ = some (Value.int IntKind.i64 xa.state) := ⟨k2.cell (by rw [blk_cell HDi.out.bb]; rfl), k2.cell (by rw [blk_cell HDi.out.xb]; rfl), k2.cell d0, k2.cell d1, k2.cell d2, k2.cell d3, k2.cell d4, k2.cell d5, k2.cell d6⟩
       have HDq := yy (HDi.out.step k2)
       have HBq : Hid ((wi.alloc (Obj.cells #[.int .i64 xa.id, .int .i64 xa.party, .int .i64 xa.side, .int .i64 xa.place, .int .i64 xa.price, .int .i64 xa.until_, .int .i64 xa.state] 30)).drew.heap[wi.heap.size]? = some (.cells #[.int .i64 xa.id, .int .i64 xa.party, .int .i64 xa.side, .int .i64 xa.place, .int .i64 xa.price, .int .i64 xa.until_, .int .i64 xa.state] 30 (0, 0))) := yy (show (wi.alloc (Obj.cells #[.int .i64 xa.id, .int .i64 xa.party, .int .i64 xa.side, .int .i64 xa.place, .int .i64 xa.price, .int .i64 xa.until_, .int .i64 xa.state] 30)).heap[wi.heap.size]? = _ from blk_new _ _)
       clear k1 k2 d0 d1 d2 d3 d4 d5 d6 hNN hoc
       go_region_held3 (fun w' => w'.cell? ⟨w.heap.size + 1, 2, none⟩ = some (Value.slice (some ⟨OB, oo, none⟩) b.os.length no) ∧ w'.cell? ⟨w.heap.size + 1 + 1, 2, none⟩ = some (Value.int IntKind.i64 x2) ∧ w'.cell? ⟨OB, oo + j * 7, none⟩ = some (Value.int IntKind.i64 xa.id) ∧ w'.cell? ⟨OB, oo + j * 7 + 1, none⟩ = some (Value.int IntKind.i64 xa.party) ∧ w'.cell? ⟨OB, oo + j * 7 + 2, none⟩ = some (Value.int IntKind.i64 xa.side) ∧ w'.cell? ⟨OB, oo + j * 7 + 3, none⟩ = some (Value.int IntKind.i64 xa.place) ∧ w'.cell? ⟨OB, oo + j * 7 + 4, none⟩ = some (Value.int IntKind.i64 xa.price) ∧ w'.cell? ⟨OB, oo + j * 7 + 5, none⟩ = some (Value.int IntKind.i64 xa.until_) ∧ w'.cell? ⟨OB, oo + j * 7 + 6, none⟩ = some (Value.int IntKind.i64 xa.state))
        (first | with_reducible exact hS0 | with_reducible exact hS1 | with_reducible exact hS2 | go_keep)
        ((go_at_call 48; (with_reducible refine (P29.out _).mono ?_); rintro e w' ⟨rfl, rfl⟩))
       all_goals
        clear hS0 hS1 hS2
        go_wp2_with fail
        go_meet
        exact ⟨wi.heap.size, xa, rfl, hlN, hpr, HDq, HBq⟩⟩
      exact (show Nonempty auxP from inferInstanceAs (Nonempty auxP)).elim id
     case rest =>
     obtain ⟨PA, xa, rfl, hPA, hpa, HD, HA⟩ := hcut
     go_upto_region 22 with fail
     go_cut [15] (fun t wq => ∃ (P : Nat) (x : Ofr), t = .pointer (some ⟨P, 0, none⟩) ∧ N < P ∧ (0 ≤ x.price ∧ x.price ≤ 1000) ∧ Hid (DX w wq g #[Value.slice a1 g.vs.length n1, Value.slice a2 g.es.length n2, Value.slice a3 g.ds.length n3] #[Value.int IntKind.i64 b.round, Value.slice ap b.ps.length np, Value.slice ao b.os.length no, Value.slice aq b.ws.length mq] #[.int .i64 x0, .int .i64 x1, .int .i64 x2, .int .i64 x3, .int .i64 x4, .int .i64 x5] N 270) ∧ Hid (wq.heap[P]? = some (.cells #[.int .i64 x.id, .int .i64 x.party, .int .i64 x.side, .int .i64 x.place, .int .i64 x.price, .int .i64 x.until_, .int .i64 x.state] 30 (0, 0))) ∧ Hid (wq.heap[PA]? = some (.cells #[.int .i64 xa.id, .int .i64 xa.party, .int .i64 xa.side, .int .i64 xa.place, .int .i64 xa.price, .int .i64 xa.until_, .int .i64 xa.state] 30 (0, 0))))
     case first =>
      refine nameGoal fun auxP auxH _ => ?_
      letI auxN : Nonempty auxP := ⟨by
       refine auxH ?_
       obtain ⟨wi, hwi⟩ : ∃ wi, wi = wc := ⟨_, rfl⟩
       rw [← hwi] at HD HA ⊢
       clear hwi
       have HDi := HD
       obtain ⟨OB, oo, hao, hob, hoc⟩ := (LOW.out _ HDi.out.gro).base hkl
       subst hao
       have hwi2 : IntKind.i64.wrap ((k : Int) + y39) = (k : Int) + y39 := by rw [IntKind.wrap_i64]; omega
       obtain ⟨j, hj1, hj2, hj3⟩ := rem_idx ((k : Int) + y39) b.os.length (by omega) (by omega)
       have hn0 : ¬ (b.os.length : Int) = 0 := by omega
       have hn0' : ((b.os.length : Int) == 0) = false := by rw [beq_eq_false_iff_ne]; exact hn0
       have hn1 : ¬ b.os.length = 0 := by omega
       have hn1' : (b.os.length == 0) = false := by rw [beq_eq_false_iff_ne]; exact hn1
       have hn2 : ¬ b.os = [] := fun h => hn1 (by rw [h]; rfl)
       have hwj : IntKind.i64.wrap (j : Int) = j := by rw [IntKind.wrap_i64]; omega
       have hjI : (j : Int) < (b.os.length : Int) := by omega
       have hj0 : (0 : Int) ≤ (j : Int) := by omega
       obtain ⟨d0, d1, d2, d3, d4, d5, d6⟩ := ocells hoc hj3
       have hpr := (okO_inv (HVB.out.oko _ (List.getElem_mem hj3))).2.2.2.2.2.1
       generalize b.os[j] = xb at d0 d1 d2 d3 d4 d5 d6 hpr
       have hlO := World.block_lt_of_cell? _ _ d0
       have hlg := blk_lt HDi.out.gb
       have hlb := blk_lt HDi.out.bb
       have hlx := blk_lt HDi.out.xb
       obtain ⟨_, _, _, _, _, _, _, _, _, _, hNN, _⟩ := HDi.out.nb
       have hlN := blk_lt hNN
       have hS0 : wi.drew.cell? ⟨w.heap.size + 1, 2, none⟩ = some (Value.slice (some ⟨OB, oo, none⟩) b.os.length no) ∧ wi.drew.cell? ⟨w.heap.size + 1 + 1, 3, none⟩ = some (Value.int IntKind.i64 x3) ∧ wi.drew.cell? ⟨OB, oo + j * 7, none⟩ = some (Value.int IntKind.i64 xb.id) ∧ wi.drew.cell? ⟨OB, oo + j * 7 + 1, none⟩ = some (Value.int IntKind.i64 xb.party) ∧ wi.drew.cell? ⟨OB, oo + j * 7 + 2, none⟩ = some (Value.int IntKind.i64 xb.side) ∧ wi.drew.cell? ⟨OB, oo + j * 7 + 3, none⟩ = some (Value.int IntKind.i64 xb.place) ∧ wi.drew.cell? ⟨OB, oo + j * 7 + 4, none⟩ = some (Value.int IntKind.i64 xb.price) ∧ wi.drew.cell? ⟨OB, oo + j * 7 + 5, none⟩ = some (Value.int IntKind.i64 xb.until_) ∧ wi.drew.cell? ⟨OB, oo + j * 7 + 6, none⟩ = some (Value.int IntKind.i64 xb.state) := ⟨(Gro.refl wi).drew.cell (by rw [blk_cell HDi.out.bb]; rfl), (Gro.refl wi).drew.cell (by rw [blk_cell HDi.out.xb]; rfl), (Gro.refl wi).drew.cell d0, (Gro.refl wi).drew.cell d1, (Gro.refl wi).drew.cell d2, (Gro.refl wi).drew.cell d3, (Gro.refl wi).drew.cell d4, (Gro.refl wi).drew.cell d5, (Gro.refl wi).drew.cell d6⟩
       have k1 : Gro wi (wi.alloc (Obj.cells #[.int .i64 0, .int .i64 0, .int .i64 0, .int .i64 0, .int .i64 0, .int .i64 0, .int .i64 0] 30)).drew := ((Gro.refl _).alloc _).drew
       have hS1 : (wi.alloc (Obj.cells #[.int .i64 0, .int .i64 0, .int .i64 0, .int .i64 0, .int .i64 0, .int .i64 0, .int .i64 0] 30)).drew.cell? ⟨w.heap.size + 1, 2, none⟩ = some (Value.slice (some ⟨OB, oo, none⟩) b.os.length no) ∧ (wi.alloc (Obj.cells #[.int .i64 0, .int .i64 0, .int .i64 0, .int .i64 0, .int .i64 0, .int .i64 0, .int .i64 0] 30)).drew.cell? ⟨w.heap.size + 1 + 1, 3, none⟩ = some (Value.int IntKind.i64 x3) ∧ (wi.alloc (Obj.cells #[.int .i64 0, .int .i64 0, .int .i64 0, .int .i64 0, .int .i64 0, .int .i64 0, .int .i64 0] 30)).drew.cell? ⟨OB, oo + j * 7, none⟩ = some (Value.int IntKind.i64 xb.id) ∧ (wi.alloc (Obj.cells #[.int .i64 0, .int .i64 0, .int .i64 0, .int .i64 0, .int .i64 0, .int .i64 0, .int .i64 0] 30)).drew.cell? ⟨OB, oo + j * 7 + 1, none⟩ = some (Value.int IntKind.i64 xb.party) ∧ (wi.alloc (Obj.cells #[.int .i64 0, .int .i64 0, .int .i64 0, .int .i64 0, .int .i64 0, .int .i64 0, .int .i64 0] 30)).drew.cell? ⟨OB, oo + j * 7 + 2, none⟩ = some (Value.int IntKind.i64 xb.side) ∧ (wi.alloc (Obj.cells #[.int .i64 0, .int .i64 0, .int .i64 0, .int .i64 0, .int .i64 0, .int .i64 0, .int .i64 0] 30)).drew.cell? ⟨OB, oo + j * 7 + 3, none⟩ = some (Value.int IntKind.i64 xb.place) ∧ (wi.alloc (Obj.cells #[.int .i64 0, .int .i64 0, .int .i64 0, .int .i64 0, .int .i64 0, .int .i64 0, .int .i64 0] 30)).drew.cell? ⟨OB, oo + j * 7 + 4, none⟩ = some (Value.int IntKind.i64 xb.price) ∧ (wi.alloc (Obj.cells #[.int .i64 0, .int .i64 0, .int .i64 0, .int .i64 0, .int .i64 0, .int .i64 0, .int .i64 0] 30)).drew.cell? ⟨OB, oo + j * 7 + 5, none⟩ = some (Value.int IntKind.i64 xb.until_) ∧ (wi.alloc (Obj.cells #[.int .i64 0, .int .i64 0, .int .i64 0, .int .i64 0, .int .i64 0, .int .i64 0, .int .i64 0] 30)).drew.cell? ⟨OB, oo + j * 7 + 6, none⟩ = some (Value.int IntKind.i64 xb.state) := ⟨k1.cell (by rw [blk_cell HDi.out.bb]; rfl), k1.cell (by rw [blk_cell HDi.out.xb]; rfl), k1.cell d0, k1.cell d1, k1.cell d2, k1.cell d3, k1.cell d4, k1.cell d5, k1.cell d6⟩
       have k2 : Gro wi (wi.alloc (Obj.cells #[.int .i64 xb.id, .int .i64 xb.party, .int .i64 xb.side, .int .i64 xb.place, .int .i64 xb.price, .int .i64 xb.until_, .int .i64 xb.state] 30)).drew := ((Gro.refl _).alloc _).drew
       have hS2 : (wi.alloc (Obj.cells #[.int .i64 xb.id, .int .i64 xb.party, .int .i64 xb.side, .int .i64 xb.place, .int .i64 xb.price, .int .i64 xb.until_, .int .i64 xb.state] 30)).drew.cell? ⟨w.heap.size + 1, 2, none⟩ = some (Value.slice (some ⟨OB, oo, none⟩) b.os.length no) ∧ (wi.alloc (Obj.cells #[.int .i64 xb.id, .int .i64 xb.party, .int .i64 xb.side, .int .i64 xb.place, .int .i64 xb.price, .int .i64 xb.until_, .int .i64 xb.state] 30)).drew.cell? ⟨w.heap.size + 1 + 1, 3, none⟩ = some (Value.int IntKind.i64 x3) ∧ (wi.alloc (Obj.cells #[.int .i64 xb.id, .int .i64 xb.party, .int .i64 xb.side, .int .i64 xb.place, .int .i64 xb.price, .int .i64 xb.until_, .int .i64 xb.state] 30)).drew.cell? ⟨OB, oo + j * 7, none⟩ = some (Value.int IntKind.i64 xb.id) ∧ (wi.alloc (Obj.cells #[.int .i64 xb.id, .int .i64 xb.party, .int .i64 xb.side, .int .i64 xb.place, .int .i64 xb.price, .int .i64 xb.until_, .int .i64 xb.state] 30)).drew.cell? ⟨OB, oo + j * 7 + 1, none⟩ = some (Value.int IntKind.i64 xb.party) ∧ (wi.alloc (Obj.cells #[.int .i64 xb.id, .int .i64 xb.party, .int .i64 xb.side, .int .i64 xb.place, .int .i64 xb.price, .int .i64 xb.until_, .int .i64 xb.state] 30)).drew.cell? ⟨OB, oo + j * 7 + 2, none⟩ = some (Value.int IntKind.i64 xb.side) ∧ (wi.alloc (Obj.cells #[.int .i64 xb.id, .int .i64 xb.party, .int .i64 xb.side, .int .i64 xb.place, .int .i64 xb.price, .int .i64 xb.until_, .int .i64 xb.state] 30)).drew.cell? ⟨OB, oo + j * 7 + 3, none⟩ = some (Value.int IntKind.i64 xb.place) ∧ (wi.alloc (Obj.cells #[.int .i64 xb.id, .int .i64 xb.party, .int .i64 xb.side, .int .i64 xb.place, .int .i64 xb.price, .int .i64 xb.until_, .int .i64 xb.state] 30)).drew.cell? ⟨OB, oo + j * 7 + 4, none⟩ = some (Value.int IntKind.i64 xb.price) ∧ (wi.alloc (Obj.cells #[.int .i64 xb.id, .int .i64 xb.party, .int .i64 xb.side, .int .i64 xb.place, .int .i64 xb.price, .int .i64 xb.until_, .int .i64 xb.state] 30)).drew.cell? ⟨OB, oo + j * 7 + 5, none⟩ = some (Value.int IntKind.i64 xb.until_) ∧ (wi.alloc (Obj.cells #[.int .i64 xb.id, .int .i64 xb.party, .int .i64 xb.side, .int .i64 xb.place, .int .i64 xb.price, .int .i64 xb.until_, .int .i64 xb.state] 30)).drew.cell? ⟨OB, oo + j * 7 + 6, none⟩ = some (Value.int IntKind.i64 xb.state) := ⟨k2.cell (by rw [blk_cell HDi.out.bb]; rfl), k2.cell (by rw [blk_cell HDi.out.xb]; rfl), k2.cell d0, k2.cell d1, k2.cell d2, k2.cell d3, k2.cell d4, k2.cell d5, k2.cell d6⟩
       have HDq := yy (HDi.out.step k2)
       have HBq : Hid ((wi.alloc (Obj.cells #[.int .i64 xb.id, .int .i64 xb.party, .int .i64 xb.side, .int .i64 xb.place, .int .i64 xb.price, .int .i64 xb.until_, .int .i64 xb.state] 30)).drew.heap[wi.heap.size]? = some (.cells #[.int .i64 xb.id, .int .i64 xb.party, .int .i64 xb.side, .int .i64 xb.place, .int .i64 xb.price, .int .i64 xb.until_, .int .i64 xb.state] 30 (0, 0))) := yy (show (wi.alloc (Obj.cells #[.int .i64 xb.id, .int .i64 xb.party, .int .i64 xb.side, .int .i64 xb.place, .int .i64 xb.price, .int .i64 xb.until_, .int .i64 xb.state] 30)).heap[wi.heap.size]? = _ from blk_new _ _)
       have HqHA := yy (k2.blk HA.out)
       clear k1 k2 d0 d1 d2 d3 d4 d5 d6 hNN hoc
       go_region_held3 (fun w' => w'.cell? ⟨w.heap.size + 1, 2, none⟩ = some (Value.slice (some ⟨OB, oo, none⟩) b.os.length no) ∧ w'.cell? ⟨w.heap.size + 1 + 1, 3, none⟩ = some (Value.int IntKind.i64 x3) ∧ w'.cell? ⟨OB, oo + j * 7, none⟩ = some (Value.int IntKind.i64 xb.id) ∧ w'.cell? ⟨OB, oo + j * 7 + 1, none⟩ = some (Value.int IntKind.i64 xb.party) ∧ w'.cell? ⟨OB, oo + j * 7 + 2, none⟩ = some (Value.int IntKind.i64 xb.side) ∧ w'.cell? ⟨OB, oo + j * 7 + 3, none⟩ = some (Value.int IntKind.i64 xb.place) ∧ w'.cell? ⟨OB, oo + j * 7 + 4, none⟩ = some (Value.int IntKind.i64 xb.price) ∧ w'.cell? ⟨OB, oo + j * 7 + 5, none⟩ = some (Value.int IntKind.i64 xb.until_) ∧ w'.cell? ⟨OB, oo + j * 7 + 6, none⟩ = some (Value.int IntKind.i64 xb.state))
        (first | with_reducible exact hS0 | with_reducible exact hS1 | with_reducible exact hS2 | go_keep)
        ((go_at_call 48; (with_reducible refine (P39.out _).mono ?_); rintro e w' ⟨rfl, rfl⟩))
       all_goals
        clear hS0 hS1 hS2
        go_wp2_with fail
        go_meet
        exact ⟨wi.heap.size, xb, rfl, hlN, hpr, HDq, HBq, HqHA⟩⟩
      exact (show Nonempty auxP from inferInstanceAs (Nonempty auxP)).elim id
     case rest =>
     obtain ⟨PB, xb, rfl, hPB, hpb, HD, HB, HA⟩ := hcut
     go_upto_region 23 with fail
     go_cut [16] (fun t wq => ∃ (R : Nat) (we ws wd wt : Int), t = .pointer (some ⟨R, 0, none⟩) ∧ N < R ∧ Hid (DX w wq g #[Value.slice a1 g.vs.length n1, Value.slice a2 g.es.length n2, Value.slice a3 g.ds.length n3] #[Value.int IntKind.i64 b.round, Value.slice ap b.ps.length np, Value.slice ao b.os.length no, Value.slice aq b.ws.length mq] #[.int .i64 x0, .int .i64 x1, .int .i64 x2, .int .i64 x3, .int .i64 x4, .int .i64 x5] N 270) ∧ Hid (wq.heap[R]? = some (.cells #[.int .i64 we, .int .i64 ws, .int .i64 wd, .int .i64 wt] 32 (0, 0))) ∧ Hid (wq.heap[PA]? = some (.cells #[.int .i64 xa.id, .int .i64 xa.party, .int .i64 xa.side, .int .i64 xa.place, .int .i64 xa.price, .int .i64 xa.until_, .int .i64 xa.state] 30 (0, 0))))
     case first =>
      refine nameGoal fun auxP auxH _ => ?_
      letI auxN : Nonempty auxP := ⟨by
       refine auxH ?_
       obtain ⟨wi, hwi⟩ : ∃ wi, wi = wc := ⟨_, rfl⟩
       rw [← hwi] at HD HA HB ⊢
       clear hwi
       have hwd : IntKind.i64.wrap (xa.price - xb.price) = xa.price - xb.price := by rw [IntKind.wrap_i64]; omega
       have hw432 : IntKind.i64.wrap (8 + y432) = 8 + y432 := by rw [IntKind.wrap_i64]; omega
       have hlx := blk_lt HD.out.xb
       have hlA := blk_lt HA.out
       have hlB := blk_lt HB.out
       obtain ⟨_, _, _, _, _, _, _, _, _, _, hNN, _⟩ := HD.out.nb
       have hlN := blk_lt hNN
       have k0 : Gro wi wi.drew := (Gro.refl wi).drew
       have k1 : Gro wi (wi.alloc (Obj.cells #[.int .i64 0, .int .i64 0, .int .i64 0, .int .i64 0] 32)).drew := ((Gro.refl _).alloc _).drew
       have k2 : Gro wi (wi.alloc (Obj.cells #[.int .i64 (8 + y432), .int .i64 xa.id, .int .i64 xb.id, .int .i64 (xa.price - xb.price)] 32)).drew := ((Gro.refl _).alloc _).drew
       have hS0 : wi.drew.cell? ⟨w.heap.size + 1 + 1, 4, none⟩ = some (Value.int IntKind.i64 x4) ∧ wi.drew.cell? ⟨PA, 0, none⟩ = some (Value.int IntKind.i64 xa.id) ∧ wi.drew.cell? ⟨PA, 4, none⟩ = some (Value.int IntKind.i64 xa.price) ∧ wi.drew.cell? ⟨PB, 0, none⟩ = some (Value.int IntKind.i64 xb.id) ∧ wi.drew.cell? ⟨PB, 4, none⟩ = some (Value.int IntKind.i64 xb.price) := ⟨k0.cell (by rw [blk_cell HD.out.xb]; rfl), k0.cell (by rw [blk_cell HA.out]; rfl), k0.cell (by rw [blk_cell HA.out]; rfl), k0.cell (by rw [blk_cell HB.out]; rfl), k0.cell (by rw [blk_cell HB.out]; rfl)⟩
       have hS1 : (wi.alloc (Obj.cells #[.int .i64 0, .int .i64 0, .int .i64 0, .int .i64 0] 32)).drew.cell? ⟨w.heap.size + 1 + 1, 4, none⟩ = some (Value.int IntKind.i64 x4) ∧ (wi.alloc (Obj.cells #[.int .i64 0, .int .i64 0, .int .i64 0, .int .i64 0] 32)).drew.cell? ⟨PA, 0, none⟩ = some (Value.int IntKind.i64 xa.id) ∧ (wi.alloc (Obj.cells #[.int .i64 0, .int .i64 0, .int .i64 0, .int .i64 0] 32)).drew.cell? ⟨PA, 4, none⟩ = some (Value.int IntKind.i64 xa.price) ∧ (wi.alloc (Obj.cells #[.int .i64 0, .int .i64 0, .int .i64 0, .int .i64 0] 32)).drew.cell? ⟨PB, 0, none⟩ = some (Value.int IntKind.i64 xb.id) ∧ (wi.alloc (Obj.cells #[.int .i64 0, .int .i64 0, .int .i64 0, .int .i64 0] 32)).drew.cell? ⟨PB, 4, none⟩ = some (Value.int IntKind.i64 xb.price) := ⟨k1.cell (by rw [blk_cell HD.out.xb]; rfl), k1.cell (by rw [blk_cell HA.out]; rfl), k1.cell (by rw [blk_cell HA.out]; rfl), k1.cell (by rw [blk_cell HB.out]; rfl), k1.cell (by rw [blk_cell HB.out]; rfl)⟩
       have hS2 : (wi.alloc (Obj.cells #[.int .i64 (8 + y432), .int .i64 xa.id, .int .i64 xb.id, .int .i64 (xa.price - xb.price)] 32)).drew.cell? ⟨w.heap.size + 1 + 1, 4, none⟩ = some (Value.int IntKind.i64 x4) ∧ (wi.alloc (Obj.cells #[.int .i64 (8 + y432), .int .i64 xa.id, .int .i64 xb.id, .int .i64 (xa.price - xb.price)] 32)).drew.cell? ⟨PA, 0, none⟩ = some (Value.int IntKind.i64 xa.id) ∧ (wi.alloc (Obj.cells #[.int .i64 (8 + y432), .int .i64 xa.id, .int .i64 xb.id, .int .i64 (xa.price - xb.price)] 32)).drew.cell? ⟨PA, 4, none⟩ = some (Value.int IntKind.i64 xa.price) ∧ (wi.alloc (Obj.cells #[.int .i64 (8 + y432), .int .i64 xa.id, .int .i64 xb.id, .int .i64 (xa.price - xb.price)] 32)).drew.cell? ⟨PB, 0, none⟩ = some (Value.int IntKind.i64 xb.id) ∧ (wi.alloc (Obj.cells #[.int .i64 (8 + y432), .int .i64 xa.id, .int .i64 xb.id, .int .i64 (xa.price - xb.price)] 32)).drew.cell? ⟨PB, 4, none⟩ = some (Value.int IntKind.i64 xb.price) := ⟨k2.cell (by rw [blk_cell HD.out.xb]; rfl), k2.cell (by rw [blk_cell HA.out]; rfl), k2.cell (by rw [blk_cell HA.out]; rfl), k2.cell (by rw [blk_cell HB.out]; rfl), k2.cell (by rw [blk_cell HB.out]; rfl)⟩
       have HDq := yy (HD.out.step k2)
       have HAq := yy (k2.blk HA.out)
       have HRq : Hid ((wi.alloc (Obj.cells #[.int .i64 (8 + y432), .int .i64 xa.id, .int .i64 xb.id, .int .i64 (xa.price - xb.price)] 32)).drew.heap[wi.heap.size]? = some (.cells #[.int .i64 (8 + y432), .int .i64 xa.id, .int .i64 xb.id, .int .i64 (xa.price - xb.price)] 32 (0, 0))) := yy (show (wi.alloc (Obj.cells #[.int .i64 (8 + y432), .int .i64 xa.id, .int .i64 xb.id, .int .i64 (xa.price - xb.price)] 32)).heap[wi.heap.size]? = _ from blk_new _ _)
       clear k0 k1 k2 hNN
       go_region_held3 (fun w' => w'.cell? ⟨w.heap.size + 1 + 1, 4, none⟩ = some (Value.int IntKind.i64 x4) ∧ w'.cell? ⟨PA, 0, none⟩ = some (Value.int IntKind.i64 xa.id) ∧ w'.cell? ⟨PA, 4, none⟩ = some (Value.int IntKind.i64 xa.price) ∧ w'.cell? ⟨PB, 0, none⟩ = some (Value.int IntKind.i64 xb.id) ∧ w'.cell? ⟨PB, 4, none⟩ = some (Value.int IntKind.i64 xb.price))
        (first | with_reducible exact hS0 | with_reducible exact hS1 | with_reducible exact hS2 | go_keep)
        ((go_at_call 48; (with_reducible refine (P432.out _).mono ?_); rintro e w' ⟨rfl, rfl⟩))
       all_goals
        clear hS0 hS1 hS2
        go_wp2_with fail
        go_meet
        exact ⟨wi.heap.size, 8 + y432, xa.id, xb.id, xa.price - xb.price, rfl, hlN, HDq, HRq, HAq⟩⟩
      exact (show Nonempty auxP from inferInstanceAs (Nonempty auxP)).elim id
     case rest =>
     obtain ⟨R, we, ws, wd, wt, rfl, hNR, HD, HR, HA⟩ := hcut
     have hpa2 := blk_cell HA.out 2
     simp only [lPa, lPb, lPc] at hpa2
     have hlA := blk_lt HA.out
     obtain ⟨sd, hsd⟩ : ∃ sd, sd = xa.side := ⟨_, rfl⟩
     rw [← hsd] at hpa2
     clear hsd
     go_upto_if 132 with fail
     clear hpa2 hlA
     go_cut [] (fun wq => ∃ wt2 : Int, Hid (DX w wq g #[Value.slice a1 g.vs.length n1, Value.slice a2 g.es.length n2, Value.slice a3 g.ds.length n3] #[Value.int IntKind.i64 b.round, Value.slice ap b.ps.length np, Value.slice ao b.os.length no, Value.slice aq b.ws.length mq] #[.int .i64 x0, .int .i64 x1, .int .i64 x2, .int .i64 x3, .int .i64 x4, .int .i64 x5] N 270) ∧ Hid (wq.heap[R]? = some (.cells #[.int .i64 we, .int .i64 ws, .int .i64 wd, .int .i64 wt2] 32 (0, 0))))
     case first =>
      refine nameGoal fun auxP auxH _ => ?_
      letI auxN : Nonempty auxP := ⟨by
       refine auxH ?_
       by_cases hs : sd = 3
       ·have hsD : (sd == 3) = true := by simpa using hs
        have cxx := blk_cell HD.out.xb
        have z5 := cxx 5
        have fR := blk_frozen HR.out 3
        have cR := blk_cell HR.out 3
        simp only [lPa, lPb, lPc] at z5 cR
        have hlx := blk_lt HD.out.xb
        have hlR := blk_lt HR.out
        have kk : Kept (· = R) wc (wc.setCell ⟨R, 3, none⟩ (.int .i64 y59)) := (Kept.refl (· = R) wc).setCell (p := ⟨R, 3, none⟩) (.inl rfl) _
        have HDq := yy (HD.out.kept kk hNR)
        have HRq : Hid (∀ W, W = wc.setCell ⟨R, 3, none⟩ (.int .i64 y59) → W.heap[R]? = some (.cells #[.int .i64 we, .int .i64 ws, .int .i64 wd, .int .i64 y59] 32 (0, 0))) := yy (fun W e => by
         rw [e]
         have := blk_set HR.out 3 (.int .i64 y59)
         simpa using this)
        clear cxx kk hs
        go_wp2_with fail
        refine (P59.out _).mono ?_
        rintro e w' ⟨rfl, rfl⟩
        go_wp2_with fail
        go_meet
        exact ⟨y59, HDq, yy (HRq.out _ rfl)⟩
       have hsD : (sd == 3) = false := by simpa using hs
       clear hs
       go_wp2_with fail
       go_meet
       exact ⟨wt, HD, HR⟩⟩
      exact (show Nonempty auxP from inferInstanceAs (Nonempty auxP)).elim id
     case rest =>
     obtain ⟨wt2, HD, HR⟩ := hcut
     have cR := blk_cell HR.out
     have r0c := cR 0
     have r1c := cR 1
     have r2c := cR 2
     have r3c := cR 3
     simp only [lPa, lPb, lPc] at r0c r1c r2c r3c
     have hlR := blk_lt HR.out
     clear cR
     refine nameGoal fun auxP auxH _ => ?_
     letI auxN : Nonempty auxP := ⟨by
      refine auxH ?_
      obtain ⟨ro, d1, l1, m1', d2, l2, m2', d3, l3, m3', hN, _⟩ := HD.out.nb
      have cgg := blk_cell HD.out.gb
      have cbb := blk_cell HD.out.bb
      have g0 := cgg 0
      have g1 := cgg 1
      have g2 := cgg 2
      have s0 := cbb 0
      have s1 := cbb 1
      have s2 := cbb 2
      have s3 := cbb 3
      simp only [lPa, lPb, lPc] at g0 g1 g2 s0 s1 s2 s3
      have hlg := blk_lt HD.out.gb
      have hlb := blk_lt HD.out.bb
      clear cgg cbb
      go_wp2_with fail
      refine (((rwant23 (HGW.out _ HD.out.gro) (HBW.out _ HD.out.gro) HF.out ⟨we, ws, wd, wt2⟩).mono DPost.of).mono ?_)
      rintro e w5 ⟨E', r', b1, k1, c1, b2, k2, c2, b3, k3, c3, rfl, hd, k5⟩
      have hN5 := (k5).blk hN
      have fN := blk_frozen hN5
      have cN := blk_cell hN5
      have fn0 := fN 0
      have fn1 := fN 1
      have fn2 := fN 2
      have fn3 := fN 3
      have nn0 := cN 0
      have nn1 := cN 1
      have nn2 := cN 2
      have nn3 := cN 3
      simp only [lPa, lPb, lPc] at nn0 nn1 nn2 nn3
      have hlN := blk_lt hN5
      clear fN cN hN5
      have HD2 := yy (HD.out.put k5 hd)
      clear hd k5 g0 g1 g2 s0 s1 s2 s3 hlg hlb hN
      go_wp2_with fail
      go_roundw
      case rel => first | exact ⟨k + 1, E', by omega, by go_num, rfl, HD2⟩ | ((repeat apply Exists.intro); exact ⟨⟨by omega, by go_num, rfl, HD2⟩, rfl⟩) | ((repeat apply Exists.intro); exact ⟨⟨_, _, by omega, by go_num, rfl, HD2⟩, rfl⟩) | trace_state
      case measure => simp [intOf]; omega⟩
     exact (show Nonempty auxP from inferInstanceAs (Nonempty auxP)).elim id
    go_wp2_with fail
    go_roundw
    case rel => first | exact ⟨i + 1, E2, by omega, by go_num, rfl, HD⟩ | ((repeat apply Exists.intro); exact ⟨⟨by omega, by go_num, rfl, HD⟩, rfl⟩) | trace_state
    case measure => simp [intOf]; omega
   go_wp2_with fail
   go_meet
   exact ⟨E, rfl, HD⟩
  have h8d := decide_eq_false h8
  rw [h8d]
  clear h8d
  rcases (show v = 8 ∨ v = 9 by omega) with h | h
  ·subst h
   refine nameGoal fun auxP auxH _ => ?_
   letI auxN : Nonempty auxP := ⟨by
    refine auxH ?_
    obtain ⟨ro, d1, l1, m1', d2, l2, m2', d3, l3, m3', hN, _⟩ := HD0.out.nb
    have cgg := blk_cell HD0.out.gb
    have cbb := blk_cell HD0.out.bb
    have g0 := cgg 0
    have g1 := cgg 1
    have g2 := cgg 2
    have s0 := cbb 0
    have s1 := cbb 1
    have s2 := cbb 2
    have s3 := cbb 3
    simp only [lPa, lPb, lPc] at g0 g1 g2 s0 s1 s2 s3
    have hlg := blk_lt HD0.out.gb
    have hlb := blk_lt HD0.out.bb
    clear cgg cbb
    go_wp2_with fail
    refine (((rwithdraw21 (HGW.out _ HD0.out.gro) (HBW.out _ HD0.out.gro) HF.out pt (5 + y2)).mono DPost.of).mono ?_)
    rintro e w5 ⟨E', r', b1, k1, c1, b2, k2, c2, b3, k3, c3, rfl, hd, k5⟩
    have hN5 := (k5).blk hN
    have fN := blk_frozen hN5
    have cN := blk_cell hN5
    have fn0 := fN 0
    have fn1 := fN 1
    have fn2 := fN 2
    have fn3 := fN 3
    have nn0 := cN 0
    have nn1 := cN 1
    have nn2 := cN 2
    have nn3 := cN 3
    simp only [lPa, lPb, lPc] at nn0 nn1 nn2 nn3
    have hlN := blk_lt hN5
    clear fN cN hN5
    have HD2 := yy (HD0.out.put k5 hd)
    clear hd k5 g0 g1 g2 s0 s1 s2 s3 hlg hlb hN
    go_wp2_with fail
    go_meet
    exact ⟨E', rfl, HD2⟩⟩
   exact (show Nonempty auxP from inferInstanceAs (Nonempty auxP)).elim id
  subst h
  obtain ⟨ro, d1, l1, m1', d2, l2, m2', d3, l3, m3', hN, _⟩ := HD0.out.nb
  have cgg := blk_cell HD0.out.gb
  have cbb := blk_cell HD0.out.bb
  have g0 := cgg 0
  have g1 := cgg 1
  have g2 := cgg 2
  have s0 := cbb 0
  have s1 := cbb 1
  have s2 := cbb 2
  have s3 := cbb 3
  simp only [lPa, lPb, lPc] at g0 g1 g2 s0 s1 s2 s3
  have hlg := blk_lt HD0.out.gb
  have hlb := blk_lt HD0.out.bb
  clear cgg cbb
  go_wp2_with fail
  refine (((rnext27 (HGW.out _ HD0.out.gro) (HBW.out _ HD0.out.gro) HF.out).mono DPost.of).mono ?_)
  rintro e w5 ⟨E', r', b1, k1, c1, b2, k2, c2, b3, k3, c3, rfl, hd, k5⟩
  have hN5 := (k5).blk hN
  have fN := blk_frozen hN5
  have cN := blk_cell hN5
  have fn0 := fN 0
  have fn1 := fN 1
  have fn2 := fN 2
  have fn3 := fN 3
  have nn0 := cN 0
  have nn1 := cN 1
  have nn2 := cN 2
  have nn3 := cN 3
  simp only [lPa, lPb, lPc] at nn0 nn1 nn2 nn3
  have hlN := blk_lt hN5
  clear fN cN hN5
  have HD2 := yy (HD0.out.put k5 hd)
  have cxx := blk_cell (k5.blk HD0.out.xb)
  have z1 := cxx 1
  simp only [lPa, lPb, lPc] at z1
  have hlx5 := blk_lt (k5.blk HD0.out.xb)
  have hloN5 := HD0.out.lo
  have hneX5 : ¬ (w.heap.size + 1 + 1 = N) := by omega
  clear cxx
  clear hd k5 g0 g1 g2 s0 s1 s2 s3 hlg hlb hN
  go_wp2_with fail
  refine (P1.out _).mono ?_
  rintro e w7 ⟨rfl, rfl⟩
  obtain ⟨w6, hw6⟩ : ∃ w6, w6 = ((((w5.setCell ⟨N, 0, none⟩ (.int .i64 r')).setCell ⟨N, 1, none⟩ (.slice b1 k1 c1)).setCell ⟨N, 2, none⟩ (.slice b2 k2 c2)).setCell ⟨N, 3, none⟩ (.slice b3 k3 c3)) := ⟨_, rfl⟩
  rw [← hw6] at HD2 ⊢
  clear hw6 z1 nn0 nn1 nn2 nn3 fn0 fn1 fn2 fn3 hlN hlx5
  have hw432 : IntKind.i64.wrap (8 + y432) = 8 + y432 := by rw [IntKind.wrap_i64]; omega
  by_cases hm : m = 0
  ·subst hm
   go_wp2_with fail
   refine nameGoal fun auxP auxH _ => ?_
   letI auxN : Nonempty auxP := ⟨by
    refine auxH ?_
    obtain ⟨ro, d1, l1, m1', d2, l2, m2', d3, l3, m3', hN, _⟩ := HD2.out.nb
    have hloN := HD2.out.lo
    have hneG : ¬ (w.heap.size = N) := by omega
    have hneB : ¬ (w.heap.size + 1 = N) := by omega
    have hneX : ¬ (w.heap.size + 1 + 1 = N) := by omega
    have hS0 : w6.drew.cell? ⟨w.heap.size, 0, none⟩ = some (Value.slice a1 g.vs.length n1) ∧ w6.drew.cell? ⟨w.heap.size, 1, none⟩ = some (Value.slice a2 g.es.length n2) ∧ w6.drew.cell? ⟨w.heap.size, 2, none⟩ = some (Value.slice a3 g.ds.length n3) ∧ w6.drew.cell? ⟨w.heap.size + 1, 0, none⟩ = some (Value.int IntKind.i64 b.round) ∧ w6.drew.cell? ⟨w.heap.size + 1, 1, none⟩ = some (Value.slice ap b.ps.length np) ∧ w6.drew.cell? ⟨w.heap.size + 1, 2, none⟩ = some (Value.slice ao b.os.length no) ∧ w6.drew.cell? ⟨w.heap.size + 1, 3, none⟩ = some (Value.slice aq b.ws.length mq) ∧ w6.drew.cell? ⟨w.heap.size + 1 + 1, 4, none⟩ = some (Value.int IntKind.i64 x4) := ⟨(Gro.refl w6).drew.cell (by rw [blk_cell HD2.out.gb]; rfl), (Gro.refl w6).drew.cell (by rw [blk_cell HD2.out.gb]; rfl), (Gro.refl w6).drew.cell (by rw [blk_cell HD2.out.gb]; rfl), (Gro.refl w6).drew.cell (by rw [blk_cell HD2.out.bb]; rfl), (Gro.refl w6).drew.cell (by rw [blk_cell HD2.out.bb]; rfl), (Gro.refl w6).drew.cell (by rw [blk_cell HD2.out.bb]; rfl), (Gro.refl w6).drew.cell (by rw [blk_cell HD2.out.bb]; rfl), (Gro.refl w6).drew.cell (by rw [blk_cell HD2.out.xb]; rfl)⟩
    have hlg := blk_lt HD2.out.gb
    have hlb := blk_lt HD2.out.bb
    have hlx := blk_lt HD2.out.xb
    go_region_held3 (fun w' => w'.cell? ⟨w.heap.size, 0, none⟩ = some (Value.slice a1 g.vs.length n1) ∧ w'.cell? ⟨w.heap.size, 1, none⟩ = some (Value.slice a2 g.es.length n2) ∧ w'.cell? ⟨w.heap.size, 2, none⟩ = some (Value.slice a3 g.ds.length n3) ∧ w'.cell? ⟨w.heap.size + 1, 0, none⟩ = some (Value.int IntKind.i64 b.round) ∧ w'.cell? ⟨w.heap.size + 1, 1, none⟩ = some (Value.slice ap b.ps.length np) ∧ w'.cell? ⟨w.heap.size + 1, 2, none⟩ = some (Value.slice ao b.os.length no) ∧ w'.cell? ⟨w.heap.size + 1, 3, none⟩ = some (Value.slice aq b.ws.length mq) ∧ w'.cell? ⟨w.heap.size + 1 + 1, 4, none⟩ = some (Value.int IntKind.i64 x4))
     (first | with_reducible exact hS0 | with_reducible exact hS1 | with_reducible exact hS2 | go_keep)
     (first
      | (go_at_call 48; (first | (with_reducible refine (P432.out _).mono ?_)); rintro e w' ⟨rfl, rfl⟩)
      | (go_at_call 25; refine (((rdrop25 (HGW.out _ (HD2.out.gro.trans (Gro.refl _).drew)) (HBW.out _ (HD2.out.gro.trans (Gro.refl _).drew)) HF.out (8 + y432)).mono DPost.of).mono ?_); rintro e w8 ⟨E', r', b1, k1, c1, b2, k2, c2, b3, k3, c3, rfl, hd, k5⟩; have kA : Gro w6 w8 := (Gro.refl w6).drew.trans k5; have hN5 := (kA).blk hN; have fN := blk_frozen hN5; have cN := blk_cell hN5; have fn0 := fN 0; have fn1 := fN 1; have fn2 := fN 2; have fn3 := fN 3; have nn0 := cN 0; have nn1 := cN 1; have nn2 := cN 2; have nn3 := cN 3; simp only [lPa, lPb, lPc] at nn0 nn1 nn2 nn3; have hlN := blk_lt hN5; clear fN cN hN5; have hS1 : w8.cell? ⟨w.heap.size, 0, none⟩ = some (Value.slice a1 g.vs.length n1) ∧ w8.cell? ⟨w.heap.size, 1, none⟩ = some (Value.slice a2 g.es.length n2) ∧ w8.cell? ⟨w.heap.size, 2, none⟩ = some (Value.slice a3 g.ds.length n3) ∧ w8.cell? ⟨w.heap.size + 1, 0, none⟩ = some (Value.int IntKind.i64 b.round) ∧ w8.cell? ⟨w.heap.size + 1, 1, none⟩ = some (Value.slice ap b.ps.length np) ∧ w8.cell? ⟨w.heap.size + 1, 2, none⟩ = some (Value.slice ao b.os.length no) ∧ w8.cell? ⟨w.heap.size + 1, 3, none⟩ = some (Value.slice aq b.ws.length mq) ∧ w8.cell? ⟨w.heap.size + 1 + 1, 4, none⟩ = some (Value.int IntKind.i64 x4) := ⟨k5.cell hS0.1, k5.cell hS0.2.1, k5.cell hS0.2.2.1, k5.cell hS0.2.2.2.1, k5.cell hS0.2.2.2.2.1, k5.cell hS0.2.2.2.2.2.1, k5.cell hS0.2.2.2.2.2.2.1, k5.cell hS0.2.2.2.2.2.2.2⟩; have kk := kept4 (Kept.refl (· = N) w8) (.inl rfl) (.int .i64 r') (.slice b1 k1 c1) (.slice b2 k2 c2) (.slice b3 k3 c3); have hS2 := (show ((((w8.setCell ⟨N, 0, none⟩ (.int .i64 r')).setCell ⟨N, 1, none⟩ (.slice b1 k1 c1)).setCell ⟨N, 2, none⟩ (.slice b2 k2 c2)).setCell ⟨N, 3, none⟩ (.slice b3 k3 c3)).cell? ⟨w.heap.size, 0, none⟩ = some (Value.slice a1 g.vs.length n1) ∧ ((((w8.setCell ⟨N, 0, none⟩ (.int .i64 r')).setCell ⟨N, 1, none⟩ (.slice b1 k1 c1)).setCell ⟨N, 2, none⟩ (.slice b2 k2 c2)).setCell ⟨N, 3, none⟩ (.slice b3 k3 c3)).cell? ⟨w.heap.size, 1, none⟩ = some (Value.slice a2 g.es.length n2) ∧ ((((w8.setCell ⟨N, 0, none⟩ (.int .i64 r')).setCell ⟨N, 1, none⟩ (.slice b1 k1 c1)).setCell ⟨N, 2, none⟩ (.slice b2 k2 c2)).setCell ⟨N, 3, none⟩ (.slice b3 k3 c3)).cell? ⟨w.heap.size, 2, none⟩ = some (Value.slice a3 g.ds.length n3) ∧ ((((w8.setCell ⟨N, 0, none⟩ (.int .i64 r')).setCell ⟨N, 1, none⟩ (.slice b1 k1 c1)).setCell ⟨N, 2, none⟩ (.slice b2 k2 c2)).setCell ⟨N, 3, none⟩ (.slice b3 k3 c3)).cell? ⟨w.heap.size + 1, 0, none⟩ = some (Value.int IntKind.i64 b.round) ∧ ((((w8.setCell ⟨N, 0, none⟩ (.int .i64 r')).setCell ⟨N, 1, none⟩ (.slice b1 k1 c1)).setCell ⟨N, 2, none⟩ (.slice b2 k2 c2)).setCell ⟨N, 3, none⟩ (.slice b3 k3 c3)).cell? ⟨w.heap.size + 1, 1, none⟩ = some (Value.slice ap b.ps.length np) ∧ ((((w8.setCell ⟨N, 0, none⟩ (.int .i64 r')).setCell ⟨N, 1, none⟩ (.slice b1 k1 c1)).setCell ⟨N, 2, none⟩ (.slice b2 k2 c2)).setCell ⟨N, 3, none⟩ (.slice b3 k3 c3)).cell? ⟨w.heap.size + 1, 2, none⟩ = some (Value.slice ao b.os.length no) ∧ ((((w8.setCell ⟨N, 0, none⟩ (.int .i64 r')).setCell ⟨N, 1, none⟩ (.slice b1 k1 c1)).setCell ⟨N, 2, none⟩ (.slice b2 k2 c2)).setCell ⟨N, 3, none⟩ (.slice b3 k3 c3)).cell? ⟨w.heap.size + 1, 3, none⟩ = some (Value.slice aq b.ws.length mq) ∧ ((((w8.setCell ⟨N, 0, none⟩ (.int .i64 r')).setCell ⟨N, 1, none⟩ (.slice b1 k1 c1)).setCell ⟨N, 2, none⟩ (.slice b2 k2 c2)).setCell ⟨N, 3, none⟩ (.slice b3 k3 c3)).cell? ⟨w.heap.size + 1 + 1, 4, none⟩ = some (Value.int IntKind.i64 x4) from ⟨Kept.cell kk hneG hS1.1, Kept.cell kk hneG hS1.2.1, Kept.cell kk hneG hS1.2.2.1, Kept.cell kk hneB hS1.2.2.2.1, Kept.cell kk hneB hS1.2.2.2.2.1, Kept.cell kk hneB hS1.2.2.2.2.2.1, Kept.cell kk hneB hS1.2.2.2.2.2.2.1, Kept.cell kk hneX hS1.2.2.2.2.2.2.2⟩); have HD3 := yy (HD2.out.put kA hd); clear kk kA hd k5))
    clear hS0 hS1 hS2 nn0 nn1 nn2 nn3 fn0 fn1 fn2 fn3 hlN hN
    go_wp2_with fail
    go_meet
    exact ⟨E', rfl, HD3⟩⟩
   exact (show Nonempty auxP from inferInstanceAs (Nonempty auxP)).elim id
  have hmd : ((m : Int) == 0) = false := by simp; omega
  go_wp2_with fail
  go_meet
  exact ⟨E', rfl, HD2⟩
 case rest =>
 obtain ⟨E, rfl, HD⟩ := hcut
 obtain ⟨r, b1, k1, c1, b2, k2, c2, b3, k3, c3, hN, hd⟩ := HD.out.nb
 have BTw := yy HD.out.tb
 have fT := blk_frozen BTw.out
 have cT := blk_cell BTw.out
 have f0 := fT 0
 have f1 := fT 1
 have f2 := fT 2
 have f3 := fT 3
 have t0 := cT 0
 have t1 := cT 1
 have t2 := cT 2
 have t3 := cT 3
 simp only [lPa, lPb, lPc] at t0 t1 t2 t3
 have hlT := blk_lt BTw.out
 clear fT cT
 have hT9 : w.heap.size + 1 + 1 + 1 < wc.heap.size := hlT
 rcases hd with rfl | ⟨rfl, c, hvc, p', o', q', hpe, lp', lo', lq'⟩
 ·skip
  refine nameGoal fun auxP auxH _ => ?_
  letI auxN : Nonempty auxP := ⟨by
   refine auxH ?_
   have cb := blk_cell HD.out.bb
   have m0 := cb 0
   have m1 := cb 1
   have m2 := cb 2
   have m3 := cb 3
   simp only [lPa, lPb, lPc] at m0 m1 m2 m3
   have hlb := blk_lt HD.out.bb
   obtain ⟨p9, o9, q9, e9, hp9, ho9, hq9⟩ := HBW.out _ HD.out.gro
   injection e9 with e9
   simp only [Array.mk.injEq, List.cons.injEq, true_and, and_true] at e9
   obtain ⟨rfl, rfl, rfl⟩ := e9
   have HP9 := yy hp9
   have HO9 := yy ho9
   have HQ9 := yy hq9
   clear cb hN hp9 ho9 hq9
   have B5 := set4 BTw.out (.int .i64 b.round) (.slice ap b.ps.length np) (.slice ao b.os.length no) (.slice aq b.ws.length mq)
   have K5 := kept4 HD.out.gro (.inr (by omega : w.heap.size ≤ w.heap.size + 1 + 1 + 1)) (.int .i64 b.round) (.slice ap b.ps.length np) (.slice ao b.os.length no) (.slice aq b.ws.length mq)
   have K9 := kept4 (Kept.refl (· = w.heap.size + 1 + 1 + 1) wc) (.inl rfl) (.int .i64 b.round) (.slice ap b.ps.length np) (.slice ao b.os.length no) (.slice aq b.ws.length mq)
   have Q0 := yy (HP9.out.farB K9 BTw.out (by decide) (fun x => ⟨x.id, x.budget, rfl, rfl⟩))
   have Q1 := yy (HO9.out.farB K9 BTw.out (by decide) (fun x => ⟨x.id, x.party, rfl, rfl⟩))
   have Q2 := yy (HQ9.out.farB K9 BTw.out (by decide) (fun x => ⟨x.edge, x.src, rfl, rfl⟩))
   have B6 := yy B5
   have K6 := yy K5
   clear B5 K5 K9
   go_wp2_with fail
   (try simp only [Exit.inBlock, Exit.then])
   refine bodyPost_ret (results_cell_tmp_row (p := 6) (u := 7) (ty := 28) rfl _ _ (w.heap.size + 1 + 1 + 1) 28 _ (0, 0) _ rfl B6.out Tryz.underlying28 rfl (by kernel_rfl)) rfl ⟨b, _, _, rfl, HVB.out, ⟨_, _, _, rfl, Q0.out, Q1.out, Q2.out⟩, K6.out⟩⟩
  exact (show Nonempty auxP from inferInstanceAs (Nonempty auxP)).elim id
 skip
 refine nameGoal fun auxP auxH _ => ?_
 letI auxN : Nonempty auxP := ⟨by
  refine auxH ?_
  have cb := blk_cell hN
  have m0 := cb 0
  have m1 := cb 1
  have m2 := cb 2
  have m3 := cb 3
  simp only [lPa, lPb, lPc] at m0 m1 m2 m3
  have hlb := blk_lt hN
  injection hpe with e9
  simp only [Array.mk.injEq, List.cons.injEq, and_true] at e9
  obtain ⟨hcr, rfl, rfl, rfl⟩ := e9
  injection hcr with _ hcr
  subst hcr
  have HP9 := yy lp'
  have HO9 := yy lo'
  have HQ9 := yy lq'
  have HVC := yy hvc
  clear cb hN hvc lp' lo' lq'
  have B5 := set4 BTw.out (.int .i64 c.round) (.slice b1 k1 c1) (.slice b2 k2 c2) (.slice b3 k3 c3)
  have K5 := kept4 HD.out.gro (.inr (by omega : w.heap.size ≤ w.heap.size + 1 + 1 + 1)) (.int .i64 c.round) (.slice b1 k1 c1) (.slice b2 k2 c2) (.slice b3 k3 c3)
  have K9 := kept4 (Kept.refl (· = w.heap.size + 1 + 1 + 1) wc) (.inl rfl) (.int .i64 c.round) (.slice b1 k1 c1) (.slice b2 k2 c2) (.slice b3 k3 c3)
  have Q0 := yy (HP9.out.farB K9 BTw.out (by decide) (fun x => ⟨x.id, x.budget, rfl, rfl⟩))
  have Q1 := yy (HO9.out.farB K9 BTw.out (by decide) (fun x => ⟨x.id, x.party, rfl, rfl⟩))
  have Q2 := yy (HQ9.out.farB K9 BTw.out (by decide) (fun x => ⟨x.edge, x.src, rfl, rfl⟩))
  have B6 := yy B5
  have K6 := yy K5
  clear B5 K5 K9
  go_wp2_with fail
  (try simp only [Exit.inBlock, Exit.then])
  refine bodyPost_ret (results_cell_tmp_row (p := 6) (u := 7) (ty := 28) rfl _ _ (w.heap.size + 1 + 1 + 1) 28 _ (0, 0) _ rfl B6.out Tryz.underlying28 rfl (by kernel_rfl)) rfl ⟨c, _, _, rfl, HVC.out, ⟨_, _, _, rfl, Q0.out, Q1.out, Q2.out⟩, K6.out⟩⟩
 exact (show Nonempty auxP from inferInstanceAs (Nonempty auxP)).elim id
end Go.Proofs.YthfagcdjbmhhcaaGreat
