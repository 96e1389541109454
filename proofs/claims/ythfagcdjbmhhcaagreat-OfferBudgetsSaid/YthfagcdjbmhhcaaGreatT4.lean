/- OfferBudgets. -/
import Derived.Test.YthfagcdjbmhhcaaGreatK27
set_option linter.unusedVariables false
set_option linter.unusedSimpArgs false
namespace Go.Proofs.YthfagcdjbmhhcaaGreat
open Go.RowKit
attribute [local irreducible] wpQuiet
/-- what a call of the package comes to: refused, with an empty book; or a valid book -/
def NR (g : Gr) (w : World) (E r : Int) (e1 : Option Addr) (m1 d1 : Nat) (e2 : Option Addr) (m2 d2 : Nat) (e3 : Option Addr) (m3 d3 : Nat) : Prop :=
 (E = 270 ∧ r = 0 ∧ (e1 = none ∧ m1 = 0 ∧ d1 = 0) ∧ (e2 = none ∧ m2 = 0 ∧ d2 = 0) ∧ (e3 = none ∧ m3 = 0 ∧ d3 = 0)) ∨
 (E = 0 ∧ ∃ c, VB g c ∧ c.round = r ∧ BkV w (.agg #[.int .i64 r, .slice e1 m1 d1, .slice e2 m2 d2, .slice e3 m3 d3]) c)
theorem NR.gro {g : Gr} {w w' : World} {E r : Int} {e1 e2 e3 : Option Addr} {m1 m2 m3 d1 d2 d3 : Nat} (h : NR g w E r e1 m1 d1 e2 m2 d2 e3 m3 d3) (k : Gro w w') : NR g w' E r e1 m1 d1 e2 m2 d2 e3 m3 d3 :=
 h.imp id (fun ⟨h1, c, h2, h3, h4⟩ => ⟨h1, c, h2, h3, h4.gro k⟩)
theorem NR.far {g : Gr} {w w' : World} {E r : Int} {e1 e2 e3 : Option Addr} {m1 m2 m3 d1 d2 d3 : Nat} (h : NR g w E r e1 m1 d1 e2 m2 d2 e3 m3 d3) {T : Nat} (k : Kept (· = T) w w') {fr : Nat × Nat} {x0 : Value} {t : TypeId} {a1 a2 a3 : Option Addr} {n1 n2 n3 c1 c2 c3 : Nat} (hT : w.heap[T]? = some (.cells #[x0, .slice a1 n1 c1, .slice a2 n2 c2, .slice a3 n3 c3] t fr)) : NR g w' E r e1 m1 d1 e2 m2 d2 e3 m3 d3 :=
 h.imp id (fun ⟨h1, c, h2, h3, h4⟩ => ⟨h1, c, h2, h3, h4.far k hT⟩)
def NPost (g : Gr) (w : World) (e : Ending) (w' : World) : Prop := ∃ (E : Int) (r : Int) (e1 : Option Addr) (m1 d1 : Nat) (e2 : Option Addr) (m2 d2 : Nat) (e3 : Option Addr) (m3 d3 : Nat), e = .returned (.tuple #[.agg #[.int .i64 r, .slice e1 m1 d1, .slice e2 m2 d2, .slice e3 m3 d3], .int .i64 E]) ∧ NR g w' E r e1 m1 d1 e2 m2 d2 e3 m3 d3 ∧ Gro w w'
theorem NPost.of {g : Gr} {b : Bk} {q : Option Bk} {w : World} (e : Ending) (w' : World) (h : ChPost w (chk g b q) e w') : NPost g w e w' := by
 obtain ⟨k, ⟨b2, vv, hr, rfl, p, o, q, rfl, ⟨a1, c1, rfl, l1⟩, ⟨a2, c2, rfl, l2⟩, ⟨a3, c3, rfl, l3⟩⟩ | ⟨_, rfl⟩⟩ := h
 ·exact ⟨0, b2.round, a1, _, c1, a2, _, c2, a3, _, c3, rfl, .inr ⟨rfl, b2, chk_VB hr, rfl, _, _, _, rfl, ⟨_, _, rfl, l1⟩, ⟨_, _, rfl, l2⟩, ⟨_, _, rfl, l3⟩⟩, k⟩
 ·exact ⟨270, 0, none, 0, 0, none, 0, 0, none, 0, 0, rfl, .inl ⟨rfl, rfl, ⟨rfl, rfl, rfl⟩, ⟨rfl, rfl, rfl⟩, ⟨rfl, rfl, rfl⟩⟩, k⟩
set_option maxHeartbeats 40000000 in
set_option maxRecDepth 100000 in
theorem budgets4 {w : World} (n : Int) (hn : I64 n) {lv : Value} {l : List A5} (hl : LV w lv l) (hlo : ∀ x ∈ l, x.ok) (m : Int) (hm : I64 m) {xv : Value} {xs : List A6} (hx : LV w xv xs) (hxo : ∀ x ∈ xs, x.ok) {yv : Value} {ys : List A6} (hy : LV w yv ys) (hyo : ∀ x ∈ ys, x.ok) : Calls Tryz.prog 4 #[.int .i64 n, lv, .int .i64 m, xv, yv] w (Truth w) := by
 have hmix := mixed
 have HN := Lib.hid hn
 have HLO := Lib.hid hlo
 have HM := Lib.hid hm
 have HXO := Lib.hid hxo
 have HL : Hid (∀ W, Gro w W → LV W lv l) := Lib.hid (fun W hW => hl.gro hW)
 have HX : Hid (∀ W, Gro w W → LV W xv xs) := Lib.hid (fun W hW => hx.gro hW)
 obtain ⟨la, lc, rfl, _⟩ := hl
 obtain ⟨xa, xc, rfl, _⟩ := hx
 clear hn hlo hm hxo
 have HYO := Lib.hid hyo
 have HY : Hid (∀ W, Gro w W → LV W yv ys) := Lib.hid (fun W hW => hy.gro hW)
 obtain ⟨ya, yc, rfl, hyl⟩ := hy
 have hybig := hyl.big
 have HYL := Lib.hid hyl
 clear hyo hyl
 go_enter Tryz.func4, Tryz.ntmps4
 go_wp2_with fail
 refine ((sane9 w).mono (fun e w' h => (show e = .returned (.bool true) ∧ Gro w w' from h))).mono ?_
 rintro _ w1 ⟨rfl, k1⟩
 go_wp2_with fail
 refine (roads10 n HN.out (HL.out _ k1) HLO.out).mono ?_
 rintro _ w2 ⟨vg, g, rfl, hG, hVG, hs0, hpos, k2⟩
 obtain ⟨g1, gc1, g2, gc2, g3, gc3, rfl⟩ := hG.open
 have K2 := Lib.hid (k1.trans k2)
 have HG := Lib.hid hG
 have HVG := Lib.hid hVG
 have HS0 := Lib.hid hs0
 have HPOS := Lib.hid hpos
 clear k1 k2 hG hVG hs0 hpos
 go_wp2_with fail
 obtain ⟨W3, hW3⟩ : ∃ W3, W3 = w2.alloc (Obj.cells #[.slice g1 g.vs.length gc1, .slice g2 g.es.length gc2, .slice g3 g.ds.length gc3] 38) := ⟨_, rfl⟩
 have k3 : Gro w2 W3 := by rw [hW3]; exact (Gro.refl _).alloc _
 have b3 : W3.heap[w2.heap.size]? = some (.cells #[.slice g1 g.vs.length gc1, .slice g2 g.es.length gc2, .slice g3 g.ds.length gc3] 38 (0, 0)) := by rw [hW3]; exact blk_new _ _
 rw [← hW3]
 have K3 := Lib.hid k3
 have B3 := Lib.hid b3
 clear hW3 k3 b3
 refine (made11 (HG.out.gro K3.out) HVG.out HS0.out HPOS.out m HM.out (HX.out _ (K2.out.trans K3.out)) HXO.out).mono ?_
 rintro _ w4 ⟨v, b, rfl, hv, hb, k4⟩
 obtain ⟨a1, c1, a2, c2, a3, c3, rfl⟩ := hb.open
 have hLB : Hid (∀ W X, W = w4.alloc (Obj.cells #[.int .i64 b.round, .slice a1 b.ps.length c1, .slice a2 b.os.length c2, .slice a3 b.ws.length c3] 28) → X = w4.heap.size → LB w w2 W g #[.slice g1 g.vs.length gc1, .slice g2 g.es.length gc2, .slice g3 g.ds.length gc3] w2.heap.size X b a1 b.ps.length c1 a2 b.os.length c2 a3 b.ws.length c3) := Lib.hid (fun W X e1 e2 => by
  have kW : Gro w4 W := by rw [e1]; exact (Gro.refl _).alloc _
  have h3 := blk_lt (k4.blk B3.out)
  exact ⟨kW.blk (k4.blk B3.out), by rw [e1, e2]; exact blk_new _ _, hb.gro kW, hv, (((K3.out.trans k4).trans kW).kept _), ((K2.out.trans K3.out).trans k4).trans kW, K2.out.size, Nat.le_refl _, by omega⟩)
 have K4 := Lib.hid (K3.out.trans k4)
 have R4 := Lib.hid (k4.blk B3.out)
 clear hv hb k4
 go_wp2_with fail
 obtain ⟨W5, hW5⟩ : ∃ W5, W5 = w4.alloc (Obj.cells #[.int .i64 b.round, .slice a1 b.ps.length c1, .slice a2 b.os.length c2, .slice a3 b.ws.length c3] 28) := ⟨_, rfl⟩
 have HB := Lib.hid (hLB.out W5 _ hW5 rfl)
 rw [← hW5]
 clear hW5 hLB
 generalize w4.heap.size = X at HB ⊢
 go_loopw [14] (fun t wr => ∃ (i : Nat) (b : Bk) (a1 : Option Addr) (n1 c1 : Nat) (a2 : Option Addr) (n2 c2 : Nat) (a3 : Option Addr) (n3 c3 : Nat), i ≤ ys.length ∧ i ≤ 8 ∧ t = .int .i64 i ∧ Hid (LB w w2 wr g #[.slice g1 g.vs.length gc1, .slice g2 g.es.length gc2, .slice g3 g.ds.length gc3] w2.heap.size X b a1 n1 c1 a2 n2 c2 a3 n3 c3)) (fun t _ => ys.length - (intOf t).toNat)
 case atStart => exact ⟨0, b, _, _, _, _, _, _, _, _, _, Nat.zero_le _, Nat.zero_le _, by go_num, HB⟩
 case round =>
  clear HB K3 B3 K4
  obtain ⟨i, b, a1, n1, c1, a2, n2, c2, a3, n3, c3, hi, hi8, rfl, HB⟩ := hrel
  by_cases hlt : i < ys.length ∧ i < 8
  ·obtain ⟨hlt1, hlt8⟩ := hlt
   have hd8 := decide_eq_true (show (i : Int) < 8 by omega)
   obtain ⟨YB, yo, rfl, hYB, hYc⟩ := HYL.out.base hlt1
   obtain ⟨d0, d1, d2, d3, d4, d5⟩ := acells6 hYc hlt1
   have hxx := HYO.out _ (List.getElem_mem hlt1)
   generalize ys[i] = x at d0 d1 d2 d3 d4 d5 hxx
   obtain ⟨y0, y1, y2, y3, y4, y5⟩ := x
   obtain ⟨ry0, ry1, ry2, ry3, ry4, ry5⟩ := hxx
   simp only at d0 d1 d2 d3 d4 d5 ry0 ry1 ry2 ry3 ry4 ry5
   have D0 := Lib.hid (fun W (hW : Gro w W) => hW.cell d0)
   have D3 := Lib.hid (fun W (hW : Gro w W) => hW.cell d3)
   have D4 := Lib.hid (fun W (hW : Gro w W) => hW.cell d4)
   have D5 := Lib.hid (fun W (hW : Gro w W) => hW.cell d5)
   have hgr := HB.out.gro
   have d0 := hgr.cell d0
   have d1 := hgr.cell d1
   have d2 := hgr.cell d2
   have d3 := hgr.cell d3
   have d4 := hgr.cell d4
   have d5 := hgr.cell d5
   have hlY := World.block_lt_of_cell? _ _ d0
   have P0 := Lib.hid (fun W => pick36 (w := W) y0 4 ry0 (by omega))
   have P1 := Lib.hid (fun W => pick36 (w := W) y1 19 ry1 (by omega))
   have P2 := Lib.hid (fun W => pick36 (w := W) y2 3 ry2 (by omega))
   have P3 := Lib.hid (fun W => pick36 (w := W) y3 2 ry3 (by omega))
   have P4 := Lib.hid (fun W => pick36 (w := W) y4 120 ry4 (by omega))
   have P5 := Lib.hid (fun W => pick36 (w := W) y5 3 ry5 (by omega))
   have q1 := pk_range (c := y1) (n := 19) (by omega)
   have q2 := pk_range (c := y2) (n := 3) (by omega)
   have q3 := pk_range (c := y3) (n := 2) (by omega)
   have q5 := pk_range (c := y5) (n := 3) (by omega)
   generalize pk y0 4 = k0 at P0
   generalize pk y1 19 = k1 at P1 q1
   generalize pk y2 3 = k2 at P2 q2
   generalize pk y3 2 = k3 at P3 q3
   generalize pk y4 120 = k4 at P4
   generalize pk y5 3 = k5 at P5 q5
   have hw1 : IntKind.i64.wrap (5 + k1) = 5 + k1 := by rw [IntKind.wrap_i64]; omega
   have hw3 : IntKind.i64.wrap (1 + k3) = 1 + k3 := by rw [IntKind.wrap_i64]; omega
   have hrd := inB_iff.1 HB.out.vb.rd
   have hw5 : IntKind.i64.wrap (b.round + k5) = b.round + k5 := by rw [IntKind.wrap_i64]; omega
   obtain ⟨un, hun⟩ : ∃ un : Int, (if b.round + k5 < 30 then b.round + k5 else (30 : Int)) = un := ⟨_, rfl⟩
   have HUN := Lib.hid hun
   clear ry0 ry1 ry2 ry3 ry4 ry5 hgr hYc q1 hrd hun
   go_wp2_with fail
   refine (P1.out _).mono ?_
   rintro _ wq ⟨rfl, rfl⟩
   go_wp2_with fail
   obtain ⟨WP, hWP⟩ : ∃ WP, WP = wq.alloc (Obj.cells #[.int .i64 0, .int .i64 2, .int .i64 5] 3) := ⟨_, rfl⟩
   have kP : Gro wq WP := by rw [hWP]; exact (Gro.refl _).alloc _
   have bP : WP.heap[wq.heap.size]? = some (.cells #[.int .i64 0, .int .i64 2, .int .i64 5] 3 (0, 0)) := by rw [hWP]; exact blk_new _ _
   rw [← hWP]
   obtain ⟨mm, rfl⟩ : ∃ mm : Nat, k2 = mm := ⟨k2.toNat, by omega⟩
   obtain ⟨pt, hpt⟩ : ∃ pt : Int, WP.cell? ⟨wq.heap.size, mm, none⟩ = some (.int .i64 pt) := by
    rw [blk_cell bP]
    have : mm = 0 ∨ mm = 1 ∨ mm = 2 := by omega
    rcases this with rfl | rfl | rfl
    ·exact ⟨0, rfl⟩
    ·exact ⟨2, rfl⟩
    ·exact ⟨5, rfl⟩
   have hlP := blk_lt bP
   have HB1 := Lib.hid (HB.out.step kP)
   clear hWP kP bP d0 d1 d2 d3 d4 d5 hlY HB
   refine (P2.out _).mono ?_
   rintro _ wp ⟨rfl, rfl⟩
   clear P1 P2
   go_upto_region 11 with fail
   clear hpt hlP
   go_cut [17, 18] (fun t u wx => ∃ (N : Nat) (E : Int) (r : Int) (e1 : Option Addr) (m1 d1 : Nat) (e2 : Option Addr) (m2 d2 : Nat) (e3 : Option Addr) (m3 d3 : Nat), t = .pointer (some ⟨N, 0, none⟩) ∧ u = .int .i64 E ∧ X < N ∧ Hid (LB w w2 wx g #[.slice g1 g.vs.length gc1, .slice g2 g.es.length gc2, .slice g3 g.ds.length gc3] w2.heap.size X b a1 n1 c1 a2 n2 c2 a3 n3 c3) ∧ Hid (wx.heap[N]? = some (.cells #[.int .i64 r, .slice e1 m1 d1, .slice e2 m2 d2, .slice e3 m3 d3] 28 (0, 0))) ∧ Hid (NR g wx E r e1 m1 d1 e2 m2 d2 e3 m3 d3))
   case first =>
    have hun := HUN.out
    have cR := blk_cell HB1.out.rb
    have cX := blk_cell HB1.out.xb
    have z0 := cR 0
    have z1 := cR 1
    have z2 := cR 2
    have z3 := cX 0
    have z4 := cX 1
    have z5 := cX 2
    have z6 := cX 3
    simp only [lPa, lPb, lPc] at z0 z1 z2 z3 z4 z5 z6
    have hlR := blk_lt HB1.out.rb
    have hlX := blk_lt HB1.out.xb
    clear cR cX
    have z7 := D3.out _ HB1.out.gro
    have z8 := D4.out _ HB1.out.gro
    have z9 := D5.out _ HB1.out.gro
    have hlY := World.block_lt_of_cell? _ _ z7
    have k0 : Gro wp wp.drew := (Gro.refl wp).drew
    have kA : Gro wp (wp.alloc (Obj.cells #[.int .i64 0, .slice none 0 0, .slice none 0 0, .slice none 0 0] 28)).drew := ((Gro.refl wp).alloc _).drew
    have hS0 : wp.drew.cell? ⟨w2.heap.size, 0, none⟩ = some (Value.slice g1 g.vs.length gc1) ∧ wp.drew.cell? ⟨w2.heap.size, 1, none⟩ = some (Value.slice g2 g.es.length gc2) ∧ wp.drew.cell? ⟨w2.heap.size, 2, none⟩ = some (Value.slice g3 g.ds.length gc3) ∧ wp.drew.cell? ⟨X, 0, none⟩ = some (Value.int IntKind.i64 b.round) ∧ wp.drew.cell? ⟨X, 1, none⟩ = some (Value.slice a1 n1 c1) ∧ wp.drew.cell? ⟨X, 2, none⟩ = some (Value.slice a2 n2 c2) ∧ wp.drew.cell? ⟨X, 3, none⟩ = some (Value.slice a3 n3 c3) ∧ wp.drew.cell? ⟨YB, yo + i * 6 + 3, none⟩ = some (Value.int IntKind.i64 y3) ∧ wp.drew.cell? ⟨YB, yo + i * 6 + 4, none⟩ = some (Value.int IntKind.i64 y4) ∧ wp.drew.cell? ⟨YB, yo + i * 6 + 5, none⟩ = some (Value.int IntKind.i64 y5) := ⟨k0.cell z0, k0.cell z1, k0.cell z2, k0.cell z3, k0.cell z4, k0.cell z5, k0.cell z6, k0.cell z7, k0.cell z8, k0.cell z9⟩
    have hSA : (wp.alloc (Obj.cells #[.int .i64 0, .slice none 0 0, .slice none 0 0, .slice none 0 0] 28)).drew.cell? ⟨w2.heap.size, 0, none⟩ = some (Value.slice g1 g.vs.length gc1) ∧ (wp.alloc (Obj.cells #[.int .i64 0, .slice none 0 0, .slice none 0 0, .slice none 0 0] 28)).drew.cell? ⟨w2.heap.size, 1, none⟩ = some (Value.slice g2 g.es.length gc2) ∧ (wp.alloc (Obj.cells #[.int .i64 0, .slice none 0 0, .slice none 0 0, .slice none 0 0] 28)).drew.cell? ⟨w2.heap.size, 2, none⟩ = some (Value.slice g3 g.ds.length gc3) ∧ (wp.alloc (Obj.cells #[.int .i64 0, .slice none 0 0, .slice none 0 0, .slice none 0 0] 28)).drew.cell? ⟨X, 0, none⟩ = some (Value.int IntKind.i64 b.round) ∧ (wp.alloc (Obj.cells #[.int .i64 0, .slice none 0 0, .slice none 0 0, .slice none 0 0] 28)).drew.cell? ⟨X, 1, none⟩ = some (Value.slice a1 n1 c1) ∧ (wp.alloc (Obj.cells #[.int .i64 0, .slice none 0 0, .slice none 0 0, .slice none 0 0] 28)).drew.cell? ⟨X, 2, none⟩ = some (Value.slice a2 n2 c2) ∧ (wp.alloc (Obj.cells #[.int .i64 0, .slice none 0 0, .slice none 0 0, .slice none 0 0] 28)).drew.cell? ⟨X, 3, none⟩ = some (Value.slice a3 n3 c3) ∧ (wp.alloc (Obj.cells #[.int .i64 0, .slice none 0 0, .slice none 0 0, .slice none 0 0] 28)).drew.cell? ⟨YB, yo + i * 6 + 3, none⟩ = some (Value.int IntKind.i64 y3) ∧ (wp.alloc (Obj.cells #[.int .i64 0, .slice none 0 0, .slice none 0 0, .slice none 0 0] 28)).drew.cell? ⟨YB, yo + i * 6 + 4, none⟩ = some (Value.int IntKind.i64 y4) ∧ (wp.alloc (Obj.cells #[.int .i64 0, .slice none 0 0, .slice none 0 0, .slice none 0 0] 28)).drew.cell? ⟨YB, yo + i * 6 + 5, none⟩ = some (Value.int IntKind.i64 y5) := ⟨kA.cell z0, kA.cell z1, kA.cell z2, kA.cell z3, kA.cell z4, kA.cell z5, kA.cell z6, kA.cell z7, kA.cell z8, kA.cell z9⟩
    have hXw : X < wp.heap.size := hlX
    have hRX := HB1.out.lox
    have hYw : YB < w.heap.size := hYB
    have hlw := HB1.out.low
    have hnR : ¬ (w2.heap.size = wp.heap.size) := by omega
    have hnX : ¬ (X = wp.heap.size) := by omega
    have hnY : ¬ (YB = wp.heap.size) := by omega
    have HGV : Hid (∀ W, Gro wp W → GrV W (.agg #[.slice g1 g.vs.length gc1, .slice g2 g.es.length gc2, .slice g3 g.ds.length gc3]) g) := Lib.hid (fun W hW => HG.out.old (HB1.out.step hW).kp)
    have HBV : Hid (∀ W, Gro wp W → BkV W (.agg #[.int .i64 b.round, .slice a1 n1 c1, .slice a2 n2 c2, .slice a3 n3 c3]) b) := Lib.hid (fun W hW => HB1.out.bv.gro hW)
    have HF := Lib.hid (HB1.out.vb.fits)
    go_region_held3 (fun w' => w'.cell? ⟨w2.heap.size, 0, none⟩ = some (Value.slice g1 g.vs.length gc1) ∧ w'.cell? ⟨w2.heap.size, 1, none⟩ = some (Value.slice g2 g.es.length gc2) ∧ w'.cell? ⟨w2.heap.size, 2, none⟩ = some (Value.slice g3 g.ds.length gc3) ∧ w'.cell? ⟨X, 0, none⟩ = some (Value.int IntKind.i64 b.round) ∧ w'.cell? ⟨X, 1, none⟩ = some (Value.slice a1 n1 c1) ∧ w'.cell? ⟨X, 2, none⟩ = some (Value.slice a2 n2 c2) ∧ w'.cell? ⟨X, 3, none⟩ = some (Value.slice a3 n3 c3) ∧ w'.cell? ⟨YB, yo + i * 6 + 3, none⟩ = some (Value.int IntKind.i64 y3) ∧ w'.cell? ⟨YB, yo + i * 6 + 4, none⟩ = some (Value.int IntKind.i64 y4) ∧ w'.cell? ⟨YB, yo + i * 6 + 5, none⟩ = some (Value.int IntKind.i64 y5))
     (first | with_reducible exact hS0 | with_reducible exact hSA | with_reducible exact hS1 | with_reducible exact hS2 | with_reducible exact hS3 | with_reducible exact hS4 | go_keep)
     (first
      | (go_at_call 36; (first | (with_reducible refine (P3.out _).mono ?_) | (with_reducible refine (P4.out _).mono ?_) | (with_reducible refine (P5.out _).mono ?_)); rintro e w' ⟨rfl, rfl⟩)
      | (go_at_call 18; refine ((add18 (HGV.out _ (by first | exact k0 | exact kA)) (HBV.out _ (by first | exact k0 | exact kA)) HF.out ⟨5 + k1, pt, 1 + k3, 0, k4, _, 1⟩).mono NPost.of).mono ?_; rintro _ w5 ⟨E, r, e1, m1, d1, e2, m2, d2, e3, m3, d3, rfl, hnr, kx⟩; have kz : Gro wp w5 := (by first | exact k0.trans kx | exact kA.trans kx); have hS1 : w5.cell? ⟨w2.heap.size, 0, none⟩ = some (Value.slice g1 g.vs.length gc1) ∧ w5.cell? ⟨w2.heap.size, 1, none⟩ = some (Value.slice g2 g.es.length gc2) ∧ w5.cell? ⟨w2.heap.size, 2, none⟩ = some (Value.slice g3 g.ds.length gc3) ∧ w5.cell? ⟨X, 0, none⟩ = some (Value.int IntKind.i64 b.round) ∧ w5.cell? ⟨X, 1, none⟩ = some (Value.slice a1 n1 c1) ∧ w5.cell? ⟨X, 2, none⟩ = some (Value.slice a2 n2 c2) ∧ w5.cell? ⟨X, 3, none⟩ = some (Value.slice a3 n3 c3) ∧ w5.cell? ⟨YB, yo + i * 6 + 3, none⟩ = some (Value.int IntKind.i64 y3) ∧ w5.cell? ⟨YB, yo + i * 6 + 4, none⟩ = some (Value.int IntKind.i64 y4) ∧ w5.cell? ⟨YB, yo + i * 6 + 5, none⟩ = some (Value.int IntKind.i64 y5) := ⟨kz.cell z0, kz.cell z1, kz.cell z2, kz.cell z3, kz.cell z4, kz.cell z5, kz.cell z6, kz.cell z7, kz.cell z8, kz.cell z9⟩; have hS3 : (w5.alloc (Obj.cells #[.int .i64 0, .slice none 0 0, .slice none 0 0, .slice none 0 0] 28)).cell? ⟨w2.heap.size, 0, none⟩ = some (Value.slice g1 g.vs.length gc1) ∧ (w5.alloc (Obj.cells #[.int .i64 0, .slice none 0 0, .slice none 0 0, .slice none 0 0] 28)).cell? ⟨w2.heap.size, 1, none⟩ = some (Value.slice g2 g.es.length gc2) ∧ (w5.alloc (Obj.cells #[.int .i64 0, .slice none 0 0, .slice none 0 0, .slice none 0 0] 28)).cell? ⟨w2.heap.size, 2, none⟩ = some (Value.slice g3 g.ds.length gc3) ∧ (w5.alloc (Obj.cells #[.int .i64 0, .slice none 0 0, .slice none 0 0, .slice none 0 0] 28)).cell? ⟨X, 0, none⟩ = some (Value.int IntKind.i64 b.round) ∧ (w5.alloc (Obj.cells #[.int .i64 0, .slice none 0 0, .slice none 0 0, .slice none 0 0] 28)).cell? ⟨X, 1, none⟩ = some (Value.slice a1 n1 c1) ∧ (w5.alloc (Obj.cells #[.int .i64 0, .slice none 0 0, .slice none 0 0, .slice none 0 0] 28)).cell? ⟨X, 2, none⟩ = some (Value.slice a2 n2 c2) ∧ (w5.alloc (Obj.cells #[.int .i64 0, .slice none 0 0, .slice none 0 0, .slice none 0 0] 28)).cell? ⟨X, 3, none⟩ = some (Value.slice a3 n3 c3) ∧ (w5.alloc (Obj.cells #[.int .i64 0, .slice none 0 0, .slice none 0 0, .slice none 0 0] 28)).cell? ⟨YB, yo + i * 6 + 3, none⟩ = some (Value.int IntKind.i64 y3) ∧ (w5.alloc (Obj.cells #[.int .i64 0, .slice none 0 0, .slice none 0 0, .slice none 0 0] 28)).cell? ⟨YB, yo + i * 6 + 4, none⟩ = some (Value.int IntKind.i64 y4) ∧ (w5.alloc (Obj.cells #[.int .i64 0, .slice none 0 0, .slice none 0 0, .slice none 0 0] 28)).cell? ⟨YB, yo + i * 6 + 5, none⟩ = some (Value.int IntKind.i64 y5) := ⟨(kz.alloc _).cell z0, (kz.alloc _).cell z1, (kz.alloc _).cell z2, (kz.alloc _).cell z3, (kz.alloc _).cell z4, (kz.alloc _).cell z5, (kz.alloc _).cell z6, (kz.alloc _).cell z7, (kz.alloc _).cell z8, (kz.alloc _).cell z9⟩; have hS4 : (w5.alloc (Obj.cells #[.int .i64 r, .slice e1 m1 d1, .slice e2 m2 d2, .slice e3 m3 d3] 28)).cell? ⟨w2.heap.size, 0, none⟩ = some (Value.slice g1 g.vs.length gc1) ∧ (w5.alloc (Obj.cells #[.int .i64 r, .slice e1 m1 d1, .slice e2 m2 d2, .slice e3 m3 d3] 28)).cell? ⟨w2.heap.size, 1, none⟩ = some (Value.slice g2 g.es.length gc2) ∧ (w5.alloc (Obj.cells #[.int .i64 r, .slice e1 m1 d1, .slice e2 m2 d2, .slice e3 m3 d3] 28)).cell? ⟨w2.heap.size, 2, none⟩ = some (Value.slice g3 g.ds.length gc3) ∧ (w5.alloc (Obj.cells #[.int .i64 r, .slice e1 m1 d1, .slice e2 m2 d2, .slice e3 m3 d3] 28)).cell? ⟨X, 0, none⟩ = some (Value.int IntKind.i64 b.round) ∧ (w5.alloc (Obj.cells #[.int .i64 r, .slice e1 m1 d1, .slice e2 m2 d2, .slice e3 m3 d3] 28)).cell? ⟨X, 1, none⟩ = some (Value.slice a1 n1 c1) ∧ (w5.alloc (Obj.cells #[.int .i64 r, .slice e1 m1 d1, .slice e2 m2 d2, .slice e3 m3 d3] 28)).cell? ⟨X, 2, none⟩ = some (Value.slice a2 n2 c2) ∧ (w5.alloc (Obj.cells #[.int .i64 r, .slice e1 m1 d1, .slice e2 m2 d2, .slice e3 m3 d3] 28)).cell? ⟨X, 3, none⟩ = some (Value.slice a3 n3 c3) ∧ (w5.alloc (Obj.cells #[.int .i64 r, .slice e1 m1 d1, .slice e2 m2 d2, .slice e3 m3 d3] 28)).cell? ⟨YB, yo + i * 6 + 3, none⟩ = some (Value.int IntKind.i64 y3) ∧ (w5.alloc (Obj.cells #[.int .i64 r, .slice e1 m1 d1, .slice e2 m2 d2, .slice e3 m3 d3] 28)).cell? ⟨YB, yo + i * 6 + 4, none⟩ = some (Value.int IntKind.i64 y4) ∧ (w5.alloc (Obj.cells #[.int .i64 r, .slice e1 m1 d1, .slice e2 m2 d2, .slice e3 m3 d3] 28)).cell? ⟨YB, yo + i * 6 + 5, none⟩ = some (Value.int IntKind.i64 y5) := ⟨(kz.alloc _).cell z0, (kz.alloc _).cell z1, (kz.alloc _).cell z2, (kz.alloc _).cell z3, (kz.alloc _).cell z4, (kz.alloc _).cell z5, (kz.alloc _).cell z6, (kz.alloc _).cell z7, (kz.alloc _).cell z8, (kz.alloc _).cell z9⟩; have HLB3 := Lib.hid (HB1.out.step (kz.alloc (Obj.cells #[.int .i64 r, .slice e1 m1 d1, .slice e2 m2 d2, .slice e3 m3 d3] 28))); have HNR3 := Lib.hid (hnr.gro ((Gro.refl w5).alloc (Obj.cells #[.int .i64 r, .slice e1 m1 d1, .slice e2 m2 d2, .slice e3 m3 d3] 28))); have HNB3 : Hid ((w5.alloc (Obj.cells #[.int .i64 r, .slice e1 m1 d1, .slice e2 m2 d2, .slice e3 m3 d3] 28)).heap[w5.heap.size]? = some (.cells #[.int .i64 r, .slice e1 m1 d1, .slice e2 m2 d2, .slice e3 m3 d3] 28 (0, 0))) := Lib.hid (blk_new _ _); have hXw5 : X < w5.heap.size := Nat.lt_of_lt_of_le hXw kz.size; try (have hNb : w5.heap[wp.heap.size]? = some (.cells #[.int .i64 0, .slice none 0 0, .slice none 0 0, .slice none 0 0] 28 (0, 0)) := kx.blk (show (wp.alloc (Obj.cells #[.int .i64 0, .slice none 0 0, .slice none 0 0, .slice none 0 0] 28)).heap[wp.heap.size]? = _ from blk_new _ _); have fN := blk_frozen hNb; have cN := blk_cell hNb; have fnn0 := fN 0; have fnn1 := fN 1; have fnn2 := fN 2; have fnn3 := fN 3; have nn0 := cN 0; have nn1 := cN 1; have nn2 := cN 2; have nn3 := cN 3; simp only [lPa, lPb, lPc] at nn0 nn1 nn2 nn3; have hlnn := blk_lt hNb; clear fN cN; have kk := kept4 (Kept.refl (· = wp.heap.size) w5) (.inl rfl) (.int .i64 r) (.slice e1 m1 d1) (.slice e2 m2 d2) (.slice e3 m3 d3); have hS2 := (show ((((w5.setCell ⟨wp.heap.size, 0, none⟩ (.int .i64 r)).setCell ⟨wp.heap.size, 1, none⟩ (.slice e1 m1 d1)).setCell ⟨wp.heap.size, 2, none⟩ (.slice e2 m2 d2)).setCell ⟨wp.heap.size, 3, none⟩ (.slice e3 m3 d3)).cell? ⟨w2.heap.size, 0, none⟩ = some (Value.slice g1 g.vs.length gc1) ∧ ((((w5.setCell ⟨wp.heap.size, 0, none⟩ (.int .i64 r)).setCell ⟨wp.heap.size, 1, none⟩ (.slice e1 m1 d1)).setCell ⟨wp.heap.size, 2, none⟩ (.slice e2 m2 d2)).setCell ⟨wp.heap.size, 3, none⟩ (.slice e3 m3 d3)).cell? ⟨w2.heap.size, 1, none⟩ = some (Value.slice g2 g.es.length gc2) ∧ ((((w5.setCell ⟨wp.heap.size, 0, none⟩ (.int .i64 r)).setCell ⟨wp.heap.size, 1, none⟩ (.slice e1 m1 d1)).setCell ⟨wp.heap.size, 2, none⟩ (.slice e2 m2 d2)).setCell ⟨wp.heap.size, 3, none⟩ (.slice e3 m3 d3)).cell? ⟨w2.heap.size, 2, none⟩ = some (Value.slice g3 g.ds.length gc3) ∧ ((((w5.setCell ⟨wp.heap.size, 0, none⟩ (.int .i64 r)).setCell ⟨wp.heap.size, 1, none⟩ (.slice e1 m1 d1)).setCell ⟨wp.heap.size, 2, none⟩ (.slice e2 m2 d2)).setCell ⟨wp.heap.size, 3, none⟩ (.slice e3 m3 d3)).cell? ⟨X, 0, none⟩ = some (Value.int IntKind.i64 b.round) ∧ ((((w5.setCell ⟨wp.heap.size, 0, none⟩ (.int .i64 r)).setCell ⟨wp.heap.size, 1, none⟩ (.slice e1 m1 d1)).setCell ⟨wp.heap.size, 2, none⟩ (.slice e2 m2 d2)).setCell ⟨wp.heap.size, 3, none⟩ (.slice e3 m3 d3)).cell? ⟨X, 1, none⟩ = some (Value.slice a1 n1 c1) ∧ ((((w5.setCell ⟨wp.heap.size, 0, none⟩ (.int .i64 r)).setCell ⟨wp.heap.size, 1, none⟩ (.slice e1 m1 d1)).setCell ⟨wp.heap.size, 2, none⟩ (.slice e2 m2 d2)).setCell ⟨wp.heap.size, 3, none⟩ (.slice e3 m3 d3)).cell? ⟨X, 2, none⟩ = some (Value.slice a2 n2 c2) ∧ ((((w5.setCell ⟨wp.heap.size, 0, none⟩ (.int .i64 r)).setCell ⟨wp.heap.size, 1, none⟩ (.slice e1 m1 d1)).setCell ⟨wp.heap.size, 2, none⟩ (.slice e2 m2 d2)).setCell ⟨wp.heap.size, 3, none⟩ (.slice e3 m3 d3)).cell? ⟨X, 3, none⟩ = some (Value.slice a3 n3 c3) ∧ ((((w5.setCell ⟨wp.heap.size, 0, none⟩ (.int .i64 r)).setCell ⟨wp.heap.size, 1, none⟩ (.slice e1 m1 d1)).setCell ⟨wp.heap.size, 2, none⟩ (.slice e2 m2 d2)).setCell ⟨wp.heap.size, 3, none⟩ (.slice e3 m3 d3)).cell? ⟨YB, yo + i * 6 + 3, none⟩ = some (Value.int IntKind.i64 y3) ∧ ((((w5.setCell ⟨wp.heap.size, 0, none⟩ (.int .i64 r)).setCell ⟨wp.heap.size, 1, none⟩ (.slice e1 m1 d1)).setCell ⟨wp.heap.size, 2, none⟩ (.slice e2 m2 d2)).setCell ⟨wp.heap.size, 3, none⟩ (.slice e3 m3 d3)).cell? ⟨YB, yo + i * 6 + 4, none⟩ = some (Value.int IntKind.i64 y4) ∧ ((((w5.setCell ⟨wp.heap.size, 0, none⟩ (.int .i64 r)).setCell ⟨wp.heap.size, 1, none⟩ (.slice e1 m1 d1)).setCell ⟨wp.heap.size, 2, none⟩ (.slice e2 m2 d2)).setCell ⟨wp.heap.size, 3, none⟩ (.slice e3 m3 d3)).cell? ⟨YB, yo + i * 6 + 5, none⟩ = some (Value.int IntKind.i64 y5) from ⟨Kept.cell kk hnR hS1.1, Kept.cell kk hnR hS1.2.1, Kept.cell kk hnR hS1.2.2.1, Kept.cell kk hnX hS1.2.2.2.1, Kept.cell kk hnX hS1.2.2.2.2.1, Kept.cell kk hnX hS1.2.2.2.2.2.1, Kept.cell kk hnX hS1.2.2.2.2.2.2.1, Kept.cell kk hnY hS1.2.2.2.2.2.2.2.1, Kept.cell kk hnY hS1.2.2.2.2.2.2.2.2.1, Kept.cell kk hnY hS1.2.2.2.2.2.2.2.2.2⟩); have HLB2 := Lib.hid ((HB1.out.step kz).other kk hXw hNb); have HNR2 := Lib.hid (hnr.far kk hNb); have HNB2 : Hid (∀ W, W = ((((w5.setCell ⟨wp.heap.size, 0, none⟩ (.int .i64 r)).setCell ⟨wp.heap.size, 1, none⟩ (.slice e1 m1 d1)).setCell ⟨wp.heap.size, 2, none⟩ (.slice e2 m2 d2)).setCell ⟨wp.heap.size, 3, none⟩ (.slice e3 m3 d3)) → W.heap[wp.heap.size]? = some (.cells #[.int .i64 r, .slice e1 m1 d1, .slice e2 m2 d2, .slice e3 m3 d3] 28 (0, 0))) := Lib.hid (fun W h => by rw [h]; exact set4 hNb _ _ _ _); clear kk hNb); clear kz kx hnr))
    all_goals
     clear hS0 hSA hS1
     (try clear hS2)
     (try clear hS3)
     (try clear hS4)
     refine nameGoal fun auxP auxH _ => ?_
     letI auxN : Nonempty auxP := ⟨by
      refine auxH ?_
      go_wp2_with fail
      go_meet
      first | exact ⟨wp.heap.size, E, r, e1, m1, d1, e2, m2, d2, e3, m3, d3, rfl, rfl, hXw, HLB2, Lib.hid (HNB2.out _ rfl), HNR2⟩ | exact ⟨w5.heap.size, E, r, e1, m1, d1, e2, m2, d2, e3, m3, d3, rfl, rfl, hXw5, HLB3, HNB3, HNR3⟩⟩
     exact (show Nonempty auxP from inferInstanceAs (Nonempty auxP)).elim id
   case rest =>
    obtain ⟨N, E, r, e1, m1, d1, e2, m2, d2, e3, m3, d3, rfl, rfl, hXN, HB, HNB, HNR⟩ := hcut
    clear HB1
    have d0 := D0.out _ HB.out.gro
    have hlY := World.block_lt_of_cell? _ _ d0
    go_upto_if 95 with (go_at_call 36; refine (P0.out _).mono ?_; rintro _ wz ⟨rfl, rfl⟩)
    clear d0 hlY
    go_cut [18] (fun u wx => ∃ (E : Int) (r : Int) (e1 : Option Addr) (m1 d1 : Nat) (e2 : Option Addr) (m2 d2 : Nat) (e3 : Option Addr) (m3 d3 : Nat), u = .int .i64 E ∧ Hid (LB w w2 wx g #[.slice g1 g.vs.length gc1, .slice g2 g.es.length gc2, .slice g3 g.ds.length gc3] w2.heap.size X b a1 n1 c1 a2 n2 c2 a3 n3 c3) ∧ Hid (wx.heap[N]? = some (.cells #[.int .i64 r, .slice e1 m1 d1, .slice e2 m2 d2, .slice e3 m3 d3] 28 (0, 0))) ∧ Hid (NR g wx E r e1 m1 d1 e2 m2 d2 e3 m3 d3))
    case first =>
     by_cases hk : k0 = 0
     ·have hkd : (k0 == 0) = true := by simpa using hk
      clear hk
      refine nameGoal fun auxP auxH _ => ?_
      letI auxN : Nonempty auxP := ⟨by
       refine auxH ?_
       have cR := blk_cell HB.out.rb
       have cX := blk_cell HB.out.xb
       have z0 := cR 0
       have z1 := cR 1
       have z2 := cR 2
       have z3 := cX 0
       have z4 := cX 1
       have z5 := cX 2
       have z6 := cX 3
       simp only [lPa, lPb, lPc] at z0 z1 z2 z3 z4 z5 z6
       have hlR := blk_lt HB.out.rb
       have hlX := blk_lt HB.out.xb
       clear cR cX
       have hRX := HB.out.lox
       go_wp2_with fail
       refine ((next26 (HG.out.old HB.out.kp) HB.out.bv HB.out.vb.fits).mono NPost.of).mono ?_
       rintro _ w5 ⟨E', r', e1', m1', d1', e2', m2', d2', e3', m3', d3', rfl, hnr, kx⟩
       have hNb := kx.blk HNB.out
       have fN := blk_frozen hNb
       have cN := blk_cell hNb
       have fnn0 := fN 0
       have fnn1 := fN 1
       have fnn2 := fN 2
       have fnn3 := fN 3
       have nn0 := cN 0
       have nn1 := cN 1
       have nn2 := cN 2
       have nn3 := cN 3
       simp only [lPa, lPb, lPc] at nn0 nn1 nn2 nn3
       have hlnn := blk_lt hNb
       clear fN cN
       have kk := kept4 (Kept.refl (· = N) w5) (.inl rfl) (.int .i64 r') (.slice e1' m1' d1') (.slice e2' m2' d2') (.slice e3' m3' d3')
       have HLB2 := Lib.hid ((HB.out.step kx).other kk hXN hNb)
       have HNR2 := Lib.hid (hnr.far kk hNb)
       have HNB2 : Hid (∀ W, W = ((((w5.setCell ⟨N, 0, none⟩ (.int .i64 r')).setCell ⟨N, 1, none⟩ (.slice e1' m1' d1')).setCell ⟨N, 2, none⟩ (.slice e2' m2' d2')).setCell ⟨N, 3, none⟩ (.slice e3' m3' d3')) → W.heap[N]? = some (.cells #[.int .i64 r', .slice e1' m1' d1', .slice e2' m2' d2', .slice e3' m3' d3'] 28 (0, 0))) := Lib.hid (fun W h => by rw [h]; exact set4 hNb _ _ _ _)
       clear kk hNb hnr kx z0 z1 z2 z3 z4 z5 z6 hlR hlX
       go_wp2_with fail
       go_meet
       exact ⟨E', r', e1', m1', d1', e2', m2', d2', e3', m3', d3', rfl, HLB2, Lib.hid (HNB2.out _ rfl), HNR2⟩⟩
      exact (show Nonempty auxP from inferInstanceAs (Nonempty auxP)).elim id
     ·have hkd : (k0 == 0) = false := by simpa using hk
      clear hk
      go_wp2_with fail
      go_meet
      exact ⟨E, r, e1, m1, d1, e2, m2, d2, e3, m3, d3, rfl, HB, HNB, HNR⟩
    case rest =>
     obtain ⟨E, r, e1, m1, d1, e2, m2, d2, e3, m3, d3, rfl, HB, HNB, HNR⟩ := hcut
     have d0 := D0.out _ HB.out.gro
     have hlY := World.block_lt_of_cell? _ _ d0
     go_upto_if 108 with (go_at_call 36; refine (P0.out _).mono ?_; rintro _ wz ⟨rfl, rfl⟩)
     clear d0 hlY
     go_cut [18] (fun u wx => ∃ (E : Int) (r : Int) (e1 : Option Addr) (m1 d1 : Nat) (e2 : Option Addr) (m2 d2 : Nat) (e3 : Option Addr) (m3 d3 : Nat), u = .int .i64 E ∧ Hid (LB w w2 wx g #[.slice g1 g.vs.length gc1, .slice g2 g.es.length gc2, .slice g3 g.ds.length gc3] w2.heap.size X b a1 n1 c1 a2 n2 c2 a3 n3 c3) ∧ Hid (wx.heap[N]? = some (.cells #[.int .i64 r, .slice e1 m1 d1, .slice e2 m2 d2, .slice e3 m3 d3] 28 (0, 0))) ∧ Hid (NR g wx E r e1 m1 d1 e2 m2 d2 e3 m3 d3))
     case first =>
      by_cases hk : k0 = 1
      ·have hkd : (k0 == 1) = true := by simpa using hk
       clear hk
       refine nameGoal fun auxP auxH _ => ?_
       letI auxN : Nonempty auxP := ⟨by
        refine auxH ?_
        have cR := blk_cell HB.out.rb
        have cX := blk_cell HB.out.xb
        have z0 := cR 0
        have z1 := cR 1
        have z2 := cR 2
        have z3 := cX 0
        have z4 := cX 1
        have z5 := cX 2
        have z6 := cX 3
        simp only [lPa, lPb, lPc] at z0 z1 z2 z3 z4 z5 z6
        have hlR := blk_lt HB.out.rb
        have hlX := blk_lt HB.out.xb
        clear cR cX
        have hRX := HB.out.lox
        go_wp2_with fail
        refine ((withdraw20 (HG.out.old HB.out.kp) HB.out.bv HB.out.vb.fits pt (5 + k1)).mono NPost.of).mono ?_
        rintro _ w5 ⟨E', r', e1', m1', d1', e2', m2', d2', e3', m3', d3', rfl, hnr, kx⟩
        have hNb := kx.blk HNB.out
        have fN := blk_frozen hNb
        have cN := blk_cell hNb
        have fnn0 := fN 0
        have fnn1 := fN 1
        have fnn2 := fN 2
        have fnn3 := fN 3
        have nn0 := cN 0
        have nn1 := cN 1
        have nn2 := cN 2
        have nn3 := cN 3
        simp only [lPa, lPb, lPc] at nn0 nn1 nn2 nn3
        have hlnn := blk_lt hNb
        clear fN cN
        have kk := kept4 (Kept.refl (· = N) w5) (.inl rfl) (.int .i64 r') (.slice e1' m1' d1') (.slice e2' m2' d2') (.slice e3' m3' d3')
        have HLB2 := Lib.hid ((HB.out.step kx).other kk hXN hNb)
        have HNR2 := Lib.hid (hnr.far kk hNb)
        have HNB2 : Hid (∀ W, W = ((((w5.setCell ⟨N, 0, none⟩ (.int .i64 r')).setCell ⟨N, 1, none⟩ (.slice e1' m1' d1')).setCell ⟨N, 2, none⟩ (.slice e2' m2' d2')).setCell ⟨N, 3, none⟩ (.slice e3' m3' d3')) → W.heap[N]? = some (.cells #[.int .i64 r', .slice e1' m1' d1', .slice e2' m2' d2', .slice e3' m3' d3'] 28 (0, 0))) := Lib.hid (fun W h => by rw [h]; exact set4 hNb _ _ _ _)
        clear kk hNb hnr kx z0 z1 z2 z3 z4 z5 z6 hlR hlX
        go_wp2_with fail
        go_meet
        exact ⟨E', r', e1', m1', d1', e2', m2', d2', e3', m3', d3', rfl, HLB2, Lib.hid (HNB2.out _ rfl), HNR2⟩⟩
       exact (show Nonempty auxP from inferInstanceAs (Nonempty auxP)).elim id
      ·have hkd : (k0 == 1) = false := by simpa using hk
       clear hk
       go_wp2_with fail
       go_meet
       exact ⟨E, r, e1, m1, d1, e2, m2, d2, e3, m3, d3, rfl, HB, HNB, HNR⟩
     case rest =>
      obtain ⟨E, r, e1, m1, d1, e2, m2, d2, e3, m3, d3, rfl, HB, HNB, HNR⟩ := hcut
      rcases HNR.out with ⟨rfl, rfl, ⟨rfl, rfl, rfl⟩, ⟨rfl, rfl, rfl⟩, ⟨rfl, rfl, rfl⟩⟩ | ⟨rfl, c, hvc, rfl, hbc⟩
      ·skip
       refine nameGoal fun auxP auxH _ => ?_
       letI auxN : Nonempty auxP := ⟨by
        refine auxH ?_
        have cN := blk_cell HNB.out
        have nn0 := cN 0
        have nn1 := cN 1
        have nn2 := cN 2
        have nn3 := cN 3
        simp only [lPa, lPb, lPc] at nn0 nn1 nn2 nn3
        have hlN := blk_lt HNB.out
        clear cN
        go_wp2_with fail
        refine (same16 (a := ⟨0, [], [], []⟩) (b := ⟨0, [], [], []⟩) ⟨_, _, _, rfl, lv_none _, lv_none _, lv_none _⟩ ⟨_, _, _, rfl, lv_none _, lv_none _, lv_none _⟩).mono ?_
        rintro _ w9 ⟨rfl, k9⟩
        rw [show decide ((⟨0, [], [], []⟩ : Bk) = ⟨0, [], [], []⟩) = true from decide_eq_true rfl]
        have HB9 := Lib.hid (HB.out.step k9)
        clear k9 nn0 nn1 nn2 nn3 hlN HB HNB HNR
        go_wp2_with fail
        go_roundw
        case rel => first | exact ⟨i + 1, b, a1, n1, c1, a2, n2, c2, a3, n3, c3, by omega, by omega, by go_num, HB9⟩ | ((repeat apply Exists.intro); exact ⟨⟨by omega, by omega, by go_num, HB9⟩, rfl⟩) | trace_state
        case measure => simp [intOf]; omega⟩
       exact (show Nonempty auxP from inferInstanceAs (Nonempty auxP)).elim id
      ·skip
       obtain ⟨⟨hm1, hm2, hm3⟩, hl1, hl2, hl3⟩ := hbc.lists
       subst hm1 hm2 hm3
       have HL1 : Hid (∀ W, Gro w W → True) := Lib.hid (fun _ _ => trivial)
       have cR := blk_cell HB.out.rb
       have cX := blk_cell HB.out.xb
       have z0 := cR 0
       have z1 := cR 1
       have z2 := cR 2
       have z3 := cX 0
       have z4 := cX 1
       have z5 := cX 2
       have z6 := cX 3
       simp only [lPa, lPb, lPc] at z0 z1 z2 z3 z4 z5 z6
       have hlR := blk_lt HB.out.rb
       have hlX := blk_lt HB.out.xb
       clear cR cX
       have hRX := HB.out.lox
       have hneRX : ¬ (w2.heap.size = X) := by omega
       have fX := blk_frozen HB.out.xb
       have fx0 := fX 0
       have fx1 := fX 1
       have fx2 := fX 2
       have fx3 := fX 3
       have cN := blk_cell HNB.out
       have nn0 := cN 0
       have nn1 := cN 1
       have nn2 := cN 2
       have nn3 := cN 3
       simp only [lPa, lPb, lPc] at nn0 nn1 nn2 nn3
       have hlN := blk_lt HNB.out
       have HLX : Hid (∀ W, W = ((((wc.setCell ⟨X, 0, none⟩ (.int .i64 c.round)).setCell ⟨X, 1, none⟩ (.slice e1 c.ps.length d1)).setCell ⟨X, 2, none⟩ (.slice e2 c.os.length d2)).setCell ⟨X, 3, none⟩ (.slice e3 c.ws.length d3)) → LB w w2 W g #[.slice g1 g.vs.length gc1, .slice g2 g.es.length gc2, .slice g3 g.ds.length gc3] w2.heap.size X c e1 c.ps.length d1 e2 c.os.length d2 e3 c.ws.length d3) := Lib.hid (fun W e => by rw [e]; exact HB.out.put hvc hbc)
       clear fX cN hvc hbc hl1 hl2 hl3 HL1
       go_wp2_with fail
       obtain ⟨wX, hwX⟩ : ∃ wX, wX = ((((wc.setCell ⟨X, 0, none⟩ (.int .i64 c.round)).setCell ⟨X, 1, none⟩ (.slice e1 c.ps.length d1)).setCell ⟨X, 2, none⟩ (.slice e2 c.os.length d2)).setCell ⟨X, 3, none⟩ (.slice e3 c.ws.length d3)) := ⟨_, rfl⟩
       rw [← hwX]
       have HLX2 := Lib.hid (HLX.out _ hwX)
       clear hwX HLX z0 z1 z2 z3 z4 z5 z6 fx0 fx1 fx2 fx3 nn0 nn1 nn2 nn3 hlN hlR hlX hneRX HB HNB HNR
       refine (valid14 (HG.out.old HLX2.out.kp) HLX2.out.bv HLX2.out.vb.fits).mono ?_
       rintro _ w9 ⟨rfl, k9⟩
       rw [HLX2.out.vb.true]
       have HB9 := Lib.hid (HLX2.out.step k9)
       clear k9 HLX2
       go_wp2_with fail
       go_loopw [19] (fun t wr => ∃ k : Nat, k ≤ c.ps.length ∧ t = .int .i64 k ∧ Hid (LB w w2 wr g #[.slice g1 g.vs.length gc1, .slice g2 g.es.length gc2, .slice g3 g.ds.length gc3] w2.heap.size X c e1 c.ps.length d1 e2 c.os.length d2 e3 c.ws.length d3)) (fun t _ => c.ps.length - (intOf t).toNat)
       case atStart => exact ⟨0, Nat.zero_le _, by go_num, HB9⟩
       case round =>
        clear HB9
        obtain ⟨k, hk, rfl, HB⟩ := hrel
        obtain ⟨hcl1, hcl2, _⟩ := HB.out.vb.lens
        have cX := blk_cell HB.out.xb
        have z3 := cX 0
        have z4 := cX 1
        have z5 := cX 2
        have z6 := cX 3
        simp only [lPa, lPb, lPc] at z3 z4 z5 z6
        have hlX := blk_lt HB.out.xb
        clear cX
        by_cases hkl : k < c.ps.length
        ·skip
         refine nameGoal fun auxP auxH _ => ?_
         letI auxN : Nonempty auxP := ⟨by
          refine auxH ?_
          obtain ⟨_, hl1, _, _⟩ := HB.out.lists
          obtain ⟨pb, po, rfl, hpb, hpc⟩ := hl1.base hkl
          obtain ⟨p0, p1⟩ := pcells hpc hkl
          have hlp := World.block_lt_of_cell? _ _ p0
          have hsp := HB.out.vb.bud _ (List.getElem_mem hkl)
          generalize c.ps[k] = x at p0 p1 hsp
          obtain ⟨xi, xb⟩ := x
          simp only at p0 p1 hsp
          have HSP := Lib.hid (fun (W : World) (hW : Gro wr W) => spent37 (HB.out.bv.gro hW) HB.out.vb.fits.bfew (fun o ho => (okO_inv (HB.out.vb.oko o ho)).2.2.2.2.2.1) xi)
          generalize spent c xi = sp at hsp HSP
          have hspd := decide_eq_false (show ¬ (xb < sp) by omega)
          have hspd2 := decide_eq_false (show ¬ (sp > xb) by omega)
          clear hpc hl1 hsp
          go_wp2_with fail
          have hS0 : wr.drew.cell? ⟨X, 0, none⟩ = some (Value.int IntKind.i64 c.round) ∧ wr.drew.cell? ⟨X, 1, none⟩ = some (Value.slice (some ⟨pb, po, none⟩) c.ps.length d1) ∧ wr.drew.cell? ⟨X, 2, none⟩ = some (Value.slice e2 c.os.length d2) ∧ wr.drew.cell? ⟨X, 3, none⟩ = some (Value.slice e3 c.ws.length d3) ∧ wr.drew.cell? ⟨pb, po + k * 2, none⟩ = some (Value.int IntKind.i64 xi) ∧ wr.drew.cell? ⟨pb, po + k * 2 + 1, none⟩ = some (Value.int IntKind.i64 xb) := ⟨(Gro.refl wr).drew.cell z3, (Gro.refl wr).drew.cell z4, (Gro.refl wr).drew.cell z5, (Gro.refl wr).drew.cell z6, (Gro.refl wr).drew.cell p0, (Gro.refl wr).drew.cell p1⟩
          go_region_held3 (fun w' => w'.cell? ⟨X, 0, none⟩ = some (Value.int IntKind.i64 c.round) ∧ w'.cell? ⟨X, 1, none⟩ = some (Value.slice (some ⟨pb, po, none⟩) c.ps.length d1) ∧ w'.cell? ⟨X, 2, none⟩ = some (Value.slice e2 c.os.length d2) ∧ w'.cell? ⟨X, 3, none⟩ = some (Value.slice e3 c.ws.length d3) ∧ w'.cell? ⟨pb, po + k * 2, none⟩ = some (Value.int IntKind.i64 xi) ∧ w'.cell? ⟨pb, po + k * 2 + 1, none⟩ = some (Value.int IntKind.i64 xb))
           (first | with_reducible exact hS0 | with_reducible exact hS1 | go_keep)
           ((go_at_call 37; refine (HSP.out _ ((Gro.refl wr).drew)).mono ?_; rintro _ w5 ⟨rfl, kx⟩; have kz := (Gro.refl wr).drew.trans kx; have hS1 : w5.cell? ⟨X, 0, none⟩ = some (Value.int IntKind.i64 c.round) ∧ w5.cell? ⟨X, 1, none⟩ = some (Value.slice (some ⟨pb, po, none⟩) c.ps.length d1) ∧ w5.cell? ⟨X, 2, none⟩ = some (Value.slice e2 c.os.length d2) ∧ w5.cell? ⟨X, 3, none⟩ = some (Value.slice e3 c.ws.length d3) ∧ w5.cell? ⟨pb, po + k * 2, none⟩ = some (Value.int IntKind.i64 xi) ∧ w5.cell? ⟨pb, po + k * 2 + 1, none⟩ = some (Value.int IntKind.i64 xb) := ⟨kz.cell z3, kz.cell z4, kz.cell z5, kz.cell z6, kz.cell p0, kz.cell p1⟩; have HB5 := Lib.hid (HB.out.step kz); clear kx kz))
          all_goals
           clear hS0 hS1 z3 z4 z5 z6 p0 p1 hlX hlp
           go_wp2_with fail
           go_roundw
           case rel => first | exact ⟨k + 1, by omega, by go_num, HB5⟩ | ((repeat apply Exists.intro); exact ⟨⟨by omega, by go_num, HB5⟩, rfl⟩) | trace_state
           case measure => simp [intOf]; omega⟩
         exact (show Nonempty auxP from inferInstanceAs (Nonempty auxP)).elim id
        ·go_wp2_with fail
         clear z3 z4 z5 z6 hlX
         go_loopw [20] (fun t wx => ∃ k : Nat, k ≤ c.os.length ∧ t = .int .i64 k ∧ Hid (LB w w2 wx g #[.slice g1 g.vs.length gc1, .slice g2 g.es.length gc2, .slice g3 g.ds.length gc3] w2.heap.size X c e1 c.ps.length d1 e2 c.os.length d2 e3 c.ws.length d3)) (fun t _ => c.os.length - (intOf t).toNat)
         case atStart => exact ⟨0, Nat.zero_le _, by go_num, HB⟩
         case round =>
          clear HB
          obtain ⟨q, hq, rfl, HB⟩ := hrel
          obtain ⟨hcl1, hcl2, _⟩ := HB.out.vb.lens
          have cX := blk_cell HB.out.xb
          have z3 := cX 0
          have z4 := cX 1
          have z5 := cX 2
          have z6 := cX 3
          simp only [lPa, lPb, lPc] at z3 z4 z5 z6
          have hlX := blk_lt HB.out.xb
          clear cX
          by_cases hql : q < c.os.length
          ·obtain ⟨_, _, hl2, _⟩ := HB.out.lists
           obtain ⟨ob, oo, rfl, hob, hoc⟩ := hl2.base hql
           obtain ⟨o0, _, _, _, _, o5, o6⟩ := ocells hoc hql
           have hlo := World.block_lt_of_cell? _ _ o0
           have hu := (okO_inv (HB.out.vb.oko _ (List.getElem_mem hql))).2.2.2.2.2.2.2.2
           generalize c.os[q] = x at o0 o5 o6 hu
           obtain ⟨xi, xp, xs, xl, xr, xu, xt⟩ := x
           simp only at o0 o5 o6 hu
           have z3 := gcell z3
           have z5 := gcell z5
           have o5 := gcell o5
           have o6 := gcell o6
           clear hoc hl2 o0 z4 z6
           by_cases hst : xt = 1
           ·skip
            refine nameGoal fun auxP auxH _ => ?_
            letI auxN : Nonempty auxP := ⟨by
             refine auxH ?_
             have hud := decide_eq_false (show ¬ (xu < c.round) from fun h => absurd (hu hst) (by omega))
             have hstd : (xt == 1) = true := by simpa using hst
             clear hst hu
             go_wp2_with fail
             go_quiet_grown (fail)
             have kq := gro_of_grow wr nq osq
             dsimp only at kq ⊢
             clear z3 z5 o5 o6 hlX hlo
             generalize Go.Sort.grow (wr.drewN nq) osq = w3 at kq ⊢
             have HB5 := Lib.hid (HB.out.step kq)
             clear kq
             go_wp2_with fail
             go_roundw
             case rel => first | exact ⟨q + 1, by omega, by go_num, HB5⟩ | ((repeat apply Exists.intro); exact ⟨⟨by omega, by go_num, HB5⟩, rfl⟩) | trace_state
             case measure => simp [intOf]; omega⟩
            exact (show Nonempty auxP from inferInstanceAs (Nonempty auxP)).elim id
           ·skip
            refine nameGoal fun auxP auxH _ => ?_
            letI auxN : Nonempty auxP := ⟨by
             refine auxH ?_
             have hstd : (xt == 1) = false := by simpa using hst
             clear hst hu
             go_wp2_with fail
             go_quiet_grown (fail)
             have kq := gro_of_grow wr nq osq
             dsimp only at kq ⊢
             clear z3 z5 o5 o6 hlX hlo
             generalize Go.Sort.grow (wr.drewN nq) osq = w3 at kq ⊢
             have HB5 := Lib.hid (HB.out.step kq)
             clear kq
             go_wp2_with fail
             go_roundw
             case rel => first | exact ⟨q + 1, by omega, by go_num, HB5⟩ | ((repeat apply Exists.intro); exact ⟨⟨by omega, by go_num, HB5⟩, rfl⟩) | trace_state
             case measure => simp [intOf]; omega⟩
            exact (show Nonempty auxP from inferInstanceAs (Nonempty auxP)).elim id
          ·go_wp2_with fail
           go_roundw
           case rel => first | exact ⟨i + 1, c, _, _, _, _, _, _, _, _, _, by omega, by omega, by go_num, HB⟩ | ((repeat apply Exists.intro); exact ⟨⟨by omega, by omega, by go_num, HB⟩, rfl⟩) | trace_state
           case measure => simp [intOf]; omega
  ·by_cases h1 : i < ys.length
   ·have hd8 := decide_eq_false (show ¬ (i : Int) < 8 by omega)
    go_wp2_with fail
    go_ret
    exact (show Truth w _ _ from ⟨rfl, HB.out.gro⟩)
   ·go_wp2_with fail
    go_ret
    exact (show Truth w _ _ from ⟨rfl, HB.out.gro⟩)
end Go.Proofs.YthfagcdjbmhhcaaGreat
