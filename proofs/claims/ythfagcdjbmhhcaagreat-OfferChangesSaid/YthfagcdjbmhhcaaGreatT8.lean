/- OfferChanges: the law's function returns true. -/
import Derived.Test.YthfagcdjbmhhcaaGreatK27
import Derived.Test.YthfagcdjbmhhcaaGreatU9
import Derived.Test.YthfagcdjbmhhcaaGreatU10
set_option linter.unusedVariables false
set_option linter.unusedSimpArgs false
namespace Go.Proofs.YthfagcdjbmhhcaaGreat
open Go.RowKit
attribute [local irreducible] wpQuiet
theorem lfT81 {P : Prop} (h : P := by (intro w0 hSw; obtain ⟨hSg, hSx, e0, e1, e2, e3, e4, e5⟩ := hSw; have hlB := World.block_lt_of_cell? _ _ e0; have cb := blk_cell hSg; have cb0 := cb 0; have cb1 := cb 1; have cb2 := cb 2; have cx := blk_cell hSx; have cx0 := cx 0; have cx1 := cx 1; have cx2 := cx 2; have cx3 := cx 3; simp only [lPa, lPb, lPc] at cb0 cb1 cb2 cx0 cx1 cx2 cx3; have cbl := blk_lt hSg; have cxl := blk_lt hSx; clear cb cx hSg hSx; go_simp; try with_reducible rfl)) : P := h
/-- the first book's block A; the second one's, Y -/
structure TW (w w0 wr : World) (g : Gr) (cg : Array Value) (R A : Nat) (a : Bk) (a1 : Option Addr) (n1 c1 : Nat) (a2 : Option Addr) (n2 c2 : Nat) (a3 : Option Addr) (n3 c3 : Nat) (Y : Nat) : Prop where
 la : LB w w0 wr g cg R A a a1 n1 c1 a2 n2 c2 a3 n3 c3
 ay : A < Y
 nb : ∃ (b : Bk) (b1 : Option Addr) (bn1 bc1 : Nat) (b2 : Option Addr) (bn2 bc2 : Nat) (b3 : Option Addr) (bn3 bc3 : Nat), wr.heap[Y]? = some (.cells #[.int .i64 b.round, .slice b1 bn1 bc1, .slice b2 bn2 bc2, .slice b3 bn3 bc3] 28 (0, 0)) ∧ VB g b ∧ BkV wr (.agg #[.int .i64 b.round, .slice b1 bn1 bc1, .slice b2 bn2 bc2, .slice b3 bn3 bc3]) b
theorem TW.step {w w0 wr w' : World} {g : Gr} {cg : Array Value} {R A Y : Nat} {a : Bk} {a1 a2 a3 : Option Addr} {n1 n2 n3 c1 c2 c3 : Nat} (h : TW w w0 wr g cg R A a a1 n1 c1 a2 n2 c2 a3 n3 c3 Y) (k : Gro wr w') : TW w w0 w' g cg R A a a1 n1 c1 a2 n2 c2 a3 n3 c3 Y := by
 obtain ⟨b, b1, bn1, bc1, b2, bn2, bc2, b3, bn3, bc3, hN, hv, hb⟩ := h.nb
 exact ⟨h.la.step k, h.ay, b, b1, bn1, bc1, b2, bn2, bc2, b3, bn3, bc3, k.blk hN, hv, hb.gro k⟩
theorem TW.put {w w0 wr : World} {g : Gr} {cg : Array Value} {R A Y : Nat} {a b : Bk} {a1 a2 a3 : Option Addr} {n1 n2 n3 c1 c2 c3 : Nat} (h : TW w w0 wr g cg R A a a1 n1 c1 a2 n2 c2 a3 n3 c3 Y) {b1 b2 b3 : Option Addr} {bn1 bn2 bn3 bc1 bc2 bc3 : Nat} (hv : VB g b) (hb : BkV wr (.agg #[.int .i64 b.round, .slice b1 bn1 bc1, .slice b2 bn2 bc2, .slice b3 bn3 bc3]) b) :
  TW w w0 ((((wr.setCell ⟨Y, 0, none⟩ (.int .i64 b.round)).setCell ⟨Y, 1, none⟩ (.slice b1 bn1 bc1)).setCell ⟨Y, 2, none⟩ (.slice b2 bn2 bc2)).setCell ⟨Y, 3, none⟩ (.slice b3 bn3 bc3)) g cg R A a a1 n1 c1 a2 n2 c2 a3 n3 c3 Y := by
 obtain ⟨_, _, _, _, _, _, _, _, _, _, hN, _⟩ := h.nb
 have k := kept4 (Kept.refl (· = Y) wr) (.inl rfl) (.int .i64 b.round) (.slice b1 bn1 bc1) (.slice b2 bn2 bc2) (.slice b3 bn3 bc3)
 exact ⟨h.la.other k h.ay hN, h.ay, b, b1, bn1, bc1, b2, bn2, bc2, b3, bn3, bc3, set4 hN _ _ _ _, hv, hb.far k hN⟩
set_option maxHeartbeats 40000000 in
set_option maxRecDepth 100000 in
theorem changes8 {w : World} (n : Int) (hn : I64 n) {lv : Value} {l : List A5} (hl : LV w lv l) (hlo : ∀ x ∈ l, x.ok) (m : Int) (hm : I64 m) {xv : Value} {xs : List A6} (hx : LV w xv xs) (hxo : ∀ x ∈ xs, x.ok)
  {yv : Value} {ys : List A6} (hy : LV w yv ys) (hyo : ∀ x ∈ ys, x.ok) (on : Bool) : Calls Tryz.prog 8 #[.int .i64 n, lv, .int .i64 m, xv, yv, .bool on] w (Truth w) := by
 have hmix := mixed
 have HN := yy hn
 have HLO := yy hlo
 have HM := yy hm
 have HXO := yy hxo
 have HYO := yy hyo
 have HL : Hid (∀ W, Gro w W → LV W lv l) := yy (fun W hW => hl.gro hW)
 have HX : Hid (∀ W, Gro w W → LV W xv xs) := yy (fun W hW => hx.gro hW)
 have HY : Hid (∀ W, Gro w W → LV W yv ys) := yy (fun W hW => hy.gro hW)
 obtain ⟨la, lc, rfl, _⟩ := hl
 obtain ⟨xa, xc, rfl, _⟩ := hx
 obtain ⟨ya, yc, rfl, hyl⟩ := hy
 have hybig := hyl.big
 have HYL := yy hyl
 clear hn hlo hm hxo hyo hyl
 go_enter Tryz.func8, Tryz.ntmps8
 go_wp2_with fail
 refine ((sane9 w).mono (fun e w' h => (show e = .returned (.bool true) ∧ Gro w w' from h))).mono ?_
 rintro _ w1 ⟨rfl, k1⟩
 go_wp2_with fail
 refine (roads10 n HN.out (HL.out _ k1) HLO.out).mono ?_
 rintro _ w2 ⟨vg, g, rfl, hG, hVG, hs0, hpos, k2⟩
 obtain ⟨g1, gc1, g2, gc2, g3, gc3, rfl⟩ := hG.open
 have K2 := yy (k1.trans k2)
 have HG := yy hG
 have HVG := yy hVG
 have HS0 := yy hs0
 have HPOS := yy hpos
 clear k1 k2 hG hVG hs0 hpos
 go_wp2_with fail
 obtain ⟨W3, hW3⟩ : ∃ W3, W3 = w2.alloc (Obj.cells #[.slice g1 g.vs.length gc1, .slice g2 g.es.length gc2, .slice g3 g.ds.length gc3] 38) := ⟨_, rfl⟩
 have k3 : Gro w2 W3 := by rw [hW3]; exact (Gro.refl _).alloc _
 have b3 : W3.heap[w2.heap.size]? = some (.cells #[.slice g1 g.vs.length gc1, .slice g2 g.es.length gc2, .slice g3 g.ds.length gc3] 38 (0, 0)) := by rw [hW3]; exact blk_new _ _
 rw [← hW3]
 have K3 := yy k3
 have B3 := yy b3
 clear hW3 k3 b3
 refine (made11 (HG.out.gro K3.out) HVG.out HS0.out HPOS.out m HM.out (HX.out _ (K2.out.trans K3.out)) HXO.out).mono ?_
 rintro _ w4 ⟨v, a, rfl, hv, hb, k4⟩
 obtain ⟨a1, c1, a2, c2, a3, c3, rfl⟩ := hb.open
 have hLB : Hid (∀ W A, W = w4.alloc (Obj.cells #[.int .i64 a.round, .slice a1 a.ps.length c1, .slice a2 a.os.length c2, .slice a3 a.ws.length c3] 28) → A = w4.heap.size → LB w w2 W g #[.slice g1 g.vs.length gc1, .slice g2 g.es.length gc2, .slice g3 g.ds.length gc3] w2.heap.size A a a1 a.ps.length c1 a2 a.os.length c2 a3 a.ws.length c3) := yy (fun W X e1 e2 => by
  have kW : Gro w4 W := by rw [e1]; exact (Gro.refl _).alloc _
  have h3 := blk_lt (k4.blk B3.out)
  exact ⟨kW.blk (k4.blk B3.out), by rw [e1, e2]; exact blk_new _ _, hb.gro kW, hv, (((K3.out.trans k4).trans kW).kept _), ((K2.out.trans K3.out).trans k4).trans kW, K2.out.size, Nat.le_refl _, by omega⟩)
 have R4 := yy (k4.blk B3.out)
 clear hv hb k4
 have cQ := blk_cell R4.out
 have z0 := cQ 0
 have z1 := cQ 1
 have z2 := cQ 2
 simp only [lPa, lPb, lPc] at z0 z1 z2
 clear cQ
 have hlR := blk_lt R4.out
 go_wp2_with fail
 obtain ⟨W5, hW5⟩ : ∃ W5, W5 = w4.alloc (Obj.cells #[.int .i64 a.round, .slice a1 a.ps.length c1, .slice a2 a.os.length c2, .slice a3 a.ws.length c3] 28) := ⟨_, rfl⟩
 have HB := yy (hLB.out W5 _ hW5 rfl)
 rw [← hW5]
 clear hW5 hLB z0 z1 z2 hlR R4 K3 B3
 generalize w4.heap.size = A at HB ⊢
 refine (made11 (HG.out.old HB.out.kp) HVG.out HS0.out HPOS.out m HM.out (HY.out _ HB.out.gro) HYO.out).mono ?_
 rintro _ w6 ⟨v, b, rfl, hv, hb, k6⟩
 obtain ⟨b1, bc1, b2, bc2, b3, bc3, rfl⟩ := hb.open
 have hTW : Hid (∀ W Y, W = w6.alloc (Obj.cells #[.int .i64 b.round, .slice b1 b.ps.length bc1, .slice b2 b.os.length bc2, .slice b3 b.ws.length bc3] 28) → Y = w6.heap.size → TW w w2 W g #[.slice g1 g.vs.length gc1, .slice g2 g.es.length gc2, .slice g3 g.ds.length gc3] w2.heap.size A a a1 a.ps.length c1 a2 a.os.length c2 a3 a.ws.length c3 Y) := yy (fun W Y e1 e2 => by
  have kW : Gro w6 W := by rw [e1]; exact (Gro.refl _).alloc _
  have h3 := blk_lt (k6.blk HB.out.xb)
  exact ⟨HB.out.step (k6.trans kW), by omega, b, b1, _, bc1, b2, _, bc2, b3, _, bc3, by rw [e1, e2]; exact blk_new _ _, hv, hb.gro kW⟩)
 clear hv hb k6
 go_upto_if 43 with fail
 obtain ⟨W7, hW7⟩ : ∃ W7, W7 = w6.alloc (Obj.cells #[.int .i64 b.round, .slice b1 b.ps.length bc1, .slice b2 b.os.length bc2, .slice b3 b.ws.length bc3] 28) := ⟨_, rfl⟩
 have HT := yy (hTW.out W7 _ hW7 rfl)
 rw [← hW7]
 clear hW7 hTW HB
 generalize w6.heap.size = Y at HT ⊢
 go_cut [] (fun wx => Hid (TW w w2 wx g #[.slice g1 g.vs.length gc1, .slice g2 g.es.length gc2, .slice g3 g.ds.length gc3] w2.heap.size A a a1 a.ps.length c1 a2 a.os.length c2 a3 a.ws.length c3 Y))
 case first =>
  cases on with
  | false =>
   go_wp2_with fail
   go_meet
   exact HT
  | true =>
  have HA := HT.out.la
  obtain ⟨b, b1, bn1, bc1, b2, bn2, bc2, b3, bn3, bc3, hN, hvb, hbk⟩ := HT.out.nb
  have cQ := blk_cell HT.out.la.xb
  have z3 := cQ 0
  have z4 := cQ 1
  have z5 := cQ 2
  have z6 := cQ 3
  simp only [lPa, lPb, lPc] at z3 z4 z5 z6
  clear cQ
  have hlX := blk_lt HT.out.la.xb
  have cQ := blk_cell hN
  have y0 := cQ 0
  have y1 := cQ 1
  have y2 := cQ 2
  have y3 := cQ 3
  simp only [lPa, lPb, lPc] at y0 y1 y2 y3
  clear cQ
  have hlY := blk_lt hN
  have fQ := blk_frozen hN
  have f0 := fQ 0
  have f1 := fQ 1
  have f2 := fQ 2
  have f3 := fQ 3
  clear fQ
  have nYA : ¬ (Y = A) := by have := HT.out.ay; omega
  have nAY : ¬ (A = Y) := by have := HT.out.ay; omega
  have HT1 := yy (HT.out.put HT.out.la.vb HT.out.la.bv)
  clear HT HA hN hvb hbk
  go_wp2_with fail
  go_loopw [17] (fun t wr => ∃ i : Nat, i ≤ ys.length ∧ t = .int .i64 i ∧ Hid (TW w w2 wr g #[.slice g1 g.vs.length gc1, .slice g2 g.es.length gc2, .slice g3 g.ds.length gc3] w2.heap.size A a a1 a.ps.length c1 a2 a.os.length c2 a3 a.ws.length c3 Y)) (fun t _ => ys.length - (intOf t).toNat)
  case atStart => exact ⟨0, Nat.zero_le _, by go_num, HT1⟩
  case round =>
  clear HT1 z3 z4 z5 z6 hlX y0 y1 y2 y3 hlY f0 f1 f2 f3
  obtain ⟨i, hi, rfl, HM⟩ := hrel
  by_cases hlt : i < ys.length ∧ i < 6
  ·obtain ⟨hlt1, hlt2⟩ := hlt
   obtain ⟨B, off, rfl, hB, hc⟩ := HYL.out.base hlt1
   obtain ⟨b, d1, l1, m1, d2, l2, m2, d3, l3, m3, hN, hvb, hbk⟩ := HM.out.nb
   have HVB := yy hvb
   obtain ⟨d0, d1', d2', d3', d4, d5⟩ := acells6 hc hlt1
   have hx := HYO.out _ (List.getElem_mem hlt1)
   generalize ys[i] = x at d0 d1' d2' d3' d4 d5 hx
   obtain ⟨x0, x1, x2, x3, x4, x5⟩ := x
   obtain ⟨rx0, rx1, rx2, rx3, rx4, rx5⟩ := hx
   simp only at d0 d1' d2' d3' d4 d5 rx0 rx1 rx2 rx3 rx4 rx5
   have hgr := HM.out.la.gro
   have d0 := hgr.cell d0
   have d1' := hgr.cell d1'
   have d2' := hgr.cell d2'
   have d3' := hgr.cell d3'
   have d4 := hgr.cell d4
   have d5 := hgr.cell d5
   have hlB := World.block_lt_of_cell? _ _ d0
   clear hgr hc hvb
   go_wp2_with fail
   have hS : (fun w' => w'.heap[w2.heap.size]? = some (.cells #[.slice g1 g.vs.length gc1, .slice g2 g.es.length gc2, .slice g3 g.ds.length gc3] 38 (0, 0)) ∧ w'.heap[Y]? = some (.cells #[.int .i64 b.round, .slice d1 l1 m1, .slice d2 l2 m2, .slice d3 l3 m3] 28 (0, 0)) ∧ (w'.cell? ⟨B, off + i * 6, none⟩ = some (Value.int IntKind.i64 x0) ∧ w'.cell? ⟨B, off + i * 6 + 1, none⟩ = some (Value.int IntKind.i64 x1) ∧ w'.cell? ⟨B, off + i * 6 + 2, none⟩ = some (Value.int IntKind.i64 x2) ∧ w'.cell? ⟨B, off + i * 6 + 3, none⟩ = some (Value.int IntKind.i64 x3) ∧ w'.cell? ⟨B, off + i * 6 + 4, none⟩ = some (Value.int IntKind.i64 x4) ∧ w'.cell? ⟨B, off + i * 6 + 5, none⟩ = some (Value.int IntKind.i64 x5))) wr.drew := ⟨(Gro.refl wr).drew.blk HM.out.la.rb, (Gro.refl wr).drew.blk hN, (Gro.refl wr).drew.cell d0, (Gro.refl wr).drew.cell d1', (Gro.refl wr).drew.cell d2', (Gro.refl wr).drew.cell d3', (Gro.refl wr).drew.cell d4, (Gro.refl wr).drew.cell d5⟩
   refine anyM_begin 10 (fun w' => w'.heap[w2.heap.size]? = some (.cells #[.slice g1 g.vs.length gc1, .slice g2 g.es.length gc2, .slice g3 g.ds.length gc3] 38 (0, 0)) ∧ w'.heap[Y]? = some (.cells #[.int .i64 b.round, .slice d1 l1 m1, .slice d2 l2 m2, .slice d3 l3 m3] 28 (0, 0)) ∧ (w'.cell? ⟨B, off + i * 6, none⟩ = some (Value.int IntKind.i64 x0) ∧ w'.cell? ⟨B, off + i * 6 + 1, none⟩ = some (Value.int IntKind.i64 x1) ∧ w'.cell? ⟨B, off + i * 6 + 2, none⟩ = some (Value.int IntKind.i64 x2) ∧ w'.cell? ⟨B, off + i * 6 + 3, none⟩ = some (Value.int IntKind.i64 x3) ∧ w'.cell? ⟨B, off + i * 6 + 4, none⟩ = some (Value.int IntKind.i64 x4) ∧ w'.cell? ⟨B, off + i * 6 + 5, none⟩ = some (Value.int IntKind.i64 x5))) (by kernel_rfl) ?_
   have HMd := yy (HM.out.step (Gro.refl wr).drew)
   have HBd := yy (hbk.gro (Gro.refl wr).drew)
   clear d0 d1' d2' d3' d4 d5 HM hlB hN hbk
   generalize wr.drew = wd at hS HMd HBd ⊢
   refine anyM_take (i := 0) (v := ?_) rfl (by kernel_rfl) (by kernel_rfl) (by kernel_rfl) (by kernel_rfl) (by kernel_rfl) (fun _ _ _ h => h) (Or.inl ⟨rfl, ?_⟩) hS ?_
   rotate_left
   ·exact lfT81
   refine nx ?_
   refine anyM_take (i := 1) (v := ?_) rfl (by kernel_rfl) (by kernel_rfl) (by kernel_rfl) (by kernel_rfl) (by kernel_rfl) (fun _ _ _ h => h) (Or.inl ⟨rfl, ?_⟩) hS ?_
   rotate_left
   ·exact lfT81
   refine nx ?_
   refine anyM_take (i := 2) (v := ?_) rfl (by kernel_rfl) (by kernel_rfl) (by kernel_rfl) (by kernel_rfl) (by kernel_rfl) (fun _ _ _ h => h) (Or.inl ⟨rfl, ?_⟩) hS ?_
   rotate_left
   ·exact lfT81
   refine nx ?_
   refine anyM_take (i := 3) (v := ?_) rfl (by kernel_rfl) (by kernel_rfl) (by kernel_rfl) (by kernel_rfl) (by kernel_rfl) (fun _ _ _ h => h) (Or.inl ⟨rfl, ?_⟩) hS ?_
   rotate_left
   ·exact lfT81
   refine nx ?_
   refine anyM_take (i := 4) (v := ?_) rfl (by kernel_rfl) (by kernel_rfl) (by kernel_rfl) (by kernel_rfl) (by kernel_rfl) (fun _ _ _ h => h) (Or.inl ⟨rfl, ?_⟩) hS ?_
   rotate_left
   ·exact lfT81
   refine nx ?_
   refine anyM_take (i := 5) (v := ?_) rfl (by kernel_rfl) (by kernel_rfl) (by kernel_rfl) (by kernel_rfl) (by kernel_rfl) (fun _ _ _ h => h) (Or.inl ⟨rfl, ?_⟩) hS ?_
   rotate_left
   ·exact lfT81
   refine nx ?_
   refine anyM_one (i := 6) (by kernel_rfl) rfl (fun K hK => ?_)
   go_simp
   refine (deed45 (HG.out.old HMd.out.la.kp) HBd.out HVB.out HPOS.out x0 x1 x2 x3 x4 x5 rx0 rx1 rx2 rx3 rx4 rx5).mono ?_
   rintro e w5 ⟨b', v', rr, rfl, hvb, hbk5, k5⟩
   obtain ⟨p5, o5, q5, rfl, ⟨s1, t1, rfl, lp5⟩, ⟨s2, t2, rfl, lo5⟩, ⟨s3, t3, rfl, lq5⟩⟩ := hbk5
   generalize hz1 : b'.ps.length = z1 at lp5
   generalize hz2 : b'.os.length = z2 at lo5
   generalize hz3 : b'.ws.length = z3 at lq5
   have HP5 : Hid (BkV w5 (.agg #[.int .i64 b'.round, .slice s1 z1 t1, .slice s2 z2 t2, .slice s3 z3 t3]) b') := yy (by rw [← hz1, ← hz2, ← hz3] at *; exact ⟨_, _, _, rfl, ⟨_, _, rfl, lp5⟩, ⟨_, _, rfl, lo5⟩, ⟨_, _, rfl, lq5⟩⟩)
   have HM2 := yy ((HMd.out.step k5).put hvb HP5.out)
   have hS5 : (fun w' => w'.heap[w2.heap.size]? = some (.cells #[.slice g1 g.vs.length gc1, .slice g2 g.es.length gc2, .slice g3 g.ds.length gc3] 38 (0, 0)) ∧ w'.heap[Y]? = some (.cells #[.int .i64 b.round, .slice d1 l1 m1, .slice d2 l2 m2, .slice d3 l3 m3] 28 (0, 0)) ∧ (w'.cell? ⟨B, off + i * 6, none⟩ = some (Value.int IntKind.i64 x0) ∧ w'.cell? ⟨B, off + i * 6 + 1, none⟩ = some (Value.int IntKind.i64 x1) ∧ w'.cell? ⟨B, off + i * 6 + 2, none⟩ = some (Value.int IntKind.i64 x2) ∧ w'.cell? ⟨B, off + i * 6 + 3, none⟩ = some (Value.int IntKind.i64 x3) ∧ w'.cell? ⟨B, off + i * 6 + 4, none⟩ = some (Value.int IntKind.i64 x4) ∧ w'.cell? ⟨B, off + i * 6 + 5, none⟩ = some (Value.int IntKind.i64 x5))) w5 := ⟨k5.blk hS.1, k5.blk hS.2.1, k5.cell hS.2.2.1, k5.cell hS.2.2.2.1, k5.cell hS.2.2.2.2.1, k5.cell hS.2.2.2.2.2.1, k5.cell hS.2.2.2.2.2.2.1, k5.cell hS.2.2.2.2.2.2.2⟩
   clear lp5 lo5 lq5 hz1 hz2 hz3 hvb k5
   refine hK.out _ _ (fun _ _ => hS5) ?_
   clear hK K
   try refine nx ?_
   have hS := hS5
   clear hS5
   refine anyM_take (i := 7) (v := ?_) rfl (by kernel_rfl) (by kernel_rfl) (by kernel_rfl) (by kernel_rfl) (by kernel_rfl) (fun _ _ _ h => h) (Or.inl ⟨rfl, ?_⟩) hS ?_
   rotate_left
   ·exact lfT81
   refine nx ?_
   refine anyM_take (i := 8) (v := ?_) rfl (by kernel_rfl) (by kernel_rfl) (by kernel_rfl) (by kernel_rfl) (by kernel_rfl) (fun _ _ _ h => h) (Or.inl ⟨rfl, ?_⟩) hS ?_
   rotate_left
   ·exact lfT81
   refine nx ?_
   refine anyM_takeY (i := 9) (v := ?_) rfl (by kernel_rfl) (by kernel_rfl) (by kernel_rfl) (by decide) (by decide) (fun _ _ _ h => h) (Or.inl ⟨rfl, ?_⟩) hS ?_
   rotate_left
   ·(intro w _; go_simp; try with_reducible rfl)
   refine nx ?_
   have fz := blk_frozen hS.2.1
   have fz0 := fz 0
   have fz1 := fz 1
   have fz2 := fz 2
   have fz3 := fz 3
   have ct := blk_cell hS.2.1
   have ct0 := ct 0
   have ct1 := ct 1
   have ct2 := ct 2
   have ct3 := ct 3
   simp only [lPa, lPb, lPc] at ct0 ct1 ct2 ct3
   have hlT := blk_lt hS.2.1
   clear fz ct
   refine anyM_one (i := 10) (by kernel_rfl) rfl (fun K hK => ?_)
   go_simp
   refine hK.out _ _ (fun h _ => absurd rfl h) ?_
   clear hK K
   try refine nx ?_
   refine anyM_done (by kernel_rfl) ?_
   go_wp2_with fail
   go_roundw
   case rel => exact ⟨i + 1, by omega, by go_num, HM2⟩
   case measure => simp [intOf]; omega
  by_cases h3a : i < ys.length
  ·have h3b : ¬ i < 6 := fun h => hlt ⟨h3a, h⟩
   have hd8 := decide_eq_false (show ¬ (i : Int) < 6 by omega)
   go_wp2_with fail
   (try simp only [Exit.inBlock, Exit.then])
   go_meet
   exact HM
  go_wp2_with fail
  (try simp only [Exit.inBlock, Exit.then])
  go_meet
  exact HM
 case rest =>
 obtain ⟨b, b1, bn1, bc1, b2, bn2, bc2, b3, bn3, bc3, hN, hvb, p9, o9, q9, e9, hp9, ho9, hq9⟩ := hcut.out.nb
 injection e9 with e9
 simp only [Array.mk.injEq, List.cons.injEq, true_and, and_true] at e9
 obtain ⟨rfl, rfl, rfl⟩ := e9
 obtain ⟨_, _, e1, l1⟩ := hp9
 obtain ⟨_, _, e2, l2⟩ := ho9
 obtain ⟨_, _, e3, l3⟩ := hq9
 injection e1 with i1 i2 i3
 injection e2 with j1 j2 j3
 injection e3 with k1 k2 k3
 subst i1 i2 i3 j1 j2 j3 k1 k2 k3
 have HB := yy hcut.out.la
 have BY := yy hN
 have VBY := yy hvb
 have VY := yy (show BkV wc (.agg #[.int .i64 b.round, .slice b1 b.ps.length bc1, .slice b2 b.os.length bc2, .slice b3 b.ws.length bc3]) b from ⟨_, _, _, rfl, ⟨_, _, rfl, l1⟩, ⟨_, _, rfl, l2⟩, ⟨_, _, rfl, l3⟩⟩)
 clear hN hvb l1 l2 l3 hcut HT
 have cQ := blk_cell HB.out.rb
 have z0 := cQ 0
 have z1 := cQ 1
 have z2 := cQ 2
 simp only [lPa, lPb, lPc] at z0 z1 z2
 clear cQ
 have hlR := blk_lt HB.out.rb
 have cQ := blk_cell HB.out.xb
 have z3 := cQ 0
 have z4 := cQ 1
 have z5 := cQ 2
 have z6 := cQ 3
 simp only [lPa, lPb, lPc] at z3 z4 z5 z6
 clear cQ
 have hlX := blk_lt HB.out.xb
 have cQ := blk_cell BY.out
 have y0 := cQ 0
 have y1 := cQ 1
 have y2 := cQ 2
 have y3 := cQ 3
 simp only [lPa, lPb, lPc] at y0 y1 y2 y3
 clear cQ
 have hlY := blk_lt BY.out
 have hga : graphOf g a = some (build g a) := by unfold graphOf; rw [if_pos HB.out.vb.true]
 have hgb : graphOf g b = some (build g b) := by unfold graphOf; rw [if_pos VBY.out.true]
 have hcx : changesOf g a b = some (chgs (build g a) (build g b)) := by unfold changesOf; rw [if_pos ⟨HB.out.vb.true, VBY.out.true⟩]
 have hcs : changesOf g a a = some [] := by unfold changesOf; rw [if_pos ⟨HB.out.vb.true, HB.out.vb.true⟩, chgs_self (valid_build HB.out.vb)]
 have hgo := go_books HB.out.vb VBY.out
 have HVX := yy (valid_build HB.out.vb)
 have HVY := yy (valid_build VBY.out)
 generalize build g a = x at hga hcx hgo HVX
 generalize build g b = y at hgb hcx hgo HVY
 have HGA := yy hga
 have HGB := yy hgb
 have HCX := yy hcx
 have HCS := yy hcs
 have HGO := yy hgo
 clear hga hgb hcx hcs hgo
 go_wp2_with fail
 refine (graph30 (HG.out.old HB.out.kp) HB.out.bv HB.out.vb.fits).mono ?_
 rintro _ w6 ⟨k6, h6⟩
 rw [HGA.out] at h6
 rcases h6 with ⟨G', v', e', rfl, hg'⟩ | ⟨hno, _⟩
 rotate_left
 ·cases hno
 injection e' with e'
 subst e'
 obtain ⟨p1, pc1, p2, pc2, p3, pc3, rfl⟩ := hg'.open
 have VP := yy hg'
 clear hg' HGA
 have HB := yy (HB.out.step k6)
 have BY := yy (k6.blk BY.out)
 have VY := yy (VY.out.gro k6)
 clear z0 z1 z2 z3 z4 z5 z6 y0 y1 y2 y3 hlR hlX hlY k6
 have cQ := blk_cell HB.out.rb
 have z0 := cQ 0
 have z1 := cQ 1
 have z2 := cQ 2
 simp only [lPa, lPb, lPc] at z0 z1 z2
 clear cQ
 have hlR := blk_lt HB.out.rb
 have cQ := blk_cell HB.out.xb
 have z3 := cQ 0
 have z4 := cQ 1
 have z5 := cQ 2
 have z6 := cQ 3
 simp only [lPa, lPb, lPc] at z3 z4 z5 z6
 clear cQ
 have hlX := blk_lt HB.out.xb
 have cQ := blk_cell BY.out
 have y0 := cQ 0
 have y1 := cQ 1
 have y2 := cQ 2
 have y3 := cQ 3
 simp only [lPa, lPb, lPc] at y0 y1 y2 y3
 clear cQ
 have hlY := blk_lt BY.out
 obtain ⟨W7, hW7⟩ : ∃ W7, W7 = w6.alloc (Obj.cells #[.slice p1 x.vs.length pc1, .slice p2 x.es.length pc2, .slice p3 x.ds.length pc3] 38) := ⟨_, rfl⟩
 have k7 : Gro w6 W7 := by rw [hW7]; exact (Gro.refl _).alloc _
 have BP : Hid (W7.heap[w6.heap.size]? = some (.cells #[.slice p1 x.vs.length pc1, .slice p2 x.es.length pc2, .slice p3 x.ds.length pc3] 38 (0, 0))) := yy (by rw [hW7]; exact blk_new _ _)
 go_wp2_with fail
 rw [← hW7]
 clear hW7
 generalize w6.heap.size = P at BP ⊢
 have HB := yy (HB.out.step k7)
 have BY := yy (k7.blk BY.out)
 have VY := yy (VY.out.gro k7)
 have VP := yy (VP.out.gro k7)
 clear z0 z1 z2 z3 z4 z5 z6 y0 y1 y2 y3 hlR hlX hlY k7
 refine (graph30 (HG.out.old HB.out.kp) VY.out VBY.out.fits).mono ?_
 rintro _ w8 ⟨k8, h8⟩
 rw [HGB.out] at h8
 rcases h8 with ⟨G', v', e', rfl, hg'⟩ | ⟨hno, _⟩
 rotate_left
 ·cases hno
 injection e' with e'
 subst e'
 obtain ⟨q1, qc1, q2, qc2, q3, qc3, rfl⟩ := hg'.open
 have VQ := yy hg'
 clear hg' HGB
 have HB := yy (HB.out.step k8)
 have BY := yy (k8.blk BY.out)
 have VY := yy (VY.out.gro k8)
 have VP := yy (VP.out.gro k8)
 have BP := yy (k8.blk BP.out)
 clear k8
 have cQ := blk_cell HB.out.rb
 have z0 := cQ 0
 have z1 := cQ 1
 have z2 := cQ 2
 simp only [lPa, lPb, lPc] at z0 z1 z2
 clear cQ
 have hlR := blk_lt HB.out.rb
 have cQ := blk_cell HB.out.xb
 have z3 := cQ 0
 have z4 := cQ 1
 have z5 := cQ 2
 have z6 := cQ 3
 simp only [lPa, lPb, lPc] at z3 z4 z5 z6
 clear cQ
 have hlX := blk_lt HB.out.xb
 have cQ := blk_cell BY.out
 have y0 := cQ 0
 have y1 := cQ 1
 have y2 := cQ 2
 have y3 := cQ 3
 simp only [lPa, lPb, lPc] at y0 y1 y2 y3
 clear cQ
 have hlY := blk_lt BY.out
 obtain ⟨W9, hW9⟩ : ∃ W9, W9 = w8.alloc (Obj.cells #[.slice q1 y.vs.length qc1, .slice q2 y.es.length qc2, .slice q3 y.ds.length qc3] 38) := ⟨_, rfl⟩
 have k9 : Gro w8 W9 := by rw [hW9]; exact (Gro.refl _).alloc _
 have BQ : Hid (W9.heap[w8.heap.size]? = some (.cells #[.slice q1 y.vs.length qc1, .slice q2 y.es.length qc2, .slice q3 y.ds.length qc3] 38 (0, 0))) := yy (by rw [hW9]; exact blk_new _ _)
 go_wp2_with fail
 rw [← hW9]
 clear hW9
 generalize w8.heap.size = Q at BQ ⊢
 have HB := yy (HB.out.step k9)
 have BY := yy (k9.blk BY.out)
 have VY := yy (VY.out.gro k9)
 have VP := yy (VP.out.gro k9)
 have BP := yy (k9.blk BP.out)
 have VQ := yy (VQ.out.gro k9)
 clear z0 z1 z2 z3 z4 z5 z6 y0 y1 y2 y3 hlR hlX hlY k9
 refine (changes32 (HG.out.old HB.out.kp) HB.out.bv VY.out HB.out.vb.fits VBY.out.fits).mono ?_
 rintro _ w10 ⟨k10, h10⟩
 rw [HCX.out] at h10
 rcases h10 with ⟨cl, cv, e', rfl, hcl⟩ | ⟨hno, _⟩
 rotate_left
 ·cases hno
 injection e' with e'
 subst e'
 have VC := yy hcl
 clear hcl HCX
 have HB := yy (HB.out.step k10)
 have BY := yy (k10.blk BY.out)
 have VY := yy (VY.out.gro k10)
 have VP := yy (VP.out.gro k10)
 have BP := yy (k10.blk BP.out)
 have VQ := yy (VQ.out.gro k10)
 have BQ := yy (k10.blk BQ.out)
 clear k10
 have cQ := blk_cell HB.out.rb
 have z0 := cQ 0
 have z1 := cQ 1
 have z2 := cQ 2
 simp only [lPa, lPb, lPc] at z0 z1 z2
 clear cQ
 have hlR := blk_lt HB.out.rb
 have cQ := blk_cell HB.out.xb
 have z3 := cQ 0
 have z4 := cQ 1
 have z5 := cQ 2
 have z6 := cQ 3
 simp only [lPa, lPb, lPc] at z3 z4 z5 z6
 clear cQ
 have hlX := blk_lt HB.out.xb
 go_wp2_with fail
 refine (changes32 (HG.out.old HB.out.kp) HB.out.bv HB.out.bv HB.out.vb.fits HB.out.vb.fits).mono ?_
 rintro _ w11 ⟨k11, h11⟩
 rw [HCS.out] at h11
 rcases h11 with ⟨nl, nv, e', rfl, hnl⟩ | ⟨hno, _⟩
 rotate_left
 ·cases hno
 injection e' with e'
 subst e'
 obtain ⟨na, nc, rfl, _⟩ := hnl
 clear HCS
 have HB := yy (HB.out.step k11)
 have BY := yy (k11.blk BY.out)
 have VY := yy (VY.out.gro k11)
 have VP := yy (VP.out.gro k11)
 have BP := yy (k11.blk BP.out)
 have VQ := yy (VQ.out.gro k11)
 have BQ := yy (k11.blk BQ.out)
 have VC := yy (VC.out.gro k11)
 clear z0 z1 z2 z3 z4 z5 z6 hlR hlX k11
 have cQ := blk_cell BP.out
 have r0 := cQ 0
 have r1 := cQ 1
 have r2 := cQ 2
 simp only [lPa, lPb, lPc] at r0 r1 r2
 clear cQ
 have hlP := blk_lt BP.out
 obtain ⟨ca, cc, rfl, hcl⟩ := VC.out
 clear hcl
 go_wp2_with fail
 have hgx : GAt w11 (.slice p1 x.vs.length pc1) (.slice p2 x.es.length pc2) (.slice p3 x.ds.length pc3) x := by
  obtain ⟨_, _, _, e, hx⟩ := VP.out
  injection e with e
  simp only [Array.mk.injEq, List.cons.injEq, and_true] at e
  obtain ⟨rfl, rfl, rfl⟩ := e
  exact hx
 refine (all46 hgx HVX.out VC.out HGO.out.1).mono ?_
 rintro _ w12 ⟨u1, u2, u3, rfl, hg12, k12⟩
 rw [HGO.out.2] at hg12
 obtain ⟨⟨t1, d1, rfl, o1⟩, ⟨t2, d2, rfl, o2⟩, ⟨t3, d3, rfl, o3⟩⟩ := hg12
 have HG12 : Hid (GAt w12 (.slice t1 y.vs.length d1) (.slice t2 y.es.length d2) (.slice t3 y.ds.length d3) y) := yy ⟨⟨_, _, rfl, o1⟩, ⟨_, _, rfl, o2⟩, ⟨_, _, rfl, o3⟩⟩
 clear o1 o2 o3 hgx VP HVX HGO VC VY BY BP
 have HB := yy (HB.out.step k12)
 have BQ := yy (k12.blk BQ.out)
 have VQ := yy (VQ.out.gro k12)
 clear k12 r0 r1 r2 hlP
 obtain ⟨W13, hW13⟩ : ∃ W13, W13 = w12.alloc (Obj.cells #[.slice t1 y.vs.length d1, .slice t2 y.es.length d2, .slice t3 y.ds.length d3] 38) := ⟨_, rfl⟩
 have k13 : Gro w12 W13 := by rw [hW13]; exact (Gro.refl _).alloc _
 have BE : Hid (W13.heap[w12.heap.size]? = some (.cells #[.slice t1 y.vs.length d1, .slice t2 y.es.length d2, .slice t3 y.ds.length d3] 38 (0, 0))) := yy (by rw [hW13]; exact blk_new _ _)
 have BQ13 := yy (k13.blk BQ.out)
 have cA : Hid (∀ i v, w12.cell? ⟨Q, i, none⟩ = some v → w12.cell? ⟨Q, i, none⟩ = some v) := yy (fun _ _ h => h)
 clear cA
 have cQ := blk_cell BQ.out
 have s0 := cQ 0
 have s1 := cQ 1
 have s2 := cQ 2
 simp only [lPa, lPb, lPc] at s0 s1 s2
 clear cQ
 have hlQ := blk_lt BQ.out
 have nQ : ¬ (Q = w12.heap.size) := by omega
 go_wp2_with fail
 rw [← hW13]
 clear hW13
 have hgy : GAt W13 (.slice q1 y.vs.length qc1) (.slice q2 y.es.length qc2) (.slice q3 y.ds.length qc3) y := by
  obtain ⟨_, _, _, e, hx⟩ := VQ.out
  injection e with e
  simp only [Array.mk.injEq, List.cons.injEq, and_true] at e
  obtain ⟨rfl, rfl, rfl⟩ := e
  exact hx.gro k13
 refine (same47 (HG12.out.gro k13) hgy).mono ?_
 rintro _ w14 ⟨rfl, k14⟩
 have KF := yy ((HB.out.gro.trans k13).trans k14)
 clear HG12 hgy k13 k14 BE BQ13 BQ VQ HB s0 s1 s2 hlQ
 go_wp2_with fail
 go_ret
 exact ⟨rfl, KF.out⟩
end Go.Proofs.YthfagcdjbmhhcaaGreat
