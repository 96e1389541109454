/- the reference: Made. -/
import Derived.Test.YthfagcdjbmhhcaaGreatK25
import Derived.Test.YthfagcdjbmhhcaaGreatK18
set_option linter.unusedVariables false
set_option linter.unusedSimpArgs false
namespace Go.Proofs.YthfagcdjbmhhcaaGreat
open Go.RowKit
attribute [local irreducible] wpQuiet
theorem lfR171 {P : Prop} (h : P := by (intro w0 hSw; obtain ⟨hSg, hSx, e0, e1, e2, e3, e4, e5⟩ := hSw; have hlB := World.block_lt_of_cell? _ _ e0; have cb := blk_cell hSg; have cb0 := cb 0; have cb1 := cb 1; have cb2 := cb 2; have cx := blk_cell hSx; have cx0 := cx 0; have cx1 := cx 1; have cx2 := cx 2; have cx3 := cx 3; simp only [lPa, lPb, lPc] at cb0 cb1 cb2 cx0 cx1 cx2 cx3; have cbl := blk_lt hSg; have cxl := blk_lt hSx; clear cb cx hSg hSx; go_simp; try with_reducible rfl)) : P := h
structure MX (w wr : World) (g : Gr) (cg : Array Value) (X : Nat) : Prop where
 gb : wr.heap[w.heap.size]? = some (.cells cg 38 (0, 0))
 tb : wr.heap[w.heap.size + 1]? = some (.cells #[Value.int IntKind.i64 0, Value.slice none 0 0, Value.slice none 0 0, Value.slice none 0 0] 28 (0, 0))
 gro : Gro w wr
 lo : w.heap.size + 1 < X
 nb : ∃ (b : Bk) (a1 : Option Addr) (n1 c1 : Nat) (a2 : Option Addr) (n2 c2 : Nat) (a3 : Option Addr) (n3 c3 : Nat), wr.heap[X]? = some (.cells #[.int .i64 b.round, .slice a1 n1 c1, .slice a2 n2 c2, .slice a3 n3 c3] 28 (0, 0)) ∧ VB g b ∧ BkV wr (.agg #[.int .i64 b.round, .slice a1 n1 c1, .slice a2 n2 c2, .slice a3 n3 c3]) b
theorem MX.step {w wr w' : World} {g : Gr} {cg : Array Value} {X : Nat} (h : MX w wr g cg X) (k : Gro wr w') : MX w w' g cg X := by
 obtain ⟨b, a1, n1, c1, a2, n2, c2, a3, n3, c3, hN, hv, hb⟩ := h.nb
 exact ⟨k.blk h.gb, k.blk h.tb, h.gro.trans k, h.lo, b, a1, n1, c1, a2, n2, c2, a3, n3, c3, k.blk hN, hv, hb.gro k⟩
theorem MX.put {w wr w' : World} {g : Gr} {cg : Array Value} {X : Nat} {b : Bk} {a1 a2 a3 : Option Addr} {n1 n2 n3 c1 c2 c3 : Nat} (h : MX w wr g cg X) (k : Gro wr w') (hv : VB g b) (hb : BkV w' (.agg #[.int .i64 b.round, .slice a1 n1 c1, .slice a2 n2 c2, .slice a3 n3 c3]) b) :
  MX w ((((w'.setCell ⟨X, 0, none⟩ (.int .i64 b.round)).setCell ⟨X, 1, none⟩ (.slice a1 n1 c1)).setCell ⟨X, 2, none⟩ (.slice a2 n2 c2)).setCell ⟨X, 3, none⟩ (.slice a3 n3 c3)) g cg X := by
 have h' := h.step k
 obtain ⟨_, _, _, _, _, _, _, _, _, _, hN, _⟩ := h'.nb
 have kk := kept4 (Kept.refl (· = X) w') (.inl rfl) (.int .i64 b.round) (.slice a1 n1 c1) (.slice a2 n2 c2) (.slice a3 n3 c3)
 have hl := h.lo
 obtain ⟨p, o, q, e, lp, lo, lq⟩ := hb
 exact ⟨kk.blk h'.gb (by omega), kk.blk h'.tb (by omega), kept4 h'.gro (.inr (by omega : w.heap.size ≤ X)) _ _ _ _, hl, b, a1, n1, c1, a2, n2, c2, a3, n3, c3, set4 hN _ _ _ _, hv, p, o, q, e, lp.farB kk hN (by decide) (fun x => ⟨x.id, x.budget, rfl, rfl⟩), lo.farB kk hN (by decide) (fun x => ⟨x.id, x.party, rfl, rfl⟩), lq.farB kk hN (by decide) (fun x => ⟨x.edge, x.src, rfl, rfl⟩)⟩
def MadePost (w : World) (g : Gr) (e : Ending) (w' : World) : Prop := ∃ v b, e = .returned v ∧ VB g b ∧ BkV w' v b ∧ Gro w w'
set_option maxHeartbeats 16000000 in
set_option maxRecDepth 100000 in
theorem made11 {w : World} {vg : Value} {g : Gr} (hG : GrV w vg g) (hVG : VG g) (hs0 : ∀ x ∈ g.vs, x.side = 0) (hpos : 0 < g.vs.length) (n : Int) (hn : I64 n) {lv : Value} {l : List A6} (hl : LV w lv l) (hok : ∀ x ∈ l, x.ok) :
  Calls Tryz.prog 11 #[vg, .int .i64 n, lv] w (MadePost w g) := by
 have hmix := mixed
 obtain ⟨al, cl, rfl, hll⟩ := hl
 have hbig := hll.big
 obtain ⟨v1, v2, v3, rfl, hg0⟩ := hG
 obtain ⟨a1, n1, rfl, l1⟩ := hg0.vs
 obtain ⟨a2, n2, rfl, l2⟩ := hg0.es
 obtain ⟨a3, n3, rfl, l3⟩ := hg0.ds
 have HGW : Hid (∀ W, Gro w W → GrV W (.agg #[Value.slice a1 g.vs.length n1, Value.slice a2 g.es.length n2, Value.slice a3 g.ds.length n3]) g) := yy (fun W hW => ⟨_, _, _, rfl, hg0.gro hW⟩)
 have HL := yy hll
 have HOK := yy hok
 have HPOS := yy hpos
 have HVS := yy (And.intro hVG hs0)
 obtain ⟨wa, hwa⟩ : ∃ wa, wa = (w.alloc (Obj.cells #[Value.slice a1 g.vs.length n1, Value.slice a2 g.es.length n2, Value.slice a3 g.ds.length n3] 38)).alloc (Obj.cells #[Value.int IntKind.i64 0, Value.slice none 0 0, Value.slice none 0 0, Value.slice none 0 0] 28) := ⟨_, rfl⟩
 have k0 : Gro w wa := by rw [hwa]; exact ((Gro.refl _).alloc _).alloc _
 have bG : wa.heap[w.heap.size]? = some (.cells #[Value.slice a1 g.vs.length n1, Value.slice a2 g.es.length n2, Value.slice a3 g.ds.length n3] 38 (0, 0)) := by rw [hwa]; exact blk_alloc (blk_new _ _) _
 have bT : wa.heap[w.heap.size + 1]? = some (.cells #[Value.int IntKind.i64 0, Value.slice none 0 0, Value.slice none 0 0, Value.slice none 0 0] 28 (0, 0)) := by
  rw [hwa]
  have := blk_new (w.alloc (Obj.cells #[Value.slice a1 g.vs.length n1, Value.slice a2 g.es.length n2, Value.slice a3 g.ds.length n3] 38)) (Obj.cells #[Value.int IntKind.i64 0, Value.slice none 0 0, Value.slice none 0 0, Value.slice none 0 0] 28)
  rw [asz] at this
  exact this
 have HE := yy (empty49 (w := wa) n hn)
 have HWA := yy hwa
 have K0 := yy k0
 have BG := yy bG
 have BT := yy bT
 clear hg0 l1 l2 l3 hll hok hpos hwa k0 bG bT hVG hs0 hn
 go_enter Tryz.func11, Tryz.ntmps11
 go_wp2_with fail
 rw [← HWA.out]
 clear HWA
 refine HE.out.mono ?_
 rintro e w1 ⟨x, y, z, v, rfl, hbk, k1, hx, hy, hz⟩
 obtain ⟨p, o, q, rfl, ⟨ap, cp, rfl, lp⟩, ⟨ao, co, rfl, lo⟩, ⟨aq, cq, rfl, lq⟩⟩ := hbk
 have HVE := yy (emptyB_VB HVS.out.1 HVS.out.2 hx hy hz)
 generalize emptyB x y z = b0 at lp lo lq HVE ⊢
 generalize hz1 : b0.ps.length = z1 at lp ⊢
 generalize hz2 : b0.os.length = z2 at lo ⊢
 generalize hz3 : b0.ws.length = z3 at lq ⊢
 have hbb : BkV w1 (.agg #[.int .i64 b0.round, .slice ap z1 cp, .slice ao z2 co, .slice aq z3 cq]) b0 := by
  subst hz1 hz2 hz3
  exact ⟨_, _, _, rfl, ⟨_, _, rfl, lp⟩, ⟨_, _, rfl, lo⟩, ⟨_, _, rfl, lq⟩⟩
 have HM0 : Hid (∀ W X, W = w1.alloc (Obj.cells #[.int .i64 b0.round, .slice ap z1 cp, .slice ao z2 co, .slice aq z3 cq] 28) → X = w1.heap.size → MX w W g #[Value.slice a1 g.vs.length n1, Value.slice a2 g.es.length n2, Value.slice a3 g.ds.length n3] X) := yy (fun W X e1 e2 => by
  have kW : Gro w1 W := by rw [e1]; exact (Gro.refl _).alloc _
  have kk := k1.trans kW
  have := blk_lt (k1.blk BT.out)
  exact ⟨kk.blk BG.out, kk.blk BT.out, K0.out.trans kk, by omega, b0, ap, z1, cp, ao, z2, co, aq, z3, cq, by rw [e1, e2]; exact blk_new _ _, HVE.out, hbb.gro kW⟩)
 clear lp lo lq k1 hx hy hz hz1 hz2 hz3 hbb HE BG BT K0
 go_wp2_with fail
 obtain ⟨w2, hw2⟩ : ∃ w2, w2 = w1.alloc (Obj.cells #[.int .i64 b0.round, .slice ap z1 cp, .slice ao z2 co, .slice aq z3 cq] 28) := ⟨_, rfl⟩
 have HM := yy (HM0.out w2 _ hw2 rfl)
 rw [← hw2]
 clear hw2 HM0
 generalize w1.heap.size = X at HM ⊢
 go_loopw [8] (fun t wr => ∃ i : Nat, i ≤ l.length ∧ t = .int .i64 i ∧ Hid (MX w wr g #[Value.slice a1 g.vs.length n1, Value.slice a2 g.es.length n2, Value.slice a3 g.ds.length n3] X)) (fun t _ => l.length - (intOf t).toNat)
 case atStart => exact ⟨0, Nat.zero_le _, by go_num, HM⟩
 case round =>
 refine nameGoal fun auxP auxH _ => ?_
 letI auxN : Nonempty auxP := ⟨by
  refine auxH ?_
  clear HM
  obtain ⟨i, hi, rfl, HM⟩ := hrel
  by_cases hlt : i < l.length ∧ i < 24
  ·obtain ⟨hlt1, hlt2⟩ := hlt
   obtain ⟨B, off, rfl, hB, hc⟩ := HL.out.base hlt1
   obtain ⟨b, d1, l1, m1, d2, l2, m2, d3, l3, m3, hN, hvb, hbk⟩ := HM.out.nb
   have HVB := yy hvb
   obtain ⟨d0, d1', d2', d3', d4, d5⟩ := acells6 hc hlt1
   have hx := HOK.out _ (List.getElem_mem hlt1)
   generalize l[i] = x at d0 d1' d2' d3' d4 d5 hx
   obtain ⟨x0, x1, x2, x3, x4, x5⟩ := x
   obtain ⟨rx0, rx1, rx2, rx3, rx4, rx5⟩ := hx
   simp only at d0 d1' d2' d3' d4 d5 rx0 rx1 rx2 rx3 rx4 rx5
   have hgr := HM.out.gro
   have d0 := hgr.cell d0
   have d1' := hgr.cell d1'
   have d2' := hgr.cell d2'
   have d3' := hgr.cell d3'
   have d4 := hgr.cell d4
   have d5 := hgr.cell d5
   have hlB := World.block_lt_of_cell? _ _ d0
   clear hgr hc hvb
   go_wp2_with fail
   have hS : (fun w' => w'.heap[w.heap.size]? = some (.cells #[Value.slice a1 g.vs.length n1, Value.slice a2 g.es.length n2, Value.slice a3 g.ds.length n3] 38 (0, 0)) ∧ w'.heap[X]? = some (.cells #[.int .i64 b.round, .slice d1 l1 m1, .slice d2 l2 m2, .slice d3 l3 m3] 28 (0, 0)) ∧ (w'.cell? ⟨B, off + i * 6, none⟩ = some (Value.int IntKind.i64 x0) ∧ w'.cell? ⟨B, off + i * 6 + 1, none⟩ = some (Value.int IntKind.i64 x1) ∧ w'.cell? ⟨B, off + i * 6 + 2, none⟩ = some (Value.int IntKind.i64 x2) ∧ w'.cell? ⟨B, off + i * 6 + 3, none⟩ = some (Value.int IntKind.i64 x3) ∧ w'.cell? ⟨B, off + i * 6 + 4, none⟩ = some (Value.int IntKind.i64 x4) ∧ w'.cell? ⟨B, off + i * 6 + 5, none⟩ = some (Value.int IntKind.i64 x5))) wr.drew := ⟨(Gro.refl wr).drew.blk HM.out.gb, (Gro.refl wr).drew.blk hN, (Gro.refl wr).drew.cell d0, (Gro.refl wr).drew.cell d1', (Gro.refl wr).drew.cell d2', (Gro.refl wr).drew.cell d3', (Gro.refl wr).drew.cell d4, (Gro.refl wr).drew.cell d5⟩
   refine anyM_begin 10 (fun w' => w'.heap[w.heap.size]? = some (.cells #[Value.slice a1 g.vs.length n1, Value.slice a2 g.es.length n2, Value.slice a3 g.ds.length n3] 38 (0, 0)) ∧ w'.heap[X]? = some (.cells #[.int .i64 b.round, .slice d1 l1 m1, .slice d2 l2 m2, .slice d3 l3 m3] 28 (0, 0)) ∧ (w'.cell? ⟨B, off + i * 6, none⟩ = some (Value.int IntKind.i64 x0) ∧ w'.cell? ⟨B, off + i * 6 + 1, none⟩ = some (Value.int IntKind.i64 x1) ∧ w'.cell? ⟨B, off + i * 6 + 2, none⟩ = some (Value.int IntKind.i64 x2) ∧ w'.cell? ⟨B, off + i * 6 + 3, none⟩ = some (Value.int IntKind.i64 x3) ∧ w'.cell? ⟨B, off + i * 6 + 4, none⟩ = some (Value.int IntKind.i64 x4) ∧ w'.cell? ⟨B, off + i * 6 + 5, none⟩ = some (Value.int IntKind.i64 x5))) (by kernel_rfl) ?_
   have HMd := yy (HM.out.step (Gro.refl wr).drew)
   have HBd := yy (hbk.gro (Gro.refl wr).drew)
   clear d0 d1' d2' d3' d4 d5 HM hlB hN hbk
   generalize wr.drew = wd at hS HMd HBd ⊢
   refine anyM_take (i := 0) (v := ?_) rfl (by kernel_rfl) (by kernel_rfl) (by kernel_rfl) (by kernel_rfl) (by kernel_rfl) (fun _ _ _ h => h) (Or.inl ⟨rfl, ?_⟩) hS ?_
   rotate_left
   ·exact lfR171
   refine nx ?_
   refine anyM_take (i := 1) (v := ?_) rfl (by kernel_rfl) (by kernel_rfl) (by kernel_rfl) (by kernel_rfl) (by kernel_rfl) (fun _ _ _ h => h) (Or.inl ⟨rfl, ?_⟩) hS ?_
   rotate_left
   ·exact lfR171
   refine nx ?_
   refine anyM_take (i := 2) (v := ?_) rfl (by kernel_rfl) (by kernel_rfl) (by kernel_rfl) (by kernel_rfl) (by kernel_rfl) (fun _ _ _ h => h) (Or.inl ⟨rfl, ?_⟩) hS ?_
   rotate_left
   ·exact lfR171
   refine nx ?_
   refine anyM_take (i := 3) (v := ?_) rfl (by kernel_rfl) (by kernel_rfl) (by kernel_rfl) (by kernel_rfl) (by kernel_rfl) (fun _ _ _ h => h) (Or.inl ⟨rfl, ?_⟩) hS ?_
   rotate_left
   ·exact lfR171
   refine nx ?_
   refine anyM_take (i := 4) (v := ?_) rfl (by kernel_rfl) (by kernel_rfl) (by kernel_rfl) (by kernel_rfl) (by kernel_rfl) (fun _ _ _ h => h) (Or.inl ⟨rfl, ?_⟩) hS ?_
   rotate_left
   ·exact lfR171
   refine nx ?_
   refine anyM_take (i := 5) (v := ?_) rfl (by kernel_rfl) (by kernel_rfl) (by kernel_rfl) (by kernel_rfl) (by kernel_rfl) (fun _ _ _ h => h) (Or.inl ⟨rfl, ?_⟩) hS ?_
   rotate_left
   ·exact lfR171
   refine nx ?_
   refine anyM_one (i := 6) (by kernel_rfl) rfl (fun K hK => ?_)
   go_simp
   refine (deed45 (HGW.out _ HMd.out.gro) HBd.out HVB.out HPOS.out x0 x1 x2 x3 x4 x5 rx0 rx1 rx2 rx3 rx4 rx5).mono ?_
   rintro e w5 ⟨b', v', rr, rfl, hvb, hbk5, k5⟩
   obtain ⟨p5, o5, q5, rfl, ⟨s1, t1, rfl, lp5⟩, ⟨s2, t2, rfl, lo5⟩, ⟨s3, t3, rfl, lq5⟩⟩ := hbk5
   generalize hz1 : b'.ps.length = z1 at lp5
   generalize hz2 : b'.os.length = z2 at lo5
   generalize hz3 : b'.ws.length = z3 at lq5
   have HP5 : Hid (BkV w5 (.agg #[.int .i64 b'.round, .slice s1 z1 t1, .slice s2 z2 t2, .slice s3 z3 t3]) b') := yy (by rw [← hz1, ← hz2, ← hz3] at *; exact ⟨_, _, _, rfl, ⟨_, _, rfl, lp5⟩, ⟨_, _, rfl, lo5⟩, ⟨_, _, rfl, lq5⟩⟩)
   have HM2 := yy (HMd.out.put k5 hvb HP5.out)
   have hS5 : (fun w' => w'.heap[w.heap.size]? = some (.cells #[Value.slice a1 g.vs.length n1, Value.slice a2 g.es.length n2, Value.slice a3 g.ds.length n3] 38 (0, 0)) ∧ w'.heap[X]? = some (.cells #[.int .i64 b.round, .slice d1 l1 m1, .slice d2 l2 m2, .slice d3 l3 m3] 28 (0, 0)) ∧ (w'.cell? ⟨B, off + i * 6, none⟩ = some (Value.int IntKind.i64 x0) ∧ w'.cell? ⟨B, off + i * 6 + 1, none⟩ = some (Value.int IntKind.i64 x1) ∧ w'.cell? ⟨B, off + i * 6 + 2, none⟩ = some (Value.int IntKind.i64 x2) ∧ w'.cell? ⟨B, off + i * 6 + 3, none⟩ = some (Value.int IntKind.i64 x3) ∧ w'.cell? ⟨B, off + i * 6 + 4, none⟩ = some (Value.int IntKind.i64 x4) ∧ w'.cell? ⟨B, off + i * 6 + 5, none⟩ = some (Value.int IntKind.i64 x5))) w5 := ⟨k5.blk hS.1, k5.blk hS.2.1, k5.cell hS.2.2.1, k5.cell hS.2.2.2.1, k5.cell hS.2.2.2.2.1, k5.cell hS.2.2.2.2.2.1, k5.cell hS.2.2.2.2.2.2.1, k5.cell hS.2.2.2.2.2.2.2⟩
   clear lp5 lo5 lq5 hz1 hz2 hz3 hvb k5
   refine hK.out _ _ (fun _ _ => hS5) ?_
   clear hK K
   try refine nx ?_
   have hS := hS5
   clear hS5
   refine anyM_take (i := 7) (v := ?_) rfl (by kernel_rfl) (by kernel_rfl) (by kernel_rfl) (by kernel_rfl) (by kernel_rfl) (fun _ _ _ h => h) (Or.inl ⟨rfl, ?_⟩) hS ?_
   rotate_left
   ·exact lfR171
   refine nx ?_
   refine anyM_take (i := 8) (v := ?_) rfl (by kernel_rfl) (by kernel_rfl) (by kernel_rfl) (by kernel_rfl) (by kernel_rfl) (fun _ _ _ h => h) (Or.inl ⟨rfl, ?_⟩) hS ?_
   rotate_left
   ·exact lfR171
   refine nx ?_
   refine anyM_takeY (i := 9) (v := ?_) rfl (by kernel_rfl) (by kernel_rfl) (by kernel_rfl) (by decide) (by decide) (fun _ _ _ h => h) (Or.inl ⟨rfl, ?_⟩) hS ?_
   rotate_left
   ·(intro w _; go_simp; try with_reducible rfl)
   refine nx ?_
   have fz := blk_frozen hS.2.1
   have fz0 := fz 0
   have fz1 := fz 1
   have fz2 := fz 2
   have fz3 := fz 3
   have ct := blk_cell hS.2.1
   have ct0 := ct 0
   have ct1 := ct 1
   have ct2 := ct 2
   have ct3 := ct 3
   simp only [lPa, lPb, lPc] at ct0 ct1 ct2 ct3
   have hlT := blk_lt hS.2.1
   clear fz ct
   refine anyM_one (i := 10) (by kernel_rfl) rfl (fun K hK => ?_)
   go_simp
   refine hK.out _ _ (fun h _ => absurd rfl h) ?_
   clear hK K
   try refine nx ?_
   refine anyM_done (by kernel_rfl) ?_
   go_wp2_with fail
   go_roundw
   case rel => first | exact ⟨i + 1, by omega, by go_num, HM2⟩ | trace_state
   case measure => simp [intOf]; omega
  obtain ⟨b, d1, l1, m1, d2, l2, m2, d3, l3, m3, hN, hvb, p9, o9, q9, e9, hp9, ho9, hq9⟩ := HM.out.nb
  injection e9 with e9
  simp only [Array.mk.injEq, List.cons.injEq, true_and, and_true] at e9
  obtain ⟨rfl, rfl, rfl⟩ := e9
  have cX := blk_cell hN
  have u0 := cX 0
  have u1 := cX 1
  have u2 := cX 2
  have u3 := cX 3
  have cT := blk_cell HM.out.tb
  have t0 := cT 0
  have t1 := cT 1
  have t2 := cT 2
  have t3 := cT 3
  have fT := blk_frozen HM.out.tb
  have f0 := fT 0
  have f1 := fT 1
  have f2 := fT 2
  have f3 := fT 3
  simp only [lPa, lPb, lPc] at u0 u1 u2 u3 t0 t1 t2 t3
  have hlX := blk_lt hN
  have hlT := blk_lt HM.out.tb
  have B5 := yy (set4 HM.out.tb (.int .i64 b.round) (.slice d1 l1 m1) (.slice d2 l2 m2) (.slice d3 l3 m3))
  have K5 := yy (kept4 HM.out.gro (.inr (Nat.le_succ _)) (.int .i64 b.round) (.slice d1 l1 m1) (.slice d2 l2 m2) (.slice d3 l3 m3))
  have kk := kept4 (Kept.refl (· = w.heap.size + 1) wr) (.inl rfl) (.int .i64 b.round) (.slice d1 l1 m1) (.slice d2 l2 m2) (.slice d3 l3 m3)
  have Q0 := yy (hp9.farB kk HM.out.tb (by decide) (fun x => ⟨x.id, x.budget, rfl, rfl⟩))
  have Q1 := yy (ho9.farB kk HM.out.tb (by decide) (fun x => ⟨x.id, x.party, rfl, rfl⟩))
  have Q2 := yy (hq9.farB kk HM.out.tb (by decide) (fun x => ⟨x.edge, x.src, rfl, rfl⟩))
  have HV9 := yy hvb
  clear cX cT fT kk hp9 ho9 hq9 hvb hN
  by_cases h3a : i < l.length
  ·have h3b : ¬ i < 24 := fun h => hlt ⟨h3a, h⟩
   have hd8 := decide_eq_false (show ¬ (i : Int) < 24 by omega)
   go_wp2_with fail
   refine bodyPost_ret (results_cell_row (p := 6) (ty := 28) rfl _ _ (w.heap.size + 1) 28 _ (0, 0) _ rfl B5.out Tryz.underlying28 rfl (by kernel_rfl)) rfl ⟨_, b, rfl, HV9.out, ⟨_, _, _, rfl, Q0.out, Q1.out, Q2.out⟩, K5.out⟩
  go_wp2_with fail
  refine bodyPost_ret (results_cell_row (p := 6) (ty := 28) rfl _ _ (w.heap.size + 1) 28 _ (0, 0) _ rfl B5.out Tryz.underlying28 rfl (by kernel_rfl)) rfl ⟨_, b, rfl, HV9.out, ⟨_, _, _, rfl, Q0.out, Q1.out, Q2.out⟩, K5.out⟩⟩
 exact (show Nonempty auxP from inferInstanceAs (Nonempty auxP)).elim id
end Go.Proofs.YthfagcdjbmhhcaaGreat
