/- the reference: Graph. -/
import Derived.Test.YthfagcdjbmhhcaaGreatK20
import Derived.Test.YthfagcdjbmhhcaaGreatK14
set_option linter.unusedVariables false
set_option linter.unusedSimpArgs false
namespace Go.Proofs.YthfagcdjbmhhcaaGreat
open Go.RowKit
attribute [local irreducible] wpQuiet
set_option maxHeartbeats 2000000 in
theorem rgraph31 {w : World} {vg vb : Value} {g : Gr} {b : Bk} (hG : GrV w vg g) (hB : BkV w vb b) (hf : Fits g b) :
  Calls Tryz.prog 31 #[vg, vb] w (GrPost w (graphOf g b)) := by
 have hmix := mixed
 obtain ⟨v1, v2, v3, rfl, hg⟩ := hG
 obtain ⟨p, o, q, rfl, hp, ho, hq⟩ := hB
 obtain ⟨a1, n1, rfl, l1⟩ := hg.vs
 obtain ⟨a2, n2, rfl, l2⟩ := hg.es
 obtain ⟨a3, n3, rfl, l3⟩ := hg.ds
 obtain ⟨ap, np, rfl, lp⟩ := hp
 obtain ⟨ao, no, rfl, lo⟩ := ho
 obtain ⟨aq, mq, rfl, lq⟩ := hq
 have HP := yy (show LV w (.slice ap b.ps.length np) b.ps from ⟨_, _, rfl, lp⟩)
 have HO := yy (show LV w (.slice ao b.os.length no) b.os from ⟨_, _, rfl, lo⟩)
 have HQ := yy (show LV w (.slice aq b.ws.length mq) b.ws from ⟨_, _, rfl, lq⟩)
 have HGA := yy hg
 have HF := yy hf
 clear hg lp lo lq l1 l2 l3 hf
 go_enter Tryz.func31, Tryz.ntmps31
 go_wp2_with fail
 obtain ⟨wa, hwa⟩ : ∃ wa, wa = ((w.alloc (Obj.cells #[Value.slice a1 g.vs.length n1, Value.slice a2 g.es.length n2, Value.slice a3 g.ds.length n3] 38)).alloc (Obj.cells #[Value.int IntKind.i64 b.round, Value.slice ap b.ps.length np, Value.slice ao b.os.length no, Value.slice aq b.ws.length mq] 28)).alloc (Obj.cells #[Value.slice none 0 0, Value.slice none 0 0, Value.slice none 0 0] 38) := ⟨_, rfl⟩
 have k0 : Gro w wa := by rw [hwa]; exact (((Gro.refl _).alloc _).alloc _).alloc _
 have bT : wa.heap[w.heap.size + 1 + 1]? = some (.cells #[.slice none 0 0, .slice none 0 0, .slice none 0 0] 38 (0, 0)) := by
  rw [hwa]
  have := blk_new ((w.alloc (Obj.cells #[Value.slice a1 g.vs.length n1, Value.slice a2 g.es.length n2, Value.slice a3 g.ds.length n3] 38)).alloc (Obj.cells #[Value.int IntKind.i64 b.round, Value.slice ap b.ps.length np, Value.slice ao b.os.length no, Value.slice aq b.ws.length mq] 28)) (Obj.cells #[Value.slice none 0 0, Value.slice none 0 0, Value.slice none 0 0] 38)
  rw [asz, asz] at this
  exact this
 have bG : wa.heap[w.heap.size]? = some (.cells #[Value.slice a1 g.vs.length n1, Value.slice a2 g.es.length n2, Value.slice a3 g.ds.length n3] 38 (0, 0)) := by rw [hwa]; exact blk_alloc (blk_alloc (blk_new _ _) _) _
 have bB : wa.heap[w.heap.size + 1]? = some (.cells #[Value.int IntKind.i64 b.round, Value.slice ap b.ps.length np, Value.slice ao b.os.length no, Value.slice aq b.ws.length mq] 28 (0, 0)) := by
  rw [hwa]
  have := blk_new (w.alloc (Obj.cells #[Value.slice a1 g.vs.length n1, Value.slice a2 g.es.length n2, Value.slice a3 g.ds.length n3] 38)) (Obj.cells #[Value.int IntKind.i64 b.round, Value.slice ap b.ps.length np, Value.slice ao b.os.length no, Value.slice aq b.ws.length mq] 28)
  rw [asz] at this
  exact blk_alloc this _
 rw [← hwa]
 clear hwa
 have GV : ∀ W, Gro w W → GrV W (.agg #[Value.slice a1 g.vs.length n1, Value.slice a2 g.es.length n2, Value.slice a3 g.ds.length n3]) g := fun W hW => ⟨_, _, _, rfl, HGA.out.gro hW⟩
 have BV : ∀ W, Gro w W → BkV W (.agg #[Value.int IntKind.i64 b.round, Value.slice ap b.ps.length np, Value.slice ao b.os.length no, Value.slice aq b.ws.length mq]) b := fun W hW => ⟨_, _, _, rfl, HP.out.gro hW, HO.out.gro hW, HQ.out.gro hW⟩
 have HGV := yy GV
 have HBV := yy BV
 clear GV BV
 refine (valid15 (HGV.out _ k0) (HBV.out _ k0) HF.out).mono ?_
 rintro e w1 ⟨rfl, k1⟩
 have K1 := yy (k0.trans k1)
 have BT := yy (k1.blk bT)
 have cg := blk_cell (k1.blk bG)
 have g0 := cg 0
 have g1 := cg 1
 have g2 := cg 2
 have cb := blk_cell (k1.blk bB)
 have b0 := cb 0
 have b1c := cb 1
 have b2c := cb 2
 have b3c := cb 3
 simp only [lPa, lPb, lPc] at g0 g1 g2 b0 b1c b2c b3c
 have hlg := blk_lt (k1.blk bG)
 have hlb := blk_lt (k1.blk bB)
 clear k0 k1 bT bG bB cg cb
 have hszT : w.heap.size ≤ w.heap.size + 1 + 1 := by omega
 cases hv : validB g b with
 | true =>
  have HV := yy hv
  have HGC := yy (build57 (HGV.out _ K1.out) (HBV.out _ K1.out) HF.out.gfew HF.out.bfew HF.out.v HF.out.e)
  clear hv
  go_wp2_with fail
  refine HGC.out.mono ?_
  rintro e w2 ⟨r1, r2, r3, rfl, hgr, k2⟩
  obtain ⟨b1, m1, rfl, l1⟩ := hgr.vs
  obtain ⟨b2, m2, rfl, l2⟩ := hgr.es
  obtain ⟨b3, m3, rfl, l3⟩ := hgr.ds
  have HGR := yy (show GAt w2 (.slice b1 (build g b).vs.length m1) (.slice b2 (build g b).es.length m2) (.slice b3 (build g b).ds.length m3) (build g b) from ⟨⟨_, _, rfl, l1⟩, ⟨_, _, rfl, l2⟩, ⟨_, _, rfl, l3⟩⟩)
  have BQ := yy (k2.blk BT.out)
  have KQ := yy (K1.out.trans k2)
  clear l1 l2 l3 hgr k2 HGC
  generalize (build g b).vs.length = N1 at HGR
  generalize (build g b).es.length = N2 at HGR
  generalize (build g b).ds.length = N3 at HGR
  have d2 := blk_frozen BQ.out
  have e2 := blk_cell BQ.out
  have f0 := d2 0
  have f1 := d2 1
  have f2 := d2 2
  have c0 := e2 0
  have c1 := e2 1
  have c2 := e2 2
  simp only [lPa, lPb, lPc] at c0 c1 c2
  have hl := World.block_lt_of_cell? w2 _ c0
  clear d2 e2
  go_wp2_with fail
  have B5 := set3 BQ.out (.slice b1 N1 m1) (.slice b2 N2 m2) (.slice b3 N3 m3)
  have K5 := kept3 KQ.out (.inr hszT) (.slice b1 N1 m1) (.slice b2 N2 m2) (.slice b3 N3 m3)
  have K6 := kept3 (F := (· = w.heap.size + 1 + 1)) (Kept.refl (· = w.heap.size + 1 + 1) w2) (.inl rfl) (.slice b1 N1 m1) (.slice b2 N2 m2) (.slice b3 N3 m3)
  refine bodyPost_ret (results_cell_tmp_row (p := 4) (u := 5) (ty := 38) rfl _ _ (w.heap.size + 1 + 1) 38 _ (0, 0) _ rfl B5 Tryz.underlying38 rfl (by kernel_rfl)) rfl ⟨K5, .inl ⟨build g b, _, by simp [graphOf, HV.out], rfl, ⟨_, _, _, rfl, ?_, ?_, ?_⟩⟩⟩
  ·exact HGR.out.vs.far3 K6 BQ.out (by decide) (fun x => ⟨x.id, rfl⟩)
  ·exact HGR.out.es.far3 K6 BQ.out (by decide) (fun x => ⟨x.id, rfl⟩)
  exact HGR.out.ds.far3 K6 BQ.out (by decide) (fun x => ⟨x, rfl⟩)
 | false =>
 have HV := yy hv
 clear hv
 have d2 := blk_frozen BT.out
 have e2 := blk_cell BT.out
 have f0 := d2 0
 have f1 := d2 1
 have f2 := d2 2
 have c0 := e2 0
 have c1 := e2 1
 have c2 := e2 2
 simp only [lPa, lPb, lPc] at c0 c1 c2
 have hl := World.block_lt_of_cell? w1 _ c0
 clear d2 e2
 go_wp2_with fail
 have B5 := set3 BT.out (.slice none 0 0) (.slice none 0 0) (.slice none 0 0)
 have K5 := kept3 K1.out (.inr hszT) (.slice none 0 0) (.slice none 0 0) (.slice none 0 0)
 refine bodyPost_ret (results_cell_tmp_row (p := 4) (u := 5) (ty := 38) rfl _ _ (w.heap.size + 1 + 1) 38 _ (0, 0) _ rfl B5 Tryz.underlying38 rfl (by kernel_rfl)) rfl ⟨K5, .inr ⟨by simp [graphOf, HV.out], rfl⟩⟩
end Go.Proofs.YthfagcdjbmhhcaaGreat
