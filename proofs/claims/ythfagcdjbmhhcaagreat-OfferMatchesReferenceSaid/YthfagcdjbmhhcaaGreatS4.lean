/- the reference: keeps. -/
import Derived.Test.YthfagcdjbmhhcaaGreatK14
set_option linter.unusedVariables false
set_option linter.unusedSimpArgs false
namespace Go.Proofs.YthfagcdjbmhhcaaGreat
open Go.RowKit
attribute [local irreducible] wpQuiet
/-- the first vertex of this number is this vertex -/
def keepsB (g : Gr) (v : Vtx) : Bool := match g.vs.find? fun y => y.id == v.id with | some y => decide (y = v) | none => false
set_option maxHeartbeats 2000000 in
set_option maxRecDepth 100000 in
theorem keeps86 {w : World} {vg : Value} {g : Gr} (hG : GrV w vg g) (hf : g.few) (v : Vtx) : Calls Tryz.prog 86 #[vg, .agg #[.int .i64 v.id, .int .i64 v.side]] w fun e w' => e = .returned (.bool (keepsB g v)) ∧ Gro w w' := by
 have hmix := mixed
 obtain ⟨v1, v2, v3, rfl, hg⟩ := hG
 obtain ⟨a1, n1, rfl, l1⟩ := hg.vs
 obtain ⟨a2, n2, rfl, l2⟩ := hg.es
 obtain ⟨a3, n3, rfl, l3⟩ := hg.ds
 have fv := hf.vs
 obtain ⟨wa, hwa⟩ : ∃ wa, wa = (w.alloc (.cells #[Value.slice a1 g.vs.length n1, Value.slice a2 g.es.length n2, Value.slice a3 g.ds.length n3] 38)).alloc (.cells #[.int .i64 v.id, .int .i64 v.side] 77) := ⟨_, rfl⟩
 have k0 : Gro w wa := by rw [hwa]; exact ((Gro.refl _).alloc _).alloc _
 have bG : wa.heap[w.heap.size]? = some (.cells #[Value.slice a1 g.vs.length n1, Value.slice a2 g.es.length n2, Value.slice a3 g.ds.length n3] 38 (0, 0)) := by rw [hwa]; exact blk_alloc (blk_new _ _) _
 have bV : wa.heap[w.heap.size + 1]? = some (.cells #[.int .i64 v.id, .int .i64 v.side] 77 (0, 0)) := by
  rw [hwa]
  have := blk_new (w.alloc (.cells #[Value.slice a1 g.vs.length n1, Value.slice a2 g.es.length n2, Value.slice a3 g.ds.length n3] 38)) (.cells #[.int .i64 v.id, .int .i64 v.side] 77)
  rw [asz] at this
  exact this
 have HP := yy (place39 (w := wa) ⟨_, _, _, rfl, hg.gro k0⟩ hf v.id)
 have HW := yy hwa
 have K0 := yy k0
 have BG := yy bG
 have BV := yy bV
 have L1 := yy (l1.gro k0)
 have hc := fidx_cases (g.vs.map Vtx.id) v.id
 generalize fidx (g.vs.map Vtx.id) v.id = f at HP hc
 clear hg l1 l2 l3 hf k0 bG bV hwa
 rcases hc with ⟨rfl, hm⟩ | ⟨i, hi0, rfl, hid, hl⟩
 ·have hr : keepsB g v = false := by
   have : (g.vs.find? fun y => y.id == v.id) = none := by
    rw [List.find?_eq_none]
    intro y hy
    simp only [beq_iff_eq]
    exact fun e => hm (List.mem_map.2 ⟨y, hy, e⟩)
   unfold keepsB
   rw [this]
  have HR := yy hr
  clear hr hm
  go_enter Tryz.func86, Tryz.ntmps86
  go_wp2_with fail
  rw [← HW.out]
  refine HP.out.mono ?_
  rintro e w1 ⟨rfl, k1⟩
  have K1 := yy (K0.out.trans k1)
  clear k1 HP
  go_wp2_with fail
  go_ret
  exact ⟨by rw [HR.out]; rfl, K1.out⟩
 have hi : i < g.vs.length := by simpa using hi0
 simp only [List.getElem_map] at hid
 have hr : keepsB g v = decide (g.vs[i] = v) := by
  have : (g.vs.find? fun y => y.id == v.id) = some g.vs[i] := by
   rw [List.find?_eq_some_iff_getElem]
   refine ⟨by simp [hid], i, hi, rfl, fun j hj => ?_⟩
   have := hl j (by simp; omega) hj
   simp only [List.getElem_map] at this
   simpa using this
  unfold keepsB
  rw [this]
 have hE := eqin77 g.vs[i] v
 generalize hd : decide (g.vs[i] = v) = d at hr hE
 have HR := yy hr
 have HE := yy hE
 clear hr hl hid hd hE
 go_enter Tryz.func86, Tryz.ntmps86
 go_wp2_with fail
 rw [← HW.out]
 refine HP.out.mono ?_
 rintro e w1 ⟨rfl, k1⟩
 have K1 := yy (K0.out.trans k1)
 have q0 := blk_cell (k1.blk BG.out) 0
 have cv := blk_cell (k1.blk BV.out)
 have z0 := cv 0
 have z1 := cv 1
 simp only [lPa, lPb, lPc] at q0 z0 z1
 have hlg := blk_lt (k1.blk BG.out)
 have hlv := blk_lt (k1.blk BV.out)
 obtain ⟨B, off, rfl, hb, hc⟩ := (L1.out.gro k1).base hi
 obtain ⟨d0, d1⟩ := vcells hc hi
 have hlB := World.block_lt_of_cell? _ _ d0
 have hE := HE.out
 generalize g.vs[i] = y at d0 d1 hE
 have hneg : ¬ ((i : Int) < 0) := by omega
 have hgd : Tryz.prog.eqGuardType Tryz.prog.depth 77 = false := by kernel_rfl
 have q0 := gcell q0
 have z0 := gcell z0
 have z1 := gcell z1
 have d0 := gcell d0
 have d1 := gcell d1
 clear k1 HP hc cv HE
 go_wp2_with fail
 go_quiet_grown (fail)
 have kq := gro_of_grow w1 nq osq
 dsimp only at kq ⊢
 clear q0 z0 z1 d0 d1
 generalize Go.Sort.grow (w1.drewN nq) osq = w3 at kq ⊢
 have KQ := yy (K1.out.trans kq)
 clear kq
 go_wp2_with fail
 go_ret
 exact ⟨by rw [HR.out]; rfl, KQ.out⟩
end Go.Proofs.YthfagcdjbmhhcaaGreat
