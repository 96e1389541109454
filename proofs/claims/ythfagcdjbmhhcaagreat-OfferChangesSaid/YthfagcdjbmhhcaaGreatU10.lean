/- graph.Same of equal graphs. -/
import Derived.Test.YthfagcdjbmhhcaaGreatK17
set_option linter.unusedVariables false
set_option linter.unusedSimpArgs false
namespace Go.Proofs.YthfagcdjbmhhcaaGreat
open Go.RowKit
attribute [local irreducible] wpQuiet
set_option maxHeartbeats 2000000 in
set_option maxRecDepth 100000 in
theorem eq104 {w : World} {u v : Value} {l : List Vtx} (hu : LV w u l) (hv : LV w v l) : Calls Tryz.prog 104 #[u, v] w fun e w' => e = .returned (.bool true) ∧ Gro w w' := by
 have hmix := mixed
 obtain ⟨a1, n1, rfl, l1⟩ := hu
 obtain ⟨a2, n2, rfl, l2⟩ := hv
 have hb1 := l1.big
 have hb2 := l1.cap
 have hb3 := l2.cap
 have H1 := yy l1
 have H2 := yy l2
 clear l1 l2
 go_enter Tryz.func104, Tryz.ntmps104
 go_wp2
 go_loopw [13] (fun t wr => ∃ k : Nat, k ≤ l.length ∧ t = .int .i64 k ∧ Gro w wr) (fun t _ => l.length - (intOf t).toNat)
 case atStart => exact ⟨0, Nat.zero_le _, by go_num, Kept.refl _ _⟩
 case round =>
 obtain ⟨k, hk, rfl, hg⟩ := hrel
 have HG := yy hg
 clear hg
 by_cases hlt : k < l.length
 ·obtain ⟨b, off, rfl, hb, hc⟩ := Lst.base H1.out hlt
  obtain ⟨b', off', rfl, hb', hc'⟩ := Lst.base H2.out hlt
  obtain ⟨c0, c1⟩ := vcells (fun i v hv => HG.out.cell (hc i v hv)) hlt
  obtain ⟨d0, d1⟩ := vcells (fun i v hv => HG.out.cell (hc' i v hv)) hlt
  have hlb := World.block_lt_of_cell? _ _ c0
  have hlb' := World.block_lt_of_cell? _ _ d0
  clear hc hc'
  generalize l[k] = x at c0 c1 d0 d1
  have c0 := gcell c0
  have c1 := gcell c1
  have d0 := gcell d0
  have d1 := gcell d1
  go_wp2_with fail
  go_quiet_grown (fail)
  have kq := gro_of_grow wr nq osq
  dsimp only at kq ⊢
  clear c0 c1 d0 d1
  generalize Go.Sort.grow (wr.drewN nq) osq = w3 at kq ⊢
  have HG3 := yy (HG.out.trans kq)
  clear kq
  go_wp2_with fail
  go_roundw
  case rel => exact ⟨k + 1, by omega, by go_num, HG3.out⟩
  case measure => simp [intOf]; omega
 go_wp2
 go_ret
 exact ⟨rfl, HG.out⟩
set_option maxHeartbeats 2000000 in
set_option maxRecDepth 100000 in
theorem eq105 {w : World} {u v : Value} {l : List Edg} (hu : LV w u l) (hv : LV w v l) : Calls Tryz.prog 105 #[u, v] w fun e w' => e = .returned (.bool true) ∧ Gro w w' := by
 have hmix := mixed
 obtain ⟨a1, n1, rfl, l1⟩ := hu
 obtain ⟨a2, n2, rfl, l2⟩ := hv
 have hb1 := l1.big
 have hb2 := l1.cap
 have hb3 := l2.cap
 have H1 := yy l1
 have H2 := yy l2
 clear l1 l2
 go_enter Tryz.func105, Tryz.ntmps105
 go_wp2
 go_loopw [13] (fun t wr => ∃ k : Nat, k ≤ l.length ∧ t = .int .i64 k ∧ Gro w wr) (fun t _ => l.length - (intOf t).toNat)
 case atStart => exact ⟨0, Nat.zero_le _, by go_num, Kept.refl _ _⟩
 case round =>
 obtain ⟨k, hk, rfl, hg⟩ := hrel
 have HG := yy hg
 clear hg
 by_cases hlt : k < l.length
 ·obtain ⟨b, off, rfl, hb, hc⟩ := Lst.base H1.out hlt
  obtain ⟨b', off', rfl, hb', hc'⟩ := Lst.base H2.out hlt
  obtain ⟨c0, c1, c2, c3, c4, c5⟩ := ecells (fun i v hv => HG.out.cell (hc i v hv)) hlt
  obtain ⟨d0, d1, d2, d3, d4, d5⟩ := ecells (fun i v hv => HG.out.cell (hc' i v hv)) hlt
  have hlb := World.block_lt_of_cell? _ _ c0
  have hlb' := World.block_lt_of_cell? _ _ d0
  clear hc hc'
  generalize l[k] = x at c0 c1 c2 c3 c4 c5 d0 d1 d2 d3 d4 d5
  have c0 := gcell c0
  have c1 := gcell c1
  have c2 := gcell c2
  have c3 := gcell c3
  have c4 := gcell c4
  have c5 := gcell c5
  have d0 := gcell d0
  have d1 := gcell d1
  have d2 := gcell d2
  have d3 := gcell d3
  have d4 := gcell d4
  have d5 := gcell d5
  go_wp2_with fail
  go_quiet_grown (fail)
  have kq := gro_of_grow wr nq osq
  dsimp only at kq ⊢
  clear c0 c1 c2 c3 c4 c5 d0 d1 d2 d3 d4 d5
  generalize Go.Sort.grow (wr.drewN nq) osq = w3 at kq ⊢
  have HG3 := yy (HG.out.trans kq)
  clear kq
  go_wp2_with fail
  go_roundw
  case rel => exact ⟨k + 1, by omega, by go_num, HG3.out⟩
  case measure => simp [intOf]; omega
 go_wp2
 go_ret
 exact ⟨rfl, HG.out⟩
set_option maxHeartbeats 2000000 in
set_option maxRecDepth 100000 in
theorem eq106 {w : World} {u v : Value} {l : List Int} (hu : LV w u l) (hv : LV w v l) : Calls Tryz.prog 106 #[u, v] w fun e w' => e = .returned (.bool true) ∧ Gro w w' := by
 have hmix := mixed
 obtain ⟨a1, n1, rfl, l1⟩ := hu
 obtain ⟨a2, n2, rfl, l2⟩ := hv
 have hb1 := l1.big
 have hb2 := l1.cap
 have hb3 := l2.cap
 have H1 := yy l1
 have H2 := yy l2
 clear l1 l2
 go_enter Tryz.func106, Tryz.ntmps106
 go_wp2
 go_loopw [13] (fun t wr => ∃ k : Nat, k ≤ l.length ∧ t = .int .i64 k ∧ Gro w wr) (fun t _ => l.length - (intOf t).toNat)
 case atStart => exact ⟨0, Nat.zero_le _, by go_num, Kept.refl _ _⟩
 case round =>
 obtain ⟨k, hk, rfl, hg⟩ := hrel
 have HG := yy hg
 clear hg
 by_cases hlt : k < l.length
 ·obtain ⟨b, off, rfl, hb, hc⟩ := Lst.base H1.out hlt
  obtain ⟨b', off', rfl, hb', hc'⟩ := Lst.base H2.out hlt
  obtain c0 := icells (fun i v hv => HG.out.cell (hc i v hv)) hlt
  obtain d0 := icells (fun i v hv => HG.out.cell (hc' i v hv)) hlt
  have hlb := World.block_lt_of_cell? _ _ c0
  have hlb' := World.block_lt_of_cell? _ _ d0
  clear hc hc'
  generalize l[k] = x at c0 d0
  have c0 := gcell c0
  have d0 := gcell d0
  go_wp2_with fail
  go_quiet_grown (fail)
  have kq := gro_of_grow wr nq osq
  dsimp only at kq ⊢
  clear c0 d0
  generalize Go.Sort.grow (wr.drewN nq) osq = w3 at kq ⊢
  have HG3 := yy (HG.out.trans kq)
  clear kq
  go_wp2_with fail
  go_roundw
  case rel => exact ⟨k + 1, by omega, by go_num, HG3.out⟩
  case measure => simp [intOf]; omega
 go_wp2
 go_ret
 exact ⟨rfl, HG.out⟩
set_option maxHeartbeats 2000000 in
set_option maxRecDepth 100000 in
theorem same47 {w : World} {u1 u2 u3 v1 v2 v3 : Value} {g : Gr} (hu : GAt w u1 u2 u3 g) (hv : GAt w v1 v2 v3 g) : Calls Tryz.prog 47 #[.agg #[u1, u2, u3], .agg #[v1, v2, v3]] w fun e w' => e = .returned (.bool true) ∧ Gro w w' := by
 obtain ⟨⟨a1, n1, rfl, l1⟩, ⟨a2, n2, rfl, l2⟩, ⟨a3, n3, rfl, l3⟩⟩ := hu
 obtain ⟨⟨b1, m1, rfl, k1⟩, ⟨b2, m2, rfl, k2⟩, ⟨b3, m3, rfl, k3⟩⟩ := hv
 have HU : Hid (GAt w (.slice a1 g.vs.length n1) (.slice a2 g.es.length n2) (.slice a3 g.ds.length n3) g) := yy ⟨⟨_, _, rfl, l1⟩, ⟨_, _, rfl, l2⟩, ⟨_, _, rfl, l3⟩⟩
 have HV : Hid (GAt w (.slice b1 g.vs.length m1) (.slice b2 g.es.length m2) (.slice b3 g.ds.length m3) g) := yy ⟨⟨_, _, rfl, k1⟩, ⟨_, _, rfl, k2⟩, ⟨_, _, rfl, k3⟩⟩
 clear l1 l2 l3 k1 k2 k3
 obtain ⟨wa, hwa⟩ : ∃ wa, wa = (w.alloc (Obj.cells #[.slice a1 g.vs.length n1, .slice a2 g.es.length n2, .slice a3 g.ds.length n3] 38)).alloc (Obj.cells #[.slice b1 g.vs.length m1, .slice b2 g.es.length m2, .slice b3 g.ds.length m3] 38) := ⟨_, rfl⟩
 have K0 := yy (show Gro w wa by rw [hwa]; exact ((Gro.refl _).alloc _).alloc _)
 have BA := yy (show wa.heap[w.heap.size]? = some (.cells #[.slice a1 g.vs.length n1, .slice a2 g.es.length n2, .slice a3 g.ds.length n3] 38 (0, 0)) by rw [hwa]; exact blk_alloc (blk_new _ _) _)
 have BB := yy (show wa.heap[w.heap.size + 1]? = some (.cells #[.slice b1 g.vs.length m1, .slice b2 g.es.length m2, .slice b3 g.ds.length m3] 38 (0, 0)) by
  rw [hwa]
  have := blk_new (w.alloc (Obj.cells #[.slice a1 g.vs.length n1, .slice a2 g.es.length n2, .slice a3 g.ds.length n3] 38)) (Obj.cells #[.slice b1 g.vs.length m1, .slice b2 g.es.length m2, .slice b3 g.ds.length m3] 38)
  rw [asz] at this
  exact this)
 go_enter Tryz.func47, Tryz.ntmps47
 go_wp2_with fail
 rw [← hwa]
 clear hwa
 refine (eq104 (HU.out.gro K0.out).vs (HV.out.gro K0.out).vs).mono ?_
 rintro e w1 ⟨rfl, k1⟩
 have K1 := yy (K0.out.trans k1)
 have BA := yy (k1.blk BA.out)
 have BB := yy (k1.blk BB.out)
 have cQ := blk_cell BA.out
 have c0 := cQ 0
 have c1 := cQ 1
 have c2 := cQ 2
 simp only [lPa, lPb, lPc] at c0 c1 c2
 have hlc := blk_lt BA.out
 clear cQ
 have cQ := blk_cell BB.out
 have d0 := cQ 0
 have d1 := cQ 1
 have d2 := cQ 2
 simp only [lPa, lPb, lPc] at d0 d1 d2
 have hld := blk_lt BB.out
 clear cQ
 go_wp2_with fail
 refine (eq105 (HU.out.gro K1.out).es (HV.out.gro K1.out).es).mono ?_
 rintro e w2 ⟨rfl, k2⟩
 have K2 := yy (K1.out.trans k2)
 have BA := yy (k2.blk BA.out)
 have BB := yy (k2.blk BB.out)
 clear c0 c1 c2 d0 d1 d2 hlc hld
 have cQ := blk_cell BA.out
 have c0 := cQ 0
 have c1 := cQ 1
 have c2 := cQ 2
 simp only [lPa, lPb, lPc] at c0 c1 c2
 have hlc := blk_lt BA.out
 clear cQ
 have cQ := blk_cell BB.out
 have d0 := cQ 0
 have d1 := cQ 1
 have d2 := cQ 2
 simp only [lPa, lPb, lPc] at d0 d1 d2
 have hld := blk_lt BB.out
 clear cQ
 go_wp2_with fail
 refine (eq106 (HU.out.gro K2.out).ds (HV.out.gro K2.out).ds).mono ?_
 rintro e w3 ⟨rfl, k3⟩
 have K3 := yy (K2.out.trans k3)
 go_wp2_with fail
 go_ret
 exact ⟨rfl, K3.out⟩
end Go.Proofs.YthfagcdjbmhhcaaGreat
