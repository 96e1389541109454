/- the acts that drop, where they succeed. -/
import Derived.Test.YthfagcdjbmhhcaaGreatU3
set_option linter.unusedVariables false
set_option linter.unusedSimpArgs false
namespace Go.Proofs.YthfagcdjbmhhcaaGreat
open Go.RowKit
attribute [local irreducible] wpQuiet
set_option maxHeartbeats 2000000 in
set_option maxRecDepth 100000 in
theorem dropV185 {F : Nat → Prop} {w0 w : World} {base B : Nat} {v1 v2 v3 : Value} {g : Gr} (h : CAt F w0 base w B v1 v2 v3 g) (hv : VG g) (x : Vtx) (hm : x.id ∈ g.vs.map Vtx.id) (hd : x.id ∉ g.ds) (hn : ∀ e ∈ g.es, e.src ≠ x.id ∧ e.dst ≠ x.id) :
  Calls Tryz.prog 185 #[.pointer (some ⟨B, 0, none⟩), chgV (dropV x)] w fun e w' => e = .returned (.tuple #[]) ∧ ∃ v', CAt F w0 base w' B v' v2 v3 ⟨g.vs.filter fun y => !(y.id == x.id), g.es, g.ds⟩ := by
 have hmix := mixed
 rw [chgV_eq]
 simp only [dropV, zV, zE]
 generalize x.id = id at hm hd hn ⊢
 have hlenE : g.es.length ≤ 1000000 := by have := hv.lens; omega
 have HV := yy hv
 have HM := yy hm
 have HD := yy hd
 have HN := yy hn
 have kA : Gro w (w.alloc (.cells #[.int .i64 2, .int .i64 0, .int .i64 0, .int .i64 0, .int .i64 0, .int .i64 0, .bool false, .int .i64 0, .int .i64 0, .int .i64 id, .int .i64 0, .slice none 0 0, .slice none 0 0] 86)) := (Gro.refl _).alloc _
 have bA := blk_new w (.cells #[.int .i64 2, .int .i64 0, .int .i64 0, .int .i64 0, .int .i64 0, .int .i64 0, .bool false, .int .i64 0, .int .i64 0, .int .i64 id, .int .i64 0, .slice none 0 0, .slice none 0 0] 86)
 have HA := yy (h.step kA)
 have BA := yy bA
 clear h hv hm hd hn kA bA
 go_enter Tryz.func185, Tryz.ntmps185
 go_wp2_with fail
 refine region_tail 6 hmix (by kernel_rfl) fun w2 dd => ?_
 have H2 := yy (HA.out.step (dd.kept _))
 have B2 := yy (dd.blk BA.out)
 clear dd HA BA
 generalize w.heap.size = A at B2 ⊢
 have cQ := blk_cell B2.out
 have f0 := cQ 0
 have f1 := cQ 1
 have f2 := cQ 2
 have f3 := cQ 3
 have f4 := cQ 4
 have f5 := cQ 5
 have f6 := cQ 6
 have f7 := cQ 7
 have f8 := cQ 8
 have f9 := cQ 9
 have f10 := cQ 10
 have f11 := cQ 11
 have f12 := cQ 12
 simp only [lPa, lPb, lPc] at f0 f1 f2 f3 f4 f5 f6 f7 f8 f9 f10 f11 f12
 have hlA := blk_lt B2.out
 clear cQ
 obtain ⟨c0, c1, c2⟩ := H2.out.cb.cells
 have hlB := World.block_lt_of_cell? w2 _ c0
 simp only [List.take_succ_cons, List.take_zero, List.drop_succ_cons, List.drop_zero]
 repeat still_step
 refine wpStill_nil ?_
 go_wp2_with fail
 refine (at187 (H2.out.vb.lv (by omega)) id HN.out).mono ?_
 rintro e w3 ⟨rfl, k3⟩
 have H3 := yy (H2.out.step k3)
 have B3 := yy (k3.blk B2.out)
 clear f0 f1 f2 f3 f4 f5 f6 f7 f8 f9 f10 f11 f12 hlA c0 c1 c2 hlB k3 H2 B2 HN
 go_wp2_with fail
 refine (want186 w3).mono ?_
 rintro e w4 ⟨rfl, rfl⟩
 have cQ := blk_cell B3.out
 have f0 := cQ 0
 have f1 := cQ 1
 have f2 := cQ 2
 have f3 := cQ 3
 have f4 := cQ 4
 have f5 := cQ 5
 have f6 := cQ 6
 have f7 := cQ 7
 have f8 := cQ 8
 have f9 := cQ 9
 have f10 := cQ 10
 have f11 := cQ 11
 have f12 := cQ 12
 simp only [lPa, lPb, lPc] at f0 f1 f2 f3 f4 f5 f6 f7 f8 f9 f10 f11 f12
 have hlA := blk_lt B3.out
 clear cQ
 go_wp2_with fail
 refine (dropV188 H3.out HV.out id HM.out HD.out).mono ?_
 rintro e w5 ⟨rfl, v', h5⟩
 have H5 := yy h5
 clear h5 H3 B3
 go_wp2_with fail
 go_end0
 exact ⟨rfl, v', H5.out⟩
set_option maxHeartbeats 2000000 in
set_option maxRecDepth 100000 in
theorem dropE191 {F : Nat → Prop} {w0 w : World} {base B : Nat} {v1 v2 v3 : Value} {g : Gr} (h : CAt F w0 base w B v1 v2 v3 g) (hv : VG g) (x : Edg) (hm : x.id ∈ g.es.map Edg.id) :
  Calls Tryz.prog 191 #[.pointer (some ⟨B, 0, none⟩), chgV (dropE x)] w fun e w' => e = .returned (.tuple #[]) ∧ ∃ v', CAt F w0 base w' B v1 v' v3 ⟨g.vs, g.es.filter fun y => !(y.id == x.id), g.ds⟩ := by
 rw [chgV_eq]
 simp only [dropE, zV, zE]
 generalize x.id = id at hm ⊢
 have hlen : g.es.length ≤ 1000000 := by have := hv.lens; omega
 have hlenI : (g.es.length : Int) ≤ 40 := by have := hv.lens; omega
 have hh : decide (id ∈ g.es.map Edg.id) = true := decide_eq_true hm
 have HH := yy hh
 have HV := yy hv
 have HM := yy hm
 have kA : Gro w (w.alloc (.cells #[.int .i64 4, .int .i64 0, .int .i64 0, .int .i64 0, .int .i64 0, .int .i64 0, .bool false, .int .i64 0, .int .i64 0, .int .i64 id, .int .i64 0, .slice none 0 0, .slice none 0 0] 86)) := (Gro.refl _).alloc _
 have bA := blk_new w (.cells #[.int .i64 4, .int .i64 0, .int .i64 0, .int .i64 0, .int .i64 0, .int .i64 0, .bool false, .int .i64 0, .int .i64 0, .int .i64 id, .int .i64 0, .slice none 0 0, .slice none 0 0] 86)
 have HA := yy (h.step kA)
 have BA := yy bA
 clear h hv hm hh kA bA
 go_enter Tryz.func191, Tryz.ntmps191
 go_wp2_with fail
 refine (edge190 HA.out.cb (HA.out.vb.lv (by omega)) hlen HV.out.ae id).mono ?_
 rintro e w2 ⟨i, rfl, hpos, k2⟩
 rw [HH.out]
 obtain ⟨hi0, hid⟩ := (hpos.found HV.out.ae).1 HM.out
 have hi : i < g.es.length := by simpa using hi0
 have hdel := delAt_flt Edg.id HV.out.ae hi (by simpa using hid)
 have hil : (i : Int) ≤ 40 := by omega
 have H2 := yy (HA.out.step k2)
 have HDEL := yy hdel
 clear hdel hpos k2 HA HH hid hi0
 go_wp2_with fail
 refine (want186 w2).mono ?_
 rintro e w4 ⟨rfl, rfl⟩
 obtain ⟨c0, c1, c2⟩ := H2.out.cb.cells
 have hlB := World.block_lt_of_cell? w2 _ c0
 go_wp2_with fail
 refine (del192 H2.out.vb hlen i hi).mono ?_
 rintro e w5 ⟨v', rfl, ho, kk, hat⟩
 rw [HDEL.out] at ho
 obtain ⟨s2, cs2, hs2⟩ := ho.form
 subst hs2
 have hB5 := kk.blk H2.out.cb (own_far H2.out.vb H2.out.cb (by decide))
 have H5 := yy (H2.out.setE ho kk (.inl hat))
 have z0 := blk_frozen hB5 1
 have c0' := blk_cell hB5 1
 simp only [lPa, lPb, lPc] at c0'
 have hlB5 := blk_lt hB5
 clear c0 c1 c2 hlB H2 ho kk hat hB5 HDEL
 go_wp2_with fail
 go_end0
 exact ⟨rfl, _, H5.out⟩
end Go.Proofs.YthfagcdjbmhhcaaGreat
