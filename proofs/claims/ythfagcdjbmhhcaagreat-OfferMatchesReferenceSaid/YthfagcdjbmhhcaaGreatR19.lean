/- the reference: Same of books, Same of graphs. -/
import Derived.Test.YthfagcdjbmhhcaaGreatK27
import Derived.Test.YthfagcdjbmhhcaaGreatS1
set_option linter.unusedVariables false
set_option linter.unusedSimpArgs false
namespace Go.Proofs.YthfagcdjbmhhcaaGreat
open Go.RowKit
attribute [local irreducible] wpQuiet
set_option maxHeartbeats 8000000 in
set_option maxRecDepth 100000 in
theorem rsame17 {w : World} {va vb : Value} {a b : Bk} (hA : BkV w va a) (hB : BkV w vb b) : Calls Tryz.prog 17 #[va, vb] w fun e w' => e = .returned (.bool (decide (a = b))) ∧ Gro w w' := by
 have hmix := mixed
 obtain ⟨p, o, q, rfl, ⟨a1, ac1, rfl, la1⟩, ⟨a2, ac2, rfl, la2⟩, ⟨a3, ac3, rfl, la3⟩⟩ := hA
 obtain ⟨p, o, q, rfl, ⟨b1, bc1, rfl, lb1⟩, ⟨b2, bc2, rfl, lb2⟩, ⟨b3, bc3, rfl, lb3⟩⟩ := hB
 obtain ⟨wa, hwa⟩ : ∃ wa, wa = (w.alloc (.cells #[Value.int IntKind.i64 a.round, Value.slice a1 a.ps.length ac1, Value.slice a2 a.os.length ac2, Value.slice a3 a.ws.length ac3] 28)).alloc (.cells #[Value.int IntKind.i64 b.round, Value.slice b1 b.ps.length bc1, Value.slice b2 b.os.length bc2, Value.slice b3 b.ws.length bc3] 28) := ⟨_, rfl⟩
 have k0 : Gro w wa := by rw [hwa]; exact ((Gro.refl _).alloc _).alloc _
 have BA := yy (show wa.heap[w.heap.size]? = some (.cells #[Value.int IntKind.i64 a.round, Value.slice a1 a.ps.length ac1, Value.slice a2 a.os.length ac2, Value.slice a3 a.ws.length ac3] 28 (0, 0)) from by rw [hwa]; exact blk_alloc (blk_new _ _) _)
 have BB' := yy (show wa.heap[w.heap.size + 1]? = some (.cells #[Value.int IntKind.i64 b.round, Value.slice b1 b.ps.length bc1, Value.slice b2 b.os.length bc2, Value.slice b3 b.ws.length bc3] 28 (0, 0)) from by rw [hwa]; simpa using blk_new (w.alloc (.cells #[Value.int IntKind.i64 a.round, Value.slice a1 a.ps.length ac1, Value.slice a2 a.os.length ac2, Value.slice a3 a.ws.length ac3] 28)) (.cells #[Value.int IntKind.i64 b.round, Value.slice b1 b.ps.length bc1, Value.slice b2 b.os.length bc2, Value.slice b3 b.ws.length bc3] 28))
 have HAps := yy (fun W (hW : Gro wa W) => la1.gro (k0.trans hW))
 have HAos := yy (fun W (hW : Gro wa W) => la2.gro (k0.trans hW))
 have HAws := yy (fun W (hW : Gro wa W) => la3.gro (k0.trans hW))
 have HBps := yy (fun W (hW : Gro wa W) => lb1.gro (k0.trans hW))
 have HBos := yy (fun W (hW : Gro wa W) => lb2.gro (k0.trans hW))
 have HBws := yy (fun W (hW : Gro wa W) => lb3.gro (k0.trans hW))
 have hb1 := la1.big
 have hb2 := la2.big
 have hb3 := la3.big
 have K0 := yy k0
 have HWA := yy hwa
 clear la1 la2 la3 lb1 lb2 lb3 k0 hwa
 go_enter Tryz.func17, Tryz.ntmps17
 go_upto_region 1 with fail
 rw [← HWA.out]
 clear HWA
 have HG := yy (Gro.refl wa)
 obtain ⟨q0, q1, q2, q3, hlq⟩ := cells4 BA.out
 obtain ⟨r0, r1, r2, r3, hlr⟩ := cells4 BB'.out
 generalize w.heap.size + 1 = XB at BB' r0 r1 r2 r3 hlr ⊢
 generalize w.heap.size = XA at BA q0 q1 q2 q3 hlq ⊢
 by_cases hc : a.round = b.round
 rotate_left
 ·have HR := yy (show decide (a = b) = false from decide_eq_false fun h => hc (by rw [h]))
  have hne : (a.round != b.round) = true := by rw [bne_iff_ne]; omega
  clear hc
  go_wp2_with fail
  go_ret
  exact ⟨by rw [HR.out]; rfl, K0.out⟩
 have hn1 : (a.round != b.round) = false := by rw [bne_eq_false_iff_eq]; omega
 have HER := yy hc
 clear hc
 by_cases hc : a.ps.length = b.ps.length
 rotate_left
 ·have HR := yy (show decide (a = b) = false from decide_eq_false fun h => hc (by rw [h]))
  have hne : ((a.ps.length : Int) != (b.ps.length : Int)) = true := by rw [bne_iff_ne]; omega
  clear hc
  go_wp2_with fail
  go_ret
  exact ⟨by rw [HR.out]; rfl, K0.out⟩
 have hn2 : ((a.ps.length : Int) != (b.ps.length : Int)) = false := by rw [bne_eq_false_iff_eq]; omega
 have hz1 : a.ps.length ≤ b.ps.length := by omega
 have hz2 : b.ps.length ≤ a.ps.length := by omega
 clear hc
 by_cases hc : a.os.length = b.os.length
 rotate_left
 ·have HR := yy (show decide (a = b) = false from decide_eq_false fun h => hc (by rw [h]))
  have hne : ((a.os.length : Int) != (b.os.length : Int)) = true := by rw [bne_iff_ne]; omega
  clear hc
  go_wp2_with fail
  go_ret
  exact ⟨by rw [HR.out]; rfl, K0.out⟩
 have hn3 : ((a.os.length : Int) != (b.os.length : Int)) = false := by rw [bne_eq_false_iff_eq]; omega
 have hz3 : a.os.length ≤ b.os.length := by omega
 have hz4 : b.os.length ≤ a.os.length := by omega
 clear hc
 by_cases hc : a.ws.length = b.ws.length
 rotate_left
 ·have HR := yy (show decide (a = b) = false from decide_eq_false fun h => hc (by rw [h]))
  have hne : ((a.ws.length : Int) != (b.ws.length : Int)) = true := by rw [bne_iff_ne]; omega
  clear hc
  go_wp2_with fail
  go_ret
  exact ⟨by rw [HR.out]; rfl, K0.out⟩
 have hn4 : ((a.ws.length : Int) != (b.ws.length : Int)) = false := by rw [bne_eq_false_iff_eq]; omega
 have hz5 : a.ws.length ≤ b.ws.length := by omega
 have hz6 : b.ws.length ≤ a.ws.length := by omega
 clear hc
 go_wp2_with fail
 clear q0 q1 q2 q3 hlq r0 r1 r2 r3 hlr hn1 hn2 hn3 hn4
 have HL5 : Hid (a.ps.length = b.ps.length) := yy (by omega)
 go_loopw [5] (fun t wr => ∃ k : Nat, k ≤ a.ps.length ∧ t = .int .i64 k ∧ Hid (Gro wa wr) ∧ Hid (∀ j (h : j < a.ps.length) (h' : j < b.ps.length), j < k → a.ps[j] = b.ps[j])) (fun t _ => a.ps.length - (intOf t).toNat)
 case atStart => exact ⟨0, Nat.zero_le _, by go_num, HG, yy (fun j _ _ h => by omega)⟩
 case round =>
 clear HG
 obtain ⟨k, hk, rfl, HG, HLL⟩ := hrel
 obtain ⟨q0, q1, q2, q3, hlq⟩ := cells4 (HG.out.blk BA.out)
 obtain ⟨r0, r1, r2, r3, hlr⟩ := cells4 (HG.out.blk BB'.out)
 by_cases hlt : k < a.ps.length
 ·have hlt' : k < b.ps.length := by have := HL5.out; omega
  obtain ⟨ab, ao, rfl, hab, hac⟩ := (HAps.out _ HG.out).base hlt
  obtain ⟨c0, c1⟩ := pcells hac hlt
  obtain ⟨bb, bo, rfl, hbb, hbc⟩ := (HBps.out _ HG.out).base hlt'
  obtain ⟨d0, d1⟩ := pcells hbc hlt'
  have heq := eqin66 a.ps[k] b.ps[k]
  generalize hx : a.ps[k] = x at c0 c1 heq
  generalize hy : b.ps[k] = y at d0 d1 heq
  have HX := yy hx
  have HY := yy hy
  have hgd : Tryz.prog.eqGuardType Tryz.prog.depth 66 = false := by kernel_rfl
  clear hx hy hac hbc hab hbb
  by_cases hxy : x = y
  ·rw [decide_eq_true hxy] at heq
   have HXY := yy hxy
   clear hxy
   go_wp2_with fail
   have qa := gcell q1
   have qb := gcell r1
   have c0 := gcell c0
   have c1 := gcell c1
   have d0 := gcell d0
   have d1 := gcell d1
   clear q0 q1 q2 q3 r0 r1 r2 r3 hlq hlr
   go_quiet_grown (fail)
   have kq := gro_of_grow wr nq osq
   dsimp only at kq ⊢
   clear qa qb c0 c1 d0 d1 heq
   generalize Go.Sort.grow (wr.drewN nq) osq = w3 at kq ⊢
   have HG := yy (HG.out.trans kq)
   clear kq
   go_wp2_with fail
   go_roundw
   case rel => exact ⟨k + 1, by omega, by go_num, HG, yy (fun j h h' hj => by
    rcases Decidable.em (j = k) with e | e
    ·subst e; rw [HX.out, HY.out]; exact HXY.out
    exact HLL.out j h h' (by omega))⟩
   case measure => simp [intOf]; omega
  rw [decide_eq_false hxy] at heq
  have HR := yy (show decide (a = b) = false from decide_eq_false fun h => hxy (by rw [← HX.out, ← HY.out]; subst h; rfl))
  clear hxy
  go_wp2_with fail
  have qa := gcell q1
  have qb := gcell r1
  have c0 := gcell c0
  have c1 := gcell c1
  have d0 := gcell d0
  have d1 := gcell d1
  clear q0 q1 q2 q3 r0 r1 r2 r3 hlq hlr
  go_quiet_grown (fail)
  have kq := gro_of_grow wr nq osq
  dsimp only at kq ⊢
  clear qa qb c0 c1 d0 d1 heq
  generalize Go.Sort.grow (wr.drewN nq) osq = w3 at kq ⊢
  have HG := yy (HG.out.trans kq)
  clear kq
  go_wp2_with fail
  go_ret
  exact ⟨by rw [HR.out]; rfl, K0.out.trans HG.out⟩
 have HEps : Hid (a.ps = b.ps) := yy (List.ext_getElem HL5.out (fun j h h' => HLL.out j h h' (by omega)))
 clear HLL HL5
 go_wp2_with fail
 clear q0 q1 q2 q3 r0 r1 r2 r3 hlq hlr
 have HL6 : Hid (a.os.length = b.os.length) := yy (by omega)
 go_loopw [6] (fun t wr => ∃ k : Nat, k ≤ a.os.length ∧ t = .int .i64 k ∧ Hid (Gro wa wr) ∧ Hid (∀ j (h : j < a.os.length) (h' : j < b.os.length), j < k → a.os[j] = b.os[j])) (fun t _ => a.os.length - (intOf t).toNat)
 case atStart => exact ⟨0, Nat.zero_le _, by go_num, HG, yy (fun j _ _ h => by omega)⟩
 case round =>
 clear HG
 obtain ⟨k, hk, rfl, HG, HLL⟩ := hrel
 obtain ⟨q0, q1, q2, q3, hlq⟩ := cells4 (HG.out.blk BA.out)
 obtain ⟨r0, r1, r2, r3, hlr⟩ := cells4 (HG.out.blk BB'.out)
 by_cases hlt : k < a.os.length
 ·have hlt' : k < b.os.length := by have := HL6.out; omega
  obtain ⟨ab, ao, rfl, hab, hac⟩ := (HAos.out _ HG.out).base hlt
  obtain ⟨c0, c1, c2, c3, c4, c5, c6⟩ := ocells hac hlt
  obtain ⟨bb, bo, rfl, hbb, hbc⟩ := (HBos.out _ HG.out).base hlt'
  obtain ⟨d0, d1, d2, d3, d4, d5, d6⟩ := ocells hbc hlt'
  have heq := eqin30 a.os[k] b.os[k]
  generalize hx : a.os[k] = x at c0 c1 c2 c3 c4 c5 c6 heq
  generalize hy : b.os[k] = y at d0 d1 d2 d3 d4 d5 d6 heq
  have HX := yy hx
  have HY := yy hy
  have hgd : Tryz.prog.eqGuardType Tryz.prog.depth 30 = false := by kernel_rfl
  clear hx hy hac hbc hab hbb
  by_cases hxy : x = y
  ·rw [decide_eq_true hxy] at heq
   have HXY := yy hxy
   clear hxy
   go_wp2_with fail
   have qa := gcell q2
   have qb := gcell r2
   have c0 := gcell c0
   have c1 := gcell c1
   have c2 := gcell c2
   have c3 := gcell c3
   have c4 := gcell c4
   have c5 := gcell c5
   have c6 := gcell c6
   have d0 := gcell d0
   have d1 := gcell d1
   have d2 := gcell d2
   have d3 := gcell d3
   have d4 := gcell d4
   have d5 := gcell d5
   have d6 := gcell d6
   clear q0 q1 q2 q3 r0 r1 r2 r3 hlq hlr
   go_quiet_grown (fail)
   have kq := gro_of_grow wr nq osq
   dsimp only at kq ⊢
   clear qa qb c0 c1 c2 c3 c4 c5 c6 d0 d1 d2 d3 d4 d5 d6 heq
   generalize Go.Sort.grow (wr.drewN nq) osq = w3 at kq ⊢
   have HG := yy (HG.out.trans kq)
   clear kq
   go_wp2_with fail
   go_roundw
   case rel => exact ⟨k + 1, by omega, by go_num, HG, yy (fun j h h' hj => by
    rcases Decidable.em (j = k) with e | e
    ·subst e; rw [HX.out, HY.out]; exact HXY.out
    exact HLL.out j h h' (by omega))⟩
   case measure => simp [intOf]; omega
  rw [decide_eq_false hxy] at heq
  have HR := yy (show decide (a = b) = false from decide_eq_false fun h => hxy (by rw [← HX.out, ← HY.out]; subst h; rfl))
  clear hxy
  go_wp2_with fail
  have qa := gcell q2
  have qb := gcell r2
  have c0 := gcell c0
  have c1 := gcell c1
  have c2 := gcell c2
  have c3 := gcell c3
  have c4 := gcell c4
  have c5 := gcell c5
  have c6 := gcell c6
  have d0 := gcell d0
  have d1 := gcell d1
  have d2 := gcell d2
  have d3 := gcell d3
  have d4 := gcell d4
  have d5 := gcell d5
  have d6 := gcell d6
  clear q0 q1 q2 q3 r0 r1 r2 r3 hlq hlr
  go_quiet_grown (fail)
  have kq := gro_of_grow wr nq osq
  dsimp only at kq ⊢
  clear qa qb c0 c1 c2 c3 c4 c5 c6 d0 d1 d2 d3 d4 d5 d6 heq
  generalize Go.Sort.grow (wr.drewN nq) osq = w3 at kq ⊢
  have HG := yy (HG.out.trans kq)
  clear kq
  go_wp2_with fail
  go_ret
  exact ⟨by rw [HR.out]; rfl, K0.out.trans HG.out⟩
 have HEos : Hid (a.os = b.os) := yy (List.ext_getElem HL6.out (fun j h h' => HLL.out j h h' (by omega)))
 clear HLL HL6
 go_wp2_with fail
 clear q0 q1 q2 q3 r0 r1 r2 r3 hlq hlr
 have HL7 : Hid (a.ws.length = b.ws.length) := yy (by omega)
 go_loopw [7] (fun t wr => ∃ k : Nat, k ≤ a.ws.length ∧ t = .int .i64 k ∧ Hid (Gro wa wr) ∧ Hid (∀ j (h : j < a.ws.length) (h' : j < b.ws.length), j < k → a.ws[j] = b.ws[j])) (fun t _ => a.ws.length - (intOf t).toNat)
 case atStart => exact ⟨0, Nat.zero_le _, by go_num, HG, yy (fun j _ _ h => by omega)⟩
 case round =>
 clear HG
 obtain ⟨k, hk, rfl, HG, HLL⟩ := hrel
 obtain ⟨q0, q1, q2, q3, hlq⟩ := cells4 (HG.out.blk BA.out)
 obtain ⟨r0, r1, r2, r3, hlr⟩ := cells4 (HG.out.blk BB'.out)
 by_cases hlt : k < a.ws.length
 ·have hlt' : k < b.ws.length := by have := HL7.out; omega
  obtain ⟨ab, ao, rfl, hab, hac⟩ := (HAws.out _ HG.out).base hlt
  obtain ⟨c0, c1, c2, c3⟩ := wcells hac hlt
  obtain ⟨bb, bo, rfl, hbb, hbc⟩ := (HBws.out _ HG.out).base hlt'
  obtain ⟨d0, d1, d2, d3⟩ := wcells hbc hlt'
  have heq := eqin32 a.ws[k] b.ws[k]
  generalize hx : a.ws[k] = x at c0 c1 c2 c3 heq
  generalize hy : b.ws[k] = y at d0 d1 d2 d3 heq
  have HX := yy hx
  have HY := yy hy
  have hgd : Tryz.prog.eqGuardType Tryz.prog.depth 32 = false := by kernel_rfl
  clear hx hy hac hbc hab hbb
  by_cases hxy : x = y
  ·rw [decide_eq_true hxy] at heq
   have HXY := yy hxy
   clear hxy
   go_wp2_with fail
   have qa := gcell q3
   have qb := gcell r3
   have c0 := gcell c0
   have c1 := gcell c1
   have c2 := gcell c2
   have c3 := gcell c3
   have d0 := gcell d0
   have d1 := gcell d1
   have d2 := gcell d2
   have d3 := gcell d3
   clear q0 q1 q2 q3 r0 r1 r2 r3 hlq hlr
   go_quiet_grown (fail)
   have kq := gro_of_grow wr nq osq
   dsimp only at kq ⊢
   clear qa qb c0 c1 c2 c3 d0 d1 d2 d3 heq
   generalize Go.Sort.grow (wr.drewN nq) osq = w3 at kq ⊢
   have HG := yy (HG.out.trans kq)
   clear kq
   go_wp2_with fail
   go_roundw
   case rel => exact ⟨k + 1, by omega, by go_num, HG, yy (fun j h h' hj => by
    rcases Decidable.em (j = k) with e | e
    ·subst e; rw [HX.out, HY.out]; exact HXY.out
    exact HLL.out j h h' (by omega))⟩
   case measure => simp [intOf]; omega
  rw [decide_eq_false hxy] at heq
  have HR := yy (show decide (a = b) = false from decide_eq_false fun h => hxy (by rw [← HX.out, ← HY.out]; subst h; rfl))
  clear hxy
  go_wp2_with fail
  have qa := gcell q3
  have qb := gcell r3
  have c0 := gcell c0
  have c1 := gcell c1
  have c2 := gcell c2
  have c3 := gcell c3
  have d0 := gcell d0
  have d1 := gcell d1
  have d2 := gcell d2
  have d3 := gcell d3
  clear q0 q1 q2 q3 r0 r1 r2 r3 hlq hlr
  go_quiet_grown (fail)
  have kq := gro_of_grow wr nq osq
  dsimp only at kq ⊢
  clear qa qb c0 c1 c2 c3 d0 d1 d2 d3 heq
  generalize Go.Sort.grow (wr.drewN nq) osq = w3 at kq ⊢
  have HG := yy (HG.out.trans kq)
  clear kq
  go_wp2_with fail
  go_ret
  exact ⟨by rw [HR.out]; rfl, K0.out.trans HG.out⟩
 have HEws : Hid (a.ws = b.ws) := yy (List.ext_getElem HL7.out (fun j h h' => HLL.out j h h' (by omega)))
 clear HLL HL7
 go_wp2_with fail
 clear q0 q1 q2 q3 r0 r1 r2 r3 hlq hlr
 go_ret
 exact ⟨by rw [decide_eq_true (show a = b from by cases a; cases b; simp only [Bk.mk.injEq]; exact ⟨HER.out, HEps.out, HEos.out, HEws.out⟩)]; rfl, K0.out.trans HG.out⟩
set_option maxHeartbeats 8000000 in
set_option maxRecDepth 100000 in
theorem rsame34 {w : World} {va vb : Value} {a b : Gr} (hA : GrV w va a) (hB : GrV w vb b) : Calls Tryz.prog 34 #[va, vb] w fun e w' => e = .returned (.bool (decide (a = b))) ∧ Gro w w' := by
 have hmix := mixed
 obtain ⟨a1, ac1, a2, ac2, a3, ac3, rfl⟩ := hA.open
 obtain ⟨b1, bc1, b2, bc2, b3, bc3, rfl⟩ := hB.open
 obtain ⟨_, la1, la2, la3⟩ := hA.lists
 obtain ⟨_, lb1, lb2, lb3⟩ := hB.lists
 obtain ⟨wa, hwa⟩ : ∃ wa, wa = (w.alloc (.cells #[Value.slice a1 a.vs.length ac1, Value.slice a2 a.es.length ac2, Value.slice a3 a.ds.length ac3] 38)).alloc (.cells #[Value.slice b1 b.vs.length bc1, Value.slice b2 b.es.length bc2, Value.slice b3 b.ds.length bc3] 38) := ⟨_, rfl⟩
 have k0 : Gro w wa := by rw [hwa]; exact ((Gro.refl _).alloc _).alloc _
 have BA := yy (show wa.heap[w.heap.size]? = some (.cells #[Value.slice a1 a.vs.length ac1, Value.slice a2 a.es.length ac2, Value.slice a3 a.ds.length ac3] 38 (0, 0)) from by rw [hwa]; exact blk_alloc (blk_new _ _) _)
 have BB' := yy (show wa.heap[w.heap.size + 1]? = some (.cells #[Value.slice b1 b.vs.length bc1, Value.slice b2 b.es.length bc2, Value.slice b3 b.ds.length bc3] 38 (0, 0)) from by rw [hwa]; simpa using blk_new (w.alloc (.cells #[Value.slice a1 a.vs.length ac1, Value.slice a2 a.es.length ac2, Value.slice a3 a.ds.length ac3] 38)) (.cells #[Value.slice b1 b.vs.length bc1, Value.slice b2 b.es.length bc2, Value.slice b3 b.ds.length bc3] 38))
 have HAvs := yy (fun W (hW : Gro wa W) => la1.gro (k0.trans hW))
 have HAes := yy (fun W (hW : Gro wa W) => (⟨_, _, rfl, la2.gro (k0.trans hW)⟩ : LV W _ _))
 have HAds := yy (fun W (hW : Gro wa W) => (⟨_, _, rfl, la3.gro (k0.trans hW)⟩ : LV W _ _))
 have HBvs := yy (fun W (hW : Gro wa W) => lb1.gro (k0.trans hW))
 have HBes := yy (fun W (hW : Gro wa W) => (⟨_, _, rfl, lb2.gro (k0.trans hW)⟩ : LV W _ _))
 have HBds := yy (fun W (hW : Gro wa W) => (⟨_, _, rfl, lb3.gro (k0.trans hW)⟩ : LV W _ _))
 have hb1 := la1.big
 have K0 := yy k0
 have HWA := yy hwa
 clear la1 la2 la3 lb1 lb2 lb3 k0 hwa hA hB
 go_enter Tryz.func34, Tryz.ntmps34
 go_upto_region 1 with fail
 rw [← HWA.out]
 clear HWA
 obtain ⟨q0, q1, q2, hlq⟩ := cells3 BA.out
 obtain ⟨r0, r1, r2, hlr⟩ := cells3 BB'.out
 generalize w.heap.size + 1 = XB at BB' r0 r1 r2 hlr ⊢
 generalize w.heap.size = XA at BA q0 q1 q2 hlq ⊢
 by_cases hc : a.vs.length = b.vs.length
 rotate_left
 ·have HR := yy (show decide (a = b) = false from decide_eq_false fun h => hc (by rw [h]))
  have hne : ((a.vs.length : Int) != (b.vs.length : Int)) = true := by rw [bne_iff_ne]; omega
  clear hc
  go_wp2_with fail
  go_ret
  exact ⟨by rw [HR.out]; rfl, K0.out⟩
 have hn2 : ((a.vs.length : Int) != (b.vs.length : Int)) = false := by rw [bne_eq_false_iff_eq]; omega
 have hz1 : a.vs.length ≤ b.vs.length := by omega
 have hz2 : b.vs.length ≤ a.vs.length := by omega
 clear hc
 go_wp2_with fail
 refine (edges38 (HAes.out _ (Gro.refl _)) (HBes.out _ (Gro.refl _))).mono ?_
 rintro _ w2 ⟨rfl, k2⟩
 have HG := yy k2
 clear k2 q0 q1 q2 hlq r0 r1 r2 hlr
 obtain ⟨q0, q1, q2, hlq⟩ := cells3 (HG.out.blk BA.out)
 obtain ⟨r0, r1, r2, hlr⟩ := cells3 (HG.out.blk BB'.out)
 by_cases hc : a.es = b.es
 rotate_left
 ·rw [decide_eq_false hc]
  have HR := yy (show decide (a = b) = false from decide_eq_false fun h => hc (by rw [h]))
  clear hc
  go_wp2_with fail
  go_ret
  exact ⟨by rw [HR.out]; rfl, K0.out.trans HG.out⟩
 rw [decide_eq_true hc]
 have HEes := yy hc
 clear hc
 go_wp2_with fail
 refine (ints42 (HAds.out _ HG.out) (HBds.out _ HG.out)).mono ?_
 rintro _ w3 ⟨rfl, k2⟩
 have HG := yy (HG.out.trans k2)
 clear k2 q0 q1 q2 hlq r0 r1 r2 hlr
 by_cases hc : a.ds = b.ds
 rotate_left
 ·rw [decide_eq_false hc]
  have HR := yy (show decide (a = b) = false from decide_eq_false fun h => hc (by rw [h]))
  clear hc
  go_wp2_with fail
  go_ret
  exact ⟨by rw [HR.out]; rfl, K0.out.trans HG.out⟩
 rw [decide_eq_true hc]
 have HEds := yy hc
 clear hc hn2
 go_wp2_with fail
 have HL5 : Hid (a.vs.length = b.vs.length) := yy (by omega)
 go_loopw [5] (fun t wr => ∃ k : Nat, k ≤ a.vs.length ∧ t = .int .i64 k ∧ Hid (Gro wa wr) ∧ Hid (∀ j (h : j < a.vs.length) (h' : j < b.vs.length), j < k → a.vs[j] = b.vs[j])) (fun t _ => a.vs.length - (intOf t).toNat)
 case atStart => exact ⟨0, Nat.zero_le _, by go_num, HG, yy (fun j _ _ h => by omega)⟩
 case round =>
 clear HG
 obtain ⟨k, hk, rfl, HG, HLL⟩ := hrel
 obtain ⟨q0, q1, q2, hlq⟩ := cells3 (HG.out.blk BA.out)
 obtain ⟨r0, r1, r2, hlr⟩ := cells3 (HG.out.blk BB'.out)
 by_cases hlt : k < a.vs.length
 ·have hlt' : k < b.vs.length := by have := HL5.out; omega
  obtain ⟨ab, ao, rfl, hab, hac⟩ := (HAvs.out _ HG.out).base hlt
  obtain ⟨c0, c1⟩ := vcells hac hlt
  obtain ⟨bb, bo, rfl, hbb, hbc⟩ := (HBvs.out _ HG.out).base hlt'
  obtain ⟨d0, d1⟩ := vcells hbc hlt'
  have heq := eqin77 a.vs[k] b.vs[k]
  generalize hx : a.vs[k] = x at c0 c1 heq
  generalize hy : b.vs[k] = y at d0 d1 heq
  have HX := yy hx
  have HY := yy hy
  have hgd : Tryz.prog.eqGuardType Tryz.prog.depth 77 = false := by kernel_rfl
  clear hx hy hac hbc hab hbb
  by_cases hxy : x = y
  ·rw [decide_eq_true hxy] at heq
   have HXY := yy hxy
   clear hxy
   go_wp2_with fail
   have qa := gcell q0
   have qb := gcell r0
   have c0 := gcell c0
   have c1 := gcell c1
   have d0 := gcell d0
   have d1 := gcell d1
   clear q0 q1 q2 r0 r1 r2 hlq hlr
   go_quiet_grown (fail)
   have kq := gro_of_grow wr nq osq
   dsimp only at kq ⊢
   clear qa qb c0 c1 d0 d1 heq
   generalize Go.Sort.grow (wr.drewN nq) osq = w3 at kq ⊢
   have HG := yy (HG.out.trans kq)
   clear kq
   go_wp2_with fail
   go_roundw
   case rel => exact ⟨k + 1, by omega, by go_num, HG, yy (fun j h h' hj => by
    rcases Decidable.em (j = k) with e | e
    ·subst e; rw [HX.out, HY.out]; exact HXY.out
    exact HLL.out j h h' (by omega))⟩
   case measure => simp [intOf]; omega
  rw [decide_eq_false hxy] at heq
  have HR := yy (show decide (a = b) = false from decide_eq_false fun h => hxy (by rw [← HX.out, ← HY.out]; subst h; rfl))
  clear hxy
  go_wp2_with fail
  have qa := gcell q0
  have qb := gcell r0
  have c0 := gcell c0
  have c1 := gcell c1
  have d0 := gcell d0
  have d1 := gcell d1
  clear q0 q1 q2 r0 r1 r2 hlq hlr
  go_quiet_grown (fail)
  have kq := gro_of_grow wr nq osq
  dsimp only at kq ⊢
  clear qa qb c0 c1 d0 d1 heq
  generalize Go.Sort.grow (wr.drewN nq) osq = w3 at kq ⊢
  have HG := yy (HG.out.trans kq)
  clear kq
  go_wp2_with fail
  go_ret
  exact ⟨by rw [HR.out]; rfl, K0.out.trans HG.out⟩
 have HEvs : Hid (a.vs = b.vs) := yy (List.ext_getElem HL5.out (fun j h h' => HLL.out j h h' (by omega)))
 clear HLL HL5
 go_wp2_with fail
 clear q0 q1 q2 r0 r1 r2 hlq hlr
 go_ret
 exact ⟨by rw [decide_eq_true (show a = b from by cases a; cases b; simp only [Gr.mk.injEq]; exact ⟨HEvs.out, HEes.out, HEds.out⟩)]; rfl, K0.out.trans HG.out⟩
end Go.Proofs.YthfagcdjbmhhcaaGreat
