/- the reference: SameChange, SameChanges. -/
import Derived.Test.YthfagcdjbmhhcaaGreatR19
set_option linter.unusedVariables false
set_option linter.unusedSimpArgs false
namespace Go.Proofs.YthfagcdjbmhhcaaGreat
open Go.RowKit
attribute [local irreducible] wpQuiet
theorem lfR201 {P : Prop} (h : P := by (intro w hSw; obtain ⟨c0, c1, c2, c3, c4, c5, c6, c7, c8, c9, c10, c11, c12, d0, d1, d2, d3, d4, d5, d6, d7, d8, d9, d10, d11, d12⟩ := hSw; have hl1 := World.block_lt_of_cell? _ _ c0; have hl2 := World.block_lt_of_cell? _ _ d0; go_simp; try with_reducible rfl)) : P := h
theorem cells13 {w : World} {X : Nat} {x : Chg} {t : TypeId} {fr : Nat × Nat} (h : w.heap[X]? = some (.cells #[.int .i64 x.kind, .int .i64 x.v.id, .int .i64 x.v.side, .int .i64 x.e.id, .int .i64 x.e.src, .int .i64 x.e.dst, .bool x.e.dir, .int .i64 x.e.weight, .int .i64 x.e.cap, .int .i64 x.id, .int .i64 0, .slice none 0 0, .slice none 0 0] t fr)) : w.cell? ⟨X, 0, none⟩ = some (.int .i64 x.kind) ∧ w.cell? ⟨X, 1, none⟩ = some (.int .i64 x.v.id) ∧ w.cell? ⟨X, 2, none⟩ = some (.int .i64 x.v.side) ∧ w.cell? ⟨X, 3, none⟩ = some (.int .i64 x.e.id) ∧ w.cell? ⟨X, 4, none⟩ = some (.int .i64 x.e.src) ∧ w.cell? ⟨X, 5, none⟩ = some (.int .i64 x.e.dst) ∧ w.cell? ⟨X, 6, none⟩ = some (.bool x.e.dir) ∧ w.cell? ⟨X, 7, none⟩ = some (.int .i64 x.e.weight) ∧ w.cell? ⟨X, 8, none⟩ = some (.int .i64 x.e.cap) ∧ w.cell? ⟨X, 9, none⟩ = some (.int .i64 x.id) ∧ w.cell? ⟨X, 10, none⟩ = some (.int .i64 0) ∧ w.cell? ⟨X, 11, none⟩ = some (.slice none 0 0) ∧ w.cell? ⟨X, 12, none⟩ = some (.slice none 0 0) ∧ X < w.heap.size :=
 ⟨blk_cell h 0, blk_cell h 1, blk_cell h 2, blk_cell h 3, blk_cell h 4, blk_cell h 5, blk_cell h 6, blk_cell h 7, blk_cell h 8, blk_cell h 9, blk_cell h 10, blk_cell h 11, blk_cell h 12, blk_lt h⟩
theorem ccells {w : World} {b off : Nat} {l : List Chg} (h : ∀ i v, (flat l)[i]? = some v → w.cell? ⟨b, off + i, none⟩ = some v) {i : Nat} (hi : i < l.length) :
  w.cell? ⟨b, off + i * 13, none⟩ = some (.int .i64 l[i].kind) ∧ w.cell? ⟨b, off + i * 13 + 1, none⟩ = some (.int .i64 l[i].v.id) ∧ w.cell? ⟨b, off + i * 13 + 2, none⟩ = some (.int .i64 l[i].v.side) ∧ w.cell? ⟨b, off + i * 13 + 3, none⟩ = some (.int .i64 l[i].e.id) ∧ w.cell? ⟨b, off + i * 13 + 4, none⟩ = some (.int .i64 l[i].e.src) ∧ w.cell? ⟨b, off + i * 13 + 5, none⟩ = some (.int .i64 l[i].e.dst) ∧ w.cell? ⟨b, off + i * 13 + 6, none⟩ = some (.bool l[i].e.dir) ∧ w.cell? ⟨b, off + i * 13 + 7, none⟩ = some (.int .i64 l[i].e.weight) ∧ w.cell? ⟨b, off + i * 13 + 8, none⟩ = some (.int .i64 l[i].e.cap) ∧ w.cell? ⟨b, off + i * 13 + 9, none⟩ = some (.int .i64 l[i].id) ∧ w.cell? ⟨b, off + i * 13 + 10, none⟩ = some (.int .i64 0) ∧ w.cell? ⟨b, off + i * 13 + 11, none⟩ = some (.slice none 0 0) ∧ w.cell? ⟨b, off + i * 13 + 12, none⟩ = some (.slice none 0 0) :=
 ⟨Lst.cell h hi 0 (by decide) rfl, Lst.cell h hi 1 (by decide) rfl, Lst.cell h hi 2 (by decide) rfl, Lst.cell h hi 3 (by decide) rfl, Lst.cell h hi 4 (by decide) rfl, Lst.cell h hi 5 (by decide) rfl, Lst.cell h hi 6 (by decide) rfl, Lst.cell h hi 7 (by decide) rfl, Lst.cell h hi 8 (by decide) rfl, Lst.cell h hi 9 (by decide) rfl, Lst.cell h hi 10 (by decide) rfl, Lst.cell h hi 11 (by decide) rfl, Lst.cell h hi 12 (by decide) rfl⟩
set_option maxHeartbeats 8000000 in
set_option maxRecDepth 100000 in
theorem schange87 {w : World} (x y : Chg) : Calls Tryz.prog 87 #[.agg #[.int .i64 x.kind, .int .i64 x.v.id, .int .i64 x.v.side, .int .i64 x.e.id, .int .i64 x.e.src, .int .i64 x.e.dst, .bool x.e.dir, .int .i64 x.e.weight, .int .i64 x.e.cap, .int .i64 x.id, .int .i64 0, .slice none 0 0, .slice none 0 0], .agg #[.int .i64 y.kind, .int .i64 y.v.id, .int .i64 y.v.side, .int .i64 y.e.id, .int .i64 y.e.src, .int .i64 y.e.dst, .bool y.e.dir, .int .i64 y.e.weight, .int .i64 y.e.cap, .int .i64 y.id, .int .i64 0, .slice none 0 0, .slice none 0 0]] w fun e w' => e = .returned (.bool (decide (x = y))) ∧ Gro w w' := by
 have hmix := mixed
 obtain ⟨wa, hwa⟩ : ∃ wa, wa = (w.alloc (.cells #[.int .i64 x.kind, .int .i64 x.v.id, .int .i64 x.v.side, .int .i64 x.e.id, .int .i64 x.e.src, .int .i64 x.e.dst, .bool x.e.dir, .int .i64 x.e.weight, .int .i64 x.e.cap, .int .i64 x.id, .int .i64 0, .slice none 0 0, .slice none 0 0] 86)).alloc (.cells #[.int .i64 y.kind, .int .i64 y.v.id, .int .i64 y.v.side, .int .i64 y.e.id, .int .i64 y.e.src, .int .i64 y.e.dst, .bool y.e.dir, .int .i64 y.e.weight, .int .i64 y.e.cap, .int .i64 y.id, .int .i64 0, .slice none 0 0, .slice none 0 0] 86) := ⟨_, rfl⟩
 have k0 : Gro w wa := by rw [hwa]; exact ((Gro.refl _).alloc _).alloc _
 have BA := yy (show wa.heap[w.heap.size]? = some (.cells #[.int .i64 x.kind, .int .i64 x.v.id, .int .i64 x.v.side, .int .i64 x.e.id, .int .i64 x.e.src, .int .i64 x.e.dst, .bool x.e.dir, .int .i64 x.e.weight, .int .i64 x.e.cap, .int .i64 x.id, .int .i64 0, .slice none 0 0, .slice none 0 0] 86 (0, 0)) from by rw [hwa]; exact blk_alloc (blk_new _ _) _)
 have BB' := yy (show wa.heap[w.heap.size + 1]? = some (.cells #[.int .i64 y.kind, .int .i64 y.v.id, .int .i64 y.v.side, .int .i64 y.e.id, .int .i64 y.e.src, .int .i64 y.e.dst, .bool y.e.dir, .int .i64 y.e.weight, .int .i64 y.e.cap, .int .i64 y.id, .int .i64 0, .slice none 0 0, .slice none 0 0] 86 (0, 0)) from by rw [hwa]; simpa using blk_new (w.alloc (.cells #[.int .i64 x.kind, .int .i64 x.v.id, .int .i64 x.v.side, .int .i64 x.e.id, .int .i64 x.e.src, .int .i64 x.e.dst, .bool x.e.dir, .int .i64 x.e.weight, .int .i64 x.e.cap, .int .i64 x.id, .int .i64 0, .slice none 0 0, .slice none 0 0] 86)) (.cells #[.int .i64 y.kind, .int .i64 y.v.id, .int .i64 y.v.side, .int .i64 y.e.id, .int .i64 y.e.src, .int .i64 y.e.dst, .bool y.e.dir, .int .i64 y.e.weight, .int .i64 y.e.cap, .int .i64 y.id, .int .i64 0, .slice none 0 0, .slice none 0 0] 86))
 have K0 := yy k0
 have HWA := yy hwa
 clear k0 hwa
 have hg7 : Tryz.prog.eqGuardType Tryz.prog.depth 77 = false := by kernel_rfl
 have hg9 : Tryz.prog.eqGuardType Tryz.prog.depth 69 = false := by kernel_rfl
 have heq7 := eqin77 x.v y.v
 have heq9 := eqin69 x.e y.e
 go_enter Tryz.func87, Tryz.ntmps87
 go_upto_region 1 with fail
 rw [← HWA.out]
 clear HWA
 obtain ⟨q0, q1, q2, q3, q4, q5, q6, q7, q8, q9, q10, q11, q12, hlq⟩ := cells13 BA.out
 obtain ⟨r0, r1, r2, r3, r4, r5, r6, r7, r8, r9, r10, r11, r12, hlr⟩ := cells13 BB'.out
 generalize w.heap.size + 1 = XB at BB' r0 r1 r2 r3 r4 r5 r6 r7 r8 r9 r10 r11 r12 hlr ⊢
 generalize w.heap.size = XA at BA q0 q1 q2 q3 q4 q5 q6 q7 q8 q9 q10 q11 q12 hlq ⊢
 by_cases hc : x.kind = y.kind
 rotate_left
 ·have HR := yy (show decide (x = y) = false from decide_eq_false fun h => hc (by rw [h]))
  have hne : (x.kind == y.kind) = false := by simpa using hc
  clear hc
  go_wp2_with fail
  go_ret
  exact ⟨by rw [HR.out]; rfl, K0.out⟩
 have hn1 : (x.kind == y.kind) = true := by simpa using hc
 have HE1 := yy hc
 clear hc
 by_cases hc : x.v = y.v
 rotate_left
 ·have HR := yy (show decide (x = y) = false from decide_eq_false fun h => hc (by rw [h]))
  rw [decide_eq_false hc] at heq7
  clear hc
  go_wp2_with fail
  go_ret
  exact ⟨by rw [HR.out]; rfl, K0.out⟩
 rw [decide_eq_true hc] at heq7
 have HE2 := yy hc
 clear hc
 by_cases hc : x.e = y.e
 rotate_left
 ·have HR := yy (show decide (x = y) = false from decide_eq_false fun h => hc (by rw [h]))
  rw [decide_eq_false hc] at heq9
  clear hc
  go_wp2_with fail
  go_ret
  exact ⟨by rw [HR.out]; rfl, K0.out⟩
 rw [decide_eq_true hc] at heq9
 have HE3 := yy hc
 clear hc
 by_cases hc : x.id = y.id
 rotate_left
 ·have HR := yy (show decide (x = y) = false from decide_eq_false fun h => hc (by rw [h]))
  have hne : (x.id == y.id) = false := by simpa using hc
  clear hc
  go_wp2_with fail
  go_ret
  exact ⟨by rw [HR.out]; rfl, K0.out⟩
 have hn4 : (x.id == y.id) = true := by simpa using hc
 have HE4 := yy hc
 clear hc
 have HR := yy (show decide (x = y) = true from decide_eq_true (by
  obtain ⟨xk, xv, xe, xi⟩ := x
  obtain ⟨yk, yv, ye, yi⟩ := y
  simp only [Chg.mk.injEq]
  exact ⟨HE1.out, HE2.out, HE3.out, HE4.out⟩))
 go_wp2_with fail
 refine (ints42 (lv_none _) (lv_none _)).mono ?_
 rintro _ w2 ⟨rfl, k2⟩
 rw [show decide (([] : List Int) = []) = true from decide_eq_true rfl]
 have HG := yy k2
 clear k2 q0 q1 q2 q3 q4 q5 q6 q7 q8 q9 q10 q11 q12 r0 r1 r2 r3 r4 r5 r6 r7 r8 r9 r10 r11 r12 hlq hlr
 obtain ⟨q0, q1, q2, q3, q4, q5, q6, q7, q8, q9, q10, q11, q12, hlq⟩ := cells13 (HG.out.blk BA.out)
 obtain ⟨r0, r1, r2, r3, r4, r5, r6, r7, r8, r9, r10, r11, r12, hlr⟩ := cells13 (HG.out.blk BB'.out)
 go_wp2_with fail
 refine (ints42 (lv_none _) (lv_none _)).mono ?_
 rintro _ w3 ⟨rfl, k2⟩
 rw [show decide (([] : List Int) = []) = true from decide_eq_true rfl]
 have HG := yy (HG.out.trans k2)
 clear k2
 go_wp2_with fail
 go_ret
 exact ⟨by rw [HR.out]; rfl, K0.out.trans HG.out⟩
set_option maxHeartbeats 8000000 in
set_option maxRecDepth 100000 in
theorem schanges35 {w : World} {v1 v2 : Value} {xs ys : List Chg} (h1 : LV w v1 xs) (h2 : LV w v2 ys) : Calls Tryz.prog 35 #[v1, v2] w fun e w' => e = .returned (.bool (decide (xs = ys))) ∧ Gro w w' := by
 have hmix := mixed
 obtain ⟨a, n, rfl, hl⟩ := h1
 obtain ⟨a', n', rfl, hl'⟩ := h2
 have hbig := hl.big
 have HA := yy hl
 have HB := yy hl'
 clear hl hl'
 by_cases hlen : xs.length = ys.length
 ·have HLen := yy hlen
  clear hlen
  rw [← HLen.out]
  have HG := yy (Gro.refl w)
  go_enter Tryz.func35, Tryz.ntmps35
  go_wp2_with fail
  go_loopw [5] (fun t wr => ∃ k : Nat, k ≤ xs.length ∧ t = .int .i64 k ∧ Hid (Gro w wr) ∧ Hid (∀ j (h : j < xs.length) (h' : j < ys.length), j < k → xs[j] = ys[j])) (fun t _ => xs.length - (intOf t).toNat)
  case atStart => exact ⟨0, Nat.zero_le _, by go_num, HG, yy (fun j _ _ h => by omega)⟩
  case round =>
  clear HG
  obtain ⟨k, hk, rfl, HG, HLL⟩ := hrel
  by_cases hlt : k < xs.length
  ·have hlt' : k < ys.length := by have := HLen.out; omega
   obtain ⟨ab, ao, rfl, hab, hac⟩ := (HA.out.gro HG.out).base hlt
   obtain ⟨c0, c1, c2, c3, c4, c5, c6, c7, c8, c9, c10, c11, c12⟩ := ccells hac hlt
   obtain ⟨bb, bo, rfl, hbb, hbc⟩ := (HB.out.gro HG.out).base hlt'
   obtain ⟨d0, d1, d2, d3, d4, d5, d6, d7, d8, d9, d10, d11, d12⟩ := ccells hbc hlt'
   generalize hx : xs[k] = x at c0 c1 c2 c3 c4 c5 c6 c7 c8 c9 c10 c11 c12
   generalize hy : ys[k] = y at d0 d1 d2 d3 d4 d5 d6 d7 d8 d9 d10 d11 d12
   have HX := yy hx
   have HY := yy hy
   clear hx hy hac hbc hab hbb
   go_wp2_with fail
   refine wp_region_held_drew (S := (fun w' => w'.cell? ⟨ab, ao + k * 13, none⟩ = some (.int .i64 x.kind) ∧ w'.cell? ⟨ab, ao + k * 13 + 1, none⟩ = some (.int .i64 x.v.id) ∧ w'.cell? ⟨ab, ao + k * 13 + 2, none⟩ = some (.int .i64 x.v.side) ∧ w'.cell? ⟨ab, ao + k * 13 + 3, none⟩ = some (.int .i64 x.e.id) ∧ w'.cell? ⟨ab, ao + k * 13 + 4, none⟩ = some (.int .i64 x.e.src) ∧ w'.cell? ⟨ab, ao + k * 13 + 5, none⟩ = some (.int .i64 x.e.dst) ∧ w'.cell? ⟨ab, ao + k * 13 + 6, none⟩ = some (.bool x.e.dir) ∧ w'.cell? ⟨ab, ao + k * 13 + 7, none⟩ = some (.int .i64 x.e.weight) ∧ w'.cell? ⟨ab, ao + k * 13 + 8, none⟩ = some (.int .i64 x.e.cap) ∧ w'.cell? ⟨ab, ao + k * 13 + 9, none⟩ = some (.int .i64 x.id) ∧ w'.cell? ⟨ab, ao + k * 13 + 10, none⟩ = some (.int .i64 0) ∧ w'.cell? ⟨ab, ao + k * 13 + 11, none⟩ = some (.slice none 0 0) ∧ w'.cell? ⟨ab, ao + k * 13 + 12, none⟩ = some (.slice none 0 0) ∧ w'.cell? ⟨bb, bo + k * 13, none⟩ = some (.int .i64 y.kind) ∧ w'.cell? ⟨bb, bo + k * 13 + 1, none⟩ = some (.int .i64 y.v.id) ∧ w'.cell? ⟨bb, bo + k * 13 + 2, none⟩ = some (.int .i64 y.v.side) ∧ w'.cell? ⟨bb, bo + k * 13 + 3, none⟩ = some (.int .i64 y.e.id) ∧ w'.cell? ⟨bb, bo + k * 13 + 4, none⟩ = some (.int .i64 y.e.src) ∧ w'.cell? ⟨bb, bo + k * 13 + 5, none⟩ = some (.int .i64 y.e.dst) ∧ w'.cell? ⟨bb, bo + k * 13 + 6, none⟩ = some (.bool y.e.dir) ∧ w'.cell? ⟨bb, bo + k * 13 + 7, none⟩ = some (.int .i64 y.e.weight) ∧ w'.cell? ⟨bb, bo + k * 13 + 8, none⟩ = some (.int .i64 y.e.cap) ∧ w'.cell? ⟨bb, bo + k * 13 + 9, none⟩ = some (.int .i64 y.id) ∧ w'.cell? ⟨bb, bo + k * 13 + 10, none⟩ = some (.int .i64 0) ∧ w'.cell? ⟨bb, bo + k * 13 + 11, none⟩ = some (.slice none 0 0) ∧ w'.cell? ⟨bb, bo + k * 13 + 12, none⟩ = some (.slice none 0 0))) (by kernel_rfl) ⟨(Gro.refl wr).drew.cell c0, (Gro.refl wr).drew.cell c1, (Gro.refl wr).drew.cell c2, (Gro.refl wr).drew.cell c3, (Gro.refl wr).drew.cell c4, (Gro.refl wr).drew.cell c5, (Gro.refl wr).drew.cell c6, (Gro.refl wr).drew.cell c7, (Gro.refl wr).drew.cell c8, (Gro.refl wr).drew.cell c9, (Gro.refl wr).drew.cell c10, (Gro.refl wr).drew.cell c11, (Gro.refl wr).drew.cell c12, (Gro.refl wr).drew.cell d0, (Gro.refl wr).drew.cell d1, (Gro.refl wr).drew.cell d2, (Gro.refl wr).drew.cell d3, (Gro.refl wr).drew.cell d4, (Gro.refl wr).drew.cell d5, (Gro.refl wr).drew.cell d6, (Gro.refl wr).drew.cell d7, (Gro.refl wr).drew.cell d8, (Gro.refl wr).drew.cell d9, (Gro.refl wr).drew.cell d10, (Gro.refl wr).drew.cell d11, (Gro.refl wr).drew.cell d12⟩ (fun hHeld => ?_)
   have HG := yy (HG.out.trans (Gro.refl wr).drew)
   clear c0 c1 c2 c3 c4 c5 c6 c7 c8 c9 c10 c11 c12 d0 d1 d2 d3 d4 d5 d6 d7 d8 d9 d10 d11 d12
   generalize wr.drew = wD at hHeld HG ⊢
   refine tkH 0 rfl lfR201 hHeld ?_
   refine nx ?_
   refine tkH 1 rfl lfR201 hHeld ?_
   refine nx ?_
   refine tkH 2 rfl lfR201 hHeld ?_
   refine nx ?_
   refine tkH 3 rfl lfR201 hHeld ?_
   refine nx ?_
   refine tkH 4 rfl lfR201 hHeld ?_
   refine nx ?_
   refine tkH 5 rfl lfR201 hHeld ?_
   refine nx ?_
   refine tkH 6 rfl lfR201 hHeld ?_
   refine nx ?_
   refine tkH 7 rfl lfR201 hHeld ?_
   refine nx ?_
   refine wpAnyH_ready (rs := [8]) (by kernel_rfl) (by simp) ?_
   refine AllReadyH.cons (i := 8) rfl (fun K hK => ?_) AllReadyH.nil
   go_simp
   refine (schange87 x y).mono ?_
   rintro _ w3 ⟨rfl, kx⟩
   obtain ⟨c0, c1, c2, c3, c4, c5, c6, c7, c8, c9, c10, c11, c12, d0, d1, d2, d3, d4, d5, d6, d7, d8, d9, d10, d11, d12⟩ := hHeld
   have hH2 : (fun w' => w'.cell? ⟨ab, ao + k * 13, none⟩ = some (.int .i64 x.kind) ∧ w'.cell? ⟨ab, ao + k * 13 + 1, none⟩ = some (.int .i64 x.v.id) ∧ w'.cell? ⟨ab, ao + k * 13 + 2, none⟩ = some (.int .i64 x.v.side) ∧ w'.cell? ⟨ab, ao + k * 13 + 3, none⟩ = some (.int .i64 x.e.id) ∧ w'.cell? ⟨ab, ao + k * 13 + 4, none⟩ = some (.int .i64 x.e.src) ∧ w'.cell? ⟨ab, ao + k * 13 + 5, none⟩ = some (.int .i64 x.e.dst) ∧ w'.cell? ⟨ab, ao + k * 13 + 6, none⟩ = some (.bool x.e.dir) ∧ w'.cell? ⟨ab, ao + k * 13 + 7, none⟩ = some (.int .i64 x.e.weight) ∧ w'.cell? ⟨ab, ao + k * 13 + 8, none⟩ = some (.int .i64 x.e.cap) ∧ w'.cell? ⟨ab, ao + k * 13 + 9, none⟩ = some (.int .i64 x.id) ∧ w'.cell? ⟨ab, ao + k * 13 + 10, none⟩ = some (.int .i64 0) ∧ w'.cell? ⟨ab, ao + k * 13 + 11, none⟩ = some (.slice none 0 0) ∧ w'.cell? ⟨ab, ao + k * 13 + 12, none⟩ = some (.slice none 0 0) ∧ w'.cell? ⟨bb, bo + k * 13, none⟩ = some (.int .i64 y.kind) ∧ w'.cell? ⟨bb, bo + k * 13 + 1, none⟩ = some (.int .i64 y.v.id) ∧ w'.cell? ⟨bb, bo + k * 13 + 2, none⟩ = some (.int .i64 y.v.side) ∧ w'.cell? ⟨bb, bo + k * 13 + 3, none⟩ = some (.int .i64 y.e.id) ∧ w'.cell? ⟨bb, bo + k * 13 + 4, none⟩ = some (.int .i64 y.e.src) ∧ w'.cell? ⟨bb, bo + k * 13 + 5, none⟩ = some (.int .i64 y.e.dst) ∧ w'.cell? ⟨bb, bo + k * 13 + 6, none⟩ = some (.bool y.e.dir) ∧ w'.cell? ⟨bb, bo + k * 13 + 7, none⟩ = some (.int .i64 y.e.weight) ∧ w'.cell? ⟨bb, bo + k * 13 + 8, none⟩ = some (.int .i64 y.e.cap) ∧ w'.cell? ⟨bb, bo + k * 13 + 9, none⟩ = some (.int .i64 y.id) ∧ w'.cell? ⟨bb, bo + k * 13 + 10, none⟩ = some (.int .i64 0) ∧ w'.cell? ⟨bb, bo + k * 13 + 11, none⟩ = some (.slice none 0 0) ∧ w'.cell? ⟨bb, bo + k * 13 + 12, none⟩ = some (.slice none 0 0)) w3 := ⟨kx.cell c0, kx.cell c1, kx.cell c2, kx.cell c3, kx.cell c4, kx.cell c5, kx.cell c6, kx.cell c7, kx.cell c8, kx.cell c9, kx.cell c10, kx.cell c11, kx.cell c12, kx.cell d0, kx.cell d1, kx.cell d2, kx.cell d3, kx.cell d4, kx.cell d5, kx.cell d6, kx.cell d7, kx.cell d8, kx.cell d9, kx.cell d10, kx.cell d11, kx.cell d12⟩
   have HG := yy (HG.out.trans kx)
   clear kx c0 c1 c2 c3 c4 c5 c6 c7 c8 c9 c10 c11 c12 d0 d1 d2 d3 d4 d5 d6 d7 d8 d9 d10 d11 d12
   try go_simp
   refine hK.out _ _ hH2 (fun hHeld => ?_)
   clear hK K hH2
   try refine nx ?_
   refine tkH 9 rfl lfR201 hHeld ?_
   refine nx ?_
   refine wpAnyH_done (by kernel_rfl) ?_ _
   clear hHeld
   by_cases hxy : x = y
   ·rw [decide_eq_true hxy]
    have HXY := yy hxy
    clear hxy
    go_wp2_with fail
    go_roundw
    case rel => exact ⟨k + 1, by omega, by go_num, HG, yy (fun j h h' hj => by
     rcases Decidable.em (j = k) with e | e
     ·subst e; rw [HX.out, HY.out]; exact HXY.out
     exact HLL.out j h h' (by omega))⟩
    case measure => simp [intOf]; omega
   rw [decide_eq_false hxy]
   have HR := yy (show decide (xs = ys) = false from decide_eq_false fun h => hxy (by rw [← HX.out, ← HY.out]; subst h; rfl))
   clear hxy
   go_wp2_with fail
   go_ret
   exact ⟨by rw [HR.out]; rfl, HG.out⟩
  have HR := yy (show decide (xs = ys) = true from decide_eq_true (List.ext_getElem HLen.out (fun j h h' => HLL.out j h h' (by omega))))
  go_wp2_with fail
  go_ret
  exact ⟨by rw [HR.out]; rfl, HG.out⟩
 have hne : ((xs.length : Int) != (ys.length : Int)) = true := by rw [bne_iff_ne]; omega
 have HR := yy (show decide (xs = ys) = false from decide_eq_false fun h => hlen (by rw [h]))
 clear hlen
 go_enter Tryz.func35, Tryz.ntmps35
 go_wp2_with fail
 go_ret
 exact ⟨by rw [HR.out]; rfl, Gro.refl _⟩
end Go.Proofs.YthfagcdjbmhhcaaGreat
