/- the reference: stays. -/
import Derived.Test.YthfagcdjbmhhcaaGreatK27
import Derived.Test.YthfagcdjbmhhcaaGreatPG
import Derived.Test.YthfagcdjbmhhcaaGreatS4
set_option linter.unusedVariables false
set_option linter.unusedSimpArgs false
namespace Go.Proofs.YthfagcdjbmhhcaaGreat
open Go.RowKit
attribute [local irreducible] wpQuiet
theorem lfR211 {P : Prop} (h : P := by (intro w hSw; obtain ⟨a0, a1_, a2_, b0, b1_, b2_, e0, e1, e2, e3, e4, e5, f0, f1, f2, f3, f4, f5, p0, p1, q0, q1⟩ := hSw; have hla := World.block_lt_of_cell? _ _ a0; have hlb := World.block_lt_of_cell? _ _ b0; have hle := World.block_lt_of_cell? _ _ e0; have hlf := World.block_lt_of_cell? _ _ f0; have hlp := World.block_lt_of_cell? _ _ p0; go_simp; try with_reducible rfl)) : P := h
theorem okV_side {g : Gr} (h : VG g) {v : Vtx} (hv : v ∈ g.vs) : 0 ≤ v.side := by
 have := h.okv v hv
 simp only [okV, Bool.and_eq_true, inB_iff] at this
 exact this.2.1
theorem keepsB_side {g : Gr} {v : Vtx} (hs : 0 ≤ v.side) : keepsB g v = (sideG g v.id == v.side) := by
 unfold keepsB sideG
 cases hf : g.vs.find? (fun y => y.id == v.id) with
 | none =>
  symm
  show ((-1 : Int) == v.side) = false
  rw [beq_eq_false_iff_ne]
  omega
 | some y =>
 have hid : y.id = v.id := by simpa using List.find?_some hf
 show decide (y = v) = (y.side == v.side)
 obtain ⟨yi, ys⟩ := y
 obtain ⟨vi, vs⟩ := v
 simp only at hid ⊢
 subst hid
 rw [Bool.eq_iff_iff]
 simp
theorem keeps_moved {a b : Gr} (ha : VG a) (hb : VG b) {p : Nat} (hp : p < a.vs.length) : keepsB b a.vs[p] = !moved a b a.vs[p].id := by
 rw [keepsB_side (okV_side ha (List.getElem_mem hp))]
 unfold moved
 rw [sideG_at ha.av hp]
 rw [Bool.eq_iff_iff]
 simp
 exact eq_comm
theorem maxI {k : Nat} : (if (k : Int) < 0 then (0 : Int) else (k : Int)) = k := by rw [if_neg (by omega)]
set_option maxHeartbeats 8000000 in
set_option maxRecDepth 100000 in
theorem stays85 {w : World} {va vb : Value} {a b : Gr} (hA : GrV w va a) (hB : GrV w vb b) (va_ : VG a) (vb_ : VG b) (e : Edg) (hs : has a e.src = true) (hd : has a e.dst = true) : Calls Tryz.prog 85 #[va, vb, .agg #[.int .i64 e.id, .int .i64 e.src, .int .i64 e.dst, .bool e.dir, .int .i64 e.weight, .int .i64 e.cap]] w fun r w' => r = .returned (.bool (!lostE a b e)) ∧ Gro w w' := by
 have hmix := mixed
 obtain ⟨a1, ac1, a2, ac2, a3, ac3, rfl⟩ := hA.open
 obtain ⟨b1, bc1, b2, bc2, b3, bc3, rfl⟩ := hB.open
 obtain ⟨wa, hwa⟩ : ∃ wa, wa = ((w.alloc (.cells #[Value.slice a1 a.vs.length ac1, Value.slice a2 a.es.length ac2, Value.slice a3 a.ds.length ac3] 38)).alloc (.cells #[Value.slice b1 b.vs.length bc1, Value.slice b2 b.es.length bc2, Value.slice b3 b.ds.length bc3] 38)).alloc (.cells #[.int .i64 e.id, .int .i64 e.src, .int .i64 e.dst, .bool e.dir, .int .i64 e.weight, .int .i64 e.cap] 69) := ⟨_, rfl⟩
 have k0 : Gro w wa := by rw [hwa]; exact (((Gro.refl _).alloc _).alloc _).alloc _
 have BA := yy (show wa.heap[w.heap.size]? = some (.cells #[Value.slice a1 a.vs.length ac1, Value.slice a2 a.es.length ac2, Value.slice a3 a.ds.length ac3] 38 (0, 0)) from by rw [hwa]; exact blk_alloc (blk_alloc (blk_new _ _) _) _)
 have BB' := yy (show wa.heap[w.heap.size + 1]? = some (.cells #[Value.slice b1 b.vs.length bc1, Value.slice b2 b.es.length bc2, Value.slice b3 b.ds.length bc3] 38 (0, 0)) from by
  rw [hwa]
  have := blk_new (w.alloc (.cells #[Value.slice a1 a.vs.length ac1, Value.slice a2 a.es.length ac2, Value.slice a3 a.ds.length ac3] 38)) (.cells #[Value.slice b1 b.vs.length bc1, Value.slice b2 b.es.length bc2, Value.slice b3 b.ds.length bc3] 38)
  rw [asz] at this
  exact blk_alloc this _)
 have BE := yy (show wa.heap[w.heap.size + 1 + 1]? = some (.cells #[.int .i64 e.id, .int .i64 e.src, .int .i64 e.dst, .bool e.dir, .int .i64 e.weight, .int .i64 e.cap] 69 (0, 0)) from by
  rw [hwa]
  have := blk_new ((w.alloc (.cells #[Value.slice a1 a.vs.length ac1, Value.slice a2 a.es.length ac2, Value.slice a3 a.ds.length ac3] 38)).alloc (.cells #[Value.slice b1 b.vs.length bc1, Value.slice b2 b.es.length bc2, Value.slice b3 b.ds.length bc3] 38)) (.cells #[.int .i64 e.id, .int .i64 e.src, .int .i64 e.dst, .bool e.dir, .int .i64 e.weight, .int .i64 e.cap] 69)
  rw [asz, asz] at this
  exact this)
 have HA := yy (fun W (hW : Gro wa W) => (hA.gro (k0.trans hW)))
 have HB := yy (fun W (hW : Gro wa W) => (hB.gro (k0.trans hW)))
 have HFA : Hid a.few := yy ⟨by have := va_.lens; omega, by have := va_.lens; omega, by have := va_.lens; omega⟩
 have HFB : Hid b.few := yy ⟨by have := vb_.lens; omega, by have := vb_.lens; omega, by have := vb_.lens; omega⟩
 have HVA := yy va_
 have HVB := yy vb_
 obtain ⟨x, hx, hxi⟩ := has_iff.1 hs
 obtain ⟨y, hy, hyi⟩ := has_iff.1 hd
 obtain ⟨p, hp, hp1, hp2⟩ := fidx_at Vtx.id va_.av hx
 obtain ⟨q, hq, hq1, hq2⟩ := fidx_at Vtx.id va_.av hy
 have hfl := va_.lens
 have hfl2 := vb_.lens
 have HM1 := yy (show moved a b e.src = !keepsB b x from by rw [← hp2, keeps_moved va_ vb_ hp, hp2, hxi]; simp)
 have HM2 := yy (show moved a b e.dst = !keepsB b y from by rw [← hq2, keeps_moved va_ vb_ hq, hq2, hyi]; simp)
 rw [hxi] at hp1
 rw [hyi] at hq1
 have HP1 := yy hp1
 have HQ1 := yy hq1
 have HP2 := yy hp2
 have HQ2 := yy hq2
 have K0 := yy k0
 have HWA := yy hwa
 have hg9 : Tryz.prog.eqGuardType Tryz.prog.depth 69 = false := by kernel_rfl
 clear k0 hwa hA hB va_ vb_ hs hd hx hxi hy hyi hp1 hp2 hq1 hq2
 go_enter Tryz.func85, Tryz.ntmps85
 go_upto_region 1 with fail
 rw [← HWA.out]
 clear HWA
 obtain ⟨e0, e1, e2, e3, e4, e5, hle⟩ := cells6 BE.out
 obtain ⟨b0, b1_, b2_, hlb⟩ := cells3 BB'.out
 generalize w.heap.size + 1 + 1 = XE at BE e0 e1 e2 e3 e4 e5 hle ⊢
 generalize w.heap.size + 1 = XB at BB' b0 b1_ b2_ hlb ⊢
 generalize w.heap.size = XA at BA ⊢
 go_wp2_with fail
 refine (find43 (HB.out _ (Gro.refl _)) HFB.out e.id).mono ?_
 rintro _ w2 ⟨rfl, kx⟩
 have HG := yy kx
 clear kx e0 e1 e2 e3 e4 e5 hle b0 b1_ b2_ hlb
 rcases fidx_cases (b.es.map Edg.id) e.id with ⟨hf, hn⟩ | ⟨i, hi0, hf, hie, _⟩
 ·rw [hf]
  have HR := yy (show (!lostE a b e) = false from by unfold lostE; rw [memE_none hn]; simp)
  clear hf hn
  go_wp2_with fail
  go_ret
  exact ⟨by rw [HR.out]; rfl, K0.out.trans HG.out⟩
 rw [hf]
 have hi : i < b.es.length := by simpa using hi0
 simp only [List.getElem_map] at hie
 have HME := yy (memE_at HVB.out.ae hi hie)
 have hi1 : decide ((i : Int) < 0) = false := decide_eq_false (by omega)
 clear hf hi0 hie
 obtain ⟨a0, a1_, a2_, hla⟩ := cells3 (HG.out.blk BA.out)
 obtain ⟨e0, e1, e2, e3, e4, e5, hle⟩ := cells6 (HG.out.blk BE.out)
 go_wp2_with fail
 refine (place39 (HA.out _ HG.out) HFA.out e.src).mono ?_
 rintro _ w3 ⟨rfl, kx⟩
 rw [HP1.out]
 have HG := yy (HG.out.trans kx)
 clear kx e0 e1 e2 e3 e4 e5 hle a0 a1_ a2_ hla
 obtain ⟨a0, a1_, a2_, hla⟩ := cells3 (HG.out.blk BA.out)
 obtain ⟨e0, e1, e2, e3, e4, e5, hle⟩ := cells6 (HG.out.blk BE.out)
 go_wp2_with fail
 refine (place39 (HA.out _ HG.out) HFA.out e.dst).mono ?_
 rintro _ w4 ⟨rfl, kx⟩
 rw [HQ1.out]
 have HG := yy (HG.out.trans kx)
 clear kx e0 e1 e2 e3 e4 e5 hle a0 a1_ a2_ hla
 obtain ⟨a0, a1_, a2_, hla⟩ := cells3 (HG.out.blk BA.out)
 obtain ⟨b0, b1_, b2_, hlb⟩ := cells3 (HG.out.blk BB'.out)
 obtain ⟨e0, e1, e2, e3, e4, e5, hle⟩ := cells6 (HG.out.blk BE.out)
 obtain ⟨_, lv1, _, _⟩ := (HA.out _ HG.out).lists
 obtain ⟨_, _, lv2, _⟩ := (HB.out _ HG.out).lists
 obtain ⟨eb, eo, rfl, heb, hec⟩ := lv2.base hi
 obtain ⟨f0, f1, f2, f3, f4, f5⟩ := ecells hec hi
 obtain ⟨pb, po, rfl, hpb, hpc⟩ := lv1.base hp
 obtain ⟨p0, p1⟩ := vcells hpc hp
 obtain ⟨q0, q1⟩ := vcells hpc hq
 rw [HP2.out] at p0 p1
 rw [HQ2.out] at q0 q1
 have hlf := World.block_lt_of_cell? _ _ f0
 have hlp := World.block_lt_of_cell? _ _ p0
 have heq := eqin69 b.es[i] e
 clear hec hpc hpb heb lv1 lv2
 by_cases hE : b.es[i] = e
 ·have HIN := yy (show e ∈ b.es from hE ▸ List.getElem_mem hi)
  rw [hE] at f0 f1 f2 f3 f4 f5 heq
  rw [decide_eq_true rfl] at heq
  have hp0 : decide ((p : Int) ≥ 0) = true := decide_eq_true (by omega)
  have hq0 : decide ((q : Int) ≥ 0) = true := decide_eq_true (by omega)
  have hpm := maxI (k := p)
  have hqm := maxI (k := q)
  clear hE HME
  go_wp2_with fail
  refine wp_region_held_drew (S := (fun w' => w'.cell? ⟨XA, 0, none⟩ = some (Value.slice (some ⟨pb, po, none⟩) a.vs.length ac1) ∧ w'.cell? ⟨XA, 1, none⟩ = some (Value.slice a2 a.es.length ac2) ∧ w'.cell? ⟨XA, 2, none⟩ = some (Value.slice a3 a.ds.length ac3) ∧ w'.cell? ⟨XB, 0, none⟩ = some (Value.slice b1 b.vs.length bc1) ∧ w'.cell? ⟨XB, 1, none⟩ = some (Value.slice (some ⟨eb, eo, none⟩) b.es.length bc2) ∧ w'.cell? ⟨XB, 2, none⟩ = some (Value.slice b3 b.ds.length bc3) ∧ w'.cell? ⟨XE, 0, none⟩ = some (Value.int IntKind.i64 e.id) ∧ w'.cell? ⟨XE, 1, none⟩ = some (Value.int IntKind.i64 e.src) ∧ w'.cell? ⟨XE, 2, none⟩ = some (Value.int IntKind.i64 e.dst) ∧ w'.cell? ⟨XE, 3, none⟩ = some (Value.bool e.dir) ∧ w'.cell? ⟨XE, 4, none⟩ = some (Value.int IntKind.i64 e.weight) ∧ w'.cell? ⟨XE, 5, none⟩ = some (Value.int IntKind.i64 e.cap) ∧ w'.cell? ⟨eb, eo + i * 6, none⟩ = some (Value.int IntKind.i64 e.id) ∧ w'.cell? ⟨eb, eo + i * 6 + 1, none⟩ = some (Value.int IntKind.i64 e.src) ∧ w'.cell? ⟨eb, eo + i * 6 + 2, none⟩ = some (Value.int IntKind.i64 e.dst) ∧ w'.cell? ⟨eb, eo + i * 6 + 3, none⟩ = some (Value.bool e.dir) ∧ w'.cell? ⟨eb, eo + i * 6 + 4, none⟩ = some (Value.int IntKind.i64 e.weight) ∧ w'.cell? ⟨eb, eo + i * 6 + 5, none⟩ = some (Value.int IntKind.i64 e.cap) ∧ w'.cell? ⟨pb, po + p * 2, none⟩ = some (Value.int IntKind.i64 x.id) ∧ w'.cell? ⟨pb, po + p * 2 + 1, none⟩ = some (Value.int IntKind.i64 x.side) ∧ w'.cell? ⟨pb, po + q * 2, none⟩ = some (Value.int IntKind.i64 y.id) ∧ w'.cell? ⟨pb, po + q * 2 + 1, none⟩ = some (Value.int IntKind.i64 y.side))) (by kernel_rfl) ⟨(Gro.refl w4).drew.cell a0, (Gro.refl w4).drew.cell a1_, (Gro.refl w4).drew.cell a2_, (Gro.refl w4).drew.cell b0, (Gro.refl w4).drew.cell b1_, (Gro.refl w4).drew.cell b2_, (Gro.refl w4).drew.cell e0, (Gro.refl w4).drew.cell e1, (Gro.refl w4).drew.cell e2, (Gro.refl w4).drew.cell e3, (Gro.refl w4).drew.cell e4, (Gro.refl w4).drew.cell e5, (Gro.refl w4).drew.cell f0, (Gro.refl w4).drew.cell f1, (Gro.refl w4).drew.cell f2, (Gro.refl w4).drew.cell f3, (Gro.refl w4).drew.cell f4, (Gro.refl w4).drew.cell f5, (Gro.refl w4).drew.cell p0, (Gro.refl w4).drew.cell p1, (Gro.refl w4).drew.cell q0, (Gro.refl w4).drew.cell q1⟩ (fun hHeld => ?_)
  have HG := yy (HG.out.trans (Gro.refl w4).drew)
  clear a0 a1_ a2_ b0 b1_ b2_ e0 e1 e2 e3 e4 e5 f0 f1 f2 f3 f4 f5 p0 p1 q0 q1 hla hlb hle hlf hlp
  generalize w4.drew = wD at hHeld HG ⊢
  refine tkH 0 rfl lfR211 hHeld ?_
  refine nx ?_
  refine tkH 1 rfl lfR211 hHeld ?_
  refine nx ?_
  refine tkH 2 rfl lfR211 hHeld ?_
  refine nx ?_
  refine tkH 3 rfl lfR211 hHeld ?_
  refine nx ?_
  refine tkH 4 rfl lfR211 hHeld ?_
  refine nx ?_
  refine tkH 5 rfl lfR211 hHeld ?_
  refine nx ?_
  refine tkH 6 (v := .bool true) rfl lfR211 hHeld ?_
  refine nx ?_
  refine tkH 7 rfl lfR211 hHeld ?_
  refine nx ?_
  refine tkH 8 rfl lfR211 hHeld ?_
  refine nx ?_
  refine tkH 9 rfl lfR211 hHeld ?_
  refine nx ?_
  refine tkH 10 rfl lfR211 hHeld ?_
  refine nx ?_
  refine tkH 11 rfl lfR211 hHeld ?_
  refine nx ?_
  refine tkH 12 rfl lfR211 hHeld ?_
  refine nx ?_
  refine tkH 13 rfl lfR211 hHeld ?_
  refine nx ?_
  refine tkH 14 rfl lfR211 hHeld ?_
  refine nx ?_
  refine tkH 15 rfl lfR211 hHeld ?_
  refine nx ?_
  refine tkH 16 rfl lfR211 hHeld ?_
  refine nx ?_
  refine tkH 17 rfl lfR211 hHeld ?_
  refine nx ?_
  refine tkH 18 rfl lfR211 hHeld ?_
  refine nx ?_
  refine tkH 19 rfl lfR211 hHeld ?_
  refine nx ?_
  refine tkH 20 (v := .int .i64 p) rfl lfR211 hHeld ?_
  refine nx ?_
  refine tkH 21 rfl lfR211 hHeld ?_
  refine nx ?_
  refine tkH 22 rfl lfR211 hHeld ?_
  refine nx ?_
  refine wpAnyH_ready (rs := [23]) (by kernel_rfl) (by simp) ?_
  refine AllReadyH.cons (i := 23) rfl (fun K hK => ?_) AllReadyH.nil
  go_simp
  refine (keeps86 (HB.out _ HG.out) HFB.out x).mono ?_
  rintro _ w5 ⟨rfl, kx⟩
  obtain ⟨a0, a1_, a2_, b0, b1_, b2_, e0, e1, e2, e3, e4, e5, f0, f1, f2, f3, f4, f5, p0, p1, q0, q1⟩ := hHeld
  have hH2 : (fun w' => w'.cell? ⟨XA, 0, none⟩ = some (Value.slice (some ⟨pb, po, none⟩) a.vs.length ac1) ∧ w'.cell? ⟨XA, 1, none⟩ = some (Value.slice a2 a.es.length ac2) ∧ w'.cell? ⟨XA, 2, none⟩ = some (Value.slice a3 a.ds.length ac3) ∧ w'.cell? ⟨XB, 0, none⟩ = some (Value.slice b1 b.vs.length bc1) ∧ w'.cell? ⟨XB, 1, none⟩ = some (Value.slice (some ⟨eb, eo, none⟩) b.es.length bc2) ∧ w'.cell? ⟨XB, 2, none⟩ = some (Value.slice b3 b.ds.length bc3) ∧ w'.cell? ⟨XE, 0, none⟩ = some (Value.int IntKind.i64 e.id) ∧ w'.cell? ⟨XE, 1, none⟩ = some (Value.int IntKind.i64 e.src) ∧ w'.cell? ⟨XE, 2, none⟩ = some (Value.int IntKind.i64 e.dst) ∧ w'.cell? ⟨XE, 3, none⟩ = some (Value.bool e.dir) ∧ w'.cell? ⟨XE, 4, none⟩ = some (Value.int IntKind.i64 e.weight) ∧ w'.cell? ⟨XE, 5, none⟩ = some (Value.int IntKind.i64 e.cap) ∧ w'.cell? ⟨eb, eo + i * 6, none⟩ = some (Value.int IntKind.i64 e.id) ∧ w'.cell? ⟨eb, eo + i * 6 + 1, none⟩ = some (Value.int IntKind.i64 e.src) ∧ w'.cell? ⟨eb, eo + i * 6 + 2, none⟩ = some (Value.int IntKind.i64 e.dst) ∧ w'.cell? ⟨eb, eo + i * 6 + 3, none⟩ = some (Value.bool e.dir) ∧ w'.cell? ⟨eb, eo + i * 6 + 4, none⟩ = some (Value.int IntKind.i64 e.weight) ∧ w'.cell? ⟨eb, eo + i * 6 + 5, none⟩ = some (Value.int IntKind.i64 e.cap) ∧ w'.cell? ⟨pb, po + p * 2, none⟩ = some (Value.int IntKind.i64 x.id) ∧ w'.cell? ⟨pb, po + p * 2 + 1, none⟩ = some (Value.int IntKind.i64 x.side) ∧ w'.cell? ⟨pb, po + q * 2, none⟩ = some (Value.int IntKind.i64 y.id) ∧ w'.cell? ⟨pb, po + q * 2 + 1, none⟩ = some (Value.int IntKind.i64 y.side)) w5 := ⟨kx.cell a0, kx.cell a1_, kx.cell a2_, kx.cell b0, kx.cell b1_, kx.cell b2_, kx.cell e0, kx.cell e1, kx.cell e2, kx.cell e3, kx.cell e4, kx.cell e5, kx.cell f0, kx.cell f1, kx.cell f2, kx.cell f3, kx.cell f4, kx.cell f5, kx.cell p0, kx.cell p1, kx.cell q0, kx.cell q1⟩
  have HG := yy (HG.out.trans kx)
  clear kx a0 a1_ a2_ b0 b1_ b2_ e0 e1 e2 e3 e4 e5 f0 f1 f2 f3 f4 f5 p0 p1 q0 q1
  try go_simp
  refine hK.out _ _ hH2 (fun hHeld => ?_)
  clear hK K hH2
  try refine nx ?_
  cases hm1 : keepsB b x with
  | false =>
   have HR := yy (show (!lostE a b e) = false from by unfold lostE; rw [HM1.out, hm1]; simp)
   clear hm1
   refine tkH 24 rfl lfR211 hHeld ?_
   refine nx ?_
   refine tkH 25 rfl lfR211 hHeld ?_
   refine nx ?_
   refine tkS 26 rfl hHeld ?_
   refine nx ?_
   refine tkS 27 rfl hHeld ?_
   refine nx ?_
   refine tkS 28 rfl hHeld ?_
   refine nx ?_
   refine tkS 29 rfl hHeld ?_
   refine nx ?_
   refine tkS 30 rfl hHeld ?_
   refine nx ?_
   refine tkS 31 rfl hHeld ?_
   refine nx ?_
   refine tkS 32 rfl hHeld ?_
   refine nx ?_
   refine tkS 33 rfl hHeld ?_
   refine nx ?_
   refine tkH 34 rfl lfR211 hHeld ?_
   refine nx ?_
   refine tkH 35 rfl lfR211 hHeld ?_
   refine nx ?_
   refine wpAnyH_done (by kernel_rfl) ?_ _
   clear hHeld
   go_wp2_with fail
   go_ret
   exact ⟨by rw [HR.out]; rfl, K0.out.trans HG.out⟩
  | true =>
  have HK1 := yy hm1
  clear hm1
  refine tkH 24 rfl lfR211 hHeld ?_
  refine nx ?_
  refine tkH 25 rfl lfR211 hHeld ?_
  refine nx ?_
  refine tkH 26 rfl lfR211 hHeld ?_
  refine nx ?_
  refine tkH 27 rfl lfR211 hHeld ?_
  refine nx ?_
  refine tkH 28 rfl lfR211 hHeld ?_
  refine nx ?_
  refine tkH 29 rfl lfR211 hHeld ?_
  refine nx ?_
  refine tkH 30 (v := .int .i64 q) rfl lfR211 hHeld ?_
  refine nx ?_
  refine tkH 31 rfl lfR211 hHeld ?_
  refine nx ?_
  refine tkH 32 rfl lfR211 hHeld ?_
  refine nx ?_
  refine wpAnyH_ready (rs := [33]) (by kernel_rfl) (by simp) ?_
  refine AllReadyH.cons (i := 33) rfl (fun K hK => ?_) AllReadyH.nil
  go_simp
  refine (keeps86 (HB.out _ HG.out) HFB.out y).mono ?_
  rintro _ w6 ⟨rfl, kx⟩
  obtain ⟨a0, a1_, a2_, b0, b1_, b2_, e0, e1, e2, e3, e4, e5, f0, f1, f2, f3, f4, f5, p0, p1, q0, q1⟩ := hHeld
  have hH2 : (fun w' => w'.cell? ⟨XA, 0, none⟩ = some (Value.slice (some ⟨pb, po, none⟩) a.vs.length ac1) ∧ w'.cell? ⟨XA, 1, none⟩ = some (Value.slice a2 a.es.length ac2) ∧ w'.cell? ⟨XA, 2, none⟩ = some (Value.slice a3 a.ds.length ac3) ∧ w'.cell? ⟨XB, 0, none⟩ = some (Value.slice b1 b.vs.length bc1) ∧ w'.cell? ⟨XB, 1, none⟩ = some (Value.slice (some ⟨eb, eo, none⟩) b.es.length bc2) ∧ w'.cell? ⟨XB, 2, none⟩ = some (Value.slice b3 b.ds.length bc3) ∧ w'.cell? ⟨XE, 0, none⟩ = some (Value.int IntKind.i64 e.id) ∧ w'.cell? ⟨XE, 1, none⟩ = some (Value.int IntKind.i64 e.src) ∧ w'.cell? ⟨XE, 2, none⟩ = some (Value.int IntKind.i64 e.dst) ∧ w'.cell? ⟨XE, 3, none⟩ = some (Value.bool e.dir) ∧ w'.cell? ⟨XE, 4, none⟩ = some (Value.int IntKind.i64 e.weight) ∧ w'.cell? ⟨XE, 5, none⟩ = some (Value.int IntKind.i64 e.cap) ∧ w'.cell? ⟨eb, eo + i * 6, none⟩ = some (Value.int IntKind.i64 e.id) ∧ w'.cell? ⟨eb, eo + i * 6 + 1, none⟩ = some (Value.int IntKind.i64 e.src) ∧ w'.cell? ⟨eb, eo + i * 6 + 2, none⟩ = some (Value.int IntKind.i64 e.dst) ∧ w'.cell? ⟨eb, eo + i * 6 + 3, none⟩ = some (Value.bool e.dir) ∧ w'.cell? ⟨eb, eo + i * 6 + 4, none⟩ = some (Value.int IntKind.i64 e.weight) ∧ w'.cell? ⟨eb, eo + i * 6 + 5, none⟩ = some (Value.int IntKind.i64 e.cap) ∧ w'.cell? ⟨pb, po + p * 2, none⟩ = some (Value.int IntKind.i64 x.id) ∧ w'.cell? ⟨pb, po + p * 2 + 1, none⟩ = some (Value.int IntKind.i64 x.side) ∧ w'.cell? ⟨pb, po + q * 2, none⟩ = some (Value.int IntKind.i64 y.id) ∧ w'.cell? ⟨pb, po + q * 2 + 1, none⟩ = some (Value.int IntKind.i64 y.side)) w6 := ⟨kx.cell a0, kx.cell a1_, kx.cell a2_, kx.cell b0, kx.cell b1_, kx.cell b2_, kx.cell e0, kx.cell e1, kx.cell e2, kx.cell e3, kx.cell e4, kx.cell e5, kx.cell f0, kx.cell f1, kx.cell f2, kx.cell f3, kx.cell f4, kx.cell f5, kx.cell p0, kx.cell p1, kx.cell q0, kx.cell q1⟩
  have HG := yy (HG.out.trans kx)
  clear kx a0 a1_ a2_ b0 b1_ b2_ e0 e1 e2 e3 e4 e5 f0 f1 f2 f3 f4 f5 p0 p1 q0 q1
  try go_simp
  refine hK.out _ _ hH2 (fun hHeld => ?_)
  clear hK K hH2
  try refine nx ?_
  have HR := yy (show (!lostE a b e) = keepsB b y from by unfold lostE; rw [HM1.out, HK1.out, HM2.out, decide_eq_true HIN.out]; simp)
  generalize keepsB b y = kb at HR ⊢
  refine tkH 34 rfl lfR211 hHeld ?_
  refine nx ?_
  refine tkH 35 rfl lfR211 hHeld ?_
  refine nx ?_
  refine wpAnyH_done (by kernel_rfl) ?_ _
  clear hHeld
  go_wp2_with fail
  go_ret
  exact ⟨by rw [HR.out]; rfl, K0.out.trans HG.out⟩
 rw [decide_eq_false hE] at heq
 have HR := yy (show (!lostE a b e) = false from by unfold lostE; rw [HME.out, decide_eq_false hE]; simp)
 generalize b.es[i] = z at f0 f1 f2 f3 f4 f5 heq
 clear hE HME p0 p1 q0 q1 hlp
 go_wp2_with fail
 have b1_ := gcell b1_
 have e0 := gcell e0
 have e1 := gcell e1
 have e2 := gcell e2
 have e3 := gcell e3
 have e4 := gcell e4
 have e5 := gcell e5
 have f0 := gcell f0
 have f1 := gcell f1
 have f2 := gcell f2
 have f3 := gcell f3
 have f4 := gcell f4
 have f5 := gcell f5
 clear a0 a1_ a2_ hla b0 b2_
 go_quiet_grown (fail)
 have kq := gro_of_grow w4 nq osq
 dsimp only at kq ⊢
 clear b1_ e0 e1 e2 e3 e4 e5 f0 f1 f2 f3 f4 f5 heq hle hlb hlf
 generalize Go.Sort.grow (w4.drewN nq) osq = w5 at kq ⊢
 have HG := yy (HG.out.trans kq)
 clear kq
 go_wp2_with fail
 go_ret
 exact ⟨by rw [HR.out]; rfl, K0.out.trans HG.out⟩
end Go.Proofs.YthfagcdjbmhhcaaGreat
