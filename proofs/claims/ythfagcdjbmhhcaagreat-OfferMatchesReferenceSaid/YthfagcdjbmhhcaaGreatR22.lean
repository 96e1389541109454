/- the reference: Changes. -/
import Derived.Test.YthfagcdjbmhhcaaGreatR21
set_option linter.unusedVariables false
set_option linter.unusedSimpArgs false
namespace Go.Proofs.YthfagcdjbmhhcaaGreat
open Go.RowKit
attribute [local irreducible] wpQuiet
theorem lfR221 {P : Prop} (h : P := by (intro w hSw; obtain ⟨p0, p1, p2, r0, r1, r2, e0, e1, e2, e3, e4, e5⟩ := hSw; have hlx := World.block_lt_of_cell? _ _ p0; have hly := World.block_lt_of_cell? _ _ r0; have hle := World.block_lt_of_cell? _ _ e0; go_simp; try with_reducible rfl)) : P := h
theorem lfR222 {P : Prop} (h : P := by (intro w hSw; obtain ⟨p0, p1, p2, r0, r1, r2, e0, e1⟩ := hSw; have hlx := World.block_lt_of_cell? _ _ p0; have hly := World.block_lt_of_cell? _ _ r0; have hle := World.block_lt_of_cell? _ _ e0; go_simp; try with_reducible rfl)) : P := h
set_option maxHeartbeats 16000000 in
set_option maxRecDepth 100000 in
theorem rchanges33 {w : World} {vg va vb : Value} {g : Gr} {a b : Bk} (hG : GrV w vg g) (hA : BkV w va a) (hB : BkV w vb b) (hfa : Fits g a) (hfb : Fits g b) : Calls Tryz.prog 33 #[vg, va, vb] w (ChgPost w (changesOf g a b)) := by
 have hmix := mixed
 obtain ⟨gg1, ggc1, gg2, ggc2, gg3, ggc3, rfl⟩ := hG.open
 obtain ⟨aa1, aac1, aa2, aac2, aa3, aac3, rfl⟩ := hA.open
 obtain ⟨bb1, bbc1, bb2, bbc2, bb3, bbc3, rfl⟩ := hB.open
 obtain ⟨wa, hwa⟩ : ∃ wa, wa = ((w.alloc (.cells #[Value.slice gg1 g.vs.length ggc1, Value.slice gg2 g.es.length ggc2, Value.slice gg3 g.ds.length ggc3] 38)).alloc (.cells #[Value.int IntKind.i64 a.round, Value.slice aa1 a.ps.length aac1, Value.slice aa2 a.os.length aac2, Value.slice aa3 a.ws.length aac3] 28)).alloc (.cells #[Value.int IntKind.i64 b.round, Value.slice bb1 b.ps.length bbc1, Value.slice bb2 b.os.length bbc2, Value.slice bb3 b.ws.length bbc3] 28) := ⟨_, rfl⟩
 have k0 : Gro w wa := by rw [hwa]; exact (((Gro.refl _).alloc _).alloc _).alloc _
 have BG := yy (show wa.heap[w.heap.size]? = some (.cells #[Value.slice gg1 g.vs.length ggc1, Value.slice gg2 g.es.length ggc2, Value.slice gg3 g.ds.length ggc3] 38 (0, 0)) from by rw [hwa]; exact blk_alloc (blk_alloc (blk_new _ _) _) _)
 have BA := yy (show wa.heap[w.heap.size + 1]? = some (.cells #[Value.int IntKind.i64 a.round, Value.slice aa1 a.ps.length aac1, Value.slice aa2 a.os.length aac2, Value.slice aa3 a.ws.length aac3] 28 (0, 0)) from by
  rw [hwa]
  have := blk_new (w.alloc (.cells #[Value.slice gg1 g.vs.length ggc1, Value.slice gg2 g.es.length ggc2, Value.slice gg3 g.ds.length ggc3] 38)) (.cells #[Value.int IntKind.i64 a.round, Value.slice aa1 a.ps.length aac1, Value.slice aa2 a.os.length aac2, Value.slice aa3 a.ws.length aac3] 28)
  rw [asz] at this
  exact blk_alloc this _)
 have BB' := yy (show wa.heap[w.heap.size + 1 + 1]? = some (.cells #[Value.int IntKind.i64 b.round, Value.slice bb1 b.ps.length bbc1, Value.slice bb2 b.os.length bbc2, Value.slice bb3 b.ws.length bbc3] 28 (0, 0)) from by
  rw [hwa]
  have := blk_new ((w.alloc (.cells #[Value.slice gg1 g.vs.length ggc1, Value.slice gg2 g.es.length ggc2, Value.slice gg3 g.ds.length ggc3] 38)).alloc (.cells #[Value.int IntKind.i64 a.round, Value.slice aa1 a.ps.length aac1, Value.slice aa2 a.os.length aac2, Value.slice aa3 a.ws.length aac3] 28)) (.cells #[Value.int IntKind.i64 b.round, Value.slice bb1 b.ps.length bbc1, Value.slice bb2 b.os.length bbc2, Value.slice bb3 b.ws.length bbc3] 28)
  rw [asz, asz] at this
  exact this)
 have HGV := yy (fun W (hW : Gro wa W) => (hG.gro (k0.trans hW)))
 have HAV := yy (fun W (hW : Gro wa W) => (hA.gro (k0.trans hW)))
 have HBV := yy (fun W (hW : Gro wa W) => (hB.gro (k0.trans hW)))
 have HFa := yy hfa
 have HFb := yy hfb
 have K0 := yy k0
 have HWA := yy hwa
 have HG := yy (Gro.refl wa)
 clear k0 hwa hG hA hB hfa hfb
 go_enter Tryz.func33, Tryz.ntmps33
 go_upto_region 1 with fail
 rw [← HWA.out]
 clear HWA
 generalize w.heap.size + 1 + 1 = XB at BB' ⊢
 generalize w.heap.size + 1 = XA at BA ⊢
 generalize w.heap.size = XG at BG ⊢
 obtain ⟨g0, g1_, g2_, hlg⟩ := cells3 (HG.out.blk BG.out)
 obtain ⟨a0, a1_, a2_, a3_, hla⟩ := cells4 (HG.out.blk BA.out)
 go_wp2_with fail
 refine (valid15 (HGV.out _ HG.out) (HAV.out _ HG.out) HFa.out).mono ?_
 rintro _ w2 ⟨rfl, kx⟩
 have HG := yy (HG.out.trans kx)
 clear kx
 clear g0 g1_ g2_ hlg a0 a1_ a2_ a3_ hla
 obtain ⟨g0, g1_, g2_, hlg⟩ := cells3 (HG.out.blk BG.out)
 obtain ⟨b0, b1_, b2_, b3_, hlb⟩ := cells4 (HG.out.blk BB'.out)
 cases hva : validB g a with
 | false =>
  have HR : Hid (changesOf g a b = none) := yy (by unfold changesOf; rw [if_neg (by simp [hva])])
  clear hva
  go_wp2_with fail
  go_ret2
  exact ⟨K0.out.trans HG.out, .inr ⟨HR.out, rfl⟩⟩
 | true =>
 go_wp2_with fail
 refine (valid15 (HGV.out _ HG.out) (HBV.out _ HG.out) HFb.out).mono ?_
 rintro _ w3 ⟨rfl, kx⟩
 have HG := yy (HG.out.trans kx)
 clear kx
 clear g0 g1_ g2_ hlg b0 b1_ b2_ b3_ hlb
 cases hvb : validB g b with
 | false =>
  have HR : Hid (changesOf g a b = none) := yy (by unfold changesOf; rw [if_neg (by simp [hvb])])
  clear hva hvb
  go_wp2_with fail
  go_ret2
  exact ⟨K0.out.trans HG.out, .inr ⟨HR.out, rfl⟩⟩
 | true =>
 have HVA := yy (validB_iff.1 hva)
 have HVB := yy (validB_iff.1 hvb)
 have HR0 : Hid (changesOf g a b = some (chgs (build g a) (build g b))) := yy (by unfold changesOf; rw [if_pos ⟨hva, hvb⟩])
 clear hva hvb
 obtain ⟨g0, g1_, g2_, hlg⟩ := cells3 (HG.out.blk BG.out)
 obtain ⟨a0, a1_, a2_, a3_, hla⟩ := cells4 (HG.out.blk BA.out)
 go_wp2_with fail
 refine (build57 (HGV.out _ HG.out) (HAV.out _ HG.out) HFa.out.gfew HFa.out.bfew HFa.out.v HFa.out.e).mono ?_
 rintro _ w4 ⟨r1, r2, r3, rfl, hg9, kx⟩
 obtain ⟨x, hx⟩ : ∃ x, x = build g a := ⟨_, rfl⟩
 rw [← hx] at hg9
 have hgv : GrV w4 (.agg #[r1, r2, r3]) x := ⟨_, _, _, rfl, hg9⟩
 obtain ⟨x1, xc1, x2, xc2, x3, xc3, hr⟩ := hgv.open
 rw [hr] at hgv ⊢
 have HVx := yy hgv
 have HEx := yy hx
 clear hx hr hg9 hgv r1 r2 r3
 have HG := yy (HG.out.trans kx)
 clear kx
 clear g0 g1_ g2_ hlg a0 a1_ a2_ a3_ hla
 obtain ⟨g0, g1_, g2_, hlg⟩ := cells3 (HG.out.blk BG.out)
 obtain ⟨b0, b1_, b2_, b3_, hlb⟩ := cells4 (HG.out.blk BB'.out)
 go_wp2_with fail
 obtain ⟨w5, hW⟩ : ∃ w5, w5 = w4.alloc (Obj.cells #[Value.slice x1 x.vs.length xc1, Value.slice x2 x.es.length xc2, Value.slice x3 x.ds.length xc3] 38) := ⟨_, rfl⟩
 have kx : Gro w4 w5 := by rw [hW]; exact (Gro.refl _).alloc _
 have BX := yy (show w5.heap[w4.heap.size]? = some (.cells #[Value.slice x1 x.vs.length xc1, Value.slice x2 x.es.length xc2, Value.slice x3 x.ds.length xc3] 38 (0, 0)) from by rw [hW]; exact blk_new _ _)
 rw [← hW]
 have HVx := yy (HVx.out.gro kx)
 have HG := yy (HG.out.trans kx)
 clear hW kx
 clear g0 g1_ g2_ hlg b0 b1_ b2_ b3_ hlb
 generalize w4.heap.size = NX at BX ⊢
 refine (build57 (HGV.out _ HG.out) (HBV.out _ HG.out) HFb.out.gfew HFb.out.bfew HFb.out.v HFb.out.e).mono ?_
 rintro _ w6 ⟨r1, r2, r3, rfl, hg9, kx⟩
 obtain ⟨y, hy⟩ : ∃ y, y = build g b := ⟨_, rfl⟩
 rw [← hy] at hg9
 have hgv : GrV w6 (.agg #[r1, r2, r3]) y := ⟨_, _, _, rfl, hg9⟩
 obtain ⟨y1, yc1, y2, yc2, y3, yc3, hr⟩ := hgv.open
 rw [hr] at hgv ⊢
 have HVy := yy hgv
 have HEy := yy hy
 clear hy hr hg9 hgv r1 r2 r3
 have HG := yy (HG.out.trans kx)
 have BX := yy (kx.blk BX.out)
 have HVx := yy (HVx.out.gro kx)
 clear kx
 go_upto_region 5 with fail
 obtain ⟨w9, hW⟩ : ∃ w9, w9 = w6.alloc (Obj.cells #[Value.slice y1 y.vs.length yc1, Value.slice y2 y.es.length yc2, Value.slice y3 y.ds.length yc3] 38) := ⟨_, rfl⟩
 have kx : Gro w6 w9 := by rw [hW]; exact (Gro.refl _).alloc _
 have BY := yy (show w9.heap[w6.heap.size]? = some (.cells #[Value.slice y1 y.vs.length yc1, Value.slice y2 y.es.length yc2, Value.slice y3 y.ds.length yc3] 38 (0, 0)) from by rw [hW]; exact blk_new _ _)
 rw [← hW]
 have HX := yy (fun W (hW : Gro w9 W) => HVx.out.gro (kx.trans hW))
 have HY := yy (fun W (hW : Gro w9 W) => HVy.out.gro (kx.trans hW))
 have K0 := yy (K0.out.trans (HG.out.trans kx))
 have BX := yy (kx.blk BX.out)
 clear hW kx HG HVx HVy
 generalize w6.heap.size = NY at BY ⊢
 have VX := yy (show VG x from HEx.out ▸ valid_build HVA.out)
 have VY := yy (show VG y from HEy.out ▸ valid_build HVB.out)
 have HR := yy (show changesOf g a b = some (chgs x y) from by rw [HR0.out, HEx.out, HEy.out])
 have hxl := VX.out.lens
 have hyl := VY.out.lens
 have FX : Hid x.few := yy ⟨by omega, by omega, by omega⟩
 have FY : Hid y.few := yy ⟨by omega, by omega, by omega⟩
 clear HR0 HEx HEy HVA HVB
 have HG0 := yy (GoAt.mk (α := Chg) (OwnL.nil w9 w9.heap.size) (Gro.refl w9))
 go_wp2_with fail
 go_loopw [11, 10] (fun t u wr => ∃ k : Nat, k ≤ x.es.length ∧ t = .int .i64 k ∧ Hid (GoAt w9 wr u (((x.es.take k).filter (lostE x y)).map dropE : List Chg))) (fun t _ _ => x.es.length - (intOf t).toNat)
 case atStart => exact ⟨0, Nat.zero_le _, by go_num, by simpa using HG0⟩
 case round =>
 clear HG0
 obtain ⟨k, hk, rfl, HG⟩ := hrel
 obtain ⟨p0, p1, p2, hlx⟩ := cells3 (HG.out.gro.blk BX.out)
 obtain ⟨r0, r1, r2, hly⟩ := cells3 (HG.out.gro.blk BY.out)
 by_cases hlt : k < x.es.length
 ·have hl0 := HX.out _ HG.out.gro
  obtain ⟨_, lv1, lv2, _⟩ := hl0.lists
  obtain ⟨eb, eo, rfl, heb, hec⟩ := lv2.base hlt
  obtain ⟨e0, e1, e2, e3, e4, e5⟩ := ecells hec hlt
  have hin := VX.out.oke _ (List.getElem_mem hlt)
  have hf := filter_take_succ (lostE x y) x.es k hlt
  have hfl : (((x.es.take k).filter (lostE x y)).map dropE : List Chg).length ≤ 900000000 := by
   have h1 : ((x.es.take k).filter (lostE x y)).length ≤ x.es.length := Nat.le_trans (List.length_filter_le _ _) (by rw [List.length_take]; omega)
   simp only [List.length_append, List.length_map]
   have h2 := List.length_filter_le (lostE x y) x.es; have h3 := List.length_filter_le (fun v : Vtx => sideG y v.id != v.side) x.vs; have h4 := List.length_filter_le (fun v : Vtx => sideG x v.id != v.side) y.vs; omega
  generalize x.es[k] = v at e0 e1 e2 e3 e4 e5 hf hin
  have HIN := yy hin.2
  generalize hpb : (lostE x y v) = pb at hf
  have HPP := yy (show (!lostE x y v) = !pb from by rw [← hpb])
  have HFT := yy hf
  have hle := World.block_lt_of_cell? _ _ e0
  clear hf hpb hec heb lv1 lv2 hl0 hin
  go_wp2_with fail
  refine wp_region_held_drew (S := (fun w' => w'.cell? ⟨NX, 0, none⟩ = some (Value.slice x1 x.vs.length xc1) ∧ w'.cell? ⟨NX, 1, none⟩ = some (Value.slice (some ⟨eb, eo, none⟩) x.es.length xc2) ∧ w'.cell? ⟨NX, 2, none⟩ = some (Value.slice x3 x.ds.length xc3) ∧ w'.cell? ⟨NY, 0, none⟩ = some (Value.slice y1 y.vs.length yc1) ∧ w'.cell? ⟨NY, 1, none⟩ = some (Value.slice y2 y.es.length yc2) ∧ w'.cell? ⟨NY, 2, none⟩ = some (Value.slice y3 y.ds.length yc3) ∧ w'.cell? ⟨eb, eo + k * 6, none⟩ = some (Value.int IntKind.i64 v.id) ∧ w'.cell? ⟨eb, eo + k * 6 + 1, none⟩ = some (Value.int IntKind.i64 v.src) ∧ w'.cell? ⟨eb, eo + k * 6 + 2, none⟩ = some (Value.int IntKind.i64 v.dst) ∧ w'.cell? ⟨eb, eo + k * 6 + 3, none⟩ = some (Value.bool v.dir) ∧ w'.cell? ⟨eb, eo + k * 6 + 4, none⟩ = some (Value.int IntKind.i64 v.weight) ∧ w'.cell? ⟨eb, eo + k * 6 + 5, none⟩ = some (Value.int IntKind.i64 v.cap))) (by kernel_rfl) ⟨(Gro.refl wr).drew.cell p0, (Gro.refl wr).drew.cell p1, (Gro.refl wr).drew.cell p2, (Gro.refl wr).drew.cell r0, (Gro.refl wr).drew.cell r1, (Gro.refl wr).drew.cell r2, (Gro.refl wr).drew.cell e0, (Gro.refl wr).drew.cell e1, (Gro.refl wr).drew.cell e2, (Gro.refl wr).drew.cell e3, (Gro.refl wr).drew.cell e4, (Gro.refl wr).drew.cell e5⟩ (fun hHeld => ?_)
  have HG := yy (HG.out.step (Gro.refl wr).drew)
  clear p0 p1 p2 r0 r1 r2 e0 e1 e2 e3 e4 e5 hlx hly hle
  generalize wr.drew = wD at hHeld HG ⊢
  refine tkH 0 rfl lfR221 hHeld ?_
  refine nx ?_
  refine tkH 1 rfl lfR221 hHeld ?_
  refine nx ?_
  refine tkH 2 rfl lfR221 hHeld ?_
  refine nx ?_
  refine tkH 3 rfl lfR221 hHeld ?_
  refine nx ?_
  refine tkH 4 rfl lfR221 hHeld ?_
  refine nx ?_
  refine tkH 5 rfl lfR221 hHeld ?_
  refine nx ?_
  refine tkH 6 rfl lfR221 hHeld ?_
  refine nx ?_
  refine wpAnyH_ready (rs := [7]) (by kernel_rfl) (by simp) ?_
  refine AllReadyH.cons (i := 7) rfl (fun K hK => ?_) AllReadyH.nil
  go_simp
  refine (stays85 (HX.out _ HG.out.gro) (HY.out _ HG.out.gro) VX.out VY.out v HIN.out.1 HIN.out.2).mono ?_
  rintro _ w3 ⟨rfl, kx⟩
  rw [HPP.out]
  obtain ⟨p0, p1, p2, r0, r1, r2, e0, e1, e2, e3, e4, e5⟩ := hHeld
  have hH2 : (fun w' => w'.cell? ⟨NX, 0, none⟩ = some (Value.slice x1 x.vs.length xc1) ∧ w'.cell? ⟨NX, 1, none⟩ = some (Value.slice (some ⟨eb, eo, none⟩) x.es.length xc2) ∧ w'.cell? ⟨NX, 2, none⟩ = some (Value.slice x3 x.ds.length xc3) ∧ w'.cell? ⟨NY, 0, none⟩ = some (Value.slice y1 y.vs.length yc1) ∧ w'.cell? ⟨NY, 1, none⟩ = some (Value.slice y2 y.es.length yc2) ∧ w'.cell? ⟨NY, 2, none⟩ = some (Value.slice y3 y.ds.length yc3) ∧ w'.cell? ⟨eb, eo + k * 6, none⟩ = some (Value.int IntKind.i64 v.id) ∧ w'.cell? ⟨eb, eo + k * 6 + 1, none⟩ = some (Value.int IntKind.i64 v.src) ∧ w'.cell? ⟨eb, eo + k * 6 + 2, none⟩ = some (Value.int IntKind.i64 v.dst) ∧ w'.cell? ⟨eb, eo + k * 6 + 3, none⟩ = some (Value.bool v.dir) ∧ w'.cell? ⟨eb, eo + k * 6 + 4, none⟩ = some (Value.int IntKind.i64 v.weight) ∧ w'.cell? ⟨eb, eo + k * 6 + 5, none⟩ = some (Value.int IntKind.i64 v.cap)) w3 := ⟨kx.cell p0, kx.cell p1, kx.cell p2, kx.cell r0, kx.cell r1, kx.cell r2, kx.cell e0, kx.cell e1, kx.cell e2, kx.cell e3, kx.cell e4, kx.cell e5⟩
  have HG := yy (HG.out.step kx)
  clear kx p0 p1 p2 r0 r1 r2 e0 e1 e2 e3 e4 e5
  try go_simp
  refine hK.out _ _ hH2 (fun hHeld => ?_)
  clear hK K hH2
  try refine nx ?_
  refine tkH 8 rfl lfR221 hHeld ?_
  refine nx ?_
  refine wpAnyH_done (by kernel_rfl) ?_ _
  cases pb with
  | false =>
   have HN := yy (show (((x.es.take (k + 1)).filter (lostE x y)).map dropE : List Chg) = (((x.es.take k).filter (lostE x y)).map dropE : List Chg) from by rw [HFT.out]; simp)
   clear hHeld
   go_wp2_with fail
   go_roundw
   case rel => exact ⟨k + 1, by omega, by go_num, by rw [HN.out]; exact HG⟩
   case measure => simp [intOf]; omega
  | true =>
  have HN := yy (show (((x.es.take (k + 1)).filter (lostE x y)).map dropE : List Chg) = (((x.es.take k).filter (lostE x y)).map dropE : List Chg) ++ [dropE v] from by rw [HFT.out]; simp)
  obtain ⟨p0, p1, p2, r0, r1, r2, e0, e1, e2, e3, e4, e5⟩ := hHeld
  have hlx := World.block_lt_of_cell? _ _ p0
  have hly := World.block_lt_of_cell? _ _ r0
  have hle := World.block_lt_of_cell? _ _ e0
  have hbs : w9.heap.size ≤ w3.heap.size := HG.out.gro.size
  go_wp2_with (at_builtin; refine wpList_appC (dropE v) rfl _ _ rfl rfl HG.out.own rfl hfl hbs ?_; intro v' w' h1 h2; have H1 := yy (HG.out.app h1 h2); clear h1 h2)
  go_roundw
  case rel => exact ⟨k + 1, by omega, by go_num, by rw [HN.out]; exact H1⟩
  case measure => simp [intOf]; omega
 obtain rfl : k = x.es.length := by omega
 rw [List.take_length] at HG
 have HG0 := HG
 clear HG
 go_wp2_with fail
 clear p0 p1 p2 r0 r1 r2 hlx hly
 go_loopw [12, 10] (fun t u wr => ∃ k : Nat, k ≤ x.vs.length ∧ t = .int .i64 k ∧ Hid (GoAt w9 wr u ((x.es.filter (lostE x y)).map dropE ++ ((x.vs.take k).filter (fun v => sideG y v.id != v.side)).map dropV : List Chg))) (fun t _ _ => x.vs.length - (intOf t).toNat)
 case atStart => exact ⟨0, Nat.zero_le _, by go_num, by simpa using HG0⟩
 case round =>
 clear HG0
 obtain ⟨k, hk, rfl, HG⟩ := hrel
 obtain ⟨p0, p1, p2, hlx⟩ := cells3 (HG.out.gro.blk BX.out)
 obtain ⟨r0, r1, r2, hly⟩ := cells3 (HG.out.gro.blk BY.out)
 by_cases hlt : k < x.vs.length
 ·have hl0 := HX.out _ HG.out.gro
  obtain ⟨_, lv1, lv2, _⟩ := hl0.lists
  obtain ⟨eb, eo, rfl, heb, hec⟩ := lv1.base hlt
  obtain ⟨e0, e1⟩ := vcells hec hlt
  have hvs := okV_side VX.out (List.getElem_mem hlt)
  have hf := filter_take_succ (fun v => sideG y v.id != v.side) x.vs k hlt
  have hfl : ((x.es.filter (lostE x y)).map dropE ++ ((x.vs.take k).filter (fun v => sideG y v.id != v.side)).map dropV : List Chg).length ≤ 900000000 := by
   have h1 : ((x.vs.take k).filter (fun v => sideG y v.id != v.side)).length ≤ x.vs.length := Nat.le_trans (List.length_filter_le _ _) (by rw [List.length_take]; omega)
   simp only [List.length_append, List.length_map]
   have h2 := List.length_filter_le (lostE x y) x.es; have h3 := List.length_filter_le (fun v : Vtx => sideG y v.id != v.side) x.vs; have h4 := List.length_filter_le (fun v : Vtx => sideG x v.id != v.side) y.vs; omega
  generalize x.vs[k] = v at e0 e1 hf hvs
  skip
  generalize hpb : (sideG y v.id != v.side) = pb at hf
  have HPP := yy (show keepsB y v = !pb from by rw [← hpb, keepsB_side hvs]; unfold bne; simp)
  have HFT := yy hf
  have hle := World.block_lt_of_cell? _ _ e0
  clear hf hpb hec heb lv1 lv2 hl0 hvs
  go_wp2_with fail
  refine wp_region_held_drew (S := (fun w' => w'.cell? ⟨NX, 0, none⟩ = some (Value.slice (some ⟨eb, eo, none⟩) x.vs.length xc1) ∧ w'.cell? ⟨NX, 1, none⟩ = some (Value.slice x2 x.es.length xc2) ∧ w'.cell? ⟨NX, 2, none⟩ = some (Value.slice x3 x.ds.length xc3) ∧ w'.cell? ⟨NY, 0, none⟩ = some (Value.slice y1 y.vs.length yc1) ∧ w'.cell? ⟨NY, 1, none⟩ = some (Value.slice y2 y.es.length yc2) ∧ w'.cell? ⟨NY, 2, none⟩ = some (Value.slice y3 y.ds.length yc3) ∧ w'.cell? ⟨eb, eo + k * 2, none⟩ = some (Value.int IntKind.i64 v.id) ∧ w'.cell? ⟨eb, eo + k * 2 + 1, none⟩ = some (Value.int IntKind.i64 v.side))) (by kernel_rfl) ⟨(Gro.refl wr).drew.cell p0, (Gro.refl wr).drew.cell p1, (Gro.refl wr).drew.cell p2, (Gro.refl wr).drew.cell r0, (Gro.refl wr).drew.cell r1, (Gro.refl wr).drew.cell r2, (Gro.refl wr).drew.cell e0, (Gro.refl wr).drew.cell e1⟩ (fun hHeld => ?_)
  have HG := yy (HG.out.step (Gro.refl wr).drew)
  clear p0 p1 p2 r0 r1 r2 e0 e1 hlx hly hle
  generalize wr.drew = wD at hHeld HG ⊢
  refine tkH 0 rfl lfR222 hHeld ?_
  refine nx ?_
  refine tkH 1 rfl lfR222 hHeld ?_
  refine nx ?_
  refine tkH 2 rfl lfR222 hHeld ?_
  refine nx ?_
  refine tkH 3 rfl lfR222 hHeld ?_
  refine nx ?_
  refine tkH 4 rfl lfR222 hHeld ?_
  refine nx ?_
  refine tkH 5 rfl lfR222 hHeld ?_
  refine nx ?_
  refine wpAnyH_ready (rs := [6]) (by kernel_rfl) (by simp) ?_
  refine AllReadyH.cons (i := 6) rfl (fun K hK => ?_) AllReadyH.nil
  go_simp
  refine (keeps86 (HY.out _ HG.out.gro) FY.out v).mono ?_
  rintro _ w3 ⟨rfl, kx⟩
  rw [HPP.out]
  obtain ⟨p0, p1, p2, r0, r1, r2, e0, e1⟩ := hHeld
  have hH2 : (fun w' => w'.cell? ⟨NX, 0, none⟩ = some (Value.slice (some ⟨eb, eo, none⟩) x.vs.length xc1) ∧ w'.cell? ⟨NX, 1, none⟩ = some (Value.slice x2 x.es.length xc2) ∧ w'.cell? ⟨NX, 2, none⟩ = some (Value.slice x3 x.ds.length xc3) ∧ w'.cell? ⟨NY, 0, none⟩ = some (Value.slice y1 y.vs.length yc1) ∧ w'.cell? ⟨NY, 1, none⟩ = some (Value.slice y2 y.es.length yc2) ∧ w'.cell? ⟨NY, 2, none⟩ = some (Value.slice y3 y.ds.length yc3) ∧ w'.cell? ⟨eb, eo + k * 2, none⟩ = some (Value.int IntKind.i64 v.id) ∧ w'.cell? ⟨eb, eo + k * 2 + 1, none⟩ = some (Value.int IntKind.i64 v.side)) w3 := ⟨kx.cell p0, kx.cell p1, kx.cell p2, kx.cell r0, kx.cell r1, kx.cell r2, kx.cell e0, kx.cell e1⟩
  have HG := yy (HG.out.step kx)
  clear kx p0 p1 p2 r0 r1 r2 e0 e1
  try go_simp
  refine hK.out _ _ hH2 (fun hHeld => ?_)
  clear hK K hH2
  try refine nx ?_
  refine tkH 7 rfl lfR222 hHeld ?_
  refine nx ?_
  refine wpAnyH_done (by kernel_rfl) ?_ _
  cases pb with
  | false =>
   have HN := yy (show ((x.es.filter (lostE x y)).map dropE ++ ((x.vs.take (k + 1)).filter (fun v => sideG y v.id != v.side)).map dropV : List Chg) = ((x.es.filter (lostE x y)).map dropE ++ ((x.vs.take k).filter (fun v => sideG y v.id != v.side)).map dropV : List Chg) from by rw [HFT.out]; simp)
   clear hHeld
   go_wp2_with fail
   go_roundw
   case rel => exact ⟨k + 1, by omega, by go_num, by rw [HN.out]; exact HG⟩
   case measure => simp [intOf]; omega
  | true =>
  have HN := yy (show ((x.es.filter (lostE x y)).map dropE ++ ((x.vs.take (k + 1)).filter (fun v => sideG y v.id != v.side)).map dropV : List Chg) = ((x.es.filter (lostE x y)).map dropE ++ ((x.vs.take k).filter (fun v => sideG y v.id != v.side)).map dropV : List Chg) ++ [dropV v] from by rw [HFT.out]; simp)
  obtain ⟨p0, p1, p2, r0, r1, r2, e0, e1⟩ := hHeld
  have hlx := World.block_lt_of_cell? _ _ p0
  have hly := World.block_lt_of_cell? _ _ r0
  have hle := World.block_lt_of_cell? _ _ e0
  have hbs : w9.heap.size ≤ w3.heap.size := HG.out.gro.size
  go_wp2_with (at_builtin; refine wpList_appC (dropV v) rfl _ _ rfl rfl HG.out.own rfl hfl hbs ?_; intro v' w' h1 h2; have H1 := yy (HG.out.app h1 h2); clear h1 h2)
  go_roundw
  case rel => exact ⟨k + 1, by omega, by go_num, by rw [HN.out]; exact H1⟩
  case measure => simp [intOf]; omega
 obtain rfl : k = x.vs.length := by omega
 rw [List.take_length] at HG
 have HG0 := HG
 clear HG
 go_wp2_with fail
 clear p0 p1 p2 r0 r1 r2 hlx hly
 go_loopw [13, 10] (fun t u wr => ∃ k : Nat, k ≤ y.vs.length ∧ t = .int .i64 k ∧ Hid (GoAt w9 wr u (((x.es.filter (lostE x y)).map dropE ++ (x.vs.filter (fun v => sideG y v.id != v.side)).map dropV) ++ ((y.vs.take k).filter (fun v => sideG x v.id != v.side)).map addV : List Chg))) (fun t _ _ => y.vs.length - (intOf t).toNat)
 case atStart => exact ⟨0, Nat.zero_le _, by go_num, by simpa using HG0⟩
 case round =>
 clear HG0
 obtain ⟨k, hk, rfl, HG⟩ := hrel
 obtain ⟨p0, p1, p2, hlx⟩ := cells3 (HG.out.gro.blk BX.out)
 obtain ⟨r0, r1, r2, hly⟩ := cells3 (HG.out.gro.blk BY.out)
 by_cases hlt : k < y.vs.length
 ·have hl0 := HY.out _ HG.out.gro
  obtain ⟨_, lv1, lv2, _⟩ := hl0.lists
  obtain ⟨eb, eo, rfl, heb, hec⟩ := lv1.base hlt
  obtain ⟨e0, e1⟩ := vcells hec hlt
  have hvs := okV_side VY.out (List.getElem_mem hlt)
  have hf := filter_take_succ (fun v => sideG x v.id != v.side) y.vs k hlt
  have hfl : (((x.es.filter (lostE x y)).map dropE ++ (x.vs.filter (fun v => sideG y v.id != v.side)).map dropV) ++ ((y.vs.take k).filter (fun v => sideG x v.id != v.side)).map addV : List Chg).length ≤ 900000000 := by
   have h1 : ((y.vs.take k).filter (fun v => sideG x v.id != v.side)).length ≤ y.vs.length := Nat.le_trans (List.length_filter_le _ _) (by rw [List.length_take]; omega)
   simp only [List.length_append, List.length_map]
   have h2 := List.length_filter_le (lostE x y) x.es; have h3 := List.length_filter_le (fun v : Vtx => sideG y v.id != v.side) x.vs; have h4 := List.length_filter_le (fun v : Vtx => sideG x v.id != v.side) y.vs; omega
  generalize y.vs[k] = v at e0 e1 hf hvs
  skip
  generalize hpb : (sideG x v.id != v.side) = pb at hf
  have HPP := yy (show keepsB x v = !pb from by rw [← hpb, keepsB_side hvs]; unfold bne; simp)
  have HFT := yy hf
  have hle := World.block_lt_of_cell? _ _ e0
  clear hf hpb hec heb lv1 lv2 hl0 hvs
  go_wp2_with fail
  refine wp_region_held_drew (S := (fun w' => w'.cell? ⟨NX, 0, none⟩ = some (Value.slice x1 x.vs.length xc1) ∧ w'.cell? ⟨NX, 1, none⟩ = some (Value.slice x2 x.es.length xc2) ∧ w'.cell? ⟨NX, 2, none⟩ = some (Value.slice x3 x.ds.length xc3) ∧ w'.cell? ⟨NY, 0, none⟩ = some (Value.slice (some ⟨eb, eo, none⟩) y.vs.length yc1) ∧ w'.cell? ⟨NY, 1, none⟩ = some (Value.slice y2 y.es.length yc2) ∧ w'.cell? ⟨NY, 2, none⟩ = some (Value.slice y3 y.ds.length yc3) ∧ w'.cell? ⟨eb, eo + k * 2, none⟩ = some (Value.int IntKind.i64 v.id) ∧ w'.cell? ⟨eb, eo + k * 2 + 1, none⟩ = some (Value.int IntKind.i64 v.side))) (by kernel_rfl) ⟨(Gro.refl wr).drew.cell p0, (Gro.refl wr).drew.cell p1, (Gro.refl wr).drew.cell p2, (Gro.refl wr).drew.cell r0, (Gro.refl wr).drew.cell r1, (Gro.refl wr).drew.cell r2, (Gro.refl wr).drew.cell e0, (Gro.refl wr).drew.cell e1⟩ (fun hHeld => ?_)
  have HG := yy (HG.out.step (Gro.refl wr).drew)
  clear p0 p1 p2 r0 r1 r2 e0 e1 hlx hly hle
  generalize wr.drew = wD at hHeld HG ⊢
  refine tkH 0 rfl lfR222 hHeld ?_
  refine nx ?_
  refine tkH 1 rfl lfR222 hHeld ?_
  refine nx ?_
  refine tkH 2 rfl lfR222 hHeld ?_
  refine nx ?_
  refine tkH 3 rfl lfR222 hHeld ?_
  refine nx ?_
  refine tkH 4 rfl lfR222 hHeld ?_
  refine nx ?_
  refine tkH 5 rfl lfR222 hHeld ?_
  refine nx ?_
  refine wpAnyH_ready (rs := [6]) (by kernel_rfl) (by simp) ?_
  refine AllReadyH.cons (i := 6) rfl (fun K hK => ?_) AllReadyH.nil
  go_simp
  refine (keeps86 (HX.out _ HG.out.gro) FX.out v).mono ?_
  rintro _ w3 ⟨rfl, kx⟩
  rw [HPP.out]
  obtain ⟨p0, p1, p2, r0, r1, r2, e0, e1⟩ := hHeld
  have hH2 : (fun w' => w'.cell? ⟨NX, 0, none⟩ = some (Value.slice x1 x.vs.length xc1) ∧ w'.cell? ⟨NX, 1, none⟩ = some (Value.slice x2 x.es.length xc2) ∧ w'.cell? ⟨NX, 2, none⟩ = some (Value.slice x3 x.ds.length xc3) ∧ w'.cell? ⟨NY, 0, none⟩ = some (Value.slice (some ⟨eb, eo, none⟩) y.vs.length yc1) ∧ w'.cell? ⟨NY, 1, none⟩ = some (Value.slice y2 y.es.length yc2) ∧ w'.cell? ⟨NY, 2, none⟩ = some (Value.slice y3 y.ds.length yc3) ∧ w'.cell? ⟨eb, eo + k * 2, none⟩ = some (Value.int IntKind.i64 v.id) ∧ w'.cell? ⟨eb, eo + k * 2 + 1, none⟩ = some (Value.int IntKind.i64 v.side)) w3 := ⟨kx.cell p0, kx.cell p1, kx.cell p2, kx.cell r0, kx.cell r1, kx.cell r2, kx.cell e0, kx.cell e1⟩
  have HG := yy (HG.out.step kx)
  clear kx p0 p1 p2 r0 r1 r2 e0 e1
  try go_simp
  refine hK.out _ _ hH2 (fun hHeld => ?_)
  clear hK K hH2
  try refine nx ?_
  refine tkH 7 rfl lfR222 hHeld ?_
  refine nx ?_
  refine wpAnyH_done (by kernel_rfl) ?_ _
  cases pb with
  | false =>
   have HN := yy (show (((x.es.filter (lostE x y)).map dropE ++ (x.vs.filter (fun v => sideG y v.id != v.side)).map dropV) ++ ((y.vs.take (k + 1)).filter (fun v => sideG x v.id != v.side)).map addV : List Chg) = (((x.es.filter (lostE x y)).map dropE ++ (x.vs.filter (fun v => sideG y v.id != v.side)).map dropV) ++ ((y.vs.take k).filter (fun v => sideG x v.id != v.side)).map addV : List Chg) from by rw [HFT.out]; simp)
   clear hHeld
   go_wp2_with fail
   go_roundw
   case rel => exact ⟨k + 1, by omega, by go_num, by rw [HN.out]; exact HG⟩
   case measure => simp [intOf]; omega
  | true =>
  have HN := yy (show (((x.es.filter (lostE x y)).map dropE ++ (x.vs.filter (fun v => sideG y v.id != v.side)).map dropV) ++ ((y.vs.take (k + 1)).filter (fun v => sideG x v.id != v.side)).map addV : List Chg) = (((x.es.filter (lostE x y)).map dropE ++ (x.vs.filter (fun v => sideG y v.id != v.side)).map dropV) ++ ((y.vs.take k).filter (fun v => sideG x v.id != v.side)).map addV : List Chg) ++ [addV v] from by rw [HFT.out]; simp)
  obtain ⟨p0, p1, p2, r0, r1, r2, e0, e1⟩ := hHeld
  have hlx := World.block_lt_of_cell? _ _ p0
  have hly := World.block_lt_of_cell? _ _ r0
  have hle := World.block_lt_of_cell? _ _ e0
  have hbs : w9.heap.size ≤ w3.heap.size := HG.out.gro.size
  go_wp2_with (at_builtin; refine wpList_appC (addV v) rfl _ _ rfl rfl HG.out.own rfl hfl hbs ?_; intro v' w' h1 h2; have H1 := yy (HG.out.app h1 h2); clear h1 h2)
  go_roundw
  case rel => exact ⟨k + 1, by omega, by go_num, by rw [HN.out]; exact H1⟩
  case measure => simp [intOf]; omega
 obtain rfl : k = y.vs.length := by omega
 rw [List.take_length] at HG
 have HG0 := HG
 clear HG
 go_wp2_with fail
 clear p0 p1 p2 r0 r1 r2 hlx hly
 go_loopw [14, 10] (fun t u wr => ∃ k : Nat, k ≤ y.es.length ∧ t = .int .i64 k ∧ Hid (GoAt w9 wr u ((((x.es.filter (lostE x y)).map dropE ++ (x.vs.filter (fun v => sideG y v.id != v.side)).map dropV) ++ (y.vs.filter (fun v => sideG x v.id != v.side)).map addV) ++ ((y.es.take k).filter (lostE y x)).map addE : List Chg))) (fun t _ _ => y.es.length - (intOf t).toNat)
 case atStart => exact ⟨0, Nat.zero_le _, by go_num, by simpa using HG0⟩
 case round =>
 clear HG0
 obtain ⟨k, hk, rfl, HG⟩ := hrel
 obtain ⟨p0, p1, p2, hlx⟩ := cells3 (HG.out.gro.blk BX.out)
 obtain ⟨r0, r1, r2, hly⟩ := cells3 (HG.out.gro.blk BY.out)
 by_cases hlt : k < y.es.length
 ·have hl0 := HY.out _ HG.out.gro
  obtain ⟨_, lv1, lv2, _⟩ := hl0.lists
  obtain ⟨eb, eo, rfl, heb, hec⟩ := lv2.base hlt
  obtain ⟨e0, e1, e2, e3, e4, e5⟩ := ecells hec hlt
  have hin := VY.out.oke _ (List.getElem_mem hlt)
  have hf := filter_take_succ (lostE y x) y.es k hlt
  have hfl : ((((x.es.filter (lostE x y)).map dropE ++ (x.vs.filter (fun v => sideG y v.id != v.side)).map dropV) ++ (y.vs.filter (fun v => sideG x v.id != v.side)).map addV) ++ ((y.es.take k).filter (lostE y x)).map addE : List Chg).length ≤ 900000000 := by
   have h1 : ((y.es.take k).filter (lostE y x)).length ≤ y.es.length := Nat.le_trans (List.length_filter_le _ _) (by rw [List.length_take]; omega)
   simp only [List.length_append, List.length_map]
   have h2 := List.length_filter_le (lostE x y) x.es; have h3 := List.length_filter_le (fun v : Vtx => sideG y v.id != v.side) x.vs; have h4 := List.length_filter_le (fun v : Vtx => sideG x v.id != v.side) y.vs; omega
  generalize y.es[k] = v at e0 e1 e2 e3 e4 e5 hf hin
  have HIN := yy hin.2
  generalize hpb : (lostE y x v) = pb at hf
  have HPP := yy (show (!lostE y x v) = !pb from by rw [← hpb])
  have HFT := yy hf
  have hle := World.block_lt_of_cell? _ _ e0
  clear hf hpb hec heb lv1 lv2 hl0 hin
  go_wp2_with fail
  refine wp_region_held_drew (S := (fun w' => w'.cell? ⟨NX, 0, none⟩ = some (Value.slice x1 x.vs.length xc1) ∧ w'.cell? ⟨NX, 1, none⟩ = some (Value.slice x2 x.es.length xc2) ∧ w'.cell? ⟨NX, 2, none⟩ = some (Value.slice x3 x.ds.length xc3) ∧ w'.cell? ⟨NY, 0, none⟩ = some (Value.slice y1 y.vs.length yc1) ∧ w'.cell? ⟨NY, 1, none⟩ = some (Value.slice (some ⟨eb, eo, none⟩) y.es.length yc2) ∧ w'.cell? ⟨NY, 2, none⟩ = some (Value.slice y3 y.ds.length yc3) ∧ w'.cell? ⟨eb, eo + k * 6, none⟩ = some (Value.int IntKind.i64 v.id) ∧ w'.cell? ⟨eb, eo + k * 6 + 1, none⟩ = some (Value.int IntKind.i64 v.src) ∧ w'.cell? ⟨eb, eo + k * 6 + 2, none⟩ = some (Value.int IntKind.i64 v.dst) ∧ w'.cell? ⟨eb, eo + k * 6 + 3, none⟩ = some (Value.bool v.dir) ∧ w'.cell? ⟨eb, eo + k * 6 + 4, none⟩ = some (Value.int IntKind.i64 v.weight) ∧ w'.cell? ⟨eb, eo + k * 6 + 5, none⟩ = some (Value.int IntKind.i64 v.cap))) (by kernel_rfl) ⟨(Gro.refl wr).drew.cell p0, (Gro.refl wr).drew.cell p1, (Gro.refl wr).drew.cell p2, (Gro.refl wr).drew.cell r0, (Gro.refl wr).drew.cell r1, (Gro.refl wr).drew.cell r2, (Gro.refl wr).drew.cell e0, (Gro.refl wr).drew.cell e1, (Gro.refl wr).drew.cell e2, (Gro.refl wr).drew.cell e3, (Gro.refl wr).drew.cell e4, (Gro.refl wr).drew.cell e5⟩ (fun hHeld => ?_)
  have HG := yy (HG.out.step (Gro.refl wr).drew)
  clear p0 p1 p2 r0 r1 r2 e0 e1 e2 e3 e4 e5 hlx hly hle
  generalize wr.drew = wD at hHeld HG ⊢
  refine tkH 0 rfl lfR221 hHeld ?_
  refine nx ?_
  refine tkH 1 rfl lfR221 hHeld ?_
  refine nx ?_
  refine tkH 2 rfl lfR221 hHeld ?_
  refine nx ?_
  refine tkH 3 rfl lfR221 hHeld ?_
  refine nx ?_
  refine tkH 4 rfl lfR221 hHeld ?_
  refine nx ?_
  refine tkH 5 rfl lfR221 hHeld ?_
  refine nx ?_
  refine tkH 6 rfl lfR221 hHeld ?_
  refine nx ?_
  refine wpAnyH_ready (rs := [7]) (by kernel_rfl) (by simp) ?_
  refine AllReadyH.cons (i := 7) rfl (fun K hK => ?_) AllReadyH.nil
  go_simp
  refine (stays85 (HY.out _ HG.out.gro) (HX.out _ HG.out.gro) VY.out VX.out v HIN.out.1 HIN.out.2).mono ?_
  rintro _ w3 ⟨rfl, kx⟩
  rw [HPP.out]
  obtain ⟨p0, p1, p2, r0, r1, r2, e0, e1, e2, e3, e4, e5⟩ := hHeld
  have hH2 : (fun w' => w'.cell? ⟨NX, 0, none⟩ = some (Value.slice x1 x.vs.length xc1) ∧ w'.cell? ⟨NX, 1, none⟩ = some (Value.slice x2 x.es.length xc2) ∧ w'.cell? ⟨NX, 2, none⟩ = some (Value.slice x3 x.ds.length xc3) ∧ w'.cell? ⟨NY, 0, none⟩ = some (Value.slice y1 y.vs.length yc1) ∧ w'.cell? ⟨NY, 1, none⟩ = some (Value.slice (some ⟨eb, eo, none⟩) y.es.length yc2) ∧ w'.cell? ⟨NY, 2, none⟩ = some (Value.slice y3 y.ds.length yc3) ∧ w'.cell? ⟨eb, eo + k * 6, none⟩ = some (Value.int IntKind.i64 v.id) ∧ w'.cell? ⟨eb, eo + k * 6 + 1, none⟩ = some (Value.int IntKind.i64 v.src) ∧ w'.cell? ⟨eb, eo + k * 6 + 2, none⟩ = some (Value.int IntKind.i64 v.dst) ∧ w'.cell? ⟨eb, eo + k * 6 + 3, none⟩ = some (Value.bool v.dir) ∧ w'.cell? ⟨eb, eo + k * 6 + 4, none⟩ = some (Value.int IntKind.i64 v.weight) ∧ w'.cell? ⟨eb, eo + k * 6 + 5, none⟩ = some (Value.int IntKind.i64 v.cap)) w3 := ⟨kx.cell p0, kx.cell p1, kx.cell p2, kx.cell r0, kx.cell r1, kx.cell r2, kx.cell e0, kx.cell e1, kx.cell e2, kx.cell e3, kx.cell e4, kx.cell e5⟩
  have HG := yy (HG.out.step kx)
  clear kx p0 p1 p2 r0 r1 r2 e0 e1 e2 e3 e4 e5
  try go_simp
  refine hK.out _ _ hH2 (fun hHeld => ?_)
  clear hK K hH2
  try refine nx ?_
  refine tkH 8 rfl lfR221 hHeld ?_
  refine nx ?_
  refine wpAnyH_done (by kernel_rfl) ?_ _
  cases pb with
  | false =>
   have HN := yy (show ((((x.es.filter (lostE x y)).map dropE ++ (x.vs.filter (fun v => sideG y v.id != v.side)).map dropV) ++ (y.vs.filter (fun v => sideG x v.id != v.side)).map addV) ++ ((y.es.take (k + 1)).filter (lostE y x)).map addE : List Chg) = ((((x.es.filter (lostE x y)).map dropE ++ (x.vs.filter (fun v => sideG y v.id != v.side)).map dropV) ++ (y.vs.filter (fun v => sideG x v.id != v.side)).map addV) ++ ((y.es.take k).filter (lostE y x)).map addE : List Chg) from by rw [HFT.out]; simp)
   clear hHeld
   go_wp2_with fail
   go_roundw
   case rel => exact ⟨k + 1, by omega, by go_num, by rw [HN.out]; exact HG⟩
   case measure => simp [intOf]; omega
  | true =>
  have HN := yy (show ((((x.es.filter (lostE x y)).map dropE ++ (x.vs.filter (fun v => sideG y v.id != v.side)).map dropV) ++ (y.vs.filter (fun v => sideG x v.id != v.side)).map addV) ++ ((y.es.take (k + 1)).filter (lostE y x)).map addE : List Chg) = ((((x.es.filter (lostE x y)).map dropE ++ (x.vs.filter (fun v => sideG y v.id != v.side)).map dropV) ++ (y.vs.filter (fun v => sideG x v.id != v.side)).map addV) ++ ((y.es.take k).filter (lostE y x)).map addE : List Chg) ++ [addE v] from by rw [HFT.out]; simp)
  obtain ⟨p0, p1, p2, r0, r1, r2, e0, e1, e2, e3, e4, e5⟩ := hHeld
  have hlx := World.block_lt_of_cell? _ _ p0
  have hly := World.block_lt_of_cell? _ _ r0
  have hle := World.block_lt_of_cell? _ _ e0
  have hbs : w9.heap.size ≤ w3.heap.size := HG.out.gro.size
  go_wp2_with (at_builtin; refine wpList_appC (addE v) rfl _ _ rfl rfl HG.out.own rfl hfl hbs ?_; intro v' w' h1 h2; have H1 := yy (HG.out.app h1 h2); clear h1 h2)
  go_roundw
  case rel => exact ⟨k + 1, by omega, by go_num, by rw [HN.out]; exact H1⟩
  case measure => simp [intOf]; omega
 obtain rfl : k = y.es.length := by omega
 rw [List.take_length] at HG
 have HG0 := HG
 clear HG
 go_wp2_with fail
 clear p0 p1 p2 r0 r1 r2 hlx hly
 go_ret2
 refine ⟨K0.out.trans HG0.out.gro, .inl ⟨_, _, HR.out, rfl, ?_⟩⟩
 have hl := HG0.out.own.lv (by
  simp only [List.length_append, List.length_map]
  have h2 := List.length_filter_le (lostE x y) x.es; have h3 := List.length_filter_le (fun v : Vtx => sideG y v.id != v.side) x.vs; have h4 := List.length_filter_le (fun v : Vtx => sideG x v.id != v.side) y.vs; have h5 := List.length_filter_le (lostE y x) y.es; omega)
 exact hl
end Go.Proofs.YthfagcdjbmhhcaaGreat
