/- the acts, where they succeed. -/
import Derived.Test.YthfagcdjbmhhcaaGreatU2
set_option linter.unusedVariables false
set_option linter.unusedSimpArgs false
namespace Go.Proofs.YthfagcdjbmhhcaaGreat
open Go.RowKit
attribute [local irreducible] wpQuiet
theorem lfU31 {P : Prop} (h : P := by (intro w0 hSw; obtain ⟨hA, hB⟩ := hSw; have f0 := blk_cell hA 0; have f1 := blk_cell hA 1; have f2 := blk_cell hA 2; have f3 := blk_cell hA 3; have f4 := blk_cell hA 4; have f5 := blk_cell hA 5; have f6 := blk_cell hA 6; have f7 := blk_cell hA 7; have f8 := blk_cell hA 8; have f9 := blk_cell hA 9; have f10 := blk_cell hA 10; have f11 := blk_cell hA 11; have f12 := blk_cell hA 12; have c1 := blk_cell hB 1; simp only [lPa, lPb, lPc] at f0 f1 f2 f3 f4 f5 f6 f7 f8 f9 f10 f11 f12 c1; have hlA := blk_lt hA; have hlB := blk_lt hB; clear hA hB; go_simp; try with_reducible rfl)) : P := h
set_option maxHeartbeats 8000000 in
set_option maxRecDepth 100000 in
theorem addE189 {F : Nat → Prop} {w0 w : World} {base B : Nat} {v1 v2 v3 : Value} {g : Gr} (h : CAt F w0 base w B v1 v2 v3 g) (hv : VG g) (x : Edg) (hn : x.id ∉ g.es.map Edg.id) (hok : okE x = true) (hs : has g x.src = true) (hd : has g x.dst = true) :
  Calls Tryz.prog 189 #[.pointer (some ⟨B, 0, none⟩), chgV (addE x)] w fun e w' => e = .returned (.tuple #[]) ∧ ∃ v', CAt F w0 base w' B v1 v' v3 ⟨g.vs, ins Edg.id x g.es, g.ds⟩ := by
 have hmix := mixed
 rw [chgV_eq]
 have hlen : g.es.length ≤ 1000000 := by have := hv.lens; omega
 have hlen1 : g.vs.length ≤ 1000000 := by have := hv.lens; omega
 have hh : decide (x.id ∈ g.es.map Edg.id) = false := by simp only [decide_eq_false_iff_not]; exact hn
 obtain ⟨xi, xs, xd, xb, xw, xc⟩ := x
 simp only [addE, zV] at hh hok hs hd ⊢
 have HH := yy hh
 have HV := yy hv
 have HOK := yy hok
 have HS := yy hs
 have HD := yy hd
 have kA : Gro w (w.alloc (.cells #[.int .i64 3, .int .i64 0, .int .i64 0, .int .i64 xi, .int .i64 xs, .int .i64 xd, .bool xb, .int .i64 xw, .int .i64 xc, .int .i64 0, .int .i64 0, .slice none 0 0, .slice none 0 0] 86)) := (Gro.refl _).alloc _
 have bA := blk_new w (.cells #[.int .i64 3, .int .i64 0, .int .i64 0, .int .i64 xi, .int .i64 xs, .int .i64 xd, .bool xb, .int .i64 xw, .int .i64 xc, .int .i64 0, .int .i64 0, .slice none 0 0, .slice none 0 0] 86)
 have HA := yy (h.step kA)
 have BA := yy bA
 clear h hv hok hh kA bA hn hs hd
 go_enter Tryz.func189, Tryz.ntmps189
 go_wp2_with fail
 refine (edge190 HA.out.cb (HA.out.vb.lv (by omega)) hlen HV.out.ae xi).mono ?_
 rintro e w2 ⟨i, rfl, hpos, k2⟩
 rw [HH.out]
 have hins := insAt_ins Edg.id ⟨xi, xs, xd, xb, xw, xc⟩ g.es i hpos
 have hile := hpos.le
 rw [List.length_map] at hile
 have H2 := yy (HA.out.step k2)
 have B2 := yy (k2.blk BA.out)
 have HINS := yy hins
 clear hins hpos k2 HA BA HH
 have cQ := blk_cell B2.out
 have f0 := cQ 0
 have f1 := cQ 1
 have f2 := cQ 2
 have f3 := cQ 3
 have f4 := cQ 4
 have f5 := cQ 5
 have f6 := cQ 6
 have f7 := cQ 7
 have f8 := cQ 8
 have f9 := cQ 9
 have f10 := cQ 10
 have f11 := cQ 11
 have f12 := cQ 12
 simp only [lPa, lPb, lPc] at f0 f1 f2 f3 f4 f5 f6 f7 f8 f9 f10 f11 f12
 have hlA := blk_lt B2.out
 clear cQ
 go_wp2_with fail
 refine (okE93 ⟨xi, xs, xd, xb, xw, xc⟩ w2).mono ?_
 rintro e w3 ⟨rfl, k3⟩
 rw [HOK.out]
 have H3 := yy (H2.out.step k3)
 have B3 := yy (k3.blk B2.out)
 clear f0 f1 f2 f3 f4 f5 f6 f7 f8 f9 f10 f11 f12 hlA k3 H2 B2 HOK
 have cQ := blk_cell B3.out
 have f0 := cQ 0
 have f1 := cQ 1
 have f2 := cQ 2
 have f3 := cQ 3
 have f4 := cQ 4
 have f5 := cQ 5
 have f6 := cQ 6
 have f7 := cQ 7
 have f8 := cQ 8
 have f9 := cQ 9
 have f10 := cQ 10
 have f11 := cQ 11
 have f12 := cQ 12
 simp only [lPa, lPb, lPc] at f0 f1 f2 f3 f4 f5 f6 f7 f8 f9 f10 f11 f12
 have hlA := blk_lt B3.out
 clear cQ
 go_wp2_with fail
 refine (has94 H3.out.cb (H3.out.va.lv (by omega)) hlen1 HV.out.av xs).mono ?_
 rintro e w4 ⟨rfl, k4⟩
 rw [HS.out]
 have H4 := yy (H3.out.step k4)
 have B4 := yy (k4.blk B3.out)
 clear f0 f1 f2 f3 f4 f5 f6 f7 f8 f9 f10 f11 f12 hlA k4 H3 B3 HS
 have cQ := blk_cell B4.out
 have f0 := cQ 0
 have f1 := cQ 1
 have f2 := cQ 2
 have f3 := cQ 3
 have f4 := cQ 4
 have f5 := cQ 5
 have f6 := cQ 6
 have f7 := cQ 7
 have f8 := cQ 8
 have f9 := cQ 9
 have f10 := cQ 10
 have f11 := cQ 11
 have f12 := cQ 12
 simp only [lPa, lPb, lPc] at f0 f1 f2 f3 f4 f5 f6 f7 f8 f9 f10 f11 f12
 have hlA := blk_lt B4.out
 clear cQ
 go_wp2_with fail
 refine (has94 H4.out.cb (H4.out.va.lv (by omega)) hlen1 HV.out.av xd).mono ?_
 rintro e w5 ⟨rfl, k5⟩
 rw [HD.out]
 have H5 := yy (H4.out.step k5)
 have B5 := yy (k5.blk B4.out)
 clear f0 f1 f2 f3 f4 f5 f6 f7 f8 f9 f10 f11 f12 hlA k5 H4 B4 HD
 go_wp2_with fail
 refine (want186 w5).mono ?_
 rintro e w6 ⟨rfl, rfl⟩
 generalize w.heap.size = A at B5 ⊢
 go_wp2_with fail
 have H6 := yy (H5.out.step (Gro.refl w5).drew)
 have B6 := yy ((Gro.refl w5).drew.blk B5.out)
 have hS : (fun w' => w'.heap[A]? = some (.cells #[.int .i64 3, .int .i64 0, .int .i64 0, .int .i64 xi, .int .i64 xs, .int .i64 xd, .bool xb, .int .i64 xw, .int .i64 xc, .int .i64 0, .int .i64 0, .slice none 0 0, .slice none 0 0] 86 (0, 0)) ∧ w'.heap[B]? = some (.cells #[v1, v2, v3] 128 (0, 0))) w5.drew := ⟨B6.out, H6.out.cb⟩
 refine anyL_begin 14 (fun w' => w'.heap[A]? = some (.cells #[.int .i64 3, .int .i64 0, .int .i64 0, .int .i64 xi, .int .i64 xs, .int .i64 xd, .bool xb, .int .i64 xw, .int .i64 xc, .int .i64 0, .int .i64 0, .slice none 0 0, .slice none 0 0] 86 (0, 0)) ∧ w'.heap[B]? = some (.cells #[v1, v2, v3] 128 (0, 0))) hmix ?_
 clear H5 B5 HV
 generalize w5.drew = wd at hS H6 B6 ⊢
 refine tkL 0 (v := ?_) rfl ?_ hS ?_
 rotate_left
 ·exact lfU31
 try refine nx ?_
 refine tkL 1 (v := ?_) rfl ?_ hS ?_
 rotate_left
 ·exact lfU31
 try refine nx ?_
 refine tkL 2 (v := ?_) rfl ?_ hS ?_
 rotate_left
 ·exact lfU31
 try refine nx ?_
 refine tkL 3 (v := ?_) rfl ?_ hS ?_
 rotate_left
 ·exact lfU31
 try refine nx ?_
 refine tkL 4 (v := ?_) rfl ?_ hS ?_
 rotate_left
 ·exact lfU31
 try refine nx ?_
 refine tkL 5 (v := ?_) rfl ?_ hS ?_
 rotate_left
 ·exact lfU31
 try refine nx ?_
 refine tkL 6 (v := ?_) rfl ?_ hS ?_
 rotate_left
 ·exact lfU31
 try refine nx ?_
 refine tkL 7 (v := ?_) rfl ?_ hS ?_
 rotate_left
 ·exact lfU31
 try refine nx ?_
 refine tkL 8 (v := ?_) rfl ?_ hS ?_
 rotate_left
 ·exact lfU31
 try refine nx ?_
 refine anyL_one (i := 9) (by kernel_rfl) rfl (fun K hK => ?_)
 go_simp
 have k7 : Gro wd (wd.alloc (.cells #[.int .i64 xi, .int .i64 xs, .int .i64 xd, .bool xb, .int .i64 xw, .int .i64 xc] 69)) := (Gro.refl _).alloc _
 have b7 := blk_new wd (.cells #[.int .i64 xi, .int .i64 xs, .int .i64 xd, .bool xb, .int .i64 xw, .int .i64 xc] 69)
 have H7 := yy (H6.out.step k7)
 have hS7 : (fun w' => w'.heap[A]? = some (.cells #[.int .i64 3, .int .i64 0, .int .i64 0, .int .i64 xi, .int .i64 xs, .int .i64 xd, .bool xb, .int .i64 xw, .int .i64 xc, .int .i64 0, .int .i64 0, .slice none 0 0, .slice none 0 0] 86 (0, 0)) ∧ w'.heap[B]? = some (.cells #[v1, v2, v3] 128 (0, 0))) (wd.alloc (.cells #[.int .i64 xi, .int .i64 xs, .int .i64 xd, .bool xb, .int .i64 xw, .int .i64 xc] 69)) := ⟨k7.blk hS.1, k7.blk hS.2⟩
 have hne : v2.ownBlock ≠ some wd.heap.size := fun e => by have := (H6.out.vb.block e).2.1; omega
 have HIN := yy (ins130 H7.out.vb H7.out.bw (by omega) i hile ⟨xi, xs, xd, xb, xw, xc⟩ wd.heap.size b7 hne)
 clear b7 k7 H6 hS hne
 refine hK.out _ _ (fun _ => hS7) ?_
 clear hK K
 try refine nx ?_
 generalize hw7 : wd.alloc (.cells #[.int .i64 xi, .int .i64 xs, .int .i64 xd, .bool xb, .int .i64 xw, .int .i64 xc] 69) = w7 at H7 hS7 HIN ⊢
 clear hw7
 refine anyL_one (i := 10) (by kernel_rfl) rfl (fun K hK => ?_)
 go_simp
 refine HIN.out.mono ?_
 rintro e w8 ⟨v', rfl, ho, kk, hat⟩
 rw [HINS.out] at ho
 obtain ⟨s2, cs2, hs2⟩ := ho.form
 subst hs2
 have hB8 := kk.blk H7.out.cb (own_far H7.out.vb H7.out.cb (by decide))
 have hA8 : w8.heap[A]? = some (.cells #[.int .i64 3, .int .i64 0, .int .i64 0, .int .i64 xi, .int .i64 xs, .int .i64 xd, .bool xb, .int .i64 xw, .int .i64 xc, .int .i64 0, .int .i64 0, .slice none 0 0, .slice none 0 0] 86 (0, 0)) := kk.blk hS7.1 (own_far H7.out.vb hS7.1 (by decide))
 have hS : (fun w' => w'.heap[A]? = some (.cells #[.int .i64 3, .int .i64 0, .int .i64 0, .int .i64 xi, .int .i64 xs, .int .i64 xd, .bool xb, .int .i64 xw, .int .i64 xc, .int .i64 0, .int .i64 0, .slice none 0 0, .slice none 0 0] 86 (0, 0)) ∧ w'.heap[B]? = some (.cells #[v1, v2, v3] 128 (0, 0))) w8 := ⟨hA8, hB8⟩
 have H8 := yy (H7.out.setE ho kk hat)
 clear hS7 H7 HIN HINS ho kk hat hB8 hA8 B6
 refine hK.out _ _ (fun _ => hS) ?_
 clear hK K
 try refine nx ?_
 refine anyL_one (i := 11) (by kernel_rfl) rfl (fun K hK => ?_)
 go_simp
 refine hK.out _ _ (fun _ => hS) ?_
 clear hK K
 try refine nx ?_
 refine anyL_one (i := 12) (by kernel_rfl) rfl (fun K hK => ?_)
 go_simp
 refine hK.out _ _ (fun _ => hS) ?_
 clear hK K
 try refine nx ?_
 refine tkL 13 (v := ?_) rfl ?_ hS ?_
 rotate_left
 ·exact lfU31
 try refine nx ?_
 refine anyL_one (i := 14) (by kernel_rfl) rfl (fun K hK => ?_)
 have z0 := blk_frozen hS.2 1
 have c1 := blk_cell hS.2 1
 simp only [lPa, lPb, lPc] at c1
 have hlB := blk_lt hS.2
 go_simp
 refine hK.out _ _ (fun h => absurd rfl h) ?_
 clear hK K hS z0 c1 hlB
 try refine nx ?_
 refine anyL_done (by kernel_rfl) ?_
 go_wp2_with fail
 go_end0
 exact ⟨rfl, _, H8.out⟩
set_option maxHeartbeats 2000000 in
set_option maxRecDepth 100000 in
theorem addV183 {F : Nat → Prop} {w0 w : World} {base B : Nat} {v1 v2 v3 : Value} {g : Gr} (h : CAt F w0 base w B v1 v2 v3 g) (hv : VG g) (x : Vtx) (hn : x.id ∉ g.vs.map Vtx.id) (hok : okV x = true) :
  Calls Tryz.prog 183 #[.pointer (some ⟨B, 0, none⟩), chgV (addV x)] w fun e w' => e = .returned (.tuple #[]) ∧ ∃ v', CAt F w0 base w' B v' v2 v3 ⟨ins Vtx.id x g.vs, g.es, g.ds⟩ := by
 rw [chgV_eq]
 obtain ⟨xi, xs⟩ := x
 simp only [addV, zE]
 have HV := yy hv
 have HOK := yy hok
 have HN := yy hn
 have kA : Gro w (w.alloc (.cells #[.int .i64 1, .int .i64 xi, .int .i64 xs, .int .i64 0, .int .i64 0, .int .i64 0, .bool false, .int .i64 0, .int .i64 0, .int .i64 0, .int .i64 0, .slice none 0 0, .slice none 0 0] 86)) := (Gro.refl _).alloc _
 have bA := blk_new w (.cells #[.int .i64 1, .int .i64 xi, .int .i64 xs, .int .i64 0, .int .i64 0, .int .i64 0, .bool false, .int .i64 0, .int .i64 0, .int .i64 0, .int .i64 0, .slice none 0 0, .slice none 0 0] 86)
 have HA := yy (h.step kA)
 have BA := yy bA
 clear h hv hok hn kA bA
 go_enter Tryz.func183, Tryz.ntmps183
 go_wp2_with fail
 refine (addV184 HA.out HV.out ⟨xi, xs⟩ HN.out HOK.out).mono ?_
 rintro e w2 ⟨rfl, v', h2⟩
 have H2 := yy h2
 clear h2
 go_wp2_with fail
 go_end0
 exact ⟨rfl, v', H2.out⟩
set_option maxHeartbeats 2000000 in
set_option maxRecDepth 100000 in
theorem dropV188 {F : Nat → Prop} {w0 w : World} {base B : Nat} {v1 v2 v3 : Value} {g : Gr} (h : CAt F w0 base w B v1 v2 v3 g) (hv : VG g) (id : Int) (hm : id ∈ g.vs.map Vtx.id) (hd : id ∉ g.ds) :
  Calls Tryz.prog 188 #[.pointer (some ⟨B, 0, none⟩), .int .i64 id] w fun e w' => e = .returned (.tuple #[]) ∧ ∃ v', CAt F w0 base w' B v' v2 v3 ⟨g.vs.filter fun x => !(x.id == id), g.es, g.ds⟩ := by
 have hlen : g.vs.length ≤ 1000000 := by have := hv.lens; omega
 have hlenI : (g.vs.length : Int) ≤ 24 := by have := hv.lens; omega
 have hlen3 : g.ds.length ≤ 1000000 := by have := hv.lens; omega
 have hh : has g id = true := has_mem.2 hm
 have HH := yy hh
 have HV := yy hv
 have HM := yy hm
 have HD := yy hd
 have HA := yy h
 clear hh hv hm hd h
 go_enter Tryz.func188, Tryz.ntmps188
 go_wp2_with fail
 refine (vertex134 HA.out.cb (HA.out.va.lv (by omega)) hlen HV.out.av id).mono ?_
 rintro e w2 ⟨i, rfl, hpos, k2⟩
 rw [HH.out]
 obtain ⟨hi0, hid⟩ := (hpos.found HV.out.av).1 HM.out
 have hi : i < g.vs.length := by simpa using hi0
 have hdel := delAt_flt Vtx.id HV.out.av hi (by simpa using hid)
 have hil : (i : Int) ≤ 24 := by omega
 have H2 := yy (HA.out.step k2)
 have HDEL := yy hdel
 clear hdel hpos k2 HA HH hid hi0
 obtain ⟨c0, c1, c2⟩ := H2.out.cb.cells
 have hlB := World.block_lt_of_cell? w2 _ c0
 go_wp2_with fail
 refine (con215 (H2.out.vc.lv (by omega)) id HD.out).mono ?_
 rintro e w3 ⟨rfl, k3⟩
 have H3 := yy (H2.out.step k3)
 clear c0 c1 c2 hlB k3 H2 HD
 go_wp2_with fail
 refine (want186 w3).mono ?_
 rintro e w4 ⟨rfl, rfl⟩
 obtain ⟨c0, c1, c2⟩ := H3.out.cb.cells
 have hlB := World.block_lt_of_cell? w3 _ c0
 go_wp2_with fail
 refine (del216 H3.out.va hlen i hi).mono ?_
 rintro e w5 ⟨v', rfl, ho, kk, hat⟩
 rw [HDEL.out] at ho
 obtain ⟨s2, cs2, hs2⟩ := ho.form
 subst hs2
 have hB5 := kk.blk H3.out.cb (own_far H3.out.va H3.out.cb (by decide))
 have H5 := yy (H3.out.setV ho kk (.inl hat))
 have z0 := blk_frozen hB5 0
 have c0' := blk_cell hB5 0
 simp only [lPa, lPb, lPc] at c0'
 have hlB5 := blk_lt hB5
 clear c0 c1 c2 hlB H3 ho kk hat hB5 HDEL
 go_wp2_with fail
 go_end0
 exact ⟨rfl, _, H5.out⟩
end Go.Proofs.YthfagcdjbmhhcaaGreat
