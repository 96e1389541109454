/- OfferGraphs: the law's function returns true. -/
import Derived.Test.YthfagcdjbmhhcaaGreatK27
import Derived.Test.YthfagcdjbmhhcaaGreatPG
import Derived.Test.YthfagcdjbmhhcaaGreatS1
import Derived.Test.YthfagcdjbmhhcaaGreatS2
set_option linter.unusedVariables false
set_option linter.unusedSimpArgs false
namespace Go.Proofs.YthfagcdjbmhhcaaGreat
open Go.RowKit
attribute [local irreducible] wpQuiet
theorem lfT71 {P : Prop} (h : P := by (intro w hSw; obtain ⟨t0, t1, t2, t3, t4, t5, z5, z6, p0, p1, p2, p3, s2⟩ := hSw; have hlY := World.block_lt_of_cell? _ _ t0; have hlX := World.block_lt_of_cell? _ _ z5; have hlq := World.block_lt_of_cell? _ _ p0; have hlo := World.block_lt_of_cell? _ _ s2; go_simp; try with_reducible rfl)) : P := h
theorem gfew_of {g : Gr} (h : VG g) : g.few := ⟨by have := h.lens; omega, by have := h.lens; omega, by have := h.lens; omega⟩
set_option maxHeartbeats 40000000 in
set_option maxRecDepth 100000 in
theorem graphs7 {w : World} (n : Int) (hn : I64 n) {lv : Value} {l : List A5} (hl : LV w lv l) (hlo : ∀ x ∈ l, x.ok) (m : Int) (hm : I64 m) {xv : Value} {xs : List A6} (hx : LV w xv xs) (hxo : ∀ x ∈ xs, x.ok) : Calls Tryz.prog 7 #[.int .i64 n, lv, .int .i64 m, xv] w (Truth w) := by
 have hmix := mixed
 have HN := Lib.hid hn
 have HLO := Lib.hid hlo
 have HM := Lib.hid hm
 have HXO := Lib.hid hxo
 have HL : Hid (∀ W, Gro w W → LV W lv l) := Lib.hid (fun W hW => hl.gro hW)
 have HX : Hid (∀ W, Gro w W → LV W xv xs) := Lib.hid (fun W hW => hx.gro hW)
 obtain ⟨la, lc, rfl, _⟩ := hl
 obtain ⟨xa, xc, rfl, _⟩ := hx
 clear hn hlo hm hxo
 go_enter Tryz.func7, Tryz.ntmps7
 go_wp2_with fail
 refine ((sane9 w).mono (fun e w' h => (show e = .returned (.bool true) ∧ Gro w w' from h))).mono ?_
 rintro _ w1 ⟨rfl, k1⟩
 go_wp2_with fail
 refine (roads10 n HN.out (HL.out _ k1) HLO.out).mono ?_
 rintro _ w2 ⟨vg, g, rfl, hG, hVG, hs0, hpos, k2⟩
 obtain ⟨g1, gc1, g2, gc2, g3, gc3, rfl⟩ := hG.open
 have K2 := Lib.hid (k1.trans k2)
 have HG := Lib.hid hG
 have HVG := Lib.hid hVG
 have HS0 := Lib.hid hs0
 have HPOS := Lib.hid hpos
 clear k1 k2 hG hVG hs0 hpos
 go_wp2_with fail
 obtain ⟨W3, hW3⟩ : ∃ W3, W3 = w2.alloc (Obj.cells #[.slice g1 g.vs.length gc1, .slice g2 g.es.length gc2, .slice g3 g.ds.length gc3] 38) := ⟨_, rfl⟩
 have k3 : Gro w2 W3 := by rw [hW3]; exact (Gro.refl _).alloc _
 have b3 : W3.heap[w2.heap.size]? = some (.cells #[.slice g1 g.vs.length gc1, .slice g2 g.es.length gc2, .slice g3 g.ds.length gc3] 38 (0, 0)) := by rw [hW3]; exact blk_new _ _
 rw [← hW3]
 have K3 := Lib.hid k3
 have B3 := Lib.hid b3
 clear hW3 k3 b3
 refine (made11 (HG.out.gro K3.out) HVG.out HS0.out HPOS.out m HM.out (HX.out _ (K2.out.trans K3.out)) HXO.out).mono ?_
 rintro _ w4 ⟨v, b, rfl, hv, hb, k4⟩
 obtain ⟨a1, c1, a2, c2, a3, c3, rfl⟩ := hb.open
 have hLB : Hid (∀ W X, W = w4.alloc (Obj.cells #[.int .i64 b.round, .slice a1 b.ps.length c1, .slice a2 b.os.length c2, .slice a3 b.ws.length c3] 28) → X = w4.heap.size → LB w w2 W g #[.slice g1 g.vs.length gc1, .slice g2 g.es.length gc2, .slice g3 g.ds.length gc3] w2.heap.size X b a1 b.ps.length c1 a2 b.os.length c2 a3 b.ws.length c3) := Lib.hid (fun W X e1 e2 => by
  have kW : Gro w4 W := by rw [e1]; exact (Gro.refl _).alloc _
  have h3 := blk_lt (k4.blk B3.out)
  exact ⟨kW.blk (k4.blk B3.out), by rw [e1, e2]; exact blk_new _ _, hb.gro kW, hv, (((K3.out.trans k4).trans kW).kept _), ((K2.out.trans K3.out).trans k4).trans kW, K2.out.size, Nat.le_refl _, by omega⟩)
 have K4 := Lib.hid (K3.out.trans k4)
 have R4 := Lib.hid (k4.blk B3.out)
 clear hv hb k4
 have cQ := blk_cell R4.out
 have z0 := cQ 0
 have z1 := cQ 1
 have z2 := cQ 2
 simp only [lPa, lPb, lPc] at z0 z1 z2
 clear cQ
 have hlR := blk_lt R4.out
 go_wp2_with fail
 obtain ⟨W5, hW5⟩ : ∃ W5, W5 = w4.alloc (Obj.cells #[.int .i64 b.round, .slice a1 b.ps.length c1, .slice a2 b.os.length c2, .slice a3 b.ws.length c3] 28) := ⟨_, rfl⟩
 have HB := Lib.hid (hLB.out W5 _ hW5 rfl)
 rw [← hW5]
 clear hW5 hLB
 generalize w4.heap.size = X at HB ⊢
 clear z0 z1 z2 hlR
 have cQ := blk_cell HB.out.rb
 have z0 := cQ 0
 have z1 := cQ 1
 have z2 := cQ 2
 simp only [lPa, lPb, lPc] at z0 z1 z2
 clear cQ
 have hlR := blk_lt HB.out.rb
 have cQ := blk_cell HB.out.xb
 have z3 := cQ 0
 have z4 := cQ 1
 have z5 := cQ 2
 have z6 := cQ 3
 simp only [lPa, lPb, lPc] at z3 z4 z5 z6
 clear cQ
 have hlX := blk_lt HB.out.xb
 refine (graph30 (HG.out.old HB.out.kp) HB.out.bv HB.out.vb.fits).mono ?_
 rintro _ w6 ⟨k6, h6⟩
 have hgo : graphOf g b = some (build g b) := by unfold graphOf; rw [if_pos HB.out.vb.true]
 rw [hgo] at h6
 have HVT := Lib.hid (fun (i : Nat) (hi : i < b.os.length) => vtx_at HB.out.vb hi)
 have HED := Lib.hid (fun (i : Nat) (hi : i < g.es.length) => edge_at HB.out.vb hi)
 have HWI := Lib.hid (fun (i : Nat) (hi : i < b.ws.length) => wish_at HB.out.vb hi)
 have HLE := Lib.hid (build_lens g b)
 have HVB := Lib.hid (valid_build HB.out.vb)
 obtain ⟨G, hG⟩ : ∃ G, G = build g b := ⟨_, rfl⟩
 rw [← hG] at h6 HVT HED HWI HLE HVB
 clear hgo hG
 rcases h6 with ⟨G', v', e', rfl, hg'⟩ | ⟨hno, _⟩
 ·skip
  injection e' with e'
  subst e'
  obtain ⟨h1, hc1, h2, hc2, h3, hc3, rfl⟩ := hg'.open
  have HGB0 : Hid (∀ W Q, W = w6.alloc (Obj.cells #[.slice h1 G.vs.length hc1, .slice h2 G.es.length hc2, .slice h3 G.ds.length hc3] 38) → Q = w6.heap.size → GB W G Q h1 G.vs.length hc1 h2 G.es.length hc2 h3 G.ds.length hc3 ∧ LB w w2 W g #[.slice g1 g.vs.length gc1, .slice g2 g.es.length gc2, .slice g3 g.ds.length gc3] w2.heap.size X b a1 b.ps.length c1 a2 b.os.length c2 a3 b.ws.length c3 ∧ X < Q) := Lib.hid (fun W Q e1 e2 => by
   have kW : Gro w6 W := by rw [e1]; exact (Gro.refl _).alloc _
   exact ⟨⟨by rw [e1, e2]; exact blk_new _ _, hg'.gro kW⟩, HB.out.step (k6.trans kW), by rw [e2]; exact Nat.lt_of_lt_of_le hlX k6.size⟩)
  have z0 := k6.cell z0
  have z1 := k6.cell z1
  have z2 := k6.cell z2
  have z3 := k6.cell z3
  have z4 := k6.cell z4
  have z5 := k6.cell z5
  have z6 := k6.cell z6
  have hlR := Nat.lt_of_lt_of_le hlR k6.size
  have hlX := Nat.lt_of_lt_of_le hlX k6.size
  clear hg' k6
  go_wp2_with fail
  obtain ⟨W7, hW7⟩ : ∃ W7, W7 = w6.alloc (Obj.cells #[.slice h1 G.vs.length hc1, .slice h2 G.es.length hc2, .slice h3 G.ds.length hc3] 38) := ⟨_, rfl⟩
  obtain ⟨hgb, hlb, hXH⟩ := HGB0.out W7 _ hW7 rfl
  have HGB := Lib.hid hgb
  have HB := Lib.hid hlb
  rw [← hW7]
  clear hW7 HGB0 hgb hlb z0 z1 z2 z3 z4 z5 z6 hlR hlX
  generalize w6.heap.size = H at HGB hXH ⊢
  have cQ := blk_cell HB.out.rb
  have z0 := cQ 0
  have z1 := cQ 1
  have z2 := cQ 2
  simp only [lPa, lPb, lPc] at z0 z1 z2
  clear cQ
  have hlR := blk_lt HB.out.rb
  have cQ := blk_cell HB.out.xb
  have z3 := cQ 0
  have z4 := cQ 1
  have z5 := cQ 2
  have z6 := cQ 3
  simp only [lPa, lPb, lPc] at z3 z4 z5 z6
  clear cQ
  have hlX := blk_lt HB.out.xb
  have cQ := blk_cell HGB.out.blk
  have y0 := cQ 0
  have y1 := cQ 1
  have y2 := cQ 2
  simp only [lPa, lPb, lPc] at y0 y1 y2
  clear cQ
  have hlH := blk_lt HGB.out.blk
  refine (valid14 (HG.out.old HB.out.kp) HB.out.bv HB.out.vb.fits).mono ?_
  rintro _ w8 ⟨rfl, k8⟩
  rw [HB.out.vb.true]
  have HB := Lib.hid (HB.out.step k8)
  have HGB := Lib.hid (HGB.out.step k8)
  have hlH := Nat.lt_of_lt_of_le hlH k8.size
  have hlX := Nat.lt_of_lt_of_le hlX k8.size
  have hlR := Nat.lt_of_lt_of_le hlR k8.size
  have y0 := k8.cell y0
  have y1 := k8.cell y1
  have y2 := k8.cell y2
  have z0 := k8.cell z0
  have z1 := k8.cell z1
  have z2 := k8.cell z2
  clear k8 z3 z4 z5 z6 hlX
  go_wp2_with fail
  obtain ⟨v1, v2, v3, hve, hga⟩ := HGB.out.val
  injection hve with hve
  simp only [Array.mk.injEq, List.cons.injEq, and_true] at hve
  obtain ⟨rfl, rfl, rfl⟩ := hve
  refine (valid41 hga (gfew_of HVB.out)).mono ?_
  rintro _ w9 ⟨rfl, k9⟩
  rw [validG_iff.2 HVB.out]
  have HB := Lib.hid (HB.out.step k9)
  have HGB := Lib.hid (HGB.out.step k9)
  have hlH := Nat.lt_of_lt_of_le hlH k9.size
  have hlR := Nat.lt_of_lt_of_le hlR k9.size
  have y0 := k9.cell y0
  have y1 := k9.cell y1
  have y2 := k9.cell y2
  have z0 := k9.cell z0
  have z1 := k9.cell z1
  have z2 := k9.cell z2
  clear k9 hga
  go_wp2_with fail
  obtain ⟨v1, v2, v3, hve, hga⟩ := HGB.out.val
  injection hve with hve
  simp only [Array.mk.injEq, List.cons.injEq, and_true] at hve
  obtain ⟨rfl, rfl, rfl⟩ := hve
  obtain ⟨v1, v2, v3, hve, hgr⟩ := HG.out.old HB.out.kp
  injection hve with hve
  simp only [Array.mk.injEq, List.cons.injEq, and_true] at hve
  obtain ⟨rfl, rfl, rfl⟩ := hve
  refine (ints42 hga.ds hgr.ds).mono ?_
  rintro _ w10 ⟨rfl, k10⟩
  rw [decide_eq_true HLE.out.2.2]
  have HB := Lib.hid (HB.out.step k10)
  have HGB := Lib.hid (HGB.out.step k10)
  clear k10 hga hgr y0 y1 y2 z0 z1 z2 hlH hlR
  go_wp2_with fail
  go_loopw [14, 15] (fun t u wr => ∃ i : Nat, i ≤ b.os.length ∧ t = .int .i64 (cntO b i : Nat) ∧ u = .int .i64 i ∧ Hid (LB w w2 wr g #[.slice g1 g.vs.length gc1, .slice g2 g.es.length gc2, .slice g3 g.ds.length gc3] w2.heap.size X b a1 b.ps.length c1 a2 b.os.length c2 a3 b.ws.length c3) ∧ Hid (GB wr G H h1 G.vs.length hc1 h2 G.es.length hc2 h3 G.ds.length hc3)) (fun _ u _ => b.os.length - (intOf u).toNat)
  case atStart => exact ⟨0, Nat.zero_le _, by go_num, by go_num, HB, HGB⟩
  case round =>
   clear HB HGB
   obtain ⟨i, hi, rfl, rfl, HB, HGB⟩ := hrel
   obtain ⟨hcl1, hcl2, hcl3⟩ := HB.out.vb.lens
   have hcn := cntO_le hi
   have cQ := blk_cell HB.out.xb
   have z3 := cQ 0
   have z4 := cQ 1
   have z5 := cQ 2
   have z6 := cQ 3
   simp only [lPa, lPb, lPc] at z3 z4 z5 z6
   clear cQ
   have hlX := blk_lt HB.out.xb
   by_cases hil : i < b.os.length
   ·clear z3 z4 z6
    have hsuc := cntO_succ hil
    have hvt := HVT.out i hil
    obtain ⟨_, _, hl2, _⟩ := HB.out.lists
    obtain ⟨ob, oo, rfl, hob, hoc⟩ := hl2.base hil
    obtain ⟨o0, _, o2, _, _, _, o6⟩ := ocells hoc hil
    have hlo := World.block_lt_of_cell? _ _ o0
    generalize b.os[i] = x at o0 o2 o6 hvt hsuc
    obtain ⟨xi, xp, xs, xl, xr, xu, xt⟩ := x
    unfold vtxOf at hvt
    simp only at o0 o2 o6 hvt hsuc
    have cQ := blk_cell HGB.out.blk
    have y0 := cQ 0
    have y1 := cQ 1
    have y2 := cQ 2
    simp only [lPa, lPb, lPc] at y0 y1 y2
    clear cQ
    have hlH := blk_lt HGB.out.blk
    have CP := Lib.hid (fun (W : World) (hW : Gro wr W) => place39 (HGB.out.val.gro hW) (gfew_of HVB.out) xi)
    have HSUC := Lib.hid hsuc
    clear hoc hl2 hsuc
    rcases hvt with ⟨hst, k, hk, hfi, hGk⟩ | ⟨hst, hfi⟩
    ·skip
     refine nameGoal fun auxP auxH _ => ?_
     letI auxN : Nonempty auxP := ⟨by
      refine auxH ?_
      subst hst
      rw [if_pos rfl] at HSUC
      rw [hfi] at CP
      have hk0 : decide ((k : Int) ≥ 0) = true := decide_eq_true (by omega)
      have hwc : IntKind.i64.wrap ((cntO b i : Int) + 1) = (cntO b i : Int) + 1 := by rw [IntKind.wrap_i64]; omega
      obtain ⟨_, hv1, _, _⟩ := HGB.out.val.lists
      obtain ⟨HV, ho, rfl, hhv, hhc⟩ := hv1.base hk
      obtain ⟨_, v1⟩ := vcells hhc hk
      rw [hGk] at v1
      simp only at v1
      have HV1 := Lib.hid (fun (W : World) (hW : Gro wr W) => hW.cell v1)
      clear hfi hGk hhc hv1 v1
      go_wp2_with fail
      have hS0 : wr.drew.cell? ⟨H, 0, none⟩ = some (Value.slice (some ⟨HV, ho, none⟩) G.vs.length hc1) ∧ wr.drew.cell? ⟨H, 1, none⟩ = some (Value.slice h2 G.es.length hc2) ∧ wr.drew.cell? ⟨H, 2, none⟩ = some (Value.slice h3 G.ds.length hc3) ∧ wr.drew.cell? ⟨X, 2, none⟩ = some (Value.slice (some ⟨ob, oo, none⟩) b.os.length c2) ∧ wr.drew.cell? ⟨ob, oo + i * 7, none⟩ = some (Value.int IntKind.i64 xi) ∧ wr.drew.cell? ⟨ob, oo + i * 7 + 2, none⟩ = some (Value.int IntKind.i64 xs) ∧ wr.drew.cell? ⟨ob, oo + i * 7 + 6, none⟩ = some (Value.int IntKind.i64 1) := ⟨(Gro.refl wr).drew.cell y0, (Gro.refl wr).drew.cell y1, (Gro.refl wr).drew.cell y2, (Gro.refl wr).drew.cell z5, (Gro.refl wr).drew.cell o0, (Gro.refl wr).drew.cell o2, (Gro.refl wr).drew.cell o6⟩
      go_region_held3 (fun w' => w'.cell? ⟨H, 0, none⟩ = some (Value.slice (some ⟨HV, ho, none⟩) G.vs.length hc1) ∧ w'.cell? ⟨H, 1, none⟩ = some (Value.slice h2 G.es.length hc2) ∧ w'.cell? ⟨H, 2, none⟩ = some (Value.slice h3 G.ds.length hc3) ∧ w'.cell? ⟨X, 2, none⟩ = some (Value.slice (some ⟨ob, oo, none⟩) b.os.length c2) ∧ w'.cell? ⟨ob, oo + i * 7, none⟩ = some (Value.int IntKind.i64 xi) ∧ w'.cell? ⟨ob, oo + i * 7 + 2, none⟩ = some (Value.int IntKind.i64 xs) ∧ w'.cell? ⟨ob, oo + i * 7 + 6, none⟩ = some (Value.int IntKind.i64 1))
       (first | with_reducible exact hS0 | with_reducible exact hS1 | go_keep)
       ((go_at_call 39; refine (CP.out _ ((Gro.refl wr).drew)).mono ?_; rintro _ w5 ⟨rfl, kx⟩; have kz := (Gro.refl wr).drew.trans kx; have hS1 : w5.cell? ⟨H, 0, none⟩ = some (Value.slice (some ⟨HV, ho, none⟩) G.vs.length hc1) ∧ w5.cell? ⟨H, 1, none⟩ = some (Value.slice h2 G.es.length hc2) ∧ w5.cell? ⟨H, 2, none⟩ = some (Value.slice h3 G.ds.length hc3) ∧ w5.cell? ⟨X, 2, none⟩ = some (Value.slice (some ⟨ob, oo, none⟩) b.os.length c2) ∧ w5.cell? ⟨ob, oo + i * 7, none⟩ = some (Value.int IntKind.i64 xi) ∧ w5.cell? ⟨ob, oo + i * 7 + 2, none⟩ = some (Value.int IntKind.i64 xs) ∧ w5.cell? ⟨ob, oo + i * 7 + 6, none⟩ = some (Value.int IntKind.i64 1) := ⟨kz.cell y0, kz.cell y1, kz.cell y2, kz.cell z5, kz.cell o0, kz.cell o2, kz.cell o6⟩; have HB5 := Lib.hid (HB.out.step kz); have HG5 := Lib.hid (HGB.out.step kz); have HV5 := Lib.hid (HV1.out _ kz); clear kx kz))
      all_goals
       have hS9 := hS1
       clear hS0 hS1 y0 y1 y2 z5 o0 o2 o6 hlH hlX hlo HB HGB
       obtain ⟨y0, y1, y2, z5, o0, o2, o6⟩ := hS9
       have hlH := World.block_lt_of_cell? _ _ y0
       have hlX := World.block_lt_of_cell? _ _ z5
       have hlo := World.block_lt_of_cell? _ _ o0
       have HB := HB5
       have HGB := HG5
       clear HB5 HG5
       go_wp2_with fail
       have v1 := HV5.out
       have hlv := World.block_lt_of_cell? _ _ v1
       clear o0 o6 y1 y2
       have y0 := gcell y0
       have z5 := gcell z5
       have o2 := gcell o2
       have v1 := gcell v1
       go_quiet_grown (fail)
       have kq := gro_of_grow w5 nq osq
       dsimp only at kq ⊢
       clear y0 z5 o2 v1 hlH hlX hlo hlv
       generalize Go.Sort.grow (w5.drewN nq) osq = w3 at kq ⊢
       have HB5 := Lib.hid (HB.out.step kq)
       have HG5 := Lib.hid (HGB.out.step kq)
       clear kq
       go_wp2_with fail
       go_roundw
       case rel => first | exact ⟨i + 1, by omega, (by rw [HSUC.out]; go_num), by go_num, HB5, HG5⟩ | ((repeat apply Exists.intro); exact ⟨⟨by omega, (by rw [HSUC.out]; go_num), by go_num, HB5, HG5⟩, rfl⟩) | trace_state
       case measure => simp [intOf]; omega⟩
     exact (show Nonempty auxP from inferInstanceAs (Nonempty auxP)).elim id
    ·skip
     refine nameGoal fun auxP auxH _ => ?_
     letI auxN : Nonempty auxP := ⟨by
      refine auxH ?_
      have hst2 : (xt == 1) = false := by simpa using hst
      rw [if_neg hst] at HSUC
      rw [hfi] at CP
      clear hfi hst
      go_wp2_with fail
      have hS0 : wr.drew.cell? ⟨H, 0, none⟩ = some (Value.slice h1 G.vs.length hc1) ∧ wr.drew.cell? ⟨H, 1, none⟩ = some (Value.slice h2 G.es.length hc2) ∧ wr.drew.cell? ⟨H, 2, none⟩ = some (Value.slice h3 G.ds.length hc3) ∧ wr.drew.cell? ⟨X, 2, none⟩ = some (Value.slice (some ⟨ob, oo, none⟩) b.os.length c2) ∧ wr.drew.cell? ⟨ob, oo + i * 7, none⟩ = some (Value.int IntKind.i64 xi) ∧ wr.drew.cell? ⟨ob, oo + i * 7 + 2, none⟩ = some (Value.int IntKind.i64 xs) ∧ wr.drew.cell? ⟨ob, oo + i * 7 + 6, none⟩ = some (Value.int IntKind.i64 xt) := ⟨(Gro.refl wr).drew.cell y0, (Gro.refl wr).drew.cell y1, (Gro.refl wr).drew.cell y2, (Gro.refl wr).drew.cell z5, (Gro.refl wr).drew.cell o0, (Gro.refl wr).drew.cell o2, (Gro.refl wr).drew.cell o6⟩
      go_region_held3 (fun w' => w'.cell? ⟨H, 0, none⟩ = some (Value.slice h1 G.vs.length hc1) ∧ w'.cell? ⟨H, 1, none⟩ = some (Value.slice h2 G.es.length hc2) ∧ w'.cell? ⟨H, 2, none⟩ = some (Value.slice h3 G.ds.length hc3) ∧ w'.cell? ⟨X, 2, none⟩ = some (Value.slice (some ⟨ob, oo, none⟩) b.os.length c2) ∧ w'.cell? ⟨ob, oo + i * 7, none⟩ = some (Value.int IntKind.i64 xi) ∧ w'.cell? ⟨ob, oo + i * 7 + 2, none⟩ = some (Value.int IntKind.i64 xs) ∧ w'.cell? ⟨ob, oo + i * 7 + 6, none⟩ = some (Value.int IntKind.i64 xt))
       (first | with_reducible exact hS0 | with_reducible exact hS1 | go_keep)
       ((go_at_call 39; refine (CP.out _ ((Gro.refl wr).drew)).mono ?_; rintro _ w5 ⟨rfl, kx⟩; have kz := (Gro.refl wr).drew.trans kx; have hS1 : w5.cell? ⟨H, 0, none⟩ = some (Value.slice h1 G.vs.length hc1) ∧ w5.cell? ⟨H, 1, none⟩ = some (Value.slice h2 G.es.length hc2) ∧ w5.cell? ⟨H, 2, none⟩ = some (Value.slice h3 G.ds.length hc3) ∧ w5.cell? ⟨X, 2, none⟩ = some (Value.slice (some ⟨ob, oo, none⟩) b.os.length c2) ∧ w5.cell? ⟨ob, oo + i * 7, none⟩ = some (Value.int IntKind.i64 xi) ∧ w5.cell? ⟨ob, oo + i * 7 + 2, none⟩ = some (Value.int IntKind.i64 xs) ∧ w5.cell? ⟨ob, oo + i * 7 + 6, none⟩ = some (Value.int IntKind.i64 xt) := ⟨kz.cell y0, kz.cell y1, kz.cell y2, kz.cell z5, kz.cell o0, kz.cell o2, kz.cell o6⟩; have HB5 := Lib.hid (HB.out.step kz); have HG5 := Lib.hid (HGB.out.step kz); clear kx kz))
      all_goals
       have hS9 := hS1
       clear hS0 hS1 y0 y1 y2 z5 o0 o2 o6 hlH hlX hlo HB HGB
       obtain ⟨y0, y1, y2, z5, o0, o2, o6⟩ := hS9
       have hlH := World.block_lt_of_cell? _ _ y0
       have hlX := World.block_lt_of_cell? _ _ z5
       have hlo := World.block_lt_of_cell? _ _ o0
       have HB := HB5
       have HGB := HG5
       clear HB5 HG5
       go_wp2_with fail
       clear y0 y1 y2 z5 o0 o2 o6
       go_roundw
       case rel => first | exact ⟨i + 1, by omega, (by rw [HSUC.out]; go_num), by go_num, HB, HGB⟩ | ((repeat apply Exists.intro); exact ⟨⟨by omega, (by rw [HSUC.out]; go_num), by go_num, HB, HGB⟩, rfl⟩) | trace_state
       case measure => simp [intOf]; omega⟩
     exact (show Nonempty auxP from inferInstanceAs (Nonempty auxP)).elim id
   ·have hib : i = b.os.length := by omega
    have HIB := Lib.hid hib
    clear hib z3 z4
    have cQ := blk_cell HB.out.rb
    have z0 := cQ 0
    have z1 := cQ 1
    have z2 := cQ 2
    simp only [lPa, lPb, lPc] at z0 z1 z2
    clear cQ
    have hlR := blk_lt HB.out.rb
    have cQ := blk_cell HGB.out.blk
    have y0 := cQ 0
    have y1 := cQ 1
    have y2 := cQ 2
    simp only [lPa, lPb, lPc] at y0 y1 y2
    clear cQ
    have hlH := blk_lt HGB.out.blk
    have hgl : g.vs.length ≤ 24 ∧ g.es.length ≤ 40 ∧ g.ds.length ≤ 3 := HB.out.vb.vg.lens
    have hGl := HVB.out.lens
    have hle1 : G.vs.length = g.vs.length + cntO b i := by rw [HIB.out]; exact HLE.out.1
    have hle2 : G.es.length = g.es.length + b.ws.length := HLE.out.2.1
    have hwc : IntKind.i64.wrap ((g.vs.length : Int) + (cntO b i : Nat)) = G.vs.length := by rw [IntKind.wrap_i64]; omega
    have hwe : IntKind.i64.wrap ((g.es.length : Int) + (b.ws.length : Nat)) = G.es.length := by rw [IntKind.wrap_i64]; omega
    generalize cntO b i = cn at hwc hle1 hcn ⊢
    go_wp2_with fail
    clear y0 y1 y2 z0 z1 z2 z5 z6 hlR hlX hlH hwc hwe hle1 hle2
    go_loopw [17] (fun u wr => ∃ i : Nat, i ≤ g.es.length ∧ u = .int .i64 i ∧ Hid (LB w w2 wr g #[.slice g1 g.vs.length gc1, .slice g2 g.es.length gc2, .slice g3 g.ds.length gc3] w2.heap.size X b a1 b.ps.length c1 a2 b.os.length c2 a3 b.ws.length c3) ∧ Hid (GB wr G H h1 G.vs.length hc1 h2 G.es.length hc2 h3 G.ds.length hc3)) (fun u _ => g.es.length - (intOf u).toNat)
    case atStart => exact ⟨0, Nat.zero_le _, by go_num, HB, HGB⟩
    case round =>
     clear HB HGB
     obtain ⟨i, hi, rfl, HB, HGB⟩ := hrel
     have cQ := blk_cell HB.out.rb
     have z0 := cQ 0
     have z1 := cQ 1
     have z2 := cQ 2
     simp only [lPa, lPb, lPc] at z0 z1 z2
     clear cQ
     have hlR := blk_lt HB.out.rb
     by_cases hil : i < g.es.length
     ·skip
      refine nameGoal fun auxP auxH _ => ?_
      letI auxN : Nonempty auxP := ⟨by
       refine auxH ?_
       have hed := HED.out i hil
       have hgo := HG.out.old HB.out.kp
       obtain ⟨_, _, hl2, _⟩ := hgo.lists
       obtain ⟨eb, eo, rfl, hob, hoc⟩ := hl2.base hil
       obtain ⟨e_0, e_1, e_2, e_3, e_4, e_5⟩ := ecells hoc hil
       have hle := World.block_lt_of_cell? _ _ e_0
       obtain ⟨k, hk, hfi, hGk⟩ := hed
       generalize g.es[i] = x at e_0 e_1 e_2 e_3 e_4 e_5 hfi hGk
       obtain ⟨e0, e1, e2, e3, e4, e5⟩ := x
       simp only at e_0 e_1 e_2 e_3 e_4 e_5 hfi
       have cQ := blk_cell HGB.out.blk
       have y0 := cQ 0
       have y1 := cQ 1
       have y2 := cQ 2
       simp only [lPa, lPb, lPc] at y0 y1 y2
       clear cQ
       have hlH := blk_lt HGB.out.blk
       have CP := Lib.hid (fun (W : World) (hW : Gro wr W) => find43 (HGB.out.val.gro hW) (gfew_of HVB.out) e0)
       rw [hfi] at CP
       have hk0 : decide ((k : Int) < 0) = false := decide_eq_false (by omega)
       obtain ⟨_, _, hv1, _⟩ := HGB.out.val.lists
       obtain ⟨HV, ho, rfl, hhv, hhc⟩ := hv1.base hk
       obtain ⟨v0, v1, v2, v3, v4, v5⟩ := ecells hhc hk
       rw [hGk] at v0 v1 v2 v3 v4 v5
       simp only at v0 v1 v2 v3 v4 v5
       have HV1 := Lib.hid (fun (W : World) (hW : Gro wr W) => (⟨hW.cell v0, hW.cell v1, hW.cell v2, hW.cell v3, hW.cell v4, hW.cell v5⟩ : W.cell? ⟨HV, ho + k * 6, none⟩ = some (Value.int IntKind.i64 e0) ∧ W.cell? ⟨HV, ho + k * 6 + 1, none⟩ = some (Value.int IntKind.i64 e1) ∧ W.cell? ⟨HV, ho + k * 6 + 2, none⟩ = some (Value.int IntKind.i64 e2) ∧ W.cell? ⟨HV, ho + k * 6 + 3, none⟩ = some (Value.bool e3) ∧ W.cell? ⟨HV, ho + k * 6 + 4, none⟩ = some (Value.int IntKind.i64 e4) ∧ W.cell? ⟨HV, ho + k * 6 + 5, none⟩ = some (Value.int IntKind.i64 e5)))
       clear hfi hGk hhc hv1 v0 v1 v2 v3 v4 v5 hoc hl2 hgo
       go_wp2_with fail
       have hS0 : wr.drew.cell? ⟨H, 0, none⟩ = some (Value.slice h1 G.vs.length hc1) ∧ wr.drew.cell? ⟨H, 1, none⟩ = some (Value.slice (some ⟨HV, ho, none⟩) G.es.length hc2) ∧ wr.drew.cell? ⟨H, 2, none⟩ = some (Value.slice h3 G.ds.length hc3) ∧ wr.drew.cell? ⟨w2.heap.size, 0, none⟩ = some (Value.slice g1 g.vs.length gc1) ∧ wr.drew.cell? ⟨w2.heap.size, 1, none⟩ = some (Value.slice (some ⟨eb, eo, none⟩) g.es.length gc2) ∧ wr.drew.cell? ⟨w2.heap.size, 2, none⟩ = some (Value.slice g3 g.ds.length gc3) ∧ wr.drew.cell? ⟨eb, eo + i * 6, none⟩ = some (Value.int IntKind.i64 e0) ∧ wr.drew.cell? ⟨eb, eo + i * 6 + 1, none⟩ = some (Value.int IntKind.i64 e1) ∧ wr.drew.cell? ⟨eb, eo + i * 6 + 2, none⟩ = some (Value.int IntKind.i64 e2) ∧ wr.drew.cell? ⟨eb, eo + i * 6 + 3, none⟩ = some (Value.bool e3) ∧ wr.drew.cell? ⟨eb, eo + i * 6 + 4, none⟩ = some (Value.int IntKind.i64 e4) ∧ wr.drew.cell? ⟨eb, eo + i * 6 + 5, none⟩ = some (Value.int IntKind.i64 e5) := ⟨(Gro.refl wr).drew.cell y0, (Gro.refl wr).drew.cell y1, (Gro.refl wr).drew.cell y2, (Gro.refl wr).drew.cell z0, (Gro.refl wr).drew.cell z1, (Gro.refl wr).drew.cell z2, (Gro.refl wr).drew.cell e_0, (Gro.refl wr).drew.cell e_1, (Gro.refl wr).drew.cell e_2, (Gro.refl wr).drew.cell e_3, (Gro.refl wr).drew.cell e_4, (Gro.refl wr).drew.cell e_5⟩
       go_region_held3 (fun w' => w'.cell? ⟨H, 0, none⟩ = some (Value.slice h1 G.vs.length hc1) ∧ w'.cell? ⟨H, 1, none⟩ = some (Value.slice (some ⟨HV, ho, none⟩) G.es.length hc2) ∧ w'.cell? ⟨H, 2, none⟩ = some (Value.slice h3 G.ds.length hc3) ∧ w'.cell? ⟨w2.heap.size, 0, none⟩ = some (Value.slice g1 g.vs.length gc1) ∧ w'.cell? ⟨w2.heap.size, 1, none⟩ = some (Value.slice (some ⟨eb, eo, none⟩) g.es.length gc2) ∧ w'.cell? ⟨w2.heap.size, 2, none⟩ = some (Value.slice g3 g.ds.length gc3) ∧ w'.cell? ⟨eb, eo + i * 6, none⟩ = some (Value.int IntKind.i64 e0) ∧ w'.cell? ⟨eb, eo + i * 6 + 1, none⟩ = some (Value.int IntKind.i64 e1) ∧ w'.cell? ⟨eb, eo + i * 6 + 2, none⟩ = some (Value.int IntKind.i64 e2) ∧ w'.cell? ⟨eb, eo + i * 6 + 3, none⟩ = some (Value.bool e3) ∧ w'.cell? ⟨eb, eo + i * 6 + 4, none⟩ = some (Value.int IntKind.i64 e4) ∧ w'.cell? ⟨eb, eo + i * 6 + 5, none⟩ = some (Value.int IntKind.i64 e5))
        (first | with_reducible exact hS0 | with_reducible exact hS1 | go_keep)
        ((go_at_call 43; refine (CP.out _ ((Gro.refl wr).drew)).mono ?_; rintro _ w5 ⟨rfl, kx⟩; have kz := (Gro.refl wr).drew.trans kx; have hS1 : w5.cell? ⟨H, 0, none⟩ = some (Value.slice h1 G.vs.length hc1) ∧ w5.cell? ⟨H, 1, none⟩ = some (Value.slice (some ⟨HV, ho, none⟩) G.es.length hc2) ∧ w5.cell? ⟨H, 2, none⟩ = some (Value.slice h3 G.ds.length hc3) ∧ w5.cell? ⟨w2.heap.size, 0, none⟩ = some (Value.slice g1 g.vs.length gc1) ∧ w5.cell? ⟨w2.heap.size, 1, none⟩ = some (Value.slice (some ⟨eb, eo, none⟩) g.es.length gc2) ∧ w5.cell? ⟨w2.heap.size, 2, none⟩ = some (Value.slice g3 g.ds.length gc3) ∧ w5.cell? ⟨eb, eo + i * 6, none⟩ = some (Value.int IntKind.i64 e0) ∧ w5.cell? ⟨eb, eo + i * 6 + 1, none⟩ = some (Value.int IntKind.i64 e1) ∧ w5.cell? ⟨eb, eo + i * 6 + 2, none⟩ = some (Value.int IntKind.i64 e2) ∧ w5.cell? ⟨eb, eo + i * 6 + 3, none⟩ = some (Value.bool e3) ∧ w5.cell? ⟨eb, eo + i * 6 + 4, none⟩ = some (Value.int IntKind.i64 e4) ∧ w5.cell? ⟨eb, eo + i * 6 + 5, none⟩ = some (Value.int IntKind.i64 e5) := ⟨kz.cell y0, kz.cell y1, kz.cell y2, kz.cell z0, kz.cell z1, kz.cell z2, kz.cell e_0, kz.cell e_1, kz.cell e_2, kz.cell e_3, kz.cell e_4, kz.cell e_5⟩; have HB5 := Lib.hid (HB.out.step kz); have HG5 := Lib.hid (HGB.out.step kz); have HV5 := Lib.hid (HV1.out _ kz); clear kx kz))
       all_goals
        have hS9 := hS1
        clear hS0 hS1 y0 y1 y2 z0 z1 z2 e_0 e_1 e_2 e_3 e_4 e_5 hlH hlR hle HB HGB
        obtain ⟨y0, y1, y2, z0, z1, z2, e_0, e_1, e_2, e_3, e_4, e_5⟩ := hS9
        have hlH := World.block_lt_of_cell? _ _ y0
        have hlR := World.block_lt_of_cell? _ _ z0
        have hle := World.block_lt_of_cell? _ _ e_0
        have HB := HB5
        have HGB := HG5
        clear HB5 HG5
        go_wp2_with fail
        obtain ⟨v0, v1, v2, v3, v4, v5⟩ := HV5.out
        have hlv := World.block_lt_of_cell? _ _ v0
        clear y0 y2 z0 z2
        have y1 := gcell y1
        have z1 := gcell z1
        have e_0 := gcell e_0
        have e_1 := gcell e_1
        have e_2 := gcell e_2
        have e_3 := gcell e_3
        have e_4 := gcell e_4
        have e_5 := gcell e_5
        have v0 := gcell v0
        have v1 := gcell v1
        have v2 := gcell v2
        have v3 := gcell v3
        have v4 := gcell v4
        have v5 := gcell v5
        go_quiet_grown (fail)
        have kq := gro_of_grow w5 nq osq
        dsimp only at kq ⊢
        clear y1 z1 e_0 e_1 e_2 e_3 e_4 e_5 v0 v1 v2 v3 v4 v5 hlH hlR hle hlv
        generalize Go.Sort.grow (w5.drewN nq) osq = w3 at kq ⊢
        have HB5 := Lib.hid (HB.out.step kq)
        have HG5 := Lib.hid (HGB.out.step kq)
        clear kq
        go_wp2_with fail
        go_roundw
        case rel => first | exact ⟨i + 1, by omega, by go_num, HB5, HG5⟩ | ((repeat apply Exists.intro); exact ⟨⟨by omega, by go_num, HB5, HG5⟩, rfl⟩) | trace_state
        case measure => simp [intOf]; omega⟩
      exact (show Nonempty auxP from inferInstanceAs (Nonempty auxP)).elim id
     ·go_wp2_with fail
      clear z0 z1 z2 hlR
      go_loopw [19] (fun u wr => ∃ i : Nat, i ≤ b.ws.length ∧ u = .int .i64 i ∧ Hid (LB w w2 wr g #[.slice g1 g.vs.length gc1, .slice g2 g.es.length gc2, .slice g3 g.ds.length gc3] w2.heap.size X b a1 b.ps.length c1 a2 b.os.length c2 a3 b.ws.length c3) ∧ Hid (GB wr G H h1 G.vs.length hc1 h2 G.es.length hc2 h3 G.ds.length hc3)) (fun u _ => b.ws.length - (intOf u).toNat)
      case atStart => exact ⟨0, Nat.zero_le _, by go_num, HB, HGB⟩
      case round =>
       clear HB HGB
       obtain ⟨i, hi, rfl, HB, HGB⟩ := hrel
       obtain ⟨hcl1, hcl2, hcl3⟩ := HB.out.vb.lens
       have cQ := blk_cell HB.out.xb
       have z3 := cQ 0
       have z4 := cQ 1
       have z5 := cQ 2
       have z6 := cQ 3
       simp only [lPa, lPb, lPc] at z3 z4 z5 z6
       clear cQ
       have hlX := blk_lt HB.out.xb
       by_cases hil : i < b.ws.length
       ·skip
        refine nameGoal fun auxP auxH _ => ?_
        letI auxN : Nonempty auxP := ⟨by
         refine auxH ?_
         obtain ⟨⟨k, hk, hfi, hGk⟩, ⟨f, hf, hff, hdir⟩, hwe, hww⟩ := HWI.out i hil
         obtain ⟨_, _, hl2, hl3⟩ := HB.out.lists
         obtain ⟨qb, qo, rfl, hqb, hqc⟩ := hl3.base hil
         obtain ⟨p0, p1, p2, p3⟩ := wcells hqc hil
         have hlq := World.block_lt_of_cell? _ _ p0
         generalize b.ws[i] = x at p0 p1 p2 p3 hfi hGk hff hdir hwe hww
         obtain ⟨we, ws, wd, wt⟩ := x
         unfold edgOf at hGk
         simp only at p0 p1 p2 p3 hfi hGk hff hwe hww
         generalize dirOf b ⟨we, ws, wd, wt⟩ = dd at hGk hdir
         obtain ⟨ob, oo, rfl, hob, hoc⟩ := hl2.base hf
         obtain ⟨_, _, s2, _, _, _, _⟩ := ocells hoc hf
         generalize b.os[f].side = fs at s2 hdir
         have HS2 := Lib.hid (fun (W : World) (hW : Gro wr W) => hW.cell s2)
         have cQ := blk_cell HGB.out.blk
         have y0 := cQ 0
         have y1 := cQ 1
         have y2 := cQ 2
         simp only [lPa, lPb, lPc] at y0 y1 y2
         clear cQ
         have hlH := blk_lt HGB.out.blk
         have CP := Lib.hid (fun (W : World) (hW : Gro wr W) => find43 (HGB.out.val.gro hW) (gfew_of HVB.out) we)
         rw [hfi] at CP
         have CQ := Lib.hid (fun (W : World) (hW : Gro wr W) => find40 (HB.out.bv.gro hW) HB.out.vb.fits.bfew ws)
         rw [hff] at CQ
         have hk0 : decide ((k : Int) < 0) = false := decide_eq_false (by omega)
         have hf0 : decide ((f : Int) < 0) = false := decide_eq_false (by omega)
         obtain ⟨_, _, hv1, _⟩ := HGB.out.val.lists
         obtain ⟨HV, ho, rfl, hhv, hhc⟩ := hv1.base hk
         obtain ⟨v0, v1, v2, v3, v4, v5⟩ := ecells hhc hk
         rw [hGk] at v0 v1 v2 v3 v4 v5
         simp only at v0 v1 v2 v3 v4 v5
         have HV1 := Lib.hid (fun (W : World) (hW : Gro wr W) => (⟨hW.cell v0, hW.cell v1, hW.cell v2, hW.cell v3, hW.cell v4, hW.cell v5⟩ : W.cell? ⟨HV, ho + k * 6, none⟩ = some (Value.int IntKind.i64 we) ∧ W.cell? ⟨HV, ho + k * 6 + 1, none⟩ = some (Value.int IntKind.i64 ws) ∧ W.cell? ⟨HV, ho + k * 6 + 2, none⟩ = some (Value.int IntKind.i64 wd) ∧ W.cell? ⟨HV, ho + k * 6 + 3, none⟩ = some (Value.bool dd) ∧ W.cell? ⟨HV, ho + k * 6 + 4, none⟩ = some (Value.int IntKind.i64 wt) ∧ W.cell? ⟨HV, ho + k * 6 + 5, none⟩ = some (Value.int IntKind.i64 0)))
         have hdd : (dd != (fs == 3)) = false := by rw [hdir]; simp
         have HDIR := Lib.hid hdir
         have HPR := Lib.hid (fun (W : World) => price44 (w := W) ⟨we, ws, wd, dd, wt, 0⟩ hwe hww)
         clear hfi hff hGk hhc hv1 v0 v1 v2 v3 v4 v5 hoc hqc hl2 hl3 s2 hdir hwe hww
         go_wp2_with fail
         have hS0 : wr.drew.cell? ⟨H, 0, none⟩ = some (Value.slice h1 G.vs.length hc1) ∧ wr.drew.cell? ⟨H, 1, none⟩ = some (Value.slice (some ⟨HV, ho, none⟩) G.es.length hc2) ∧ wr.drew.cell? ⟨H, 2, none⟩ = some (Value.slice h3 G.ds.length hc3) ∧ wr.drew.cell? ⟨X, 0, none⟩ = some (Value.int IntKind.i64 b.round) ∧ wr.drew.cell? ⟨X, 1, none⟩ = some (Value.slice a1 b.ps.length c1) ∧ wr.drew.cell? ⟨X, 2, none⟩ = some (Value.slice (some ⟨ob, oo, none⟩) b.os.length c2) ∧ wr.drew.cell? ⟨X, 3, none⟩ = some (Value.slice (some ⟨qb, qo, none⟩) b.ws.length c3) ∧ wr.drew.cell? ⟨qb, qo + i * 4, none⟩ = some (Value.int IntKind.i64 we) ∧ wr.drew.cell? ⟨qb, qo + i * 4 + 1, none⟩ = some (Value.int IntKind.i64 ws) ∧ wr.drew.cell? ⟨qb, qo + i * 4 + 2, none⟩ = some (Value.int IntKind.i64 wd) ∧ wr.drew.cell? ⟨qb, qo + i * 4 + 3, none⟩ = some (Value.int IntKind.i64 wt) := ⟨(Gro.refl wr).drew.cell y0, (Gro.refl wr).drew.cell y1, (Gro.refl wr).drew.cell y2, (Gro.refl wr).drew.cell z3, (Gro.refl wr).drew.cell z4, (Gro.refl wr).drew.cell z5, (Gro.refl wr).drew.cell z6, (Gro.refl wr).drew.cell p0, (Gro.refl wr).drew.cell p1, (Gro.refl wr).drew.cell p2, (Gro.refl wr).drew.cell p3⟩
         go_region_held3 (fun w' => w'.cell? ⟨H, 0, none⟩ = some (Value.slice h1 G.vs.length hc1) ∧ w'.cell? ⟨H, 1, none⟩ = some (Value.slice (some ⟨HV, ho, none⟩) G.es.length hc2) ∧ w'.cell? ⟨H, 2, none⟩ = some (Value.slice h3 G.ds.length hc3) ∧ w'.cell? ⟨X, 0, none⟩ = some (Value.int IntKind.i64 b.round) ∧ w'.cell? ⟨X, 1, none⟩ = some (Value.slice a1 b.ps.length c1) ∧ w'.cell? ⟨X, 2, none⟩ = some (Value.slice (some ⟨ob, oo, none⟩) b.os.length c2) ∧ w'.cell? ⟨X, 3, none⟩ = some (Value.slice (some ⟨qb, qo, none⟩) b.ws.length c3) ∧ w'.cell? ⟨qb, qo + i * 4, none⟩ = some (Value.int IntKind.i64 we) ∧ w'.cell? ⟨qb, qo + i * 4 + 1, none⟩ = some (Value.int IntKind.i64 ws) ∧ w'.cell? ⟨qb, qo + i * 4 + 2, none⟩ = some (Value.int IntKind.i64 wd) ∧ w'.cell? ⟨qb, qo + i * 4 + 3, none⟩ = some (Value.int IntKind.i64 wt))
          (first | with_reducible exact hS0 | with_reducible exact hS1 | go_keep)
          ((go_at_call 43; refine (CP.out _ ((Gro.refl wr).drew)).mono ?_; rintro _ w5 ⟨rfl, kx⟩; have kz := (Gro.refl wr).drew.trans kx; have hS1 : w5.cell? ⟨H, 0, none⟩ = some (Value.slice h1 G.vs.length hc1) ∧ w5.cell? ⟨H, 1, none⟩ = some (Value.slice (some ⟨HV, ho, none⟩) G.es.length hc2) ∧ w5.cell? ⟨H, 2, none⟩ = some (Value.slice h3 G.ds.length hc3) ∧ w5.cell? ⟨X, 0, none⟩ = some (Value.int IntKind.i64 b.round) ∧ w5.cell? ⟨X, 1, none⟩ = some (Value.slice a1 b.ps.length c1) ∧ w5.cell? ⟨X, 2, none⟩ = some (Value.slice (some ⟨ob, oo, none⟩) b.os.length c2) ∧ w5.cell? ⟨X, 3, none⟩ = some (Value.slice (some ⟨qb, qo, none⟩) b.ws.length c3) ∧ w5.cell? ⟨qb, qo + i * 4, none⟩ = some (Value.int IntKind.i64 we) ∧ w5.cell? ⟨qb, qo + i * 4 + 1, none⟩ = some (Value.int IntKind.i64 ws) ∧ w5.cell? ⟨qb, qo + i * 4 + 2, none⟩ = some (Value.int IntKind.i64 wd) ∧ w5.cell? ⟨qb, qo + i * 4 + 3, none⟩ = some (Value.int IntKind.i64 wt) := ⟨kz.cell y0, kz.cell y1, kz.cell y2, kz.cell z3, kz.cell z4, kz.cell z5, kz.cell z6, kz.cell p0, kz.cell p1, kz.cell p2, kz.cell p3⟩; have HB5 := Lib.hid (HB.out.step kz); have HG5 := Lib.hid (HGB.out.step kz); have HV5 := Lib.hid (fun (W : World) (hW : Gro w5 W) => HV1.out W (kz.trans hW)); have HS5 := Lib.hid (fun (W : World) (hW : Gro w5 W) => HS2.out W (kz.trans hW)); have CQ5 := Lib.hid (fun (W : World) (hW : Gro w5 W) => CQ.out W (kz.trans hW)); clear kx kz))
         all_goals
          have hS9 := hS1
          clear hS0 hS1 y0 y1 y2 z3 z4 z5 z6 p0 p1 p2 p3 hlH hlX hlq HB HGB
          obtain ⟨y0, y1, y2, z3, z4, z5, z6, p0, p1, p2, p3⟩ := hS9
          have hlH := World.block_lt_of_cell? _ _ y0
          have hlX := World.block_lt_of_cell? _ _ z3
          have hlq := World.block_lt_of_cell? _ _ p0
          have HB := HB5
          have HGB := HG5
          clear HB5 HG5
          go_wp2_with fail
          have hS0 : w5.drew.cell? ⟨H, 0, none⟩ = some (Value.slice h1 G.vs.length hc1) ∧ w5.drew.cell? ⟨H, 1, none⟩ = some (Value.slice (some ⟨HV, ho, none⟩) G.es.length hc2) ∧ w5.drew.cell? ⟨H, 2, none⟩ = some (Value.slice h3 G.ds.length hc3) ∧ w5.drew.cell? ⟨X, 0, none⟩ = some (Value.int IntKind.i64 b.round) ∧ w5.drew.cell? ⟨X, 1, none⟩ = some (Value.slice a1 b.ps.length c1) ∧ w5.drew.cell? ⟨X, 2, none⟩ = some (Value.slice (some ⟨ob, oo, none⟩) b.os.length c2) ∧ w5.drew.cell? ⟨X, 3, none⟩ = some (Value.slice (some ⟨qb, qo, none⟩) b.ws.length c3) ∧ w5.drew.cell? ⟨qb, qo + i * 4, none⟩ = some (Value.int IntKind.i64 we) ∧ w5.drew.cell? ⟨qb, qo + i * 4 + 1, none⟩ = some (Value.int IntKind.i64 ws) ∧ w5.drew.cell? ⟨qb, qo + i * 4 + 2, none⟩ = some (Value.int IntKind.i64 wd) ∧ w5.drew.cell? ⟨qb, qo + i * 4 + 3, none⟩ = some (Value.int IntKind.i64 wt) := ⟨(Gro.refl w5).drew.cell y0, (Gro.refl w5).drew.cell y1, (Gro.refl w5).drew.cell y2, (Gro.refl w5).drew.cell z3, (Gro.refl w5).drew.cell z4, (Gro.refl w5).drew.cell z5, (Gro.refl w5).drew.cell z6, (Gro.refl w5).drew.cell p0, (Gro.refl w5).drew.cell p1, (Gro.refl w5).drew.cell p2, (Gro.refl w5).drew.cell p3⟩
          go_region_held3 (fun w' => w'.cell? ⟨H, 0, none⟩ = some (Value.slice h1 G.vs.length hc1) ∧ w'.cell? ⟨H, 1, none⟩ = some (Value.slice (some ⟨HV, ho, none⟩) G.es.length hc2) ∧ w'.cell? ⟨H, 2, none⟩ = some (Value.slice h3 G.ds.length hc3) ∧ w'.cell? ⟨X, 0, none⟩ = some (Value.int IntKind.i64 b.round) ∧ w'.cell? ⟨X, 1, none⟩ = some (Value.slice a1 b.ps.length c1) ∧ w'.cell? ⟨X, 2, none⟩ = some (Value.slice (some ⟨ob, oo, none⟩) b.os.length c2) ∧ w'.cell? ⟨X, 3, none⟩ = some (Value.slice (some ⟨qb, qo, none⟩) b.ws.length c3) ∧ w'.cell? ⟨qb, qo + i * 4, none⟩ = some (Value.int IntKind.i64 we) ∧ w'.cell? ⟨qb, qo + i * 4 + 1, none⟩ = some (Value.int IntKind.i64 ws) ∧ w'.cell? ⟨qb, qo + i * 4 + 2, none⟩ = some (Value.int IntKind.i64 wd) ∧ w'.cell? ⟨qb, qo + i * 4 + 3, none⟩ = some (Value.int IntKind.i64 wt))
           (first | with_reducible exact hS0 | with_reducible exact hS1 | go_keep)
           ((go_at_call 40; refine (CQ5.out _ ((Gro.refl w5).drew)).mono ?_; rintro _ w6 ⟨rfl, kx⟩; have kz := (Gro.refl w5).drew.trans kx; have hS1 : w6.cell? ⟨H, 0, none⟩ = some (Value.slice h1 G.vs.length hc1) ∧ w6.cell? ⟨H, 1, none⟩ = some (Value.slice (some ⟨HV, ho, none⟩) G.es.length hc2) ∧ w6.cell? ⟨H, 2, none⟩ = some (Value.slice h3 G.ds.length hc3) ∧ w6.cell? ⟨X, 0, none⟩ = some (Value.int IntKind.i64 b.round) ∧ w6.cell? ⟨X, 1, none⟩ = some (Value.slice a1 b.ps.length c1) ∧ w6.cell? ⟨X, 2, none⟩ = some (Value.slice (some ⟨ob, oo, none⟩) b.os.length c2) ∧ w6.cell? ⟨X, 3, none⟩ = some (Value.slice (some ⟨qb, qo, none⟩) b.ws.length c3) ∧ w6.cell? ⟨qb, qo + i * 4, none⟩ = some (Value.int IntKind.i64 we) ∧ w6.cell? ⟨qb, qo + i * 4 + 1, none⟩ = some (Value.int IntKind.i64 ws) ∧ w6.cell? ⟨qb, qo + i * 4 + 2, none⟩ = some (Value.int IntKind.i64 wd) ∧ w6.cell? ⟨qb, qo + i * 4 + 3, none⟩ = some (Value.int IntKind.i64 wt) := ⟨kz.cell y0, kz.cell y1, kz.cell y2, kz.cell z3, kz.cell z4, kz.cell z5, kz.cell z6, kz.cell p0, kz.cell p1, kz.cell p2, kz.cell p3⟩; have HB5 := Lib.hid (HB.out.step kz); have HG5 := Lib.hid (HGB.out.step kz); have HV6 := Lib.hid (fun (W : World) (hW : Gro w6 W) => HV5.out W (kz.trans hW)); have HS6 := Lib.hid (fun (W : World) (hW : Gro w6 W) => HS5.out W (kz.trans hW)); clear kx kz))
          all_goals
           have hS9 := hS1
           clear hS0 hS1 y0 y1 y2 z3 z4 z5 z6 p0 p1 p2 p3 hlH hlX hlq HB HGB
           obtain ⟨y0, y1, y2, z3, z4, z5, z6, p0, p1, p2, p3⟩ := hS9
           have hlH := World.block_lt_of_cell? _ _ y0
           have hlX := World.block_lt_of_cell? _ _ z3
           have hlq := World.block_lt_of_cell? _ _ p0
           have HB := HB5
           have HGB := HG5
           clear HB5 HG5
           obtain ⟨v0, v1, v2, v3, v4, v5⟩ := HV6.out _ (Gro.refl _)
           have hlv := World.block_lt_of_cell? _ _ v0
           go_wp2_with fail
           obtain ⟨w7, hw7⟩ : ∃ w7, w7 = w6.alloc (Obj.cells #[.int .i64 we, .int .i64 ws, .int .i64 wd, .bool dd, .int .i64 wt, .int .i64 0] 69) := ⟨_, rfl⟩
           have k7 : Gro w6 w7 := by rw [hw7]; exact (Gro.refl _).alloc _
           have bY : w7.heap[w6.heap.size]? = some (.cells #[.int .i64 we, .int .i64 ws, .int .i64 wd, .bool dd, .int .i64 wt, .int .i64 0] 69 (0, 0)) := by rw [hw7]; exact blk_new _ _
           rw [← hw7]
           clear hw7 v0 v1 v2 v3 v4 v5 hlv y0 y1 y2 z3 z4 hlH hlX hlq
           have z5 := k7.cell z5
           have z6 := k7.cell z6
           have p0 := k7.cell p0
           have p1 := k7.cell p1
           have p2 := k7.cell p2
           have p3 := k7.cell p3
           have s2 := HS6.out _ k7
           obtain ⟨t0, t1, t2, t3, t4, t5, hlY⟩ := cells6 bY
           have hlX := World.block_lt_of_cell? _ _ z5
           have hlq := World.block_lt_of_cell? _ _ p0
           have hlo := World.block_lt_of_cell? _ _ s2
           have HB := Lib.hid (HB.out.step k7)
           have HGB := Lib.hid (HGB.out.step k7)
           clear k7 bY
           generalize w6.heap.size = Y at t0 t1 t2 t3 t4 t5 hlY ⊢
           refine wp_region_held_drew (S := (fun w' => w'.cell? ⟨Y, 0, none⟩ = some (Value.int IntKind.i64 we) ∧ w'.cell? ⟨Y, 1, none⟩ = some (Value.int IntKind.i64 ws) ∧ w'.cell? ⟨Y, 2, none⟩ = some (Value.int IntKind.i64 wd) ∧ w'.cell? ⟨Y, 3, none⟩ = some (Value.bool dd) ∧ w'.cell? ⟨Y, 4, none⟩ = some (Value.int IntKind.i64 wt) ∧ w'.cell? ⟨Y, 5, none⟩ = some (Value.int IntKind.i64 0) ∧ w'.cell? ⟨X, 2, none⟩ = some (Value.slice (some ⟨ob, oo, none⟩) b.os.length c2) ∧ w'.cell? ⟨X, 3, none⟩ = some (Value.slice (some ⟨qb, qo, none⟩) b.ws.length c3) ∧ w'.cell? ⟨qb, qo + i * 4, none⟩ = some (Value.int IntKind.i64 we) ∧ w'.cell? ⟨qb, qo + i * 4 + 1, none⟩ = some (Value.int IntKind.i64 ws) ∧ w'.cell? ⟨qb, qo + i * 4 + 2, none⟩ = some (Value.int IntKind.i64 wd) ∧ w'.cell? ⟨qb, qo + i * 4 + 3, none⟩ = some (Value.int IntKind.i64 wt) ∧ w'.cell? ⟨ob, oo + f * 7 + 2, none⟩ = some (Value.int IntKind.i64 fs))) (by kernel_rfl) ⟨(Gro.refl w7).drew.cell t0, (Gro.refl w7).drew.cell t1, (Gro.refl w7).drew.cell t2, (Gro.refl w7).drew.cell t3, (Gro.refl w7).drew.cell t4, (Gro.refl w7).drew.cell t5, (Gro.refl w7).drew.cell z5, (Gro.refl w7).drew.cell z6, (Gro.refl w7).drew.cell p0, (Gro.refl w7).drew.cell p1, (Gro.refl w7).drew.cell p2, (Gro.refl w7).drew.cell p3, (Gro.refl w7).drew.cell s2⟩ (fun hHeld => ?_)
           have HB5 := Lib.hid (HB.out.step (Gro.refl w7).drew)
           have HG5 := Lib.hid (HGB.out.step (Gro.refl w7).drew)
           clear t0 t1 t2 t3 t4 t5 z5 z6 p0 p1 p2 p3 s2 hlY hlX hlq hlo HB HGB
           generalize w7.drew = wD at hHeld HB5 HG5 ⊢
           refine wpAnyH_take (i := 0) (v := ?_) rfl (by kernel_rfl) (by kernel_rfl) (by kernel_rfl) (fun _ _ _ h => h) (Or.inl ⟨rfl, ?_⟩) hHeld ?_
           rotate_left
           ·exact lfT71
           simp only [Act.put, lQa, lQb, lQc, lQd, lQe, lQf]
           refine wpAnyH_take (i := 1) (v := ?_) rfl (by kernel_rfl) (by kernel_rfl) (by kernel_rfl) (fun _ _ _ h => h) (Or.inl ⟨rfl, ?_⟩) hHeld ?_
           rotate_left
           ·exact lfT71
           simp only [Act.put, lQa, lQb, lQc, lQd, lQe, lQf]
           refine wpAnyH_take (i := 2) (v := ?_) rfl (by kernel_rfl) (by kernel_rfl) (by kernel_rfl) (fun _ _ _ h => h) (Or.inl ⟨rfl, ?_⟩) hHeld ?_
           rotate_left
           ·exact lfT71
           simp only [Act.put, lQa, lQb, lQc, lQd, lQe, lQf]
           refine wpAnyH_take (i := 3) (v := ?_) rfl (by kernel_rfl) (by kernel_rfl) (by kernel_rfl) (fun _ _ _ h => h) (Or.inl ⟨rfl, ?_⟩) hHeld ?_
           rotate_left
           ·exact lfT71
           simp only [Act.put, lQa, lQb, lQc, lQd, lQe, lQf]
           refine wpAnyH_take (i := 4) (v := ?_) rfl (by kernel_rfl) (by kernel_rfl) (by kernel_rfl) (fun _ _ _ h => h) (Or.inl ⟨rfl, ?_⟩) hHeld ?_
           rotate_left
           ·exact lfT71
           simp only [Act.put, lQa, lQb, lQc, lQd, lQe, lQf]
           refine wpAnyH_take (i := 5) (v := ?_) rfl (by kernel_rfl) (by kernel_rfl) (by kernel_rfl) (fun _ _ _ h => h) (Or.inl ⟨rfl, ?_⟩) hHeld ?_
           rotate_left
           ·exact lfT71
           simp only [Act.put, lQa, lQb, lQc, lQd, lQe, lQf]
           refine wpAnyH_take (i := 6) (v := ?_) rfl (by kernel_rfl) (by kernel_rfl) (by kernel_rfl) (fun _ _ _ h => h) (Or.inl ⟨rfl, ?_⟩) hHeld ?_
           rotate_left
           ·exact lfT71
           simp only [Act.put, lQa, lQb, lQc, lQd, lQe, lQf]
           refine wpAnyH_take (i := 7) (v := ?_) rfl (by kernel_rfl) (by kernel_rfl) (by kernel_rfl) (fun _ _ _ h => h) (Or.inl ⟨rfl, ?_⟩) hHeld ?_
           rotate_left
           ·exact lfT71
           simp only [Act.put, lQa, lQb, lQc, lQd, lQe, lQf]
           refine wpAnyH_take (i := 8) (v := .bool false) rfl (by kernel_rfl) (by kernel_rfl) (by kernel_rfl) (fun _ _ _ h => h) (Or.inl ⟨rfl, ?_⟩) hHeld ?_
           ·(intro w hSw; obtain ⟨t0, t1, t2, t3, t4, t5, z5, z6, p0, p1, p2, p3, s2⟩ := hSw; have hlY := World.block_lt_of_cell? _ _ t0; have hlX := World.block_lt_of_cell? _ _ z5; have hlq := World.block_lt_of_cell? _ _ p0; have hlo := World.block_lt_of_cell? _ _ s2; go_simp; first | done | with_reducible rfl | (simp only [hdd]; done) | exact HDIR.out | (simp; done) | trace_state)
           simp only [Act.put, lQa, lQb, lQc, lQd, lQe, lQf]
           refine wpAnyH_take (i := 9) (v := ?_) rfl (by kernel_rfl) (by kernel_rfl) (by kernel_rfl) (fun _ _ _ h => h) (Or.inl ⟨rfl, ?_⟩) hHeld ?_
           rotate_left
           ·exact lfT71
           simp only [Act.put, lQa, lQb, lQc, lQd, lQe, lQf]
           refine wpAnyH_take (i := 10) (v := ?_) rfl (by kernel_rfl) (by kernel_rfl) (by kernel_rfl) (fun _ _ _ h => h) (Or.inl ⟨rfl, ?_⟩) hHeld ?_
           rotate_left
           ·exact lfT71
           simp only [Act.put, lQa, lQb, lQc, lQd, lQe, lQf]
           refine wpAnyH_take (i := 11) (v := ?_) rfl (by kernel_rfl) (by kernel_rfl) (by kernel_rfl) (fun _ _ _ h => h) (Or.inl ⟨rfl, ?_⟩) hHeld ?_
           rotate_left
           ·exact lfT71
           simp only [Act.put, lQa, lQb, lQc, lQd, lQe, lQf]
           refine wpAnyH_take (i := 12) (v := ?_) rfl (by kernel_rfl) (by kernel_rfl) (by kernel_rfl) (fun _ _ _ h => h) (Or.inl ⟨rfl, ?_⟩) hHeld ?_
           rotate_left
           ·exact lfT71
           simp only [Act.put, lQa, lQb, lQc, lQd, lQe, lQf]
           refine wpAnyH_take (i := 13) (v := ?_) rfl (by kernel_rfl) (by kernel_rfl) (by kernel_rfl) (fun _ _ _ h => h) (Or.inl ⟨rfl, ?_⟩) hHeld ?_
           rotate_left
           ·exact lfT71
           simp only [Act.put, lQa, lQb, lQc, lQd, lQe, lQf]
           refine wpAnyH_take (i := 14) (v := ?_) rfl (by kernel_rfl) (by kernel_rfl) (by kernel_rfl) (fun _ _ _ h => h) (Or.inl ⟨rfl, ?_⟩) hHeld ?_
           rotate_left
           ·exact lfT71
           simp only [Act.put, lQa, lQb, lQc, lQd, lQe, lQf]
           refine wpAnyH_take (i := 15) (v := ?_) rfl (by kernel_rfl) (by kernel_rfl) (by kernel_rfl) (fun _ _ _ h => h) (Or.inl ⟨rfl, ?_⟩) hHeld ?_
           rotate_left
           ·exact lfT71
           simp only [Act.put, lQa, lQb, lQc, lQd, lQe, lQf]
           refine wpAnyH_take (i := 16) (v := ?_) rfl (by kernel_rfl) (by kernel_rfl) (by kernel_rfl) (fun _ _ _ h => h) (Or.inl ⟨rfl, ?_⟩) hHeld ?_
           rotate_left
           ·exact lfT71
           simp only [Act.put, lQa, lQb, lQc, lQd, lQe, lQf]
           refine wpAnyH_take (i := 17) (v := ?_) rfl (by kernel_rfl) (by kernel_rfl) (by kernel_rfl) (fun _ _ _ h => h) (Or.inl ⟨rfl, ?_⟩) hHeld ?_
           rotate_left
           ·exact lfT71
           simp only [Act.put, lQa, lQb, lQc, lQd, lQe, lQf]
           refine wpAnyH_take (i := 18) (v := .bool false) rfl (by kernel_rfl) (by kernel_rfl) (by kernel_rfl) (fun _ _ _ h => h) (Or.inl ⟨rfl, ?_⟩) hHeld ?_
           ·(intro w hSw; obtain ⟨t0, t1, t2, t3, t4, t5, z5, z6, p0, p1, p2, p3, s2⟩ := hSw; have hlY := World.block_lt_of_cell? _ _ t0; have hlX := World.block_lt_of_cell? _ _ z5; have hlq := World.block_lt_of_cell? _ _ p0; have hlo := World.block_lt_of_cell? _ _ s2; go_simp; first | done | with_reducible rfl | (simp only [hdd]; done) | exact HDIR.out | (simp; done) | trace_state)
           simp only [Act.put, lQa, lQb, lQc, lQd, lQe, lQf]
           refine wpAnyH_take (i := 19) (v := ?_) rfl (by kernel_rfl) (by kernel_rfl) (by kernel_rfl) (fun _ _ _ h => h) (Or.inl ⟨rfl, ?_⟩) hHeld ?_
           rotate_left
           ·exact lfT71
           simp only [Act.put, lQa, lQb, lQc, lQd, lQe, lQf]
           refine wpAnyH_take (i := 20) (v := ?_) rfl (by kernel_rfl) (by kernel_rfl) (by kernel_rfl) (fun _ _ _ h => h) (Or.inl ⟨rfl, ?_⟩) hHeld ?_
           rotate_left
           ·exact lfT71
           simp only [Act.put, lQa, lQb, lQc, lQd, lQe, lQf]
           refine wpAnyH_take (i := 21) (v := ?_) rfl (by kernel_rfl) (by kernel_rfl) (by kernel_rfl) (fun _ _ _ h => h) (Or.inl ⟨rfl, ?_⟩) hHeld ?_
           rotate_left
           ·exact lfT71
           simp only [Act.put, lQa, lQb, lQc, lQd, lQe, lQf]
           refine wpAnyH_take (i := 22) (v := ?_) rfl (by kernel_rfl) (by kernel_rfl) (by kernel_rfl) (fun _ _ _ h => h) (Or.inl ⟨rfl, ?_⟩) hHeld ?_
           rotate_left
           ·exact lfT71
           simp only [Act.put, lQa, lQb, lQc, lQd, lQe, lQf]
           refine wpAnyH_take (i := 23) (v := ?_) rfl (by kernel_rfl) (by kernel_rfl) (by kernel_rfl) (fun _ _ _ h => h) (Or.inl ⟨rfl, ?_⟩) hHeld ?_
           rotate_left
           ·exact lfT71
           simp only [Act.put, lQa, lQb, lQc, lQd, lQe, lQf]
           refine wpAnyH_take (i := 24) (v := ?_) rfl (by kernel_rfl) (by kernel_rfl) (by kernel_rfl) (fun _ _ _ h => h) (Or.inl ⟨rfl, ?_⟩) hHeld ?_
           rotate_left
           ·exact lfT71
           simp only [Act.put, lQa, lQb, lQc, lQd, lQe, lQf]
           refine wpAnyH_take (i := 25) (v := ?_) rfl (by kernel_rfl) (by kernel_rfl) (by kernel_rfl) (fun _ _ _ h => h) (Or.inl ⟨rfl, ?_⟩) hHeld ?_
           rotate_left
           ·exact lfT71
           simp only [Act.put, lQa, lQb, lQc, lQd, lQe, lQf]
           refine wpAnyH_take (i := 26) (v := ?_) rfl (by kernel_rfl) (by kernel_rfl) (by kernel_rfl) (fun _ _ _ h => h) (Or.inl ⟨rfl, ?_⟩) hHeld ?_
           rotate_left
           ·exact lfT71
           simp only [Act.put, lQa, lQb, lQc, lQd, lQe, lQf]
           refine wpAnyH_take (i := 27) (v := ?_) rfl (by kernel_rfl) (by kernel_rfl) (by kernel_rfl) (fun _ _ _ h => h) (Or.inl ⟨rfl, ?_⟩) hHeld ?_
           rotate_left
           ·exact lfT71
           simp only [Act.put, lQa, lQb, lQc, lQd, lQe, lQf]
           refine wpAnyH_take (i := 28) (v := ?_) rfl (by kernel_rfl) (by kernel_rfl) (by kernel_rfl) (fun _ _ _ h => h) (Or.inl ⟨rfl, ?_⟩) hHeld ?_
           rotate_left
           ·exact lfT71
           simp only [Act.put, lQa, lQb, lQc, lQd, lQe, lQf]
           refine wpAnyH_take (i := 29) (v := .bool false) rfl (by kernel_rfl) (by kernel_rfl) (by kernel_rfl) (fun _ _ _ h => h) (Or.inl ⟨rfl, ?_⟩) hHeld ?_
           ·(intro w hSw; obtain ⟨t0, t1, t2, t3, t4, t5, z5, z6, p0, p1, p2, p3, s2⟩ := hSw; have hlY := World.block_lt_of_cell? _ _ t0; have hlX := World.block_lt_of_cell? _ _ z5; have hlq := World.block_lt_of_cell? _ _ p0; have hlo := World.block_lt_of_cell? _ _ s2; go_simp; first | done | with_reducible rfl | (simp only [hdd]; done) | exact HDIR.out | (simp; done) | trace_state)
           simp only [Act.put, lQa, lQb, lQc, lQd, lQe, lQf]
           refine wpAnyH_take (i := 30) (v := ?_) rfl (by kernel_rfl) (by kernel_rfl) (by kernel_rfl) (fun _ _ _ h => h) (Or.inl ⟨rfl, ?_⟩) hHeld ?_
           rotate_left
           ·exact lfT71
           simp only [Act.put, lQa, lQb, lQc, lQd, lQe, lQf]
           refine wpAnyH_take (i := 31) (v := ?_) rfl (by kernel_rfl) (by kernel_rfl) (by kernel_rfl) (fun _ _ _ h => h) (Or.inl ⟨rfl, ?_⟩) hHeld ?_
           rotate_left
           ·exact lfT71
           simp only [Act.put, lQa, lQb, lQc, lQd, lQe, lQf]
           refine wpAnyH_take (i := 32) (v := ?_) rfl (by kernel_rfl) (by kernel_rfl) (by kernel_rfl) (fun _ _ _ h => h) (Or.inl ⟨rfl, ?_⟩) hHeld ?_
           rotate_left
           ·exact lfT71
           simp only [Act.put, lQa, lQb, lQc, lQd, lQe, lQf]
           refine wpAnyH_take (i := 33) (v := ?_) rfl (by kernel_rfl) (by kernel_rfl) (by kernel_rfl) (fun _ _ _ h => h) (Or.inl ⟨rfl, ?_⟩) hHeld ?_
           rotate_left
           ·exact lfT71
           simp only [Act.put, lQa, lQb, lQc, lQd, lQe, lQf]
           refine wpAnyH_take (i := 34) (v := ?_) rfl (by kernel_rfl) (by kernel_rfl) (by kernel_rfl) (fun _ _ _ h => h) (Or.inl ⟨rfl, ?_⟩) hHeld ?_
           rotate_left
           ·exact lfT71
           simp only [Act.put, lQa, lQb, lQc, lQd, lQe, lQf]
           refine wpAnyH_take (i := 35) (v := ?_) rfl (by kernel_rfl) (by kernel_rfl) (by kernel_rfl) (fun _ _ _ h => h) (Or.inl ⟨rfl, ?_⟩) hHeld ?_
           rotate_left
           ·exact lfT71
           simp only [Act.put, lQa, lQb, lQc, lQd, lQe, lQf]
           refine wpAnyH_take (i := 36) (v := ?_) rfl (by kernel_rfl) (by kernel_rfl) (by kernel_rfl) (fun _ _ _ h => h) (Or.inl ⟨rfl, ?_⟩) hHeld ?_
           rotate_left
           ·exact lfT71
           simp only [Act.put, lQa, lQb, lQc, lQd, lQe, lQf]
           refine wpAnyH_take (i := 37) (v := ?_) rfl (by kernel_rfl) (by kernel_rfl) (by kernel_rfl) (fun _ _ _ h => h) (Or.inl ⟨rfl, ?_⟩) hHeld ?_
           rotate_left
           ·exact lfT71
           simp only [Act.put, lQa, lQb, lQc, lQd, lQe, lQf]
           refine wpAnyH_take (i := 38) (v := ?_) rfl (by kernel_rfl) (by kernel_rfl) (by kernel_rfl) (fun _ _ _ h => h) (Or.inl ⟨rfl, ?_⟩) hHeld ?_
           rotate_left
           ·exact lfT71
           simp only [Act.put, lQa, lQb, lQc, lQd, lQe, lQf]
           refine wpAnyH_take (i := 39) (v := ?_) rfl (by kernel_rfl) (by kernel_rfl) (by kernel_rfl) (fun _ _ _ h => h) (Or.inl ⟨rfl, ?_⟩) hHeld ?_
           rotate_left
           ·exact lfT71
           simp only [Act.put, lQa, lQb, lQc, lQd, lQe, lQf]
           refine wpAnyH_take (i := 40) (v := ?_) rfl (by kernel_rfl) (by kernel_rfl) (by kernel_rfl) (fun _ _ _ h => h) (Or.inl ⟨rfl, ?_⟩) hHeld ?_
           rotate_left
           ·exact lfT71
           simp only [Act.put, lQa, lQb, lQc, lQd, lQe, lQf]
           refine wpAnyH_take (i := 41) (v := .bool false) rfl (by kernel_rfl) (by kernel_rfl) (by kernel_rfl) (fun _ _ _ h => h) (Or.inl ⟨rfl, ?_⟩) hHeld ?_
           ·(intro w hSw; obtain ⟨t0, t1, t2, t3, t4, t5, z5, z6, p0, p1, p2, p3, s2⟩ := hSw; have hlY := World.block_lt_of_cell? _ _ t0; have hlX := World.block_lt_of_cell? _ _ z5; have hlq := World.block_lt_of_cell? _ _ p0; have hlo := World.block_lt_of_cell? _ _ s2; go_simp; first | done | with_reducible rfl | (simp only [hdd]; done) | exact HDIR.out | (simp; done) | trace_state)
           simp only [Act.put, lQa, lQb, lQc, lQd, lQe, lQf]
           refine wpAnyH_take (i := 42) (v := ?_) rfl (by kernel_rfl) (by kernel_rfl) (by kernel_rfl) (fun _ _ _ h => h) (Or.inl ⟨rfl, ?_⟩) hHeld ?_
           rotate_left
           ·exact lfT71
           simp only [Act.put, lQa, lQb, lQc, lQd, lQe, lQf]
           refine wpAnyH_take (i := 43) (v := ?_) rfl (by kernel_rfl) (by kernel_rfl) (by kernel_rfl) (fun _ _ _ h => h) (Or.inl ⟨rfl, ?_⟩) hHeld ?_
           rotate_left
           ·exact lfT71
           simp only [Act.put, lQa, lQb, lQc, lQd, lQe, lQf]
           refine wpAnyH_take (i := 44) (v := ?_) rfl (by kernel_rfl) (by kernel_rfl) (by kernel_rfl) (fun _ _ _ h => h) (Or.inl ⟨rfl, ?_⟩) hHeld ?_
           rotate_left
           ·exact lfT71
           simp only [Act.put, lQa, lQb, lQc, lQd, lQe, lQf]
           refine wpAnyH_ready (rs := [45]) (by kernel_rfl) (by simp) ?_
           refine AllReadyH.cons (i := 45) rfl (fun K hK => ?_) AllReadyH.nil
           go_simp
           refine (HPR.out _).mono ?_
           rintro _ w8 ⟨v, rfl, hv, kx⟩
           have HB := Lib.hid (HB5.out.step kx)
           have HGB := Lib.hid (HG5.out.step kx)
           obtain ⟨t0, t1, t2, t3, t4, t5, z5, z6, p0, p1, p2, p3, s2⟩ := hHeld
           have hH2 : (fun w' => w'.cell? ⟨Y, 0, none⟩ = some (Value.int IntKind.i64 we) ∧ w'.cell? ⟨Y, 1, none⟩ = some (Value.int IntKind.i64 ws) ∧ w'.cell? ⟨Y, 2, none⟩ = some (Value.int IntKind.i64 wd) ∧ w'.cell? ⟨Y, 3, none⟩ = some (Value.bool dd) ∧ w'.cell? ⟨Y, 4, none⟩ = some (Value.int IntKind.i64 wt) ∧ w'.cell? ⟨Y, 5, none⟩ = some (Value.int IntKind.i64 0) ∧ w'.cell? ⟨X, 2, none⟩ = some (Value.slice (some ⟨ob, oo, none⟩) b.os.length c2) ∧ w'.cell? ⟨X, 3, none⟩ = some (Value.slice (some ⟨qb, qo, none⟩) b.ws.length c3) ∧ w'.cell? ⟨qb, qo + i * 4, none⟩ = some (Value.int IntKind.i64 we) ∧ w'.cell? ⟨qb, qo + i * 4 + 1, none⟩ = some (Value.int IntKind.i64 ws) ∧ w'.cell? ⟨qb, qo + i * 4 + 2, none⟩ = some (Value.int IntKind.i64 wd) ∧ w'.cell? ⟨qb, qo + i * 4 + 3, none⟩ = some (Value.int IntKind.i64 wt) ∧ w'.cell? ⟨ob, oo + f * 7 + 2, none⟩ = some (Value.int IntKind.i64 fs)) w8 := ⟨kx.cell t0, kx.cell t1, kx.cell t2, kx.cell t3, kx.cell t4, kx.cell t5, kx.cell z5, kx.cell z6, kx.cell p0, kx.cell p1, kx.cell p2, kx.cell p3, kx.cell s2⟩
           clear kx t0 t1 t2 t3 t4 t5 z5 z6 p0 p1 p2 p3 s2 HB5 HG5
           have hvd := decide_eq_false (show ¬ (v ≤ 0) by omega)
           try go_simp
           refine hK.out _ _ hH2 (fun hHeld => ?_)
           clear hK K hH2
           try simp only [Act.put, lQa, lQb, lQc, lQd, lQe, lQf]
           refine wpAnyH_take (i := 46) (v := ?_) rfl (by kernel_rfl) (by kernel_rfl) (by kernel_rfl) (fun _ _ _ h => h) (Or.inl ⟨rfl, ?_⟩) hHeld ?_
           rotate_left
           ·exact lfT71
           simp only [Act.put, lQa, lQb, lQc, lQd, lQe, lQf]
           refine wpAnyH_take (i := 47) (v := ?_) rfl (by kernel_rfl) (by kernel_rfl) (by kernel_rfl) (fun _ _ _ h => h) (Or.inl ⟨rfl, ?_⟩) hHeld ?_
           rotate_left
           ·exact lfT71
           simp only [Act.put, lQa, lQb, lQc, lQd, lQe, lQf]
           refine wpAnyH_done (by kernel_rfl) ?_ _
           clear hHeld
           go_wp2_with fail
           go_roundw
           case rel => first | exact ⟨i + 1, by omega, by go_num, HB, HGB⟩ | ((repeat apply Exists.intro); exact ⟨⟨by omega, by go_num, HB, HGB⟩, rfl⟩) | trace_state
           case measure => simp [intOf]; omega⟩
        exact (show Nonempty auxP from inferInstanceAs (Nonempty auxP)).elim id
       ·go_wp2_with fail
        clear z3 z4 z5 z6 hlX
        go_ret
        exact (show Truth w _ _ from ⟨rfl, HB.out.gro⟩)
 ·cases hno
end Go.Proofs.YthfagcdjbmhhcaaGreat
