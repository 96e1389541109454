/- OfferCloses. -/
import Derived.Test.YthfagcdjbmhhcaaGreatT1
import Derived.Test.YthfagcdjbmhhcaaGreatPC
import Derived.Test.YthfagcdjbmhhcaaGreatL4
import Derived.Test.YthfagcdjbmhhcaaGreatS1
set_option linter.unusedVariables false
set_option linter.unusedSimpArgs false
namespace Go.Proofs.YthfagcdjbmhhcaaGreat
open Go.RowKit
attribute [local irreducible] wpQuiet
theorem gfew5 {g : Gr} (h : VG g) : g.few := ⟨by have := h.lens; omega, by have := h.lens; omega, by have := h.lens; omega⟩
theorem gr_ok {g : Gr} {b : Bk} {w : World} {e : Ending} {w' : World} (hv : VB g b) (h : GrPost w (graphOf g b) e w') : ∃ (G : Gr) (a1 : Option Addr) (c1 : Nat) (a2 : Option Addr) (c2 : Nat) (a3 : Option Addr) (c3 : Nat), build g b = G ∧ e = .returned (.tuple #[.agg #[.slice a1 G.vs.length c1, .slice a2 G.es.length c2, .slice a3 G.ds.length c3], .int .i64 0]) ∧ GrV w' (.agg #[.slice a1 G.vs.length c1, .slice a2 G.es.length c2, .slice a3 G.ds.length c3]) G ∧ Gro w w' := by
 have hgo : graphOf g b = some (build g b) := by unfold graphOf; rw [if_pos hv.true]
 rw [hgo] at h
 obtain ⟨k, ⟨G, v, h1, rfl, h3⟩ | ⟨h1, _⟩⟩ := h
 ·injection h1 with h1
  obtain ⟨a1, c1, a2, c2, a3, c3, rfl⟩ := h3.open
  exact ⟨G, a1, c1, a2, c2, a3, c3, h1, rfl, h3, k⟩
 ·cases h1
set_option maxHeartbeats 40000000 in
set_option maxRecDepth 100000 in
theorem closes5 {w : World} (n : Int) (hn : I64 n) {lv : Value} {l : List A5} (hl : LV w lv l) (hlo : ∀ x ∈ l, x.ok) (m : Int) (hm : I64 m) {xv : Value} {xs : List A6} (hx : LV w xv xs) (hxo : ∀ x ∈ xs, x.ok) (wh : Int) (hwh : I64 wh) (tk : Bool) : Calls Tryz.prog 5 #[.int .i64 n, lv, .int .i64 m, xv, .int .i64 wh, .bool tk] w (Truth w) := by
 have hmix := mixed
 have HN := Lib.hid hn
 have HLO := Lib.hid hlo
 have HM := Lib.hid hm
 have HXO := Lib.hid hxo
 have HL : Hid (∀ W, Gro w W → LV W lv l) := Lib.hid (fun W hW => hl.gro hW)
 have HX : Hid (∀ W, Gro w W → LV W xv xs) := Lib.hid (fun W hW => hx.gro hW)
 obtain ⟨la, lc, rfl, _⟩ := hl
 obtain ⟨xa, xc, rfl, _⟩ := hx
 clear hn hlo hm hxo
 go_enter Tryz.func5, Tryz.ntmps5
 go_wp2_with fail
 refine ((sane9 w).mono (fun e w' h => (show e = .returned (.bool true) ∧ Gro w w' from h))).mono ?_
 rintro _ w1 ⟨rfl, k1⟩
 go_wp2_with fail
 refine (roads10 n HN.out (HL.out _ k1) HLO.out).mono ?_
 rintro _ w2 ⟨vg, g, rfl, hG, hVG, hs0, hpos, k2⟩
 obtain ⟨g1, gc1, g2, gc2, g3, gc3, rfl⟩ := hG.open
 have K2 := Lib.hid (k1.trans k2)
 have HG := Lib.hid hG
 have HVG := Lib.hid hVG
 have HS0 := Lib.hid hs0
 have HPOS := Lib.hid hpos
 clear k1 k2 hG hVG hs0 hpos
 go_wp2_with fail
 obtain ⟨W3, hW3⟩ : ∃ W3, W3 = w2.alloc (Obj.cells #[.slice g1 g.vs.length gc1, .slice g2 g.es.length gc2, .slice g3 g.ds.length gc3] 38) := ⟨_, rfl⟩
 have k3 : Gro w2 W3 := by rw [hW3]; exact (Gro.refl _).alloc _
 have b3 : W3.heap[w2.heap.size]? = some (.cells #[.slice g1 g.vs.length gc1, .slice g2 g.es.length gc2, .slice g3 g.ds.length gc3] 38 (0, 0)) := by rw [hW3]; exact blk_new _ _
 rw [← hW3]
 have K3 := Lib.hid k3
 have B3 := Lib.hid b3
 clear hW3 k3 b3
 refine (made11 (HG.out.gro K3.out) HVG.out HS0.out HPOS.out m HM.out (HX.out _ (K2.out.trans K3.out)) HXO.out).mono ?_
 rintro _ w4 ⟨v, b, rfl, hv, hb, k4⟩
 obtain ⟨a1, c1, a2, c2, a3, c3, rfl⟩ := hb.open
 have hLB : Hid (∀ W X, W = w4.alloc (Obj.cells #[.int .i64 b.round, .slice a1 b.ps.length c1, .slice a2 b.os.length c2, .slice a3 b.ws.length c3] 28) → X = w4.heap.size → LB w w2 W g #[.slice g1 g.vs.length gc1, .slice g2 g.es.length gc2, .slice g3 g.ds.length gc3] w2.heap.size X b a1 b.ps.length c1 a2 b.os.length c2 a3 b.ws.length c3) := Lib.hid (fun W X e1 e2 => by
  have kW : Gro w4 W := by rw [e1]; exact (Gro.refl _).alloc _
  have h3 := blk_lt (k4.blk B3.out)
  exact ⟨kW.blk (k4.blk B3.out), by rw [e1, e2]; exact blk_new _ _, hb.gro kW, hv, (((K3.out.trans k4).trans kW).kept _), ((K2.out.trans K3.out).trans k4).trans kW, K2.out.size, Nat.le_refl _, by omega⟩)
 have K4 := Lib.hid (K3.out.trans k4)
 have R4 := Lib.hid (k4.blk B3.out)
 clear hv hb k4
 go_upto_region 6 with fail
 obtain ⟨W5, hW5⟩ : ∃ W5, W5 = w4.alloc (Obj.cells #[.int .i64 b.round, .slice a1 b.ps.length c1, .slice a2 b.os.length c2, .slice a3 b.ws.length c3] 28) := ⟨_, rfl⟩
 have HB := Lib.hid (hLB.out W5 _ hW5 rfl)
 rw [← hW5]
 clear hW5 hLB
 generalize w4.heap.size = X at HB ⊢
 clear K3 B3 K4 R4
 by_cases hlen : b.os.length = 0
 ·have hd : ((b.os.length : Int) == 0) = true := by simp [hlen]
  clear hlen
  obtain ⟨x0, x1, x2, x3, xl⟩ := cells4 HB.out.xb
  go_wp2_with fail
  go_ret
  exact (show Truth w _ _ from ⟨rfl, HB.out.gro⟩)
 have hd : ((b.os.length : Int) == 0) = false := by simpa using hlen
 have hlens := HB.out.vb.lens
 have hq := pk_range (c := wh) (n := (b.os.length : Int)) (by omega)
 have P0 := Lib.hid (fun W => pick36 (w := W) wh (b.os.length : Int) hwh (by omega))
 obtain ⟨kk, hkk⟩ : ∃ kk : Nat, pk wh (b.os.length : Int) = kk := ⟨(pk wh (b.os.length : Int)).toNat, by omega⟩
 rw [hkk] at P0 hq
 have hk : kk < b.os.length := by omega
 obtain ⟨x, hx⟩ : ∃ x, x = b.os[kk] := ⟨_, rfl⟩
 have HXX := Lib.hid hx
 have HKK := Lib.hid hk
 obtain ⟨_, _, hl2, _⟩ := HB.out.lists
 obtain ⟨ob, oo, rfl, hob, hoc⟩ := hl2.base hk
 obtain ⟨e0, e1, e2, e3, e4, e5, e6⟩ := ocells hoc hk
 rw [← hx] at e0 e1 e2 e3 e4 e5 e6
 have hlo := World.block_lt_of_cell? _ _ e0
 obtain ⟨x0, x1, x2, x3, xl⟩ := cells4 HB.out.xb
 clear hkk hlen hx hl2 hoc hob hlens
 go_upto_region 8 with fail
 go_cut [16] (fun t wx => ∃ N : Nat, t = .pointer (some ⟨N, 0, none⟩) ∧ Gro W5 wx ∧ wx.heap[N]? = some (.cells #[.int .i64 x.id, .int .i64 x.party, .int .i64 x.side, .int .i64 x.place, .int .i64 x.price, .int .i64 x.until_, .int .i64 x.state] 30 (0, 0)))
 case first =>
  refine nameGoal fun auxP auxH _ => ?_
  letI auxN : Nonempty auxP := ⟨by
   refine auxH ?_
   refine wp_region_held_drew (S := (fun w' => w'.cell? ⟨X, 2, none⟩ = some (Value.slice (some ⟨ob, oo, none⟩) b.os.length c2) ∧ w'.cell? ⟨ob, oo + kk * 7, none⟩ = some (Value.int IntKind.i64 x.id) ∧ w'.cell? ⟨ob, oo + kk * 7 + 1, none⟩ = some (Value.int IntKind.i64 x.party) ∧ w'.cell? ⟨ob, oo + kk * 7 + 2, none⟩ = some (Value.int IntKind.i64 x.side) ∧ w'.cell? ⟨ob, oo + kk * 7 + 3, none⟩ = some (Value.int IntKind.i64 x.place) ∧ w'.cell? ⟨ob, oo + kk * 7 + 4, none⟩ = some (Value.int IntKind.i64 x.price) ∧ w'.cell? ⟨ob, oo + kk * 7 + 5, none⟩ = some (Value.int IntKind.i64 x.until_) ∧ w'.cell? ⟨ob, oo + kk * 7 + 6, none⟩ = some (Value.int IntKind.i64 x.state))) (by kernel_rfl) ⟨(Gro.refl W5).drew.cell x2, (Gro.refl W5).drew.cell e0, (Gro.refl W5).drew.cell e1, (Gro.refl W5).drew.cell e2, (Gro.refl W5).drew.cell e3, (Gro.refl W5).drew.cell e4, (Gro.refl W5).drew.cell e5, (Gro.refl W5).drew.cell e6⟩ (fun hHeld => ?_)
   have KD := Lib.hid (Gro.refl W5).drew
   clear x2 e0 e1 e2 e3 e4 e5 e6 x0 x1 x3 xl hlo
   generalize W5.drew = wD at hHeld KD ⊢
   have HS0 := Lib.hid hHeld
   refine wpAnyH_take (i := 0) (v := ?_) rfl (by kernel_rfl) (by kernel_rfl) (by kernel_rfl) (fun _ _ _ h => h) (Or.inl ⟨rfl, ?_⟩) hHeld ?_
   rotate_left
   ·(intro w hSw; obtain ⟨x2, e0, e1, e2, e3, e4, e5, e6⟩ := hSw; have hlX := World.block_lt_of_cell? _ _ x2; have hlo := World.block_lt_of_cell? _ _ e0; go_simp; first | done | with_reducible rfl | trace_state)
   simp only [Act.put, lQa, lQb, lQc, lQd, lQe, lQf]
   refine wpAnyH_take (i := 1) (v := ?_) rfl (by kernel_rfl) (by kernel_rfl) (by kernel_rfl) (fun _ _ _ h => h) (Or.inl ⟨rfl, ?_⟩) hHeld ?_
   rotate_left
   ·(intro w hSw; obtain ⟨x2, e0, e1, e2, e3, e4, e5, e6⟩ := hSw; have hlX := World.block_lt_of_cell? _ _ x2; have hlo := World.block_lt_of_cell? _ _ e0; go_simp; first | done | with_reducible rfl | trace_state)
   simp only [Act.put, lQa, lQb, lQc, lQd, lQe, lQf]
   refine wpAnyH_take (i := 2) (v := ?_) rfl (by kernel_rfl) (by kernel_rfl) (by kernel_rfl) (fun _ _ _ h => h) (Or.inl ⟨rfl, ?_⟩) hHeld ?_
   rotate_left
   ·(intro w hSw; obtain ⟨x2, e0, e1, e2, e3, e4, e5, e6⟩ := hSw; have hlX := World.block_lt_of_cell? _ _ x2; have hlo := World.block_lt_of_cell? _ _ e0; go_simp; first | done | with_reducible rfl | trace_state)
   simp only [Act.put, lQa, lQb, lQc, lQd, lQe, lQf]
   refine wpAnyH_take (i := 3) (v := ?_) rfl (by kernel_rfl) (by kernel_rfl) (by kernel_rfl) (fun _ _ _ h => h) (Or.inl ⟨rfl, ?_⟩) hHeld ?_
   rotate_left
   ·(intro w hSw; obtain ⟨x2, e0, e1, e2, e3, e4, e5, e6⟩ := hSw; have hlX := World.block_lt_of_cell? _ _ x2; have hlo := World.block_lt_of_cell? _ _ e0; go_simp; first | done | with_reducible rfl | trace_state)
   simp only [Act.put, lQa, lQb, lQc, lQd, lQe, lQf]
   refine wpAnyH_take (i := 4) (v := ?_) rfl (by kernel_rfl) (by kernel_rfl) (by kernel_rfl) (fun _ _ _ h => h) (Or.inl ⟨rfl, ?_⟩) hHeld ?_
   rotate_left
   ·(intro w hSw; obtain ⟨x2, e0, e1, e2, e3, e4, e5, e6⟩ := hSw; have hlX := World.block_lt_of_cell? _ _ x2; have hlo := World.block_lt_of_cell? _ _ e0; go_simp; first | done | with_reducible rfl | trace_state)
   simp only [Act.put, lQa, lQb, lQc, lQd, lQe, lQf]
   refine wpAnyH_take (i := 5) (v := ?_) rfl (by kernel_rfl) (by kernel_rfl) (by kernel_rfl) (fun _ _ _ h => h) (Or.inl ⟨rfl, ?_⟩) hHeld ?_
   rotate_left
   ·(intro w hSw; obtain ⟨x2, e0, e1, e2, e3, e4, e5, e6⟩ := hSw; have hlX := World.block_lt_of_cell? _ _ x2; have hlo := World.block_lt_of_cell? _ _ e0; go_simp; first | done | with_reducible rfl | trace_state)
   simp only [Act.put, lQa, lQb, lQc, lQd, lQe, lQf]
   refine wpAnyH_takeQ (i := 6) (f := 36) (args := #[.int .i64 wh, .int .i64 b.os.length]) rfl (by kernel_rfl) (by kernel_rfl) (by kernel_rfl) (fun _ _ _ h => h) rfl (fun _ => by go_simp) (fun W _ => P0.out W) hHeld ?_
   simp only [Act.put, lQa, lQb, lQc, lQd, lQe, lQf]
   refine wpAnyH_take (i := 7) (v := ?_) rfl (by kernel_rfl) (by kernel_rfl) (by kernel_rfl) (fun _ _ _ h => h) (Or.inl ⟨rfl, ?_⟩) hHeld ?_
   rotate_left
   ·(intro w hSw; obtain ⟨x2, e0, e1, e2, e3, e4, e5, e6⟩ := hSw; have hlX := World.block_lt_of_cell? _ _ x2; have hlo := World.block_lt_of_cell? _ _ e0; go_simp; first | done | with_reducible rfl | trace_state)
   simp only [Act.put, lQa, lQb, lQc, lQd, lQe, lQf]
   refine wpAnyH_take (i := 8) (v := ?_) rfl (by kernel_rfl) (by kernel_rfl) (by kernel_rfl) (fun _ _ _ h => h) (Or.inl ⟨rfl, ?_⟩) hHeld ?_
   rotate_left
   ·(intro w hSw; obtain ⟨x2, e0, e1, e2, e3, e4, e5, e6⟩ := hSw; have hlX := World.block_lt_of_cell? _ _ x2; have hlo := World.block_lt_of_cell? _ _ e0; go_simp; first | done | with_reducible rfl | trace_state)
   simp only [Act.put, lQa, lQb, lQc, lQd, lQe, lQf]
   refine wpAnyH_ready (rs := [9]) (by kernel_rfl) (by simp) ?_
   refine AllReadyH.cons (i := 9) rfl (fun K hK => ?_) AllReadyH.nil
   go_simp
   obtain ⟨wB, hT⟩ : ∃ wB, wB = wD.alloc (Obj.cells #[.int .i64 0, .int .i64 0, .int .i64 0, .int .i64 0, .int .i64 0, .int .i64 0, .int .i64 0] 30) := ⟨_, rfl⟩
   have kB : Gro wD wB := by rw [hT]; exact (Gro.refl _).alloc _
   have bN : wB.heap[wD.heap.size]? = some (.cells #[.int .i64 0, .int .i64 0, .int .i64 0, .int .i64 0, .int .i64 0, .int .i64 0, .int .i64 0] 30 (0, 0)) := by rw [hT]; exact blk_new _ _
   rw [← hT]
   have hS2 : (fun w' => w'.cell? ⟨X, 2, none⟩ = some (Value.slice (some ⟨ob, oo, none⟩) b.os.length c2) ∧ w'.cell? ⟨ob, oo + kk * 7, none⟩ = some (Value.int IntKind.i64 x.id) ∧ w'.cell? ⟨ob, oo + kk * 7 + 1, none⟩ = some (Value.int IntKind.i64 x.party) ∧ w'.cell? ⟨ob, oo + kk * 7 + 2, none⟩ = some (Value.int IntKind.i64 x.side) ∧ w'.cell? ⟨ob, oo + kk * 7 + 3, none⟩ = some (Value.int IntKind.i64 x.place) ∧ w'.cell? ⟨ob, oo + kk * 7 + 4, none⟩ = some (Value.int IntKind.i64 x.price) ∧ w'.cell? ⟨ob, oo + kk * 7 + 5, none⟩ = some (Value.int IntKind.i64 x.until_) ∧ w'.cell? ⟨ob, oo + kk * 7 + 6, none⟩ = some (Value.int IntKind.i64 x.state)) wB := ⟨Gro.cell kB HS0.out.1, Gro.cell kB HS0.out.2.1, Gro.cell kB HS0.out.2.2.1, Gro.cell kB HS0.out.2.2.2.1, Gro.cell kB HS0.out.2.2.2.2.1, Gro.cell kB HS0.out.2.2.2.2.2.1, Gro.cell kB HS0.out.2.2.2.2.2.2.1, Gro.cell kB HS0.out.2.2.2.2.2.2.2⟩
   clear hT
   obtain ⟨N, hN⟩ : ∃ N, N = wD.heap.size := ⟨_, rfl⟩
   have hzN : wD.heap.size ≤ N := by rw [hN]; exact Nat.le_refl _
   rw [← hN] at bN ⊢
   clear hN
   refine hK.out _ _ hS2 (fun hHeld => ?_)
   clear hK K hS2
   try simp only [Act.put, lQa, lQb, lQc, lQd, lQe, lQf]
   refine wpAnyH_ready (rs := [10]) (by kernel_rfl) (by simp) ?_
   refine AllReadyH.cons (i := 10) rfl (fun K hK => ?_) AllReadyH.nil
   obtain ⟨n0, n1, n2, n3, n4, n5, n6, ln⟩ := cells7 bN
   have fN := blk_frozen bN
   have f0 := fN 0
   have f1 := fN 1
   have f2 := fN 2
   have f3 := fN 3
   have f4 := fN 4
   have f5 := fN 5
   have f6 := fN 6
   have HZ := Lib.hid (setO bN (.int .i64 x.id) (.int .i64 x.party) (.int .i64 x.side) (.int .i64 x.place) (.int .i64 x.price) (.int .i64 x.until_) (.int .i64 x.state))
   have KZ := Lib.hid (keptO kB (.inr hzN) (.int .i64 x.id) (.int .i64 x.party) (.int .i64 x.side) (.int .i64 x.place) (.int .i64 x.price) (.int .i64 x.until_) (.int .i64 x.state))
   clear fN
   go_simp
   have hS2 := KZ.out
   have hS3 := HZ.out
   clear HZ KZ
   generalize (((((((wB.setCell ⟨N, 0, none⟩ (.int .i64 x.id)).setCell ⟨N, 1, none⟩ (.int .i64 x.party)).setCell ⟨N, 2, none⟩ (.int .i64 x.side)).setCell ⟨N, 3, none⟩ (.int .i64 x.place)).setCell ⟨N, 4, none⟩ (.int .i64 x.price)).setCell ⟨N, 5, none⟩ (.int .i64 x.until_)).setCell ⟨N, 6, none⟩ (.int .i64 x.state)) = wZ at hS2 hS3 ⊢
   refine hK.out _ _ (show (fun w' => w'.cell? ⟨X, 2, none⟩ = some (Value.slice (some ⟨ob, oo, none⟩) b.os.length c2) ∧ w'.cell? ⟨ob, oo + kk * 7, none⟩ = some (Value.int IntKind.i64 x.id) ∧ w'.cell? ⟨ob, oo + kk * 7 + 1, none⟩ = some (Value.int IntKind.i64 x.party) ∧ w'.cell? ⟨ob, oo + kk * 7 + 2, none⟩ = some (Value.int IntKind.i64 x.side) ∧ w'.cell? ⟨ob, oo + kk * 7 + 3, none⟩ = some (Value.int IntKind.i64 x.place) ∧ w'.cell? ⟨ob, oo + kk * 7 + 4, none⟩ = some (Value.int IntKind.i64 x.price) ∧ w'.cell? ⟨ob, oo + kk * 7 + 5, none⟩ = some (Value.int IntKind.i64 x.until_) ∧ w'.cell? ⟨ob, oo + kk * 7 + 6, none⟩ = some (Value.int IntKind.i64 x.state)) wZ from ⟨Gro.cell hS2 HS0.out.1, Gro.cell hS2 HS0.out.2.1, Gro.cell hS2 HS0.out.2.2.1, Gro.cell hS2 HS0.out.2.2.2.1, Gro.cell hS2 HS0.out.2.2.2.2.1, Gro.cell hS2 HS0.out.2.2.2.2.2.1, Gro.cell hS2 HS0.out.2.2.2.2.2.2.1, Gro.cell hS2 HS0.out.2.2.2.2.2.2.2⟩) (fun _ => ?_)
   clear hK K
   refine wpAnyH_done (by kernel_rfl) ?_ _
   clear hHeld
   try simp only [Act.put, lQa, lQb, lQc, lQd, lQe, lQf]
   have KZ := Lib.hid (KD.out.trans hS2)
   have HZ := Lib.hid hS3
   clear hS2 hS3 n0 n1 n2 n3 n4 n5 n6 ln f0 f1 f2 f3 f4 f5 f6
   go_wp2_with fail
   go_meet
   exact ⟨N, rfl, KZ.out, HZ.out⟩⟩
  exact (show Nonempty auxP from inferInstanceAs (Nonempty auxP)).elim id
 case rest =>
  obtain ⟨O, rfl, k6, ho⟩ := hcut
  have HO := Lib.hid ho
  have HB := Lib.hid (HB.out.step k6)
  clear k6 ho P0 hq e0 e1 e2 e3 e4 e5 e6 hlo x0 x1 x2 x3 xl hd
  obtain ⟨r0, r1, r2, rl⟩ := cells3 HB.out.rb
  obtain ⟨x0, x1, x2, x3, xl⟩ := cells4 HB.out.xb
  obtain ⟨o0, o1, o2, o3, o4, o5, o6, ol⟩ := cells7 HO.out
  go_wp2_with fail
  refine ((withdraw20 (HG.out.old HB.out.kp) HB.out.bv HB.out.vb.fits x.party x.id).mono BPost.of).mono ?_
  rintro _ V1 ⟨c, E1, ca1, cc1, ca2, cc2, ca3, cc3, rfl, kx, hv, ho⟩
  have HV := Lib.hid hv
  have HOc := Lib.hid ho
  clear hv ho
  have HB := Lib.hid (HB.out.step kx)
  have HO := Lib.hid (kx.blk HO.out)
  clear kx r0 r1 r2 rl x0 x1 x2 x3 xl o0 o1 o2 o3 o4 o5 o6 ol
  obtain ⟨r0, r1, r2, rl⟩ := cells3 HB.out.rb
  obtain ⟨o0, o1, o2, o3, o4, o5, o6, ol⟩ := cells7 HO.out
  go_wp2_with fail
  have hXC : X < V1.heap.size := blk_lt HB.out.xb
  have hOC : O < V1.heap.size := blk_lt HO.out
  obtain ⟨W6, hW⟩ : ∃ W6, W6 = V1.alloc (Obj.cells #[.int .i64 c.round, .slice ca1 c.ps.length cc1, .slice ca2 c.os.length cc2, .slice ca3 c.ws.length cc3] 28) := ⟨_, rfl⟩
  have kx : Gro V1 W6 := by rw [hW]; exact (Gro.refl _).alloc _
  have HC := Lib.hid (⟨by rw [hW]; exact blk_new _ _, HV.out.gro kx⟩ : BB W6 V1.heap.size c ca1 cc1 ca2 cc2 ca3 cc3)
  rw [← hW]
  clear hW HV
  have HB := Lib.hid (HB.out.step kx)
  have HO := Lib.hid (kx.blk HO.out)
  clear kx r0 r1 r2 rl o0 o1 o2 o3 o4 o5 o6 ol
  generalize V1.heap.size = NC at HC hXC hOC ⊢
  refine ((withdraw20 (HG.out.old HB.out.kp) HC.out.val (or_fits HVG.out HOc.out) x.party x.id).mono BPost.of).mono ?_
  rintro _ V2 ⟨d, E2, da1, dc1, da2, dc2, da3, dc3, rfl, kx, hv, ho⟩
  have HV := Lib.hid hv
  have HOd := Lib.hid ho
  clear hv ho
  have HB := Lib.hid (HB.out.step kx)
  have HO := Lib.hid (kx.blk HO.out)
  have HC := Lib.hid (HC.out.step kx)
  clear kx
  go_upto_if 72 with fail
  obtain ⟨W7, hW⟩ : ∃ W7, W7 = V2.alloc (Obj.cells #[.int .i64 d.round, .slice da1 d.ps.length dc1, .slice da2 d.os.length dc2, .slice da3 d.ws.length dc3] 28) := ⟨_, rfl⟩
  have kx : Gro V2 W7 := by rw [hW]; exact (Gro.refl _).alloc _
  rw [← hW]
  clear hW HV
  have HB := Lib.hid (HB.out.step kx)
  have HO := Lib.hid (kx.blk HO.out)
  have HC := Lib.hid (HC.out.step kx)
  clear kx
  generalize V2.heap.size = ND
  go_cut [18, 20] (fun t u wx => ∃ (e : Bk) (ea1 : Option Addr) (ec1 : Nat) (ea2 : Option Addr) (ec2 : Nat) (ea3 : Option Addr) (ec3 : Nat) (E F : Int), t = .int .i64 E ∧ u = .int .i64 F ∧ Hid (LB w w2 wx g #[.slice g1 g.vs.length gc1, .slice g2 g.es.length gc2, .slice g3 g.ds.length gc3] w2.heap.size X b a1 b.ps.length c1 (some ⟨ob, oo, none⟩) b.os.length c2 a3 b.ws.length c3) ∧ Hid (BB wx NC e ea1 ec1 ea2 ec2 ea3 ec3) ∧ Hid (wx.heap[O]? = some (.cells #[.int .i64 x.id, .int .i64 x.party, .int .i64 x.side, .int .i64 x.place, .int .i64 x.price, .int .i64 x.until_, .int .i64 x.state] 30 (0, 0))) ∧ Hid (Fits g e) ∧ Hid (Clo b x e E F))
  case first =>
   cases tk with
   | false =>
    refine nameGoal fun auxP auxH _ => ?_
    letI auxN : Nonempty auxP := ⟨by
     refine auxH ?_
     go_wp2_with fail
     go_meet
     exact ⟨c, _, _, _, _, _, _, E1, E2, rfl, rfl, HB, HC, HO, Lib.hid (or_fits HVG.out HOc.out), Lib.hid (by have h1 := HOc.out; have h2 := HOd.out; rw [HXX.out] at h1 h2 ⊢; exact clo_w HB.out.vb HKK.out h1 h2)⟩⟩
    exact (show Nonempty auxP from inferInstanceAs (Nonempty auxP)).elim id
   | true =>
    refine nameGoal fun auxP auxH _ => ?_
    letI auxN : Nonempty auxP := ⟨by
     refine auxH ?_
     obtain ⟨r0, r1, r2, rl⟩ := cells3 HB.out.rb
     obtain ⟨x0, x1, x2, x3, xl⟩ := cells4 HB.out.xb
     obtain ⟨o0, o1, o2, o3, o4, o5, o6, ol⟩ := cells7 HO.out
     go_wp2_with fail
     obtain ⟨WA, hW⟩ : ∃ WA, WA = W7.alloc (Obj.cells #[.int .i64 x.id] 3) := ⟨_, rfl⟩
     have kx : Gro W7 WA := by rw [hW]; exact (Gro.refl _).alloc _
     have HLV : Hid (LV WA (.slice (some ⟨W7.heap.size, 0, none⟩) 1 1) [x.id]) := Lib.hid (by rw [hW]; exact (own_single (α := Int) x.id W7).lv (by simp))
     rw [← hW]
     clear hW
     have HB := Lib.hid (HB.out.step kx)
     have HO := Lib.hid (kx.blk HO.out)
     have HC := Lib.hid (HC.out.step kx)
     clear kx r0 r1 r2 rl x0 x1 x2 x3 xl o0 o1 o2 o3 o4 o5 o6 ol
     generalize W7.heap.size = NI at HLV ⊢
     refine ((take28 (HG.out.old HB.out.kp) HB.out.bv HB.out.vb.fits HLV.out (by simp)).mono BPost.of).mono ?_
     rintro _ V3 ⟨e, E3, ea1, ec1, ea2, ec2, ea3, ec3, rfl, kx, hv, ho⟩
     have HV := Lib.hid hv
     have HOe := Lib.hid ho
     clear hv ho
     have HB := Lib.hid (HB.out.step kx)
     have HO := Lib.hid (kx.blk HO.out)
     have HC := Lib.hid (HC.out.step kx)
     clear kx HLV
     obtain ⟨r0, r1, r2, rl⟩ := cells3 HB.out.rb
     obtain ⟨bC0, bC1, bC2, bC3, bCl⟩ := cells4 HC.out.blk
     obtain ⟨o0, o1, o2, o3, o4, o5, o6, ol⟩ := cells7 HO.out
     have fN := blk_frozen HC.out.blk
     have fn0 := fN 0
     have fn1 := fN 1
     have fn2 := fN 2
     have fn3 := fN 3
     have hRX := HB.out.lox
     have hneR : ¬ (w2.heap.size = NC) := by omega
     have hneO : ¬ (O = NC) := by omega
     clear fN
     go_wp2_with fail
     obtain ⟨W8, hW8⟩ : ∃ W8, W8 = ((((V3.setCell ⟨NC, 0, none⟩ (.int .i64 e.round)).setCell ⟨NC, 1, none⟩ (.slice ea1 e.ps.length ec1)).setCell ⟨NC, 2, none⟩ (.slice ea2 e.os.length ec2)).setCell ⟨NC, 3, none⟩ (.slice ea3 e.ws.length ec3)) := ⟨_, rfl⟩
     have kk := kept4 (Kept.refl (· = NC) V3) (.inl rfl) (.int .i64 e.round) (.slice ea1 e.ps.length ec1) (.slice ea2 e.os.length ec2) (.slice ea3 e.ws.length ec3)
     have hb8 := set4 HC.out.blk (.int .i64 e.round) (.slice ea1 e.ps.length ec1) (.slice ea2 e.os.length ec2) (.slice ea3 e.ws.length ec3)
     have hs8 : V3.heap.size = W8.heap.size := by rw [hW8]; simp [World.setCell]
     rw [← hW8] at kk hb8 ⊢
     rw [hs8]
     have HB8 := Lib.hid (HB.out.other kk hXC HC.out.blk)
     have HC8 : Hid (BB W8 NC e ea1 ec1 ea2 ec2 ea3 ec3) := Lib.hid ⟨hb8, HV.out.far kk HC.out.blk⟩
     have HO8 := Lib.hid (Kept.blk kk HO.out hneO)
     clear hW8 kk hb8 hs8 HB HC HO HV r0 r1 r2 rl bC0 bC1 bC2 bC3 bCl o0 o1 o2 o3 o4 o5 o6 ol fn0 fn1 fn2 fn3
     obtain ⟨WB, hW⟩ : ∃ WB, WB = W8.alloc (Obj.cells #[.int .i64 x.id] 3) := ⟨_, rfl⟩
     have kx : Gro W8 WB := by rw [hW]; exact (Gro.refl _).alloc _
     have HLV : Hid (LV WB (.slice (some ⟨W8.heap.size, 0, none⟩) 1 1) [x.id]) := Lib.hid (by rw [hW]; exact (own_single (α := Int) x.id W8).lv (by simp))
     rw [← hW]
     clear hW
     have HB := Lib.hid (HB8.out.step kx)
     have HC := Lib.hid (HC8.out.step kx)
     have HO := Lib.hid (kx.blk HO8.out)
     clear kx HB8 HC8 HO8
     generalize W8.heap.size = NJ at HLV ⊢
     refine ((take28 (HG.out.old HB.out.kp) HC.out.val (or_fits HVG.out HOe.out) HLV.out (by simp)).mono BPost.of).mono ?_
     rintro _ V4 ⟨f, E4, fa1, fc1, fa2, fc2, fa3, fc3, rfl, kx, hv, ho⟩
     have HV := Lib.hid hv
     have HOf := Lib.hid ho
     clear hv ho
     have HB := Lib.hid (HB.out.step kx)
     have HO := Lib.hid (kx.blk HO.out)
     have HC := Lib.hid (HC.out.step kx)
     clear kx HLV
     go_wp2_with fail
     go_meet
     exact ⟨e, _, _, _, _, _, _, E3, E4, rfl, rfl, HB, HC, HO, Lib.hid (or_fits HVG.out HOe.out), Lib.hid (by have h1 := HOe.out; have h2 := HOf.out; rw [HXX.out] at h1 h2 ⊢; exact clo_t HB.out.vb HKK.out h1 h2)⟩⟩
    exact (show Nonempty auxP from inferInstanceAs (Nonempty auxP)).elim id
  case rest =>
   obtain ⟨e, ea1, ec1, ea2, ec2, ea3, ec3, E, F, rfl, rfl, HB, HC, HO, HFT, HCL⟩ := hcut
   clear HOc HOd
   obtain ⟨o0, o1, o2, o3, o4, o5, o6, ol⟩ := cells7 HO.out
   rcases HCL.out with ⟨hs, rfl⟩ | ⟨hs, rfl, rfl, st, hst, hce⟩
   ·have hd : (x.state != 1) = true := by simpa using hs
    clear hs
    go_wp2_with fail
    go_ret
    exact (show Truth w _ _ from ⟨rfl, HB.out.gro⟩)
   have hd : (x.state != 1) = false := by simp [hs]
   have HXS := Lib.hid hs
   have HCE := Lib.hid hce
   have HSTT := Lib.hid hst
   have HVE := Lib.hid (show VB g e from by rw [hce]; exact HB.out.vb.closeId _ _ hst)
   clear hs hce hst HCL
   obtain ⟨r0, r1, r2, rl⟩ := cells3 HB.out.rb
   obtain ⟨x0, x1, x2, x3, xl⟩ := cells4 HB.out.xb
   go_wp2_with fail
   refine ((graph30 (HG.out.old HB.out.kp) HB.out.bv HB.out.vb.fits).mono (fun e' w' h => gr_ok HB.out.vb h)).mono ?_
   rintro _ V5 ⟨gu, u1, uc1, u2, uc2, u3, uc3, hgu, rfl, hgv, kx⟩
   have HGV := Lib.hid hgv
   have HEu := Lib.hid hgu
   clear hgu hgv
   have HB := Lib.hid (HB.out.step kx)
   have HO := Lib.hid (kx.blk HO.out)
   have HC := Lib.hid (HC.out.step kx)
   clear kx r0 r1 r2 rl x0 x1 x2 x3 xl o0 o1 o2 o3 o4 o5 o6 ol
   obtain ⟨r0, r1, r2, rl⟩ := cells3 HB.out.rb
   obtain ⟨bC0, bC1, bC2, bC3, bCl⟩ := cells4 HC.out.blk
   go_wp2_with fail
   obtain ⟨W9, hW⟩ : ∃ W9, W9 = V5.alloc (Obj.cells #[.slice u1 gu.vs.length uc1, .slice u2 gu.es.length uc2, .slice u3 gu.ds.length uc3] 38) := ⟨_, rfl⟩
   have kx : Gro V5 W9 := by rw [hW]; exact (Gro.refl _).alloc _
   have HU : Hid (GB W9 gu V5.heap.size u1 gu.vs.length uc1 u2 gu.es.length uc2 u3 gu.ds.length uc3) := Lib.hid ⟨by rw [hW]; exact blk_new _ _, HGV.out.gro kx⟩
   rw [← hW]
   clear hW HGV
   have HB := Lib.hid (HB.out.step kx)
   have HO := Lib.hid (kx.blk HO.out)
   have HC := Lib.hid (HC.out.step kx)
   clear kx r0 r1 r2 rl bC0 bC1 bC2 bC3 bCl
   generalize V5.heap.size = NU at HU ⊢
   refine ((graph30 (HG.out.old HB.out.kp) HC.out.val HFT.out).mono (fun e' w' h => gr_ok HVE.out h)).mono ?_
   rintro _ V6 ⟨gy, y1, yc1, y2, yc2, y3, yc3, hgy, rfl, hgv, kx⟩
   have HGV := Lib.hid hgv
   have HEy := Lib.hid hgy
   clear hgy hgv
   have HB := Lib.hid (HB.out.step kx)
   have HO := Lib.hid (kx.blk HO.out)
   have HC := Lib.hid (HC.out.step kx)
   have HU := Lib.hid (HU.out.step kx)
   clear kx
   go_upto_region 20 with fail
   obtain ⟨wa, hW⟩ : ∃ wa, wa = V6.alloc (Obj.cells #[.slice y1 gy.vs.length yc1, .slice y2 gy.es.length yc2, .slice y3 gy.ds.length yc3] 38) := ⟨_, rfl⟩
   have kx : Gro V6 wa := by rw [hW]; exact (Gro.refl _).alloc _
   have HY : Hid (GB wa gy V6.heap.size y1 gy.vs.length yc1 y2 gy.es.length yc2 y3 gy.ds.length yc3) := Lib.hid ⟨by rw [hW]; exact blk_new _ _, HGV.out.gro kx⟩
   rw [← hW]
   clear hW HGV
   have HB := Lib.hid (HB.out.step kx)
   have HO := Lib.hid (kx.blk HO.out)
   have HC := Lib.hid (HC.out.step kx)
   have HU := Lib.hid (HU.out.step kx)
   clear kx
   generalize V6.heap.size = NY at HY ⊢
   have HVU := Lib.hid (show VG gu from HEu.out ▸ valid_build HB.out.vb)
   have HVY := Lib.hid (show VG gy from HEy.out ▸ valid_build HVE.out)
   go_wp2_with fail
   have G0 := Lib.hid (GoAt.mk (α := Edg) (OwnL.nil wa wa.heap.size) (Gro.refl wa))
   go_loopw [26, 25] (fun t u wr => ∃ k : Nat, k ≤ gu.es.length ∧ t = .int .i64 k ∧ Hid (GoAt wa wr u ((gu.es.take k).filter (offE x.id)))) (fun t _ _ => gu.es.length - (intOf t).toNat)
   case atStart => exact ⟨0, Nat.zero_le _, by go_num, G0⟩
   case round =>
    clear G0
    obtain ⟨k, hk, rfl, HGO⟩ := hrel
    have hgl := HVU.out.lens
    obtain ⟨gU0, gU1, gU2, gUl⟩ := cells3 (HGO.out.gro.blk HU.out.blk)
    by_cases hlt : k < gu.es.length
    ·obtain ⟨_, _, hl2, _⟩ := HU.out.val.lists
     obtain ⟨eb, eo, rfl, heb, hec⟩ := hl2.base hlt
     obtain ⟨e_0, e_1, e_2, e_3, e_4, e_5⟩ := ecells hec hlt
     have hf := filter_take_succ (offE x.id) gu.es k hlt
     have hfl : ((gu.es.take k).filter (offE x.id)).length ≤ 40 := Nat.le_trans (List.length_filter_le _ _) (by rw [List.length_take]; omega)
     generalize gu.es[k] = y at e_0 e_1 e_2 e_3 e_4 e_5 hf
     obtain ⟨yi, ys, yd, yr, yw, yc⟩ := y
     simp only at e_0 e_1 e_2 e_3 e_4 e_5
     have e_0 := HGO.out.gro.cell e_0
     have e_1 := HGO.out.gro.cell e_1
     have e_2 := HGO.out.gro.cell e_2
     have e_3 := HGO.out.gro.cell e_3
     have e_4 := HGO.out.gro.cell e_4
     have e_5 := HGO.out.gro.cell e_5
     have hle := World.block_lt_of_cell? _ _ e_0
     obtain ⟨o0, o1, o2, o3, o4, o5, o6, ol⟩ := cells7 (HGO.out.gro.blk HO.out)
     have HFT' := Lib.hid hf
     clear hf hec hl2 heb
     by_cases h1 : ys = x.id
     ·have h1' : (ys != x.id) = false := by simpa using h1
      have HN := Lib.hid (show (gu.es.take (k + 1)).filter (offE x.id) = (gu.es.take k).filter (offE x.id) from by rw [HFT'.out]; simp [offE, h1])
      clear h1
      refine nameGoal fun auxP auxH _ => ?_
      letI auxN : Nonempty auxP := ⟨by
       refine auxH ?_
       go_wp2_with fail
       have gU1 := gcell gU1
       have e_1 := gcell e_1
       have e_2 := gcell e_2
       have o0 := gcell o0
       go_quiet_grown (fail)
       have kq := gro_of_grow wr nq osq
       dsimp only at kq ⊢
       clear gU1 e_1 e_2 o0 gU0 gU2 gUl ol hle e_0 e_3 e_4 e_5 o1 o2 o3 o4 o5 o6
       generalize Go.Sort.grow (wr.drewN nq) osq = w3 at kq ⊢
       have HG5 := Lib.hid (HGO.out.step kq)
       clear kq
       go_wp2_with fail
       go_roundw
       case rel => exact ⟨k + 1, by omega, by go_num, by rw [HN.out]; exact HG5⟩
       case measure => simp [intOf]; omega⟩
      exact (show Nonempty auxP from inferInstanceAs (Nonempty auxP)).elim id
     ·have h1' : (ys != x.id) = true := by simpa using h1
      by_cases h2 : yd = x.id
      ·have h2' : (yd != x.id) = false := by simpa using h2
       have HN := Lib.hid (show (gu.es.take (k + 1)).filter (offE x.id) = (gu.es.take k).filter (offE x.id) from by rw [HFT'.out]; simp [offE, h2])
       clear h1 h2
       refine nameGoal fun auxP auxH _ => ?_
       letI auxN : Nonempty auxP := ⟨by
        refine auxH ?_
        go_wp2_with fail
        have gU1 := gcell gU1
        have e_1 := gcell e_1
        have e_2 := gcell e_2
        have o0 := gcell o0
        go_quiet_grown (fail)
        have kq := gro_of_grow wr nq osq
        dsimp only at kq ⊢
        clear gU1 e_1 e_2 o0 gU0 gU2 gUl ol hle e_0 e_3 e_4 e_5 o1 o2 o3 o4 o5 o6
        generalize Go.Sort.grow (wr.drewN nq) osq = w3 at kq ⊢
        have HG5 := Lib.hid (HGO.out.step kq)
        clear kq
        go_wp2_with fail
        go_roundw
        case rel => exact ⟨k + 1, by omega, by go_num, by rw [HN.out]; exact HG5⟩
        case measure => simp [intOf]; omega⟩
       exact (show Nonempty auxP from inferInstanceAs (Nonempty auxP)).elim id
      ·have h2' : (yd != x.id) = true := by simpa using h2
       have HN := Lib.hid (show (gu.es.take (k + 1)).filter (offE x.id) = (gu.es.take k).filter (offE x.id) ++ [⟨yi, ys, yd, yr, yw, yc⟩] from by rw [HFT'.out]; simp [offE, h1, h2])
       clear h1 h2
       refine nameGoal fun auxP auxH _ => ?_
       letI auxN : Nonempty auxP := ⟨by
        refine auxH ?_
        go_wp2_with fail
        have HCE6 := Lib.hid (fun (W : World) (hW : Gro wr W) => (⟨hW.cell gU1, hW.cell e_0, hW.cell e_1, hW.cell e_2, hW.cell e_3, hW.cell e_4, hW.cell e_5⟩ : W.cell? ⟨NU, 1, none⟩ = some (Value.slice (some ⟨eb, eo, none⟩) gu.es.length uc2) ∧ W.cell? ⟨eb, eo + k * 6, none⟩ = some (.int .i64 yi) ∧ W.cell? ⟨eb, eo + k * 6 + 1, none⟩ = some (.int .i64 ys) ∧ W.cell? ⟨eb, eo + k * 6 + 2, none⟩ = some (.int .i64 yd) ∧ W.cell? ⟨eb, eo + k * 6 + 3, none⟩ = some (.bool yr) ∧ W.cell? ⟨eb, eo + k * 6 + 4, none⟩ = some (.int .i64 yw) ∧ W.cell? ⟨eb, eo + k * 6 + 5, none⟩ = some (.int .i64 yc)))
        have gU1 := gcell gU1
        have e_1 := gcell e_1
        have e_2 := gcell e_2
        have o0 := gcell o0
        go_quiet_grown (fail)
        have kq := gro_of_grow wr nq osq
        dsimp only at kq ⊢
        clear gU1 e_1 e_2 o0 gU0 gU2 gUl ol hle e_0 e_3 e_4 e_5 o1 o2 o3 o4 o5 o6
        generalize Go.Sort.grow (wr.drewN nq) osq = w3 at kq ⊢
        obtain ⟨gU1, e_0, e_1, e_2, e_3, e_4, e_5⟩ := HCE6.out _ kq
        have hle := World.block_lt_of_cell? _ _ e_0
        have hgl := World.block_lt_of_cell? _ _ gU1
        have HG5 := Lib.hid (HGO.out.step kq)
        have hbs : wa.heap.size ≤ w3.heap.size := HG5.out.gro.size
        clear kq HCE6
        go_wp2_with (at_builtin; refine wpList_app1 (α := Edg) ⟨yi, ys, yd, yr, yw, yc⟩ rfl _ _ rfl rfl HG5.out.own rfl (by omega) hbs ?_; intro v' w' g1 g2 g3; have H1 := Lib.hid (HG5.out.app g1 g2); clear g1 g2 g3)
        go_roundw
        case rel => exact ⟨k + 1, by omega, by go_num, by rw [HN.out]; exact H1⟩
        case measure => simp [intOf]; omega⟩
       exact (show Nonempty auxP from inferInstanceAs (Nonempty auxP)).elim id
    ·skip
     refine nameGoal fun auxP auxH _ => ?_
     letI auxN : Nonempty auxP := ⟨by
      refine auxH ?_
      obtain rfl : k = gu.es.length := by omega
      rw [List.take_length] at HGO
      obtain ⟨a8, c8, h8⟩ := HGO.out.own.form
      have HLW := Lib.hid (HGO.out.own.lv (Nat.le_trans (List.length_filter_le _ _) (by omega)))
      have HKW := Lib.hid HGO.out.gro
      generalize hL8 : gu.es.filter (offE x.id) = L8 at HLW h8 HGO
      have HL8 := Lib.hid hL8
      subst h8
      clear HGO hL8
      have HB := Lib.hid (HB.out.step HKW.out)
      have HO := Lib.hid (HKW.out.blk HO.out)
      have HC := Lib.hid (HC.out.step HKW.out)
      have HU := Lib.hid (HU.out.step HKW.out)
      have HY := Lib.hid (HY.out.step HKW.out)
      clear HKW
      obtain ⟨hes, hvs, hpl, hol⟩ : gy.es = L8 ∧ gy.vs.length + 1 = gu.vs.length ∧ fidx (gy.vs.map Vtx.id) x.id = -1 ∧ e.os.length = b.os.length := by
       rw [← HEy.out, ← HEu.out, ← HL8.out, ← HEu.out, HCE.out, HXX.out]
       exact ⟨close_es HB.out.vb HKK.out HSTT.out, close_vs HB.out.vb HKK.out (by rw [← HXX.out]; exact HXS.out) HSTT.out, close_place HB.out.vb HKK.out HSTT.out, by simp [close_at]⟩
      have HES := Lib.hid hes
      have HPL := Lib.hid hpl
      have hyl := HVY.out.lens
      have hw1 : IntKind.i64.wrap ((gu.vs.length : Int) - 1) = gy.vs.length := by rw [IntKind.wrap_i64]; omega
      have hwl : ((e.os.length : Int) != (b.os.length : Int)) = false := by rw [hol]; simp
      have HOL := Lib.hid hol
      clear hes hvs hpl hol gU0 gU2
      obtain ⟨gY0, gY1, gY2, gYl⟩ := cells3 HY.out.blk
      obtain ⟨_, _, hl2, _⟩ := HY.out.val.lists
      have HLY := Lib.hid hl2
      clear hl2
      go_wp2_with fail
      refine (edges38 ⟨_, _, rfl, HLY.out⟩ HLW.out).mono ?_
      rintro _ V7 ⟨rfl, kx⟩
      rw [decide_eq_true HES.out]
      have HB := Lib.hid (HB.out.step kx)
      have HO := Lib.hid (kx.blk HO.out)
      have HC := Lib.hid (HC.out.step kx)
      have HU := Lib.hid (HU.out.step kx)
      have HY := Lib.hid (HY.out.step kx)
      clear kx gY0 gY1 gY2 gYl HLW HLY gU1 gUl
      obtain ⟨gU0, gU1, gU2, gUl⟩ := cells3 HU.out.blk
      obtain ⟨gY0, gY1, gY2, gYl⟩ := cells3 HY.out.blk
      obtain ⟨o0, o1, o2, o3, o4, o5, o6, ol⟩ := cells7 HO.out
      go_wp2_with fail
      refine (place39 HY.out.val (gfew5 HVY.out) x.id).mono ?_
      rintro _ wb ⟨rfl, kx⟩
      rw [HPL.out]
      have HB := Lib.hid (HB.out.step kx)
      have HO := Lib.hid (kx.blk HO.out)
      have HC := Lib.hid (HC.out.step kx)
      have HU := Lib.hid (HU.out.step kx)
      have HY := Lib.hid (HY.out.step kx)
      clear kx gU0 gU1 gU2 gUl gY0 gY1 gY2 gYl o0 o1 o2 o3 o4 o5 o6 ol
      obtain ⟨x0, x1, x2, x3, xl⟩ := cells4 HB.out.xb
      obtain ⟨bC0, bC1, bC2, bC3, bCl⟩ := cells4 HC.out.blk
      go_wp2_with fail
      clear x0 x1 x2 x3 xl bC0 bC1 bC2 bC3 bCl hw1 hwl
      have K0 := Lib.hid (Gro.refl wb)
      go_loopw [27] (fun t wr => ∃ k : Nat, k ≤ b.os.length ∧ t = .int .i64 k ∧ Hid (Gro wb wr)) (fun t _ => b.os.length - (intOf t).toNat)
      case atStart => exact ⟨0, Nat.zero_le _, by go_num, K0⟩
      case round =>
       clear K0
       obtain ⟨k, hk, rfl, KW⟩ := hrel
       have hlens := HB.out.vb.lens
       obtain ⟨x0, x1, x2, x3, xl⟩ := cells4 (KW.out.blk HB.out.xb)
       clear x0 x1 x3
       by_cases hlt : k < b.os.length
       ·obtain ⟨bC0, bC1, bC2, bC3, bCl⟩ := cells4 (KW.out.blk HC.out.blk)
        obtain ⟨o0, o1, o2, o3, o4, o5, o6, ol⟩ := cells7 (KW.out.blk HO.out)
        clear bC0 bC1 bC3 o1 o2 o3 o4 o5 o6
        obtain ⟨_, _, hl2, _⟩ := HB.out.lists
        obtain ⟨_, _, e1, _, hoc⟩ := hl2.base hlt
        injection e1 with e1
        injection e1 with e1 e2
        subst e1 e2
        obtain ⟨p0, p1, p2, p3, p4, p5, p6⟩ := ocells hoc hlt
        have hol := HOL.out
        obtain ⟨_, _, hl3, _⟩ := HC.out.val.lists
        obtain ⟨qb, qo, rfl, hqb, hqc⟩ := hl3.base (i := k) (by omega)
        obtain ⟨q0, q1, q2, q3, q4, q5, q6⟩ := ocells hqc (i := k) (by omega)
        have hel : b.os[k].id ≠ x.id → ∃ h : k < e.os.length, e.os[k] = b.os[k] := by
         intro hne
         have := HCE.out
         rw [this]
         exact close_else hlt hne
        generalize b.os[k] = y at p0 p1 p2 p3 p4 p5 p6 hel
        obtain ⟨y0, y1, y2, y3, y4, y5, y6⟩ := y
        simp only at p0 p1 p2 p3 p4 p5 p6 hel
        have p0 := KW.out.cell p0
        have hlp := World.block_lt_of_cell? _ _ p0
        by_cases hid : y0 = x.id
        ·have h1' : (y0 != x.id) = false := by simpa using hid
         clear hel hid p1 p2 p3 p4 p5 p6 q0 q1 q2 q3 q4 q5 q6 hl2 hl3 hoc hqc hqb hol
         go_wp2_with fail
         have x2 := gcell x2
         have p0 := gcell p0
         have o0 := gcell o0
         go_quiet_grown (fail)
         have kq := gro_of_grow wr nq osq
         dsimp only at kq ⊢
         clear x2 p0 o0 xl bC2 bCl ol hlp
         generalize Go.Sort.grow (wr.drewN nq) osq = w3 at kq ⊢
         have KW := Lib.hid (KW.out.trans kq)
         clear kq
         go_wp2_with fail
         go_roundw
         case rel => exact ⟨k + 1, by omega, by go_num, KW⟩
         case measure => simp [intOf]; omega
        ·have h1' : (y0 != x.id) = true := by simpa using hid
         obtain ⟨_, he⟩ := hel hid
         rw [he] at q0 q1 q2 q3 q4 q5 q6
         simp only at q0 q1 q2 q3 q4 q5 q6
         have p1 := KW.out.cell p1
         have p2 := KW.out.cell p2
         have p3 := KW.out.cell p3
         have p4 := KW.out.cell p4
         have p5 := KW.out.cell p5
         have p6 := KW.out.cell p6
         have q0 := KW.out.cell q0
         have q1 := KW.out.cell q1
         have q2 := KW.out.cell q2
         have q3 := KW.out.cell q3
         have q4 := KW.out.cell q4
         have q5 := KW.out.cell q5
         have q6 := KW.out.cell q6
         have hlq := World.block_lt_of_cell? _ _ q0
         clear hel he hid hl2 hl3 hoc hqc hqb hol
         go_wp2_with fail
         have x2 := gcell x2
         have bC2 := gcell bC2
         have o0 := gcell o0
         have p0 := gcell p0
         have p1 := gcell p1
         have p2 := gcell p2
         have p3 := gcell p3
         have p4 := gcell p4
         have p5 := gcell p5
         have p6 := gcell p6
         have q0 := gcell q0
         have q1 := gcell q1
         have q2 := gcell q2
         have q3 := gcell q3
         have q4 := gcell q4
         have q5 := gcell q5
         have q6 := gcell q6
         go_quiet_grown (fail)
         have kq := gro_of_grow wr nq osq
         dsimp only at kq ⊢
         clear x2 bC2 o0 p0 p1 p2 p3 p4 p5 p6 q0 q1 q2 q3 q4 q5 q6 xl bCl ol hlp hlq
         generalize Go.Sort.grow (wr.drewN nq) osq = w3 at kq ⊢
         have KW := Lib.hid (KW.out.trans kq)
         clear kq
         go_wp2_with fail
         go_roundw
         case rel => exact ⟨k + 1, by omega, by go_num, KW⟩
         case measure => simp [intOf]; omega
       ·go_wp2_with fail
        go_ret
        exact (show Truth w _ _ from ⟨rfl, HB.out.gro.trans KW.out⟩)⟩
     exact (show Nonempty auxP from inferInstanceAs (Nonempty auxP)).elim id
end Go.Proofs.YthfagcdjbmhhcaaGreat
