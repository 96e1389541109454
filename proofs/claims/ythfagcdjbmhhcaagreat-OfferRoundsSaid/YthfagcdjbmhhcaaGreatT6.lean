/- OfferRounds. -/
import Derived.Test.YthfagcdjbmhhcaaGreatT1
import Derived.Test.YthfagcdjbmhhcaaGreatPRo
import Derived.Test.YthfagcdjbmhhcaaGreatL4
import Derived.Deep.LoopGhost
set_option linter.unusedVariables false
set_option linter.unusedSimpArgs false
namespace Go.Proofs.YthfagcdjbmhhcaaGreat
open Go.RowKit
attribute [local irreducible] wpQuiet
theorem Stand.at_ {g : Gr} {b : Bk} {p : Ofr} (h : Stand g b p) : ∃ (k : Nat) (hk : k < b.os.length), fidx (b.os.map Ofr.id) p.id = k ∧ b.os[k] = p := by
  obtain ⟨k, hk, e⟩ := List.getElem_of_mem h.mem
  refine ⟨k, hk, fidx_found (by simpa using hk) (by simp [e]) (fun j hj hjk he => ?_), e⟩
  have := List.pairwise_iff_getElem.1 h.vb.ao j k hj (by simpa using hk) hjk
  simp only [List.getElem_map, e] at this he
  omega
set_option maxHeartbeats 40000000 in
set_option maxRecDepth 100000 in
theorem rounds6 {w : World} (n : Int) (hn : I64 n) {lv : Value} {l : List A5} (hl : LV w lv l) (hlo : ∀ x ∈ l, x.ok) (m : Int) (hm : I64 m) {xv : Value} {xs : List A6} (hx : LV w xv xs) (hxo : ∀ x ∈ xs, x.ok) {y0 : Int} (ry0 : I64 y0) {y1 : Int} (ry1 : I64 y1) {y2 : Int} (ry2 : I64 y2) {y3 : Int} (ry3 : I64 y3) {y4 : Int} (ry4 : I64 y4) {y5 : Int} (ry5 : I64 y5) {z0 : Int} (rz0 : I64 z0) {z1 : Int} (rz1 : I64 z1) {z2 : Int} (rz2 : I64 z2) {z3 : Int} (rz3 : I64 z3) {z4 : Int} (rz4 : I64 z4) {z5 : Int} (rz5 : I64 z5) : Calls Tryz.prog 6 #[.int .i64 n, lv, .int .i64 m, xv, .agg #[.int .i64 y0, .int .i64 y1, .int .i64 y2, .int .i64 y3, .int .i64 y4, .int .i64 y5], .agg #[.int .i64 z0, .int .i64 z1, .int .i64 z2, .int .i64 z3, .int .i64 z4, .int .i64 z5]] w (Truth w) := by
  have hmix := mixed
  have HN := Lib.hid hn
  have HLO := Lib.hid hlo
  have HM := Lib.hid hm
  have HXO := Lib.hid hxo
  have HL : Hid (∀ W, Gro w W → LV W lv l) := Lib.hid (fun W hW => hl.gro hW)
  have HX : Hid (∀ W, Gro w W → LV W xv xs) := Lib.hid (fun W hW => hx.gro hW)
  obtain ⟨la, lc, rfl, _⟩ := hl
  obtain ⟨xa, xc, rfl, _⟩ := hx
  clear hn hlo hm hxo
  go_enter Tryz.func6, Tryz.ntmps6
  go_wp2_with fail
  obtain ⟨W1, hW1⟩ : ∃ W1, W1 = (w.alloc (Obj.cells #[.int .i64 y0, .int .i64 y1, .int .i64 y2, .int .i64 y3, .int .i64 y4, .int .i64 y5] 63)).alloc (Obj.cells #[.int .i64 z0, .int .i64 z1, .int .i64 z2, .int .i64 z3, .int .i64 z4, .int .i64 z5] 63) := ⟨_, rfl⟩
  have kW : Gro w W1 := by rw [hW1]; exact ((Gro.refl _).alloc _).alloc _
  have bY : W1.heap[w.heap.size]? = some (.cells #[.int .i64 y0, .int .i64 y1, .int .i64 y2, .int .i64 y3, .int .i64 y4, .int .i64 y5] 63 (0, 0)) := by rw [hW1]; exact blk_alloc (blk_new _ _) _
  have bZ : W1.heap[w.heap.size + 1]? = some (.cells #[.int .i64 z0, .int .i64 z1, .int .i64 z2, .int .i64 z3, .int .i64 z4, .int .i64 z5] 63 (0, 0)) := by rw [hW1]; exact (by simpa using blk_new (w.alloc (Obj.cells #[.int .i64 y0, .int .i64 y1, .int .i64 y2, .int .i64 y3, .int .i64 y4, .int .i64 y5] 63)) (Obj.cells #[.int .i64 z0, .int .i64 z1, .int .i64 z2, .int .i64 z3, .int .i64 z4, .int .i64 z5] 63))
  rw [← hW1]
  have HKW := Lib.hid kW
  have HL : Hid (∀ W, Gro W1 W → LV W (.slice la l.length lc) l) := Lib.hid (fun W hW => HL.out _ (kW.trans hW))
  have HX : Hid (∀ W, Gro W1 W → LV W (.slice xa xs.length xc) xs) := Lib.hid (fun W hW => HX.out _ (kW.trans hW))
  have HYB : Hid (∀ W, Gro W1 W → W.heap[w.heap.size]? = some (.cells #[.int .i64 y0, .int .i64 y1, .int .i64 y2, .int .i64 y3, .int .i64 y4, .int .i64 y5] 63 (0, 0))) := Lib.hid (fun W hW => hW.blk bY)
  have HZB : Hid (∀ W, Gro W1 W → W.heap[w.heap.size + 1]? = some (.cells #[.int .i64 z0, .int .i64 z1, .int .i64 z2, .int .i64 z3, .int .i64 z4, .int .i64 z5] 63 (0, 0))) := Lib.hid (fun W hW => hW.blk bZ)
  clear hW1 kW bY bZ
  generalize w.heap.size + 1 = BZ at HZB ⊢
  generalize w.heap.size = BY at HYB ⊢
  refine ((sane9 W1).mono (fun e w' h => (show e = .returned (.bool true) ∧ Gro W1 w' from h))).mono ?_
  rintro _ w1 ⟨rfl, k1⟩
  go_wp2_with fail
  refine (roads10 n HN.out (HL.out _ k1) HLO.out).mono ?_
  rintro _ w2 ⟨vg, g, rfl, hG, hVG, hs0, hpos, k2⟩
  obtain ⟨g1, gc1, g2, gc2, g3, gc3, rfl⟩ := hG.open
  have K2 := Lib.hid (k1.trans k2)
  have HG := Lib.hid hG
  have HVG := Lib.hid hVG
  have HS0 := Lib.hid hs0
  have HPOS := Lib.hid hpos
  clear k1 k2 hG hVG hs0 hpos
  go_wp2_with fail
  obtain ⟨W3, hW3⟩ : ∃ W3, W3 = w2.alloc (Obj.cells #[.slice g1 g.vs.length gc1, .slice g2 g.es.length gc2, .slice g3 g.ds.length gc3] 38) := ⟨_, rfl⟩
  have k3 : Gro w2 W3 := by rw [hW3]; exact (Gro.refl _).alloc _
  have b3 : W3.heap[w2.heap.size]? = some (.cells #[.slice g1 g.vs.length gc1, .slice g2 g.es.length gc2, .slice g3 g.ds.length gc3] 38 (0, 0)) := by rw [hW3]; exact blk_new _ _
  rw [← hW3]
  have K3 := Lib.hid k3
  have B3 := Lib.hid b3
  clear hW3 k3 b3
  refine (made11 (HG.out.gro K3.out) HVG.out HS0.out HPOS.out m HM.out (HX.out _ (K2.out.trans K3.out)) HXO.out).mono ?_
  rintro _ w4 ⟨v, b, rfl, hv, hb, k4⟩
  obtain ⟨a1, c1, a2, c2, a3, c3, rfl⟩ := hb.open
  have hLB : Hid (∀ W X, W = w4.alloc (Obj.cells #[.int .i64 b.round, .slice a1 b.ps.length c1, .slice a2 b.os.length c2, .slice a3 b.ws.length c3] 28) → X = w4.heap.size → LB W1 w2 W g #[.slice g1 g.vs.length gc1, .slice g2 g.es.length gc2, .slice g3 g.ds.length gc3] w2.heap.size X b a1 b.ps.length c1 a2 b.os.length c2 a3 b.ws.length c3) := Lib.hid (fun W X e1 e2 => by
    have kW : Gro w4 W := by rw [e1]; exact (Gro.refl _).alloc _
    have h3 := blk_lt (k4.blk B3.out)
    exact ⟨kW.blk (k4.blk B3.out), by rw [e1, e2]; exact blk_new _ _, hb.gro kW, hv, (((K3.out.trans k4).trans kW).kept _), ((K2.out.trans K3.out).trans k4).trans kW, K2.out.size, Nat.le_refl _, by omega⟩)
  have K4 := Lib.hid (K3.out.trans k4)
  have R4 := Lib.hid (k4.blk B3.out)
  clear hv hb k4
  go_wp2_with fail
  obtain ⟨W5, hW5⟩ : ∃ W5, W5 = w4.alloc (Obj.cells #[.int .i64 b.round, .slice a1 b.ps.length c1, .slice a2 b.os.length c2, .slice a3 b.ws.length c3] 28) := ⟨_, rfl⟩
  have HB := Lib.hid (hLB.out W5 _ hW5 rfl)
  rw [← hW5]
  clear hW5 hLB
  generalize w4.heap.size = X at HB ⊢
  have P0 := Lib.hid (fun W => pick36 (w := W) y0 19 ry0 (by omega))
  have P1 := Lib.hid (fun W => pick36 (w := W) y1 3 ry1 (by omega))
  have P2 := Lib.hid (fun W => pick36 (w := W) y2 3 ry2 (by omega))
  have P3 := Lib.hid (fun W => pick36 (w := W) y3 30 ry3 (by omega))
  have P4 := Lib.hid (fun W => pick36 (w := W) y4 4 ry4 (by omega))
  have q0 := pk_range (c := y0) (n := 19) (by omega)
  have q1 := pk_range (c := y1) (n := 3) (by omega)
  have q2 := pk_range (c := y2) (n := 3) (by omega)
  have q4 := pk_range (c := y4) (n := 4) (by omega)
  generalize pk y0 19 = k0 at P0 q0
  generalize pk y1 3 = k1 at P1 q1
  generalize pk y2 3 = k2 at P2 q2
  generalize pk y3 30 = k3 at P3
  generalize pk y4 4 = k4 at P4 q4
  have hw0 : IntKind.i64.wrap (5 + k0) = 5 + k0 := by rw [IntKind.wrap_i64]; omega
  have hw2 : IntKind.i64.wrap (1 + k2) = 1 + k2 := by rw [IntKind.wrap_i64]; omega
  have hrd := inB_iff.1 HB.out.vb.rd
  have hw4 : IntKind.i64.wrap (b.round + k4) = b.round + k4 := by rw [IntKind.wrap_i64]; omega
  obtain ⟨un, hun⟩ : ∃ un : Int, (if b.round + k4 < 30 then b.round + k4 else (30 : Int)) = un := ⟨_, rfl⟩
  have HUN := Lib.hid hun
  obtain ⟨mm, rfl⟩ : ∃ mm : Nat, k1 = mm := ⟨k1.toNat, by omega⟩
  obtain ⟨pt, hpt⟩ : ∃ pt : Int, ∀ (W : World) (A : Nat), W.heap[A]? = some (.cells #[.int .i64 0, .int .i64 2, .int .i64 5] 3 (0, 0)) → W.cell? ⟨A, mm, none⟩ = some (.int .i64 pt) := by
    have : mm = 0 ∨ mm = 1 ∨ mm = 2 := by omega
    rcases this with rfl | rfl | rfl
    · exact ⟨0, fun W A h => blk_cell h 0⟩
    · exact ⟨2, fun W A h => blk_cell h 1⟩
    · exact ⟨5, fun W A h => blk_cell h 2⟩
  have HPT := Lib.hid hpt
  clear hun hpt hrd q0 q2 q4
  go_upto_region 6 with fail
  go_cut [16] (fun t wx => ∃ (N : Nat) (o : Ofr), t = .pointer (some ⟨N, 0, none⟩) ∧ o.state = 1 ∧ Gro W5 wx ∧ wx.heap[N]? = some (.cells #[.int .i64 o.id, .int .i64 o.party, .int .i64 o.side, .int .i64 o.place, .int .i64 o.price, .int .i64 o.until_, .int .i64 o.state] 30 (0, 0)))
  case first =>
    refine nameGoal fun auxP auxH _ => ?_
    letI auxN : Nonempty auxP := ⟨by
      refine auxH ?_
      obtain ⟨v0, v1, v2, v3, v4, v5, hlB⟩ := cells6 (HYB.out _ HB.out.gro)
      obtain ⟨x0, x1, x2, x3, hlX⟩ := cells4 HB.out.xb
      refine wp_region_held_drew (S := (fun w' => w'.cell? ⟨BY, 0, none⟩ = some (Value.int IntKind.i64 y0) ∧ w'.cell? ⟨BY, 1, none⟩ = some (Value.int IntKind.i64 y1) ∧ w'.cell? ⟨BY, 2, none⟩ = some (Value.int IntKind.i64 y2) ∧ w'.cell? ⟨BY, 3, none⟩ = some (Value.int IntKind.i64 y3) ∧ w'.cell? ⟨BY, 4, none⟩ = some (Value.int IntKind.i64 y4) ∧ w'.cell? ⟨X, 0, none⟩ = some (Value.int IntKind.i64 b.round))) (by kernel_rfl) ⟨(Gro.refl W5).drew.cell v0, (Gro.refl W5).drew.cell v1, (Gro.refl W5).drew.cell v2, (Gro.refl W5).drew.cell v3, (Gro.refl W5).drew.cell v4, (Gro.refl W5).drew.cell x0⟩ (fun hHeld => ?_)
      have KD := Lib.hid (Gro.refl W5).drew
      clear v0 v1 v2 v3 v4 v5 x0 x1 x2 x3 hlB hlX
      generalize W5.drew = wD at hHeld KD ⊢
      have HS0 := Lib.hid hHeld
      refine wpAnyH_take (i := 0) (v := ?_) rfl (by kernel_rfl) (by kernel_rfl) (by kernel_rfl) (fun _ _ _ h => h) (Or.inl ⟨rfl, ?_⟩) hHeld ?_
      rotate_left
      ·(intro w hSw; obtain ⟨v0, v1, v2, v3, v4, x0⟩ := hSw; have hlB := World.block_lt_of_cell? _ _ v0; have hlX := World.block_lt_of_cell? _ _ x0; go_simp; first | done | with_reducible rfl | (simp only [HUN.out]; done) | trace_state)
      simp only [Act.put, lQa, lQb, lQc, lQd, lQe, lQf]
      refine wpAnyH_take (i := 1) (v := ?_) rfl (by kernel_rfl) (by kernel_rfl) (by kernel_rfl) (fun _ _ _ h => h) (Or.inl ⟨rfl, ?_⟩) hHeld ?_
      rotate_left
      ·(intro w hSw; obtain ⟨v0, v1, v2, v3, v4, x0⟩ := hSw; have hlB := World.block_lt_of_cell? _ _ v0; have hlX := World.block_lt_of_cell? _ _ x0; go_simp; first | done | with_reducible rfl | (simp only [HUN.out]; done) | trace_state)
      simp only [Act.put, lQa, lQb, lQc, lQd, lQe, lQf]
      refine wpAnyH_takeQ (i := 2) (f := 36) (args := #[.int .i64 y0, .int .i64 19]) rfl (by kernel_rfl) (by kernel_rfl) (by kernel_rfl) (fun _ _ _ h => h) rfl (fun _ => by go_simp) (fun W _ => P0.out W) hHeld ?_
      simp only [Act.put, lQa, lQb, lQc, lQd, lQe, lQf]
      refine wpAnyH_take (i := 3) (v := ?_) rfl (by kernel_rfl) (by kernel_rfl) (by kernel_rfl) (fun _ _ _ h => h) (Or.inl ⟨rfl, ?_⟩) hHeld ?_
      rotate_left
      ·(intro w hSw; obtain ⟨v0, v1, v2, v3, v4, x0⟩ := hSw; have hlB := World.block_lt_of_cell? _ _ v0; have hlX := World.block_lt_of_cell? _ _ x0; go_simp; first | done | with_reducible rfl | (simp only [HUN.out]; done) | trace_state)
      simp only [Act.put, lQa, lQb, lQc, lQd, lQe, lQf]
      refine wpAnyH_take (i := 5) (v := ?_) rfl (by kernel_rfl) (by kernel_rfl) (by kernel_rfl) (fun _ _ _ h => h) (Or.inl ⟨rfl, ?_⟩) hHeld ?_
      rotate_left
      ·(intro w hSw; obtain ⟨v0, v1, v2, v3, v4, x0⟩ := hSw; have hlB := World.block_lt_of_cell? _ _ v0; have hlX := World.block_lt_of_cell? _ _ x0; go_simp; first | done | with_reducible rfl | (simp only [HUN.out]; done) | trace_state)
      simp only [Act.put, lQa, lQb, lQc, lQd, lQe, lQf]
      refine wpAnyH_take (i := 6) (v := ?_) rfl (by kernel_rfl) (by kernel_rfl) (by kernel_rfl) (fun _ _ _ h => h) (Or.inl ⟨rfl, ?_⟩) hHeld ?_
      rotate_left
      ·(intro w hSw; obtain ⟨v0, v1, v2, v3, v4, x0⟩ := hSw; have hlB := World.block_lt_of_cell? _ _ v0; have hlX := World.block_lt_of_cell? _ _ x0; go_simp; first | done | with_reducible rfl | (simp only [HUN.out]; done) | trace_state)
      simp only [Act.put, lQa, lQb, lQc, lQd, lQe, lQf]
      refine wpAnyH_takeQ (i := 7) (f := 36) (args := #[.int .i64 y1, .int .i64 3]) rfl (by kernel_rfl) (by kernel_rfl) (by kernel_rfl) (fun _ _ _ h => h) rfl (fun _ => by go_simp) (fun W _ => P1.out W) hHeld ?_
      simp only [Act.put, lQa, lQb, lQc, lQd, lQe, lQf]
      refine wpAnyH_take (i := 10) (v := ?_) rfl (by kernel_rfl) (by kernel_rfl) (by kernel_rfl) (fun _ _ _ h => h) (Or.inl ⟨rfl, ?_⟩) hHeld ?_
      rotate_left
      ·(intro w hSw; obtain ⟨v0, v1, v2, v3, v4, x0⟩ := hSw; have hlB := World.block_lt_of_cell? _ _ v0; have hlX := World.block_lt_of_cell? _ _ x0; go_simp; first | done | with_reducible rfl | (simp only [HUN.out]; done) | trace_state)
      simp only [Act.put, lQa, lQb, lQc, lQd, lQe, lQf]
      refine wpAnyH_take (i := 11) (v := ?_) rfl (by kernel_rfl) (by kernel_rfl) (by kernel_rfl) (fun _ _ _ h => h) (Or.inl ⟨rfl, ?_⟩) hHeld ?_
      rotate_left
      ·(intro w hSw; obtain ⟨v0, v1, v2, v3, v4, x0⟩ := hSw; have hlB := World.block_lt_of_cell? _ _ v0; have hlX := World.block_lt_of_cell? _ _ x0; go_simp; first | done | with_reducible rfl | (simp only [HUN.out]; done) | trace_state)
      simp only [Act.put, lQa, lQb, lQc, lQd, lQe, lQf]
      refine wpAnyH_takeQ (i := 12) (f := 36) (args := #[.int .i64 y2, .int .i64 3]) rfl (by kernel_rfl) (by kernel_rfl) (by kernel_rfl) (fun _ _ _ h => h) rfl (fun _ => by go_simp) (fun W _ => P2.out W) hHeld ?_
      simp only [Act.put, lQa, lQb, lQc, lQd, lQe, lQf]
      refine wpAnyH_take (i := 13) (v := ?_) rfl (by kernel_rfl) (by kernel_rfl) (by kernel_rfl) (fun _ _ _ h => h) (Or.inl ⟨rfl, ?_⟩) hHeld ?_
      rotate_left
      ·(intro w hSw; obtain ⟨v0, v1, v2, v3, v4, x0⟩ := hSw; have hlB := World.block_lt_of_cell? _ _ v0; have hlX := World.block_lt_of_cell? _ _ x0; go_simp; first | done | with_reducible rfl | (simp only [HUN.out]; done) | trace_state)
      simp only [Act.put, lQa, lQb, lQc, lQd, lQe, lQf]
      refine wpAnyH_take (i := 14) (v := ?_) rfl (by kernel_rfl) (by kernel_rfl) (by kernel_rfl) (fun _ _ _ h => h) (Or.inl ⟨rfl, ?_⟩) hHeld ?_
      rotate_left
      ·(intro w hSw; obtain ⟨v0, v1, v2, v3, v4, x0⟩ := hSw; have hlB := World.block_lt_of_cell? _ _ v0; have hlX := World.block_lt_of_cell? _ _ x0; go_simp; first | done | with_reducible rfl | (simp only [HUN.out]; done) | trace_state)
      simp only [Act.put, lQa, lQb, lQc, lQd, lQe, lQf]
      refine wpAnyH_take (i := 15) (v := ?_) rfl (by kernel_rfl) (by kernel_rfl) (by kernel_rfl) (fun _ _ _ h => h) (Or.inl ⟨rfl, ?_⟩) hHeld ?_
      rotate_left
      ·(intro w hSw; obtain ⟨v0, v1, v2, v3, v4, x0⟩ := hSw; have hlB := World.block_lt_of_cell? _ _ v0; have hlX := World.block_lt_of_cell? _ _ x0; go_simp; first | done | with_reducible rfl | (simp only [HUN.out]; done) | trace_state)
      simp only [Act.put, lQa, lQb, lQc, lQd, lQe, lQf]
      refine wpAnyH_takeQ (i := 16) (f := 36) (args := #[.int .i64 y3, .int .i64 30]) rfl (by kernel_rfl) (by kernel_rfl) (by kernel_rfl) (fun _ _ _ h => h) rfl (fun _ => by go_simp) (fun W _ => P3.out W) hHeld ?_
      simp only [Act.put, lQa, lQb, lQc, lQd, lQe, lQf]
      refine wpAnyH_take (i := 17) (v := ?_) rfl (by kernel_rfl) (by kernel_rfl) (by kernel_rfl) (fun _ _ _ h => h) (Or.inl ⟨rfl, ?_⟩) hHeld ?_
      rotate_left
      ·(intro w hSw; obtain ⟨v0, v1, v2, v3, v4, x0⟩ := hSw; have hlB := World.block_lt_of_cell? _ _ v0; have hlX := World.block_lt_of_cell? _ _ x0; go_simp; first | done | with_reducible rfl | (simp only [HUN.out]; done) | trace_state)
      simp only [Act.put, lQa, lQb, lQc, lQd, lQe, lQf]
      refine wpAnyH_take (i := 18) (v := ?_) rfl (by kernel_rfl) (by kernel_rfl) (by kernel_rfl) (fun _ _ _ h => h) (Or.inl ⟨rfl, ?_⟩) hHeld ?_
      rotate_left
      ·(intro w hSw; obtain ⟨v0, v1, v2, v3, v4, x0⟩ := hSw; have hlB := World.block_lt_of_cell? _ _ v0; have hlX := World.block_lt_of_cell? _ _ x0; go_simp; first | done | with_reducible rfl | (simp only [HUN.out]; done) | trace_state)
      simp only [Act.put, lQa, lQb, lQc, lQd, lQe, lQf]
      refine wpAnyH_take (i := 19) (v := ?_) rfl (by kernel_rfl) (by kernel_rfl) (by kernel_rfl) (fun _ _ _ h => h) (Or.inl ⟨rfl, ?_⟩) hHeld ?_
      rotate_left
      ·(intro w hSw; obtain ⟨v0, v1, v2, v3, v4, x0⟩ := hSw; have hlB := World.block_lt_of_cell? _ _ v0; have hlX := World.block_lt_of_cell? _ _ x0; go_simp; first | done | with_reducible rfl | (simp only [HUN.out]; done) | trace_state)
      simp only [Act.put, lQa, lQb, lQc, lQd, lQe, lQf]
      refine wpAnyH_take (i := 20) (v := ?_) rfl (by kernel_rfl) (by kernel_rfl) (by kernel_rfl) (fun _ _ _ h => h) (Or.inl ⟨rfl, ?_⟩) hHeld ?_
      rotate_left
      ·(intro w hSw; obtain ⟨v0, v1, v2, v3, v4, x0⟩ := hSw; have hlB := World.block_lt_of_cell? _ _ v0; have hlX := World.block_lt_of_cell? _ _ x0; go_simp; first | done | with_reducible rfl | (simp only [HUN.out]; done) | trace_state)
      simp only [Act.put, lQa, lQb, lQc, lQd, lQe, lQf]
      refine wpAnyH_takeQ (i := 21) (f := 36) (args := #[.int .i64 y4, .int .i64 4]) rfl (by kernel_rfl) (by kernel_rfl) (by kernel_rfl) (fun _ _ _ h => h) rfl (fun _ => by go_simp) (fun W _ => P4.out W) hHeld ?_
      simp only [Act.put, lQa, lQb, lQc, lQd, lQe, lQf]
      refine wpAnyH_take (i := 22) (v := ?_) rfl (by kernel_rfl) (by kernel_rfl) (by kernel_rfl) (fun _ _ _ h => h) (Or.inl ⟨rfl, ?_⟩) hHeld ?_
      rotate_left
      ·(intro w hSw; obtain ⟨v0, v1, v2, v3, v4, x0⟩ := hSw; have hlB := World.block_lt_of_cell? _ _ v0; have hlX := World.block_lt_of_cell? _ _ x0; go_simp; first | done | with_reducible rfl | (simp only [HUN.out]; done) | trace_state)
      simp only [Act.put, lQa, lQb, lQc, lQd, lQe, lQf]
      refine wpAnyH_take (i := 23) (v := .int .i64 un) rfl (by kernel_rfl) (by kernel_rfl) (by kernel_rfl) (fun _ _ _ h => h) (Or.inl ⟨rfl, ?_⟩) hHeld ?_
      ·(intro w hSw; obtain ⟨v0, v1, v2, v3, v4, x0⟩ := hSw; have hlB := World.block_lt_of_cell? _ _ v0; have hlX := World.block_lt_of_cell? _ _ x0; go_simp; first | done | with_reducible rfl | (simp only [HUN.out]; done) | trace_state)
      simp only [Act.put, lQa, lQb, lQc, lQd, lQe, lQf]
      refine wpAnyH_ready (rs := [4, 25]) (by kernel_rfl) (by simp) ?_
      refine AllReadyH.cons (i := 4) rfl (fun K hK => ?_) (AllReadyH.cons (i := 25) rfl (fun K hK => ?_) AllReadyH.nil)
      ·go_simp
       obtain ⟨wA, hT⟩ : ∃ wA, wA = wD.alloc (Obj.cells #[.int .i64 0, .int .i64 2, .int .i64 5] 3) := ⟨_, rfl⟩
       have kA : Gro wD wA := by rw [hT]; exact (Gro.refl _).alloc _
       have bA : wA.heap[wD.heap.size]? = some (.cells #[.int .i64 0, .int .i64 2, .int .i64 5] 3 (0, 0)) := by rw [hT]; exact blk_new _ _
       have lA := blk_lt bA
       have kDA := Gro.trans (Gro.refl wD) kA
       obtain ⟨A, hN⟩ : ∃ N, N = wD.heap.size := ⟨_, rfl⟩
       have hzA : wD.heap.size ≤ A := by rw [hN]; exact ((Gro.refl wD)).size
       rw [← hT]
       have hS2 : (fun w' => w'.cell? ⟨BY, 0, none⟩ = some (Value.int IntKind.i64 y0) ∧ w'.cell? ⟨BY, 1, none⟩ = some (Value.int IntKind.i64 y1) ∧ w'.cell? ⟨BY, 2, none⟩ = some (Value.int IntKind.i64 y2) ∧ w'.cell? ⟨BY, 3, none⟩ = some (Value.int IntKind.i64 y3) ∧ w'.cell? ⟨BY, 4, none⟩ = some (Value.int IntKind.i64 y4) ∧ w'.cell? ⟨X, 0, none⟩ = some (Value.int IntKind.i64 b.round)) wA := ⟨Gro.cell kDA HS0.out.1, Gro.cell kDA HS0.out.2.1, Gro.cell kDA HS0.out.2.2.1, Gro.cell kDA HS0.out.2.2.2.1, Gro.cell kDA HS0.out.2.2.2.2.1, Gro.cell kDA HS0.out.2.2.2.2.2⟩
       clear hT
       rw [← hN] at bA lA ⊢
       clear hN
       refine hK.out _ _ hS2 (fun hHeld => ?_)
       clear hK K hS2
       try simp only [Act.put, lQa, lQb, lQc, lQd, lQe, lQf]
       refine wpAnyH_take (i := 8) (v := ?_) rfl (by kernel_rfl) (by kernel_rfl) (by kernel_rfl) (fun _ _ _ h => h) (Or.inl ⟨rfl, ?_⟩) hHeld ?_
       rotate_left
       ·(intro w hSw; obtain ⟨v0, v1, v2, v3, v4, x0⟩ := hSw; have hlB := World.block_lt_of_cell? _ _ v0; have hlX := World.block_lt_of_cell? _ _ x0; go_simp; first | done | with_reducible rfl | (simp only [HUN.out]; done) | trace_state)
       simp only [Act.put, lQa, lQb, lQc, lQd, lQe, lQf]
       refine wpAnyH_ready (rs := [9, 25]) (by kernel_rfl) (by simp) ?_
       refine AllReadyH.cons (i := 9) rfl (fun K hK => ?_) (AllReadyH.cons (i := 25) rfl (fun K hK => ?_) AllReadyH.nil)
       ·have hc9 := HPT.out wA A bA
        go_simp
        refine hK.out _ _ hHeld (fun _ => ?_)
        clear hK K hc9
        try simp only [Act.put, lQa, lQb, lQc, lQd, lQe, lQf]
        refine wpAnyH_take (i := 24) (v := ?_) rfl (by kernel_rfl) (by kernel_rfl) (by kernel_rfl) (fun _ _ _ h => h) (Or.inl ⟨rfl, ?_⟩) hHeld ?_
        rotate_left
        ·(intro w hSw; obtain ⟨v0, v1, v2, v3, v4, x0⟩ := hSw; have hlB := World.block_lt_of_cell? _ _ v0; have hlX := World.block_lt_of_cell? _ _ x0; go_simp; first | done | with_reducible rfl | (simp only [HUN.out]; done) | trace_state)
        simp only [Act.put, lQa, lQb, lQc, lQd, lQe, lQf]
        refine wpAnyH_ready (rs := [25]) (by kernel_rfl) (by simp) ?_
        refine AllReadyH.cons (i := 25) rfl (fun K hK => ?_) AllReadyH.nil
        go_simp
        obtain ⟨wB, hT⟩ : ∃ wB, wB = wA.alloc (Obj.cells #[.int .i64 0, .int .i64 0, .int .i64 0, .int .i64 0, .int .i64 0, .int .i64 0, .int .i64 0] 30) := ⟨_, rfl⟩
        have kB : Gro wA wB := by rw [hT]; exact (Gro.refl _).alloc _
        have bN : wB.heap[wA.heap.size]? = some (.cells #[.int .i64 0, .int .i64 0, .int .i64 0, .int .i64 0, .int .i64 0, .int .i64 0, .int .i64 0] 30 (0, 0)) := by rw [hT]; exact blk_new _ _
        have lN := blk_lt bN
        have kDB := Gro.trans kDA kB
        obtain ⟨N, hN⟩ : ∃ N, N = wA.heap.size := ⟨_, rfl⟩
        have hzN : wD.heap.size ≤ N := by rw [hN]; exact (kDA).size
        rw [← hT]
        have hS2 : (fun w' => w'.cell? ⟨BY, 0, none⟩ = some (Value.int IntKind.i64 y0) ∧ w'.cell? ⟨BY, 1, none⟩ = some (Value.int IntKind.i64 y1) ∧ w'.cell? ⟨BY, 2, none⟩ = some (Value.int IntKind.i64 y2) ∧ w'.cell? ⟨BY, 3, none⟩ = some (Value.int IntKind.i64 y3) ∧ w'.cell? ⟨BY, 4, none⟩ = some (Value.int IntKind.i64 y4) ∧ w'.cell? ⟨X, 0, none⟩ = some (Value.int IntKind.i64 b.round)) wB := ⟨Gro.cell kDB HS0.out.1, Gro.cell kDB HS0.out.2.1, Gro.cell kDB HS0.out.2.2.1, Gro.cell kDB HS0.out.2.2.2.1, Gro.cell kDB HS0.out.2.2.2.2.1, Gro.cell kDB HS0.out.2.2.2.2.2⟩
        clear hT
        rw [← hN] at bN lN ⊢
        clear hN
        refine hK.out _ _ hS2 (fun hHeld => ?_)
        clear hK K hS2
        try simp only [Act.put, lQa, lQb, lQc, lQd, lQe, lQf]
        refine wpAnyH_ready (rs := [26]) (by kernel_rfl) (by simp) ?_
        refine AllReadyH.cons (i := 26) rfl (fun K hK => ?_) AllReadyH.nil
        obtain ⟨n0, n1, n2, n3, n4, n5, n6, ln⟩ := cells7 bN
        have fN := blk_frozen bN
        have f0 := fN 0
        have f1 := fN 1
        have f2 := fN 2
        have f3 := fN 3
        have f4 := fN 4
        have f5 := fN 5
        have f6 := fN 6
        have HZ := Lib.hid (setO bN (.int .i64 (5 + k0)) (.int .i64 pt) (.int .i64 (1 + k2)) (.int .i64 0) (.int .i64 k3) (.int .i64 un) (.int .i64 1))
        have KZ := Lib.hid (keptO kDB (.inr hzN) (.int .i64 (5 + k0)) (.int .i64 pt) (.int .i64 (1 + k2)) (.int .i64 0) (.int .i64 k3) (.int .i64 un) (.int .i64 1))
        clear fN
        go_simp
        have hS2 := KZ.out
        have hS3 := HZ.out
        clear HZ KZ
        generalize (((((((wB.setCell ⟨N, 0, none⟩ (.int .i64 (5 + k0))).setCell ⟨N, 1, none⟩ (.int .i64 pt)).setCell ⟨N, 2, none⟩ (.int .i64 (1 + k2))).setCell ⟨N, 3, none⟩ (.int .i64 0)).setCell ⟨N, 4, none⟩ (.int .i64 k3)).setCell ⟨N, 5, none⟩ (.int .i64 un)).setCell ⟨N, 6, none⟩ (.int .i64 1)) = wZ at hS2 hS3 ⊢
        refine hK.out _ _ (show (fun w' => w'.cell? ⟨BY, 0, none⟩ = some (Value.int IntKind.i64 y0) ∧ w'.cell? ⟨BY, 1, none⟩ = some (Value.int IntKind.i64 y1) ∧ w'.cell? ⟨BY, 2, none⟩ = some (Value.int IntKind.i64 y2) ∧ w'.cell? ⟨BY, 3, none⟩ = some (Value.int IntKind.i64 y3) ∧ w'.cell? ⟨BY, 4, none⟩ = some (Value.int IntKind.i64 y4) ∧ w'.cell? ⟨X, 0, none⟩ = some (Value.int IntKind.i64 b.round)) wZ from ⟨Gro.cell hS2 HS0.out.1, Gro.cell hS2 HS0.out.2.1, Gro.cell hS2 HS0.out.2.2.1, Gro.cell hS2 HS0.out.2.2.2.1, Gro.cell hS2 HS0.out.2.2.2.2.1, Gro.cell hS2 HS0.out.2.2.2.2.2⟩) (fun _ => ?_)
        clear hK K
        refine wpAnyH_done (by kernel_rfl) ?_ _
        clear hHeld
        try simp only [Act.put, lQa, lQb, lQc, lQd, lQe, lQf]
        have KZ := Lib.hid (KD.out.trans hS2)
        have HZ := Lib.hid hS3
        clear hS2 hS3 n0 n1 n2 n3 n4 n5 n6 ln f0 f1 f2 f3 f4 f5 f6
        go_wp2_with fail
        go_meet
        exact ⟨N, ⟨5 + k0, pt, 1 + k2, 0, k3, un, 1⟩, rfl, rfl, KZ.out, HZ.out⟩
       ·go_simp
        obtain ⟨wB, hT⟩ : ∃ wB, wB = wA.alloc (Obj.cells #[.int .i64 0, .int .i64 0, .int .i64 0, .int .i64 0, .int .i64 0, .int .i64 0, .int .i64 0] 30) := ⟨_, rfl⟩
        have kB : Gro wA wB := by rw [hT]; exact (Gro.refl _).alloc _
        have bN : wB.heap[wA.heap.size]? = some (.cells #[.int .i64 0, .int .i64 0, .int .i64 0, .int .i64 0, .int .i64 0, .int .i64 0, .int .i64 0] 30 (0, 0)) := by rw [hT]; exact blk_new _ _
        have lN := blk_lt bN
        have kDB := Gro.trans kDA kB
        obtain ⟨N, hN⟩ : ∃ N, N = wA.heap.size := ⟨_, rfl⟩
        have hzN : wD.heap.size ≤ N := by rw [hN]; exact (kDA).size
        rw [← hT]
        have hS2 : (fun w' => w'.cell? ⟨BY, 0, none⟩ = some (Value.int IntKind.i64 y0) ∧ w'.cell? ⟨BY, 1, none⟩ = some (Value.int IntKind.i64 y1) ∧ w'.cell? ⟨BY, 2, none⟩ = some (Value.int IntKind.i64 y2) ∧ w'.cell? ⟨BY, 3, none⟩ = some (Value.int IntKind.i64 y3) ∧ w'.cell? ⟨BY, 4, none⟩ = some (Value.int IntKind.i64 y4) ∧ w'.cell? ⟨X, 0, none⟩ = some (Value.int IntKind.i64 b.round)) wB := ⟨Gro.cell kDB HS0.out.1, Gro.cell kDB HS0.out.2.1, Gro.cell kDB HS0.out.2.2.1, Gro.cell kDB HS0.out.2.2.2.1, Gro.cell kDB HS0.out.2.2.2.2.1, Gro.cell kDB HS0.out.2.2.2.2.2⟩
        clear hT
        rw [← hN] at bN lN ⊢
        clear hN
        have bA := kB.blk bA
        refine hK.out _ _ hS2 (fun hHeld => ?_)
        clear hK K hS2
        try simp only [Act.put, lQa, lQb, lQc, lQd, lQe, lQf]
        refine wpAnyH_ready (rs := [9]) (by kernel_rfl) (by simp) ?_
        refine AllReadyH.cons (i := 9) rfl (fun K hK => ?_) AllReadyH.nil
        have hc9 := HPT.out wB A bA
        go_simp
        refine hK.out _ _ hHeld (fun _ => ?_)
        clear hK K hc9
        try simp only [Act.put, lQa, lQb, lQc, lQd, lQe, lQf]
        refine wpAnyH_take (i := 24) (v := ?_) rfl (by kernel_rfl) (by kernel_rfl) (by kernel_rfl) (fun _ _ _ h => h) (Or.inl ⟨rfl, ?_⟩) hHeld ?_
        rotate_left
        ·(intro w hSw; obtain ⟨v0, v1, v2, v3, v4, x0⟩ := hSw; have hlB := World.block_lt_of_cell? _ _ v0; have hlX := World.block_lt_of_cell? _ _ x0; go_simp; first | done | with_reducible rfl | (simp only [HUN.out]; done) | trace_state)
        simp only [Act.put, lQa, lQb, lQc, lQd, lQe, lQf]
        refine wpAnyH_ready (rs := [26]) (by kernel_rfl) (by simp) ?_
        refine AllReadyH.cons (i := 26) rfl (fun K hK => ?_) AllReadyH.nil
        obtain ⟨n0, n1, n2, n3, n4, n5, n6, ln⟩ := cells7 bN
        have fN := blk_frozen bN
        have f0 := fN 0
        have f1 := fN 1
        have f2 := fN 2
        have f3 := fN 3
        have f4 := fN 4
        have f5 := fN 5
        have f6 := fN 6
        have HZ := Lib.hid (setO bN (.int .i64 (5 + k0)) (.int .i64 pt) (.int .i64 (1 + k2)) (.int .i64 0) (.int .i64 k3) (.int .i64 un) (.int .i64 1))
        have KZ := Lib.hid (keptO kDB (.inr hzN) (.int .i64 (5 + k0)) (.int .i64 pt) (.int .i64 (1 + k2)) (.int .i64 0) (.int .i64 k3) (.int .i64 un) (.int .i64 1))
        clear fN
        go_simp
        have hS2 := KZ.out
        have hS3 := HZ.out
        clear HZ KZ
        generalize (((((((wB.setCell ⟨N, 0, none⟩ (.int .i64 (5 + k0))).setCell ⟨N, 1, none⟩ (.int .i64 pt)).setCell ⟨N, 2, none⟩ (.int .i64 (1 + k2))).setCell ⟨N, 3, none⟩ (.int .i64 0)).setCell ⟨N, 4, none⟩ (.int .i64 k3)).setCell ⟨N, 5, none⟩ (.int .i64 un)).setCell ⟨N, 6, none⟩ (.int .i64 1)) = wZ at hS2 hS3 ⊢
        refine hK.out _ _ (show (fun w' => w'.cell? ⟨BY, 0, none⟩ = some (Value.int IntKind.i64 y0) ∧ w'.cell? ⟨BY, 1, none⟩ = some (Value.int IntKind.i64 y1) ∧ w'.cell? ⟨BY, 2, none⟩ = some (Value.int IntKind.i64 y2) ∧ w'.cell? ⟨BY, 3, none⟩ = some (Value.int IntKind.i64 y3) ∧ w'.cell? ⟨BY, 4, none⟩ = some (Value.int IntKind.i64 y4) ∧ w'.cell? ⟨X, 0, none⟩ = some (Value.int IntKind.i64 b.round)) wZ from ⟨Gro.cell hS2 HS0.out.1, Gro.cell hS2 HS0.out.2.1, Gro.cell hS2 HS0.out.2.2.1, Gro.cell hS2 HS0.out.2.2.2.1, Gro.cell hS2 HS0.out.2.2.2.2.1, Gro.cell hS2 HS0.out.2.2.2.2.2⟩) (fun _ => ?_)
        clear hK K
        refine wpAnyH_done (by kernel_rfl) ?_ _
        clear hHeld
        try simp only [Act.put, lQa, lQb, lQc, lQd, lQe, lQf]
        have KZ := Lib.hid (KD.out.trans hS2)
        have HZ := Lib.hid hS3
        clear hS2 hS3 n0 n1 n2 n3 n4 n5 n6 ln f0 f1 f2 f3 f4 f5 f6
        go_wp2_with fail
        go_meet
        exact ⟨N, ⟨5 + k0, pt, 1 + k2, 0, k3, un, 1⟩, rfl, rfl, KZ.out, HZ.out⟩
      ·go_simp
       obtain ⟨wB, hT⟩ : ∃ wB, wB = wD.alloc (Obj.cells #[.int .i64 0, .int .i64 0, .int .i64 0, .int .i64 0, .int .i64 0, .int .i64 0, .int .i64 0] 30) := ⟨_, rfl⟩
       have kB : Gro wD wB := by rw [hT]; exact (Gro.refl _).alloc _
       have bN : wB.heap[wD.heap.size]? = some (.cells #[.int .i64 0, .int .i64 0, .int .i64 0, .int .i64 0, .int .i64 0, .int .i64 0, .int .i64 0] 30 (0, 0)) := by rw [hT]; exact blk_new _ _
       have lN := blk_lt bN
       have kDB := Gro.trans (Gro.refl wD) kB
       obtain ⟨N, hN⟩ : ∃ N, N = wD.heap.size := ⟨_, rfl⟩
       have hzN : wD.heap.size ≤ N := by rw [hN]; exact ((Gro.refl wD)).size
       rw [← hT]
       have hS2 : (fun w' => w'.cell? ⟨BY, 0, none⟩ = some (Value.int IntKind.i64 y0) ∧ w'.cell? ⟨BY, 1, none⟩ = some (Value.int IntKind.i64 y1) ∧ w'.cell? ⟨BY, 2, none⟩ = some (Value.int IntKind.i64 y2) ∧ w'.cell? ⟨BY, 3, none⟩ = some (Value.int IntKind.i64 y3) ∧ w'.cell? ⟨BY, 4, none⟩ = some (Value.int IntKind.i64 y4) ∧ w'.cell? ⟨X, 0, none⟩ = some (Value.int IntKind.i64 b.round)) wB := ⟨Gro.cell kDB HS0.out.1, Gro.cell kDB HS0.out.2.1, Gro.cell kDB HS0.out.2.2.1, Gro.cell kDB HS0.out.2.2.2.1, Gro.cell kDB HS0.out.2.2.2.2.1, Gro.cell kDB HS0.out.2.2.2.2.2⟩
       clear hT
       rw [← hN] at bN lN ⊢
       clear hN
       refine hK.out _ _ hS2 (fun hHeld => ?_)
       clear hK K hS2
       try simp only [Act.put, lQa, lQb, lQc, lQd, lQe, lQf]
       refine wpAnyH_ready (rs := [4]) (by kernel_rfl) (by simp) ?_
       refine AllReadyH.cons (i := 4) rfl (fun K hK => ?_) AllReadyH.nil
       go_simp
       obtain ⟨wA, hT⟩ : ∃ wA, wA = wB.alloc (Obj.cells #[.int .i64 0, .int .i64 2, .int .i64 5] 3) := ⟨_, rfl⟩
       have kA : Gro wB wA := by rw [hT]; exact (Gro.refl _).alloc _
       have bA : wA.heap[wB.heap.size]? = some (.cells #[.int .i64 0, .int .i64 2, .int .i64 5] 3 (0, 0)) := by rw [hT]; exact blk_new _ _
       have lA := blk_lt bA
       have kDA := Gro.trans kDB kA
       obtain ⟨A, hN⟩ : ∃ N, N = wB.heap.size := ⟨_, rfl⟩
       have hzA : wD.heap.size ≤ A := by rw [hN]; exact (kDB).size
       rw [← hT]
       have hS2 : (fun w' => w'.cell? ⟨BY, 0, none⟩ = some (Value.int IntKind.i64 y0) ∧ w'.cell? ⟨BY, 1, none⟩ = some (Value.int IntKind.i64 y1) ∧ w'.cell? ⟨BY, 2, none⟩ = some (Value.int IntKind.i64 y2) ∧ w'.cell? ⟨BY, 3, none⟩ = some (Value.int IntKind.i64 y3) ∧ w'.cell? ⟨BY, 4, none⟩ = some (Value.int IntKind.i64 y4) ∧ w'.cell? ⟨X, 0, none⟩ = some (Value.int IntKind.i64 b.round)) wA := ⟨Gro.cell kDA HS0.out.1, Gro.cell kDA HS0.out.2.1, Gro.cell kDA HS0.out.2.2.1, Gro.cell kDA HS0.out.2.2.2.1, Gro.cell kDA HS0.out.2.2.2.2.1, Gro.cell kDA HS0.out.2.2.2.2.2⟩
       clear hT
       rw [← hN] at bA lA ⊢
       clear hN
       have bN := kA.blk bN
       refine hK.out _ _ hS2 (fun hHeld => ?_)
       clear hK K hS2
       try simp only [Act.put, lQa, lQb, lQc, lQd, lQe, lQf]
       refine wpAnyH_take (i := 8) (v := ?_) rfl (by kernel_rfl) (by kernel_rfl) (by kernel_rfl) (fun _ _ _ h => h) (Or.inl ⟨rfl, ?_⟩) hHeld ?_
       rotate_left
       ·(intro w hSw; obtain ⟨v0, v1, v2, v3, v4, x0⟩ := hSw; have hlB := World.block_lt_of_cell? _ _ v0; have hlX := World.block_lt_of_cell? _ _ x0; go_simp; first | done | with_reducible rfl | (simp only [HUN.out]; done) | trace_state)
       simp only [Act.put, lQa, lQb, lQc, lQd, lQe, lQf]
       refine wpAnyH_ready (rs := [9]) (by kernel_rfl) (by simp) ?_
       refine AllReadyH.cons (i := 9) rfl (fun K hK => ?_) AllReadyH.nil
       have hc9 := HPT.out wA A bA
       go_simp
       refine hK.out _ _ hHeld (fun _ => ?_)
       clear hK K hc9
       try simp only [Act.put, lQa, lQb, lQc, lQd, lQe, lQf]
       refine wpAnyH_take (i := 24) (v := ?_) rfl (by kernel_rfl) (by kernel_rfl) (by kernel_rfl) (fun _ _ _ h => h) (Or.inl ⟨rfl, ?_⟩) hHeld ?_
       rotate_left
       ·(intro w hSw; obtain ⟨v0, v1, v2, v3, v4, x0⟩ := hSw; have hlB := World.block_lt_of_cell? _ _ v0; have hlX := World.block_lt_of_cell? _ _ x0; go_simp; first | done | with_reducible rfl | (simp only [HUN.out]; done) | trace_state)
       simp only [Act.put, lQa, lQb, lQc, lQd, lQe, lQf]
       refine wpAnyH_ready (rs := [26]) (by kernel_rfl) (by simp) ?_
       refine AllReadyH.cons (i := 26) rfl (fun K hK => ?_) AllReadyH.nil
       obtain ⟨n0, n1, n2, n3, n4, n5, n6, ln⟩ := cells7 bN
       have fN := blk_frozen bN
       have f0 := fN 0
       have f1 := fN 1
       have f2 := fN 2
       have f3 := fN 3
       have f4 := fN 4
       have f5 := fN 5
       have f6 := fN 6
       have HZ := Lib.hid (setO bN (.int .i64 (5 + k0)) (.int .i64 pt) (.int .i64 (1 + k2)) (.int .i64 0) (.int .i64 k3) (.int .i64 un) (.int .i64 1))
       have KZ := Lib.hid (keptO kDA (.inr hzN) (.int .i64 (5 + k0)) (.int .i64 pt) (.int .i64 (1 + k2)) (.int .i64 0) (.int .i64 k3) (.int .i64 un) (.int .i64 1))
       clear fN
       go_simp
       have hS2 := KZ.out
       have hS3 := HZ.out
       clear HZ KZ
       generalize (((((((wA.setCell ⟨N, 0, none⟩ (.int .i64 (5 + k0))).setCell ⟨N, 1, none⟩ (.int .i64 pt)).setCell ⟨N, 2, none⟩ (.int .i64 (1 + k2))).setCell ⟨N, 3, none⟩ (.int .i64 0)).setCell ⟨N, 4, none⟩ (.int .i64 k3)).setCell ⟨N, 5, none⟩ (.int .i64 un)).setCell ⟨N, 6, none⟩ (.int .i64 1)) = wZ at hS2 hS3 ⊢
       refine hK.out _ _ (show (fun w' => w'.cell? ⟨BY, 0, none⟩ = some (Value.int IntKind.i64 y0) ∧ w'.cell? ⟨BY, 1, none⟩ = some (Value.int IntKind.i64 y1) ∧ w'.cell? ⟨BY, 2, none⟩ = some (Value.int IntKind.i64 y2) ∧ w'.cell? ⟨BY, 3, none⟩ = some (Value.int IntKind.i64 y3) ∧ w'.cell? ⟨BY, 4, none⟩ = some (Value.int IntKind.i64 y4) ∧ w'.cell? ⟨X, 0, none⟩ = some (Value.int IntKind.i64 b.round)) wZ from ⟨Gro.cell hS2 HS0.out.1, Gro.cell hS2 HS0.out.2.1, Gro.cell hS2 HS0.out.2.2.1, Gro.cell hS2 HS0.out.2.2.2.1, Gro.cell hS2 HS0.out.2.2.2.2.1, Gro.cell hS2 HS0.out.2.2.2.2.2⟩) (fun _ => ?_)
       clear hK K
       refine wpAnyH_done (by kernel_rfl) ?_ _
       clear hHeld
       try simp only [Act.put, lQa, lQb, lQc, lQd, lQe, lQf]
       have KZ := Lib.hid (KD.out.trans hS2)
       have HZ := Lib.hid hS3
       clear hS2 hS3 n0 n1 n2 n3 n4 n5 n6 ln f0 f1 f2 f3 f4 f5 f6
       go_wp2_with fail
       go_meet
       exact ⟨N, ⟨5 + k0, pt, 1 + k2, 0, k3, un, 1⟩, rfl, rfl, KZ.out, HZ.out⟩⟩
    exact (show Nonempty auxP from inferInstanceAs (Nonempty auxP)).elim id
  case rest =>
    obtain ⟨P, p, rfl, hps, k6, hp⟩ := hcut
    have HB := Lib.hid (HB.out.step k6)
    have HP := Lib.hid hp
    clear k6 hp P0 P1 P2 P3 P4 hw0 hw2 hw4 HUN HPT
    have P0 := Lib.hid (fun W => pick36 (w := W) z0 19 rz0 (by omega))
    have P1 := Lib.hid (fun W => pick36 (w := W) z1 3 rz1 (by omega))
    have P2 := Lib.hid (fun W => pick36 (w := W) z2 3 rz2 (by omega))
    have P3 := Lib.hid (fun W => pick36 (w := W) z3 30 rz3 (by omega))
    have P4 := Lib.hid (fun W => pick36 (w := W) z4 4 rz4 (by omega))
    have q0 := pk_range (c := z0) (n := 19) (by omega)
    have q1 := pk_range (c := z1) (n := 3) (by omega)
    have q2 := pk_range (c := z2) (n := 3) (by omega)
    have q4 := pk_range (c := z4) (n := 4) (by omega)
    generalize pk z0 19 = k0 at P0 q0
    generalize pk z1 3 = k1 at P1 q1
    generalize pk z2 3 = k2 at P2 q2
    generalize pk z3 30 = k3 at P3
    generalize pk z4 4 = k4 at P4 q4
    have hw0 : IntKind.i64.wrap (5 + k0) = 5 + k0 := by rw [IntKind.wrap_i64]; omega
    have hw2 : IntKind.i64.wrap (1 + k2) = 1 + k2 := by rw [IntKind.wrap_i64]; omega
    have hrd := inB_iff.1 HB.out.vb.rd
    have hw4 : IntKind.i64.wrap (b.round + k4) = b.round + k4 := by rw [IntKind.wrap_i64]; omega
    obtain ⟨un, hun⟩ : ∃ un : Int, (if b.round + k4 < 30 then b.round + k4 else (30 : Int)) = un := ⟨_, rfl⟩
    have HUN := Lib.hid hun
    obtain ⟨mm, rfl⟩ : ∃ mm : Nat, k1 = mm := ⟨k1.toNat, by omega⟩
    obtain ⟨pt, hpt⟩ : ∃ pt : Int, ∀ (W : World) (A : Nat), W.heap[A]? = some (.cells #[.int .i64 0, .int .i64 2, .int .i64 5] 3 (0, 0)) → W.cell? ⟨A, mm, none⟩ = some (.int .i64 pt) := by
      have : mm = 0 ∨ mm = 1 ∨ mm = 2 := by omega
      rcases this with rfl | rfl | rfl
      · exact ⟨0, fun W A h => blk_cell h 0⟩
      · exact ⟨2, fun W A h => blk_cell h 1⟩
      · exact ⟨5, fun W A h => blk_cell h 2⟩
    have HPT := Lib.hid hpt
    clear hun hpt hrd q0 q2 q4
    go_upto_region 7 with fail
    go_cut [17] (fun t wx => ∃ (N : Nat) (o : Ofr), t = .pointer (some ⟨N, 0, none⟩) ∧ o.state = 1 ∧ Gro wc wx ∧ wx.heap[N]? = some (.cells #[.int .i64 o.id, .int .i64 o.party, .int .i64 o.side, .int .i64 o.place, .int .i64 o.price, .int .i64 o.until_, .int .i64 o.state] 30 (0, 0)))
    case first =>
      refine nameGoal fun auxP auxH _ => ?_
      letI auxN : Nonempty auxP := ⟨by
        refine auxH ?_
        obtain ⟨v0, v1, v2, v3, v4, v5, hlB⟩ := cells6 (HZB.out _ HB.out.gro)
        obtain ⟨x0, x1, x2, x3, hlX⟩ := cells4 HB.out.xb
        refine wp_region_held_drew (S := (fun w' => w'.cell? ⟨BZ, 0, none⟩ = some (Value.int IntKind.i64 z0) ∧ w'.cell? ⟨BZ, 1, none⟩ = some (Value.int IntKind.i64 z1) ∧ w'.cell? ⟨BZ, 2, none⟩ = some (Value.int IntKind.i64 z2) ∧ w'.cell? ⟨BZ, 3, none⟩ = some (Value.int IntKind.i64 z3) ∧ w'.cell? ⟨BZ, 4, none⟩ = some (Value.int IntKind.i64 z4) ∧ w'.cell? ⟨X, 0, none⟩ = some (Value.int IntKind.i64 b.round))) (by kernel_rfl) ⟨(Gro.refl wc).drew.cell v0, (Gro.refl wc).drew.cell v1, (Gro.refl wc).drew.cell v2, (Gro.refl wc).drew.cell v3, (Gro.refl wc).drew.cell v4, (Gro.refl wc).drew.cell x0⟩ (fun hHeld => ?_)
        have KD := Lib.hid (Gro.refl wc).drew
        clear v0 v1 v2 v3 v4 v5 x0 x1 x2 x3 hlB hlX
        generalize wc.drew = wD at hHeld KD ⊢
        have HS0 := Lib.hid hHeld
        refine wpAnyH_take (i := 0) (v := ?_) rfl (by kernel_rfl) (by kernel_rfl) (by kernel_rfl) (fun _ _ _ h => h) (Or.inl ⟨rfl, ?_⟩) hHeld ?_
        rotate_left
        ·(intro w hSw; obtain ⟨v0, v1, v2, v3, v4, x0⟩ := hSw; have hlB := World.block_lt_of_cell? _ _ v0; have hlX := World.block_lt_of_cell? _ _ x0; go_simp; first | done | with_reducible rfl | (simp only [HUN.out]; done) | trace_state)
        simp only [Act.put, lQa, lQb, lQc, lQd, lQe, lQf]
        refine wpAnyH_take (i := 1) (v := ?_) rfl (by kernel_rfl) (by kernel_rfl) (by kernel_rfl) (fun _ _ _ h => h) (Or.inl ⟨rfl, ?_⟩) hHeld ?_
        rotate_left
        ·(intro w hSw; obtain ⟨v0, v1, v2, v3, v4, x0⟩ := hSw; have hlB := World.block_lt_of_cell? _ _ v0; have hlX := World.block_lt_of_cell? _ _ x0; go_simp; first | done | with_reducible rfl | (simp only [HUN.out]; done) | trace_state)
        simp only [Act.put, lQa, lQb, lQc, lQd, lQe, lQf]
        refine wpAnyH_takeQ (i := 2) (f := 36) (args := #[.int .i64 z0, .int .i64 19]) rfl (by kernel_rfl) (by kernel_rfl) (by kernel_rfl) (fun _ _ _ h => h) rfl (fun _ => by go_simp) (fun W _ => P0.out W) hHeld ?_
        simp only [Act.put, lQa, lQb, lQc, lQd, lQe, lQf]
        refine wpAnyH_take (i := 3) (v := ?_) rfl (by kernel_rfl) (by kernel_rfl) (by kernel_rfl) (fun _ _ _ h => h) (Or.inl ⟨rfl, ?_⟩) hHeld ?_
        rotate_left
        ·(intro w hSw; obtain ⟨v0, v1, v2, v3, v4, x0⟩ := hSw; have hlB := World.block_lt_of_cell? _ _ v0; have hlX := World.block_lt_of_cell? _ _ x0; go_simp; first | done | with_reducible rfl | (simp only [HUN.out]; done) | trace_state)
        simp only [Act.put, lQa, lQb, lQc, lQd, lQe, lQf]
        refine wpAnyH_take (i := 5) (v := ?_) rfl (by kernel_rfl) (by kernel_rfl) (by kernel_rfl) (fun _ _ _ h => h) (Or.inl ⟨rfl, ?_⟩) hHeld ?_
        rotate_left
        ·(intro w hSw; obtain ⟨v0, v1, v2, v3, v4, x0⟩ := hSw; have hlB := World.block_lt_of_cell? _ _ v0; have hlX := World.block_lt_of_cell? _ _ x0; go_simp; first | done | with_reducible rfl | (simp only [HUN.out]; done) | trace_state)
        simp only [Act.put, lQa, lQb, lQc, lQd, lQe, lQf]
        refine wpAnyH_take (i := 6) (v := ?_) rfl (by kernel_rfl) (by kernel_rfl) (by kernel_rfl) (fun _ _ _ h => h) (Or.inl ⟨rfl, ?_⟩) hHeld ?_
        rotate_left
        ·(intro w hSw; obtain ⟨v0, v1, v2, v3, v4, x0⟩ := hSw; have hlB := World.block_lt_of_cell? _ _ v0; have hlX := World.block_lt_of_cell? _ _ x0; go_simp; first | done | with_reducible rfl | (simp only [HUN.out]; done) | trace_state)
        simp only [Act.put, lQa, lQb, lQc, lQd, lQe, lQf]
        refine wpAnyH_takeQ (i := 7) (f := 36) (args := #[.int .i64 z1, .int .i64 3]) rfl (by kernel_rfl) (by kernel_rfl) (by kernel_rfl) (fun _ _ _ h => h) rfl (fun _ => by go_simp) (fun W _ => P1.out W) hHeld ?_
        simp only [Act.put, lQa, lQb, lQc, lQd, lQe, lQf]
        refine wpAnyH_take (i := 10) (v := ?_) rfl (by kernel_rfl) (by kernel_rfl) (by kernel_rfl) (fun _ _ _ h => h) (Or.inl ⟨rfl, ?_⟩) hHeld ?_
        rotate_left
        ·(intro w hSw; obtain ⟨v0, v1, v2, v3, v4, x0⟩ := hSw; have hlB := World.block_lt_of_cell? _ _ v0; have hlX := World.block_lt_of_cell? _ _ x0; go_simp; first | done | with_reducible rfl | (simp only [HUN.out]; done) | trace_state)
        simp only [Act.put, lQa, lQb, lQc, lQd, lQe, lQf]
        refine wpAnyH_take (i := 11) (v := ?_) rfl (by kernel_rfl) (by kernel_rfl) (by kernel_rfl) (fun _ _ _ h => h) (Or.inl ⟨rfl, ?_⟩) hHeld ?_
        rotate_left
        ·(intro w hSw; obtain ⟨v0, v1, v2, v3, v4, x0⟩ := hSw; have hlB := World.block_lt_of_cell? _ _ v0; have hlX := World.block_lt_of_cell? _ _ x0; go_simp; first | done | with_reducible rfl | (simp only [HUN.out]; done) | trace_state)
        simp only [Act.put, lQa, lQb, lQc, lQd, lQe, lQf]
        refine wpAnyH_takeQ (i := 12) (f := 36) (args := #[.int .i64 z2, .int .i64 3]) rfl (by kernel_rfl) (by kernel_rfl) (by kernel_rfl) (fun _ _ _ h => h) rfl (fun _ => by go_simp) (fun W _ => P2.out W) hHeld ?_
        simp only [Act.put, lQa, lQb, lQc, lQd, lQe, lQf]
        refine wpAnyH_take (i := 13) (v := ?_) rfl (by kernel_rfl) (by kernel_rfl) (by kernel_rfl) (fun _ _ _ h => h) (Or.inl ⟨rfl, ?_⟩) hHeld ?_
        rotate_left
        ·(intro w hSw; obtain ⟨v0, v1, v2, v3, v4, x0⟩ := hSw; have hlB := World.block_lt_of_cell? _ _ v0; have hlX := World.block_lt_of_cell? _ _ x0; go_simp; first | done | with_reducible rfl | (simp only [HUN.out]; done) | trace_state)
        simp only [Act.put, lQa, lQb, lQc, lQd, lQe, lQf]
        refine wpAnyH_take (i := 14) (v := ?_) rfl (by kernel_rfl) (by kernel_rfl) (by kernel_rfl) (fun _ _ _ h => h) (Or.inl ⟨rfl, ?_⟩) hHeld ?_
        rotate_left
        ·(intro w hSw; obtain ⟨v0, v1, v2, v3, v4, x0⟩ := hSw; have hlB := World.block_lt_of_cell? _ _ v0; have hlX := World.block_lt_of_cell? _ _ x0; go_simp; first | done | with_reducible rfl | (simp only [HUN.out]; done) | trace_state)
        simp only [Act.put, lQa, lQb, lQc, lQd, lQe, lQf]
        refine wpAnyH_take (i := 15) (v := ?_) rfl (by kernel_rfl) (by kernel_rfl) (by kernel_rfl) (fun _ _ _ h => h) (Or.inl ⟨rfl, ?_⟩) hHeld ?_
        rotate_left
        ·(intro w hSw; obtain ⟨v0, v1, v2, v3, v4, x0⟩ := hSw; have hlB := World.block_lt_of_cell? _ _ v0; have hlX := World.block_lt_of_cell? _ _ x0; go_simp; first | done | with_reducible rfl | (simp only [HUN.out]; done) | trace_state)
        simp only [Act.put, lQa, lQb, lQc, lQd, lQe, lQf]
        refine wpAnyH_takeQ (i := 16) (f := 36) (args := #[.int .i64 z3, .int .i64 30]) rfl (by kernel_rfl) (by kernel_rfl) (by kernel_rfl) (fun _ _ _ h => h) rfl (fun _ => by go_simp) (fun W _ => P3.out W) hHeld ?_
        simp only [Act.put, lQa, lQb, lQc, lQd, lQe, lQf]
        refine wpAnyH_take (i := 17) (v := ?_) rfl (by kernel_rfl) (by kernel_rfl) (by kernel_rfl) (fun _ _ _ h => h) (Or.inl ⟨rfl, ?_⟩) hHeld ?_
        rotate_left
        ·(intro w hSw; obtain ⟨v0, v1, v2, v3, v4, x0⟩ := hSw; have hlB := World.block_lt_of_cell? _ _ v0; have hlX := World.block_lt_of_cell? _ _ x0; go_simp; first | done | with_reducible rfl | (simp only [HUN.out]; done) | trace_state)
        simp only [Act.put, lQa, lQb, lQc, lQd, lQe, lQf]
        refine wpAnyH_take (i := 18) (v := ?_) rfl (by kernel_rfl) (by kernel_rfl) (by kernel_rfl) (fun _ _ _ h => h) (Or.inl ⟨rfl, ?_⟩) hHeld ?_
        rotate_left
        ·(intro w hSw; obtain ⟨v0, v1, v2, v3, v4, x0⟩ := hSw; have hlB := World.block_lt_of_cell? _ _ v0; have hlX := World.block_lt_of_cell? _ _ x0; go_simp; first | done | with_reducible rfl | (simp only [HUN.out]; done) | trace_state)
        simp only [Act.put, lQa, lQb, lQc, lQd, lQe, lQf]
        refine wpAnyH_take (i := 19) (v := ?_) rfl (by kernel_rfl) (by kernel_rfl) (by kernel_rfl) (fun _ _ _ h => h) (Or.inl ⟨rfl, ?_⟩) hHeld ?_
        rotate_left
        ·(intro w hSw; obtain ⟨v0, v1, v2, v3, v4, x0⟩ := hSw; have hlB := World.block_lt_of_cell? _ _ v0; have hlX := World.block_lt_of_cell? _ _ x0; go_simp; first | done | with_reducible rfl | (simp only [HUN.out]; done) | trace_state)
        simp only [Act.put, lQa, lQb, lQc, lQd, lQe, lQf]
        refine wpAnyH_take (i := 20) (v := ?_) rfl (by kernel_rfl) (by kernel_rfl) (by kernel_rfl) (fun _ _ _ h => h) (Or.inl ⟨rfl, ?_⟩) hHeld ?_
        rotate_left
        ·(intro w hSw; obtain ⟨v0, v1, v2, v3, v4, x0⟩ := hSw; have hlB := World.block_lt_of_cell? _ _ v0; have hlX := World.block_lt_of_cell? _ _ x0; go_simp; first | done | with_reducible rfl | (simp only [HUN.out]; done) | trace_state)
        simp only [Act.put, lQa, lQb, lQc, lQd, lQe, lQf]
        refine wpAnyH_takeQ (i := 21) (f := 36) (args := #[.int .i64 z4, .int .i64 4]) rfl (by kernel_rfl) (by kernel_rfl) (by kernel_rfl) (fun _ _ _ h => h) rfl (fun _ => by go_simp) (fun W _ => P4.out W) hHeld ?_
        simp only [Act.put, lQa, lQb, lQc, lQd, lQe, lQf]
        refine wpAnyH_take (i := 22) (v := ?_) rfl (by kernel_rfl) (by kernel_rfl) (by kernel_rfl) (fun _ _ _ h => h) (Or.inl ⟨rfl, ?_⟩) hHeld ?_
        rotate_left
        ·(intro w hSw; obtain ⟨v0, v1, v2, v3, v4, x0⟩ := hSw; have hlB := World.block_lt_of_cell? _ _ v0; have hlX := World.block_lt_of_cell? _ _ x0; go_simp; first | done | with_reducible rfl | (simp only [HUN.out]; done) | trace_state)
        simp only [Act.put, lQa, lQb, lQc, lQd, lQe, lQf]
        refine wpAnyH_take (i := 23) (v := .int .i64 un) rfl (by kernel_rfl) (by kernel_rfl) (by kernel_rfl) (fun _ _ _ h => h) (Or.inl ⟨rfl, ?_⟩) hHeld ?_
        ·(intro w hSw; obtain ⟨v0, v1, v2, v3, v4, x0⟩ := hSw; have hlB := World.block_lt_of_cell? _ _ v0; have hlX := World.block_lt_of_cell? _ _ x0; go_simp; first | done | with_reducible rfl | (simp only [HUN.out]; done) | trace_state)
        simp only [Act.put, lQa, lQb, lQc, lQd, lQe, lQf]
        refine wpAnyH_ready (rs := [4, 25]) (by kernel_rfl) (by simp) ?_
        refine AllReadyH.cons (i := 4) rfl (fun K hK => ?_) (AllReadyH.cons (i := 25) rfl (fun K hK => ?_) AllReadyH.nil)
        ·go_simp
         obtain ⟨wA, hT⟩ : ∃ wA, wA = wD.alloc (Obj.cells #[.int .i64 0, .int .i64 2, .int .i64 5] 3) := ⟨_, rfl⟩
         have kA : Gro wD wA := by rw [hT]; exact (Gro.refl _).alloc _
         have bA : wA.heap[wD.heap.size]? = some (.cells #[.int .i64 0, .int .i64 2, .int .i64 5] 3 (0, 0)) := by rw [hT]; exact blk_new _ _
         have lA := blk_lt bA
         have kDA := Gro.trans (Gro.refl wD) kA
         obtain ⟨A, hN⟩ : ∃ N, N = wD.heap.size := ⟨_, rfl⟩
         have hzA : wD.heap.size ≤ A := by rw [hN]; exact ((Gro.refl wD)).size
         rw [← hT]
         have hS2 : (fun w' => w'.cell? ⟨BZ, 0, none⟩ = some (Value.int IntKind.i64 z0) ∧ w'.cell? ⟨BZ, 1, none⟩ = some (Value.int IntKind.i64 z1) ∧ w'.cell? ⟨BZ, 2, none⟩ = some (Value.int IntKind.i64 z2) ∧ w'.cell? ⟨BZ, 3, none⟩ = some (Value.int IntKind.i64 z3) ∧ w'.cell? ⟨BZ, 4, none⟩ = some (Value.int IntKind.i64 z4) ∧ w'.cell? ⟨X, 0, none⟩ = some (Value.int IntKind.i64 b.round)) wA := ⟨Gro.cell kDA HS0.out.1, Gro.cell kDA HS0.out.2.1, Gro.cell kDA HS0.out.2.2.1, Gro.cell kDA HS0.out.2.2.2.1, Gro.cell kDA HS0.out.2.2.2.2.1, Gro.cell kDA HS0.out.2.2.2.2.2⟩
         clear hT
         rw [← hN] at bA lA ⊢
         clear hN
         refine hK.out _ _ hS2 (fun hHeld => ?_)
         clear hK K hS2
         try simp only [Act.put, lQa, lQb, lQc, lQd, lQe, lQf]
         refine wpAnyH_take (i := 8) (v := ?_) rfl (by kernel_rfl) (by kernel_rfl) (by kernel_rfl) (fun _ _ _ h => h) (Or.inl ⟨rfl, ?_⟩) hHeld ?_
         rotate_left
         ·(intro w hSw; obtain ⟨v0, v1, v2, v3, v4, x0⟩ := hSw; have hlB := World.block_lt_of_cell? _ _ v0; have hlX := World.block_lt_of_cell? _ _ x0; go_simp; first | done | with_reducible rfl | (simp only [HUN.out]; done) | trace_state)
         simp only [Act.put, lQa, lQb, lQc, lQd, lQe, lQf]
         refine wpAnyH_ready (rs := [9, 25]) (by kernel_rfl) (by simp) ?_
         refine AllReadyH.cons (i := 9) rfl (fun K hK => ?_) (AllReadyH.cons (i := 25) rfl (fun K hK => ?_) AllReadyH.nil)
         ·have hc9 := HPT.out wA A bA
          go_simp
          refine hK.out _ _ hHeld (fun _ => ?_)
          clear hK K hc9
          try simp only [Act.put, lQa, lQb, lQc, lQd, lQe, lQf]
          refine wpAnyH_take (i := 24) (v := ?_) rfl (by kernel_rfl) (by kernel_rfl) (by kernel_rfl) (fun _ _ _ h => h) (Or.inl ⟨rfl, ?_⟩) hHeld ?_
          rotate_left
          ·(intro w hSw; obtain ⟨v0, v1, v2, v3, v4, x0⟩ := hSw; have hlB := World.block_lt_of_cell? _ _ v0; have hlX := World.block_lt_of_cell? _ _ x0; go_simp; first | done | with_reducible rfl | (simp only [HUN.out]; done) | trace_state)
          simp only [Act.put, lQa, lQb, lQc, lQd, lQe, lQf]
          refine wpAnyH_ready (rs := [25]) (by kernel_rfl) (by simp) ?_
          refine AllReadyH.cons (i := 25) rfl (fun K hK => ?_) AllReadyH.nil
          go_simp
          obtain ⟨wB, hT⟩ : ∃ wB, wB = wA.alloc (Obj.cells #[.int .i64 0, .int .i64 0, .int .i64 0, .int .i64 0, .int .i64 0, .int .i64 0, .int .i64 0] 30) := ⟨_, rfl⟩
          have kB : Gro wA wB := by rw [hT]; exact (Gro.refl _).alloc _
          have bN : wB.heap[wA.heap.size]? = some (.cells #[.int .i64 0, .int .i64 0, .int .i64 0, .int .i64 0, .int .i64 0, .int .i64 0, .int .i64 0] 30 (0, 0)) := by rw [hT]; exact blk_new _ _
          have lN := blk_lt bN
          have kDB := Gro.trans kDA kB
          obtain ⟨N, hN⟩ : ∃ N, N = wA.heap.size := ⟨_, rfl⟩
          have hzN : wD.heap.size ≤ N := by rw [hN]; exact (kDA).size
          rw [← hT]
          have hS2 : (fun w' => w'.cell? ⟨BZ, 0, none⟩ = some (Value.int IntKind.i64 z0) ∧ w'.cell? ⟨BZ, 1, none⟩ = some (Value.int IntKind.i64 z1) ∧ w'.cell? ⟨BZ, 2, none⟩ = some (Value.int IntKind.i64 z2) ∧ w'.cell? ⟨BZ, 3, none⟩ = some (Value.int IntKind.i64 z3) ∧ w'.cell? ⟨BZ, 4, none⟩ = some (Value.int IntKind.i64 z4) ∧ w'.cell? ⟨X, 0, none⟩ = some (Value.int IntKind.i64 b.round)) wB := ⟨Gro.cell kDB HS0.out.1, Gro.cell kDB HS0.out.2.1, Gro.cell kDB HS0.out.2.2.1, Gro.cell kDB HS0.out.2.2.2.1, Gro.cell kDB HS0.out.2.2.2.2.1, Gro.cell kDB HS0.out.2.2.2.2.2⟩
          clear hT
          rw [← hN] at bN lN ⊢
          clear hN
          refine hK.out _ _ hS2 (fun hHeld => ?_)
          clear hK K hS2
          try simp only [Act.put, lQa, lQb, lQc, lQd, lQe, lQf]
          refine wpAnyH_ready (rs := [26]) (by kernel_rfl) (by simp) ?_
          refine AllReadyH.cons (i := 26) rfl (fun K hK => ?_) AllReadyH.nil
          obtain ⟨n0, n1, n2, n3, n4, n5, n6, ln⟩ := cells7 bN
          have fN := blk_frozen bN
          have f0 := fN 0
          have f1 := fN 1
          have f2 := fN 2
          have f3 := fN 3
          have f4 := fN 4
          have f5 := fN 5
          have f6 := fN 6
          have HZ := Lib.hid (setO bN (.int .i64 (5 + k0)) (.int .i64 pt) (.int .i64 (1 + k2)) (.int .i64 0) (.int .i64 k3) (.int .i64 un) (.int .i64 1))
          have KZ := Lib.hid (keptO kDB (.inr hzN) (.int .i64 (5 + k0)) (.int .i64 pt) (.int .i64 (1 + k2)) (.int .i64 0) (.int .i64 k3) (.int .i64 un) (.int .i64 1))
          clear fN
          go_simp
          have hS2 := KZ.out
          have hS3 := HZ.out
          clear HZ KZ
          generalize (((((((wB.setCell ⟨N, 0, none⟩ (.int .i64 (5 + k0))).setCell ⟨N, 1, none⟩ (.int .i64 pt)).setCell ⟨N, 2, none⟩ (.int .i64 (1 + k2))).setCell ⟨N, 3, none⟩ (.int .i64 0)).setCell ⟨N, 4, none⟩ (.int .i64 k3)).setCell ⟨N, 5, none⟩ (.int .i64 un)).setCell ⟨N, 6, none⟩ (.int .i64 1)) = wZ at hS2 hS3 ⊢
          refine hK.out _ _ (show (fun w' => w'.cell? ⟨BZ, 0, none⟩ = some (Value.int IntKind.i64 z0) ∧ w'.cell? ⟨BZ, 1, none⟩ = some (Value.int IntKind.i64 z1) ∧ w'.cell? ⟨BZ, 2, none⟩ = some (Value.int IntKind.i64 z2) ∧ w'.cell? ⟨BZ, 3, none⟩ = some (Value.int IntKind.i64 z3) ∧ w'.cell? ⟨BZ, 4, none⟩ = some (Value.int IntKind.i64 z4) ∧ w'.cell? ⟨X, 0, none⟩ = some (Value.int IntKind.i64 b.round)) wZ from ⟨Gro.cell hS2 HS0.out.1, Gro.cell hS2 HS0.out.2.1, Gro.cell hS2 HS0.out.2.2.1, Gro.cell hS2 HS0.out.2.2.2.1, Gro.cell hS2 HS0.out.2.2.2.2.1, Gro.cell hS2 HS0.out.2.2.2.2.2⟩) (fun _ => ?_)
          clear hK K
          refine wpAnyH_done (by kernel_rfl) ?_ _
          clear hHeld
          try simp only [Act.put, lQa, lQb, lQc, lQd, lQe, lQf]
          have KZ := Lib.hid (KD.out.trans hS2)
          have HZ := Lib.hid hS3
          clear hS2 hS3 n0 n1 n2 n3 n4 n5 n6 ln f0 f1 f2 f3 f4 f5 f6
          go_wp2_with fail
          go_meet
          exact ⟨N, ⟨5 + k0, pt, 1 + k2, 0, k3, un, 1⟩, rfl, rfl, KZ.out, HZ.out⟩
         ·go_simp
          obtain ⟨wB, hT⟩ : ∃ wB, wB = wA.alloc (Obj.cells #[.int .i64 0, .int .i64 0, .int .i64 0, .int .i64 0, .int .i64 0, .int .i64 0, .int .i64 0] 30) := ⟨_, rfl⟩
          have kB : Gro wA wB := by rw [hT]; exact (Gro.refl _).alloc _
          have bN : wB.heap[wA.heap.size]? = some (.cells #[.int .i64 0, .int .i64 0, .int .i64 0, .int .i64 0, .int .i64 0, .int .i64 0, .int .i64 0] 30 (0, 0)) := by rw [hT]; exact blk_new _ _
          have lN := blk_lt bN
          have kDB := Gro.trans kDA kB
          obtain ⟨N, hN⟩ : ∃ N, N = wA.heap.size := ⟨_, rfl⟩
          have hzN : wD.heap.size ≤ N := by rw [hN]; exact (kDA).size
          rw [← hT]
          have hS2 : (fun w' => w'.cell? ⟨BZ, 0, none⟩ = some (Value.int IntKind.i64 z0) ∧ w'.cell? ⟨BZ, 1, none⟩ = some (Value.int IntKind.i64 z1) ∧ w'.cell? ⟨BZ, 2, none⟩ = some (Value.int IntKind.i64 z2) ∧ w'.cell? ⟨BZ, 3, none⟩ = some (Value.int IntKind.i64 z3) ∧ w'.cell? ⟨BZ, 4, none⟩ = some (Value.int IntKind.i64 z4) ∧ w'.cell? ⟨X, 0, none⟩ = some (Value.int IntKind.i64 b.round)) wB := ⟨Gro.cell kDB HS0.out.1, Gro.cell kDB HS0.out.2.1, Gro.cell kDB HS0.out.2.2.1, Gro.cell kDB HS0.out.2.2.2.1, Gro.cell kDB HS0.out.2.2.2.2.1, Gro.cell kDB HS0.out.2.2.2.2.2⟩
          clear hT
          rw [← hN] at bN lN ⊢
          clear hN
          have bA := kB.blk bA
          refine hK.out _ _ hS2 (fun hHeld => ?_)
          clear hK K hS2
          try simp only [Act.put, lQa, lQb, lQc, lQd, lQe, lQf]
          refine wpAnyH_ready (rs := [9]) (by kernel_rfl) (by simp) ?_
          refine AllReadyH.cons (i := 9) rfl (fun K hK => ?_) AllReadyH.nil
          have hc9 := HPT.out wB A bA
          go_simp
          refine hK.out _ _ hHeld (fun _ => ?_)
          clear hK K hc9
          try simp only [Act.put, lQa, lQb, lQc, lQd, lQe, lQf]
          refine wpAnyH_take (i := 24) (v := ?_) rfl (by kernel_rfl) (by kernel_rfl) (by kernel_rfl) (fun _ _ _ h => h) (Or.inl ⟨rfl, ?_⟩) hHeld ?_
          rotate_left
          ·(intro w hSw; obtain ⟨v0, v1, v2, v3, v4, x0⟩ := hSw; have hlB := World.block_lt_of_cell? _ _ v0; have hlX := World.block_lt_of_cell? _ _ x0; go_simp; first | done | with_reducible rfl | (simp only [HUN.out]; done) | trace_state)
          simp only [Act.put, lQa, lQb, lQc, lQd, lQe, lQf]
          refine wpAnyH_ready (rs := [26]) (by kernel_rfl) (by simp) ?_
          refine AllReadyH.cons (i := 26) rfl (fun K hK => ?_) AllReadyH.nil
          obtain ⟨n0, n1, n2, n3, n4, n5, n6, ln⟩ := cells7 bN
          have fN := blk_frozen bN
          have f0 := fN 0
          have f1 := fN 1
          have f2 := fN 2
          have f3 := fN 3
          have f4 := fN 4
          have f5 := fN 5
          have f6 := fN 6
          have HZ := Lib.hid (setO bN (.int .i64 (5 + k0)) (.int .i64 pt) (.int .i64 (1 + k2)) (.int .i64 0) (.int .i64 k3) (.int .i64 un) (.int .i64 1))
          have KZ := Lib.hid (keptO kDB (.inr hzN) (.int .i64 (5 + k0)) (.int .i64 pt) (.int .i64 (1 + k2)) (.int .i64 0) (.int .i64 k3) (.int .i64 un) (.int .i64 1))
          clear fN
          go_simp
          have hS2 := KZ.out
          have hS3 := HZ.out
          clear HZ KZ
          generalize (((((((wB.setCell ⟨N, 0, none⟩ (.int .i64 (5 + k0))).setCell ⟨N, 1, none⟩ (.int .i64 pt)).setCell ⟨N, 2, none⟩ (.int .i64 (1 + k2))).setCell ⟨N, 3, none⟩ (.int .i64 0)).setCell ⟨N, 4, none⟩ (.int .i64 k3)).setCell ⟨N, 5, none⟩ (.int .i64 un)).setCell ⟨N, 6, none⟩ (.int .i64 1)) = wZ at hS2 hS3 ⊢
          refine hK.out _ _ (show (fun w' => w'.cell? ⟨BZ, 0, none⟩ = some (Value.int IntKind.i64 z0) ∧ w'.cell? ⟨BZ, 1, none⟩ = some (Value.int IntKind.i64 z1) ∧ w'.cell? ⟨BZ, 2, none⟩ = some (Value.int IntKind.i64 z2) ∧ w'.cell? ⟨BZ, 3, none⟩ = some (Value.int IntKind.i64 z3) ∧ w'.cell? ⟨BZ, 4, none⟩ = some (Value.int IntKind.i64 z4) ∧ w'.cell? ⟨X, 0, none⟩ = some (Value.int IntKind.i64 b.round)) wZ from ⟨Gro.cell hS2 HS0.out.1, Gro.cell hS2 HS0.out.2.1, Gro.cell hS2 HS0.out.2.2.1, Gro.cell hS2 HS0.out.2.2.2.1, Gro.cell hS2 HS0.out.2.2.2.2.1, Gro.cell hS2 HS0.out.2.2.2.2.2⟩) (fun _ => ?_)
          clear hK K
          refine wpAnyH_done (by kernel_rfl) ?_ _
          clear hHeld
          try simp only [Act.put, lQa, lQb, lQc, lQd, lQe, lQf]
          have KZ := Lib.hid (KD.out.trans hS2)
          have HZ := Lib.hid hS3
          clear hS2 hS3 n0 n1 n2 n3 n4 n5 n6 ln f0 f1 f2 f3 f4 f5 f6
          go_wp2_with fail
          go_meet
          exact ⟨N, ⟨5 + k0, pt, 1 + k2, 0, k3, un, 1⟩, rfl, rfl, KZ.out, HZ.out⟩
        ·go_simp
         obtain ⟨wB, hT⟩ : ∃ wB, wB = wD.alloc (Obj.cells #[.int .i64 0, .int .i64 0, .int .i64 0, .int .i64 0, .int .i64 0, .int .i64 0, .int .i64 0] 30) := ⟨_, rfl⟩
         have kB : Gro wD wB := by rw [hT]; exact (Gro.refl _).alloc _
         have bN : wB.heap[wD.heap.size]? = some (.cells #[.int .i64 0, .int .i64 0, .int .i64 0, .int .i64 0, .int .i64 0, .int .i64 0, .int .i64 0] 30 (0, 0)) := by rw [hT]; exact blk_new _ _
         have lN := blk_lt bN
         have kDB := Gro.trans (Gro.refl wD) kB
         obtain ⟨N, hN⟩ : ∃ N, N = wD.heap.size := ⟨_, rfl⟩
         have hzN : wD.heap.size ≤ N := by rw [hN]; exact ((Gro.refl wD)).size
         rw [← hT]
         have hS2 : (fun w' => w'.cell? ⟨BZ, 0, none⟩ = some (Value.int IntKind.i64 z0) ∧ w'.cell? ⟨BZ, 1, none⟩ = some (Value.int IntKind.i64 z1) ∧ w'.cell? ⟨BZ, 2, none⟩ = some (Value.int IntKind.i64 z2) ∧ w'.cell? ⟨BZ, 3, none⟩ = some (Value.int IntKind.i64 z3) ∧ w'.cell? ⟨BZ, 4, none⟩ = some (Value.int IntKind.i64 z4) ∧ w'.cell? ⟨X, 0, none⟩ = some (Value.int IntKind.i64 b.round)) wB := ⟨Gro.cell kDB HS0.out.1, Gro.cell kDB HS0.out.2.1, Gro.cell kDB HS0.out.2.2.1, Gro.cell kDB HS0.out.2.2.2.1, Gro.cell kDB HS0.out.2.2.2.2.1, Gro.cell kDB HS0.out.2.2.2.2.2⟩
         clear hT
         rw [← hN] at bN lN ⊢
         clear hN
         refine hK.out _ _ hS2 (fun hHeld => ?_)
         clear hK K hS2
         try simp only [Act.put, lQa, lQb, lQc, lQd, lQe, lQf]
         refine wpAnyH_ready (rs := [4]) (by kernel_rfl) (by simp) ?_
         refine AllReadyH.cons (i := 4) rfl (fun K hK => ?_) AllReadyH.nil
         go_simp
         obtain ⟨wA, hT⟩ : ∃ wA, wA = wB.alloc (Obj.cells #[.int .i64 0, .int .i64 2, .int .i64 5] 3) := ⟨_, rfl⟩
         have kA : Gro wB wA := by rw [hT]; exact (Gro.refl _).alloc _
         have bA : wA.heap[wB.heap.size]? = some (.cells #[.int .i64 0, .int .i64 2, .int .i64 5] 3 (0, 0)) := by rw [hT]; exact blk_new _ _
         have lA := blk_lt bA
         have kDA := Gro.trans kDB kA
         obtain ⟨A, hN⟩ : ∃ N, N = wB.heap.size := ⟨_, rfl⟩
         have hzA : wD.heap.size ≤ A := by rw [hN]; exact (kDB).size
         rw [← hT]
         have hS2 : (fun w' => w'.cell? ⟨BZ, 0, none⟩ = some (Value.int IntKind.i64 z0) ∧ w'.cell? ⟨BZ, 1, none⟩ = some (Value.int IntKind.i64 z1) ∧ w'.cell? ⟨BZ, 2, none⟩ = some (Value.int IntKind.i64 z2) ∧ w'.cell? ⟨BZ, 3, none⟩ = some (Value.int IntKind.i64 z3) ∧ w'.cell? ⟨BZ, 4, none⟩ = some (Value.int IntKind.i64 z4) ∧ w'.cell? ⟨X, 0, none⟩ = some (Value.int IntKind.i64 b.round)) wA := ⟨Gro.cell kDA HS0.out.1, Gro.cell kDA HS0.out.2.1, Gro.cell kDA HS0.out.2.2.1, Gro.cell kDA HS0.out.2.2.2.1, Gro.cell kDA HS0.out.2.2.2.2.1, Gro.cell kDA HS0.out.2.2.2.2.2⟩
         clear hT
         rw [← hN] at bA lA ⊢
         clear hN
         have bN := kA.blk bN
         refine hK.out _ _ hS2 (fun hHeld => ?_)
         clear hK K hS2
         try simp only [Act.put, lQa, lQb, lQc, lQd, lQe, lQf]
         refine wpAnyH_take (i := 8) (v := ?_) rfl (by kernel_rfl) (by kernel_rfl) (by kernel_rfl) (fun _ _ _ h => h) (Or.inl ⟨rfl, ?_⟩) hHeld ?_
         rotate_left
         ·(intro w hSw; obtain ⟨v0, v1, v2, v3, v4, x0⟩ := hSw; have hlB := World.block_lt_of_cell? _ _ v0; have hlX := World.block_lt_of_cell? _ _ x0; go_simp; first | done | with_reducible rfl | (simp only [HUN.out]; done) | trace_state)
         simp only [Act.put, lQa, lQb, lQc, lQd, lQe, lQf]
         refine wpAnyH_ready (rs := [9]) (by kernel_rfl) (by simp) ?_
         refine AllReadyH.cons (i := 9) rfl (fun K hK => ?_) AllReadyH.nil
         have hc9 := HPT.out wA A bA
         go_simp
         refine hK.out _ _ hHeld (fun _ => ?_)
         clear hK K hc9
         try simp only [Act.put, lQa, lQb, lQc, lQd, lQe, lQf]
         refine wpAnyH_take (i := 24) (v := ?_) rfl (by kernel_rfl) (by kernel_rfl) (by kernel_rfl) (fun _ _ _ h => h) (Or.inl ⟨rfl, ?_⟩) hHeld ?_
         rotate_left
         ·(intro w hSw; obtain ⟨v0, v1, v2, v3, v4, x0⟩ := hSw; have hlB := World.block_lt_of_cell? _ _ v0; have hlX := World.block_lt_of_cell? _ _ x0; go_simp; first | done | with_reducible rfl | (simp only [HUN.out]; done) | trace_state)
         simp only [Act.put, lQa, lQb, lQc, lQd, lQe, lQf]
         refine wpAnyH_ready (rs := [26]) (by kernel_rfl) (by simp) ?_
         refine AllReadyH.cons (i := 26) rfl (fun K hK => ?_) AllReadyH.nil
         obtain ⟨n0, n1, n2, n3, n4, n5, n6, ln⟩ := cells7 bN
         have fN := blk_frozen bN
         have f0 := fN 0
         have f1 := fN 1
         have f2 := fN 2
         have f3 := fN 3
         have f4 := fN 4
         have f5 := fN 5
         have f6 := fN 6
         have HZ := Lib.hid (setO bN (.int .i64 (5 + k0)) (.int .i64 pt) (.int .i64 (1 + k2)) (.int .i64 0) (.int .i64 k3) (.int .i64 un) (.int .i64 1))
         have KZ := Lib.hid (keptO kDA (.inr hzN) (.int .i64 (5 + k0)) (.int .i64 pt) (.int .i64 (1 + k2)) (.int .i64 0) (.int .i64 k3) (.int .i64 un) (.int .i64 1))
         clear fN
         go_simp
         have hS2 := KZ.out
         have hS3 := HZ.out
         clear HZ KZ
         generalize (((((((wA.setCell ⟨N, 0, none⟩ (.int .i64 (5 + k0))).setCell ⟨N, 1, none⟩ (.int .i64 pt)).setCell ⟨N, 2, none⟩ (.int .i64 (1 + k2))).setCell ⟨N, 3, none⟩ (.int .i64 0)).setCell ⟨N, 4, none⟩ (.int .i64 k3)).setCell ⟨N, 5, none⟩ (.int .i64 un)).setCell ⟨N, 6, none⟩ (.int .i64 1)) = wZ at hS2 hS3 ⊢
         refine hK.out _ _ (show (fun w' => w'.cell? ⟨BZ, 0, none⟩ = some (Value.int IntKind.i64 z0) ∧ w'.cell? ⟨BZ, 1, none⟩ = some (Value.int IntKind.i64 z1) ∧ w'.cell? ⟨BZ, 2, none⟩ = some (Value.int IntKind.i64 z2) ∧ w'.cell? ⟨BZ, 3, none⟩ = some (Value.int IntKind.i64 z3) ∧ w'.cell? ⟨BZ, 4, none⟩ = some (Value.int IntKind.i64 z4) ∧ w'.cell? ⟨X, 0, none⟩ = some (Value.int IntKind.i64 b.round)) wZ from ⟨Gro.cell hS2 HS0.out.1, Gro.cell hS2 HS0.out.2.1, Gro.cell hS2 HS0.out.2.2.1, Gro.cell hS2 HS0.out.2.2.2.1, Gro.cell hS2 HS0.out.2.2.2.2.1, Gro.cell hS2 HS0.out.2.2.2.2.2⟩) (fun _ => ?_)
         clear hK K
         refine wpAnyH_done (by kernel_rfl) ?_ _
         clear hHeld
         try simp only [Act.put, lQa, lQb, lQc, lQd, lQe, lQf]
         have KZ := Lib.hid (KD.out.trans hS2)
         have HZ := Lib.hid hS3
         clear hS2 hS3 n0 n1 n2 n3 n4 n5 n6 ln f0 f1 f2 f3 f4 f5 f6
         go_wp2_with fail
         go_meet
         exact ⟨N, ⟨5 + k0, pt, 1 + k2, 0, k3, un, 1⟩, rfl, rfl, KZ.out, HZ.out⟩⟩
      exact (show Nonempty auxP from inferInstanceAs (Nonempty auxP)).elim id
    case rest =>
      obtain ⟨Q, q, rfl, hqs, k6, hq⟩ := hcut
      have HB := Lib.hid (HB.out.step k6)
      have HP := Lib.hid (k6.blk HP.out)
      have HQ := Lib.hid hq
      clear k6 hq P0 P1 P2 P3 P4 hw0 hw2 hw4 HUN HPT
      have HPS := Lib.hid hps
      have HQS := Lib.hid hqs
      clear hps hqs K3 B3 K4 R4
      obtain ⟨r0, r1, r2, rl⟩ := cells3 HB.out.rb
      obtain ⟨x0, x1, x2, x3, xl⟩ := cells4 HB.out.xb
      obtain ⟨oP0, oP1, oP2, oP3, oP4, oP5, oP6, oPl⟩ := cells7 HP.out
      go_wp2_with fail
      refine ((add18 (HG.out.old HB.out.kp) HB.out.bv HB.out.vb.fits p).mono BPost.of).mono ?_
      rintro _ w8 ⟨a, E1, aa1, ac1, aa2, ac2, aa3, ac3, rfl, kx, hv, ho⟩
      have HV := Lib.hid hv
      have HOa := Lib.hid ho
      clear hv ho
      have HB := Lib.hid (HB.out.step kx)
      have HP := Lib.hid (kx.blk HP.out)
      have HQ := Lib.hid (kx.blk HQ.out)
      clear kx r0 r1 r2 rl x0 x1 x2 x3 xl oP0 oP1 oP2 oP3 oP4 oP5 oP6 oPl
      obtain ⟨r0, r1, r2, rl⟩ := cells3 HB.out.rb
      obtain ⟨oQ0, oQ1, oQ2, oQ3, oQ4, oQ5, oQ6, oQl⟩ := cells7 HQ.out
      go_wp2_with fail
      obtain ⟨w9, hW⟩ : ∃ w9, w9 = w8.alloc (Obj.cells #[.int .i64 a.round, .slice aa1 a.ps.length ac1, .slice aa2 a.os.length ac2, .slice aa3 a.ws.length ac3] 28) := ⟨_, rfl⟩
      have kx : Gro w8 w9 := by rw [hW]; exact (Gro.refl _).alloc _
      have HA := Lib.hid (⟨by rw [hW]; exact blk_new _ _, HV.out.gro kx⟩ : BB w9 w8.heap.size a aa1 ac1 aa2 ac2 aa3 ac3)
      rw [← hW]
      clear hW HV
      have HB := Lib.hid (HB.out.step kx)
      have HP := Lib.hid (kx.blk HP.out)
      have HQ := Lib.hid (kx.blk HQ.out)
      clear kx r0 r1 r2 rl oQ0 oQ1 oQ2 oQ3 oQ4 oQ5 oQ6 oQl
      generalize w8.heap.size = NA at HA ⊢
      refine ((add18 (HG.out.old HB.out.kp) HA.out.val (or_fits HVG.out HOa.out) q).mono BPost.of).mono ?_
      rintro _ w10 ⟨c, E2, ca1, cc1, ca2, cc2, ca3, cc3, rfl, kx, hv, ho⟩
      have HV := Lib.hid hv
      have HOc := Lib.hid ho
      clear hv ho
      have HB := Lib.hid (HB.out.step kx)
      have HP := Lib.hid (kx.blk HP.out)
      have HQ := Lib.hid (kx.blk HQ.out)
      have HA := Lib.hid (HA.out.step kx)
      clear kx
      obtain ⟨r0, r1, r2, rl⟩ := cells3 HB.out.rb
      obtain ⟨x0, x1, x2, x3, xl⟩ := cells4 HB.out.xb
      obtain ⟨oQ0, oQ1, oQ2, oQ3, oQ4, oQ5, oQ6, oQl⟩ := cells7 HQ.out
      go_wp2_with fail
      obtain ⟨w11, hW⟩ : ∃ w11, w11 = w10.alloc (Obj.cells #[.int .i64 c.round, .slice ca1 c.ps.length cc1, .slice ca2 c.os.length cc2, .slice ca3 c.ws.length cc3] 28) := ⟨_, rfl⟩
      have kx : Gro w10 w11 := by rw [hW]; exact (Gro.refl _).alloc _
      have HC := Lib.hid (⟨by rw [hW]; exact blk_new _ _, HV.out.gro kx⟩ : BB w11 w10.heap.size c ca1 cc1 ca2 cc2 ca3 cc3)
      rw [← hW]
      clear hW HV
      have HB := Lib.hid (HB.out.step kx)
      have HP := Lib.hid (kx.blk HP.out)
      have HQ := Lib.hid (kx.blk HQ.out)
      have HA := Lib.hid (HA.out.step kx)
      clear kx r0 r1 r2 rl x0 x1 x2 x3 xl oQ0 oQ1 oQ2 oQ3 oQ4 oQ5 oQ6 oQl
      generalize w10.heap.size = NC at HC ⊢
      refine ((add18 (HG.out.old HB.out.kp) HB.out.bv HB.out.vb.fits q).mono BPost.of).mono ?_
      rintro _ w12 ⟨d, E3, da1, dc1, da2, dc2, da3, dc3, rfl, kx, hv, ho⟩
      have HV := Lib.hid hv
      have HOd := Lib.hid ho
      clear hv ho
      have HB := Lib.hid (HB.out.step kx)
      have HP := Lib.hid (kx.blk HP.out)
      have HQ := Lib.hid (kx.blk HQ.out)
      have HA := Lib.hid (HA.out.step kx)
      have HC := Lib.hid (HC.out.step kx)
      clear kx
      obtain ⟨r0, r1, r2, rl⟩ := cells3 HB.out.rb
      obtain ⟨oP0, oP1, oP2, oP3, oP4, oP5, oP6, oPl⟩ := cells7 HP.out
      go_wp2_with fail
      obtain ⟨w13, hW⟩ : ∃ w13, w13 = w12.alloc (Obj.cells #[.int .i64 d.round, .slice da1 d.ps.length dc1, .slice da2 d.os.length dc2, .slice da3 d.ws.length dc3] 28) := ⟨_, rfl⟩
      have kx : Gro w12 w13 := by rw [hW]; exact (Gro.refl _).alloc _
      have HD := Lib.hid (⟨by rw [hW]; exact blk_new _ _, HV.out.gro kx⟩ : BB w13 w12.heap.size d da1 dc1 da2 dc2 da3 dc3)
      rw [← hW]
      clear hW HV
      have HB := Lib.hid (HB.out.step kx)
      have HP := Lib.hid (kx.blk HP.out)
      have HQ := Lib.hid (kx.blk HQ.out)
      have HA := Lib.hid (HA.out.step kx)
      have HC := Lib.hid (HC.out.step kx)
      clear kx r0 r1 r2 rl oP0 oP1 oP2 oP3 oP4 oP5 oP6 oPl
      generalize w12.heap.size = ND at HD ⊢
      refine ((add18 (HG.out.old HB.out.kp) HD.out.val (or_fits HVG.out HOd.out) p).mono BPost.of).mono ?_
      rintro _ w14 ⟨u, E4, ua1, uc1, ua2, uc2, ua3, uc3, rfl, kx, hv, ho⟩
      have HV := Lib.hid hv
      have HOu := Lib.hid ho
      clear hv ho
      have HB := Lib.hid (HB.out.step kx)
      have HP := Lib.hid (kx.blk HP.out)
      have HQ := Lib.hid (kx.blk HQ.out)
      have HA := Lib.hid (HA.out.step kx)
      have HC := Lib.hid (HC.out.step kx)
      have HD := Lib.hid (HD.out.step kx)
      clear kx
      go_upto_region 12 with fail
      obtain ⟨w15, hW⟩ : ∃ w15, w15 = w14.alloc (Obj.cells #[.int .i64 u.round, .slice ua1 u.ps.length uc1, .slice ua2 u.os.length uc2, .slice ua3 u.ws.length uc3] 28) := ⟨_, rfl⟩
      have kx : Gro w14 w15 := by rw [hW]; exact (Gro.refl _).alloc _
      have HU := Lib.hid (⟨by rw [hW]; exact blk_new _ _, HV.out.gro kx⟩ : BB w15 w14.heap.size u ua1 uc1 ua2 uc2 ua3 uc3)
      rw [← hW]
      clear hW HV
      have HB := Lib.hid (HB.out.step kx)
      have HP := Lib.hid (kx.blk HP.out)
      have HQ := Lib.hid (kx.blk HQ.out)
      have HA := Lib.hid (HA.out.step kx)
      have HC := Lib.hid (HC.out.step kx)
      have HD := Lib.hid (HD.out.step kx)
      clear kx
      generalize w14.heap.size = NU at HU ⊢
      go_cut [146] (fun t wx => t = .bool false ∧ Gro w15 wx)
      case first =>
        refine nameGoal fun auxP auxH _ => ?_
        letI auxN : Nonempty auxP := ⟨by
          refine auxH ?_
          obtain ⟨bC0, bC1, bC2, bC3, bCl⟩ := cells4 HC.out.blk
          obtain ⟨bU0, bU1, bU2, bU3, bUl⟩ := cells4 HU.out.blk
          obtain ⟨oP0, oP1, oP2, oP3, oP4, oP5, oP6, oPl⟩ := cells7 HP.out
          obtain ⟨oQ0, oQ1, oQ2, oQ3, oQ4, oQ5, oQ6, oQl⟩ := cells7 HQ.out
          by_cases hpq : p.id = q.id
          · have hd : (p.id != q.id) = false := by simpa using hpq
            clear hpq
            go_wp2_with fail
            go_meet
            exact ⟨rfl, Gro.refl _⟩
          · have hd : (p.id != q.id) = true := by simpa using hpq
            have HPQ := Lib.hid hpq
            clear hpq
            rcases HOa.out with ⟨ha, rfl⟩ | ⟨_, _, rfl⟩
            · rcases HOc.out with ⟨hc, rfl⟩ | ⟨_, _, rfl⟩
              · obtain ⟨d', h1, h2⟩ := add_swap HPQ.out ha hc
                have hd1 : d = d' ∧ E3 = 0 := by
                  rcases HOd.out with ⟨h, e⟩ | ⟨h, _⟩
                  · rw [h1] at h; injection h with h; exact ⟨h.symm, e⟩
                  · rw [h1] at h; cases h
                have hu1 : c = u ∧ E4 = 0 := by
                  rcases HOu.out with ⟨h, e⟩ | ⟨h, _⟩
                  · rw [hd1.1, h2] at h; injection h with h; exact ⟨h, e⟩
                  · rw [hd1.1, h2] at h; cases h
                obtain ⟨hd2, rfl⟩ := hd1
                obtain ⟨hcu, rfl⟩ := hu1
                have HCU := Lib.hid hcu
                clear hcu h1 h2 ha hc hd2 d'
                go_wp2_with fail
                refine (same16 HC.out.val HU.out.val).mono ?_
                rintro _ wz ⟨rfl, kz⟩
                rw [decide_eq_true HCU.out]
                have KZ := Lib.hid kz
                clear kz bC0 bC1 bC2 bC3 bCl bU0 bU1 bU2 bU3 bUl oP0 oP1 oP2 oP3 oP4 oP5 oP6 oPl oQ0 oQ1 oQ2 oQ3 oQ4 oQ5 oQ6 oQl
                go_wp2_with fail
                go_meet
                exact ⟨rfl, KZ.out⟩
              · go_wp2_with fail
                go_meet
                exact ⟨rfl, Gro.refl _⟩
            · go_wp2_with fail
              go_meet
              exact ⟨rfl, Gro.refl _⟩⟩
        exact (show Nonempty auxP from inferInstanceAs (Nonempty auxP)).elim id
      case rest =>
        obtain ⟨rfl, kx⟩ := hcut
        have HB := Lib.hid (HB.out.step kx)
        have HP := Lib.hid (kx.blk HP.out)
        have HA := Lib.hid (HA.out.step kx)
        clear kx HQ HC HD HU HOc HOd HOu HQS
        rcases HOa.out with ⟨ha, rfl⟩ | ⟨_, _, rfl⟩
        rotate_left
        · go_wp2_with fail
          go_ret
          exact (show Truth w _ _ from ⟨rfl, HKW.out.trans HB.out.gro⟩)
        obtain ⟨hva, hpm⟩ : VB g a ∧ p ∈ a.os := by
          obtain ⟨_, _, _, h, hv⟩ := chk_inv ha
          exact ⟨hv, by rw [h]; exact mem_putO.2 (.inl rfl)⟩
        have HST : Hid (Stand g a p) := Lib.hid ⟨hva, hpm, HPS.out⟩
        clear ha hva hpm HOa
        obtain ⟨bA0, bA1, bA2, bA3, bAl⟩ := cells4 HA.out.blk
        go_wp2_with fail
        have hXN : X < wc.heap.size := blk_lt HB.out.xb
        have hPN : P < wc.heap.size := blk_lt HP.out
        have HV := Lib.hid HA.out.val
        obtain ⟨w16, hW⟩ : ∃ w16, w16 = wc.alloc (Obj.cells #[.int .i64 a.round, .slice aa1 a.ps.length ac1, .slice aa2 a.os.length ac2, .slice aa3 a.ws.length ac3] 28) := ⟨_, rfl⟩
        have kx : Gro wc w16 := by rw [hW]; exact (Gro.refl _).alloc _
        have HN := Lib.hid (⟨by rw [hW]; exact blk_new _ _, HV.out.gro kx⟩ : BB w16 wc.heap.size a aa1 ac1 aa2 ac2 aa3 ac3)
        rw [← hW]
        clear hW HV
        have HB := Lib.hid (HB.out.step kx)
        have HP := Lib.hid (kx.blk HP.out)
        clear kx HA bA0 bA1 bA2 bA3 bAl
        generalize wc.heap.size = NN at HN hXN hPN ⊢
        go_loopg [28] (p.until_ - a.round).toNat (fun k t wr => ∃ (e : Bk) (ea1 : Option Addr) (ec1 : Nat) (ea2 : Option Addr) (ec2 : Nat) (ea3 : Option Addr) (ec3 : Nat), k = (p.until_ - e.round).toNat ∧ Hid (Stand g e p) ∧ Hid (LB W1 w2 wr g #[.slice g1 g.vs.length gc1, .slice g2 g.es.length gc2, .slice g3 g.ds.length gc3] w2.heap.size X b a1 b.ps.length c1 a2 b.os.length c2 a3 b.ws.length c3) ∧ Hid (BB wr NN e ea1 ec1 ea2 ec2 ea3 ec3) ∧ Hid (wr.heap[P]? = some (.cells #[.int .i64 p.id, .int .i64 p.party, .int .i64 p.side, .int .i64 p.place, .int .i64 p.price, .int .i64 p.until_, .int .i64 p.state] 30 (0, 0))))
        case atStart => exact ⟨a, _, _, _, _, _, _, rfl, HST, HB, HN, HP⟩
        case round =>
          clear HST HB HN HP
          obtain ⟨e, ea1, ec1, ea2, ec2, ea3, ec3, hk, HST, HB, HN, HP⟩ := hrel
          have HK := Lib.hid hk
          have hun := HST.out.until_
          clear hk
          obtain ⟨r0, r1, r2, rl⟩ := cells3 HB.out.rb
          obtain ⟨bN0, bN1, bN2, bN3, bNl⟩ := cells4 HN.out.blk
          obtain ⟨oP0, oP1, oP2, oP3, oP4, oP5, oP6, oPl⟩ := cells7 HP.out
          by_cases hlt : e.round < p.until_
          · skip
            refine nameGoal fun auxP auxH _ => ?_
            letI auxN : Nonempty auxP := ⟨by
              refine auxH ?_
              have hd := decide_eq_true hlt
              obtain ⟨hr30, hst2, hrd⟩ := HST.out.next hlt
              have hr0 := inB_iff.1 HST.out.vb.rd
              have hw : IntKind.i64.wrap (e.round + 1) = e.round + 1 := by rw [IntKind.wrap_i64]; omega
              have HST2 := Lib.hid hst2
              have HRD := Lib.hid hrd
              clear hst2 hrd
              go_wp2_with fail
              refine ((next26 (HG.out.old HB.out.kp) HN.out.val HST.out.vb.fits).mono BPost.of).mono ?_
              rintro _ V ⟨f, E, fa1, fc1, fa2, fc2, fa3, fc3, rfl, kx, hv, ho⟩
              obtain ⟨hf, rfl⟩ : f = nextB e e.os.length ∧ E = 0 := by
                rw [chk_next HST.out.vb hr30] at ho
                rcases ho with ⟨h, e⟩ | ⟨h, _⟩
                · injection h with h; exact ⟨h.symm, e⟩
                · cases h
              rw [← hf] at HST2 HRD
              have hfr : (f.round != e.round + 1) = false := by rw [HRD.out]; simp
              have HV := Lib.hid hv
              have HB := Lib.hid (HB.out.step kx)
              have HP := Lib.hid (kx.blk HP.out)
              have HN := Lib.hid (HN.out.step kx)
              clear kx r0 r1 r2 rl bN0 bN1 bN2 bN3 bNl oP0 oP1 oP2 oP3 oP4 oP5 oP6 oPl ho hf hv
              obtain ⟨bN0, bN1, bN2, bN3, bNl⟩ := cells4 HN.out.blk
              go_upto_if 175 with fail
              obtain ⟨w17, hW⟩ : ∃ w17, w17 = V.alloc (Obj.cells #[.int .i64 f.round, .slice fa1 f.ps.length fc1, .slice fa2 f.os.length fc2, .slice fa3 f.ws.length fc3] 28) := ⟨_, rfl⟩
              have kx : Gro V w17 := by rw [hW]; exact (Gro.refl _).alloc _
              have HF := Lib.hid (⟨by rw [hW]; exact blk_new _ _, HV.out.gro kx⟩ : BB w17 V.heap.size f fa1 fc1 fa2 fc2 fa3 fc3)
              rw [← hW]
              clear hW HV
              have HB := Lib.hid (HB.out.step kx)
              have HP := Lib.hid (kx.blk HP.out)
              have HN := Lib.hid (HN.out.step kx)
              clear kx bN0 bN1 bN2 bN3 bNl
              generalize V.heap.size = NF at HF ⊢
              obtain ⟨bN0, bN1, bN2, bN3, bNl⟩ := cells4 HN.out.blk
              obtain ⟨bF0, bF1, bF2, bF3, bFl⟩ := cells4 HF.out.blk
              have fN := blk_frozen HN.out.blk
              have fn0 := fN 0
              have fn1 := fN 1
              have fn2 := fN 2
              have fn3 := fN 3
              clear fN
              have HNEW : Hid (∀ W, W = ((((w17.setCell ⟨NN, 0, none⟩ (.int .i64 f.round)).setCell ⟨NN, 1, none⟩ (.slice fa1 f.ps.length fc1)).setCell ⟨NN, 2, none⟩ (.slice fa2 f.os.length fc2)).setCell ⟨NN, 3, none⟩ (.slice fa3 f.ws.length fc3)) → Hid (LB W1 w2 W g #[.slice g1 g.vs.length gc1, .slice g2 g.es.length gc2, .slice g3 g.ds.length gc3] w2.heap.size X b a1 b.ps.length c1 a2 b.os.length c2 a3 b.ws.length c3) ∧ Hid (BB W NN f fa1 fc1 fa2 fc2 fa3 fc3) ∧ Hid (W.heap[P]? = some (.cells #[.int .i64 p.id, .int .i64 p.party, .int .i64 p.side, .int .i64 p.place, .int .i64 p.price, .int .i64 p.until_, .int .i64 p.state] 30 (0, 0)))) := Lib.hid (fun W hW => by
                have kk := kept4 (Kept.refl (· = NN) w17) (.inl rfl) (.int .i64 f.round) (.slice fa1 f.ps.length fc1) (.slice fa2 f.os.length fc2) (.slice fa3 f.ws.length fc3)
                rw [← hW] at kk
                exact ⟨Lib.hid (HB.out.other kk hXN HN.out.blk), Lib.hid ⟨by rw [hW]; exact set4 HN.out.blk _ _ _ _, HF.out.val.far kk HN.out.blk⟩, Lib.hid (Kept.blk kk HP.out (by omega))⟩)
              go_wp2_with fail
              go_roundg (p.until_ - f.round).toNat
              case measure => have := HK.out; have := HRD.out; omega
              case rel =>
                obtain ⟨h1, h2, h3⟩ := HNEW.out _ rfl
                exact ⟨f, _, _, _, _, _, _, rfl, HST2, h1, h2, h3⟩⟩
            exact (show Nonempty auxP from inferInstanceAs (Nonempty auxP)).elim id
          · skip
            refine nameGoal fun auxP auxH _ => ?_
            letI auxN : Nonempty auxP := ⟨by
              refine auxH ?_
              have hd := decide_eq_false hlt
              have HUN := Lib.hid (show p.until_ = e.round by omega)
              clear hlt hun HK
              go_wp2_with fail
              obtain ⟨k, hk, hfi, hek⟩ := HST.out.at_
              refine (find40 HN.out.val HST.out.vb.fits.bfew p.id).mono ?_
              rintro _ V ⟨rfl, kx⟩
              rw [hfi]
              have HB := Lib.hid (HB.out.step kx)
              have HP := Lib.hid (kx.blk HP.out)
              have HN := Lib.hid (HN.out.step kx)
              clear kx hfi r0 r1 r2 rl bN0 bN1 bN2 bN3 bNl oP0 oP1 oP2 oP3 oP4 oP5 oP6 oPl
              have hlo := HST.out.vb.lens
              have hk0 : decide ((k : Int) < 0) = false := decide_eq_false (by omega)
              go_wp2_with fail
              obtain ⟨bN0, bN1, bN2, bN3, bNl⟩ := cells4 HN.out.blk
              obtain ⟨oP0, oP1, oP2, oP3, oP4, oP5, oP6, oPl⟩ := cells7 HP.out
              obtain ⟨_, _, hl2, _⟩ := HN.out.val.lists
              obtain ⟨ob, oo, rfl, hob, hoc⟩ := hl2.base hk
              obtain ⟨e0, e1, e2, e3, e4, e5, e6⟩ := ocells hoc hk
              rw [hek] at e0 e1 e2 e3 e4 e5 e6
              have hlo2 := World.block_lt_of_cell? _ _ e0
              have HEK := Lib.hid hek
              clear hoc hl2 hek hob
              have bN2 := gcell bN2
              have oP0 := gcell oP0
              have oP1 := gcell oP1
              have oP2 := gcell oP2
              have oP3 := gcell oP3
              have oP4 := gcell oP4
              have oP5 := gcell oP5
              have oP6 := gcell oP6
              have e0 := gcell e0
              have e1 := gcell e1
              have e2 := gcell e2
              have e3 := gcell e3
              have e4 := gcell e4
              have e5 := gcell e5
              have e6 := gcell e6
              go_quiet_grown (fail)
              have kq := gro_of_grow V nq osq
              dsimp only at kq ⊢
              clear bN2 oP0 oP1 oP2 oP3 oP4 oP5 oP6 e0 e1 e2 e3 e4 e5 e6 bN0 bN1 bN3 bNl oPl hlo2
              generalize Go.Sort.grow (V.drewN nq) osq = w3 at kq ⊢
              have HB := Lib.hid (HB.out.step kq)
              have HP := Lib.hid (kq.blk HP.out)
              have HN := Lib.hid (HN.out.step kq)
              clear kq
              obtain ⟨r0, r1, r2, rl⟩ := cells3 HB.out.rb
              obtain ⟨bN0, bN1, bN2, bN3, bNl⟩ := cells4 HN.out.blk
              obtain ⟨oP0, oP1, oP2, oP3, oP4, oP5, oP6, oPl⟩ := cells7 HP.out
              go_wp2_with fail
              refine ((next26 (HG.out.old HB.out.kp) HN.out.val HST.out.vb.fits).mono BPost.of).mono ?_
              rintro _ V2 ⟨f, E, fa1, fc1, fa2, fc2, fa3, fc3, rfl, kx, hv, ho⟩
              have HV := Lib.hid hv
              have HO := Lib.hid ho
              have HB := Lib.hid (HB.out.step kx)
              have HP := Lib.hid (kx.blk HP.out)
              have HN := Lib.hid (HN.out.step kx)
              clear kx r0 r1 r2 rl bN0 bN1 bN2 bN3 bNl oP0 oP1 oP2 oP3 oP4 oP5 oP6 oPl ho hv
              by_cases h30 : e.round = 30
              · obtain rfl : E = 270 := by
                  have ho := HO.out
                  rw [chk_next_none (by omega)] at ho
                  rcases ho with ⟨h, _⟩ | ⟨_, _, h⟩
                  · cases h
                  · exact h
                have h3 : (e.round == 30) = true := by simpa using h30
                clear h30
                obtain ⟨bN0, bN1, bN2, bN3, bNl⟩ := cells4 HN.out.blk
                go_wp2_with fail
                go_ret
                exact (show Truth w _ _ from ⟨rfl, HKW.out.trans (HB.out.gro.trans ((Gro.refl _).alloc _))⟩)
              · have h3 : (e.round == 30) = false := by simpa using h30
                have hrd := inB_iff.1 HST.out.vb.rd
                obtain ⟨hf, rfl⟩ : f = nextB e e.os.length ∧ E = 0 := by
                  have ho := HO.out
                  rw [chk_next HST.out.vb (by omega)] at ho
                  rcases ho with ⟨h, e⟩ | ⟨h, _⟩
                  · injection h with h; exact ⟨h.symm, e⟩
                  · cases h
                obtain ⟨hkf, h4⟩ : ∃ h : k < f.os.length, f.os[k].state = 4 := by
                  rw [hf]
                  exact next_expired hk (by rw [HEK.out]; exact HPS.out) (by rw [HEK.out]; exact HUN.out)
                have hfl : f.os.length = e.os.length := by rw [hf, nextB_os]; simp
                have HFL := Lib.hid hfl
                have H4 := Lib.hid h4
                have hln : ((f.os.length : Int) != (e.os.length : Int)) = false := by rw [hfl]; simp
                clear h30 hf h4 hfl hrd
                obtain ⟨bN0, bN1, bN2, bN3, bNl⟩ := cells4 HN.out.blk
                obtain ⟨_, _, hl2, _⟩ := HV.out.lists
                obtain ⟨fb, fo, rfl, hob, hoc⟩ := hl2.base hkf
                obtain ⟨_, _, _, _, _, _, f6⟩ := ocells hoc hkf
                rw [H4.out] at f6
                have hlf := World.block_lt_of_cell? _ _ f6
                clear hoc hl2 hob
                go_wp2_with fail
                go_ret
                exact (show Truth w _ _ from ⟨rfl, HKW.out.trans (HB.out.gro.trans ((Gro.refl _).alloc _))⟩)⟩
            exact (show Nonempty auxP from inferInstanceAs (Nonempty auxP)).elim id
end Go.Proofs.YthfagcdjbmhhcaaGreat
