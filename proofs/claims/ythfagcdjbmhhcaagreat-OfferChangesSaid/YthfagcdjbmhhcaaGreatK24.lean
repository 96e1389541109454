/- the reference: Drop. -/
import Derived.Test.YthfagcdjbmhhcaaGreatK23
import Derived.Test.YthfagcdjbmhhcaaGreatK11
set_option linter.unusedVariables false
set_option linter.unusedSimpArgs false
namespace Go.Proofs.YthfagcdjbmhhcaaGreat
open Go.RowKit
attribute [local irreducible] wpQuiet
theorem lfR141 {P : Prop} (h : P := by (intro w hSw; obtain ⟨cbt0, cbt1, cbt2, cbt3, cblt⟩ := cells4 hSw; clear hSw; go_simp; try with_reducible rfl)) : P := h
theorem run_appcap_nothing {α : Type} [RecI α] {w : World} (a0 : Option Addr) (n0 : Nat) (hnil : a0 = none → n0 = 0) (a : Option Addr) (c : Nat) (ty : TypeId) :
  (Builtin.append_ #[Rec.sty α, Rec.sty α] ty #[.slice a0 n0 n0, .slice a 0 c]).run Tryz.prog w = .ok (.slice a0 n0 n0) w := by
 obtain ⟨i, hi, hz, hs, hb⟩ := info_parts (RecI.info (α := α))
 have hu := RecI.hu (α := α)
 have hz0 : ∀ (ad : Addr) (w : World), (loadCells ad 0).run Tryz.prog w = .ok #[] w := fun ad w => by simp [loadCells, loadCellsFrom]
 cases a0 with
 | none =>
  obtain rfl := hnil rfl
  cases a <;> simp [Builtin.append_, run_underlying hu, sizeOf, typeInfo, hi, Builtin.lenOf, Builtin.firstCells, hz0]
 | some ad0 => cases a <;> simp [Builtin.append_, run_underlying hu, sizeOf, typeInfo, hi, Builtin.lenOf, Builtin.firstCells, hz0, storeCells]
theorem run_appcap_any {α : Type} [RecI α] {w : World} {a0 : Option Addr} {n0 : Nat} {l xs : List α} (h0 : Lst w a0 n0 n0 l) (hnil : a0 = none → n0 = 0) {a : Option Addr} {n c : Nat} (hx : Lst w a n c xs) (hfew : l.length + xs.length ≤ 1000000000) (ty : TypeId) :
  ∃ v' w', (Builtin.append_ #[Rec.sty α, Rec.sty α] ty #[.slice a0 n0 n0, .slice a n c]).run Tryz.prog w = .ok v' w' ∧ LV w' v' (l ++ xs) ∧ Gro w w' := by
 by_cases hz : xs = []
 ·subst hz
  obtain rfl : n = 0 := hx.len
  have := h0.len
  subst this
  exact ⟨_, w, run_appcap_nothing (α := α) a0 l.length hnil a c ty, by rw [List.append_nil]; exact ⟨a0, l.length, rfl, h0⟩, Gro.refl _⟩
 obtain ⟨v', w', h1, h2, h3⟩ := run_appcap h0 hnil hx hz hfew ty
 exact ⟨v', w', h1, h2.lv (by rw [List.length_append]; omega), h3⟩
theorem chk_drop {g : Gr} {b : Bk} {e : Int} : chk g b (doDrop b e) = if validB g b = true then doDrop b e else none := chk_keep (fun h b' h' => h.doDrop h')
theorem drop_at {g : Gr} {b : Bk} (hv : validB g b = true) {i : Nat} (hi : i < b.ws.length) : chk g b (doDrop b b.ws[i].edge) = some { b with ws := delAt b.ws i } := by
 have h : hasW b b.ws[i].edge = true := by rw [hasW_iff]; simp only [decide_eq_true_eq]; exact List.mem_map_of_mem (List.getElem_mem hi)
 rw [chk_drop, if_pos hv, doDrop, if_pos h, delAt_filter (validB_iff.1 hv).aw hi]
theorem drop_no {g : Gr} {b : Bk} {e : Int} (h : ∀ j (hj : j < b.ws.length), b.ws[j].edge ≠ e) : chk g b (doDrop b e) = none := by
 have h2 : hasW b e = false := by
  rw [hasW_iff]
  simp only [List.mem_map, not_exists, not_and, decide_eq_false_iff_not]
  intro x hx he
  obtain ⟨j, hj, rfl⟩ := List.getElem_of_mem hx
  exact h j hj he
 rw [chk_drop]
 split
 ·rw [doDrop, h2]; rfl
 rfl
set_option maxHeartbeats 16000000 in
set_option maxRecDepth 100000 in
theorem rdrop25 {w : World} {vg vb : Value} {g : Gr} {b : Bk} (hG : GrV w vg g) (hB : BkV w vb b) (hf : Fits g b) (e : Int) : Calls Tryz.prog 25 #[vg, vb, .int .i64 e] w (ChPost w (chk g b (doDrop b e))) := by
 have hmix := mixed
 obtain ⟨v1, v2, v3, rfl, hg0⟩ := hG
 obtain ⟨a1, n1, rfl, l1⟩ := hg0.vs
 obtain ⟨a2, n2, rfl, l2⟩ := hg0.es
 obtain ⟨a3, n3, rfl, l3⟩ := hg0.ds
 obtain ⟨p, o, q, rfl, hp, ho, hq⟩ := hB
 obtain ⟨ap, np, rfl, lp⟩ := hp
 obtain ⟨ao, no, rfl, lo⟩ := ho
 obtain ⟨aq, mq, rfl, lq⟩ := hq
 obtain ⟨wa, hwa⟩ : ∃ wa, wa = ((w.alloc (.cells #[Value.slice a1 g.vs.length n1, Value.slice a2 g.es.length n2, Value.slice a3 g.ds.length n3] 38)).alloc (.cells #[Value.int IntKind.i64 b.round, Value.slice ap b.ps.length np, Value.slice ao b.os.length no, Value.slice aq b.ws.length mq] 28)).alloc (.cells #[Value.int IntKind.i64 0, Value.slice none 0 0, Value.slice none 0 0, Value.slice none 0 0] 28) := ⟨_, rfl⟩
 have k0 : Gro w wa := by rw [hwa]; exact (((Gro.refl _).alloc _).alloc _).alloc _
 have bG : wa.heap[w.heap.size]? = some (.cells #[Value.slice a1 g.vs.length n1, Value.slice a2 g.es.length n2, Value.slice a3 g.ds.length n3] 38 (0, 0)) := by rw [hwa]; exact blk_alloc (blk_alloc (blk_new _ _) _) _
 have bB : wa.heap[w.heap.size + 1]? = some (.cells #[Value.int IntKind.i64 b.round, Value.slice ap b.ps.length np, Value.slice ao b.os.length no, Value.slice aq b.ws.length mq] 28 (0, 0)) := by
  rw [hwa]
  have := blk_new (w.alloc (.cells #[Value.slice a1 g.vs.length n1, Value.slice a2 g.es.length n2, Value.slice a3 g.ds.length n3] 38)) (.cells #[Value.int IntKind.i64 b.round, Value.slice ap b.ps.length np, Value.slice ao b.os.length no, Value.slice aq b.ws.length mq] 28)
  rw [asz] at this
  exact blk_alloc (this) _
 have bT : wa.heap[w.heap.size + 1 + 1]? = some (.cells #[Value.int IntKind.i64 0, Value.slice none 0 0, Value.slice none 0 0, Value.slice none 0 0] 28 (0, 0)) := by
  rw [hwa]
  have := blk_new ((w.alloc (.cells #[Value.slice a1 g.vs.length n1, Value.slice a2 g.es.length n2, Value.slice a3 g.ds.length n3] 38)).alloc (.cells #[Value.int IntKind.i64 b.round, Value.slice ap b.ps.length np, Value.slice ao b.os.length no, Value.slice aq b.ws.length mq] 28)) (.cells #[Value.int IntKind.i64 0, Value.slice none 0 0, Value.slice none 0 0, Value.slice none 0 0] 28)
  rw [asz, asz] at this
  exact this
 have GV : ∀ W, Gro wa W → GrV W (.agg #[Value.slice a1 g.vs.length n1, Value.slice a2 g.es.length n2, Value.slice a3 g.ds.length n3]) g := fun W hW => ⟨_, _, _, rfl, hg0.gro (k0.trans hW)⟩
 have BV : ∀ W, Gro wa W → BkV W (.agg #[Value.int IntKind.i64 b.round, Value.slice ap b.ps.length np, Value.slice ao b.os.length no, Value.slice aq b.ws.length mq]) b := fun W hW => ⟨_, _, _, rfl, ⟨_, _, rfl, lp.gro (k0.trans hW)⟩, ⟨_, _, rfl, lo.gro (k0.trans hW)⟩, ⟨_, _, rfl, lq.gro (k0.trans hW)⟩⟩
 have C15 := yy (fun W hW => valid15 (GV W hW) (BV W hW) hf)
 have C66 := yy (fun W hW id => open66 (BV W hW) hf.bfew id)
 have C67 := yy (fun W hW => copy67 (BV W hW) hf.bfew)
 have HGV := yy GV
 have HGW : Hid (∀ W, Gro w W → GrV W (.agg #[Value.slice a1 g.vs.length n1, Value.slice a2 g.es.length n2, Value.slice a3 g.ds.length n3]) g) := yy (fun W hW => ⟨_, _, _, rfl, hg0.gro hW⟩)
 have HBV := yy BV
 have HF := yy hf
 have HW := yy hwa
 have K0 := yy k0
 have BA := yy bG
 have BX := yy bB
 have BT := yy bT
 have LO := yy (lo.gro k0)
 clear hg0 l1 l2 l3 lp lo lq hf k0 bG bB bT hwa GV BV 
 go_enter Tryz.func25, Tryz.ntmps25
 go_wp2_with fail
 rw [← HW.out]
 clear HW
 refine (C15.out _ (Gro.refl _)).mono ?_
 rintro _ w2 ⟨rfl, k2⟩
 have K2 := yy k2
 clear k2
 have cq := blk_cell ((K2.out).blk BX.out)
 have q0 := cq 0
 have q1 := cq 1
 have q2 := cq 2
 have q3 := cq 3
 simp only [lPa, lPb, lPc] at q0 q1 q2 q3
 have hlq := blk_lt ((K2.out).blk BX.out)
 clear cq
 have BTw := yy ((K2.out).blk BT.out)
 have fT := blk_frozen BTw.out
 have cT := blk_cell BTw.out
 have f0 := fT 0
 have f1 := fT 1
 have f2 := fT 2
 have f3 := fT 3
 have t0 := cT 0
 have t1 := cT 1
 have t2 := cT 2
 have t3 := cT 3
 simp only [lPa, lPb, lPc] at t0 t1 t2 t3
 have hlT := blk_lt BTw.out
 clear fT cT
 have hszT : w.heap.size + 1 + 1 < w2.heap.size := hlT
 cases hv : validB g b with
 | false =>
  have B5 := set4 BTw.out (.int .i64 0) (.slice none 0 0) (.slice none 0 0) (.slice none 0 0)
  have K5 := kept4 (K0.out.trans K2.out) (.inr (by omega : w.heap.size ≤ w.heap.size + 1 + 1)) (.int .i64 0) (.slice none 0 0) (.slice none 0 0) (.slice none 0 0)
  have B6 := yy B5
  have K6 := yy K5
  have HN := yy (show chk g b (doDrop b e) = none from by rw [chk_drop, hv]; rfl)
  clear B5 K5
  go_wp2_with fail
  (try simp only [Exit.inBlock, Exit.then])
  refine bodyPost_ret (results_cell_tmp_row (p := 6) (u := 7) (ty := 28) rfl _ _ (w.heap.size + 1 + 1) 28 _ (0, 0) _ rfl B6.out Tryz.underlying28 rfl (by kernel_rfl)) rfl ⟨K6.out, .inr ⟨HN.out, rfl⟩⟩
 | true =>
 have HV := yy hv
 have HVB := yy (validB_iff.1 hv)
 go_wp2_with fail
 refine (C67.out _ K2.out).mono ?_
 rintro _ w3 ⟨p9, o9, q9, rfl, k3, op, oo, oq⟩
 obtain ⟨x1', m1, e1⟩ := op.form
 obtain ⟨x2', m2, e2⟩ := oo.form
 obtain ⟨x3', m3, e3⟩ := oq.form
 subst e1 e2 e3
 obtain ⟨wo, hwo⟩ : ∃ wo, wo = w3.alloc (Obj.cells #[.int .i64 b.round, .slice x1' b.ps.length m1, .slice x2' b.os.length m2, .slice x3' b.ws.length m3] 28) := ⟨_, rfl⟩
 have ko : Gro w3 wo := by rw [hwo]; exact (Gro.refl _).alloc _
 have hO : wo.heap[w3.heap.size]? = some (.cells #[.int .i64 b.round, .slice x1' b.ps.length m1, .slice x2' b.os.length m2, .slice x3' b.ws.length m3] 28 (0, 0)) := by rw [hwo]; exact blk_new _ _
 have hszw : w.heap.size ≤ w2.heap.size := (K0.out.trans K2.out).size
 have HTO := yy ((k3.trans ko).blk BTw.out)
 have HOO := yy hO
 have HWO := yy hwo
 have OWs := yy (oq.gro ko)
 have LPo := yy ((op.gro ko).lv (by have := HF.out.bfew.ps; omega))
 have LOo := yy ((oo.gro ko).lv (by have := HF.out.bfew.os; omega))
 have KO := yy (((K0.out.trans K2.out).trans k3).trans ko)
 have hTO : w.heap.size + 1 + 1 < w3.heap.size := Nat.lt_of_lt_of_le hszT k3.size
 clear op oo oq k3 ko hO hwo q0 q1 q2 q3 hlq f0 f1 f2 f3 t0 t1 t2 t3 hlT hv BTw
 have fw := HF.out.bfew.ws
 go_wp2_with fail
 rw [← HWO.out]
 clear HWO
 generalize w3.heap.size = O at HOO hTO ⊢
 have cO := blk_cell HOO.out
 have y0 := cO 0
 have y1 := cO 1
 have y2 := cO 2
 have y3 := cO 3
 simp only [lPa, lPb, lPc] at y0 y1 y2 y3
 have hlO := blk_lt HOO.out
 clear cO
 go_loopw [9] (fun t wr => ∃ i : Nat, i ≤ b.ws.length ∧ t = .int .i64 i ∧ wr = wo ∧ Hid (∀ j (h : j < b.ws.length), j < i → b.ws[j].edge ≠ e)) (fun t _ => b.ws.length - (intOf t).toNat)
 case atStart => exact ⟨0, Nat.zero_le _, by go_num, rfl, yy (fun j h hj => by omega)⟩
 case round =>
 obtain ⟨i, hi, rfl, rfl, HNE⟩ := hrel
 by_cases hlt : i < b.ws.length
 ·obtain ⟨B, off, e9, hb, hc⟩ := (own_lst OWs.out (by omega)).base hlt
  rcases own_cases OWs.out with ⟨_, h0⟩ | ⟨gv, cv, ev, hcap⟩
  ·rw [h0] at hlt; simp at hlt
  injection ev with ev1 _ ev3
  subst ev1 ev3
  injection e9 with e9
  injection e9 with e91 e92 _
  subst e91 e92
  obtain ⟨d0, _, _, _⟩ := wcells hc hlt
  have hlB := World.block_lt_of_cell? _ _ d0
  obtain ⟨y, hy⟩ : ∃ y, y = b.ws[i].edge := ⟨_, rfl⟩
  rw [← hy] at d0
  simp only [Nat.zero_add] at d0
  have HY := yy hy
  clear hy hc
  by_cases hye : y = e
  ·have hyeD : (y == e) = true := by simpa using hye
   go_upto_region 8 with fail
   go_cut [] (fun wx => ∃ (z : Option Addr) (c : Nat), Hid (LV wx (.slice z (delAt b.ws i).length c) (delAt b.ws i)) ∧ Hid (LV wx (.slice x1' b.ps.length m1) b.ps) ∧ Hid (LV wx (.slice x2' b.os.length m2) b.os) ∧ Hid (Gro w wx) ∧
    Hid (wx.heap[w.heap.size + 1 + 1]? = some (.cells #[Value.int IntKind.i64 0, Value.slice none 0 0, Value.slice none 0 0, Value.slice none 0 0] 28 (0, 0))) ∧ Hid (wx.heap[O]? = some (.cells #[.int .i64 b.round, .slice x1' b.ps.length m1, .slice x2' b.os.length m2, .slice z (delAt b.ws i).length c] 28 (0, 0))))
   case first =>
    have hw1 : IntKind.i64.wrap ((i : Int) + 1) = (i : Int) + 1 := by rw [IntKind.wrap_i64]; omega
    have hi1 : (0 : Int) ≤ (i : Int) + 1 := by omega
    have hi2 : ((i : Int) + 1).toNat = i + 1 := by omega
    have hi3 : (i : Int) + 1 ≤ (b.ws.length : Int) := by omega
    have hic : i ≤ m3 := Nat.le_trans hi hcap
    refine anyL_begin 12 (fun w' => w'.heap[O]? = some (.cells #[.int .i64 b.round, .slice x1' b.ps.length m1, .slice x2' b.os.length m2, .slice (some ⟨gv, 0, none⟩) b.ws.length m3] 28 (0, 0))) (by kernel_rfl) ?_
    have hS : (fun w' => w'.heap[O]? = some (.cells #[.int .i64 b.round, .slice x1' b.ps.length m1, .slice x2' b.os.length m2, .slice (some ⟨gv, 0, none⟩) b.ws.length m3] 28 (0, 0))) wr.drew := (Gro.refl wr).drew.blk HOO.out
    have HO := yy (OWs.out.gro ((Gro.refl wr).drew))
    have HKD := yy ((Gro.refl wr).drew)
    generalize wr.drew = wd at hS HO HKD ⊢
    refine tkL 0 rfl lfR141 hS ?_
    refine nx ?_
    refine tkL 1 rfl lfR141 hS ?_
    refine nx ?_
    refine tkL 2 rfl lfR141 hS ?_
    refine nx ?_
    refine tkL 3 rfl lfR141 hS ?_
    refine nx ?_
    refine tkL 4 rfl lfR141 hS ?_
    refine nx ?_
    refine tkL 5 rfl lfR141 hS ?_
    refine nx ?_
    refine tkL 6 rfl lfR141 hS ?_
    refine nx ?_
    refine tkL 7 rfl lfR141 hS ?_
    refine nx ?_
    refine tkL 8 rfl lfR141 hS ?_
    refine nx ?_
    refine tkL 9 rfl lfR141 hS ?_
    refine nx ?_
    generalize hzz : (if m3 = i + 1 then (some ⟨gv, 0, none⟩ : Option Addr) else some ⟨gv, (i + 1) * 4, none⟩) = zz
    have hL : Lst wd zz (b.ws.length - (i + 1)) (m3 - (i + 1)) (b.ws.drop (i + 1)) := by rw [← hzz]; exact lst_drop_if (own_lst HO.out (by omega)) (i + 1) hlt
    clear hzz
    obtain ⟨v3, w4, hrun3, o3, k3⟩ := run_appcap_any (lst_take (own_lst HO.out (by omega)) i hi) (fun h => by cases h) hL (by simp only [List.length_take, List.length_drop]; omega) 26
    have hS3 : (fun w' => w'.heap[O]? = some (.cells #[.int .i64 b.round, .slice x1' b.ps.length m1, .slice x2' b.os.length m2, .slice (some ⟨gv, 0, none⟩) b.ws.length m3] 28 (0, 0))) w4 := k3.blk hS
    refine anyL_one (i := 10) (by kernel_rfl) rfl (fun K hK => ?_)
    refine step_run rfl _ _ 26 rfl _ _ rfl rfl hrun3 ?_
    refine hK.out _ _ (fun _ => hS3) ?_
    clear hK K
    try refine nx ?_
    obtain ⟨z, c, hv3, hl3⟩ := o3
    generalize hN : (List.take i b.ws ++ List.drop (i + 1) b.ws).length = N at hv3 hl3
    subst hv3
    have O3 := yy (show LV w4 (.slice z (delAt b.ws i).length c) (delAt b.ws i) from by
     have e1 : (delAt b.ws i).length = N := hN
     have e2 := hl3.len
     rw [e1]; exact ⟨z, c, by rw [e1], by rw [e1]; exact hl3⟩)
    have HN := yy hN
    have K13 := yy (HKD.out.trans k3)
    have hS := hS3
    clear hS3 k3 hrun3 hl3 hN HO HKD
    refine tkL 11 rfl lfR141 hS ?_
    refine nx ?_
    have fz := blk_frozen hS 3
    have ct := blk_cell hS 3
    simp only [lPa, lPb, lPc] at ct
    have hlT := blk_lt hS
    refine anyL_one (i := 12) (by kernel_rfl) rfl (fun K hK => ?_)
    go_simp
    refine hK.out _ _ (fun h => absurd rfl h) ?_
    clear hK K
    try refine nx ?_
    refine anyL_done (by kernel_rfl) ?_
    have kS : Kept (· = O) w4 (w4.setCell ⟨O, 3, none⟩ (.slice z N c)) := (Kept.refl (· = O) w4).setCell (p := ⟨O, 3, none⟩) (.inl rfl) _
    have hob : (w4.setCell ⟨O, 3, none⟩ (.slice z N c)).heap[O]? = some (.cells #[.int .i64 b.round, .slice x1' b.ps.length m1, .slice x2' b.os.length m2, .slice z N c] 28 (0, 0)) := by
     have := blk_set hS 3 (.slice z N c)
     simpa using this
    have R1 := yy ((LPo.out.gro K13.out).farB kS hS (by decide) (fun x => ⟨x.id, x.budget, rfl, rfl⟩))
    have R2 := yy ((LOo.out.gro K13.out).farB kS hS (by decide) (fun x => ⟨x.id, x.party, rfl, rfl⟩))
    have R3 := yy (O3.out.farB kS hS (by decide) (fun x => ⟨x.edge, x.src, rfl, rfl⟩))
    have R4 := yy (Kept.setCell (F := fun _ => False) (KO.out.trans K13.out) (p := ⟨O, 3, none⟩) (.inr (by simp only; omega)) (.slice z N c))
    have R5 := yy (kS.blk (K13.out.blk HTO.out) (by omega))
    have R6 : Hid (∀ W, W = w4.setCell ⟨O, 3, none⟩ (.slice z N c) → W.heap[O]? = some (.cells #[.int .i64 b.round, .slice x1' b.ps.length m1, .slice x2' b.os.length m2, .slice z N c] 28 (0, 0))) := yy (fun W h => by rw [h]; exact hob)
    have R5 : Hid (∀ W, W = w4.setCell ⟨O, 3, none⟩ (.slice z N c) → W.heap[w.heap.size + 1 + 1]? = some (.cells #[Value.int IntKind.i64 0, Value.slice none 0 0, Value.slice none 0 0, Value.slice none 0 0] 28 (0, 0))) := yy (fun W h => by rw [h]; exact R5.out)
    clear kS hob
    go_wp2_with fail
    go_meet
    exact ⟨z, c, R3, R1, R2, R4, yy (R5.out _ rfl), yy (by have e1 : (delAt b.ws i).length = N := HN.out; rw [e1]; exact R6.out _ rfl)⟩
   case rest =>
   obtain ⟨z, c, HQ9, HP9, HO9, K9', BTw, HO2⟩ := hcut
   have HRS : Hid (chk g b (doDrop b e) = some { b with ws := delAt b.ws i }) := yy (by rw [← hye, HY.out]; exact drop_at HV.out hlt)
   clear y0 y1 y2 y3 d0 HNE HY hye hyeD
   obtain ⟨wj, hwj⟩ : ∃ wj, wj = wc := ⟨_, rfl⟩
   rw [← hwj] at HQ9 HP9 HO9 K9' BTw HO2 ⊢
   clear hwj
   generalize hND : (delAt b.ws i).length = N at HQ9 HO2
   have cO := blk_cell HO2.out
   have y0 := cO 0
   have y1 := cO 1
   have y2 := cO 2
   have y3 := cO 3
   simp only [lPa, lPb, lPc] at y0 y1 y2 y3
   have hlO2 := blk_lt HO2.out
   have HND := yy hND
   have HQ9 : Hid (LV wj (.slice z N c) ({ b with ws := delAt b.ws i } : Bk).ws) := HQ9
   clear cO hND
   have fT := blk_frozen BTw.out
   have cT := blk_cell BTw.out
   have f0 := fT 0
   have f1 := fT 1
   have f2 := fT 2
   have f3 := fT 3
   have t0 := cT 0
   have t1 := cT 1
   have t2 := cT 2
   have t3 := cT 3
   simp only [lPa, lPb, lPc] at t0 t1 t2 t3
   have hlT := blk_lt BTw.out
   clear fT cT
   have B5 := set4 BTw.out (.int .i64 b.round) (.slice x1' b.ps.length m1) (.slice x2' b.os.length m2) (.slice z N c)
   have K5 := kept4 (K9'.out) (.inr (by omega : w.heap.size ≤ w.heap.size + 1 + 1)) (.int .i64 b.round) (.slice x1' b.ps.length m1) (.slice x2' b.os.length m2) (.slice z N c)
   have K9 := kept4 (Kept.refl (· = w.heap.size + 1 + 1) wj) (.inl rfl) (.int .i64 b.round) (.slice x1' b.ps.length m1) (.slice x2' b.os.length m2) (.slice z N c)
   have Q0 := yy (HP9.out.farB K9 BTw.out (by decide) (fun x => ⟨x.id, x.budget, rfl, rfl⟩))
   have Q1 := yy (HO9.out.farB K9 BTw.out (by decide) (fun x => ⟨x.id, x.party, rfl, rfl⟩))
   have Q2 := yy (HQ9.out.farB K9 BTw.out (by decide) (fun x => ⟨x.edge, x.src, rfl, rfl⟩))
   have B6 := yy B5
   have K6 := yy K5
   have HY := yy (HRS.out)
   clear B5 K5 K9
   go_wp2_with fail
   (try simp only [Exit.inBlock, Exit.then])
   refine bodyPost_ret (results_cell_tmp_row (p := 6) (u := 7) (ty := 28) rfl _ _ (w.heap.size + 1 + 1) 28 _ (0, 0) _ rfl B6.out Tryz.underlying28 rfl (by kernel_rfl)) rfl ⟨K6.out, .inl ⟨{ b with ws := delAt b.ws i }, _, HY.out, rfl, ⟨_, _, _, rfl, Q0.out, Q1.out, Q2.out⟩⟩⟩
  have hyeD : (y == e) = false := by simpa using hye
  have HNE2 : Hid (∀ j (h : j < b.ws.length), j < i + 1 → b.ws[j].edge ≠ e) := yy (fun j h hj => by
   by_cases e0 : j = i
   ·subst e0; rw [← HY.out]; exact hye
   exact HNE.out j h (by omega))
  go_wp2_with fail
  go_roundw
  case rel => exact ⟨i + 1, by omega, by go_num, by first | rfl | trivial, HNE2⟩
  case measure => simp [intOf]; omega
 have BTw := HTO
 have fT := blk_frozen BTw.out
 have cT := blk_cell BTw.out
 have f0 := fT 0
 have f1 := fT 1
 have f2 := fT 2
 have f3 := fT 3
 have t0 := cT 0
 have t1 := cT 1
 have t2 := cT 2
 have t3 := cT 3
 simp only [lPa, lPb, lPc] at t0 t1 t2 t3
 have hlT := blk_lt BTw.out
 clear fT cT
 have hszT2 : w.heap.size + 1 + 1 < wr.heap.size := hlT
 have B5 := set4 BTw.out (.int .i64 0) (.slice none 0 0) (.slice none 0 0) (.slice none 0 0)
 have K5 := kept4 (KO.out) (.inr (by omega : w.heap.size ≤ w.heap.size + 1 + 1)) (.int .i64 0) (.slice none 0 0) (.slice none 0 0) (.slice none 0 0)
 have B6 := yy B5
 have K6 := yy K5
 have HN := yy (show chk g b (doDrop b e) = none from drop_no (fun j hj => HNE.out j hj (by omega)))
 clear B5 K5
 go_wp2_with fail
 (try simp only [Exit.inBlock, Exit.then])
 refine bodyPost_ret (results_cell_tmp_row (p := 6) (u := 7) (ty := 28) rfl _ _ (w.heap.size + 1 + 1) 28 _ (0, 0) _ rfl B6.out Tryz.underlying28 rfl (by kernel_rfl)) rfl ⟨K6.out, .inr ⟨HN.out, rfl⟩⟩
end Go.Proofs.YthfagcdjbmhhcaaGreat
