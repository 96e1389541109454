/- the reference: Take. -/
import Derived.Test.YthfagcdjbmhhcaaGreatK27
set_option linter.unusedVariables false
set_option linter.unusedSimpArgs false
namespace Go.Proofs.YthfagcdjbmhhcaaGreat
open Go.RowKit
attribute [local irreducible] wpQuiet
theorem lfR181 {P : Prop} (h : P := by (intro w hSw; obtain ⟨x0, x1c, x2c, x3c, d0⟩ := hSw; have hlO := World.block_lt_of_cell? _ _ x0; have hli := World.block_lt_of_cell? _ _ d0; go_simp; try with_reducible rfl)) : P := h
theorem chk_doTake {g : Gr} {b : Bk} {ids : List Int} : chk g b (doTake b ids) = if validB g b = true then doTake b ids else none := chk_keep (fun h b' e => h.doTake e)
theorem take_bad1 {b c : Bk} {ids : List Int} {k : Nat} (hk : k < ids.length) (h : takeAll b ids = takeAll c (ids.drop k)) (ho : opn c ids[k] = false) : doTake b ids = none := by
 unfold doTake
 rw [h, List.drop_eq_getElem_cons hk, takeAll, if_neg (by rw [ho]; decide)]
 rfl
theorem take_bad2 {b : Bk} {ids : List Int} {k : Nat} (hk : k + 1 < ids.length) (h : ids[k + 1] ≤ ids[k]) : doTake b ids = none := by
 unfold doTake
 have : asc ids = false := by
  rw [Bool.eq_false_iff]
  intro ha
  have := List.pairwise_iff_getElem.1 (asc_iff.1 ha) k (k + 1) (by omega) hk (by omega)
  omega
 rw [this]
 cases takeAll b ids <;> rfl
theorem take_done {b c : Bk} {ids : List Int} (h : takeAll b ids = takeAll c (ids.drop ids.length)) (ha : asc (ids.take ids.length) = true) : doTake b ids = some c := by
 unfold doTake
 rw [List.take_length] at ha
 rw [h, List.drop_length, takeAll, Option.bind_some, if_pos ha]
theorem take_on {b c : Bk} {ids : List Int} {k : Nat} (hk : k < ids.length) (h : takeAll b ids = takeAll c (ids.drop k)) (ho : opn c ids[k] = true) : takeAll b ids = takeAll (closeId c ids[k] 3) (ids.drop (k + 1)) := by
 rw [h, List.drop_eq_getElem_cons hk, takeAll, if_pos ho]
theorem asc_on {ids : List Int} {k : Nat} (hk : k < ids.length) (ha : asc (ids.take k) = true) (h : ∀ j (hj : j < ids.length), j + 1 = k → ids[j] < ids[k]) : asc (ids.take (k + 1)) = true := by
 rw [take_snoc ids k hk, asc_iff, List.pairwise_append]
 refine ⟨asc_iff.1 ha, by simp, fun x hx y hy => ?_⟩
 simp only [List.mem_singleton] at hy
 subst hy
 obtain ⟨i, hi, rfl⟩ := List.getElem_of_mem hx
 simp only [List.length_take] at hi
 rw [List.getElem_take]
 have h1 := h (k - 1) (by omega) (by omega)
 rcases Nat.lt_or_ge i (k - 1) with h2 | h2
 ·have := List.pairwise_iff_getElem.1 (asc_iff.1 ha) i (k - 1) (by simp; omega) (by simp; omega) h2
  simp only [List.getElem_take] at this
  omega
 have : i = k - 1 := by omega
 subst this
 exact h1
set_option maxHeartbeats 8000000 in
set_option maxRecDepth 100000 in
theorem rtake29 {w : World} {vg vb : Value} {g : Gr} {b : Bk} (hG : GrV w vg g) (hB : BkV w vb b) (hf : Fits g b) {iv : Value} {ids : List Int} (hi : LV w iv ids) : Calls Tryz.prog 29 #[vg, vb, iv] w (ChPost w (chk g b (doTake b ids))) := by
 obtain ⟨ai, ci, rfl, hli⟩ := hi
 have hbig := hli.big
 have hmix := mixed
 obtain ⟨v1, v2, v3, rfl, hg0⟩ := hG
 obtain ⟨a1, n1, rfl, l1⟩ := hg0.vs
 obtain ⟨a2, n2, rfl, l2⟩ := hg0.es
 obtain ⟨a3, n3, rfl, l3⟩ := hg0.ds
 obtain ⟨p, o, q, rfl, hp, ho, hq⟩ := hB
 obtain ⟨ap, np, rfl, lp⟩ := hp
 obtain ⟨ao, no, rfl, lo⟩ := ho
 obtain ⟨aq, mq, rfl, lq⟩ := hq
 obtain ⟨wa, hwa⟩ : ∃ wa, wa = ((w.alloc (.cells #[Value.slice a1 g.vs.length n1, Value.slice a2 g.es.length n2, Value.slice a3 g.ds.length n3] 38)).alloc (.cells #[Value.int IntKind.i64 b.round, Value.slice ap b.ps.length np, Value.slice ao b.os.length no, Value.slice aq b.ws.length mq] 28)).alloc (.cells #[Value.int IntKind.i64 0, Value.slice none 0 0, Value.slice none 0 0, Value.slice none 0 0] 28) := ⟨_, rfl⟩
 have k0 : Gro w wa := by rw [hwa]; exact (((Gro.refl _).alloc _).alloc _).alloc _
 have bG : wa.heap[w.heap.size]? = some (.cells #[Value.slice a1 g.vs.length n1, Value.slice a2 g.es.length n2, Value.slice a3 g.ds.length n3] 38 (0, 0)) := by rw [hwa]; exact blk_alloc (blk_alloc (blk_new _ _) _) _
 have bB : wa.heap[w.heap.size + 1]? = some (.cells #[Value.int IntKind.i64 b.round, Value.slice ap b.ps.length np, Value.slice ao b.os.length no, Value.slice aq b.ws.length mq] 28 (0, 0)) := by
  rw [hwa]
  have := blk_new (w.alloc (.cells #[Value.slice a1 g.vs.length n1, Value.slice a2 g.es.length n2, Value.slice a3 g.ds.length n3] 38)) (.cells #[Value.int IntKind.i64 b.round, Value.slice ap b.ps.length np, Value.slice ao b.os.length no, Value.slice aq b.ws.length mq] 28)
  rw [asz] at this
  exact blk_alloc (this) _
 have bT : wa.heap[w.heap.size + 1 + 1]? = some (.cells #[Value.int IntKind.i64 0, Value.slice none 0 0, Value.slice none 0 0, Value.slice none 0 0] 28 (0, 0)) := by
  rw [hwa]
  have := blk_new ((w.alloc (.cells #[Value.slice a1 g.vs.length n1, Value.slice a2 g.es.length n2, Value.slice a3 g.ds.length n3] 38)).alloc (.cells #[Value.int IntKind.i64 b.round, Value.slice ap b.ps.length np, Value.slice ao b.os.length no, Value.slice aq b.ws.length mq] 28)) (.cells #[Value.int IntKind.i64 0, Value.slice none 0 0, Value.slice none 0 0, Value.slice none 0 0] 28)
  rw [asz, asz] at this
  exact this
 have GV : ∀ W, Gro wa W → GrV W (.agg #[Value.slice a1 g.vs.length n1, Value.slice a2 g.es.length n2, Value.slice a3 g.ds.length n3]) g := fun W hW => ⟨_, _, _, rfl, hg0.gro (k0.trans hW)⟩
 have BV : ∀ W, Gro wa W → BkV W (.agg #[Value.int IntKind.i64 b.round, Value.slice ap b.ps.length np, Value.slice ao b.os.length no, Value.slice aq b.ws.length mq]) b := fun W hW => ⟨_, _, _, rfl, ⟨_, _, rfl, lp.gro (k0.trans hW)⟩, ⟨_, _, rfl, lo.gro (k0.trans hW)⟩, ⟨_, _, rfl, lq.gro (k0.trans hW)⟩⟩
 have C15 := yy (fun W hW => valid15 (GV W hW) (BV W hW) hf)
 have C66 := yy (fun W hW id => open66 (BV W hW) hf.bfew id)
 have C67 := yy (fun W hW => copy67 (BV W hW) hf.bfew)
 have HGV := yy GV
 have HGW : Hid (∀ W, Gro w W → GrV W (.agg #[Value.slice a1 g.vs.length n1, Value.slice a2 g.es.length n2, Value.slice a3 g.ds.length n3]) g) := yy (fun W hW => ⟨_, _, _, rfl, hg0.gro hW⟩)
 have HBV := yy BV
 have HF := yy hf
 have HW := yy hwa
 have K0 := yy k0
 have BA := yy bG
 have BX := yy bB
 have BT := yy bT
 have LO := yy (lo.gro k0)
 clear hg0 l1 l2 l3 lp lo lq hf k0 bG bB bT hwa GV BV 
 have HLI := yy hli
 clear hli
 go_enter Tryz.func29, Tryz.ntmps29
 go_wp2_with fail
 rw [← HW.out]
 clear HW
 refine (C15.out _ (Gro.refl _)).mono ?_
 rintro e w2 ⟨rfl, k2⟩
 have K2 := yy k2
 clear k2
 have cq := blk_cell ((K2.out).blk BX.out)
 have q0 := cq 0
 have q1 := cq 1
 have q2 := cq 2
 have q3 := cq 3
 simp only [lPa, lPb, lPc] at q0 q1 q2 q3
 have hlq := blk_lt ((K2.out).blk BX.out)
 clear cq
 have BTw := yy ((K2.out).blk BT.out)
 have fT := blk_frozen BTw.out
 have cT := blk_cell BTw.out
 have f0 := fT 0
 have f1 := fT 1
 have f2 := fT 2
 have f3 := fT 3
 have t0 := cT 0
 have t1 := cT 1
 have t2 := cT 2
 have t3 := cT 3
 simp only [lPa, lPb, lPc] at t0 t1 t2 t3
 have hlT := blk_lt BTw.out
 clear fT cT
 have hszT : w.heap.size + 1 + 1 < w2.heap.size := hlT
 cases hv : validB g b with
 | false =>
  have B5 := set4 BTw.out (.int .i64 0) (.slice none 0 0) (.slice none 0 0) (.slice none 0 0)
  have K5 := kept4 (K0.out.trans K2.out) (.inr (by omega : w.heap.size ≤ w.heap.size + 1 + 1)) (.int .i64 0) (.slice none 0 0) (.slice none 0 0) (.slice none 0 0)
  have B6 := yy B5
  have K6 := yy K5
  have HN := yy (show chk g b (doTake b ids) = none from by rw [chk_doTake, hv]; rfl)
  clear B5 K5
  go_wp2_with fail
  (try simp only [Exit.inBlock, Exit.then])
  refine bodyPost_ret (results_cell_tmp_row (p := 6) (u := 7) (ty := 28) rfl _ _ (w.heap.size + 1 + 1) 28 _ (0, 0) _ rfl B6.out Tryz.underlying28 rfl (by kernel_rfl)) rfl ⟨K6.out, .inr ⟨HN.out, rfl⟩⟩
 | true =>
 have HV := yy (validB_iff.1 hv)
 have HP2 : Hid (chk g b (doTake b ids) = doTake b ids) := yy (by rw [chk_doTake, if_pos hv])
 go_wp2_with fail
 refine (C67.out _ K2.out).mono ?_
 rintro e w3 ⟨p9, o9, q9, rfl, k3, op, oo, oq⟩
 obtain ⟨x1', c1, e1⟩ := op.form
 obtain ⟨x2', c2, e2⟩ := oo.form
 obtain ⟨x3', c3, e3⟩ := oq.form
 subst e1 e2 e3
 obtain ⟨wo, hwo⟩ : ∃ wo, wo = w3.alloc (Obj.cells #[.int .i64 b.round, .slice x1' b.ps.length c1, .slice x2' b.os.length c2, .slice x3' b.ws.length c3] 28) := ⟨_, rfl⟩
 have ko : Gro w3 wo := by rw [hwo]; exact (Gro.refl _).alloc _
 have hO : wo.heap[w3.heap.size]? = some (.cells #[.int .i64 b.round, .slice x1' b.ps.length c1, .slice x2' b.os.length c2, .slice x3' b.ws.length c3] 28 (0, 0)) := by rw [hwo]; exact blk_new _ _
 have hszw : w.heap.size ≤ w2.heap.size := (K0.out.trans K2.out).size
 have hNX : NX w wo (w.heap.size + 1 + 1) w3.heap.size w2.heap.size (.slice x1' b.ps.length c1) (.slice x2' b.os.length c2) (.slice x3' b.ws.length c3) b :=
  ⟨ko.blk (k3.blk BTw.out), hO, ⟨op.gro ko, oo.gro ko, oq.gro ko⟩, ((K0.out.trans K2.out).trans k3).trans ko, by have := k3.size; omega, by omega, by have := k3.size; omega, hszw, Nat.le_trans k3.size ko.size⟩
 have HN0 := yy hNX
 have HWO := yy hwo
 clear op oo oq k3 ko hO hNX hwo q0 q1 q2 q3 hlq f0 f1 f2 f3 t0 t1 t2 t3 hlT hv BTw
 go_wp2_with fail
 rw [← HWO.out]
 clear HWO
 generalize w3.heap.size = O at HN0 ⊢
 go_loopw [9] (fun t wr => ∃ (k : Nat) (c : Bk) (q' : Value), k ≤ ids.length ∧ t = .int .i64 k ∧ Hid (NX w wr (w.heap.size + 1 + 1) O w2.heap.size (.slice x1' b.ps.length c1) (.slice x2' b.os.length c2) q' c) ∧ Hid (VB g c) ∧ Hid (takeAll b ids = takeAll c (ids.drop k)) ∧ Hid (asc (ids.take k) = true)) (fun t _ => ids.length - (intOf t).toNat)
 case atStart => exact ⟨0, b, _, Nat.zero_le _, by go_num, HN0, HV, yy rfl, yy rfl⟩
 case round =>
 clear HN0
 obtain ⟨k, c, q', hk, rfl, HN, HVC, HTA, HAS⟩ := hrel
 obtain ⟨y3, m3, hq3⟩ := HN.out.bo.ws.form
 generalize hN3 : c.ws.length = N3 at hq3
 subst hq3
 have hN3' := yy hN3
 clear hN3
 obtain ⟨⟨x0, x1c, x2c, x3c⟩, ⟨fx0, fx1, fx2, fx3⟩, hlO⟩ := HN.out.cells
 by_cases hlt : k < ids.length
 ·obtain ⟨ib, io, rfl, hib, hic⟩ := (HLI.out).base hlt
  have d0 := Lst.cell hic hlt 0 (by decide) rfl
  have d1 : ∀ j, j + 1 = k → ∀ hj : j < ids.length, w.cell? ⟨ib, io + j, none⟩ = some (.int .i64 ids[j]) := fun j _ hj => by
   have := Lst.cell hic hj 0 (by decide) rfl
   rw [show Rec.k Int = 1 from rfl, Nat.mul_one, Nat.add_zero] at this
   exact this
  rw [show Rec.k Int = 1 from rfl, Nat.mul_one, Nat.add_zero] at d0
  obtain ⟨id, hid⟩ : ∃ id, ids[k] = id := ⟨_, rfl⟩
  rw [hid] at d0
  have HID := yy hid
  have HD := yy d0
  have HD1 := yy d1
  have d0 := HN.out.gro.cell d0
  have hli := World.block_lt_of_cell? _ _ d0
  clear hid d1 hic hib
  go_wp2_with fail
  refine wp_region_held_drew (S := (fun w' => w'.cell? ⟨O, 0, none⟩ = some (Value.int IntKind.i64 c.round) ∧ w'.cell? ⟨O, 1, none⟩ = some (.slice x1' b.ps.length c1) ∧ w'.cell? ⟨O, 2, none⟩ = some (.slice x2' b.os.length c2) ∧ w'.cell? ⟨O, 3, none⟩ = some (.slice y3 N3 m3) ∧ w'.cell? ⟨ib, io + k, none⟩ = some (Value.int IntKind.i64 id))) (by kernel_rfl) ⟨(Gro.refl wr).drew.cell x0, (Gro.refl wr).drew.cell x1c, (Gro.refl wr).drew.cell x2c, (Gro.refl wr).drew.cell x3c, (Gro.refl wr).drew.cell d0⟩ (fun hHeld => ?_)
  have HN3 := yy (HN.out.step (Gro.refl wr).drew)
  clear x0 x1c x2c x3c d0 hlO hli fx0 fx1 fx2 fx3
  generalize wr.drew = wD at hHeld HN3 ⊢
  have HC := yy (open66 (HN3.out.bo.bk HVC.out.fits.bfew) HVC.out.fits.bfew id)
  refine tkH 0 rfl lfR181 hHeld ?_
  refine nx ?_
  refine tkH 1 rfl lfR181 hHeld ?_
  refine nx ?_
  refine tkH 2 rfl lfR181 hHeld ?_
  refine nx ?_
  refine tkH 3 rfl lfR181 hHeld ?_
  refine nx ?_
  refine tkH 4 rfl lfR181 hHeld ?_
  refine nx ?_
  refine wpAnyH_ready (rs := [5]) (by kernel_rfl) (by simp) ?_
  refine AllReadyH.cons (i := 5) rfl (fun K hK => ?_) AllReadyH.nil
  go_simp
  refine HC.out.mono ?_
  rintro _ w3 ⟨rfl, kx⟩
  obtain ⟨x0, x1c, x2c, x3c, d0⟩ := hHeld
  have hH2 : (fun w' => w'.cell? ⟨O, 0, none⟩ = some (Value.int IntKind.i64 c.round) ∧ w'.cell? ⟨O, 1, none⟩ = some (.slice x1' b.ps.length c1) ∧ w'.cell? ⟨O, 2, none⟩ = some (.slice x2' b.os.length c2) ∧ w'.cell? ⟨O, 3, none⟩ = some (.slice y3 N3 m3) ∧ w'.cell? ⟨ib, io + k, none⟩ = some (Value.int IntKind.i64 id)) w3 := ⟨kx.cell x0, kx.cell x1c, kx.cell x2c, kx.cell x3c, kx.cell d0⟩
  have HN4 := yy (HN3.out.step kx)
  clear kx x0 x1c x2c x3c d0 HC HN3
  try go_simp
  refine hK.out _ _ hH2 (fun hHeld => ?_)
  clear hK K hH2
  try refine nx ?_
  refine tkH 6 rfl lfR181 hHeld ?_
  refine nx ?_
  refine tkH 7 rfl lfR181 hHeld ?_
  refine nx ?_
  refine tkH 8 rfl lfR181 hHeld ?_
  refine nx ?_
  refine tkH 9 rfl lfR181 hHeld ?_
  refine nx ?_
  refine tkH 10 rfl lfR181 hHeld ?_
  refine nx ?_
  refine wpAnyH_done (by kernel_rfl) ?_ _
  clear hHeld
  rcases fidx_fnd (b := c) (id := id) with ⟨hf1, hf2, hf3⟩ | ⟨i, hi, hf1, hf2, hiid⟩
  ·have hop : opn c id = false := by rw [opn_first HVC.out.ao]; exact hf3
   have HBD := yy (show chk g b (doTake b ids) = none from by rw [HP2.out]; exact take_bad1 hlt HTA.out (by rw [HID.out]; exact hop))
   rw [hf2, hf3]
   clear hf1 hf2 hf3 hop
   go_wp2_with fail
   go_quiet_grown (fail)
   have kq := gro_of_grow w3 nq osq
   dsimp only at kq ⊢
   skip
   generalize Go.Sort.grow (w3.drewN nq) osq = w5 at kq ⊢
   have HN5 := yy (HN4.out.step kq)
   clear kq
   have BTw := yy HN5.out.tb
   have fT := blk_frozen BTw.out
   have f0 := fT 0
   have f1 := fT 1
   have f2 := fT 2
   have f3 := fT 3
   obtain ⟨t0, t1, t2, t3, hlT⟩ := cells4 BTw.out
   clear fT
   have K4 := yy HN5.out.gro
   have hlq : w.heap.size ≤ w2.heap.size := hszw
   have B5 := set4 BTw.out (.int .i64 0) (.slice none 0 0) (.slice none 0 0) (.slice none 0 0)
   have K5 := kept4 (K4.out) (.inr (by omega : w.heap.size ≤ w.heap.size + 1 + 1)) (.int .i64 0) (.slice none 0 0) (.slice none 0 0) (.slice none 0 0)
   have B6 := yy B5
   have K6 := yy K5
   have HN := yy (HBD.out)
   clear B5 K5
   go_wp2_with fail
   (try simp only [Exit.inBlock, Exit.then])
   refine bodyPost_ret (results_cell_tmp_row (p := 6) (u := 7) (ty := 28) rfl _ _ (w.heap.size + 1 + 1) 28 _ (0, 0) _ rfl B6.out Tryz.underlying28 rfl (by kernel_rfl)) rfl ⟨K6.out, .inr ⟨HN.out, rfl⟩⟩
  have hop' := opn_first (id := id) HVC.out.ao
  rw [hf2]
  cases hop : opn' c id with
  | false =>
   rw [hop] at hop'
   have HBD := yy (show chk g b (doTake b ids) = none from by rw [HP2.out]; exact take_bad1 hlt HTA.out (by rw [HID.out]; exact hop'))
   clear hf1 hf2 hop hop'
   go_wp2_with fail
   go_quiet_grown (fail)
   have kq := gro_of_grow w3 nq osq
   dsimp only at kq ⊢
   skip
   generalize Go.Sort.grow (w3.drewN nq) osq = w5 at kq ⊢
   have HN5 := yy (HN4.out.step kq)
   clear kq
   have BTw := yy HN5.out.tb
   have fT := blk_frozen BTw.out
   have f0 := fT 0
   have f1 := fT 1
   have f2 := fT 2
   have f3 := fT 3
   obtain ⟨t0, t1, t2, t3, hlT⟩ := cells4 BTw.out
   clear fT
   have K4 := yy HN5.out.gro
   have hlq : w.heap.size ≤ w2.heap.size := hszw
   have B5 := set4 BTw.out (.int .i64 0) (.slice none 0 0) (.slice none 0 0) (.slice none 0 0)
   have K5 := kept4 (K4.out) (.inr (by omega : w.heap.size ≤ w.heap.size + 1 + 1)) (.int .i64 0) (.slice none 0 0) (.slice none 0 0) (.slice none 0 0)
   have B6 := yy B5
   have K6 := yy K5
   have HN := yy (HBD.out)
   clear B5 K5
   go_wp2_with fail
   (try simp only [Exit.inBlock, Exit.then])
   refine bodyPost_ret (results_cell_tmp_row (p := 6) (u := 7) (ty := 28) rfl _ _ (w.heap.size + 1 + 1) 28 _ (0, 0) _ rfl B6.out Tryz.underlying28 rfl (by kernel_rfl)) rfl ⟨K6.out, .inr ⟨HN.out, rfl⟩⟩
  | true =>
  rw [hop] at hop'
  have hop := hop'
  clear hop' hf1 hf2
  rcases Nat.eq_zero_or_pos k with hk0 | hk0
  ·have hd0 : decide ((k : Int) > 0) = false := decide_eq_false (by omega)
   have HA5 := yy (asc_on hlt HAS.out (fun j hj e => by omega))
   go_wp2_with fail
   go_quiet_grown (fail)
   have kq := gro_of_grow w3 nq osq
   dsimp only at kq ⊢
   skip
   generalize Go.Sort.grow (w3.drewN nq) osq = w5 at kq ⊢
   have HN5 := yy (HN4.out.step kq)
   clear kq
   obtain ⟨⟨y0, y1, y2, y3c⟩, _, hlO3⟩ := HN5.out.cells
   have HC := yy (closed72 HN5.out.bo HVC.out.fits.bfew HN5.out.bz i hi 3)
   go_wp2_with fail
   refine HC.out.mono ?_
   rintro e w4 ⟨q5, rfl, hbo5, k5⟩
   obtain ⟨y5, m5, hq5⟩ := hbo5.ws.form
   generalize hN5 : (closeAt c i hi 3).ws.length = N5 at hq5
   subst hq5
   have hP := HN5.out.put hbo5 k5
   have hob4 := k5.blk HN5.out.ob (own_far HN5.out.bo.os HN5.out.ob (by decide))
   have gz := blk_frozen hob4
   have g0 := gz 0
   have g1 := gz 1
   have g2 := gz 2
   have g3 := gz 3
   obtain ⟨z0, z1, z2, z3, hlO4⟩ := cells4 hob4
   rw [closeAt_eq HVC.out.ao i hi 3, hiid] at hP
   have HP5 := yy hP
   have HV5 := yy (HVC.out.closeId id 3 (by omega))
   have HT5 := yy (HID.out ▸ take_on hlt HTA.out (HID.out ▸ hop))
   clear hP hob4 gz hbo5 k5 HC y0 y1 y2 y3c hN5 hiid hop
   go_wp2_with fail
   go_roundw
   case rel => exact ⟨k + 1, closeId c id 3, _, by omega, by go_num, HP5, HV5, HT5, HA5⟩
   case measure => simp [intOf]; omega
  have hd0 : decide ((k : Int) > 0) = true := decide_eq_true (by omega)
  obtain ⟨j, hj⟩ : ∃ j, k = j + 1 := ⟨k - 1, by omega⟩
  have hj1 : j < ids.length := by omega
  obtain ⟨pj, hpj⟩ : ∃ pj, ids[j] = pj := ⟨_, rfl⟩
  have HPJ := yy hpj
  have d1 := HD1.out j hj.symm hj1
  rw [hpj] at d1
  have d0 := HN4.out.gro.cell HD.out
  have d1 := HN4.out.gro.cell d1
  have hws : IntKind.i64.wrap ((k : Int) - 1) = (j : Int) := by rw [IntKind.wrap_i64]; omega
  have hli := World.block_lt_of_cell? _ _ d0
  have HJ := yy hj
  clear hpj hj
  by_cases hle : id ≤ pj
  ·have hle' := decide_eq_true hle
   have HBD := yy (show chk g b (doTake b ids) = none from by rw [HP2.out]; have hk := HJ.out; subst hk; exact take_bad2 hlt (by rw [HID.out, HPJ.out]; exact hle))
   clear hle
   go_wp2_with fail
   have d0 := gcell d0
   have d1 := gcell d1
   go_quiet_grown (fail)
   have kq := gro_of_grow w3 nq osq
   dsimp only at kq ⊢
   clear d0 d1 hli
   generalize Go.Sort.grow (w3.drewN nq) osq = w5 at kq ⊢
   have HN5 := yy (HN4.out.step kq)
   clear kq
   have BTw := yy HN5.out.tb
   have fT := blk_frozen BTw.out
   have f0 := fT 0
   have f1 := fT 1
   have f2 := fT 2
   have f3 := fT 3
   obtain ⟨t0, t1, t2, t3, hlT⟩ := cells4 BTw.out
   clear fT
   have K4 := yy HN5.out.gro
   have hlq : w.heap.size ≤ w2.heap.size := hszw
   have B5 := set4 BTw.out (.int .i64 0) (.slice none 0 0) (.slice none 0 0) (.slice none 0 0)
   have K5 := kept4 (K4.out) (.inr (by omega : w.heap.size ≤ w.heap.size + 1 + 1)) (.int .i64 0) (.slice none 0 0) (.slice none 0 0) (.slice none 0 0)
   have B6 := yy B5
   have K6 := yy K5
   have HN := yy (HBD.out)
   clear B5 K5
   go_wp2_with fail
   (try simp only [Exit.inBlock, Exit.then])
   refine bodyPost_ret (results_cell_tmp_row (p := 6) (u := 7) (ty := 28) rfl _ _ (w.heap.size + 1 + 1) 28 _ (0, 0) _ rfl B6.out Tryz.underlying28 rfl (by kernel_rfl)) rfl ⟨K6.out, .inr ⟨HN.out, rfl⟩⟩
  have hle' := decide_eq_false hle
  have HA5 := yy (asc_on hlt HAS.out (fun j' hj' e => by obtain rfl : j' = j := (by have := HJ.out; omega); rw [HID.out, HPJ.out]; omega))
  clear hle
  go_wp2_with fail
  have d0 := gcell d0
  have d1 := gcell d1
  go_quiet_grown (fail)
  have kq := gro_of_grow w3 nq osq
  dsimp only at kq ⊢
  clear d0 d1 hli
  generalize Go.Sort.grow (w3.drewN nq) osq = w5 at kq ⊢
  have HN5 := yy (HN4.out.step kq)
  clear kq
  obtain ⟨⟨y0, y1, y2, y3c⟩, _, hlO3⟩ := HN5.out.cells
  have HC := yy (closed72 HN5.out.bo HVC.out.fits.bfew HN5.out.bz i hi 3)
  go_wp2_with fail
  refine HC.out.mono ?_
  rintro e w4 ⟨q5, rfl, hbo5, k5⟩
  obtain ⟨y5, m5, hq5⟩ := hbo5.ws.form
  generalize hN5 : (closeAt c i hi 3).ws.length = N5 at hq5
  subst hq5
  have hP := HN5.out.put hbo5 k5
  have hob4 := k5.blk HN5.out.ob (own_far HN5.out.bo.os HN5.out.ob (by decide))
  have gz := blk_frozen hob4
  have g0 := gz 0
  have g1 := gz 1
  have g2 := gz 2
  have g3 := gz 3
  obtain ⟨z0, z1, z2, z3, hlO4⟩ := cells4 hob4
  rw [closeAt_eq HVC.out.ao i hi 3, hiid] at hP
  have HP5 := yy hP
  have HV5 := yy (HVC.out.closeId id 3 (by omega))
  have HT5 := yy (HID.out ▸ take_on hlt HTA.out (HID.out ▸ hop))
  clear hP hob4 gz hbo5 k5 HC y0 y1 y2 y3c hN5 hiid hop
  go_wp2_with fail
  go_roundw
  case rel => exact ⟨k + 1, closeId c id 3, _, by omega, by go_num, HP5, HV5, HT5, HA5⟩
  case measure => simp [intOf]; omega
 obtain rfl : k = ids.length := by omega
 have hd := take_done HTA.out HAS.out
 have HDN := yy (show chk g b (doTake b ids) = some c from by rw [HP2.out]; exact hd)
 have BTw := yy HN.out.tb
 have fT := blk_frozen BTw.out
 have f0 := fT 0
 have f1 := fT 1
 have f2 := fT 2
 have f3 := fT 3
 obtain ⟨t0, t1, t2, t3, hlT⟩ := cells4 BTw.out
 clear fT
 have hn := HN.out
 have HP9 := yy (hn.bo.ps.lv (by have := HVC.out.fits.bfew.ps; omega))
 have HO9 := yy (hn.bo.os.lv (by have := HVC.out.fits.bfew.os; omega))
 have HQ9 := yy (hn.bo.ws.lv (by have := HVC.out.fits.bfew.ws; omega))
 have K4 := yy hn.gro
 have hlq : w.heap.size ≤ w2.heap.size := hszw
 clear hn hd
 have B5 := set4 BTw.out (.int .i64 c.round) (.slice x1' b.ps.length c1) (.slice x2' b.os.length c2) (.slice y3 N3 m3)
 have K5 := kept4 (K4.out) (.inr (by omega : w.heap.size ≤ w.heap.size + 1 + 1)) (.int .i64 c.round) (.slice x1' b.ps.length c1) (.slice x2' b.os.length c2) (.slice y3 N3 m3)
 have K9 := kept4 (Kept.refl (· = w.heap.size + 1 + 1) wr) (.inl rfl) (.int .i64 c.round) (.slice x1' b.ps.length c1) (.slice x2' b.os.length c2) (.slice y3 N3 m3)
 have Q0 := yy (HP9.out.farB K9 BTw.out (by decide) (fun x => ⟨x.id, x.budget, rfl, rfl⟩))
 have Q1 := yy (HO9.out.farB K9 BTw.out (by decide) (fun x => ⟨x.id, x.party, rfl, rfl⟩))
 have Q2 := yy (HQ9.out.farB K9 BTw.out (by decide) (fun x => ⟨x.edge, x.src, rfl, rfl⟩))
 have B6 := yy B5
 have K6 := yy K5
 have HY := yy (HDN.out)
 clear B5 K5 K9
 go_wp2_with fail
 (try simp only [Exit.inBlock, Exit.then])
 refine bodyPost_ret (results_cell_tmp_row (p := 6) (u := 7) (ty := 28) rfl _ _ (w.heap.size + 1 + 1) 28 _ (0, 0) _ rfl B6.out Tryz.underlying28 rfl (by kernel_rfl)) rfl ⟨K6.out, .inl ⟨c, _, HY.out, rfl, ⟨_, _, _, rfl, Q0.out, Q1.out, Q2.out⟩⟩⟩
end Go.Proofs.YthfagcdjbmhhcaaGreat
