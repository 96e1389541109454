/- the reference: Add. -/
import Derived.Test.YthfagcdjbmhhcaaGreatK22
import Derived.Test.YthfagcdjbmhhcaaGreatK15
set_option linter.unusedVariables false
set_option linter.unusedSimpArgs false
namespace Go.Proofs.YthfagcdjbmhhcaaGreat
open Go.RowKit
attribute [local irreducible] wpQuiet
theorem lfR131 {P : Prop} (h : P := by (intro w hSw; obtain ⟨cbt0, cbt1, cbt2, cbt3, cblt⟩ := cells4 hSw.1; have cbe := blk_cell hSw.2; have cbe0 := cbe 0; have cbe1 := cbe 1; have cbe2 := cbe 2; have cbe3 := cbe 3; have cbe4 := cbe 4; have cbe5 := cbe 5; have cbe6 := cbe 6; simp only [lPa, lPb, lPc] at cbe0 cbe1 cbe2 cbe3 cbe4 cbe5 cbe6; have cble := blk_lt hSw.2; clear cbe; clear hSw; go_simp; try with_reducible rfl)) : P := h
theorem put_len (x : Ofr) (os : List Ofr) : (putO x os).length ≤ os.length + 1 := by
 unfold putO
 split
 ·simp
 rw [length_ins]; omega
theorem NX.putAt {w wr : World} {T O base go co n : Nat} {p q : Value} {b : Bk} (h : NX w wr T O base p (.slice (some ⟨go, 0, none⟩) n co) q b) (i : Nat) (hi : i < b.os.length) (x : Ofr) :
  NX w (put7 wr go i x) T O base p (.slice (some ⟨go, 0, none⟩) n co) q { b with os := b.os.set i x } := by
 have kk : Kept (ownF (.slice (some ⟨go, 0, none⟩) n co)) wr (put7 wr go i x) := kept7 (F := ownF (.slice (some ⟨go, 0, none⟩) n co)) (Kept.refl _ wr) (.inl rfl) i x
 have hg : Gro w (put7 wr go i x) := Kept.trans' h.gro kk (fun j hj => .inr (Nat.le_trans h.bl (h.bo.os.block hj).1))
 exact ⟨kk.blk h.tb (own_far h.bo.os h.tb (by decide)), kk.blk h.ob (own_far h.bo.os h.ob (by decide)),
  ⟨h.bo.ps.kept kk (own_far2 h.bo.os h.bo.ps (by decide)), h.bo.os.put7 i hi x, h.bo.ws.kept kk (own_far2 h.bo.os h.bo.ws (by decide))⟩, hg, h.tne, h.tl, h.ol, h.bl, Nat.le_trans h.bz kk.size⟩
theorem NX.box {w wr : World} {T O base go co n : Nat} {p q : Value} {b : Bk} (h : NX w wr T O base p (.slice (some ⟨go, 0, none⟩) n co) q b) (i : Nat) (x : Ofr) {X : Nat} {cs : Array Value} {t : TypeId} (hX : wr.heap[X]? = some (.cells cs t (0, 0))) (hne : t ≠ 30) : (put7 wr go i x).heap[X]? = some (.cells cs t (0, 0)) :=
 (kept7 (Kept.refl (ownF (.slice (some ⟨go, 0, none⟩) n co)) wr) (.inl rfl) i x).blk hX (own_far h.bo.os hX hne)
set_option maxHeartbeats 16000000 in
set_option maxRecDepth 100000 in
theorem radd19 {w : World} {vg vb : Value} {g : Gr} {b : Bk} (hG : GrV w vg g) (hB : BkV w vb b) (hf : Fits g b) (x : Ofr) : Calls Tryz.prog 19 #[vg, vb, .agg #[.int .i64 x.id, .int .i64 x.party, .int .i64 x.side, .int .i64 x.place, .int .i64 x.price, .int .i64 x.until_, .int .i64 x.state]] w (ChPost w (chk g b (doAdd b x))) := by
 have hmix := mixed
 obtain ⟨v1, v2, v3, rfl, hg0⟩ := hG
 obtain ⟨a1, n1, rfl, l1⟩ := hg0.vs
 obtain ⟨a2, n2, rfl, l2⟩ := hg0.es
 obtain ⟨a3, n3, rfl, l3⟩ := hg0.ds
 obtain ⟨p, o, q, rfl, hp, ho, hq⟩ := hB
 obtain ⟨ap, np, rfl, lp⟩ := hp
 obtain ⟨ao, no, rfl, lo⟩ := ho
 obtain ⟨aq, mq, rfl, lq⟩ := hq
 obtain ⟨wa, hwa⟩ : ∃ wa, wa = (((w.alloc (.cells #[Value.slice a1 g.vs.length n1, Value.slice a2 g.es.length n2, Value.slice a3 g.ds.length n3] 38)).alloc (.cells #[Value.int IntKind.i64 b.round, Value.slice ap b.ps.length np, Value.slice ao b.os.length no, Value.slice aq b.ws.length mq] 28)).alloc (.cells #[.int .i64 x.id, .int .i64 x.party, .int .i64 x.side, .int .i64 x.place, .int .i64 x.price, .int .i64 x.until_, .int .i64 x.state] 30)).alloc (.cells #[Value.int IntKind.i64 0, Value.slice none 0 0, Value.slice none 0 0, Value.slice none 0 0] 28) := ⟨_, rfl⟩
 have k0 : Gro w wa := by rw [hwa]; exact ((((Gro.refl _).alloc _).alloc _).alloc _).alloc _
 have bG : wa.heap[w.heap.size]? = some (.cells #[Value.slice a1 g.vs.length n1, Value.slice a2 g.es.length n2, Value.slice a3 g.ds.length n3] 38 (0, 0)) := by rw [hwa]; exact blk_alloc (blk_alloc (blk_alloc (blk_new _ _) _) _) _
 have bB : wa.heap[w.heap.size + 1]? = some (.cells #[Value.int IntKind.i64 b.round, Value.slice ap b.ps.length np, Value.slice ao b.os.length no, Value.slice aq b.ws.length mq] 28 (0, 0)) := by
  rw [hwa]
  have := blk_new (w.alloc (.cells #[Value.slice a1 g.vs.length n1, Value.slice a2 g.es.length n2, Value.slice a3 g.ds.length n3] 38)) (.cells #[Value.int IntKind.i64 b.round, Value.slice ap b.ps.length np, Value.slice ao b.os.length no, Value.slice aq b.ws.length mq] 28)
  rw [asz] at this
  exact blk_alloc (blk_alloc (this) _) _
 have bC0 : wa.heap[w.heap.size + 1 + 1]? = some (.cells #[.int .i64 x.id, .int .i64 x.party, .int .i64 x.side, .int .i64 x.place, .int .i64 x.price, .int .i64 x.until_, .int .i64 x.state] 30 (0, 0)) := by
  rw [hwa]
  have := blk_new ((w.alloc (.cells #[Value.slice a1 g.vs.length n1, Value.slice a2 g.es.length n2, Value.slice a3 g.ds.length n3] 38)).alloc (.cells #[Value.int IntKind.i64 b.round, Value.slice ap b.ps.length np, Value.slice ao b.os.length no, Value.slice aq b.ws.length mq] 28)) (.cells #[.int .i64 x.id, .int .i64 x.party, .int .i64 x.side, .int .i64 x.place, .int .i64 x.price, .int .i64 x.until_, .int .i64 x.state] 30)
  rw [asz, asz] at this
  exact blk_alloc (this) _
 have bT : wa.heap[w.heap.size + 1 + 1 + 1]? = some (.cells #[Value.int IntKind.i64 0, Value.slice none 0 0, Value.slice none 0 0, Value.slice none 0 0] 28 (0, 0)) := by
  rw [hwa]
  have := blk_new (((w.alloc (.cells #[Value.slice a1 g.vs.length n1, Value.slice a2 g.es.length n2, Value.slice a3 g.ds.length n3] 38)).alloc (.cells #[Value.int IntKind.i64 b.round, Value.slice ap b.ps.length np, Value.slice ao b.os.length no, Value.slice aq b.ws.length mq] 28)).alloc (.cells #[.int .i64 x.id, .int .i64 x.party, .int .i64 x.side, .int .i64 x.place, .int .i64 x.price, .int .i64 x.until_, .int .i64 x.state] 30)) (.cells #[Value.int IntKind.i64 0, Value.slice none 0 0, Value.slice none 0 0, Value.slice none 0 0] 28)
  rw [asz, asz, asz] at this
  exact this
 have GV : ∀ W, Gro wa W → GrV W (.agg #[Value.slice a1 g.vs.length n1, Value.slice a2 g.es.length n2, Value.slice a3 g.ds.length n3]) g := fun W hW => ⟨_, _, _, rfl, hg0.gro (k0.trans hW)⟩
 have BV : ∀ W, Gro wa W → BkV W (.agg #[Value.int IntKind.i64 b.round, Value.slice ap b.ps.length np, Value.slice ao b.os.length no, Value.slice aq b.ws.length mq]) b := fun W hW => ⟨_, _, _, rfl, ⟨_, _, rfl, lp.gro (k0.trans hW)⟩, ⟨_, _, rfl, lo.gro (k0.trans hW)⟩, ⟨_, _, rfl, lq.gro (k0.trans hW)⟩⟩
 have C15 := yy (fun W hW => valid15 (GV W hW) (BV W hW) hf)
 have C66 := yy (fun W hW id => open66 (BV W hW) hf.bfew id)
 have C67 := yy (fun W hW => copy67 (BV W hW) hf.bfew)
 have HGV := yy GV
 have HGW : Hid (∀ W, Gro w W → GrV W (.agg #[Value.slice a1 g.vs.length n1, Value.slice a2 g.es.length n2, Value.slice a3 g.ds.length n3]) g) := yy (fun W hW => ⟨_, _, _, rfl, hg0.gro hW⟩)
 have HBV := yy BV
 have HF := yy hf
 have HW := yy hwa
 have K0 := yy k0
 have BA := yy bG
 have BX := yy bB
 have BT := yy bT
 have LO := yy (lo.gro k0)
 have BC0 := yy bC0
 clear hg0 l1 l2 l3 lp lo lq hf k0 bG bB bT hwa GV BV bC0
 go_enter Tryz.func19, Tryz.ntmps19
 go_wp2_with fail
 rw [← HW.out]
 clear HW
 have cz := blk_cell ((Gro.refl _).blk BC0.out)
 have z0 := cz 0
 have z1 := cz 1
 have z2 := cz 2
 have z3 := cz 3
 have z4 := cz 4
 have z5 := cz 5
 have z6 := cz 6
 simp only [lPa, lPb, lPc] at z0 z1 z2 z3 z4 z5 z6
 have hlz := blk_lt ((Gro.refl _).blk BC0.out)
 clear cz
 refine (C66.out _ (Gro.refl _) x.id).mono ?_
 rintro e w1 ⟨rfl, k1⟩
 have K1 := yy k1
 clear k1 z0 z1 z2 z3 z4 z5 z6 hlz
 have cq := blk_cell ((K1.out).blk BX.out)
 have q0 := cq 0
 have q1 := cq 1
 have q2 := cq 2
 have q3 := cq 3
 simp only [lPa, lPb, lPc] at q0 q1 q2 q3
 have hlq := blk_lt ((K1.out).blk BX.out)
 clear cq
 have cg := blk_cell ((K1.out).blk BA.out)
 have g0 := cg 0
 have g1 := cg 1
 have g2 := cg 2
 simp only [lPa, lPb, lPc] at g0 g1 g2
 have hlg := blk_lt ((K1.out).blk BA.out)
 clear cg
 go_wp2_with fail
 refine (C15.out _ K1.out).mono ?_
 rintro e w2 ⟨rfl, k2⟩
 have K2 := yy (K1.out.trans k2)
 clear k2 q0 q1 q2 q3 hlq g0 g1 g2 hlg K1
 have cq := blk_cell ((K2.out).blk BX.out)
 have q0 := cq 0
 have q1 := cq 1
 have q2 := cq 2
 have q3 := cq 3
 simp only [lPa, lPb, lPc] at q0 q1 q2 q3
 have hlq := blk_lt ((K2.out).blk BX.out)
 clear cq
 have cz := blk_cell ((K2.out).blk BC0.out)
 have z0 := cz 0
 have z1 := cz 1
 have z2 := cz 2
 have z3 := cz 3
 have z4 := cz 4
 have z5 := cz 5
 have z6 := cz 6
 simp only [lPa, lPb, lPc] at z0 z1 z2 z3 z4 z5 z6
 have hlz := blk_lt ((K2.out).blk BC0.out)
 clear cz
 have BTw := yy ((K2.out).blk BT.out)
 have fT := blk_frozen BTw.out
 have cT := blk_cell BTw.out
 have f0 := fT 0
 have f1 := fT 1
 have f2 := fT 2
 have f3 := fT 3
 have t0 := cT 0
 have t1 := cT 1
 have t2 := cT 2
 have t3 := cT 3
 simp only [lPa, lPb, lPc] at t0 t1 t2 t3
 have hlT := blk_lt BTw.out
 clear fT cT
 have hszT : w.heap.size + 1 + 1 + 1 < w2.heap.size := hlT
 cases hv : validB g b with
 | false =>
  have B5 := set4 BTw.out (.int .i64 0) (.slice none 0 0) (.slice none 0 0) (.slice none 0 0)
  have K5 := kept4 (K0.out.trans K2.out) (.inr (by omega : w.heap.size ≤ w.heap.size + 1 + 1 + 1)) (.int .i64 0) (.slice none 0 0) (.slice none 0 0) (.slice none 0 0)
  have B6 := yy B5
  have K6 := yy K5
  have HN := yy (show chk g b (doAdd b x) = none from by rw [chk_okB, hv]; rfl)
  clear B5 K5
  go_wp2_with fail
  (try simp only [Exit.inBlock, Exit.then])
  refine bodyPost_ret (results_cell_tmp_row (p := 6) (u := 7) (ty := 28) rfl _ _ (w.heap.size + 1 + 1 + 1) 28 _ (0, 0) _ rfl B6.out Tryz.underlying28 rfl (by kernel_rfl)) rfl ⟨K6.out, .inr ⟨HN.out, rfl⟩⟩
 | true =>
 have HV := yy (validB_iff.1 hv)
 have hck := chk_add (x := x) hv
 cases hop : opn' b x.id with
 | true =>
  have B5 := set4 BTw.out (.int .i64 0) (.slice none 0 0) (.slice none 0 0) (.slice none 0 0)
  have K5 := kept4 (K0.out.trans K2.out) (.inr (by omega : w.heap.size ≤ w.heap.size + 1 + 1 + 1)) (.int .i64 0) (.slice none 0 0) (.slice none 0 0) (.slice none 0 0)
  have B6 := yy B5
  have K6 := yy K5
  have HN := yy (show chk g b (doAdd b x) = none from by rw [hck, if_pos (.inr hop)])
  clear B5 K5
  go_wp2_with fail
  (try simp only [Exit.inBlock, Exit.then])
  refine bodyPost_ret (results_cell_tmp_row (p := 6) (u := 7) (ty := 28) rfl _ _ (w.heap.size + 1 + 1 + 1) 28 _ (0, 0) _ rfl B6.out Tryz.underlying28 rfl (by kernel_rfl)) rfl ⟨K6.out, .inr ⟨HN.out, rfl⟩⟩
 | false =>
 by_cases hs : x.state = 1
 ·have hs' : (x.state != 1) = false := by simpa using hs
  have HCK : Hid (chk g b (doAdd b x) = okB g { b with os := putO x b.os }) := yy (by rw [hck, if_neg (by rw [hop]; simp [hs])]; rfl)
  have HOP := yy hop
  clear hck hop hs
  go_wp2_with fail
  refine (C67.out _ K2.out).mono ?_
  rintro e w3 ⟨p9, o9, q9, rfl, k3, op, oo, oq⟩
  obtain ⟨x1', m1, e1⟩ := op.form
  obtain ⟨x2', m2, e2⟩ := oo.form
  obtain ⟨x3', m3, e3⟩ := oq.form
  subst e1 e2 e3
  obtain ⟨wo, hwo⟩ : ∃ wo, wo = w3.alloc (Obj.cells #[.int .i64 b.round, .slice x1' b.ps.length m1, .slice x2' b.os.length m2, .slice x3' b.ws.length m3] 28) := ⟨_, rfl⟩
  have ko : Gro w3 wo := by rw [hwo]; exact (Gro.refl _).alloc _
  have hO : wo.heap[w3.heap.size]? = some (.cells #[.int .i64 b.round, .slice x1' b.ps.length m1, .slice x2' b.os.length m2, .slice x3' b.ws.length m3] 28 (0, 0)) := by rw [hwo]; exact blk_new _ _
  have hszw : w.heap.size ≤ w2.heap.size := (K0.out.trans K2.out).size
  have hNX : NX w wo (w.heap.size + 1 + 1 + 1) w3.heap.size w2.heap.size (.slice x1' b.ps.length m1) (.slice x2' b.os.length m2) (.slice x3' b.ws.length m3) b :=
   ⟨ko.blk (k3.blk BTw.out), hO, ⟨op.gro ko, oo.gro ko, oq.gro ko⟩, ((K0.out.trans K2.out).trans k3).trans ko, by have := k3.size; omega, by omega, by have := k3.size; omega, hszw, Nat.le_trans k3.size ko.size⟩
  have HNo := yy hNX
  have HWO := yy hwo
  have C40 := yy (find40 (hNX.bo.bk HF.out.bfew) HF.out.bfew x.id)
  have BC3 := yy (((K2.out.trans k3).trans ko).blk BC0.out)
  have BG3 := yy (((K2.out.trans k3).trans ko).blk BA.out)
  clear op oo oq k3 ko hO hNX hwo q0 q1 q2 q3 hlq z0 z1 z2 z3 z4 z5 z6 hlz f0 f1 f2 f3 t0 t1 t2 t3 hlT hv BTw
  have fw := HF.out.bfew.os
  have hlens := HV.out.lens
  have cz := blk_cell BC3.out
  have z0 := cz 0
  simp only [lPa, lPb, lPc] at z0
  have hlz := blk_lt BC3.out
  rw [HWO.out] at z0 hlz
  clear cz
  go_wp2_with fail
  rw [← HWO.out]
  clear z0 hlz HWO
  generalize w3.heap.size = O at HNo ⊢
  refine C40.out.mono ?_
  rintro e w6 ⟨rfl, k6⟩
  have HN0 := yy (HNo.out.step k6)
  have BCo := yy (k6.blk BC3.out)
  have BGo := yy (k6.blk BG3.out)
  have hc := fidx_fnd (b := b) (id := x.id)
  generalize fidx (b.os.map Ofr.id) x.id = f at hc C40 ⊢
  have HC := yy hc
  clear k6 HNo BC3 BG3 C40 hc
  go_upto_if 42 with fail
  go_cut [] (fun wx => ∃ v' : Value, Hid (NX w wx (w.heap.size + 1 + 1 + 1) O w2.heap.size (.slice x1' b.ps.length m1) v' (.slice x3' b.ws.length m3) { b with os := putO x b.os }) ∧ Hid (wx.heap[w.heap.size]? = some (.cells #[Value.slice a1 g.vs.length n1, Value.slice a2 g.es.length n2, Value.slice a3 g.ds.length n3] 38 (0, 0))))
  case first =>
   rcases HC.out with ⟨hn, rfl, _⟩ | ⟨i, hi, _, rfl, hid⟩
   ·have HPN : Hid (putO x b.os = ins Ofr.id x b.os) := yy (putO_new x (fun hm => by
     obtain ⟨y, hy, e⟩ := List.mem_map.1 hm
     unfold fnd at hn
     rw [List.find?_eq_none] at hn
     exact hn y hy (by simp [e])))
    clear HC hn
    go_upto_block 0 with fail
    go_cut [12] (fun t wx => ∃ i : Nat, i ≤ b.os.length ∧ t = .int .i64 i ∧ Hid (Gro w6 wx) ∧ Hid (∀ j (h : j < b.os.length), j < i → b.os[j].id < x.id) ∧ Hid (∀ h : i < b.os.length, x.id ≤ b.os[i].id))
    case first =>
     go_wp2_with fail
     go_loopw [12] (fun t wr2 => ∃ i : Nat, i ≤ b.os.length ∧ t = .int .i64 i ∧ Hid (Gro w6 wr2) ∧ Hid (∀ j (h : j < b.os.length), j < i → b.os[j].id < x.id)) (fun t _ => b.os.length - (intOf t).toNat)
     case atStart => exact ⟨0, Nat.zero_le _, by go_num, yy (Gro.refl _), yy (fun j h hj => by omega)⟩
     case round =>
     obtain ⟨i, hi, rfl, HG, HLT⟩ := hrel
     have z0 := blk_cell (HG.out.blk BCo.out) 0
     have t1 := blk_cell (HG.out.blk HN0.out.ob) 2
     simp only [lPa, lPb, lPc] at z0 t1
     have hlE2 := blk_lt (HG.out.blk BCo.out)
     have hlT2 := blk_lt (HG.out.blk HN0.out.ob)
     have z0 := gcell z0
     have t1 := gcell t1
     by_cases hli : i < b.os.length
     ·have hlI := decide_eq_true (show (i : Int) < (b.os.length : Int) by omega)
      obtain ⟨Bv, offv, rfl, hbv, hcv⟩ := (own_lst (HN0.out.bo.os.gro HG.out) (by omega)).base hli
      obtain ⟨e0, _, _, _, _, _, _⟩ := ocells hcv hli
      have hlv := World.block_lt_of_cell? _ _ e0
      have e0 := gcell e0
      obtain ⟨y, hy⟩ : ∃ y, y = b.os[i].id := ⟨_, rfl⟩
      rw [← hy] at e0
      have HY := yy hy
      clear hy hcv
      by_cases hlt2 : y < x.id
      ·have hl2d := decide_eq_true hlt2
       go_wp2_with fail
       go_quiet_grown (fail)
       have kq := gro_of_grow wr nq osq
       dsimp only at kq ⊢
       clear z0 t1 e0
       generalize Go.Sort.grow (wr.drewN nq) osq = w3 at kq ⊢
       have HG3 := yy (HG.out.trans kq)
       clear kq
       have HLT3 : Hid (∀ j (h : j < b.os.length), j < i + 1 → b.os[j].id < x.id) := yy (fun j h hj => by
        by_cases e : j = i
        ·subst e; rw [← HY.out]; exact hlt2
        exact HLT.out j h (by omega))
       go_wp2_with fail
       go_roundw
       case rel => first | exact ⟨i + 1, by omega, by go_num, HG3, HLT3⟩ | ((repeat apply Exists.intro); exact ⟨⟨by omega, by go_num, HG3, HLT3⟩, rfl⟩) | ((repeat apply Exists.intro); exact ⟨⟨_, by omega, by go_num, HG3, HLT3⟩, rfl⟩) | trace_state
       case measure => simp [intOf]; omega
      have hl2d := decide_eq_false hlt2
      have HGE : Hid (∀ h : i < b.os.length, x.id ≤ b.os[i].id) := yy (fun h => by rw [← HY.out]; omega)
      go_wp2_with fail
      go_quiet_grown (fail)
      have kq := gro_of_grow wr nq osq
      dsimp only at kq ⊢
      clear z0 t1 e0
      generalize Go.Sort.grow (wr.drewN nq) osq = w3 at kq ⊢
      have HG3 := yy (HG.out.trans kq)
      clear kq
      go_wp2_with fail
      go_meet
      exact ⟨i, hi, rfl, HG3, HLT, HGE⟩
     have hlI := decide_eq_false (show ¬ (i : Int) < (b.os.length : Int) by omega)
     have HGE : Hid (∀ h : i < b.os.length, x.id ≤ b.os[i].id) := yy (fun h => absurd h hli)
     go_wp2_with fail
     go_quiet_grown (fail)
     have kq := gro_of_grow wr nq osq
     dsimp only at kq ⊢
     clear z0 t1
     generalize Go.Sort.grow (wr.drewN nq) osq = w3 at kq ⊢
     have HG3 := yy (HG.out.trans kq)
     clear kq
     go_wp2_with fail
     go_meet
     exact ⟨i, hi, rfl, HG3, HLT, HGE⟩
    case rest =>
    obtain ⟨i, hi, rfl, HG, HLT, HGE⟩ := hcut
    go_upto_region 11 with fail
    obtain ⟨wi, hwi⟩ : ∃ wi, wi = wc := ⟨_, rfl⟩
    rw [← hwi] at HG ⊢
    clear hwi
    have HBws : Hid (OwnL wi w2.heap.size (.slice x2' b.os.length m2) b.os) := yy (HN0.out.bo.os.gro HG.out)
    have hbw : w2.heap.size ≤ wi.heap.size := Nat.le_trans HN0.out.bz HG.out.size
    have LESS := HLT
    have MORE := HGE
    have HTB := yy (HG.out.blk HN0.out.ob)
    have HXB := yy (HG.out.blk BCo.out)
    obtain ⟨L, hLw⟩ : ∃ L, L = b.os := ⟨_, rfl⟩
    rw [← hLw] at HTB HBws hi fw
    have LESS2 : Hid (∀ j (h : j < L.length), j < i → L[j].id < x.id) := yy (by subst hLw; exact LESS.out)
    have MORE2 : Hid (∀ h : i < L.length, x.id ≤ L[i].id) := yy (by subst hLw; exact MORE.out)
    have HLw := yy hLw.symm
    clear hLw
    rcases own_cases HBws.out with ⟨hva, hL0⟩ | ⟨gv, cv2, hva, hcap⟩
    ·injection hva with e1 e2 e3
     clear e2
     subst e1 e3 hL0
     have hi0 : i = 0 := by simpa using hi
     subst hi0
     have HS0 : Hid ((fun w' => w'.heap[O]? = some (.cells #[.int .i64 b.round, .slice x1' b.ps.length m1, .slice none 0 0, .slice x3' b.ws.length m3] 28 (0, 0)) ∧ w'.heap[w.heap.size + 1 + 1]? = some (.cells #[.int .i64 x.id, .int .i64 x.party, .int .i64 x.side, .int .i64 x.place, .int .i64 x.price, .int .i64 x.until_, .int .i64 x.state] 30 (0, 0))) wi.drew) := yy ⟨(Gro.refl wi).drew.blk HTB.out, (Gro.refl wi).drew.blk HXB.out⟩
     have HOWN := HBws
     refine anyL_begin 14 (fun w' => w'.heap[O]? = some (.cells #[.int .i64 b.round, .slice x1' b.ps.length m1, .slice none 0 0, .slice x3' b.ws.length m3] 28 (0, 0)) ∧ w'.heap[w.heap.size + 1 + 1]? = some (.cells #[.int .i64 x.id, .int .i64 x.party, .int .i64 x.side, .int .i64 x.place, .int .i64 x.price, .int .i64 x.until_, .int .i64 x.state] 30 (0, 0))) (by kernel_rfl) ?_
     have hS : (fun w' => w'.heap[O]? = some (.cells #[.int .i64 b.round, .slice x1' b.ps.length m1, .slice none 0 0, .slice x3' b.ws.length m3] 28 (0, 0)) ∧ w'.heap[w.heap.size + 1 + 1]? = some (.cells #[.int .i64 x.id, .int .i64 x.party, .int .i64 x.side, .int .i64 x.place, .int .i64 x.price, .int .i64 x.until_, .int .i64 x.state] 30 (0, 0))) wi.drew := HS0.out
     have HO := yy (HOWN.out.gro ((Gro.refl wi).drew))
     have HKD := yy ((Gro.refl wi).drew)
     clear HOWN HS0
     generalize wi.drew = wd at hS HO HKD ⊢
     refine tkL 0 rfl lfR131 hS ?_
     refine nx ?_
     refine tkL 1 rfl lfR131 hS ?_
     refine nx ?_
     refine tkL 2 rfl lfR131 hS ?_
     refine nx ?_
     refine tkL 3 rfl lfR131 hS ?_
     refine nx ?_
     refine tkL 4 rfl lfR131 hS ?_
     refine nx ?_
     refine tkL 5 rfl lfR131 hS ?_
     refine nx ?_
     refine tkL 7 rfl lfR131 hS ?_
     refine nx ?_
     refine tkL 8 rfl lfR131 hS ?_
     refine nx ?_
     refine tkL 9 rfl lfR131 hS ?_
     refine nx ?_
     refine tkL 10 rfl lfR131 hS ?_
     refine nx ?_
     refine anyL_one (i := 6) (by kernel_rfl) rfl (fun K hK => ?_)
     go_simp
     obtain ⟨w1, hw1⟩ : ∃ w1, w1 = wd.alloc (Obj.cells #[.int .i64 x.id, .int .i64 x.party, .int .i64 x.side, .int .i64 x.place, .int .i64 x.price, .int .i64 x.until_, .int .i64 x.state] 30) := ⟨_, rfl⟩
     rw [← hw1]
     have k1 : Gro wd w1 := by rw [hw1]; exact (Gro.refl _).alloc _
     have o1 : OwnL w1 wd.heap.size (.slice (some ⟨wd.heap.size, 0, none⟩) 1 1) [x] := by rw [hw1]; exact own_single x wd
     have hS1 : (fun w' => w'.heap[O]? = some (.cells #[.int .i64 b.round, .slice x1' b.ps.length m1, .slice none 0 0, .slice x3' b.ws.length m3] 28 (0, 0)) ∧ w'.heap[w.heap.size + 1 + 1]? = some (.cells #[.int .i64 x.id, .int .i64 x.party, .int .i64 x.side, .int .i64 x.place, .int .i64 x.price, .int .i64 x.until_, .int .i64 x.state] 30 (0, 0))) w1 := ⟨k1.blk hS.1, k1.blk hS.2⟩
     clear hw1
     refine hK.out _ _ (fun _ => hS1) ?_
     clear hK K
     try refine nx ?_
     have hsz1 : wd.heap.size ≤ w1.heap.size := k1.size
     have LL := HO.out.lv (by omega)
     obtain ⟨v2, w2', hrun2, o2, k2⟩ := run_appL o1 (show Lst w1 none 0 0 (([] : List Ofr).drop 0) from lst_nil _ _) (by simp only [List.length_cons, List.length_nil, List.length_drop]; omega) hsz1 25
     have k12 : Gro wd w2' := Kept.trans' k1 k2 (fun j hj => .inr (o1.block hj).1)
     have hS2 : (fun w' => w'.heap[O]? = some (.cells #[.int .i64 b.round, .slice x1' b.ps.length m1, .slice none 0 0, .slice x3' b.ws.length m3] 28 (0, 0)) ∧ w'.heap[w.heap.size + 1 + 1]? = some (.cells #[.int .i64 x.id, .int .i64 x.party, .int .i64 x.side, .int .i64 x.place, .int .i64 x.price, .int .i64 x.until_, .int .i64 x.state] 30 (0, 0))) w2' := ⟨k12.blk hS.1, k12.blk hS.2⟩
     refine anyL_one (i := 11) (by kernel_rfl) rfl (fun K hK => ?_)
     refine step_run rfl _ _ 25 rfl _ _ rfl rfl hrun2 ?_
     refine hK.out _ _ (fun _ => hS2) ?_
     clear hK K
     try refine nx ?_
     obtain ⟨az2, cz2, hv2, l2⟩ := o2.lv (by simp only [List.length_append, List.length_cons, List.length_nil, List.length_drop]; omega)
     obtain ⟨v3, w3, hrun3, o3, k3⟩ := run_appcap (show Lst w2' none 0 0 (([] : List Ofr).take 0) from lst_nil _ _) (fun _ => rfl) (l2) (by simp) (by simp only [List.length_append, List.length_cons, List.length_nil, List.length_drop, List.length_take]; omega) 25
     rw [← hv2] at hrun3
     have k13 : Gro wd w3 := k12.trans k3
     have hS3 : (fun w' => w'.heap[O]? = some (.cells #[.int .i64 b.round, .slice x1' b.ps.length m1, .slice none 0 0, .slice x3' b.ws.length m3] 28 (0, 0)) ∧ w'.heap[w.heap.size + 1 + 1]? = some (.cells #[.int .i64 x.id, .int .i64 x.party, .int .i64 x.side, .int .i64 x.place, .int .i64 x.price, .int .i64 x.until_, .int .i64 x.state] 30 (0, 0))) w3 := ⟨k13.blk hS.1, k13.blk hS.2⟩
     refine anyL_one (i := 12) (by kernel_rfl) rfl (fun K hK => ?_)
     refine step_run rfl _ _ 25 rfl _ _ rfl rfl hrun3 ?_
     refine hK.out _ _ (fun _ => hS3) ?_
     clear hK K
     try refine nx ?_
     have o3' : OwnL w3 w2.heap.size v3 (insAt ([] : List Ofr) 0 x) := by
      have h3 := o3.le (Nat.le_trans hbw (Nat.le_trans HKD.out.size k12.size))
      rwa [List.singleton_append] at h3
     obtain ⟨s3, c3', hv3⟩ := o3'.form
     generalize hN3 : (insAt ([] : List Ofr) 0 x).length = n3 at hv3
     subst hv3
     have O3 := yy o3'
     have K13 := yy (HKD.out.trans k13)
     have hS := hS3
     clear hS1 hS2 hS3 o1 o2 k1 k2 k3 k12 k13 hrun2 hrun3 o3 o3' hv2 l2 LL HO HKD hsz1 hN3
     refine tkL 13 rfl lfR131 hS ?_
     refine nx ?_
     have fz := blk_frozen hS.1 2
     have ct := blk_cell hS.1 2
     simp only [lPa, lPb, lPc] at ct
     have hlT := blk_lt hS.1
     refine anyL_one (i := 14) (by kernel_rfl) rfl (fun K hK => ?_)
     go_simp
     refine hK.out _ _ (fun h => absurd rfl h) ?_
     clear hK K
     try refine nx ?_
     refine anyL_done (by kernel_rfl) ?_
     have HN2 := yy (HN0.out.insO HG.out K13.out O3.out)
     have HB2 := yy (box_keep2 (i := 2) (v := .slice s3 n3 c3') BGo.out HN0.out.ob (by decide) HG.out K13.out)
     rw [ins_at Ofr.id x [] 0 hi LESS2.out MORE2.out] at HN2
     go_wp2_with fail
     all_goals go_meet
     all_goals exact ⟨_, by rw [HPN.out, HLw.out]; exact HN2, HB2⟩
    injection hva with e1 e2 e3
    clear e2
    subst e1 e3
    have hic : i ≤ m2 := Nat.le_trans hi hcap
    have HS0 : Hid ((fun w' => w'.heap[O]? = some (.cells #[.int .i64 b.round, .slice x1' b.ps.length m1, .slice (some ⟨gv, 0, none⟩) L.length m2, .slice x3' b.ws.length m3] 28 (0, 0)) ∧ w'.heap[w.heap.size + 1 + 1]? = some (.cells #[.int .i64 x.id, .int .i64 x.party, .int .i64 x.side, .int .i64 x.place, .int .i64 x.price, .int .i64 x.until_, .int .i64 x.state] 30 (0, 0))) wi.drew) := yy ⟨(Gro.refl wi).drew.blk HTB.out, (Gro.refl wi).drew.blk HXB.out⟩
    have HOWN := HBws
    refine anyL_begin 14 (fun w' => w'.heap[O]? = some (.cells #[.int .i64 b.round, .slice x1' b.ps.length m1, .slice (some ⟨gv, 0, none⟩) L.length m2, .slice x3' b.ws.length m3] 28 (0, 0)) ∧ w'.heap[w.heap.size + 1 + 1]? = some (.cells #[.int .i64 x.id, .int .i64 x.party, .int .i64 x.side, .int .i64 x.place, .int .i64 x.price, .int .i64 x.until_, .int .i64 x.state] 30 (0, 0))) (by kernel_rfl) ?_
    have hS : (fun w' => w'.heap[O]? = some (.cells #[.int .i64 b.round, .slice x1' b.ps.length m1, .slice (some ⟨gv, 0, none⟩) L.length m2, .slice x3' b.ws.length m3] 28 (0, 0)) ∧ w'.heap[w.heap.size + 1 + 1]? = some (.cells #[.int .i64 x.id, .int .i64 x.party, .int .i64 x.side, .int .i64 x.place, .int .i64 x.price, .int .i64 x.until_, .int .i64 x.state] 30 (0, 0))) wi.drew := HS0.out
    have HO := yy (HOWN.out.gro ((Gro.refl wi).drew))
    have HKD := yy ((Gro.refl wi).drew)
    clear HOWN HS0
    generalize wi.drew = wd at hS HO HKD ⊢
    refine tkL 0 rfl lfR131 hS ?_
    refine nx ?_
    refine tkL 1 rfl lfR131 hS ?_
    refine nx ?_
    refine tkL 2 rfl lfR131 hS ?_
    refine nx ?_
    refine tkL 3 rfl lfR131 hS ?_
    refine nx ?_
    refine tkL 4 rfl lfR131 hS ?_
    refine nx ?_
    refine tkL 5 rfl lfR131 hS ?_
    refine nx ?_
    refine tkL 7 rfl lfR131 hS ?_
    refine nx ?_
    refine tkL 8 rfl lfR131 hS ?_
    refine nx ?_
    refine tkL 9 rfl lfR131 hS ?_
    refine nx ?_
    refine tkL 10 rfl lfR131 hS ?_
    refine nx ?_
    refine anyL_one (i := 6) (by kernel_rfl) rfl (fun K hK => ?_)
    go_simp
    obtain ⟨w1, hw1⟩ : ∃ w1, w1 = wd.alloc (Obj.cells #[.int .i64 x.id, .int .i64 x.party, .int .i64 x.side, .int .i64 x.place, .int .i64 x.price, .int .i64 x.until_, .int .i64 x.state] 30) := ⟨_, rfl⟩
    rw [← hw1]
    have k1 : Gro wd w1 := by rw [hw1]; exact (Gro.refl _).alloc _
    have o1 : OwnL w1 wd.heap.size (.slice (some ⟨wd.heap.size, 0, none⟩) 1 1) [x] := by rw [hw1]; exact own_single x wd
    have hS1 : (fun w' => w'.heap[O]? = some (.cells #[.int .i64 b.round, .slice x1' b.ps.length m1, .slice (some ⟨gv, 0, none⟩) L.length m2, .slice x3' b.ws.length m3] 28 (0, 0)) ∧ w'.heap[w.heap.size + 1 + 1]? = some (.cells #[.int .i64 x.id, .int .i64 x.party, .int .i64 x.side, .int .i64 x.place, .int .i64 x.price, .int .i64 x.until_, .int .i64 x.state] 30 (0, 0))) w1 := ⟨k1.blk hS.1, k1.blk hS.2⟩
    clear hw1
    refine hK.out _ _ (fun _ => hS1) ?_
    clear hK K
    try refine nx ?_
    have hsz1 : wd.heap.size ≤ w1.heap.size := k1.size
    have LL := HO.out.lv (by omega)
    obtain ⟨v2, w2', hrun2, o2, k2⟩ := run_appL o1 (lst_drop_if (own_lst (HO.out.gro k1) (by omega)) i hi) (by simp only [List.length_cons, List.length_nil, List.length_drop]; omega) hsz1 25
    have k12 : Gro wd w2' := Kept.trans' k1 k2 (fun j hj => .inr (o1.block hj).1)
    have hS2 : (fun w' => w'.heap[O]? = some (.cells #[.int .i64 b.round, .slice x1' b.ps.length m1, .slice (some ⟨gv, 0, none⟩) L.length m2, .slice x3' b.ws.length m3] 28 (0, 0)) ∧ w'.heap[w.heap.size + 1 + 1]? = some (.cells #[.int .i64 x.id, .int .i64 x.party, .int .i64 x.side, .int .i64 x.place, .int .i64 x.price, .int .i64 x.until_, .int .i64 x.state] 30 (0, 0))) w2' := ⟨k12.blk hS.1, k12.blk hS.2⟩
    refine anyL_one (i := 11) (by kernel_rfl) rfl (fun K hK => ?_)
    refine step_run rfl _ _ 25 rfl _ _ rfl rfl hrun2 ?_
    refine hK.out _ _ (fun _ => hS2) ?_
    clear hK K
    try refine nx ?_
    obtain ⟨az2, cz2, hv2, l2⟩ := o2.lv (by simp only [List.length_append, List.length_cons, List.length_nil, List.length_drop]; omega)
    obtain ⟨v3, w3, hrun3, o3, k3⟩ := run_appcap (lst_take (own_lst (HO.out.gro k12) (by omega)) i hi) (fun h => by cases h) (l2) (by simp) (by simp only [List.length_append, List.length_cons, List.length_nil, List.length_drop, List.length_take]; omega) 25
    rw [← hv2] at hrun3
    have k13 : Gro wd w3 := k12.trans k3
    have hS3 : (fun w' => w'.heap[O]? = some (.cells #[.int .i64 b.round, .slice x1' b.ps.length m1, .slice (some ⟨gv, 0, none⟩) L.length m2, .slice x3' b.ws.length m3] 28 (0, 0)) ∧ w'.heap[w.heap.size + 1 + 1]? = some (.cells #[.int .i64 x.id, .int .i64 x.party, .int .i64 x.side, .int .i64 x.place, .int .i64 x.price, .int .i64 x.until_, .int .i64 x.state] 30 (0, 0))) w3 := ⟨k13.blk hS.1, k13.blk hS.2⟩
    refine anyL_one (i := 12) (by kernel_rfl) rfl (fun K hK => ?_)
    refine step_run rfl _ _ 25 rfl _ _ rfl rfl hrun3 ?_
    refine hK.out _ _ (fun _ => hS3) ?_
    clear hK K
    try refine nx ?_
    have o3' : OwnL w3 w2.heap.size v3 (insAt L i x) := by
     have h3 := o3.le (Nat.le_trans hbw (Nat.le_trans HKD.out.size k12.size))
     rwa [List.singleton_append] at h3
    obtain ⟨s3, c3', hv3⟩ := o3'.form
    generalize hN3 : (insAt L i x).length = n3 at hv3
    subst hv3
    have O3 := yy o3'
    have K13 := yy (HKD.out.trans k13)
    have hS := hS3
    clear hS1 hS2 hS3 o1 o2 k1 k2 k3 k12 k13 hrun2 hrun3 o3 o3' hv2 l2 LL HO HKD hsz1 hN3
    refine tkL 13 rfl lfR131 hS ?_
    refine nx ?_
    have fz := blk_frozen hS.1 2
    have ct := blk_cell hS.1 2
    simp only [lPa, lPb, lPc] at ct
    have hlT := blk_lt hS.1
    refine anyL_one (i := 14) (by kernel_rfl) rfl (fun K hK => ?_)
    go_simp
    refine hK.out _ _ (fun h => absurd rfl h) ?_
    clear hK K
    try refine nx ?_
    refine anyL_done (by kernel_rfl) ?_
    have HN2 := yy (HN0.out.insO HG.out K13.out O3.out)
    have HB2 := yy (box_keep2 (i := 2) (v := .slice s3 n3 c3') BGo.out HN0.out.ob (by decide) HG.out K13.out)
    rw [ins_at Ofr.id x L i hi LESS2.out MORE2.out] at HN2
    go_wp2_with fail
    all_goals go_meet
    all_goals exact ⟨_, by rw [HPN.out, HLw.out]; exact HN2, HB2⟩
   have HPA : Hid (putO x b.os = b.os.set i x) := yy (putO_at HV.out.ao hi x hid)
   obtain ⟨go, co, hf0, _⟩ := HN0.out.bo.os.formI hi
   injection hf0 with e1 _ e3
   subst e1 e3
   have HN9 := HN0
   have s0 := HN0.out.bo.os.cells (i := i * 7 + 0) (by have := flat_get b.os i hi 0 (by decide); exact this)
   have s1 := HN0.out.bo.os.cells (i := i * 7 + 1) (by have := flat_get b.os i hi 1 (by decide); exact this)
   have s2 := HN0.out.bo.os.cells (i := i * 7 + 2) (by have := flat_get b.os i hi 2 (by decide); exact this)
   have s3 := HN0.out.bo.os.cells (i := i * 7 + 3) (by have := flat_get b.os i hi 3 (by decide); exact this)
   have s4 := HN0.out.bo.os.cells (i := i * 7 + 4) (by have := flat_get b.os i hi 4 (by decide); exact this)
   have s5 := HN0.out.bo.os.cells (i := i * 7 + 5) (by have := flat_get b.os i hi 5 (by decide); exact this)
   have s6 := HN0.out.bo.os.cells (i := i * 7 + 6) (by have := flat_get b.os i hi 6 (by decide); exact this)
   have f0 := HN0.out.bo.os.froz (i * 7 + 0)
   have f1 := HN0.out.bo.os.froz (i * 7 + 1)
   have f2 := HN0.out.bo.os.froz (i * 7 + 2)
   have f3 := HN0.out.bo.os.froz (i * 7 + 3)
   have f4 := HN0.out.bo.os.froz (i * 7 + 4)
   have f5 := HN0.out.bo.os.froz (i * 7 + 5)
   have f6 := HN0.out.bo.os.froz (i * 7 + 6)
   simp only [Nat.add_zero] at s0 f0
   have hls := World.block_lt_of_cell? _ _ s6
   obtain ⟨⟨_, _, y2, _⟩, _, hlO⟩ := HN0.out.cells
   have cz := blk_cell ((Gro.refl _).blk BCo.out)
   have z0 := cz 0
   have z1 := cz 1
   have z2 := cz 2
   have z3 := cz 3
   have z4 := cz 4
   have z5 := cz 5
   have z6 := cz 6
   simp only [lPa, lPb, lPc] at z0 z1 z2 z3 z4 z5 z6
   have hlz := blk_lt ((Gro.refl _).blk BCo.out)
   clear cz
   have HFI := yy (HN0.out.putAt i hi x)
   have HFB : Hid (∀ w', w' = put7 w6 go i x → w'.heap[w.heap.size]? = some (.cells #[Value.slice a1 g.vs.length n1, Value.slice a2 g.es.length n2, Value.slice a3 g.ds.length n3] 38 (0, 0))) := yy (fun w' h => by rw [h]; exact HN0.out.box i x BGo.out (by decide))
   have hge : (0 : Int) ≤ (i : Int) := by omega
   have hged := decide_eq_true hge
   have hili := decide_eq_true (show (i : Int) < (b.os.length : Int) by omega)
   clear HC hid
   go_wp2_with fail
   go_meet
   exact ⟨_, by rw [HPA.out]; exact HFI, yy (HFB.out _ rfl)⟩
  case rest =>
  obtain ⟨v', HN2, HB2⟩ := hcut
  obtain ⟨wj, hwj⟩ : ∃ wj, wj = wc := ⟨_, rfl⟩
  rw [← hwj] at HN2 HB2 ⊢
  clear hwj
  obtain ⟨xv, mv, ev⟩ := HN2.out.bo.os.form
  have hlen : (putO x b.os).length ≤ 1000 := Nat.le_trans (put_len x b.os) (by omega)
  generalize hNv : ({ b with os := putO x b.os } : Bk).os.length = Nv at ev
  subst ev
  have hfits : Fits g { b with os := putO x b.os } := fits_of HV.out.vg (by simp only; omega) (by simp only; omega) (by simp only; omega)
  have C68 := yy (checked68 (HGW.out _ HN2.out.gro) (HN2.out.bo.bk hfits.bfew) hfits)
  obtain ⟨⟨y0, y1, y2, y3⟩, _, hlO⟩ := HN2.out.cells
  simp only at y0
  have cg := blk_cell HB2.out
  have g0 := cg 0
  have g1 := cg 1
  have g2 := cg 2
  simp only [lPa, lPb, lPc] at g0 g1 g2
  have hlg := blk_lt HB2.out
  have hTO := HN2.out.tb
  have BTj := yy hTO
  have KJ := yy HN2.out.gro
  clear cg hTO hfits hlen
  go_wp2_with fail
  refine C68.out.mono ?_
  rintro e w5 ⟨k5, (⟨b2, vv, hr5, rfl, hbk⟩ | ⟨hr5, rfl⟩)⟩
  ·obtain ⟨p6, o6, q6, rfl, hp6, ho6, hq6⟩ := hbk
   obtain ⟨z1, c1, rfl, hp6⟩ := hp6
   obtain ⟨z2, c2, rfl, ho6⟩ := ho6
   obtain ⟨z3, c3, rfl, hq6⟩ := hq6
   have HP9 : Hid (LV w5 (.slice z1 b2.ps.length c1) b2.ps) := yy ⟨_, _, rfl, hp6⟩
   have HO9 : Hid (LV w5 (.slice z2 b2.os.length c2) b2.os) := yy ⟨_, _, rfl, ho6⟩
   have HQ9 : Hid (LV w5 (.slice z3 b2.ws.length c3) b2.ws) := yy ⟨_, _, rfl, hq6⟩
   have BT5 := yy (k5.blk BTj.out)
   have KJ5 := yy (KJ.out.trans k5)
   have HR5 := yy (HCK.out.trans hr5)
   clear hp6 ho6 hq6 k5 hr5 y0 y1 y2 y3 g0 g1 g2 hlO hlg C68
   have fT := blk_frozen BT5.out
   have cT := blk_cell BT5.out
   have f0 := fT 0
   have f1 := fT 1
   have f2 := fT 2
   have f3 := fT 3
   have t0 := cT 0
   have t1 := cT 1
   have t2 := cT 2
   have t3 := cT 3
   simp only [lPa, lPb, lPc] at t0 t1 t2 t3
   have hlT := blk_lt BT5.out
   clear fT cT
   have B5 := set4 BT5.out (.int .i64 b2.round) (.slice z1 b2.ps.length c1) (.slice z2 b2.os.length c2) (.slice z3 b2.ws.length c3)
   have K5 := kept4 KJ5.out (.inr (by omega : w.heap.size ≤ w.heap.size + 1 + 1 + 1)) (.int .i64 b2.round) (.slice z1 b2.ps.length c1) (.slice z2 b2.os.length c2) (.slice z3 b2.ws.length c3)
   have K9 := kept4 (Kept.refl (· = w.heap.size + 1 + 1 + 1) w5) (.inl rfl) (.int .i64 b2.round) (.slice z1 b2.ps.length c1) (.slice z2 b2.os.length c2) (.slice z3 b2.ws.length c3)
   have Q0 := yy ((HP9.out.farB K9 BT5.out (by decide) (fun x => ⟨x.id, x.budget, rfl, rfl⟩)).gro ((Gro.refl _).alloc (Obj.cells #[.int .i64 b2.round, .slice z1 b2.ps.length c1, .slice z2 b2.os.length c2, .slice z3 b2.ws.length c3] 28)))
   have Q1 := yy ((HO9.out.farB K9 BT5.out (by decide) (fun x => ⟨x.id, x.party, rfl, rfl⟩)).gro ((Gro.refl _).alloc (Obj.cells #[.int .i64 b2.round, .slice z1 b2.ps.length c1, .slice z2 b2.os.length c2, .slice z3 b2.ws.length c3] 28)))
   have Q2 := yy ((HQ9.out.farB K9 BT5.out (by decide) (fun x => ⟨x.edge, x.src, rfl, rfl⟩)).gro ((Gro.refl _).alloc (Obj.cells #[.int .i64 b2.round, .slice z1 b2.ps.length c1, .slice z2 b2.os.length c2, .slice z3 b2.ws.length c3] 28)))
   have B6 := yy (blk_alloc B5 (Obj.cells #[.int .i64 b2.round, .slice z1 b2.ps.length c1, .slice z2 b2.os.length c2, .slice z3 b2.ws.length c3] 28))
   have K6 := yy (K5.alloc (Obj.cells #[.int .i64 b2.round, .slice z1 b2.ps.length c1, .slice z2 b2.os.length c2, .slice z3 b2.ws.length c3] 28))
   clear B5 K5 K9
   go_wp2_with fail
   (try simp only [Exit.inBlock, Exit.then])
   refine bodyPost_ret (results_cell_tmp_row (p := 6) (u := 7) (ty := 28) rfl _ _ (w.heap.size + 1 + 1 + 1) 28 _ (0, 0) _ rfl B6.out Tryz.underlying28 rfl (by kernel_rfl)) rfl ⟨K6.out, .inl ⟨b2, _, HR5.out, rfl, ⟨_, _, _, rfl, Q0.out, Q1.out, Q2.out⟩⟩⟩
  have BT5 := yy (k5.blk BTj.out)
  have KJ5 := yy (KJ.out.trans k5)
  have HR5 := yy (HCK.out.trans hr5)
  clear k5 hr5 y0 y1 y2 y3 g0 g1 g2 hlO hlg C68
  have fT := blk_frozen BT5.out
  have cT := blk_cell BT5.out
  have f0 := fT 0
  have f1 := fT 1
  have f2 := fT 2
  have f3 := fT 3
  have t0 := cT 0
  have t1 := cT 1
  have t2 := cT 2
  have t3 := cT 3
  simp only [lPa, lPb, lPc] at t0 t1 t2 t3
  have hlT := blk_lt BT5.out
  clear fT cT
  have B5 := set4 BT5.out (.int .i64 0) (.slice none 0 0) (.slice none 0 0) (.slice none 0 0)
  have K5 := kept4 KJ5.out (.inr (by omega : w.heap.size ≤ w.heap.size + 1 + 1 + 1)) (.int .i64 0) (.slice none 0 0) (.slice none 0 0) (.slice none 0 0)
  have K9 := kept4 (Kept.refl (· = w.heap.size + 1 + 1 + 1) w5) (.inl rfl) (.int .i64 0) (.slice none 0 0) (.slice none 0 0) (.slice none 0 0)
  have B6 := yy (blk_alloc B5 (Obj.cells #[.int .i64 0, .slice none 0 0, .slice none 0 0, .slice none 0 0] 28))
  have K6 := yy (K5.alloc (Obj.cells #[.int .i64 0, .slice none 0 0, .slice none 0 0, .slice none 0 0] 28))
  clear B5 K5 K9
  go_wp2_with fail
  (try simp only [Exit.inBlock, Exit.then])
  refine bodyPost_ret (results_cell_tmp_row (p := 6) (u := 7) (ty := 28) rfl _ _ (w.heap.size + 1 + 1 + 1) 28 _ (0, 0) _ rfl B6.out Tryz.underlying28 rfl (by kernel_rfl)) rfl ⟨K6.out, .inr ⟨HR5.out, rfl⟩⟩
 have hs' : (x.state != 1) = true := by simpa using hs
 have B5 := set4 BTw.out (.int .i64 0) (.slice none 0 0) (.slice none 0 0) (.slice none 0 0)
 have K5 := kept4 (K0.out.trans K2.out) (.inr (by omega : w.heap.size ≤ w.heap.size + 1 + 1 + 1)) (.int .i64 0) (.slice none 0 0) (.slice none 0 0) (.slice none 0 0)
 have B6 := yy B5
 have K6 := yy K5
 have HN := yy (show chk g b (doAdd b x) = none from by rw [hck, if_pos (.inl hs)])
 clear B5 K5
 go_wp2_with fail
 (try simp only [Exit.inBlock, Exit.then])
 refine bodyPost_ret (results_cell_tmp_row (p := 6) (u := 7) (ty := 28) rfl _ _ (w.heap.size + 1 + 1 + 1) 28 _ (0, 0) _ rfl B6.out Tryz.underlying28 rfl (by kernel_rfl)) rfl ⟨K6.out, .inr ⟨HN.out, rfl⟩⟩
end Go.Proofs.YthfagcdjbmhhcaaGreat
