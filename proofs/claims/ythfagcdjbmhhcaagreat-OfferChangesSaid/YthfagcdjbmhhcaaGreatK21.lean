/- the reference: closed, checked. the reference: checked, Withdraw. the reference: Next. -/
import Derived.Test.YthfagcdjbmhhcaaGreatK20
import Derived.Test.YthfagcdjbmhhcaaGreatK17
import Derived.Test.YthfagcdjbmhhcaaGreatK12
set_option linter.unusedVariables false
set_option linter.unusedSimpArgs false
namespace Go.Proofs.YthfagcdjbmhhcaaGreat
open Go.RowKit
attribute [local irreducible] wpQuiet
/-- a book whose lists lie in blocks of base or behind -/
structure BO (w : World) (base : Nat) (p o q : Value) (b : Bk) : Prop where
 ps : OwnL w base p b.ps
 os : OwnL w base o b.os
 ws : OwnL w base q b.ws
theorem BO.gro {w w' : World} {base : Nat} {p o q : Value} {b : Bk} (h : BO w base p o q b) (k : Gro w w') : BO w' base p o q b := ⟨h.ps.gro k, h.os.gro k, h.ws.gro k⟩
theorem BO.le {w : World} {base base' : Nat} {p o q : Value} {b : Bk} (h : BO w base p o q b) (hb : base' ≤ base) : BO w base' p o q b := ⟨h.ps.le hb, h.os.le hb, h.ws.le hb⟩
theorem BO.bk {w : World} {base : Nat} {p o q : Value} {b : Bk} (h : BO w base p o q b) (hf : b.few) : BkV w (.agg #[.int .i64 b.round, p, o, q]) b :=
 ⟨p, o, q, rfl, h.ps.lv (by have := hf.ps; omega), h.os.lv (by have := hf.os; omega), h.ws.lv (by have := hf.ws; omega)⟩
/-- a struct's block of another type is written -/
theorem BO.far {w w' : World} {base T : Nat} {p o q : Value} {b : Bk} {cs : Array Value} {fr : Nat × Nat} (h : BO w base p o q b) (k : Kept (· = T) w w') (hT : w.heap[T]? = some (.cells cs 28 fr)) : BO w' base p o q b :=
 ⟨h.ps.far k hT (by decide), h.os.far k hT (by decide), h.ws.far k hT (by decide)⟩
set_option maxHeartbeats 8000000 in
set_option maxRecDepth 100000 in
theorem closed72 {w : World} {base : Nat} {p o q : Value} {b : Bk} (hB : BO w base p o q b) (hf : b.few) (hbase : base ≤ w.heap.size) (i : Nat) (hi : i < b.os.length) (st : Int) :
  Calls Tryz.prog 72 #[.agg #[.int .i64 b.round, p, o, q], .int .i64 i, .int .i64 st] w fun e w' => ∃ q', e = .returned (.agg #[.int .i64 b.round, p, o, q']) ∧ BO w' base p o q' (closeAt b i hi st) ∧ Kept (ownF o) w w' := by
 have hmix := mixed
 obtain ⟨go, co, rfl, hgo, hco⟩ := hB.os.formI hi
 obtain ⟨ap, cp, hap⟩ := hB.ps.form
 obtain ⟨aq, cq, haq⟩ := hB.ws.form
 subst hap haq
 have fw := hf.ws
 have hid : w.cell? ⟨go, i * 7, none⟩ = some (.int .i64 b.os[i].id) := hB.os.cells (by have := flat_get b.os i hi 0 (by decide); exact this)
 have hst : w.cell? ⟨go, i * 7 + 6, none⟩ = some (.int .i64 b.os[i].state) := hB.os.cells (by have := flat_get b.os i hi 6 (by decide); exact this)
 have hfz := hB.os.froz (i * 7 + 6)
 have hgw := World.block_lt_of_cell? w _ hid
 obtain ⟨_, _, curg, hgb⟩ := hB.os.block (k := go) rfl
 -- the world after the state is written, and after the variables are made
 obtain ⟨w0, hw0⟩ : ∃ w0, w0 = w.setCell ⟨go, i * 7 + 6, none⟩ (.int .i64 st) := ⟨_, rfl⟩
 have hs0 : w0.heap.size = w.heap.size := by rw [hw0]; simp [World.setCell]
 have kk : Kept (· = go) w w0 := by rw [hw0]; exact (Kept.refl (· = go) w).setCell (p := ⟨go, i * 7 + 6, none⟩) (.inl rfl) _
 have o0 : OwnL w0 base (.slice (some ⟨go, 0, none⟩) b.os.length co) (b.os.set i { b.os[i] with state := st }) := by rw [hw0]; exact hB.os.setState rfl i hi st
 have far : ∀ {β : Type} [Rec β] {v : Value} {l : List β}, OwnL w base v l → Rec.ty Ofr ≠ Rec.ty β → ∀ j, v.ownBlock = some j → ¬ (j = go) := by
  intro β _ v l hh hn j hj e
  subst e
  obtain ⟨_, _, cur', hc⟩ := hh.block hj
  exact blk_ne hgb hc hn rfl
 have p0 := hB.ps.kept kk (far hB.ps (by decide))
 have q0 := hB.ws.kept kk (far hB.ws (by decide))
 obtain ⟨w1, hw1⟩ : ∃ w1, w1 = (w0.alloc (.cells #[Value.int IntKind.i64 b.round, Value.slice ap b.ps.length cp, Value.slice (some ⟨go, 0, none⟩) b.os.length co, Value.slice aq b.ws.length cq] 28)).alloc (.cells #[Value.int IntKind.i64 0, Value.slice none 0 0, Value.slice none 0 0, Value.slice none 0 0] 28) := ⟨_, rfl⟩
 have k1 : Gro w0 w1 := by rw [hw1]; exact ((Gro.refl _).alloc _).alloc _
 have bA1 : w1.heap[w.heap.size]? = some (.cells #[Value.int IntKind.i64 b.round, Value.slice ap b.ps.length cp, Value.slice (some ⟨go, 0, none⟩) b.os.length co, Value.slice aq b.ws.length cq] 28 (0, 0)) := by
  rw [hw1]
  have := blk_new w0 (.cells #[Value.int IntKind.i64 b.round, Value.slice ap b.ps.length cp, Value.slice (some ⟨go, 0, none⟩) b.os.length co, Value.slice aq b.ws.length cq] 28)
  rw [hs0] at this
  exact blk_alloc this _
 have bT1 : w1.heap[w.heap.size + 1]? = some (.cells #[Value.int IntKind.i64 0, Value.slice none 0 0, Value.slice none 0 0, Value.slice none 0 0] 28 (0, 0)) := by
  rw [hw1]
  have := blk_new (w0.alloc (.cells #[Value.int IntKind.i64 b.round, Value.slice ap b.ps.length cp, Value.slice (some ⟨go, 0, none⟩) b.os.length co, Value.slice aq b.ws.length cq] 28)) (.cells #[Value.int IntKind.i64 0, Value.slice none 0 0, Value.slice none 0 0, Value.slice none 0 0] 28)
  rw [asz, hs0] at this
  exact this
 have hsz1 : w.heap.size + 1 < w1.heap.size := blk_lt bT1
 have kb1 : Kept (ownF (.slice (some ⟨go, 0, none⟩) b.os.length co)) w w1 := Kept.trans (kk.mono (fun j hj => .inl (by subst hj; rfl))) (k1.kept _)
 generalize hidv : b.os[i].id = id at hid
 have HW1 := yy hw1
 have HW := yy hw0
 have O1 := yy (o0.gro k1)
 have P1 := yy (p0.gro k1)
 have Q1 := yy (own_lst (q0.gro k1) (by omega))
 have BA := yy bA1
 have BT := yy bT1
 have KB := yy kb1
 have HIDV := yy hidv
 have G0 := yy (GoAt.mk (α := Wsh) (OwnL.nil w1 w1.heap.size) (Gro.refl w1))
 have hcl : closeAt b i hi st = { b with os := b.os.set i { b.os[i] with state := st }, ws := b.ws.filter fun w => !(w.src == id || w.dst == id) } := by unfold closeAt; rw [hidv]
 have HCL := yy hcl
 clear hB hf hgb kk o0 far p0 q0 bA1 bT1 kb1 hw0 hw1 hidv hcl k1 hs0
 go_enter Tryz.func72, Tryz.ntmps72
 go_wp2_with fail
 rw [← HW.out, ← HW1.out]
 clear HW1 HW hid hst hfz hgw
 go_loopw [9, 8] (fun t u wr => ∃ k : Nat, k ≤ b.ws.length ∧ t = .int .i64 k ∧ Hid (GoAt w1 wr u ((b.ws.take k).filter fun w => !(w.src == id || w.dst == id)))) (fun t _ _ => b.ws.length - (intOf t).toNat)
 case atStart => exact ⟨0, Nat.zero_le _, by go_num, G0⟩
 case round =>
 clear G0
 obtain ⟨k, hk, rfl, HG⟩ := hrel
 have q3 := blk_cell (HG.out.gro.blk BA.out) 3
 simp only [lPa, lPb, lPc] at q3
 have hlA := blk_lt (HG.out.gro.blk BA.out)
 by_cases hlt : k < b.ws.length
 ·obtain ⟨B, off, rfl, hb, hc⟩ := (Q1.out.gro HG.out.gro).base hlt
  obtain ⟨d0, d1, d2, d3⟩ := wcells hc hlt
  have hlB := World.block_lt_of_cell? _ _ d0
  have hf := filter_take_succ (fun w : Wsh => !(w.src == id || w.dst == id)) b.ws k hlt
  have hfl : ((b.ws.take k).filter fun w : Wsh => !(w.src == id || w.dst == id)).length ≤ 1000000 := Nat.le_trans (List.length_filter_le _ _) (by rw [List.length_take]; omega)
  generalize b.ws[k] = x at d0 d1 d2 d3 hf
  obtain ⟨xe, xf, xo, xw⟩ := x
  simp only at d0 d1 d2 d3 hf
  have HFT := yy hf
  have hbs : w1.heap.size ≤ wr.heap.size := HG.out.gro.size
  clear hf hc
  by_cases h1 : xf = id
  ·have h1' : (xf != id) = false := by simpa using h1
   have HN := yy (show (b.ws.take (k + 1)).filter (fun w : Wsh => !(w.src == id || w.dst == id)) = (b.ws.take k).filter (fun w : Wsh => !(w.src == id || w.dst == id)) from by rw [HFT.out]; simp [h1])
   go_wp2_with fail
   go_roundw
   case rel => exact ⟨k + 1, by omega, by go_num, by rw [HN.out]; exact HG⟩
   case measure => simp [intOf]; omega
  have h1' : (xf != id) = true := by simpa using h1
  by_cases h2 : xo = id
  ·have h2' : (xo != id) = false := by simpa using h2
   have HN := yy (show (b.ws.take (k + 1)).filter (fun w : Wsh => !(w.src == id || w.dst == id)) = (b.ws.take k).filter (fun w : Wsh => !(w.src == id || w.dst == id)) from by rw [HFT.out]; simp [h2])
   go_wp2_with fail
   go_roundw
   case rel => exact ⟨k + 1, by omega, by go_num, by rw [HN.out]; exact HG⟩
   case measure => simp [intOf]; omega
  have h2' : (xo != id) = true := by simpa using h2
  have HN := yy (show (b.ws.take (k + 1)).filter (fun w : Wsh => !(w.src == id || w.dst == id)) = (b.ws.take k).filter (fun w : Wsh => !(w.src == id || w.dst == id)) ++ [⟨xe, xf, xo, xw⟩] from by rw [HFT.out]; simp [h1, h2])
  go_wp2_with (at_builtin; refine wpList_app1 (α := Wsh) ⟨xe, xf, xo, xw⟩ rfl _ _ rfl rfl HG.out.own rfl (by omega) hbs ?_; intro v' w' g1 g2 g3; have H1 := yy (HG.out.app g1 g2); clear g1 g2 g3)
  go_roundw
  case rel => exact ⟨k + 1, by omega, by go_num, by rw [HN.out]; exact H1⟩
  case measure => simp [intOf]; omega
 obtain rfl : k = b.ws.length := by omega
 rw [List.take_length] at HG
 obtain ⟨a8, c8, h8⟩ := HG.out.own.form
 generalize hN8 : (b.ws.filter fun w => !(w.src == id || w.dst == id)).length = N8 at h8
 subst h8
 have fA := blk_frozen (HG.out.gro.blk BA.out) 3
 have bT2 := HG.out.gro.blk BT.out
 have cA := blk_cell (HG.out.gro.blk BA.out)
 have q0 := cA 0
 have q1 := cA 1
 have q2 := cA 2
 have cT := blk_cell bT2
 have t0 := cT 0
 have t1 := cT 1
 have t2 := cT 2
 have t3 := cT 3
 have fT := blk_frozen bT2
 have f0 := fT 0
 have f1 := fT 1
 have f2 := fT 2
 have f3 := fT 3
 simp only [lPa, lPb, lPc] at q0 q1 q2 t0 t1 t2 t3
 have hlT := blk_lt bT2
 -- the box, then the result
 have kA : Kept (· = w.heap.size) wr (wr.setCell ⟨w.heap.size, 3, none⟩ (.slice a8 N8 c8)) := (Kept.refl (· = w.heap.size) wr).setCell (p := ⟨w.heap.size, 3, none⟩) (.inl rfl) _
 have bA3 := HG.out.gro.blk BA.out
 have hBO : BO wr base (.slice ap b.ps.length cp) (.slice (some ⟨go, 0, none⟩) b.os.length co) (.slice a8 N8 c8) (closeAt b i hi st) := by
  rw [HCL.out]
  exact ⟨P1.out.gro HG.out.gro, O1.out.gro HG.out.gro, HG.out.own.le (by omega)⟩
 have hBO2 := hBO.far kA bA3
 have bT3 := kA.blk bT2 (by omega)
 have B5 := set4 bT3 (.int .i64 b.round) (.slice ap b.ps.length cp) (.slice (some ⟨go, 0, none⟩) b.os.length co) (.slice a8 N8 c8)
 have K5 := kept4 (Kept.refl (· = w.heap.size + 1) (wr.setCell ⟨w.heap.size, 3, none⟩ (.slice a8 N8 c8))) (.inl rfl) (.int .i64 b.round) (.slice ap b.ps.length cp) (.slice (some ⟨go, 0, none⟩) b.os.length co) (.slice a8 N8 c8)
 have hBO3 := yy (hBO2.far K5 bT3)
 have B6 := yy B5
 have K6 := yy (Kept.trans' (Kept.trans' (Kept.trans (KB.out) (HG.out.gro.kept _)) kA (fun j hj => .inr (by subst hj; exact Nat.le_refl _))) K5 (fun j hj => .inr (by subst hj; omega)))
 clear hBO hBO2 bT3 B5 K5 kA bA3 cA cT fT bT2 hN8 HG
 go_wp2_with fail
 refine bodyPost_ret (results_cell_row (p := 6) (ty := 28) rfl _ _ (w.heap.size + 1) 28 _ (0, 0) _ rfl B6.out Tryz.underlying28 rfl (by kernel_rfl)) rfl ⟨_, rfl, hBO3.out, K6.out⟩
end Go.Proofs.YthfagcdjbmhhcaaGreat
namespace Go.Proofs.YthfagcdjbmhhcaaGreat
open Go.RowKit
attribute [local irreducible] wpQuiet
def okB (g : Gr) (b : Bk) : Option Bk := if validB g b = true then some b else none
theorem chk_okB {g : Gr} {b : Bk} {r : Option Bk} : chk g b r = if validB g b = true then r.bind (okB g) else none := by
 unfold chk okB
 rfl
set_option maxHeartbeats 4000000 in
theorem checked68 {w : World} {vg vb : Value} {g : Gr} {b : Bk} (hG : GrV w vg g) (hB : BkV w vb b) (hf : Fits g b) : Calls Tryz.prog 68 #[vg, vb] w (ChPost w (okB g b)) := by
 have hmix := mixed
 obtain ⟨v1, v2, v3, rfl, hg0⟩ := hG
 obtain ⟨a1, n1, rfl, l1⟩ := hg0.vs
 obtain ⟨a2, n2, rfl, l2⟩ := hg0.es
 obtain ⟨a3, n3, rfl, l3⟩ := hg0.ds
 obtain ⟨p, o, q, rfl, hp, ho, hq⟩ := hB
 obtain ⟨ap, np, rfl, lp⟩ := hp
 obtain ⟨ao, no, rfl, lo⟩ := ho
 obtain ⟨aq, mq, rfl, lq⟩ := hq
 obtain ⟨wa, hwa⟩ : ∃ wa, wa = ((w.alloc (.cells #[Value.slice a1 g.vs.length n1, Value.slice a2 g.es.length n2, Value.slice a3 g.ds.length n3] 38)).alloc (.cells #[Value.int IntKind.i64 b.round, Value.slice ap b.ps.length np, Value.slice ao b.os.length no, Value.slice aq b.ws.length mq] 28)).alloc (.cells #[Value.int IntKind.i64 0, Value.slice none 0 0, Value.slice none 0 0, Value.slice none 0 0] 28) := ⟨_, rfl⟩
 have k0 : Gro w wa := by rw [hwa]; exact (((Gro.refl _).alloc _).alloc _).alloc _
 have bG : wa.heap[w.heap.size]? = some (.cells #[Value.slice a1 g.vs.length n1, Value.slice a2 g.es.length n2, Value.slice a3 g.ds.length n3] 38 (0, 0)) := by rw [hwa]; exact blk_alloc (blk_alloc (blk_new _ _) _) _
 have bB : wa.heap[w.heap.size + 1]? = some (.cells #[Value.int IntKind.i64 b.round, Value.slice ap b.ps.length np, Value.slice ao b.os.length no, Value.slice aq b.ws.length mq] 28 (0, 0)) := by
  rw [hwa]
  have := blk_new (w.alloc (.cells #[Value.slice a1 g.vs.length n1, Value.slice a2 g.es.length n2, Value.slice a3 g.ds.length n3] 38)) (.cells #[Value.int IntKind.i64 b.round, Value.slice ap b.ps.length np, Value.slice ao b.os.length no, Value.slice aq b.ws.length mq] 28)
  rw [asz] at this
  exact blk_alloc (this) _
 have bT : wa.heap[w.heap.size + 1 + 1]? = some (.cells #[Value.int IntKind.i64 0, Value.slice none 0 0, Value.slice none 0 0, Value.slice none 0 0] 28 (0, 0)) := by
  rw [hwa]
  have := blk_new ((w.alloc (.cells #[Value.slice a1 g.vs.length n1, Value.slice a2 g.es.length n2, Value.slice a3 g.ds.length n3] 38)).alloc (.cells #[Value.int IntKind.i64 b.round, Value.slice ap b.ps.length np, Value.slice ao b.os.length no, Value.slice aq b.ws.length mq] 28)) (.cells #[Value.int IntKind.i64 0, Value.slice none 0 0, Value.slice none 0 0, Value.slice none 0 0] 28)
  rw [asz, asz] at this
  exact this
 have GV : ∀ W, Gro wa W → GrV W (.agg #[Value.slice a1 g.vs.length n1, Value.slice a2 g.es.length n2, Value.slice a3 g.ds.length n3]) g := fun W hW => ⟨_, _, _, rfl, hg0.gro (k0.trans hW)⟩
 have BV : ∀ W, Gro wa W → BkV W (.agg #[Value.int IntKind.i64 b.round, Value.slice ap b.ps.length np, Value.slice ao b.os.length no, Value.slice aq b.ws.length mq]) b := fun W hW => ⟨_, _, _, rfl, ⟨_, _, rfl, lp.gro (k0.trans hW)⟩, ⟨_, _, rfl, lo.gro (k0.trans hW)⟩, ⟨_, _, rfl, lq.gro (k0.trans hW)⟩⟩
 have C15 := yy (fun W hW => valid15 (GV W hW) (BV W hW) hf)
 have C66 := yy (fun W hW id => open66 (BV W hW) hf.bfew id)
 have C67 := yy (fun W hW => copy67 (BV W hW) hf.bfew)
 have HGV := yy GV
 have HBV := yy BV
 have HF := yy hf
 have HW := yy hwa
 have K0 := yy k0
 have BA := yy bG
 have BX := yy bB
 have BT := yy bT
 have LO := yy (lo.gro k0)
 clear hg0 l1 l2 l3 lp lo lq hf k0 bG bB bT hwa GV BV 
 go_enter Tryz.func68, Tryz.ntmps68
 go_wp2_with fail
 rw [← HW.out]
 clear HW
 refine (C15.out _ (Gro.refl _)).mono ?_
 rintro e w1 ⟨rfl, k1⟩
 have K1 := yy k1
 clear k1
 have cq := blk_cell ((K1.out).blk BX.out)
 have q0 := cq 0
 have q1 := cq 1
 have q2 := cq 2
 have q3 := cq 3
 simp only [lPa, lPb, lPc] at q0 q1 q2 q3
 have hlq := blk_lt ((K1.out).blk BX.out)
 clear cq
 have BTw := yy ((K1.out).blk BT.out)
 have fT := blk_frozen BTw.out
 have cT := blk_cell BTw.out
 have f0 := fT 0
 have f1 := fT 1
 have f2 := fT 2
 have f3 := fT 3
 have t0 := cT 0
 have t1 := cT 1
 have t2 := cT 2
 have t3 := cT 3
 simp only [lPa, lPb, lPc] at t0 t1 t2 t3
 have hlT := blk_lt BTw.out
 clear fT cT
 have hszT : w.heap.size + 1 + 1 < w1.heap.size := hlT
 cases hv : validB g b with
 | false =>
  have B5 := set4 BTw.out (.int .i64 0) (.slice none 0 0) (.slice none 0 0) (.slice none 0 0)
  have K5 := kept4 (K0.out.trans K1.out) (.inr (by omega : w.heap.size ≤ w.heap.size + 1 + 1)) (.int .i64 0) (.slice none 0 0) (.slice none 0 0) (.slice none 0 0)
  have B6 := yy B5
  have K6 := yy K5
  have HN := yy (show okB g b = none from by unfold okB; rw [hv]; rfl)
  clear B5 K5
  go_wp2_with fail
  (try simp only [Exit.inBlock, Exit.then])
  refine bodyPost_ret (results_cell_tmp_row (p := 4) (u := 5) (ty := 28) rfl _ _ (w.heap.size + 1 + 1) 28 _ (0, 0) _ rfl B6.out Tryz.underlying28 rfl (by kernel_rfl)) rfl ⟨K6.out, .inr ⟨HN.out, rfl⟩⟩
 | true =>
 obtain ⟨p9, o9, q9, e9, HP9, HO9, HQ9⟩ := HBV.out _ K1.out
 injection e9 with e9
 simp only [Array.mk.injEq, List.cons.injEq, true_and, and_true] at e9
 obtain ⟨rfl, rfl, rfl⟩ := e9
 have HP9 := yy HP9
 have HO9 := yy HO9
 have HQ9 := yy HQ9
 have B5 := set4 BTw.out (.int .i64 b.round) (.slice ap b.ps.length np) (.slice ao b.os.length no) (.slice aq b.ws.length mq)
 have K5 := kept4 (K0.out.trans K1.out) (.inr (by omega : w.heap.size ≤ w.heap.size + 1 + 1)) (.int .i64 b.round) (.slice ap b.ps.length np) (.slice ao b.os.length no) (.slice aq b.ws.length mq)
 have K9 := kept4 (Kept.refl (· = w.heap.size + 1 + 1) w1) (.inl rfl) (.int .i64 b.round) (.slice ap b.ps.length np) (.slice ao b.os.length no) (.slice aq b.ws.length mq)
 have Q0 := yy (HP9.out.farB K9 BTw.out (by decide) (fun x => ⟨x.id, x.budget, rfl, rfl⟩))
 have Q1 := yy (HO9.out.farB K9 BTw.out (by decide) (fun x => ⟨x.id, x.party, rfl, rfl⟩))
 have Q2 := yy (HQ9.out.farB K9 BTw.out (by decide) (fun x => ⟨x.edge, x.src, rfl, rfl⟩))
 have B6 := yy B5
 have K6 := yy K5
 have HY := yy (show okB g b = some b from by unfold okB; rw [if_pos hv])
 clear B5 K5 K9
 go_wp2_with fail
 (try simp only [Exit.inBlock, Exit.then])
 refine bodyPost_ret (results_cell_tmp_row (p := 4) (u := 5) (ty := 28) rfl _ _ (w.heap.size + 1 + 1) 28 _ (0, 0) _ rfl B6.out Tryz.underlying28 rfl (by kernel_rfl)) rfl ⟨K6.out, .inl ⟨b, _, HY.out, rfl, ⟨_, _, _, rfl, Q0.out, Q1.out, Q2.out⟩⟩⟩
theorem chk_doW {g : Gr} {b : Bk} {party id : Int} : chk g b (doW b party id) = if validB g b = true then doW b party id else none := chk_keep (fun h b' e => h.doW e)
theorem opn'_any {b : Bk} (ha : (b.os.map Ofr.id).Pairwise (· < ·)) {id party : Int} (h : opn' b id = false) : doW b party id = none := by
 have : (b.os.any fun o => o.id == id && o.state == 1 && o.party == party) = false := by
  rcases fidx_fnd (b := b) (id := id) with ⟨hn, _, _⟩ | ⟨i, hi, hf, _, hid⟩
  ·have hm : id ∉ b.os.map Ofr.id := fun hm => by
    obtain ⟨o, ho, e⟩ := List.mem_map.1 hm
    unfold fnd at hn
    rw [List.find?_eq_none] at hn
    exact hn o ho (by simp [e])
   have := any_none hm (fun o => o.state == 1 && o.party == party)
   simp only [← Bool.and_assoc] at this
   exact this
  have h1 := any_at ha hi hid (fun o => o.state == 1 && o.party == party)
  simp only [← Bool.and_assoc] at h1
  unfold opn' at h
  rw [hf] at h
  simp only at h
  rw [h1, h]; rfl
 unfold doW
 rw [this]; rfl
set_option maxHeartbeats 8000000 in
set_option maxRecDepth 100000 in
theorem rwithdraw21 {w : World} {vg vb : Value} {g : Gr} {b : Bk} (hG : GrV w vg g) (hB : BkV w vb b) (hf : Fits g b) (party id : Int) : Calls Tryz.prog 21 #[vg, vb, .int .i64 party, .int .i64 id] w (ChPost w (chk g b (doW b party id))) := by
 have hmix := mixed
 obtain ⟨v1, v2, v3, rfl, hg0⟩ := hG
 obtain ⟨a1, n1, rfl, l1⟩ := hg0.vs
 obtain ⟨a2, n2, rfl, l2⟩ := hg0.es
 obtain ⟨a3, n3, rfl, l3⟩ := hg0.ds
 obtain ⟨p, o, q, rfl, hp, ho, hq⟩ := hB
 obtain ⟨ap, np, rfl, lp⟩ := hp
 obtain ⟨ao, no, rfl, lo⟩ := ho
 obtain ⟨aq, mq, rfl, lq⟩ := hq
 obtain ⟨wa, hwa⟩ : ∃ wa, wa = ((w.alloc (.cells #[Value.slice a1 g.vs.length n1, Value.slice a2 g.es.length n2, Value.slice a3 g.ds.length n3] 38)).alloc (.cells #[Value.int IntKind.i64 b.round, Value.slice ap b.ps.length np, Value.slice ao b.os.length no, Value.slice aq b.ws.length mq] 28)).alloc (.cells #[Value.int IntKind.i64 0, Value.slice none 0 0, Value.slice none 0 0, Value.slice none 0 0] 28) := ⟨_, rfl⟩
 have k0 : Gro w wa := by rw [hwa]; exact (((Gro.refl _).alloc _).alloc _).alloc _
 have bG : wa.heap[w.heap.size]? = some (.cells #[Value.slice a1 g.vs.length n1, Value.slice a2 g.es.length n2, Value.slice a3 g.ds.length n3] 38 (0, 0)) := by rw [hwa]; exact blk_alloc (blk_alloc (blk_new _ _) _) _
 have bB : wa.heap[w.heap.size + 1]? = some (.cells #[Value.int IntKind.i64 b.round, Value.slice ap b.ps.length np, Value.slice ao b.os.length no, Value.slice aq b.ws.length mq] 28 (0, 0)) := by
  rw [hwa]
  have := blk_new (w.alloc (.cells #[Value.slice a1 g.vs.length n1, Value.slice a2 g.es.length n2, Value.slice a3 g.ds.length n3] 38)) (.cells #[Value.int IntKind.i64 b.round, Value.slice ap b.ps.length np, Value.slice ao b.os.length no, Value.slice aq b.ws.length mq] 28)
  rw [asz] at this
  exact blk_alloc (this) _
 have bT : wa.heap[w.heap.size + 1 + 1]? = some (.cells #[Value.int IntKind.i64 0, Value.slice none 0 0, Value.slice none 0 0, Value.slice none 0 0] 28 (0, 0)) := by
  rw [hwa]
  have := blk_new ((w.alloc (.cells #[Value.slice a1 g.vs.length n1, Value.slice a2 g.es.length n2, Value.slice a3 g.ds.length n3] 38)).alloc (.cells #[Value.int IntKind.i64 b.round, Value.slice ap b.ps.length np, Value.slice ao b.os.length no, Value.slice aq b.ws.length mq] 28)) (.cells #[Value.int IntKind.i64 0, Value.slice none 0 0, Value.slice none 0 0, Value.slice none 0 0] 28)
  rw [asz, asz] at this
  exact this
 have GV : ∀ W, Gro wa W → GrV W (.agg #[Value.slice a1 g.vs.length n1, Value.slice a2 g.es.length n2, Value.slice a3 g.ds.length n3]) g := fun W hW => ⟨_, _, _, rfl, hg0.gro (k0.trans hW)⟩
 have BV : ∀ W, Gro wa W → BkV W (.agg #[Value.int IntKind.i64 b.round, Value.slice ap b.ps.length np, Value.slice ao b.os.length no, Value.slice aq b.ws.length mq]) b := fun W hW => ⟨_, _, _, rfl, ⟨_, _, rfl, lp.gro (k0.trans hW)⟩, ⟨_, _, rfl, lo.gro (k0.trans hW)⟩, ⟨_, _, rfl, lq.gro (k0.trans hW)⟩⟩
 have C15 := yy (fun W hW => valid15 (GV W hW) (BV W hW) hf)
 have C66 := yy (fun W hW id => open66 (BV W hW) hf.bfew id)
 have C67 := yy (fun W hW => copy67 (BV W hW) hf.bfew)
 have HGV := yy GV
 have HBV := yy BV
 have HF := yy hf
 have HW := yy hwa
 have K0 := yy k0
 have BA := yy bG
 have BX := yy bB
 have BT := yy bT
 have LO := yy (lo.gro k0)
 clear hg0 l1 l2 l3 lp lo lq hf k0 bG bB bT hwa GV BV 
 go_enter Tryz.func21, Tryz.ntmps21
 go_wp2_with fail
 rw [← HW.out]
 clear HW
 refine (C66.out _ (Gro.refl _) id).mono ?_
 rintro e w1 ⟨rfl, k1⟩
 have K1 := yy k1
 clear k1
 have cq := blk_cell ((K1.out).blk BX.out)
 have q0 := cq 0
 have q1 := cq 1
 have q2 := cq 2
 have q3 := cq 3
 simp only [lPa, lPb, lPc] at q0 q1 q2 q3
 have hlq := blk_lt ((K1.out).blk BX.out)
 clear cq
 have cg := blk_cell ((K1.out).blk BA.out)
 have g0 := cg 0
 have g1 := cg 1
 have g2 := cg 2
 simp only [lPa, lPb, lPc] at g0 g1 g2
 have hlg := blk_lt ((K1.out).blk BA.out)
 clear cg
 go_wp2_with fail
 refine (C15.out _ K1.out).mono ?_
 rintro e w2 ⟨rfl, k2⟩
 have K2 := yy (K1.out.trans k2)
 clear k2 q0 q1 q2 q3 hlq g0 g1 g2 hlg K1
 have cq := blk_cell ((K2.out).blk BX.out)
 have q0 := cq 0
 have q1 := cq 1
 have q2 := cq 2
 have q3 := cq 3
 simp only [lPa, lPb, lPc] at q0 q1 q2 q3
 have hlq := blk_lt ((K2.out).blk BX.out)
 clear cq
 have BTw := yy ((K2.out).blk BT.out)
 have fT := blk_frozen BTw.out
 have cT := blk_cell BTw.out
 have f0 := fT 0
 have f1 := fT 1
 have f2 := fT 2
 have f3 := fT 3
 have t0 := cT 0
 have t1 := cT 1
 have t2 := cT 2
 have t3 := cT 3
 simp only [lPa, lPb, lPc] at t0 t1 t2 t3
 have hlT := blk_lt BTw.out
 clear fT cT
 have hszT : w.heap.size + 1 + 1 < w2.heap.size := hlT
 cases hv : validB g b with
 | false =>
  have B5 := set4 BTw.out (.int .i64 0) (.slice none 0 0) (.slice none 0 0) (.slice none 0 0)
  have K5 := kept4 (K0.out.trans K2.out) (.inr (by omega : w.heap.size ≤ w.heap.size + 1 + 1)) (.int .i64 0) (.slice none 0 0) (.slice none 0 0) (.slice none 0 0)
  have B6 := yy B5
  have K6 := yy K5
  have HN := yy (show chk g b (doW b party id) = none from by rw [chk_doW, hv]; rfl)
  clear B5 K5
  go_wp2_with fail
  (try simp only [Exit.inBlock, Exit.then])
  refine bodyPost_ret (results_cell_tmp_row (p := 8) (u := 9) (ty := 28) rfl _ _ (w.heap.size + 1 + 1) 28 _ (0, 0) _ rfl B6.out Tryz.underlying28 rfl (by kernel_rfl)) rfl ⟨K6.out, .inr ⟨HN.out, rfl⟩⟩
 | true =>
 have HV := yy (validB_iff.1 hv)
 cases hop : opn' b id with
 | false =>
  have B5 := set4 BTw.out (.int .i64 0) (.slice none 0 0) (.slice none 0 0) (.slice none 0 0)
  have K5 := kept4 (K0.out.trans K2.out) (.inr (by omega : w.heap.size ≤ w.heap.size + 1 + 1)) (.int .i64 0) (.slice none 0 0) (.slice none 0 0) (.slice none 0 0)
  have B6 := yy B5
  have K6 := yy K5
  have HN := yy (show chk g b (doW b party id) = none from by rw [chk_doW, opn'_any HV.out.ao hop]; simp)
  clear B5 K5
  go_wp2_with fail
  (try simp only [Exit.inBlock, Exit.then])
  refine bodyPost_ret (results_cell_tmp_row (p := 8) (u := 9) (ty := 28) rfl _ _ (w.heap.size + 1 + 1) 28 _ (0, 0) _ rfl B6.out Tryz.underlying28 rfl (by kernel_rfl)) rfl ⟨K6.out, .inr ⟨HN.out, rfl⟩⟩
 | true =>
 rcases fidx_fnd (b := b) (id := id) with ⟨_, _, hn⟩ | ⟨i, hi, hfn, hfi, hid⟩
 ·rw [hop] at hn; cases hn
 have hst : (b.os[i].state == 1) = true := by unfold opn' at hop; rw [hfn] at hop; exact hop
 have hd : doW b party id = if (b.os[i].party == party) = true then some (closeAt b i hi 2) else none := by
  have := any_at HV.out.ao hi hid (fun o => o.state == 1 && o.party == party)
  simp only [← Bool.and_assoc] at this
  simp only [doW, this]
  rw [closeAt_eq HV.out.ao i hi, hid, hst, Bool.true_and]
 obtain ⟨ob, off, rfl, hob, hoc⟩ := (LO.out.gro K2.out).base hi
 obtain ⟨_, d1, _, _, _, _, _⟩ := ocells hoc hi
 have hlo := World.block_lt_of_cell? _ _ d1
 obtain ⟨y, hy⟩ : ∃ y, y = b.os[i].party := ⟨_, rfl⟩
 rw [← hy] at d1 hd
 have HD := yy hd
 have HI : Hid (fidx (b.os.map Ofr.id) id = (i : Int)) := yy hfi
 rw [hfi]
 have hmx : max (i : Int) 0 = i := by omega
 have hCD := chk_doW (g := g) (b := b) (party := party) (id := id)
 have HCD := yy hCD
 clear hst hd hoc hy hfi hid hfn hCD
 by_cases hpt : y = party
 ·have hpt' : (y != party) = false := by simpa using hpt
  have HP2 : Hid (chk g b (doW b party id) = some (closeAt b i hi 2)) := yy (by rw [HCD.out, if_pos hv, HD.out, if_pos (by simpa using hpt)])
  go_wp2_with fail
  refine (C67.out _ K2.out).mono ?_
  rintro e w3 ⟨p9, o9, q9, rfl, k3, op, oo, oq⟩
  have CL := yy (closed72 (BO.mk op oo oq) HF.out.bfew k3.size i hi 2)
  have K3 := yy k3
  have OO := yy oo
  clear op oo oq k3 q0 q1 q2 q3 hlq d1 hlo f0 f1 f2 f3 t0 t1 t2 t3 hlT
  go_wp2_with fail
  refine CL.out.mono ?_
  rintro e w4 ⟨q10, rfl, hBO4, k4⟩
  have K4 : Hid (Gro w w4) := yy (Kept.trans' ((K0.out.trans K2.out).trans K3.out) k4 (fun j hj => .inr (Nat.le_trans (K0.out.trans K2.out).size (OO.out.block hj).1)))
  have BTw : Hid (w4.heap[w.heap.size + 1 + 1]? = some (.cells #[Value.int IntKind.i64 0, Value.slice none 0 0, Value.slice none 0 0, Value.slice none 0 0] 28 (0, 0))) := yy (k4.blk (K3.out.blk BTw.out) (own_far OO.out (K3.out.blk BTw.out) (by decide)))
  have hfc : (closeAt b i hi 2).few := ⟨HF.out.bfew.ps, by unfold closeAt; rw [List.length_set]; exact HF.out.bfew.os, Nat.le_trans (List.length_filter_le _ _) HF.out.bfew.ws⟩
  obtain ⟨x1, c1, e1⟩ := hBO4.ps.form
  obtain ⟨x2, c2, e2⟩ := hBO4.os.form
  obtain ⟨x3, c3, e3⟩ := hBO4.ws.form
  have HP9 := yy (hBO4.ps.lv (by have := hfc.ps; omega))
  have HO9 := yy (hBO4.os.lv (by have := hfc.os; omega))
  have HQ9 := yy (hBO4.ws.lv (by have := hfc.ws; omega))
  generalize (closeAt b i hi 2).ps.length = N1 at e1
  generalize (closeAt b i hi 2).os.length = N2 at e2
  generalize (closeAt b i hi 2).ws.length = N3 at e3
  subst e1 e2 e3
  have hrd : (closeAt b i hi 2).round = b.round := rfl
  have HRD := yy hrd
  clear hBO4 k4 hfc hrd CL
  have fT := blk_frozen BTw.out
  have cT := blk_cell BTw.out
  have f0 := fT 0
  have f1 := fT 1
  have f2 := fT 2
  have f3 := fT 3
  have t0 := cT 0
  have t1 := cT 1
  have t2 := cT 2
  have t3 := cT 3
  simp only [lPa, lPb, lPc] at t0 t1 t2 t3
  have hlT := blk_lt BTw.out
  clear fT cT
  have B5 := set4 BTw.out (.int .i64 b.round) (.slice x1 N1 c1) (.slice x2 N2 c2) (.slice x3 N3 c3)
  have K5 := kept4 (K4.out) (.inr (by omega : w.heap.size ≤ w.heap.size + 1 + 1)) (.int .i64 b.round) (.slice x1 N1 c1) (.slice x2 N2 c2) (.slice x3 N3 c3)
  have K9 := kept4 (Kept.refl (· = w.heap.size + 1 + 1) w4) (.inl rfl) (.int .i64 b.round) (.slice x1 N1 c1) (.slice x2 N2 c2) (.slice x3 N3 c3)
  have Q0 := yy (HP9.out.farB K9 BTw.out (by decide) (fun x => ⟨x.id, x.budget, rfl, rfl⟩))
  have Q1 := yy (HO9.out.farB K9 BTw.out (by decide) (fun x => ⟨x.id, x.party, rfl, rfl⟩))
  have Q2 := yy (HQ9.out.farB K9 BTw.out (by decide) (fun x => ⟨x.edge, x.src, rfl, rfl⟩))
  have B6 := yy B5
  have K6 := yy K5
  have HY := yy (HP2.out)
  clear B5 K5 K9
  go_wp2_with fail
  (try simp only [Exit.inBlock, Exit.then])
  refine bodyPost_ret (results_cell_tmp_row (p := 8) (u := 9) (ty := 28) rfl _ _ (w.heap.size + 1 + 1) 28 _ (0, 0) _ rfl B6.out Tryz.underlying28 rfl (by kernel_rfl)) rfl ⟨K6.out, .inl ⟨closeAt b i hi 2, _, HY.out, rfl, ⟨_, _, _, rfl, Q0.out, Q1.out, Q2.out⟩⟩⟩
 have hpt' : (y != party) = true := by simpa using hpt
 have B5 := set4 BTw.out (.int .i64 0) (.slice none 0 0) (.slice none 0 0) (.slice none 0 0)
 have K5 := kept4 (K0.out.trans K2.out) (.inr (by omega : w.heap.size ≤ w.heap.size + 1 + 1)) (.int .i64 0) (.slice none 0 0) (.slice none 0 0) (.slice none 0 0)
 have B6 := yy B5
 have K6 := yy K5
 have HN := yy (show chk g b (doW b party id) = none from by rw [HCD.out, HD.out]; simp [hpt])
 clear B5 K5
 go_wp2_with fail
 (try simp only [Exit.inBlock, Exit.then])
 refine bodyPost_ret (results_cell_tmp_row (p := 8) (u := 9) (ty := 28) rfl _ _ (w.heap.size + 1 + 1) 28 _ (0, 0) _ rfl B6.out Tryz.underlying28 rfl (by kernel_rfl)) rfl ⟨K6.out, .inr ⟨HN.out, rfl⟩⟩
end Go.Proofs.YthfagcdjbmhhcaaGreat
namespace Go.Proofs.YthfagcdjbmhhcaaGreat
open Go.RowKit
attribute [local irreducible] wpQuiet
/-- a book that the reference is changing: its block O; the result's block T, as it was made -/
structure NX (w wr : World) (T O base : Nat) (p o q : Value) (b : Bk) : Prop where
 tb : wr.heap[T]? = some (.cells #[.int .i64 0, .slice none 0 0, .slice none 0 0, .slice none 0 0] 28 (0, 0))
 ob : wr.heap[O]? = some (.cells #[.int .i64 b.round, p, o, q] 28 (0, 0))
 bo : BO wr base p o q b
 gro : Gro w wr
 tne : T ≠ O
 tl : w.heap.size ≤ T
 ol : w.heap.size ≤ O
 bl : w.heap.size ≤ base
 bz : base ≤ wr.heap.size
theorem NX.step {w wr w' : World} {T O base : Nat} {p o q : Value} {b : Bk} (h : NX w wr T O base p o q b) (k : Gro wr w') : NX w w' T O base p o q b :=
 ⟨k.blk h.tb, k.blk h.ob, h.bo.gro k, h.gro.trans k, h.tne, h.tl, h.ol, h.bl, Nat.le_trans h.bz k.size⟩
/-- a call has changed what the offers' row holds; the book's block is then written -/
theorem NX.put {w wr w' : World} {T O base : Nat} {p o q q' : Value} {b b' : Bk} (h : NX w wr T O base p o q b) (hb : BO w' base p o q' b') (k : Kept (ownF o) wr w') :
  NX w ((((w'.setCell ⟨O, 0, none⟩ (.int .i64 b'.round)).setCell ⟨O, 1, none⟩ p).setCell ⟨O, 2, none⟩ o).setCell ⟨O, 3, none⟩ q') T O base p o q' b' := by
 have hO := k.blk h.ob (own_far h.bo.os h.ob (by decide))
 have hT := k.blk h.tb (own_far h.bo.os h.tb (by decide))
 have kk := kept4 (Kept.refl (· = O) w') (.inl rfl) (.int .i64 b'.round) p o q'
 have hg : Gro w w' := Kept.trans' h.gro k (fun j hj => .inr (Nat.le_trans h.bl (h.bo.os.block hj).1))
 exact ⟨kk.blk hT h.tne, set4 hO _ _ _ _, hb.far kk hO, kept4 hg (.inr h.ol) _ _ _ _, h.tne, h.tl, h.ol, h.bl, Nat.le_trans h.bz (Nat.le_trans k.size kk.size)⟩
theorem NX.cells {w wr : World} {T O base : Nat} {p o q : Value} {b : Bk} (h : NX w wr T O base p o q b) :
  (wr.cell? ⟨O, 0, none⟩ = some (.int .i64 b.round) ∧ wr.cell? ⟨O, 1, none⟩ = some p ∧ wr.cell? ⟨O, 2, none⟩ = some o ∧ wr.cell? ⟨O, 3, none⟩ = some q) ∧ (wr.frozen? ⟨O, 0, none⟩ = false ∧ wr.frozen? ⟨O, 1, none⟩ = false ∧ wr.frozen? ⟨O, 2, none⟩ = false ∧ wr.frozen? ⟨O, 3, none⟩ = false) ∧ O < wr.heap.size :=
 ⟨⟨by rw [blk_cell h.ob]; rfl, by rw [blk_cell h.ob]; rfl, by rw [blk_cell h.ob]; rfl, by rw [blk_cell h.ob]; rfl⟩, ⟨blk_frozen h.ob _, blk_frozen h.ob _, blk_frozen h.ob _, blk_frozen h.ob _⟩, blk_lt h.ob⟩
theorem chk_doNext {g : Gr} {b : Bk} : chk g b (doNext b) = if validB g b = true then doNext b else none := chk_keep (fun h b' e => h.doNext e)
set_option maxHeartbeats 8000000 in
set_option maxRecDepth 100000 in
theorem rnext27 {w : World} {vg vb : Value} {g : Gr} {b : Bk} (hG : GrV w vg g) (hB : BkV w vb b) (hf : Fits g b) : Calls Tryz.prog 27 #[vg, vb] w (ChPost w (chk g b (doNext b))) := by
 have hmix := mixed
 obtain ⟨v1, v2, v3, rfl, hg0⟩ := hG
 obtain ⟨a1, n1, rfl, l1⟩ := hg0.vs
 obtain ⟨a2, n2, rfl, l2⟩ := hg0.es
 obtain ⟨a3, n3, rfl, l3⟩ := hg0.ds
 obtain ⟨p, o, q, rfl, hp, ho, hq⟩ := hB
 obtain ⟨ap, np, rfl, lp⟩ := hp
 obtain ⟨ao, no, rfl, lo⟩ := ho
 obtain ⟨aq, mq, rfl, lq⟩ := hq
 obtain ⟨wa, hwa⟩ : ∃ wa, wa = ((w.alloc (.cells #[Value.slice a1 g.vs.length n1, Value.slice a2 g.es.length n2, Value.slice a3 g.ds.length n3] 38)).alloc (.cells #[Value.int IntKind.i64 b.round, Value.slice ap b.ps.length np, Value.slice ao b.os.length no, Value.slice aq b.ws.length mq] 28)).alloc (.cells #[Value.int IntKind.i64 0, Value.slice none 0 0, Value.slice none 0 0, Value.slice none 0 0] 28) := ⟨_, rfl⟩
 have k0 : Gro w wa := by rw [hwa]; exact (((Gro.refl _).alloc _).alloc _).alloc _
 have bG : wa.heap[w.heap.size]? = some (.cells #[Value.slice a1 g.vs.length n1, Value.slice a2 g.es.length n2, Value.slice a3 g.ds.length n3] 38 (0, 0)) := by rw [hwa]; exact blk_alloc (blk_alloc (blk_new _ _) _) _
 have bB : wa.heap[w.heap.size + 1]? = some (.cells #[Value.int IntKind.i64 b.round, Value.slice ap b.ps.length np, Value.slice ao b.os.length no, Value.slice aq b.ws.length mq] 28 (0, 0)) := by
  rw [hwa]
  have := blk_new (w.alloc (.cells #[Value.slice a1 g.vs.length n1, Value.slice a2 g.es.length n2, Value.slice a3 g.ds.length n3] 38)) (.cells #[Value.int IntKind.i64 b.round, Value.slice ap b.ps.length np, Value.slice ao b.os.length no, Value.slice aq b.ws.length mq] 28)
  rw [asz] at this
  exact blk_alloc (this) _
 have bT : wa.heap[w.heap.size + 1 + 1]? = some (.cells #[Value.int IntKind.i64 0, Value.slice none 0 0, Value.slice none 0 0, Value.slice none 0 0] 28 (0, 0)) := by
  rw [hwa]
  have := blk_new ((w.alloc (.cells #[Value.slice a1 g.vs.length n1, Value.slice a2 g.es.length n2, Value.slice a3 g.ds.length n3] 38)).alloc (.cells #[Value.int IntKind.i64 b.round, Value.slice ap b.ps.length np, Value.slice ao b.os.length no, Value.slice aq b.ws.length mq] 28)) (.cells #[Value.int IntKind.i64 0, Value.slice none 0 0, Value.slice none 0 0, Value.slice none 0 0] 28)
  rw [asz, asz] at this
  exact this
 have GV : ∀ W, Gro wa W → GrV W (.agg #[Value.slice a1 g.vs.length n1, Value.slice a2 g.es.length n2, Value.slice a3 g.ds.length n3]) g := fun W hW => ⟨_, _, _, rfl, hg0.gro (k0.trans hW)⟩
 have BV : ∀ W, Gro wa W → BkV W (.agg #[Value.int IntKind.i64 b.round, Value.slice ap b.ps.length np, Value.slice ao b.os.length no, Value.slice aq b.ws.length mq]) b := fun W hW => ⟨_, _, _, rfl, ⟨_, _, rfl, lp.gro (k0.trans hW)⟩, ⟨_, _, rfl, lo.gro (k0.trans hW)⟩, ⟨_, _, rfl, lq.gro (k0.trans hW)⟩⟩
 have C15 := yy (fun W hW => valid15 (GV W hW) (BV W hW) hf)
 have C66 := yy (fun W hW id => open66 (BV W hW) hf.bfew id)
 have C67 := yy (fun W hW => copy67 (BV W hW) hf.bfew)
 have HGV := yy GV
 have HBV := yy BV
 have HF := yy hf
 have HW := yy hwa
 have K0 := yy k0
 have BA := yy bG
 have BX := yy bB
 have BT := yy bT
 have LO := yy (lo.gro k0)
 clear hg0 l1 l2 l3 lp lo lq hf k0 bG bB bT hwa GV BV 
 go_enter Tryz.func27, Tryz.ntmps27
 go_wp2_with fail
 rw [← HW.out]
 clear HW
 refine (C15.out _ (Gro.refl _)).mono ?_
 rintro e w2 ⟨rfl, k2⟩
 have K2 := yy k2
 clear k2
 have cq := blk_cell ((K2.out).blk BX.out)
 have q0 := cq 0
 have q1 := cq 1
 have q2 := cq 2
 have q3 := cq 3
 simp only [lPa, lPb, lPc] at q0 q1 q2 q3
 have hlq := blk_lt ((K2.out).blk BX.out)
 clear cq
 have BTw := yy ((K2.out).blk BT.out)
 have fT := blk_frozen BTw.out
 have cT := blk_cell BTw.out
 have f0 := fT 0
 have f1 := fT 1
 have f2 := fT 2
 have f3 := fT 3
 have t0 := cT 0
 have t1 := cT 1
 have t2 := cT 2
 have t3 := cT 3
 simp only [lPa, lPb, lPc] at t0 t1 t2 t3
 have hlT := blk_lt BTw.out
 clear fT cT
 have hszT : w.heap.size + 1 + 1 < w2.heap.size := hlT
 cases hv : validB g b with
 | false =>
  have B5 := set4 BTw.out (.int .i64 0) (.slice none 0 0) (.slice none 0 0) (.slice none 0 0)
  have K5 := kept4 (K0.out.trans K2.out) (.inr (by omega : w.heap.size ≤ w.heap.size + 1 + 1)) (.int .i64 0) (.slice none 0 0) (.slice none 0 0) (.slice none 0 0)
  have B6 := yy B5
  have K6 := yy K5
  have HN := yy (show chk g b (doNext b) = none from by rw [chk_doNext, hv]; rfl)
  clear B5 K5
  go_wp2_with fail
  (try simp only [Exit.inBlock, Exit.then])
  refine bodyPost_ret (results_cell_tmp_row (p := 4) (u := 5) (ty := 28) rfl _ _ (w.heap.size + 1 + 1) 28 _ (0, 0) _ rfl B6.out Tryz.underlying28 rfl (by kernel_rfl)) rfl ⟨K6.out, .inr ⟨HN.out, rfl⟩⟩
 | true =>
 have HV := yy (validB_iff.1 hv)
 have hrd := inB_iff.1 HV.out.rd
 by_cases h30 : b.round = 30
 ·have h30' : (b.round == 30) = true := by simpa using h30
  have B5 := set4 BTw.out (.int .i64 0) (.slice none 0 0) (.slice none 0 0) (.slice none 0 0)
  have K5 := kept4 (K0.out.trans K2.out) (.inr (by omega : w.heap.size ≤ w.heap.size + 1 + 1)) (.int .i64 0) (.slice none 0 0) (.slice none 0 0) (.slice none 0 0)
  have B6 := yy B5
  have K6 := yy K5
  have HN := yy (show chk g b (doNext b) = none from by rw [chk_doNext, if_pos hv]; unfold doNext; rw [if_neg (by omega)])
  clear B5 K5
  go_wp2_with fail
  (try simp only [Exit.inBlock, Exit.then])
  refine bodyPost_ret (results_cell_tmp_row (p := 4) (u := 5) (ty := 28) rfl _ _ (w.heap.size + 1 + 1) 28 _ (0, 0) _ rfl B6.out Tryz.underlying28 rfl (by kernel_rfl)) rfl ⟨K6.out, .inr ⟨HN.out, rfl⟩⟩
 have h30' : (b.round == 30) = false := by simpa using h30
 have HP2 : Hid (chk g b (doNext b) = some (nextB b b.os.length)) := yy (by rw [chk_doNext, if_pos hv]; unfold doNext; rw [if_pos (by omega)])
 have hwr : IntKind.i64.wrap (b.round + 1) = b.round + 1 := by rw [IntKind.wrap_i64]; omega
 go_wp2_with fail
 refine (C67.out _ K2.out).mono ?_
 rintro e w3 ⟨p9, o9, q9, rfl, k3, op, oo, oq⟩
 obtain ⟨x1', c1, e1⟩ := op.form
 obtain ⟨x2', c2, e2⟩ := oo.form
 obtain ⟨x3', c3, e3⟩ := oq.form
 subst e1 e2 e3
 obtain ⟨wo, hwo⟩ : ∃ wo, wo = w3.alloc (Obj.cells #[.int .i64 (b.round + 1), .slice x1' b.ps.length c1, .slice x2' b.os.length c2, .slice x3' b.ws.length c3] 28) := ⟨_, rfl⟩
 have ko : Gro w3 wo := by rw [hwo]; exact (Gro.refl _).alloc _
 have hO : wo.heap[w3.heap.size]? = some (.cells #[.int .i64 (b.round + 1), .slice x1' b.ps.length c1, .slice x2' b.os.length c2, .slice x3' b.ws.length c3] 28 (0, 0)) := by rw [hwo]; exact blk_new _ _
 have hszw : w.heap.size ≤ w2.heap.size := (K0.out.trans K2.out).size
 have hNX : NX w wo (w.heap.size + 1 + 1) w3.heap.size w2.heap.size (.slice x1' b.ps.length c1) (.slice x2' b.os.length c2) (.slice x3' b.ws.length c3) (nextB b 0) := by
  rw [nextB_zero]
  exact ⟨ko.blk (k3.blk BTw.out), hO, ⟨op.gro ko, oo.gro ko, oq.gro ko⟩, ((K0.out.trans K2.out).trans k3).trans ko, by have := k3.size; omega, by omega, by have := k3.size; omega, hszw, Nat.le_trans k3.size ko.size⟩
 have HN0 := yy hNX
 have HWO := yy hwo
 have hb3 := k3.size
 clear op oo oq k3 ko hO hNX hwo q0 q1 q2 q3 hlq f0 f1 f2 f3 t0 t1 t2 t3 hlT hv BTw
 have fo := HF.out.bfew.os
 go_wp2_with fail
 rw [← HWO.out]
 clear HWO
 generalize w3.heap.size = O at HN0 ⊢
 go_loopw [7] (fun t wr => ∃ (k : Nat) (q' : Value), k ≤ b.os.length ∧ t = .int .i64 k ∧ Hid (NX w wr (w.heap.size + 1 + 1) O w2.heap.size (.slice x1' b.ps.length c1) (.slice x2' b.os.length c2) q' (nextB b k))) (fun t _ => b.os.length - (intOf t).toNat)
 case atStart => exact ⟨0, _, Nat.zero_le _, by go_num, HN0⟩
 case round =>
 clear HN0
 obtain ⟨k, q', hk, rfl, HN⟩ := hrel
 obtain ⟨y3, m3, hq3⟩ := HN.out.bo.ws.form
 generalize hN3 : (nextB b k).ws.length = N3 at hq3
 subst hq3
 obtain ⟨⟨x0, x1c, x2c, x3c⟩, ⟨fx0, fx1, fx2, fx3⟩, hlO⟩ := HN.out.cells
 have hr0 : (nextB b k).round = b.round + 1 := rfl
 rw [hr0] at x0
 by_cases hlt : k < b.os.length
 ·have hlt' : k < (nextB b k).os.length := by rw [nextB_len]; exact hlt
  have hg := nextB_get b k hlt
  have hfw := nextB_few HF.out.bfew k
  obtain ⟨go, co', eo, hgo, _⟩ := HN.out.bo.os.formI hlt'
  rw [nextB_len] at eo
  injection eo with eo1 _ eo2
  subst eo1 eo2
  have sk := nextB_skip hlt
  have cl := nextB_close hlt
  have cc : ∀ j, j < 7 → ∀ v, (Rec.cs b.os[k])[j]? = some v → wr.cell? ⟨go, k * 7 + j, none⟩ = some v := by
   intro j hj v hv
   refine HN.out.bo.os.cells ?_
   have := flat_get (nextB b k).os k hlt' j hj
   rw [hg] at this
   rw [← hv]; exact this
  generalize b.os[k] = x at cc sk cl
  obtain ⟨xid, xparty, xside, xplace, xprice, xuntil, xstate⟩ := x
  have d5 := cc 5 (by decide) _ rfl
  have d6 := cc 6 (by decide) _ rfl
  have hlo := World.block_lt_of_cell? wr _ d6
  have SK := yy sk
  have CL := yy cl
  have x0 := gcell x0
  have x1 := gcell x1c
  have x2 := gcell x2c
  have x3 := gcell x3c
  have d5 := gcell d5
  have d6 := gcell d6
  clear cc sk cl hg fx0 fx1 fx2 fx3
  by_cases hs : xstate = 1
  ·have hsd : (xstate == 1) = true := by simpa using hs
   by_cases hu : xuntil < b.round + 1
   ·have hud := decide_eq_true hu
    go_wp2_with fail
    go_quiet_grown (fail)
    have kq := gro_of_grow wr nq osq
    dsimp only at kq ⊢
    clear x0 x1 x2 x3 d5 d6 x1c x2c x3c
    generalize Go.Sort.grow (wr.drewN nq) osq = w3 at kq ⊢
    have HN3 := yy (HN.out.step kq)
    clear kq
    obtain ⟨⟨y0, y1, y2, y3c⟩, _, hlO3⟩ := HN3.out.cells
    rw [hr0] at y0
    have HC := yy (closed72 HN3.out.bo hfw HN3.out.bz k hlt' 4)
    go_wp2_with fail
    refine HC.out.mono ?_
    rintro e w4 ⟨q5, rfl, hbo5, k5⟩
    obtain ⟨y5, m5, hq5⟩ := hbo5.ws.form
    generalize hN5 : (closeAt (nextB b k) k hlt' 4).ws.length = N5 at hq5
    subst hq5
    have hP := HN3.out.put hbo5 k5
    have hob4 := k5.blk HN3.out.ob (own_far HN3.out.bo.os HN3.out.ob (by decide))
    have gz := blk_frozen hob4
    have cz := blk_cell hob4
    have g0 := gz 0
    have g1 := gz 1
    have g2 := gz 2
    have g3 := gz 3
    have z0 := cz 0
    have z1 := cz 1
    have z2 := cz 2
    have z3 := cz 3
    simp only [lPa, lPb, lPc] at z0 z1 z2 z3
    have hlO4 := blk_lt hob4
    have hrc : (closeAt (nextB b k) k hlt' 4).round = b.round + 1 := rfl
    rw [hrc] at hP
    have HP5 : Hid (NX w ((((w4.setCell ⟨O, 0, none⟩ (.int .i64 (b.round + 1))).setCell ⟨O, 1, none⟩ (.slice x1' b.ps.length c1)).setCell ⟨O, 2, none⟩ (.slice (some ⟨go, 0, none⟩) b.os.length c2)).setCell ⟨O, 3, none⟩ (.slice y5 N5 m5)) (w.heap.size + 1 + 1) O w2.heap.size (.slice x1' b.ps.length c1) (.slice (some ⟨go, 0, none⟩) b.os.length c2) (.slice y5 N5 m5) (nextB b (k + 1))) := yy (by rw [CL.out (by simp [old, hs, hu])]; exact hP)
    clear hP hob4 gz cz hbo5 k5 HC y0 y1 y2 y3c hN5
    go_wp2_with fail
    go_roundw
    case rel => exact ⟨k + 1, _, by omega, by go_num, HP5⟩
    case measure => simp [intOf]; omega
   have hud := decide_eq_false hu
   go_wp2_with fail
   go_quiet_grown (fail)
   have kq := gro_of_grow wr nq osq
   dsimp only at kq ⊢
   clear x0 x1 x2 x3 d5 d6 x1c x2c x3c
   generalize Go.Sort.grow (wr.drewN nq) osq = w3 at kq ⊢
   have HN3 := yy (HN.out.step kq)
   clear kq
   rw [← SK.out (by simp [old, *])] at HN3
   go_wp2_with fail
   go_roundw
   case rel => exact ⟨k + 1, _, by omega, by go_num, HN3⟩
   case measure => simp [intOf]; omega
  have hsd : (xstate == 1) = false := by simpa using hs
  go_wp2_with fail
  go_quiet_grown (fail)
  have kq := gro_of_grow wr nq osq
  dsimp only at kq ⊢
  clear x0 x1 x2 x3 d5 d6 x1c x2c x3c
  generalize Go.Sort.grow (wr.drewN nq) osq = w3 at kq ⊢
  have HN3 := yy (HN.out.step kq)
  clear kq
  rw [← SK.out (by simp [old, *])] at HN3
  go_wp2_with fail
  go_roundw
  case rel => exact ⟨k + 1, _, by omega, by go_num, HN3⟩
  case measure => simp [intOf]; omega
 obtain rfl : k = b.os.length := by omega
 have hn := HN.out
 have BTw := yy hn.tb
 have fT := blk_frozen BTw.out
 have cT := blk_cell BTw.out
 have f0 := fT 0
 have f1 := fT 1
 have f2 := fT 2
 have f3 := fT 3
 have t0 := cT 0
 have t1 := cT 1
 have t2 := cT 2
 have t3 := cT 3
 simp only [lPa, lPb, lPc] at t0 t1 t2 t3
 have hlT := blk_lt BTw.out
 clear fT cT
 have HP9 := yy (hn.bo.ps.lv (by have := HF.out.bfew.ps; show b.ps.length ≤ _; omega))
 have HO9 := yy (hn.bo.os.lv (by rw [nextB_len]; omega))
 have HQ9 := yy (hn.bo.ws.lv (by have := (nextB_few HF.out.bfew b.os.length).ws; omega))
 have K4 := yy hn.gro
 have fx := And.intro fx0 (And.intro fx1 (And.intro fx2 fx3))
 have hlq : w.heap.size ≤ w2.heap.size := hszw
 clear hn
 have B5 := set4 BTw.out (.int .i64 (b.round + 1)) (.slice x1' b.ps.length c1) (.slice x2' b.os.length c2) (.slice y3 N3 m3)
 have K5 := kept4 (K4.out) (.inr (by omega : w.heap.size ≤ w.heap.size + 1 + 1)) (.int .i64 (b.round + 1)) (.slice x1' b.ps.length c1) (.slice x2' b.os.length c2) (.slice y3 N3 m3)
 have K9 := kept4 (Kept.refl (· = w.heap.size + 1 + 1) wr) (.inl rfl) (.int .i64 (b.round + 1)) (.slice x1' b.ps.length c1) (.slice x2' b.os.length c2) (.slice y3 N3 m3)
 have Q0 := yy (HP9.out.farB K9 BTw.out (by decide) (fun x => ⟨x.id, x.budget, rfl, rfl⟩))
 have Q1 := yy (HO9.out.farB K9 BTw.out (by decide) (fun x => ⟨x.id, x.party, rfl, rfl⟩))
 have Q2 := yy (HQ9.out.farB K9 BTw.out (by decide) (fun x => ⟨x.edge, x.src, rfl, rfl⟩))
 have B6 := yy B5
 have K6 := yy K5
 have HY := yy (HP2.out)
 clear B5 K5 K9
 go_wp2_with fail
 (try simp only [Exit.inBlock, Exit.then])
 refine bodyPost_ret (results_cell_tmp_row (p := 4) (u := 5) (ty := 28) rfl _ _ (w.heap.size + 1 + 1) 28 _ (0, 0) _ rfl B6.out Tryz.underlying28 rfl (by kernel_rfl)) rfl ⟨K6.out, .inl ⟨nextB b b.os.length, _, HY.out, rfl, ⟨_, _, _, rfl, Q0.out, Q1.out, Q2.out⟩⟩⟩
end Go.Proofs.YthfagcdjbmhhcaaGreat
