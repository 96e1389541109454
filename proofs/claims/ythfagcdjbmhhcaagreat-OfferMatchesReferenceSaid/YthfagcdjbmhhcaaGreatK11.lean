/- offer.changed. Plain data of package offer: what the calls do to a book. the changes of Withdraw, Drop, Want. the change of Drop. the change of Want. an offer is written whole. -/
import Derived.Test.YthfagcdjbmhhcaaGreatK10
import Derived.Laws.ResultCell
set_option linter.unusedVariables false
set_option linter.unusedSimpArgs false
namespace Go.Proofs.YthfagcdjbmhhcaaGreat
open Go.RowKit
attribute [local irreducible] wpQuiet
theorem lfG41 {P : Prop} (h : P := by (intro w hSw; go_simp; try with_reducible rfl)) : P := h
/-- what a change does to a valid book: nothing but what is its own may turn; none: refused -/
def DoPost (w0 : World) (X : Nat) (v1 v2 v3 : Value) (g : Gr) (r : Option Bk) (e : Ending) (w' : World) : Prop :=
 (r = none ∧ e = .returned (.bool false) ∧ Kept (fun k => w0.heap.size ≤ k) w0 w') ∨ (∃ b' p o q, r = some b' ∧ e = .returned (.bool true) ∧ XM w0 w' X p o q v1 v2 v3 g b')
def Does (w : World) (fd : Nat) (cb : Array Value) (v1 v2 v3 : Value) (g : Gr) (b : Bk) (r : Option Bk) : Prop :=
 ∀ w0 w1 X p o q, Gro w w0 → XM w0 w1 X p o q v1 v2 v3 g b → Calls Tryz.prog fd (#[.pointer (some ⟨X, 0, none⟩)] ++ cb) w1 (DoPost w0 X v1 v2 v3 g r)
/-- what is refused is refused; what is not valid afterwards too -/
def chk (g : Gr) (b : Bk) (r : Option Bk) : Option Bk := if validB g b = true then r.bind fun b' => if validB g b' = true then some b' else none else none
def ChPost (w : World) (r : Option Bk) (e : Ending) (w' : World) : Prop :=
 Gro w w' ∧ ((∃ b' v, r = some b' ∧ e = .returned (.tuple #[v, .int .i64 0]) ∧ BkV w' v b') ∨ (r = none ∧ e = .returned (.tuple #[.agg #[.int .i64 0, .slice none 0 0, .slice none 0 0, .slice none 0 0], .int .i64 270])))
theorem results_cell_tmp_row {P : Program} {fn : Func} {p u : Tmp} {ty : TypeId} (h : fn.results = #[.cell p ty, .tmp u]) (tmps : Array Value) (w : World) (g : Nat) (t : TypeId) (cs : Array Value) (fr : Nat × Nat) (d : TypeDesc)
  (hp : tmps.getD p undef = .pointer (some ⟨g, 0, none⟩)) (hg : w.heap[g]? = some (.cells cs t fr))
  (hu : P.underlying ty = some d) (hd : (match d with | .struct _ | .array _ _ => true | _ => false) = true) (hi : (P.info? ty).map (·.size) = some cs.size) :
  (results fn tmps).run P w = .ok (.tuple #[.agg cs, tmps.getD u undef]) w := by
 rw [results_cell_tmp h, hp]
 simp only [asAddr, Sem.run_pure, Result.andThen_ok, run_loadVar_row w g t ty cs fr d hg hu hd hi]
theorem set4 {w : World} {T : Nat} {x0 x1 x2 x3 : Value} {t : TypeId} {fr : Nat × Nat} (h : w.heap[T]? = some (.cells #[x0, x1, x2, x3] t fr)) (y0 y1 y2 y3 : Value) :
  ((((w.setCell ⟨T, 0, none⟩ y0).setCell ⟨T, 1, none⟩ y1).setCell ⟨T, 2, none⟩ y2).setCell ⟨T, 3, none⟩ y3).heap[T]? = some (.cells #[y0, y1, y2, y3] t fr) := by
 simpa using blk_set (blk_set (blk_set (blk_set h 0 y0) 1 y1) 2 y2) 3 y3
theorem kept4 {F : Nat → Prop} {w0 w : World} (h : Kept F w0 w) {T : Nat} (hT : F T ∨ w0.heap.size ≤ T) (y0 y1 y2 y3 : Value) :
  Kept F w0 ((((w.setCell ⟨T, 0, none⟩ y0).setCell ⟨T, 1, none⟩ y1).setCell ⟨T, 2, none⟩ y2).setCell ⟨T, 3, none⟩ y3) :=
 (((h.setCell (p := ⟨T, 0, none⟩) hT y0).setCell (p := ⟨T, 1, none⟩) hT y1).setCell (p := ⟨T, 2, none⟩) hT y2).setCell (p := ⟨T, 3, none⟩) hT y3
def noBk : Value := .agg #[.int .i64 0, .slice none 0 0, .slice none 0 0, .slice none 0 0]
set_option maxHeartbeats 4000000 in
set_option maxRecDepth 100000 in
theorem changed61 {w : World} {v1 v2 v3 p o q : Value} {g : Gr} {b : Bk} (hG : GAt w v1 v2 v3 g) (hp : LV w p b.ps) (ho : LV w o b.os) (hq : LV w q b.ws) (hfit : Fits g b) (fd : Nat) (cb : Array Value)
  (eg : ∀ args w, (callFunc fd args).run Tryz.prog w = .ok (.enter fd args) w) (r : Option Bk) (hfit' : ∀ b', r = some b' → Fits g b')
  (hd : validB g b = true → Does w fd cb v1 v2 v3 g b r) :
  Calls Tryz.prog 61 #[.agg #[v1, v2, v3], .agg #[.int .i64 b.round, p, o, q], .func (.func fd) #[] cb] w (ChPost w (chk g b r)) := by
 have hmix := mixed
 obtain ⟨a1, n1, rfl, l1⟩ := hG.vs
 obtain ⟨a2, n2, rfl, l2⟩ := hG.es
 obtain ⟨a3, n3, rfl, l3⟩ := hG.ds
 obtain ⟨ap, np, rfl, lp⟩ := hp
 obtain ⟨ao, no, rfl, lo⟩ := ho
 obtain ⟨aq, nq, rfl, lq⟩ := hq
 have hGV := hG
 have HP := yy (show LV w (.slice ap b.ps.length np) b.ps from ⟨_, _, rfl, lp⟩)
 have HO := yy (show LV w (.slice ao b.os.length no) b.os from ⟨_, _, rfl, lo⟩)
 have HQ := yy (show LV w (.slice aq b.ws.length nq) b.ws from ⟨_, _, rfl, lq⟩)
 have HGA := yy hG
 have HF := yy hfit
 have HF' := yy hfit'
 have HD := yy hd
 clear hG hGV lp lo lq l1 l2 l3 hfit hfit' hd
 go_enter Tryz.func61, Tryz.ntmps61
 go_wp2_with fail
 obtain ⟨wa, hwa⟩ : ∃ wa, wa = ((w.alloc (Obj.cells #[Value.slice a1 g.vs.length n1, Value.slice a2 g.es.length n2, Value.slice a3 g.ds.length n3] 38)).alloc (Obj.cells #[Value.int IntKind.i64 b.round, Value.slice ap b.ps.length np, Value.slice ao b.os.length no, Value.slice aq b.ws.length nq] 28)).alloc (Obj.cells #[Value.int IntKind.i64 0, Value.slice none 0 0, Value.slice none 0 0, Value.slice none 0 0] 28) := ⟨_, rfl⟩
 have k0 : Gro w wa := by rw [hwa]; exact (((Gro.refl _).alloc _).alloc _).alloc _
 have ba0 : wa.heap[w.heap.size]? = some (.cells #[Value.slice a1 g.vs.length n1, Value.slice a2 g.es.length n2, Value.slice a3 g.ds.length n3] 38 (0, 0)) := by rw [hwa]; exact blk_alloc (blk_alloc (blk_new _ _) _) _
 have ba2 : wa.heap[w.heap.size + 1 + 1]? = some (.cells #[Value.int IntKind.i64 0, Value.slice none 0 0, Value.slice none 0 0, Value.slice none 0 0] 28 (0, 0)) := by
  rw [hwa]
  have := blk_new ((w.alloc (Obj.cells #[Value.slice a1 g.vs.length n1, Value.slice a2 g.es.length n2, Value.slice a3 g.ds.length n3] 38)).alloc (Obj.cells #[Value.int IntKind.i64 b.round, Value.slice ap b.ps.length np, Value.slice ao b.os.length no, Value.slice aq b.ws.length nq] 28)) (Obj.cells #[Value.int IntKind.i64 0, Value.slice none 0 0, Value.slice none 0 0, Value.slice none 0 0] 28)
  rw [asz, asz] at this
  exact this
 rw [← hwa]
 clear hwa
 refine (read51 (HGA.out.gro k0) (HP.out.gro k0) (HO.out.gro k0) (HQ.out.gro k0) HF.out.gfew HF.out.bfew HF.out.v HF.out.e).mono ?_
 rintro e w1 ⟨k1, hr⟩
 have K0 := yy k0
 have K1 := yy k1
 have BA0 := yy ba0
 have BA2 := yy ba2
 have hs2 : w.heap.size + 1 + 1 < wa.heap.size := blk_lt ba2
 rcases hr with ⟨hv, X, p', o', q', rfl, hx⟩ | ⟨hv, rfl⟩
 ·have HV := yy hv
  have hxm := hx.xm k1 (HGA.out.gro k0)
  have HX := yy hxm
  clear hv hx hxm k0 k1 ba0 ba2
  go_wp2_with fail
  refine wp_region_held_drew (S := fun _ => True) (by kernel_rfl) trivial (fun hHeld => ?_)
  have kd : Gro w1 w1.drew := (⟨rfl, rfl, rfl, rfl, Nat.le_succ _⟩ : Drw w1 w1.drew).kept _
  have KD := yy kd
  have HX1 := yy (HX.out.gro kd)
  clear HX kd
  generalize w1.drew = wd at KD HX1 ⊢
  refine tkH 0 rfl lfG41 hHeld ?_
  refine nx ?_
  refine tkH 1 rfl lfG41 hHeld ?_
  refine nx ?_
  refine tkH 2 rfl lfG41 hHeld ?_
  refine nx ?_
  refine tkH 3 rfl lfG41 hHeld ?_
  refine nx ?_
  refine tkH 4 rfl lfG41 hHeld ?_
  refine nx ?_
  refine wpAnyH_ready (rs := [5]) (by kernel_rfl) (by simp) ?_
  refine AllReadyH.cons (i := 5) rfl (fun K hK => ?_) AllReadyH.nil
  go_simp
  refine (HD.out HV.out wa wd X p' o' q' K0.out HX1.out).mono ?_
  rintro e w2 (⟨hr, rfl, k2⟩ | ⟨b', pp, oo, qq, hr, rfl, hx2⟩)
  ·have BQ := yy (k2.blk BA2.out (by show ¬ (wa.heap.size ≤ w.heap.size + 1 + 1); omega))
   have KQ : Hid (Gro w w2) := yy (K0.out.trans' k2 (fun i hi => .inr (Nat.le_trans K0.out.size hi)))
   have HR := yy hr
   clear hr k2 BA0 BA2 K1 KD HX1
   refine hK.out _ _ trivial (fun hHeld => ?_)
   clear hK K
   try refine nx ?_
   refine tkH 6 rfl lfG41 hHeld ?_
   refine nx ?_
   refine tkH 7 rfl lfG41 hHeld ?_
   refine nx ?_
   refine tkH 8 rfl lfG41 hHeld ?_
   refine nx ?_
   refine tkS 9 rfl hHeld ?_
   try refine nx ?_
   refine tkS 10 rfl hHeld ?_
   try refine nx ?_
   refine tkS 11 rfl hHeld ?_
   try refine nx ?_
   refine tkS 12 rfl hHeld ?_
   try refine nx ?_
   refine tkS 13 rfl hHeld ?_
   try refine nx ?_
   refine tkS 14 rfl hHeld ?_
   try refine nx ?_
   refine tkS 15 rfl hHeld ?_
   try refine nx ?_
   refine tkH 16 rfl lfG41 hHeld ?_
   refine nx ?_
   refine wpAnyH_done (by kernel_rfl) ?_ _
   have d2 := blk_frozen BQ.out
   have e2 := blk_cell BQ.out
   have f0 := d2 0
   have f1 := d2 1
   have f2 := d2 2
   have f3 := d2 3
   have c0 := e2 0
   have c1 := e2 1
   have c2 := e2 2
   have c3 := e2 3
   simp only [lPa, lPb, lPc] at c0 c1 c2 c3
   have hl := World.block_lt_of_cell? w2 _ c0
   clear d2 e2
   go_wp2_with fail
   have B5 := set4 BQ.out (.int .i64 0) (.slice none 0 0) (.slice none 0 0) (.slice none 0 0)
   have K5 := kept4 KQ.out (.inr (by omega : w.heap.size ≤ w.heap.size + 1 + 1)) (.int .i64 0) (.slice none 0 0) (.slice none 0 0) (.slice none 0 0)
   refine bodyPost_ret (results_cell_tmp_row (p := 6) (u := 7) (ty := 28) rfl _ _ (w.heap.size + 1 + 1) 28 _ (0, 0) _ rfl B5 Tryz.underlying28 rfl (by kernel_rfl)) rfl ⟨K5, .inr ⟨by simp [chk, HV.out, HR.out], rfl⟩⟩
  ·have HX2 := yy hx2
   have BR := yy (hx2.kept.blk BA0.out (by show ¬ (wa.heap.size ≤ w.heap.size); omega))
   have BT := yy (hx2.kept.blk BA2.out (by show ¬ (wa.heap.size ≤ w.heap.size + 1 + 1); omega))
   have KQ2 : Hid (Gro w w2) := yy (K0.out.trans' hx2.kept (fun i hi => .inr (Nat.le_trans K0.out.size hi)))
   have hft := HF'.out b' hr
   obtain ⟨app, cpp, rfl⟩ := hx2.ps.form
   obtain ⟨aoo, coo, rfl⟩ := hx2.os.form
   obtain ⟨aqq, cqq, rfl⟩ := hx2.ws.form
   have HFT := yy hft
   have HR := yy hr
   have HVAL := yy (valid14 (w := w2) ⟨_, _, _, rfl, hx2.gr.old hx2.kept⟩ ⟨_, _, _, rfl, (hx2.at_ hft.bfew).ps, (hx2.at_ hft.bfew).os, (hx2.at_ hft.bfew).ws⟩ hft)
   obtain ⟨x0, x1, x2, x3, _, _, _⟩ := (hx2.at_ hft.bfew).cells
   have er := blk_cell BR.out
   have r0 := er 0
   have r1 := er 1
   have r2 := er 2
   clear er
   simp only [lPa, lPb, lPc] at r0 r1 r2
   have hlX := World.block_lt_of_cell? w2 _ x0
   have hlR := World.block_lt_of_cell? w2 _ r0
   clear hx2 hr hft K1 KD HX1 BA0 BA2 BR
   refine hK.out _ _ trivial (fun hHeld => ?_)
   clear hK K
   try refine nx ?_
   refine tkH 6 rfl lfG41 hHeld ?_
   refine nx ?_
   refine tkH 7 rfl lfG41 hHeld ?_
   refine nx ?_
   refine tkH 8 rfl lfG41 hHeld ?_
   refine nx ?_
   refine tkH 10 rfl lfG41 hHeld ?_
   refine nx ?_
   refine tkH 11 rfl lfG41 hHeld ?_
   refine nx ?_
   refine tkH 12 rfl lfG41 hHeld ?_
   refine nx ?_
   refine wpAnyH_ready (rs := [9, 13]) (by kernel_rfl) (by simp) ?_
   refine AllReadyH.cons (i := 9) rfl (fun K hK => ?_) (AllReadyH.cons (i := 13) rfl (fun K hK => ?_) AllReadyH.nil)
   ·go_simp
    refine hK.out _ _ trivial (fun hHeld => ?_)
    clear hK K
    try refine nx ?_
    refine wpAnyH_ready (rs := [13]) (by kernel_rfl) (by simp) ?_
    refine AllReadyH.cons (i := 13) rfl (fun K hK => ?_) AllReadyH.nil
    go_simp
    refine hK.out _ _ trivial (fun hHeld => ?_)
    clear hK K
    try refine nx ?_
    refine wpAnyH_ready (rs := [14]) (by kernel_rfl) (by simp) ?_
    refine AllReadyH.cons (i := 14) rfl (fun K hK => ?_) AllReadyH.nil
    go_simp
    refine HVAL.out.mono ?_
    rintro e w3 ⟨rfl, k3⟩
    have BT3 := yy (k3.blk BT.out)
    have KQ3 := yy (Gro.trans KQ2.out k3)
    have HX3 := yy (HX2.out.gro k3)
    clear HVAL KQ2 BT HX2 x0 x1 x2 x3 hlX r0 r1 r2 hlR k3
    refine hK.out _ _ trivial (fun hHeld => ?_)
    clear hK K
    try refine nx ?_
    cases hvb : validB g b' with
    | false =>
     have HVB := yy hvb
     have BQ := BT3
     have KQ := KQ3
     clear hvb BT3 KQ3
     refine tkH 15 rfl lfG41 hHeld ?_
     refine nx ?_
     refine tkH 16 rfl lfG41 hHeld ?_
     refine nx ?_
     refine wpAnyH_done (by kernel_rfl) ?_ _
     have d2 := blk_frozen BQ.out
     have e2 := blk_cell BQ.out
     have f0 := d2 0
     have f1 := d2 1
     have f2 := d2 2
     have f3 := d2 3
     have c0 := e2 0
     have c1 := e2 1
     have c2 := e2 2
     have c3 := e2 3
     simp only [lPa, lPb, lPc] at c0 c1 c2 c3
     have hl := World.block_lt_of_cell? w3 _ c0
     clear d2 e2
     go_wp2_with fail
     have B5 := set4 BQ.out (.int .i64 0) (.slice none 0 0) (.slice none 0 0) (.slice none 0 0)
     have K5 := kept4 KQ.out (.inr (by omega : w.heap.size ≤ w.heap.size + 1 + 1)) (.int .i64 0) (.slice none 0 0) (.slice none 0 0) (.slice none 0 0)
     refine bodyPost_ret (results_cell_tmp_row (p := 6) (u := 7) (ty := 28) rfl _ _ (w.heap.size + 1 + 1) 28 _ (0, 0) _ rfl B5 Tryz.underlying28 rfl (by kernel_rfl)) rfl ⟨K5, .inr ⟨by simp [chk, HV.out, HR.out, HVB.out], rfl⟩⟩
    | true =>
     have HVB := yy hvb
     clear hvb
     refine tkH 15 rfl lfG41 hHeld ?_
     refine nx ?_
     refine tkH 16 rfl lfG41 hHeld ?_
     refine nx ?_
     refine wpAnyH_done (by kernel_rfl) ?_ _
     obtain ⟨x0, x1, x2, x3, _, _, _⟩ := (HX3.out.at_ HFT.out.bfew).cells
     have hlX := World.block_lt_of_cell? w3 _ x0
     have d2 := blk_frozen BT3.out
     have e2 := blk_cell BT3.out
     have f0 := d2 0
     have f1 := d2 1
     have f2 := d2 2
     have f3 := d2 3
     have c0 := e2 0
     have c1 := e2 1
     have c2 := e2 2
     have c3 := e2 3
     simp only [lPa, lPb, lPc] at c0 c1 c2 c3
     have hl := World.block_lt_of_cell? w3 _ c0
     clear d2 e2
     go_wp2_with fail
     have B5 := set4 BT3.out (.int .i64 b'.round) (.slice app b'.ps.length cpp) (.slice aoo b'.os.length coo) (.slice aqq b'.ws.length cqq)
     have K5 := kept4 KQ3.out (.inr (by omega : w.heap.size ≤ w.heap.size + 1 + 1)) (.int .i64 b'.round) (.slice app b'.ps.length cpp) (.slice aoo b'.os.length coo) (.slice aqq b'.ws.length cqq)
     have K6 := kept4 (F := (· = w.heap.size + 1 + 1)) (Kept.refl (· = w.heap.size + 1 + 1) w3) (.inl rfl) (.int .i64 b'.round) (.slice app b'.ps.length cpp) (.slice aoo b'.os.length coo) (.slice aqq b'.ws.length cqq)
     have far : ∀ k, wa.heap.size ≤ k → ¬ (k = w.heap.size + 1 + 1) := fun k hk => by omega
     refine bodyPost_ret (results_cell_tmp_row (p := 6) (u := 7) (ty := 28) rfl _ _ (w.heap.size + 1 + 1) 28 _ (0, 0) _ rfl B5 Tryz.underlying28 rfl (by kernel_rfl)) rfl ⟨K5, .inl ⟨b', _, by simp [chk, HV.out, HR.out, HVB.out], rfl, ⟨_, _, _, rfl, ?_, ?_, ?_⟩⟩⟩
     ·exact (HX3.out.ps.kept K6 (fun k hk => far k (HX3.out.ps.block hk).1)).lv (by have := HFT.out.bfew.ps; omega)
     ·exact (HX3.out.os.kept K6 (fun k hk => far k (HX3.out.os.block hk).1)).lv (by have := HFT.out.bfew.os; omega)
     ·exact (HX3.out.ws.kept K6 (fun k hk => far k (HX3.out.ws.block hk).1)).lv (by have := HFT.out.bfew.ws; omega)
   ·go_simp
    refine hK.out _ _ trivial (fun hHeld => ?_)
    clear hK K
    try refine nx ?_
    refine wpAnyH_ready (rs := [9]) (by kernel_rfl) (by simp) ?_
    refine AllReadyH.cons (i := 9) rfl (fun K hK => ?_) AllReadyH.nil
    go_simp
    refine hK.out _ _ trivial (fun hHeld => ?_)
    clear hK K
    try refine nx ?_
    refine wpAnyH_ready (rs := [14]) (by kernel_rfl) (by simp) ?_
    refine AllReadyH.cons (i := 14) rfl (fun K hK => ?_) AllReadyH.nil
    go_simp
    refine HVAL.out.mono ?_
    rintro e w3 ⟨rfl, k3⟩
    have BT3 := yy (k3.blk BT.out)
    have KQ3 := yy (Gro.trans KQ2.out k3)
    have HX3 := yy (HX2.out.gro k3)
    clear HVAL KQ2 BT HX2 x0 x1 x2 x3 hlX r0 r1 r2 hlR k3
    refine hK.out _ _ trivial (fun hHeld => ?_)
    clear hK K
    try refine nx ?_
    cases hvb : validB g b' with
    | false =>
     have HVB := yy hvb
     have BQ := BT3
     have KQ := KQ3
     clear hvb BT3 KQ3
     refine tkH 15 rfl lfG41 hHeld ?_
     refine nx ?_
     refine tkH 16 rfl lfG41 hHeld ?_
     refine nx ?_
     refine wpAnyH_done (by kernel_rfl) ?_ _
     have d2 := blk_frozen BQ.out
     have e2 := blk_cell BQ.out
     have f0 := d2 0
     have f1 := d2 1
     have f2 := d2 2
     have f3 := d2 3
     have c0 := e2 0
     have c1 := e2 1
     have c2 := e2 2
     have c3 := e2 3
     simp only [lPa, lPb, lPc] at c0 c1 c2 c3
     have hl := World.block_lt_of_cell? w3 _ c0
     clear d2 e2
     go_wp2_with fail
     have B5 := set4 BQ.out (.int .i64 0) (.slice none 0 0) (.slice none 0 0) (.slice none 0 0)
     have K5 := kept4 KQ.out (.inr (by omega : w.heap.size ≤ w.heap.size + 1 + 1)) (.int .i64 0) (.slice none 0 0) (.slice none 0 0) (.slice none 0 0)
     refine bodyPost_ret (results_cell_tmp_row (p := 6) (u := 7) (ty := 28) rfl _ _ (w.heap.size + 1 + 1) 28 _ (0, 0) _ rfl B5 Tryz.underlying28 rfl (by kernel_rfl)) rfl ⟨K5, .inr ⟨by simp [chk, HV.out, HR.out, HVB.out], rfl⟩⟩
    | true =>
     have HVB := yy hvb
     clear hvb
     refine tkH 15 rfl lfG41 hHeld ?_
     refine nx ?_
     refine tkH 16 rfl lfG41 hHeld ?_
     refine nx ?_
     refine wpAnyH_done (by kernel_rfl) ?_ _
     obtain ⟨x0, x1, x2, x3, _, _, _⟩ := (HX3.out.at_ HFT.out.bfew).cells
     have hlX := World.block_lt_of_cell? w3 _ x0
     have d2 := blk_frozen BT3.out
     have e2 := blk_cell BT3.out
     have f0 := d2 0
     have f1 := d2 1
     have f2 := d2 2
     have f3 := d2 3
     have c0 := e2 0
     have c1 := e2 1
     have c2 := e2 2
     have c3 := e2 3
     simp only [lPa, lPb, lPc] at c0 c1 c2 c3
     have hl := World.block_lt_of_cell? w3 _ c0
     clear d2 e2
     go_wp2_with fail
     have B5 := set4 BT3.out (.int .i64 b'.round) (.slice app b'.ps.length cpp) (.slice aoo b'.os.length coo) (.slice aqq b'.ws.length cqq)
     have K5 := kept4 KQ3.out (.inr (by omega : w.heap.size ≤ w.heap.size + 1 + 1)) (.int .i64 b'.round) (.slice app b'.ps.length cpp) (.slice aoo b'.os.length coo) (.slice aqq b'.ws.length cqq)
     have K6 := kept4 (F := (· = w.heap.size + 1 + 1)) (Kept.refl (· = w.heap.size + 1 + 1) w3) (.inl rfl) (.int .i64 b'.round) (.slice app b'.ps.length cpp) (.slice aoo b'.os.length coo) (.slice aqq b'.ws.length cqq)
     have far : ∀ k, wa.heap.size ≤ k → ¬ (k = w.heap.size + 1 + 1) := fun k hk => by omega
     refine bodyPost_ret (results_cell_tmp_row (p := 6) (u := 7) (ty := 28) rfl _ _ (w.heap.size + 1 + 1) 28 _ (0, 0) _ rfl B5 Tryz.underlying28 rfl (by kernel_rfl)) rfl ⟨K5, .inl ⟨b', _, by simp [chk, HV.out, HR.out, HVB.out], rfl, ⟨_, _, _, rfl, ?_, ?_, ?_⟩⟩⟩
     ·exact (HX3.out.ps.kept K6 (fun k hk => far k (HX3.out.ps.block hk).1)).lv (by have := HFT.out.bfew.ps; omega)
     ·exact (HX3.out.os.kept K6 (fun k hk => far k (HX3.out.os.block hk).1)).lv (by have := HFT.out.bfew.os; omega)
     ·exact (HX3.out.ws.kept K6 (fun k hk => far k (HX3.out.ws.block hk).1)).lv (by have := HFT.out.bfew.ws; omega)
 ·have HV := yy hv
  have hs1 := k1.size
  clear hv k0 k1 ba0 ba2
  go_wp2_with fail
  go_quiet_grown (fail)
  have kq := gro_of_grow w1 nq osq
  have BQ := yy ((K1.out.trans kq).blk BA2.out)
  have KQ := yy ((K0.out.trans K1.out).trans kq)
  clear kq
  dsimp only at BQ KQ ⊢
  generalize Go.Sort.grow (w1.drewN nq) osq = wq at BQ KQ ⊢
  have d2 := blk_frozen BQ.out
  have e2 := blk_cell BQ.out
  have f0 := d2 0
  have f1 := d2 1
  have f2 := d2 2
  have f3 := d2 3
  have c0 := e2 0
  have c1 := e2 1
  have c2 := e2 2
  have c3 := e2 3
  simp only [lPa, lPb, lPc] at c0 c1 c2 c3
  have hl := World.block_lt_of_cell? wq _ c0
  clear d2 e2
  go_wp2_with fail
  have B5 := set4 BQ.out (.int .i64 0) (.slice none 0 0) (.slice none 0 0) (.slice none 0 0)
  have K5 := kept4 KQ.out (.inr (by omega : w.heap.size ≤ w.heap.size + 1 + 1)) (.int .i64 0) (.slice none 0 0) (.slice none 0 0) (.slice none 0 0)
  refine bodyPost_ret (results_cell_tmp_row (p := 6) (u := 7) (ty := 28) rfl _ _ (w.heap.size + 1 + 1) 28 _ (0, 0) _ rfl B5 Tryz.underlying28 rfl (by kernel_rfl)) rfl ⟨K5, .inr ⟨by simp [chk, HV.out], rfl⟩⟩
end Go.Proofs.YthfagcdjbmhhcaaGreat
namespace Go.Proofs.YthfagcdjbmhhcaaGreat
def shut (id st : Int) (o : Ofr) : Ofr := if o.id = id then { o with state := st } else o
def offW (id : Int) (w : Wsh) : Bool := !(w.src == id || w.dst == id)
def closeId (b : Bk) (id st : Int) : Bk := { b with os := b.os.map (shut id st), ws := b.ws.filter (offW id) }
def doW (b : Bk) (party id : Int) : Option Bk := if (b.os.any fun o => o.id == id && o.state == 1 && o.party == party) = true then some (closeId b id 2) else none
def putO (o : Ofr) (os : List Ofr) : List Ofr := if (os.any fun y => y.id == o.id) = true then os.map fun y => if y.id = o.id then o else y else ins Ofr.id o os
def doAdd (b : Bk) (o : Ofr) : Option Bk := if o.state ≠ 1 ∨ opn b o.id = true then none else some { b with os := putO o b.os }
def hasW (b : Bk) (e : Int) : Bool := b.ws.any fun w => w.edge == e
def doWant (b : Bk) (w : Wsh) : Option Bk := if hasW b w.edge = true then none else some { b with ws := ins Wsh.edge w b.ws }
def doDrop (b : Bk) (e : Int) : Option Bk := if hasW b e = true then some { b with ws := b.ws.filter fun w => !(w.edge == e) } else none
def old (r : Int) (o : Ofr) : Bool := o.state == 1 && decide (o.until_ < r)
def expire (r : Int) (o : Ofr) : Ofr := if old r o = true then { o with state := 4 } else o
def nextB (b : Bk) (k : Nat) : Bk := ⟨b.round + 1, b.ps, (b.os.take k).map (expire (b.round + 1)) ++ b.os.drop k, b.ws.filter fun w => (b.os.take k).all fun o => !(old (b.round + 1) o) || offW o.id w⟩
def doNext (b : Bk) : Option Bk := if b.round + 1 ≤ 30 then some (nextB b b.os.length) else none
def takeAll (b : Bk) : List Int → Option Bk
 | [] => some b
 | id :: l => if opn b id = true then takeAll (closeId b id 3) l else none
def doTake (b : Bk) (ids : List Int) : Option Bk := (takeAll b ids).bind fun c => if asc ids = true then some c else none
theorem shut_id (id st : Int) (o : Ofr) : (shut id st o).id = o.id := by unfold shut; split <;> rfl
theorem map_shut_id (id st : Int) (os : List Ofr) : (os.map (shut id st)).map Ofr.id = os.map Ofr.id := by
 rw [List.map_map]
 exact List.map_congr_left fun o _ => shut_id id st o
theorem expire_id (r : Int) (o : Ofr) : (expire r o).id = o.id := by unfold expire; split <;> rfl
theorem set_eq_map {f : Ofr → Ofr} : ∀ (l : List Ofr) (i : Nat) (hi : i < l.length), (∀ j (hj : j < l.length), j ≠ i → f l[j] = l[j]) → l.set i (f l[i]) = l.map f
 | x :: l, 0, _, h => by
  have : l.map f = l := by
   conv => rhs; rw [← List.map_id l]
   refine List.map_congr_left fun y hy => ?_
   obtain ⟨j, hj, rfl⟩ := List.getElem_of_mem hy
   exact h (j + 1) (by simpa using hj) (by omega)
  simp [this]
 | x :: l, i + 1, hi, h => by
  have h0 := h 0 (by simp) (by omega)
  have ih := set_eq_map l i (by simpa using hi) (fun j hj hne => h (j + 1) (by simpa using hj) (by omega))
  simp only [List.getElem_cons_zero] at h0
  simp [ih, h0]
theorem closeAt_eq {b : Bk} (ha : (b.os.map Ofr.id).Pairwise (· < ·)) (i : Nat) (hi : i < b.os.length) (st : Int) : closeAt b i hi st = closeId b b.os[i].id st := by
 unfold closeAt closeId
 congr 1
 have := set_eq_map (f := shut b.os[i].id st) b.os i hi (fun j hj hne => by
  unfold shut
  rw [if_neg (fun e => hne (eq_of_asc ha hj hi e))])
 rw [← this]
 simp [shut]
theorem any_at {b : Bk} (ha : (b.os.map Ofr.id).Pairwise (· < ·)) {id : Int} {i : Nat} (hi : i < b.os.length) (he : b.os[i].id = id) (p : Ofr → Bool) : (b.os.any fun o => o.id == id && p o) = p b.os[i] := by
 rw [Bool.eq_iff_iff, List.any_eq_true]
 constructor
 ·rintro ⟨x, hx, h⟩
  simp only [Bool.and_eq_true, beq_iff_eq] at h
  obtain ⟨j, hj, rfl⟩ := List.getElem_of_mem hx
  have := eq_of_asc ha hj hi (by rw [h.1, he])
  subst this
  exact h.2
 exact fun h => ⟨_, List.getElem_mem hi, by simp [he, h]⟩
theorem any_none {b : Bk} {id : Int} (hm : id ∉ b.os.map Ofr.id) (p : Ofr → Bool) : (b.os.any fun o => o.id == id && p o) = false := by
 simp only [List.mem_map, not_exists, not_and] at hm
 rw [List.any_eq_false]
 intro x hx
 simp [hm x hx]
end Go.Proofs.YthfagcdjbmhhcaaGreat
namespace Go.Proofs.YthfagcdjbmhhcaaGreat
open Go.RowKit
attribute [local irreducible] wpQuiet
theorem XM.blkw {w w0 w1 : World} {X C : Nat} {p o q v1 v2 v3 : Value} {g : Gr} {b : Bk} {ob : Obj} (h : XM w0 w1 X p o q v1 v2 v3 g b) (k : Gro w w0) (hC : w.heap[C]? = some ob) : w1.heap[C]? = some ob :=
 h.kept.blk (k.blk hC) (by have := blk_lt hC; have := k.size; show ¬ (w0.heap.size ≤ C); omega)
set_option maxHeartbeats 4000000 in
theorem do69 {w : World} {C1 C2 : Nat} {id party : Int} {v1 v2 v3 : Value} {g : Gr} {b : Bk} (hC1 : w.heap[C1]? = some (.cells #[.int .i64 id] 3 (0, 0))) (hC2 : w.heap[C2]? = some (.cells #[.int .i64 party] 3 (0, 0))) (hf : Fits g b) (hv : VB g b) :
  Does w 69 #[.pointer (some ⟨C1, 0, none⟩), .pointer (some ⟨C2, 0, none⟩)] v1 v2 v3 g b (doW b party id) := by
 intro w0 w1 X p o q k0 hx
 have hmix := mixed
 have hb1 := hx.blkw k0 hC1
 have hb2 := hx.blkw k0 hC2
 clear hC1 hC2 k0
 have cc1 := box_cell hb1
 have hl1 := World.block_lt_of_cell? w1 _ cc1
 have ho := openF70 (hx.at_ hf.bfew) hf.bfew hv.ao id
 have hp := posI_is hv.ao id
 generalize posI (b.os.map Ofr.id) id = i at ho hp
 obtain ⟨ao, co, rfl⟩ := hx.os.form
 have HO := yy ho
 have HX := yy hx
 have HA := yy hv.ao
 have HF := yy hf
 have HB2 := yy hb2
 have fo := hf.bfew.os
 clear ho hv hb1 hb2
 by_cases hm : id ∈ b.os.map Ofr.id
 ·obtain ⟨hi, he, hop, _⟩ := found_at HA.out hp hm
  have hr : doW b party id = if (b.os[i].state == 1 && b.os[i].party == party) = true then some (closeAt b i hi 2) else none := by
   have := any_at HA.out hi he (fun o => o.state == 1 && o.party == party)
   simp only [← Bool.and_assoc] at this
   simp only [doW, this]
   rw [closeAt_eq HA.out i hi, he]
  rw [hop] at HO
  have HR := yy hr
  clear hr hp hm hop hf
  obtain ⟨go, co', e1, _, _⟩ := hx.os.formI hi
  injection e1 with e1 _ e2
  subst e1 e2
  clear hx
  go_enter Tryz.func69, Tryz.ntmps69
  go_wp2_with fail
  refine HO.out.mono ?_
  rintro e w2 ⟨rfl, k1⟩
  have hx2 := HX.out.gro k1
  obtain ⟨_, _, x2, _, _, _, _⟩ := (hx2.at_ HF.out.bfew).cells
  have e2 := gcell x2
  have e3 := gcell (box_cell (k1.blk HB2.out))
  have e4 : ∀ n os, (Go.Sort.grow (w2.drewN n) os).cell? ⟨go, i * 7 + 1, none⟩ = some (.int .i64 b.os[i].party) := gcell (hx2.os.cells (by have := flat_get b.os i hi 1 (by decide); exact this))
  have hlX := World.block_lt_of_cell? w2 _ x2
  have hlo := World.block_lt_of_cell? w2 _ (hx2.os.cells (i := i * 7 + 1) (by have := flat_get b.os i hi 1 (by decide); exact this))
  have HX2 := yy hx2
  clear hx2 x2 k1 HX HB2 HO cc1 hl1
  by_cases hst : b.os[i].state = 1
  ·have hst' : (b.os[i].state == 1) = true := by simpa using hst
   rw [hst']
   simp only [hst', Bool.true_and] at HR
   clear hst hst'
   by_cases hpt : b.os[i].party = party
   ·have hpt' : (b.os[i].party == party) = true := by simpa using hpt
    rw [if_pos hpt'] at HR
    have hne : (b.os[i].party != party) = false := by simp [hpt]
    clear hpt'
    go_wp2_with fail
    go_quiet_grown (fail)
    have hx3 := HX2.out.gro (gro_of_grow w2 nq osq)
    dsimp only at hx3 ⊢
    clear HX2 e2 e3 e4 hlX hlo
    generalize Go.Sort.grow (w2.drewN nq) osq = w3 at hx3 ⊢
    have HC := yy (close71 hx3 HF.out.bfew i hi 2)
    clear hx3
    go_wp2_with fail
    refine HC.out.mono ?_
    rintro e w4 ⟨rfl, q', hx4⟩
    have HX4 := yy hx4
    clear hx4 HC
    go_wp2_with fail
    go_ret
    exact .inr ⟨_, _, _, _, HR.out, rfl, HX4.out⟩
   have hpt' : (b.os[i].party == party) = false := by simpa using hpt
   rw [if_neg (by simp [hpt])] at HR
   have hne : (b.os[i].party != party) = true := by simp [hpt]
   clear hpt'
   go_wp2_with fail
   go_quiet_grown (fail)
   have hx3 := HX2.out.gro (gro_of_grow w2 nq osq)
   dsimp only at hx3 ⊢
   clear HX2 e2 e3 e4 hlX hlo
   generalize Go.Sort.grow (w2.drewN nq) osq = w3 at hx3 ⊢
   have HX4 := yy hx3
   clear hx3
   go_wp2_with fail
   go_ret
   exact .inl ⟨HR.out, rfl, HX4.out.kept⟩
  have hst' : (b.os[i].state == 1) = false := by simpa using hst
  rw [hst']
  simp only [hst', Bool.false_and, Bool.false_eq_true, if_false] at HR
  clear hst hst'
  clear e2 e3 e4 hlX hlo
  go_wp2_with fail
  go_quiet_grown (fail)
  have hx3 := HX2.out.gro (gro_of_grow w2 nq osq)
  dsimp only at hx3 ⊢
  generalize Go.Sort.grow (w2.drewN nq) osq = w3 at hx3 ⊢
  have HX4 := yy hx3
  clear hx3
  go_wp2_with fail
  go_ret
  exact .inl ⟨HR.out, rfl, HX4.out.kept⟩
 have hr : doW b party id = none := by
  have := any_none hm (fun o => o.state == 1 && o.party == party)
  simp only [← Bool.and_assoc] at this
  simp only [doW, this, Bool.false_eq_true, if_false]
 rw [(not_found hm).1] at HO
 have HR := yy hr
 clear hr hp hm hf hx
 go_enter Tryz.func69, Tryz.ntmps69
 go_wp2_with fail
 refine HO.out.mono ?_
 rintro e w2 ⟨rfl, k1⟩
 have HX2 := yy (HX.out.gro k1)
 clear k1 HX HB2 HO cc1 hl1
 go_wp2_with fail
 go_quiet_grown (fail)
 have hx3 := HX2.out.gro (gro_of_grow w2 nq osq)
 dsimp only at hx3 ⊢
 generalize Go.Sort.grow (w2.drewN nq) osq = w3 at hx3 ⊢
 have HX4 := yy hx3
 clear hx3
 go_wp2_with fail
 go_ret
 exact .inl ⟨HR.out, rfl, HX4.out.kept⟩
end Go.Proofs.YthfagcdjbmhhcaaGreat
namespace Go.Proofs.YthfagcdjbmhhcaaGreat
open Go.RowKit
attribute [local irreducible] wpQuiet
theorem delAt_filter {l : List Wsh} (ha : (l.map Wsh.edge).Pairwise (· < ·)) {i : Nat} (hi : i < l.length) : delAt l i = l.filter fun w => !(w.edge == l[i].edge) := by
 have e : l = l.take i ++ l[i] :: l.drop (i + 1) := by simp
 have h1 : ∀ j (hj : j < l.length), j ≠ i → l[j].edge ≠ l[i].edge := by
  intro j hj hne
  rcases Nat.lt_trichotomy j i with h | h | h
  ·have := lt_of_pair ha (by simpa using hj) (by simpa using hi) h
   simp only [List.getElem_map] at this; omega
  ·exact absurd h hne
  have := lt_of_pair ha (by simpa using hi) (by simpa using hj) h
  simp only [List.getElem_map] at this; omega
 unfold delAt
 have g1 : (l.take i).filter (fun w => !(w.edge == l[i].edge)) = l.take i := by
  rw [List.filter_eq_self]
  intro a ha'
  obtain ⟨j, hj, rfl⟩ := List.getElem_of_mem ha'
  have hj' : j < i ∧ j < l.length := by rw [List.length_take] at hj; omega
  have := h1 j hj'.2 (by omega)
  simpa [List.getElem_take] using this
 have g2 : (l.drop (i + 1)).filter (fun w => !(w.edge == l[i].edge)) = l.drop (i + 1) := by
  rw [List.filter_eq_self]
  intro a ha'
  obtain ⟨j, hj, rfl⟩ := List.getElem_of_mem ha'
  have hj' : j < l.length - (i + 1) := by simpa using hj
  have := h1 (i + 1 + j) (by omega) (by omega)
  simpa [List.getElem_drop] using this
 have g3 : ∀ (m : List Wsh), m = l.take i ++ l[i] :: l.drop (i + 1) → m.filter (fun w => !(w.edge == l[i].edge)) = l.take i ++ l.drop (i + 1) := by
  intro m hm
  rw [hm, List.filter_append, g1, List.filter_cons]
  simp [g2]
 exact (g3 l e).symm
theorem hasW_iff {b : Bk} {e : Int} : hasW b e = decide (e ∈ b.ws.map Wsh.edge) := by
 rw [Bool.eq_iff_iff]
 simp [hasW]
/-- a cell of the book's own is written -/
theorem XM.setOs {w0 w w' : World} {X : Nat} {p o o' q v1 v2 v3 : Value} {g : Gr} {b : Bk} {os' : List Ofr} (h : XM w0 w X p o q v1 v2 v3 g b) (ho : OwnL w' w0.heap.size o' os') (k : Kept (ownF o) w w') :
  XM w0 (w'.setCell ⟨X, 2, none⟩ o') X p o' q v1 v2 v3 g { b with os := os' } := by
 have hX := k.blk h.blk (own_far h.os h.blk (by decide))
 have hp := h.ps.kept k (own_far2 h.os h.ps (by decide))
 have hws := h.ws.kept k (own_far2 h.os h.ws (by decide))
 have kk : Kept (· = X) w' (w'.setCell ⟨X, 2, none⟩ o') := (Kept.refl (· = X) w').setCell (p := ⟨X, 2, none⟩) (.inl rfl) o'
 have far : ∀ {β : Type} [Rec β] {v : Value} {l : List β}, OwnL w' w0.heap.size v l → 103 ≠ Rec.ty β → ∀ j, v.ownBlock = some j → ¬ (j = X) := by
  intro β _ v l hh hn j hj e
  subst e
  obtain ⟨_, _, cur, hc⟩ := hh.block hj
  exact blk_ne hX hc hn rfl
 refine ⟨?_, hp.kept kk (far hp (by decide)), ho.kept kk (far ho (by decide)), hws.kept kk (far hws (by decide)), h.lo, ?_, h.gr⟩
 ·have := blk_set hX 2 o'
  simpa using this
 exact (h.kept.trans' k (fun i hi => .inl (h.os.block hi).1)).trans' kk (fun i hi => .inl (by subst hi; exact h.lo))
set_option maxHeartbeats 4000000 in
theorem do77 {w : World} {C : Nat} {id : Int} {v1 v2 v3 : Value} {g : Gr} {b : Bk} (hC : w.heap[C]? = some (.cells #[.int .i64 id] 3 (0, 0))) (hf : Fits g b) (hv : VB g b) :
  Does w 77 #[.pointer (some ⟨C, 0, none⟩)] v1 v2 v3 g b (doDrop b id) := by
 intro w0 w1 X p o q k0 hx
 have hmix := mixed
 have hb1 := hx.blkw k0 hC
 clear hC k0
 have e1 := gcell (box_cell hb1)
 have hl1 := blk_lt hb1
 have hfw := hf.bfew.ws
 obtain ⟨aq, cq, hlv, hlq⟩ := (hx.at_ hf.bfew).ws
 subst hlv
 have HP : Hid (∀ W, Gro w1 W → Calls Tryz.prog 74 #[.slice aq b.ws.length cq, .int .i64 id, .func (.func 75) #[] #[]] W fun e w' => e = .returned (.tuple #[.int .i64 (posI (b.ws.map Wsh.edge) id), .bool (hasW b id)]) ∧ Gro W w') := yy fun W hW => by
  rw [hasW_iff]
  exact placeF74 (hlq.gro hW) (by omega) id hv.aw
 have hp := posI_is hv.aw id
 generalize posI (b.ws.map Wsh.edge) id = i at HP hp
 obtain ⟨_, _, _, x3, _, _, _⟩ := (hx.at_ hf.bfew).cells
 have e3 := gcell x3
 have hlX := World.block_lt_of_cell? w1 _ x3
 have HX := yy hx
 have HF := yy hf
 clear hb1 hx x3 hlq
 by_cases hm : id ∈ b.ws.map Wsh.edge
 ·obtain ⟨hi', he⟩ := (hp.found hv.aw).1 hm
  have hi : i < b.ws.length := by simpa using hi'
  simp only [List.getElem_map] at he
  have hh : hasW b id = true := by rw [hasW_iff]; exact decide_eq_true hm
  have hr : doDrop b id = some { b with ws := delAt b.ws i } := by
   unfold doDrop
   rw [if_pos hh, delAt_filter hv.aw hi, he]
  rw [hh] at HP
  have HR := yy hr
  clear hp hm hi' he hh hr hf hv
  go_enter Tryz.func77, Tryz.ntmps77
  go_wp2_with fail
  go_quiet_grown ((go_at_call 74; exact Calls.quiet_gro (HP.out _ (gro_of_grow _ _ _))))
  have hx3 := HX.out.gro (gro_of_grow w1 nq osq)
  dsimp only at hx3 ⊢
  clear HX e1 e3 hlX hl1 HP
  generalize Go.Sort.grow (w1.drewN nq) osq = w3 at hx3 ⊢
  obtain ⟨_, _, _, x3, _, _, _⟩ := (hx3.at_ HF.out.bfew).cells
  have hlX := World.block_lt_of_cell? w3 _ x3
  have hD := del78 hx3.ws hfw i hi
  have HD := yy hD
  have HX := yy hx3
  clear hx3 hD
  have hw1 : (i : Int) + 1 ≤ 9223372036854775807 := by omega
  go_wp2_with fail
  refine HD.out.mono ?_
  rintro e w4 ⟨q', rfl, hown, hk, _⟩
  have hX4 := hk.blk HX.out.blk (own_far HX.out.ws HX.out.blk (by decide))
  have d3 := blk_cell hX4 3
  have hd3 := blk_frozen hX4 3
  have hfin : XM w0 (w4.setCell ⟨X, 3, none⟩ q') X p o q' v1 v2 v3 g { b with ws := delAt b.ws i } := XM.setWs HX.out hown hk
  obtain ⟨aq', cq', hq'⟩ := hown.form
  generalize (delAt b.ws i).length = nq' at hq'
  subst hq'
  have HFI := yy hfin
  clear HX hown hk hX4 hfin x3 hlX HD
  simp only [List.getElem?_toArray, List.getElem?_cons_succ, List.getElem?_cons_zero] at d3
  have hl3 := World.block_lt_of_cell? w4 _ d3
  go_wp2_with fail
  go_ret
  exact .inr ⟨_, _, _, _, HR.out, rfl, HFI.out⟩
 have hh : hasW b id = false := by rw [hasW_iff]; exact decide_eq_false hm
 have hr : doDrop b id = none := by
  unfold doDrop
  rw [if_neg (by simp [hh])]
 rw [hh] at HP
 have HR := yy hr
 clear hp hm hh hr hf hv
 go_enter Tryz.func77, Tryz.ntmps77
 go_wp2_with fail
 go_quiet_grown ((go_at_call 74; exact Calls.quiet_gro (HP.out _ (gro_of_grow _ _ _))))
 have hx3 := HX.out.gro (gro_of_grow w1 nq osq)
 dsimp only at hx3 ⊢
 clear HX e1 e3 hlX hl1 HP
 generalize Go.Sort.grow (w1.drewN nq) osq = w3 at hx3 ⊢
 have HX4 := yy hx3
 clear hx3
 go_wp2_with fail
 go_ret
 exact .inl ⟨HR.out, rfl, HX4.out.kept⟩
end Go.Proofs.YthfagcdjbmhhcaaGreat
namespace Go.Proofs.YthfagcdjbmhhcaaGreat
open Go.RowKit
attribute [local irreducible] wpQuiet
set_option maxHeartbeats 8000000 in
set_option maxRecDepth 100000 in
theorem do73 {w : World} {C : Nat} {x : Wsh} {v1 v2 v3 : Value} {g : Gr} {b : Bk} (hC : w.heap[C]? = some (.cells #[.int .i64 x.edge, .int .i64 x.src, .int .i64 x.dst, .int .i64 x.weight] 32 (0, 0))) (hf : Fits g b) (hv : VB g b) :
  Does w 73 #[.pointer (some ⟨C, 0, none⟩)] v1 v2 v3 g b (doWant b x) := by
 obtain ⟨xedge, xsrc, xdst, xweight⟩ := x
 intro w0 w1 X p o q k0 hx
 have hmix := mixed
 have hb1 := hx.blkw k0 hC
 have hClow : C < w0.heap.size := Nat.lt_of_lt_of_le (blk_lt hC) k0.size
 clear hC k0
 have e1 := blk_cell hb1 0
 simp only [lPa, lPb, lPc] at e1
 have e1 := gcell e1
 have hl1 := blk_lt hb1
 have hfw := hf.bfew.ws
 obtain ⟨aq, cq, hlv, hlq⟩ := (hx.at_ hf.bfew).ws
 subst hlv
 have HP : Hid (∀ W, Gro w1 W → Calls Tryz.prog 74 #[.slice aq b.ws.length cq, .int .i64 xedge, .func (.func 75) #[] #[]] W fun e w' => e = .returned (.tuple #[.int .i64 (posI (b.ws.map Wsh.edge) xedge), .bool (hasW b xedge)]) ∧ Gro W w') := yy fun W hW => by
  rw [hasW_iff]
  exact placeF74 (hlq.gro hW) (by omega) xedge hv.aw
 have hp := posI_is hv.aw xedge
 generalize posI (b.ws.map Wsh.edge) xedge = i at HP hp
 have hi : i ≤ b.ws.length := by simpa using hp.le
 have hins : insAt b.ws i ⟨xedge, xsrc, xdst, xweight⟩ = ins Wsh.edge ⟨xedge, xsrc, xdst, xweight⟩ b.ws := insAt_ins Wsh.edge _ _ _ hp
 obtain ⟨_, _, _, x3, _, _, _⟩ := (hx.at_ hf.bfew).cells
 have e3 := gcell x3
 have hlX := World.block_lt_of_cell? w1 _ x3
 have hr : doWant b ⟨xedge, xsrc, xdst, xweight⟩ = if hasW b xedge = true then none else some { b with ws := insAt b.ws i ⟨xedge, xsrc, xdst, xweight⟩ } := by rw [hins]; rfl
 generalize hasW b xedge = hb at HP hr
 have HX := yy hx
 have HF := yy hf
 have HR := yy hr
 have HB1 := yy hb1
 clear hb1 hx x3 hlq hp hins hf hv hr
 go_enter Tryz.func73, Tryz.ntmps73
 go_wp2_with fail
 go_quiet_grown ((go_at_call 74; exact Calls.quiet_gro (HP.out _ (gro_of_grow _ _ _))))
 have hx3 := HX.out.gro (gro_of_grow w1 nq osq)
 have bc := (gro_of_grow w1 nq osq).blk HB1.out
 dsimp only at hx3 bc ⊢
 clear HX e1 e3 hlX hl1 HP HB1
 generalize Go.Sort.grow (w1.drewN nq) osq = w3 at hx3 bc ⊢
 have HX3 := yy hx3
 have BC := yy bc
 clear hx3 bc
 go_wp2_with fail
 refine wp_region_held_drew (S := (fun w' => w'.heap[C]? = some (.cells #[.int .i64 xedge, .int .i64 xsrc, .int .i64 xdst, .int .i64 xweight] 32 (0, 0)))) (by kernel_rfl) BC.out (fun hHeld => ?_)
 have hxd := HX3.out.gro ((Gro.refl w3).drew)
 have BD := yy (show w3.drew.heap[C]? = some (.cells #[.int .i64 xedge, .int .i64 xsrc, .int .i64 xdst, .int .i64 xweight] 32 (0, 0)) from BC.out)
 clear HX3 BC
 generalize w3.drew = wd at hxd BD hHeld ⊢
 have hCd := hHeld
 obtain ⟨WE, hWE⟩ : ∃ WE, WE = wd.alloc (.cells #[.int .i64 xedge, .int .i64 xsrc, .int .i64 xdst, .int .i64 xweight] 32) := ⟨_, rfl⟩
 have kE : Gro wd WE := by rw [hWE]; exact (Gro.refl _).alloc _
 have bE : WE.heap[wd.heap.size]? = some (.cells #[.int .i64 xedge, .int .i64 xsrc, .int .i64 xdst, .int .i64 xweight] 32 (0, 0)) := by rw [hWE]; exact blk_new _ _
 have hxE := hxd.gro kE
 have hSE : WE.heap[C]? = some (.cells #[.int .i64 xedge, .int .i64 xsrc, .int .i64 xdst, .int .i64 xweight] 32 (0, 0)) := kE.blk hCd
 have hbase : w0.heap.size ≤ WE.heap.size := Nat.le_trans hxE.lo (Nat.le_of_lt (blk_lt hxE.blk))
 have hIN := ins76 (hxE.ws) hbase (by have := HF.out.bfew.ws; omega) i hi ⟨xedge, xsrc, xdst, xweight⟩ wd.heap.size bE (by intro e; have := (hxd.ws.block e).2.1; omega)
 obtain ⟨x0, x1, x2, x3, _, _, _⟩ := (hxd.at_ HF.out.bfew).cells
 have hlX := blk_lt hxd.blk
 obtain ⟨_, _, y2, y3, _, _, _⟩ := (hxE.at_ HF.out.bfew).cells
 have hlXE := blk_lt hxE.blk
 have hlC := blk_lt hCd
 have HIN := yy hIN
 have HXE := yy hxE
 have HWE := yy hWE
 have hszE : WE.heap.size = wd.heap.size + 1 := by rw [hWE]; exact asz _ _
 have hcd := blk_cell hCd
 have hce := blk_cell hSE
 have cd0 := hcd 0
 have ce0 := hce 0
 have cd1 := hcd 1
 have ce1 := hce 1
 have cd2 := hcd 2
 have ce2 := hce 2
 have cd3 := hcd 3
 have ce3 := hce 3
 simp only [lPa, lPb, lPc] at cd0 ce0 cd1 ce1 cd2 ce2 cd3 ce3
 clear hcd hce hIN hWE kE bE hxd hxE hbase BD
 refine tkH 0 rfl (by intro w hSw; go_simp; try with_reducible rfl) hHeld ?_
 refine nx ?_
 refine tkH 1 rfl (by intro w hSw; go_simp; try with_reducible rfl) hHeld ?_
 refine nx ?_
 refine tkH 2 rfl (by intro w hSw; go_simp; try with_reducible rfl) hHeld ?_
 refine nx ?_
 refine tkH 3 rfl (by intro w hSw; go_simp; try with_reducible rfl) hHeld ?_
 refine nx ?_
 refine tkH 4 rfl (by intro w hSw; go_simp; try with_reducible rfl) hHeld ?_
 refine nx ?_
 refine tkH 6 rfl (by intro w hSw; go_simp; try with_reducible rfl) hHeld ?_
 refine nx ?_
 refine tkH 7 rfl (by intro w hSw; obtain ⟨cb0, cb1, cb2, cb3, cbl⟩ := cells4 hSw; clear hSw; go_simp; try with_reducible rfl) hHeld ?_
 refine nx ?_
 refine wpAnyH_ready (rs := [5, 8]) (by kernel_rfl) (by simp) ?_
 refine AllReadyH.cons (i := 5) rfl (fun K hK => ?_) (AllReadyH.cons (i := 8) rfl (fun K hK => ?_) AllReadyH.nil)
 ·go_simp
  refine hK.out _ _ hCd (fun hHeld => ?_)
  clear hK K
  try refine nx ?_
  refine wpAnyH_ready (rs := [8]) (by kernel_rfl) (by simp) ?_
  refine AllReadyH.cons (i := 8) rfl (fun K hK => ?_) AllReadyH.nil
  go_simp
  rw [← HWE.out]
  refine hK.out _ _ hSE (fun hHeld => ?_)
  clear hK K
  try refine nx ?_
  refine wpAnyH_ready (rs := [9]) (by kernel_rfl) (by simp) ?_
  refine AllReadyH.cons (i := 9) rfl (fun K hK => ?_) AllReadyH.nil
  go_simp
  refine HIN.out.mono ?_
  rintro e w5 ⟨v', rfl, hown, hk, _⟩
  have hS5 : w5.heap[C]? = some (.cells #[.int .i64 xedge, .int .i64 xsrc, .int .i64 xdst, .int .i64 xweight] 32 (0, 0)) := hk.blk hSE (by intro e; have h1 := (HXE.out.ws.block e).1; have h2 := hClow; omega)
  have hX5 := hk.blk HXE.out.blk (own_far HXE.out.ws HXE.out.blk (by decide))
  have d5 := blk_cell hX5 3
  have z5 := blk_frozen hX5 3
  have hl5 := blk_lt hX5
  simp only [lPa, lPb, lPc] at d5
  obtain ⟨s5, c5, hs5⟩ := hown.form
  generalize (insAt _ i _).length = n5 at hs5
  subst hs5
  have HFI := yy (XM.setWs HXE.out hown hk)
  clear hown hk hX5
  refine hK.out _ _ hS5 (fun hHeld => ?_)
  clear hK K
  try refine nx ?_
  refine tkH 10 rfl (by intro w hSw; go_simp; try with_reducible rfl) hHeld ?_
  refine nx ?_
  refine tkH 11 rfl (by intro w hSw; go_simp; try with_reducible rfl) hHeld ?_
  refine nx ?_
  refine tkH 12 rfl (by intro w hSw; go_simp; try with_reducible rfl) hHeld ?_
  refine nx ?_
  refine wpAnyH_ready (rs := [13]) (by kernel_rfl) (by simp) ?_
  refine AllReadyH.cons (i := 13) rfl (fun K hK => ?_) AllReadyH.nil
  go_simp
  refine hK.out _ _ (blk_far hS5 (by intro e; have h2 := hClow; have h3 := HXE.out.lo; simp only at e; omega) _) (fun hHeld => ?_)
  clear hK K
  try refine nx ?_
  refine wpAnyH_done (by kernel_rfl) ?_ _
  clear HXE HIN HWE hS5 hSE hCd z5 d5 hl5
  cases hb with
  | false =>
   go_wp2_with fail
   go_ret
   exact .inr ⟨_, _, _, _, HR.out, rfl, HFI.out⟩
  | true =>
  go_wp2_with fail
  go_ret
  exact .inl ⟨HR.out, rfl, HFI.out.kept⟩
 go_simp
 rw [← HWE.out]
 refine hK.out _ _ hSE (fun hHeld => ?_)
 clear hK K
 try refine nx ?_
 refine wpAnyH_ready (rs := [5]) (by kernel_rfl) (by simp) ?_
 refine AllReadyH.cons (i := 5) rfl (fun K hK => ?_) AllReadyH.nil
 go_simp
 refine hK.out _ _ hSE (fun hHeld => ?_)
 clear hK K
 try refine nx ?_
 refine wpAnyH_ready (rs := [9]) (by kernel_rfl) (by simp) ?_
 refine AllReadyH.cons (i := 9) rfl (fun K hK => ?_) AllReadyH.nil
 go_simp
 refine HIN.out.mono ?_
 rintro e w5 ⟨v', rfl, hown, hk, _⟩
 have hS5 : w5.heap[C]? = some (.cells #[.int .i64 xedge, .int .i64 xsrc, .int .i64 xdst, .int .i64 xweight] 32 (0, 0)) := hk.blk hSE (by intro e; have h1 := (HXE.out.ws.block e).1; have h2 := hClow; omega)
 have hX5 := hk.blk HXE.out.blk (own_far HXE.out.ws HXE.out.blk (by decide))
 have d5 := blk_cell hX5 3
 have z5 := blk_frozen hX5 3
 have hl5 := blk_lt hX5
 simp only [lPa, lPb, lPc] at d5
 obtain ⟨s5, c5, hs5⟩ := hown.form
 generalize (insAt _ i _).length = n5 at hs5
 subst hs5
 have HFI := yy (XM.setWs HXE.out hown hk)
 clear hown hk hX5
 refine hK.out _ _ hS5 (fun hHeld => ?_)
 clear hK K
 try refine nx ?_
 refine tkH 10 rfl (by intro w hSw; go_simp; try with_reducible rfl) hHeld ?_
 refine nx ?_
 refine tkH 11 rfl (by intro w hSw; go_simp; try with_reducible rfl) hHeld ?_
 refine nx ?_
 refine tkH 12 rfl (by intro w hSw; go_simp; try with_reducible rfl) hHeld ?_
 refine nx ?_
 refine wpAnyH_ready (rs := [13]) (by kernel_rfl) (by simp) ?_
 refine AllReadyH.cons (i := 13) rfl (fun K hK => ?_) AllReadyH.nil
 go_simp
 refine hK.out _ _ (blk_far hS5 (by intro e; have h2 := hClow; have h3 := HXE.out.lo; simp only at e; omega) _) (fun hHeld => ?_)
 clear hK K
 try refine nx ?_
 refine wpAnyH_done (by kernel_rfl) ?_ _
 clear HXE HIN HWE hS5 hSE hCd z5 d5 hl5
 cases hb with
 | false =>
  go_wp2_with fail
  go_ret
  exact .inr ⟨_, _, _, _, HR.out, rfl, HFI.out⟩
 | true =>
 go_wp2_with fail
 go_ret
 exact .inl ⟨HR.out, rfl, HFI.out.kept⟩
end Go.Proofs.YthfagcdjbmhhcaaGreat
namespace Go.Proofs.YthfagcdjbmhhcaaGreat
open Go.RowKit
attribute [local irreducible] wpQuiet
theorem flat_setO : ∀ (ys : List Ofr) (i : Nat) (x : Ofr), i < ys.length → flat (ys.set i x) = (((((((flat ys).set (i * 7) (.int .i64 x.id)).set (i * 7 + 1) (.int .i64 x.party)).set (i * 7 + 2) (.int .i64 x.side)).set (i * 7 + 3) (.int .i64 x.place)).set (i * 7 + 4) (.int .i64 x.price)).set (i * 7 + 5) (.int .i64 x.until_)).set (i * 7 + 6) (.int .i64 x.state)
 | [], i, x, h => by simp at h
 | y :: ys, 0, x, _ => by simp [flat, Rec.cs]
 | y :: ys, i + 1, x, h => by
  have ih := flat_setO ys i x (by simpa using h)
  have e : (i + 1) * 7 = i * 7 + 7 := by omega
  rw [List.set_cons_succ, flat_cons, ih, flat_cons, e]
  simp [Rec.cs]
/-- the world after an offer's seven fields are written -/
def put7 (w : World) (g i : Nat) (x : Ofr) : World :=
 ((((((w.setCell ⟨g, i * 7, none⟩ (.int .i64 x.id)).setCell ⟨g, i * 7 + 1, none⟩ (.int .i64 x.party)).setCell ⟨g, i * 7 + 2, none⟩ (.int .i64 x.side)).setCell ⟨g, i * 7 + 3, none⟩ (.int .i64 x.place)).setCell ⟨g, i * 7 + 4, none⟩ (.int .i64 x.price)).setCell ⟨g, i * 7 + 5, none⟩ (.int .i64 x.until_)).setCell ⟨g, i * 7 + 6, none⟩ (.int .i64 x.state)
theorem kept7 {F : Nat → Prop} {w0 w : World} (h : Kept F w0 w) {g : Nat} (hg : F g ∨ w0.heap.size ≤ g) (i : Nat) (x : Ofr) : Kept F w0 (put7 w g i x) :=
 ((((((h.setCell (p := ⟨g, i * 7, none⟩) hg _).setCell (p := ⟨g, i * 7 + 1, none⟩) hg _).setCell (p := ⟨g, i * 7 + 2, none⟩) hg _).setCell (p := ⟨g, i * 7 + 3, none⟩) hg _).setCell (p := ⟨g, i * 7 + 4, none⟩) hg _).setCell (p := ⟨g, i * 7 + 5, none⟩) hg _).setCell (p := ⟨g, i * 7 + 6, none⟩) hg _
theorem OwnL.raw {w : World} {base g n cap : Nat} {l : List Ofr} (h : OwnL w base (.slice (some ⟨g, 0, none⟩) n cap) l) :
  n = l.length ∧ ∃ cur, base ≤ g ∧ w.heap[g]? = some (.cells cur (Rec.ty Ofr) (0, 0)) ∧ n ≤ cap ∧ cap ≤ maxLen ∧ cur.size = cap * Rec.k Ofr ∧ cur.toList.take (n * Rec.k Ofr) = flat l := by
 rcases h.2 with ⟨h0, _⟩ | ⟨g', cap', cur, h0, a1, a2, a3, a4, a5, a6⟩
 ·cases h0
 injection h0 with e1 e2 e3
 injection e1 with e1
 injection e1 with e1 _ _
 subst e1 e3 e2
 exact ⟨rfl, cur, a1, a2, a3, a4, a5, a6⟩
theorem OwnL.put7 {w : World} {base g n cap : Nat} {l : List Ofr} (h : OwnL w base (.slice (some ⟨g, 0, none⟩) n cap) l) (i : Nat) (hi : i < l.length) (x : Ofr) :
  OwnL (put7 w g i x) base (.slice (some ⟨g, 0, none⟩) n cap) (l.set i x) := by
  obtain ⟨rfl, cur, a1, a2, a3, a4, a5, a6⟩ := h.raw
  have a6' : cur.toList.take (l.length * 7) = flat l := a6
  obtain ⟨cur', hc', hl', hs'⟩ : ∃ cur', (Go.Proofs.YthfagcdjbmhhcaaGreat.put7 w g i x).heap[g]? = some (.cells cur' (Rec.ty Ofr) (0, 0)) ∧ cur'.toList = (((((((cur.toList).set (i * 7) (.int .i64 x.id)).set (i * 7 + 1) (.int .i64 x.party)).set (i * 7 + 2) (.int .i64 x.side)).set (i * 7 + 3) (.int .i64 x.place)).set (i * 7 + 4) (.int .i64 x.price)).set (i * 7 + 5) (.int .i64 x.until_)).set (i * 7 + 6) (.int .i64 x.state) ∧ cur'.size = cur.size := by
   unfold Go.Proofs.YthfagcdjbmhhcaaGreat.put7
   exact ⟨_, blk_set (blk_set (blk_set (blk_set (blk_set (blk_set (blk_set a2 _ _) _ _) _ _) _ _) _ _) _ _) _ _, by simp only [Array.toList_setIfInBounds], by simp only [Array.size_setIfInBounds]⟩
  refine ⟨by rw [flat_length, List.length_set], .inr ⟨g, cap, cur', by rw [List.length_set], a1, hc', by rw [List.length_set]; exact a3, a4, by rw [hs']; exact a5, ?_⟩⟩
  rw [flat_setO l i x hi, List.length_set, hl', ← a6']
  show List.take (l.length * 7) _ = _
  simp only [List.take_set]
theorem XM.put7 {w0 w : World} {X : Nat} {p q v1 v2 v3 : Value} {go co : Nat} {g : Gr} {b : Bk} (h : XM w0 w X p (.slice (some ⟨go, 0, none⟩) b.os.length co) q v1 v2 v3 g b) (i : Nat) (hi : i < b.os.length) (x : Ofr) :
  XM w0 (put7 w go i x) X p (.slice (some ⟨go, 0, none⟩) b.os.length co) q v1 v2 v3 g { b with os := b.os.set i x } := by
 obtain ⟨hgo, hgl, cur, hgb⟩ := h.os.block (k := go) rfl
 have kk : Kept (· = go) w (Go.Proofs.YthfagcdjbmhhcaaGreat.put7 w go i x) := kept7 (Kept.refl (· = go) w) (.inl rfl) i x
 have far : ∀ {β : Type} [Rec β] {v : Value} {l : List β}, OwnL w w0.heap.size v l → Rec.ty Ofr ≠ Rec.ty β → ∀ j, v.ownBlock = some j → ¬ (j = go) := by
  intro β _ v l hh hn j hj e
  subst e
  obtain ⟨_, _, cur', hc⟩ := hh.block hj
  exact blk_ne hgb hc hn rfl
 have hX := kk.blk h.blk (by intro e; subst e; exact blk_ne hgb h.blk (by decide) rfl)
 refine ⟨hX, h.ps.kept kk (far h.ps (by decide)), h.os.put7 i hi x, h.ws.kept kk (far h.ws (by decide)), h.lo, ?_, h.gr⟩
 exact h.kept.trans' kk (fun j hj => .inl (by subst hj; exact hgo))
theorem putO_at {b : Bk} (ha : (b.os.map Ofr.id).Pairwise (· < ·)) {i : Nat} (hi : i < b.os.length) (x : Ofr) (he : b.os[i].id = x.id) : putO x b.os = b.os.set i x := by
 have h1 : (b.os.any fun y => y.id == x.id) = true := by
  rw [List.any_eq_true]
  exact ⟨_, List.getElem_mem hi, by simp [he]⟩
 unfold putO
 rw [if_pos h1]
 have := set_eq_map (f := fun y => if y.id = x.id then x else y) b.os i hi (fun j hj hne => by
  rw [if_neg (fun e => hne (eq_of_asc ha hj hi (by rw [e, he])))])
 rw [← this]
 simp [he]
theorem putO_new {b : Bk} (x : Ofr) (hm : x.id ∉ b.os.map Ofr.id) : putO x b.os = ins Ofr.id x b.os := by
 unfold putO
 rw [if_neg]
 intro h
 rw [List.any_eq_true] at h
 obtain ⟨y, hy, e⟩ := h
 exact hm (List.mem_map.2 ⟨y, hy, by simpa using e⟩)
end Go.Proofs.YthfagcdjbmhhcaaGreat
