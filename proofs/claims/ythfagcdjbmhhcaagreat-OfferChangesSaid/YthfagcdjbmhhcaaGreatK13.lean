/- Add, Withdraw, Want, Drop, Next, Take. appends: whatever lies in the source; onto a slice without room; what no store into a struct of slices can turn. insertion at the first place that is not less; a row of one. -/
import Derived.Test.YthfagcdjbmhhcaaGreatK12
import Derived.Test.YthfagcdjbmhhcaaGreatK01
import Derived.Test.YthfagcdjbmhhcaaGreatK09
set_option linter.unusedVariables false
set_option linter.unusedSimpArgs false
namespace Go.Proofs.YthfagcdjbmhhcaaGreat
open Go.RowKit
attribute [local irreducible] wpQuiet
theorem LV.far {α : Type} [Rec α] {w w' : World} {v : Value} {l : List α} {T : Nat} {fr : Nat × Nat} (h : LV w v l) (k : Kept (· = T) w w') (hT : w.heap[T]? = some (.cells #[.int .i64 0, .slice none 0 0, .slice none 0 0, .slice none 0 0] 28 fr)) (hk : 1 < Rec.k α)
  (hint : ∀ x : α, ∃ a b, (Rec.cs x)[0]? = some (.int .i64 a) ∧ (Rec.cs x)[1]? = some (.int .i64 b)) : LV w' v l := by
 obtain ⟨a, c, rfl, h2⟩ := h
 refine ⟨a, c, rfl, h2.len, h2.cap, h2.big, ?_⟩
 rcases h2.at_ with h0 | ⟨b, off, rfl, hb, hc⟩
 ·exact .inl h0
 cases l with
 | nil => exact .inl rfl
 | cons x l =>
  refine .inr ⟨b, off, rfl, Nat.lt_of_lt_of_le hb k.size, fun i v hv => k.cell (p := ⟨b, off + i, none⟩) ?_ (hc i v hv)⟩
  intro e
  simp only at e
  subst e
  obtain ⟨y0, y1, e0, e1⟩ := hint x
  have g0 := flat_get (x :: l) 0 (by simp) 0 (by omega)
  have g1 := flat_get (x :: l) 0 (by simp) 1 hk
  simp only [Nat.zero_mul, Nat.zero_add, List.getElem_cons_zero] at g0 g1
  have q0 := hc 0 _ (g0.trans e0)
  have q1 := hc 1 _ (g1.trans e1)
  rw [blk_cell hT] at q0 q1
  rcases off with _ | _ | _ | _ | off <;> simp at q0 q1
theorem chk_if {g : Gr} {b : Bk} {r : Option Bk} : chk g b (if validB g b = true then r else none) = chk g b r := by
 unfold chk
 split <;> simp_all
theorem length_ins_le {l : List Ofr} (x : Ofr) : (putO x l).length ≤ l.length + 1 := by
 unfold putO
 split
 ·simp
 rw [length_ins]; exact Nat.le_refl _
theorem fits_of {g : Gr} {b : Bk} (hg : VG g) (h1 : b.ps.length ≤ 1000) (h2 : b.os.length ≤ 1000) (h3 : b.ws.length ≤ 1000) : Fits g b := by
 have h := hg.lens
 exact ⟨⟨by omega, by omega, by omega⟩, ⟨by omega, by omega, by omega⟩, by omega, by omega⟩
theorem fits_add {g : Gr} {b b' : Bk} {x : Ofr} (h : VB g b) (e : doAdd b x = some b') : Fits g b' := by
 have hl := h.lens
 unfold doAdd at e
 split at e
 ·cases e
 injection e with e; subst e
 have := length_ins_le (l := b.os) x
 exact fits_of h.vg (by simp only; omega) (by simp only; omega) (by simp only; omega)
theorem fits_w {g : Gr} {b b' : Bk} {party id : Int} (h : VB g b) (e : doW b party id = some b') : Fits g b' := (h.doW e).fits
theorem fits_drop {g : Gr} {b b' : Bk} {id : Int} (h : VB g b) (e : doDrop b id = some b') : Fits g b' := (h.doDrop e).fits
theorem fits_next {g : Gr} {b b' : Bk} (h : VB g b) (e : doNext b = some b') : Fits g b' := (h.doNext e).fits
theorem fits_take {g : Gr} {b b' : Bk} {ids : List Int} (h : VB g b) (e : doTake b ids = some b') : Fits g b' := (h.doTake e).fits
theorem fits_want {g : Gr} {b b' : Bk} {x : Wsh} (h : VB g b) (e : doWant b x = some b') : Fits g b' := by
 have hl := h.lens
 unfold doWant at e
 split at e
 ·cases e
 injection e with e; subst e
 exact fits_of h.vg (by simp only; omega) (by simp only; omega) (by simp only [length_ins]; omega)
theorem eg62 : ∀ args w, (callFunc 62 args).run Tryz.prog w = .ok (.enter 62 args) w := enters_of Tryz.func62 (by kernel_rfl) rfl
set_option maxHeartbeats 2000000 in
theorem add18 {w : World} {vg vb : Value} {g : Gr} {b : Bk} (hG : GrV w vg g) (hB : BkV w vb b) (hf : Fits g b) (x : Ofr) :
  Calls Tryz.prog 18 #[vg, vb, .agg #[.int .i64 x.id, .int .i64 x.party, .int .i64 x.side, .int .i64 x.place, .int .i64 x.price, .int .i64 x.until_, .int .i64 x.state]] w (ChPost w (chk g b (doAdd b x))) := by
 have hmix := mixed
 obtain ⟨v1, v2, v3, rfl, hg⟩ := hG
 obtain ⟨p, o, q, rfl, hp, ho, hq⟩ := hB
 obtain ⟨a1, n1, rfl, l1⟩ := hg.vs
 obtain ⟨a2, n2, rfl, l2⟩ := hg.es
 obtain ⟨a3, n3, rfl, l3⟩ := hg.ds
 obtain ⟨ap, np, rfl, lp⟩ := hp
 obtain ⟨ao, no, rfl, lo⟩ := ho
 obtain ⟨aq, nq, rfl, lq⟩ := hq
 have HP := yy (show LV w (.slice ap b.ps.length np) b.ps from ⟨_, _, rfl, lp⟩)
 have HO := yy (show LV w (.slice ao b.os.length no) b.os from ⟨_, _, rfl, lo⟩)
 have HQ := yy (show LV w (.slice aq b.ws.length nq) b.ws from ⟨_, _, rfl, lq⟩)
 have HGA := yy hg
 have HF := yy hf
 clear hg lp lo lq l1 l2 l3 hf
 go_enter Tryz.func18, Tryz.ntmps18
 go_wp2_with fail
 obtain ⟨wa, hwa⟩ : ∃ wa, wa = (((w.alloc (Obj.cells #[Value.slice a1 g.vs.length n1, Value.slice a2 g.es.length n2, Value.slice a3 g.ds.length n3] 38)).alloc (Obj.cells #[Value.int IntKind.i64 b.round, Value.slice ap b.ps.length np, Value.slice ao b.os.length no, Value.slice aq b.ws.length nq] 28)).alloc (Obj.cells #[.int .i64 x.id, .int .i64 x.party, .int .i64 x.side, .int .i64 x.place, .int .i64 x.price, .int .i64 x.until_, .int .i64 x.state] 30)).alloc (Obj.cells #[Value.int IntKind.i64 0, Value.slice none 0 0, Value.slice none 0 0, Value.slice none 0 0] 28) := ⟨_, rfl⟩
 have k0 : Gro w wa := by rw [hwa]; exact ((((Gro.refl _).alloc _).alloc _).alloc _).alloc _
 have bC0 : wa.heap[w.heap.size + 1 + 1]? = some (.cells #[.int .i64 x.id, .int .i64 x.party, .int .i64 x.side, .int .i64 x.place, .int .i64 x.price, .int .i64 x.until_, .int .i64 x.state] 30 (0, 0)) := by
  rw [hwa]
  have := blk_new ((w.alloc (Obj.cells #[Value.slice a1 g.vs.length n1, Value.slice a2 g.es.length n2, Value.slice a3 g.ds.length n3] 38)).alloc (Obj.cells #[Value.int IntKind.i64 b.round, Value.slice ap b.ps.length np, Value.slice ao b.os.length no, Value.slice aq b.ws.length nq] 28)) (Obj.cells #[.int .i64 x.id, .int .i64 x.party, .int .i64 x.side, .int .i64 x.place, .int .i64 x.price, .int .i64 x.until_, .int .i64 x.state] 30)
  rw [asz, asz] at this
  exact blk_alloc (this) _
 have bT : wa.heap[w.heap.size + 1 + 1 + 1]? = some (.cells #[.int .i64 0, .slice none 0 0, .slice none 0 0, .slice none 0 0] 28 (0, 0)) := by
  rw [hwa]
  have := blk_new (((w.alloc (Obj.cells #[Value.slice a1 g.vs.length n1, Value.slice a2 g.es.length n2, Value.slice a3 g.ds.length n3] 38)).alloc (Obj.cells #[Value.int IntKind.i64 b.round, Value.slice ap b.ps.length np, Value.slice ao b.os.length no, Value.slice aq b.ws.length nq] 28)).alloc (Obj.cells #[.int .i64 x.id, .int .i64 x.party, .int .i64 x.side, .int .i64 x.place, .int .i64 x.price, .int .i64 x.until_, .int .i64 x.state] 30)) (Obj.cells #[Value.int IntKind.i64 0, Value.slice none 0 0, Value.slice none 0 0, Value.slice none 0 0] 28)
  rw [asz, asz, asz] at this
  exact this
 rw [← hwa]
 clear hwa
 have hcall := changed61 (HGA.out.gro k0) (HP.out.gro k0) (HO.out.gro k0) (HQ.out.gro k0) HF.out 62 #[.pointer (some ⟨w.heap.size + 1 + 1, 0, none⟩)] eg62 (if validB g b = true then doAdd b x else none)
  (fun b' hb' => by
   split at hb'
   ·exact fits_add (validB_iff.1 (by assumption)) hb'
   ·cases hb')
  (fun hvv => by
   have hv := validB_iff.1 hvv
   have hfv := hv.fits
   skip
   rw [if_pos hvv]
   exact do62 bC0 hfv hv)
 rw [chk_if] at hcall
 refine hcall.mono ?_
 have K0 := yy k0
 have BT := yy bT
 clear hcall k0 bT bC0
 rintro e w2 ⟨k2, (⟨b', v, hr, rfl, hbk⟩ | ⟨hr, rfl⟩)⟩
 ·obtain ⟨p', o', q', rfl, hp', ho', hq'⟩ := hbk
  obtain ⟨ap', np', rfl, lp'⟩ := hp'
  obtain ⟨ao', no', rfl, lo'⟩ := ho'
  obtain ⟨aq', nq', rfl, lq'⟩ := hq'
  have HP' := yy (show LV w2 (.slice ap' b'.ps.length np') b'.ps from ⟨_, _, rfl, lp'⟩)
  have HO' := yy (show LV w2 (.slice ao' b'.os.length no') b'.os from ⟨_, _, rfl, lo'⟩)
  have HQ' := yy (show LV w2 (.slice aq' b'.ws.length nq') b'.ws from ⟨_, _, rfl, lq'⟩)
  have HR := yy hr
  have BQ := yy (k2.blk BT.out)
  have KQ := yy (K0.out.trans k2)
  clear lp' lo' lq' hr k2
  have hszT : w.heap.size ≤ w.heap.size + 1 + 1 + 1 := by omega
  have d2 := blk_frozen BQ.out
  have e2 := blk_cell BQ.out
  have f0 := d2 0
  have f1 := d2 1
  have f2 := d2 2
  have f3 := d2 3
  have c0 := e2 0
  have c1 := e2 1
  have c2 := e2 2
  have c3 := e2 3
  simp only [lPa, lPb, lPc] at c0 c1 c2 c3
  have hl := World.block_lt_of_cell? w2 _ c0
  clear d2 e2
  go_wp2_with fail
  have B5 := set4 BQ.out (.int .i64 b'.round) (.slice ap' b'.ps.length np') (.slice ao' b'.os.length no') (.slice aq' b'.ws.length nq')
  have K5 := kept4 KQ.out (.inr hszT) (.int .i64 b'.round) (.slice ap' b'.ps.length np') (.slice ao' b'.os.length no') (.slice aq' b'.ws.length nq')
  have K6 := kept4 (F := (· = w.heap.size + 1 + 1 + 1)) (Kept.refl (· = w.heap.size + 1 + 1 + 1) w2) (.inl rfl) (.int .i64 b'.round) (.slice ap' b'.ps.length np') (.slice ao' b'.os.length no') (.slice aq' b'.ws.length nq')
  refine bodyPost_ret (results_cell_tmp_row (p := 6) (u := 7) (ty := 28) rfl _ _ (w.heap.size + 1 + 1 + 1) 28 _ (0, 0) _ rfl B5 Tryz.underlying28 rfl (by kernel_rfl)) rfl ⟨K5, .inl ⟨b', _, HR.out, rfl, ⟨_, _, _, rfl, ?_, ?_, ?_⟩⟩⟩
  ·exact HP'.out.far K6 BQ.out (by decide) (fun x => ⟨x.id, x.budget, rfl, rfl⟩)
  ·exact HO'.out.far K6 BQ.out (by decide) (fun x => ⟨x.id, x.party, rfl, rfl⟩)
  exact HQ'.out.far K6 BQ.out (by decide) (fun x => ⟨x.edge, x.src, rfl, rfl⟩)
 have HR := yy hr
 have BQ := yy (k2.blk BT.out)
 have KQ := yy (K0.out.trans k2)
 clear hr k2
 have hszT : w.heap.size ≤ w.heap.size + 1 + 1 + 1 := by omega
 have d2 := blk_frozen BQ.out
 have e2 := blk_cell BQ.out
 have f0 := d2 0
 have f1 := d2 1
 have f2 := d2 2
 have f3 := d2 3
 have c0 := e2 0
 have c1 := e2 1
 have c2 := e2 2
 have c3 := e2 3
 simp only [lPa, lPb, lPc] at c0 c1 c2 c3
 have hl := World.block_lt_of_cell? w2 _ c0
 clear d2 e2
 go_wp2_with fail
 have B5 := set4 BQ.out (.int .i64 0) (.slice none 0 0) (.slice none 0 0) (.slice none 0 0)
 have K5 := kept4 KQ.out (.inr hszT) (.int .i64 0) (.slice none 0 0) (.slice none 0 0) (.slice none 0 0)
 refine bodyPost_ret (results_cell_tmp_row (p := 6) (u := 7) (ty := 28) rfl _ _ (w.heap.size + 1 + 1 + 1) 28 _ (0, 0) _ rfl B5 Tryz.underlying28 rfl (by kernel_rfl)) rfl ⟨K5, .inr ⟨HR.out, rfl⟩⟩
theorem eg69 : ∀ args w, (callFunc 69 args).run Tryz.prog w = .ok (.enter 69 args) w := enters_of Tryz.func69 (by kernel_rfl) rfl
set_option maxHeartbeats 2000000 in
theorem withdraw20 {w : World} {vg vb : Value} {g : Gr} {b : Bk} (hG : GrV w vg g) (hB : BkV w vb b) (hf : Fits g b) (party id : Int) :
  Calls Tryz.prog 20 #[vg, vb, .int .i64 party, .int .i64 id] w (ChPost w (chk g b (doW b party id))) := by
 have hmix := mixed
 obtain ⟨v1, v2, v3, rfl, hg⟩ := hG
 obtain ⟨p, o, q, rfl, hp, ho, hq⟩ := hB
 obtain ⟨a1, n1, rfl, l1⟩ := hg.vs
 obtain ⟨a2, n2, rfl, l2⟩ := hg.es
 obtain ⟨a3, n3, rfl, l3⟩ := hg.ds
 obtain ⟨ap, np, rfl, lp⟩ := hp
 obtain ⟨ao, no, rfl, lo⟩ := ho
 obtain ⟨aq, nq, rfl, lq⟩ := hq
 have HP := yy (show LV w (.slice ap b.ps.length np) b.ps from ⟨_, _, rfl, lp⟩)
 have HO := yy (show LV w (.slice ao b.os.length no) b.os from ⟨_, _, rfl, lo⟩)
 have HQ := yy (show LV w (.slice aq b.ws.length nq) b.ws from ⟨_, _, rfl, lq⟩)
 have HGA := yy hg
 have HF := yy hf
 clear hg lp lo lq l1 l2 l3 hf
 go_enter Tryz.func20, Tryz.ntmps20
 go_wp2_with fail
 obtain ⟨wa, hwa⟩ : ∃ wa, wa = ((((w.alloc (Obj.cells #[Value.slice a1 g.vs.length n1, Value.slice a2 g.es.length n2, Value.slice a3 g.ds.length n3] 38)).alloc (Obj.cells #[Value.int IntKind.i64 b.round, Value.slice ap b.ps.length np, Value.slice ao b.os.length no, Value.slice aq b.ws.length nq] 28)).alloc (Obj.cells #[.int .i64 party] 3)).alloc (Obj.cells #[.int .i64 id] 3)).alloc (Obj.cells #[Value.int IntKind.i64 0, Value.slice none 0 0, Value.slice none 0 0, Value.slice none 0 0] 28) := ⟨_, rfl⟩
 have k0 : Gro w wa := by rw [hwa]; exact (((((Gro.refl _).alloc _).alloc _).alloc _).alloc _).alloc _
 have bC0 : wa.heap[w.heap.size + 1 + 1]? = some (.cells #[.int .i64 party] 3 (0, 0)) := by
  rw [hwa]
  have := blk_new ((w.alloc (Obj.cells #[Value.slice a1 g.vs.length n1, Value.slice a2 g.es.length n2, Value.slice a3 g.ds.length n3] 38)).alloc (Obj.cells #[Value.int IntKind.i64 b.round, Value.slice ap b.ps.length np, Value.slice ao b.os.length no, Value.slice aq b.ws.length nq] 28)) (Obj.cells #[.int .i64 party] 3)
  rw [asz, asz] at this
  exact blk_alloc (blk_alloc (this) _) _
 have bC1 : wa.heap[w.heap.size + 1 + 1 + 1]? = some (.cells #[.int .i64 id] 3 (0, 0)) := by
  rw [hwa]
  have := blk_new (((w.alloc (Obj.cells #[Value.slice a1 g.vs.length n1, Value.slice a2 g.es.length n2, Value.slice a3 g.ds.length n3] 38)).alloc (Obj.cells #[Value.int IntKind.i64 b.round, Value.slice ap b.ps.length np, Value.slice ao b.os.length no, Value.slice aq b.ws.length nq] 28)).alloc (Obj.cells #[.int .i64 party] 3)) (Obj.cells #[.int .i64 id] 3)
  rw [asz, asz, asz] at this
  exact blk_alloc (this) _
 have bT : wa.heap[w.heap.size + 1 + 1 + 1 + 1]? = some (.cells #[.int .i64 0, .slice none 0 0, .slice none 0 0, .slice none 0 0] 28 (0, 0)) := by
  rw [hwa]
  have := blk_new ((((w.alloc (Obj.cells #[Value.slice a1 g.vs.length n1, Value.slice a2 g.es.length n2, Value.slice a3 g.ds.length n3] 38)).alloc (Obj.cells #[Value.int IntKind.i64 b.round, Value.slice ap b.ps.length np, Value.slice ao b.os.length no, Value.slice aq b.ws.length nq] 28)).alloc (Obj.cells #[.int .i64 party] 3)).alloc (Obj.cells #[.int .i64 id] 3)) (Obj.cells #[Value.int IntKind.i64 0, Value.slice none 0 0, Value.slice none 0 0, Value.slice none 0 0] 28)
  rw [asz, asz, asz, asz] at this
  exact this
 rw [← hwa]
 clear hwa
 have hcall := changed61 (HGA.out.gro k0) (HP.out.gro k0) (HO.out.gro k0) (HQ.out.gro k0) HF.out 69 #[.pointer (some ⟨w.heap.size + 1 + 1 + 1, 0, none⟩), .pointer (some ⟨w.heap.size + 1 + 1, 0, none⟩)] eg69 (if validB g b = true then doW b party id else none)
  (fun b' hb' => by
   split at hb'
   ·exact fits_w (validB_iff.1 (by assumption)) hb'
   ·cases hb')
  (fun hvv => by
   have hv := validB_iff.1 hvv
   have hfv := hv.fits
   skip
   rw [if_pos hvv]
   exact do69 bC1 bC0 hfv hv)
 rw [chk_if] at hcall
 refine hcall.mono ?_
 have K0 := yy k0
 have BT := yy bT
 clear hcall k0 bT bC0 bC1
 rintro e w2 ⟨k2, (⟨b', v, hr, rfl, hbk⟩ | ⟨hr, rfl⟩)⟩
 ·obtain ⟨p', o', q', rfl, hp', ho', hq'⟩ := hbk
  obtain ⟨ap', np', rfl, lp'⟩ := hp'
  obtain ⟨ao', no', rfl, lo'⟩ := ho'
  obtain ⟨aq', nq', rfl, lq'⟩ := hq'
  have HP' := yy (show LV w2 (.slice ap' b'.ps.length np') b'.ps from ⟨_, _, rfl, lp'⟩)
  have HO' := yy (show LV w2 (.slice ao' b'.os.length no') b'.os from ⟨_, _, rfl, lo'⟩)
  have HQ' := yy (show LV w2 (.slice aq' b'.ws.length nq') b'.ws from ⟨_, _, rfl, lq'⟩)
  have HR := yy hr
  have BQ := yy (k2.blk BT.out)
  have KQ := yy (K0.out.trans k2)
  clear lp' lo' lq' hr k2
  have hszT : w.heap.size ≤ w.heap.size + 1 + 1 + 1 + 1 := by omega
  have d2 := blk_frozen BQ.out
  have e2 := blk_cell BQ.out
  have f0 := d2 0
  have f1 := d2 1
  have f2 := d2 2
  have f3 := d2 3
  have c0 := e2 0
  have c1 := e2 1
  have c2 := e2 2
  have c3 := e2 3
  simp only [lPa, lPb, lPc] at c0 c1 c2 c3
  have hl := World.block_lt_of_cell? w2 _ c0
  clear d2 e2
  go_wp2_with fail
  have B5 := set4 BQ.out (.int .i64 b'.round) (.slice ap' b'.ps.length np') (.slice ao' b'.os.length no') (.slice aq' b'.ws.length nq')
  have K5 := kept4 KQ.out (.inr hszT) (.int .i64 b'.round) (.slice ap' b'.ps.length np') (.slice ao' b'.os.length no') (.slice aq' b'.ws.length nq')
  have K6 := kept4 (F := (· = w.heap.size + 1 + 1 + 1 + 1)) (Kept.refl (· = w.heap.size + 1 + 1 + 1 + 1) w2) (.inl rfl) (.int .i64 b'.round) (.slice ap' b'.ps.length np') (.slice ao' b'.os.length no') (.slice aq' b'.ws.length nq')
  refine bodyPost_ret (results_cell_tmp_row (p := 8) (u := 9) (ty := 28) rfl _ _ (w.heap.size + 1 + 1 + 1 + 1) 28 _ (0, 0) _ rfl B5 Tryz.underlying28 rfl (by kernel_rfl)) rfl ⟨K5, .inl ⟨b', _, HR.out, rfl, ⟨_, _, _, rfl, ?_, ?_, ?_⟩⟩⟩
  ·exact HP'.out.far K6 BQ.out (by decide) (fun x => ⟨x.id, x.budget, rfl, rfl⟩)
  ·exact HO'.out.far K6 BQ.out (by decide) (fun x => ⟨x.id, x.party, rfl, rfl⟩)
  exact HQ'.out.far K6 BQ.out (by decide) (fun x => ⟨x.edge, x.src, rfl, rfl⟩)
 have HR := yy hr
 have BQ := yy (k2.blk BT.out)
 have KQ := yy (K0.out.trans k2)
 clear hr k2
 have hszT : w.heap.size ≤ w.heap.size + 1 + 1 + 1 + 1 := by omega
 have d2 := blk_frozen BQ.out
 have e2 := blk_cell BQ.out
 have f0 := d2 0
 have f1 := d2 1
 have f2 := d2 2
 have f3 := d2 3
 have c0 := e2 0
 have c1 := e2 1
 have c2 := e2 2
 have c3 := e2 3
 simp only [lPa, lPb, lPc] at c0 c1 c2 c3
 have hl := World.block_lt_of_cell? w2 _ c0
 clear d2 e2
 go_wp2_with fail
 have B5 := set4 BQ.out (.int .i64 0) (.slice none 0 0) (.slice none 0 0) (.slice none 0 0)
 have K5 := kept4 KQ.out (.inr hszT) (.int .i64 0) (.slice none 0 0) (.slice none 0 0) (.slice none 0 0)
 refine bodyPost_ret (results_cell_tmp_row (p := 8) (u := 9) (ty := 28) rfl _ _ (w.heap.size + 1 + 1 + 1 + 1) 28 _ (0, 0) _ rfl B5 Tryz.underlying28 rfl (by kernel_rfl)) rfl ⟨K5, .inr ⟨HR.out, rfl⟩⟩
theorem eg73 : ∀ args w, (callFunc 73 args).run Tryz.prog w = .ok (.enter 73 args) w := enters_of Tryz.func73 (by kernel_rfl) rfl
set_option maxHeartbeats 2000000 in
theorem want22 {w : World} {vg vb : Value} {g : Gr} {b : Bk} (hG : GrV w vg g) (hB : BkV w vb b) (hf : Fits g b) (x : Wsh) :
  Calls Tryz.prog 22 #[vg, vb, .agg #[.int .i64 x.edge, .int .i64 x.src, .int .i64 x.dst, .int .i64 x.weight]] w (ChPost w (chk g b (doWant b x))) := by
 have hmix := mixed
 obtain ⟨v1, v2, v3, rfl, hg⟩ := hG
 obtain ⟨p, o, q, rfl, hp, ho, hq⟩ := hB
 obtain ⟨a1, n1, rfl, l1⟩ := hg.vs
 obtain ⟨a2, n2, rfl, l2⟩ := hg.es
 obtain ⟨a3, n3, rfl, l3⟩ := hg.ds
 obtain ⟨ap, np, rfl, lp⟩ := hp
 obtain ⟨ao, no, rfl, lo⟩ := ho
 obtain ⟨aq, nq, rfl, lq⟩ := hq
 have HP := yy (show LV w (.slice ap b.ps.length np) b.ps from ⟨_, _, rfl, lp⟩)
 have HO := yy (show LV w (.slice ao b.os.length no) b.os from ⟨_, _, rfl, lo⟩)
 have HQ := yy (show LV w (.slice aq b.ws.length nq) b.ws from ⟨_, _, rfl, lq⟩)
 have HGA := yy hg
 have HF := yy hf
 clear hg lp lo lq l1 l2 l3 hf
 go_enter Tryz.func22, Tryz.ntmps22
 go_wp2_with fail
 obtain ⟨wa, hwa⟩ : ∃ wa, wa = (((w.alloc (Obj.cells #[Value.slice a1 g.vs.length n1, Value.slice a2 g.es.length n2, Value.slice a3 g.ds.length n3] 38)).alloc (Obj.cells #[Value.int IntKind.i64 b.round, Value.slice ap b.ps.length np, Value.slice ao b.os.length no, Value.slice aq b.ws.length nq] 28)).alloc (Obj.cells #[.int .i64 x.edge, .int .i64 x.src, .int .i64 x.dst, .int .i64 x.weight] 32)).alloc (Obj.cells #[Value.int IntKind.i64 0, Value.slice none 0 0, Value.slice none 0 0, Value.slice none 0 0] 28) := ⟨_, rfl⟩
 have k0 : Gro w wa := by rw [hwa]; exact ((((Gro.refl _).alloc _).alloc _).alloc _).alloc _
 have bC0 : wa.heap[w.heap.size + 1 + 1]? = some (.cells #[.int .i64 x.edge, .int .i64 x.src, .int .i64 x.dst, .int .i64 x.weight] 32 (0, 0)) := by
  rw [hwa]
  have := blk_new ((w.alloc (Obj.cells #[Value.slice a1 g.vs.length n1, Value.slice a2 g.es.length n2, Value.slice a3 g.ds.length n3] 38)).alloc (Obj.cells #[Value.int IntKind.i64 b.round, Value.slice ap b.ps.length np, Value.slice ao b.os.length no, Value.slice aq b.ws.length nq] 28)) (Obj.cells #[.int .i64 x.edge, .int .i64 x.src, .int .i64 x.dst, .int .i64 x.weight] 32)
  rw [asz, asz] at this
  exact blk_alloc (this) _
 have bT : wa.heap[w.heap.size + 1 + 1 + 1]? = some (.cells #[.int .i64 0, .slice none 0 0, .slice none 0 0, .slice none 0 0] 28 (0, 0)) := by
  rw [hwa]
  have := blk_new (((w.alloc (Obj.cells #[Value.slice a1 g.vs.length n1, Value.slice a2 g.es.length n2, Value.slice a3 g.ds.length n3] 38)).alloc (Obj.cells #[Value.int IntKind.i64 b.round, Value.slice ap b.ps.length np, Value.slice ao b.os.length no, Value.slice aq b.ws.length nq] 28)).alloc (Obj.cells #[.int .i64 x.edge, .int .i64 x.src, .int .i64 x.dst, .int .i64 x.weight] 32)) (Obj.cells #[Value.int IntKind.i64 0, Value.slice none 0 0, Value.slice none 0 0, Value.slice none 0 0] 28)
  rw [asz, asz, asz] at this
  exact this
 rw [← hwa]
 clear hwa
 have hcall := changed61 (HGA.out.gro k0) (HP.out.gro k0) (HO.out.gro k0) (HQ.out.gro k0) HF.out 73 #[.pointer (some ⟨w.heap.size + 1 + 1, 0, none⟩)] eg73 (if validB g b = true then doWant b x else none)
  (fun b' hb' => by
   split at hb'
   ·exact fits_want (validB_iff.1 (by assumption)) hb'
   ·cases hb')
  (fun hvv => by
   have hv := validB_iff.1 hvv
   have hfv := hv.fits
   skip
   rw [if_pos hvv]
   exact do73 bC0 hfv hv)
 rw [chk_if] at hcall
 refine hcall.mono ?_
 have K0 := yy k0
 have BT := yy bT
 clear hcall k0 bT bC0
 rintro e w2 ⟨k2, (⟨b', v, hr, rfl, hbk⟩ | ⟨hr, rfl⟩)⟩
 ·obtain ⟨p', o', q', rfl, hp', ho', hq'⟩ := hbk
  obtain ⟨ap', np', rfl, lp'⟩ := hp'
  obtain ⟨ao', no', rfl, lo'⟩ := ho'
  obtain ⟨aq', nq', rfl, lq'⟩ := hq'
  have HP' := yy (show LV w2 (.slice ap' b'.ps.length np') b'.ps from ⟨_, _, rfl, lp'⟩)
  have HO' := yy (show LV w2 (.slice ao' b'.os.length no') b'.os from ⟨_, _, rfl, lo'⟩)
  have HQ' := yy (show LV w2 (.slice aq' b'.ws.length nq') b'.ws from ⟨_, _, rfl, lq'⟩)
  have HR := yy hr
  have BQ := yy (k2.blk BT.out)
  have KQ := yy (K0.out.trans k2)
  clear lp' lo' lq' hr k2
  have hszT : w.heap.size ≤ w.heap.size + 1 + 1 + 1 := by omega
  have d2 := blk_frozen BQ.out
  have e2 := blk_cell BQ.out
  have f0 := d2 0
  have f1 := d2 1
  have f2 := d2 2
  have f3 := d2 3
  have c0 := e2 0
  have c1 := e2 1
  have c2 := e2 2
  have c3 := e2 3
  simp only [lPa, lPb, lPc] at c0 c1 c2 c3
  have hl := World.block_lt_of_cell? w2 _ c0
  clear d2 e2
  go_wp2_with fail
  have B5 := set4 BQ.out (.int .i64 b'.round) (.slice ap' b'.ps.length np') (.slice ao' b'.os.length no') (.slice aq' b'.ws.length nq')
  have K5 := kept4 KQ.out (.inr hszT) (.int .i64 b'.round) (.slice ap' b'.ps.length np') (.slice ao' b'.os.length no') (.slice aq' b'.ws.length nq')
  have K6 := kept4 (F := (· = w.heap.size + 1 + 1 + 1)) (Kept.refl (· = w.heap.size + 1 + 1 + 1) w2) (.inl rfl) (.int .i64 b'.round) (.slice ap' b'.ps.length np') (.slice ao' b'.os.length no') (.slice aq' b'.ws.length nq')
  refine bodyPost_ret (results_cell_tmp_row (p := 6) (u := 7) (ty := 28) rfl _ _ (w.heap.size + 1 + 1 + 1) 28 _ (0, 0) _ rfl B5 Tryz.underlying28 rfl (by kernel_rfl)) rfl ⟨K5, .inl ⟨b', _, HR.out, rfl, ⟨_, _, _, rfl, ?_, ?_, ?_⟩⟩⟩
  ·exact HP'.out.far K6 BQ.out (by decide) (fun x => ⟨x.id, x.budget, rfl, rfl⟩)
  ·exact HO'.out.far K6 BQ.out (by decide) (fun x => ⟨x.id, x.party, rfl, rfl⟩)
  exact HQ'.out.far K6 BQ.out (by decide) (fun x => ⟨x.edge, x.src, rfl, rfl⟩)
 have HR := yy hr
 have BQ := yy (k2.blk BT.out)
 have KQ := yy (K0.out.trans k2)
 clear hr k2
 have hszT : w.heap.size ≤ w.heap.size + 1 + 1 + 1 := by omega
 have d2 := blk_frozen BQ.out
 have e2 := blk_cell BQ.out
 have f0 := d2 0
 have f1 := d2 1
 have f2 := d2 2
 have f3 := d2 3
 have c0 := e2 0
 have c1 := e2 1
 have c2 := e2 2
 have c3 := e2 3
 simp only [lPa, lPb, lPc] at c0 c1 c2 c3
 have hl := World.block_lt_of_cell? w2 _ c0
 clear d2 e2
 go_wp2_with fail
 have B5 := set4 BQ.out (.int .i64 0) (.slice none 0 0) (.slice none 0 0) (.slice none 0 0)
 have K5 := kept4 KQ.out (.inr hszT) (.int .i64 0) (.slice none 0 0) (.slice none 0 0) (.slice none 0 0)
 refine bodyPost_ret (results_cell_tmp_row (p := 6) (u := 7) (ty := 28) rfl _ _ (w.heap.size + 1 + 1 + 1) 28 _ (0, 0) _ rfl B5 Tryz.underlying28 rfl (by kernel_rfl)) rfl ⟨K5, .inr ⟨HR.out, rfl⟩⟩
theorem eg77 : ∀ args w, (callFunc 77 args).run Tryz.prog w = .ok (.enter 77 args) w := enters_of Tryz.func77 (by kernel_rfl) rfl
set_option maxHeartbeats 2000000 in
theorem drop24 {w : World} {vg vb : Value} {g : Gr} {b : Bk} (hG : GrV w vg g) (hB : BkV w vb b) (hf : Fits g b) (id : Int) :
  Calls Tryz.prog 24 #[vg, vb, .int .i64 id] w (ChPost w (chk g b (doDrop b id))) := by
 have hmix := mixed
 obtain ⟨v1, v2, v3, rfl, hg⟩ := hG
 obtain ⟨p, o, q, rfl, hp, ho, hq⟩ := hB
 obtain ⟨a1, n1, rfl, l1⟩ := hg.vs
 obtain ⟨a2, n2, rfl, l2⟩ := hg.es
 obtain ⟨a3, n3, rfl, l3⟩ := hg.ds
 obtain ⟨ap, np, rfl, lp⟩ := hp
 obtain ⟨ao, no, rfl, lo⟩ := ho
 obtain ⟨aq, nq, rfl, lq⟩ := hq
 have HP := yy (show LV w (.slice ap b.ps.length np) b.ps from ⟨_, _, rfl, lp⟩)
 have HO := yy (show LV w (.slice ao b.os.length no) b.os from ⟨_, _, rfl, lo⟩)
 have HQ := yy (show LV w (.slice aq b.ws.length nq) b.ws from ⟨_, _, rfl, lq⟩)
 have HGA := yy hg
 have HF := yy hf
 clear hg lp lo lq l1 l2 l3 hf
 go_enter Tryz.func24, Tryz.ntmps24
 go_wp2_with fail
 obtain ⟨wa, hwa⟩ : ∃ wa, wa = (((w.alloc (Obj.cells #[Value.slice a1 g.vs.length n1, Value.slice a2 g.es.length n2, Value.slice a3 g.ds.length n3] 38)).alloc (Obj.cells #[Value.int IntKind.i64 b.round, Value.slice ap b.ps.length np, Value.slice ao b.os.length no, Value.slice aq b.ws.length nq] 28)).alloc (Obj.cells #[.int .i64 id] 3)).alloc (Obj.cells #[Value.int IntKind.i64 0, Value.slice none 0 0, Value.slice none 0 0, Value.slice none 0 0] 28) := ⟨_, rfl⟩
 have k0 : Gro w wa := by rw [hwa]; exact ((((Gro.refl _).alloc _).alloc _).alloc _).alloc _
 have bC0 : wa.heap[w.heap.size + 1 + 1]? = some (.cells #[.int .i64 id] 3 (0, 0)) := by
  rw [hwa]
  have := blk_new ((w.alloc (Obj.cells #[Value.slice a1 g.vs.length n1, Value.slice a2 g.es.length n2, Value.slice a3 g.ds.length n3] 38)).alloc (Obj.cells #[Value.int IntKind.i64 b.round, Value.slice ap b.ps.length np, Value.slice ao b.os.length no, Value.slice aq b.ws.length nq] 28)) (Obj.cells #[.int .i64 id] 3)
  rw [asz, asz] at this
  exact blk_alloc (this) _
 have bT : wa.heap[w.heap.size + 1 + 1 + 1]? = some (.cells #[.int .i64 0, .slice none 0 0, .slice none 0 0, .slice none 0 0] 28 (0, 0)) := by
  rw [hwa]
  have := blk_new (((w.alloc (Obj.cells #[Value.slice a1 g.vs.length n1, Value.slice a2 g.es.length n2, Value.slice a3 g.ds.length n3] 38)).alloc (Obj.cells #[Value.int IntKind.i64 b.round, Value.slice ap b.ps.length np, Value.slice ao b.os.length no, Value.slice aq b.ws.length nq] 28)).alloc (Obj.cells #[.int .i64 id] 3)) (Obj.cells #[Value.int IntKind.i64 0, Value.slice none 0 0, Value.slice none 0 0, Value.slice none 0 0] 28)
  rw [asz, asz, asz] at this
  exact this
 rw [← hwa]
 clear hwa
 have hcall := changed61 (HGA.out.gro k0) (HP.out.gro k0) (HO.out.gro k0) (HQ.out.gro k0) HF.out 77 #[.pointer (some ⟨w.heap.size + 1 + 1, 0, none⟩)] eg77 (if validB g b = true then doDrop b id else none)
  (fun b' hb' => by
   split at hb'
   ·exact fits_drop (validB_iff.1 (by assumption)) hb'
   ·cases hb')
  (fun hvv => by
   have hv := validB_iff.1 hvv
   have hfv := hv.fits
   skip
   rw [if_pos hvv]
   exact do77 bC0 hfv hv)
 rw [chk_if] at hcall
 refine hcall.mono ?_
 have K0 := yy k0
 have BT := yy bT
 clear hcall k0 bT bC0
 rintro e w2 ⟨k2, (⟨b', v, hr, rfl, hbk⟩ | ⟨hr, rfl⟩)⟩
 ·obtain ⟨p', o', q', rfl, hp', ho', hq'⟩ := hbk
  obtain ⟨ap', np', rfl, lp'⟩ := hp'
  obtain ⟨ao', no', rfl, lo'⟩ := ho'
  obtain ⟨aq', nq', rfl, lq'⟩ := hq'
  have HP' := yy (show LV w2 (.slice ap' b'.ps.length np') b'.ps from ⟨_, _, rfl, lp'⟩)
  have HO' := yy (show LV w2 (.slice ao' b'.os.length no') b'.os from ⟨_, _, rfl, lo'⟩)
  have HQ' := yy (show LV w2 (.slice aq' b'.ws.length nq') b'.ws from ⟨_, _, rfl, lq'⟩)
  have HR := yy hr
  have BQ := yy (k2.blk BT.out)
  have KQ := yy (K0.out.trans k2)
  clear lp' lo' lq' hr k2
  have hszT : w.heap.size ≤ w.heap.size + 1 + 1 + 1 := by omega
  have d2 := blk_frozen BQ.out
  have e2 := blk_cell BQ.out
  have f0 := d2 0
  have f1 := d2 1
  have f2 := d2 2
  have f3 := d2 3
  have c0 := e2 0
  have c1 := e2 1
  have c2 := e2 2
  have c3 := e2 3
  simp only [lPa, lPb, lPc] at c0 c1 c2 c3
  have hl := World.block_lt_of_cell? w2 _ c0
  clear d2 e2
  go_wp2_with fail
  have B5 := set4 BQ.out (.int .i64 b'.round) (.slice ap' b'.ps.length np') (.slice ao' b'.os.length no') (.slice aq' b'.ws.length nq')
  have K5 := kept4 KQ.out (.inr hszT) (.int .i64 b'.round) (.slice ap' b'.ps.length np') (.slice ao' b'.os.length no') (.slice aq' b'.ws.length nq')
  have K6 := kept4 (F := (· = w.heap.size + 1 + 1 + 1)) (Kept.refl (· = w.heap.size + 1 + 1 + 1) w2) (.inl rfl) (.int .i64 b'.round) (.slice ap' b'.ps.length np') (.slice ao' b'.os.length no') (.slice aq' b'.ws.length nq')
  refine bodyPost_ret (results_cell_tmp_row (p := 6) (u := 7) (ty := 28) rfl _ _ (w.heap.size + 1 + 1 + 1) 28 _ (0, 0) _ rfl B5 Tryz.underlying28 rfl (by kernel_rfl)) rfl ⟨K5, .inl ⟨b', _, HR.out, rfl, ⟨_, _, _, rfl, ?_, ?_, ?_⟩⟩⟩
  ·exact HP'.out.far K6 BQ.out (by decide) (fun x => ⟨x.id, x.budget, rfl, rfl⟩)
  ·exact HO'.out.far K6 BQ.out (by decide) (fun x => ⟨x.id, x.party, rfl, rfl⟩)
  exact HQ'.out.far K6 BQ.out (by decide) (fun x => ⟨x.edge, x.src, rfl, rfl⟩)
 have HR := yy hr
 have BQ := yy (k2.blk BT.out)
 have KQ := yy (K0.out.trans k2)
 clear hr k2
 have hszT : w.heap.size ≤ w.heap.size + 1 + 1 + 1 := by omega
 have d2 := blk_frozen BQ.out
 have e2 := blk_cell BQ.out
 have f0 := d2 0
 have f1 := d2 1
 have f2 := d2 2
 have f3 := d2 3
 have c0 := e2 0
 have c1 := e2 1
 have c2 := e2 2
 have c3 := e2 3
 simp only [lPa, lPb, lPc] at c0 c1 c2 c3
 have hl := World.block_lt_of_cell? w2 _ c0
 clear d2 e2
 go_wp2_with fail
 have B5 := set4 BQ.out (.int .i64 0) (.slice none 0 0) (.slice none 0 0) (.slice none 0 0)
 have K5 := kept4 KQ.out (.inr hszT) (.int .i64 0) (.slice none 0 0) (.slice none 0 0) (.slice none 0 0)
 refine bodyPost_ret (results_cell_tmp_row (p := 6) (u := 7) (ty := 28) rfl _ _ (w.heap.size + 1 + 1 + 1) 28 _ (0, 0) _ rfl B5 Tryz.underlying28 rfl (by kernel_rfl)) rfl ⟨K5, .inr ⟨HR.out, rfl⟩⟩
theorem eg79 : ∀ args w, (callFunc 79 args).run Tryz.prog w = .ok (.enter 79 args) w := enters_of Tryz.func79 (by kernel_rfl) rfl
set_option maxHeartbeats 2000000 in
theorem next26 {w : World} {vg vb : Value} {g : Gr} {b : Bk} (hG : GrV w vg g) (hB : BkV w vb b) (hf : Fits g b)  :
  Calls Tryz.prog 26 #[vg, vb] w (ChPost w (chk g b (doNext b))) := by
 have hmix := mixed
 obtain ⟨v1, v2, v3, rfl, hg⟩ := hG
 obtain ⟨p, o, q, rfl, hp, ho, hq⟩ := hB
 obtain ⟨a1, n1, rfl, l1⟩ := hg.vs
 obtain ⟨a2, n2, rfl, l2⟩ := hg.es
 obtain ⟨a3, n3, rfl, l3⟩ := hg.ds
 obtain ⟨ap, np, rfl, lp⟩ := hp
 obtain ⟨ao, no, rfl, lo⟩ := ho
 obtain ⟨aq, nq, rfl, lq⟩ := hq
 have HP := yy (show LV w (.slice ap b.ps.length np) b.ps from ⟨_, _, rfl, lp⟩)
 have HO := yy (show LV w (.slice ao b.os.length no) b.os from ⟨_, _, rfl, lo⟩)
 have HQ := yy (show LV w (.slice aq b.ws.length nq) b.ws from ⟨_, _, rfl, lq⟩)
 have HGA := yy hg
 have HF := yy hf
 clear hg lp lo lq l1 l2 l3 hf
 go_enter Tryz.func26, Tryz.ntmps26
 go_wp2_with fail
 obtain ⟨wa, hwa⟩ : ∃ wa, wa = ((w.alloc (Obj.cells #[Value.slice a1 g.vs.length n1, Value.slice a2 g.es.length n2, Value.slice a3 g.ds.length n3] 38)).alloc (Obj.cells #[Value.int IntKind.i64 b.round, Value.slice ap b.ps.length np, Value.slice ao b.os.length no, Value.slice aq b.ws.length nq] 28)).alloc (Obj.cells #[Value.int IntKind.i64 0, Value.slice none 0 0, Value.slice none 0 0, Value.slice none 0 0] 28) := ⟨_, rfl⟩
 have k0 : Gro w wa := by rw [hwa]; exact (((Gro.refl _).alloc _).alloc _).alloc _
 have bT : wa.heap[w.heap.size + 1 + 1]? = some (.cells #[.int .i64 0, .slice none 0 0, .slice none 0 0, .slice none 0 0] 28 (0, 0)) := by
  rw [hwa]
  have := blk_new ((w.alloc (Obj.cells #[Value.slice a1 g.vs.length n1, Value.slice a2 g.es.length n2, Value.slice a3 g.ds.length n3] 38)).alloc (Obj.cells #[Value.int IntKind.i64 b.round, Value.slice ap b.ps.length np, Value.slice ao b.os.length no, Value.slice aq b.ws.length nq] 28)) (Obj.cells #[Value.int IntKind.i64 0, Value.slice none 0 0, Value.slice none 0 0, Value.slice none 0 0] 28)
  rw [asz, asz] at this
  exact this
 rw [← hwa]
 clear hwa
 have hcall := changed61 (HGA.out.gro k0) (HP.out.gro k0) (HO.out.gro k0) (HQ.out.gro k0) HF.out 79 #[] eg79 (if validB g b = true then doNext b else none)
  (fun b' hb' => by
   split at hb'
   ·exact fits_next (validB_iff.1 (by assumption)) hb'
   ·cases hb')
  (fun hvv => by
   have hv := validB_iff.1 hvv
   have hfv := hv.fits
   skip
   rw [if_pos hvv]
   exact do79 hfv hv)
 rw [chk_if] at hcall
 refine hcall.mono ?_
 have K0 := yy k0
 have BT := yy bT
 clear hcall k0 bT 
 rintro e w2 ⟨k2, (⟨b', v, hr, rfl, hbk⟩ | ⟨hr, rfl⟩)⟩
 ·obtain ⟨p', o', q', rfl, hp', ho', hq'⟩ := hbk
  obtain ⟨ap', np', rfl, lp'⟩ := hp'
  obtain ⟨ao', no', rfl, lo'⟩ := ho'
  obtain ⟨aq', nq', rfl, lq'⟩ := hq'
  have HP' := yy (show LV w2 (.slice ap' b'.ps.length np') b'.ps from ⟨_, _, rfl, lp'⟩)
  have HO' := yy (show LV w2 (.slice ao' b'.os.length no') b'.os from ⟨_, _, rfl, lo'⟩)
  have HQ' := yy (show LV w2 (.slice aq' b'.ws.length nq') b'.ws from ⟨_, _, rfl, lq'⟩)
  have HR := yy hr
  have BQ := yy (k2.blk BT.out)
  have KQ := yy (K0.out.trans k2)
  clear lp' lo' lq' hr k2
  have hszT : w.heap.size ≤ w.heap.size + 1 + 1 := by omega
  have d2 := blk_frozen BQ.out
  have e2 := blk_cell BQ.out
  have f0 := d2 0
  have f1 := d2 1
  have f2 := d2 2
  have f3 := d2 3
  have c0 := e2 0
  have c1 := e2 1
  have c2 := e2 2
  have c3 := e2 3
  simp only [lPa, lPb, lPc] at c0 c1 c2 c3
  have hl := World.block_lt_of_cell? w2 _ c0
  clear d2 e2
  go_wp2_with fail
  have B5 := set4 BQ.out (.int .i64 b'.round) (.slice ap' b'.ps.length np') (.slice ao' b'.os.length no') (.slice aq' b'.ws.length nq')
  have K5 := kept4 KQ.out (.inr hszT) (.int .i64 b'.round) (.slice ap' b'.ps.length np') (.slice ao' b'.os.length no') (.slice aq' b'.ws.length nq')
  have K6 := kept4 (F := (· = w.heap.size + 1 + 1)) (Kept.refl (· = w.heap.size + 1 + 1) w2) (.inl rfl) (.int .i64 b'.round) (.slice ap' b'.ps.length np') (.slice ao' b'.os.length no') (.slice aq' b'.ws.length nq')
  refine bodyPost_ret (results_cell_tmp_row (p := 4) (u := 5) (ty := 28) rfl _ _ (w.heap.size + 1 + 1) 28 _ (0, 0) _ rfl B5 Tryz.underlying28 rfl (by kernel_rfl)) rfl ⟨K5, .inl ⟨b', _, HR.out, rfl, ⟨_, _, _, rfl, ?_, ?_, ?_⟩⟩⟩
  ·exact HP'.out.far K6 BQ.out (by decide) (fun x => ⟨x.id, x.budget, rfl, rfl⟩)
  ·exact HO'.out.far K6 BQ.out (by decide) (fun x => ⟨x.id, x.party, rfl, rfl⟩)
  exact HQ'.out.far K6 BQ.out (by decide) (fun x => ⟨x.edge, x.src, rfl, rfl⟩)
 have HR := yy hr
 have BQ := yy (k2.blk BT.out)
 have KQ := yy (K0.out.trans k2)
 clear hr k2
 have hszT : w.heap.size ≤ w.heap.size + 1 + 1 := by omega
 have d2 := blk_frozen BQ.out
 have e2 := blk_cell BQ.out
 have f0 := d2 0
 have f1 := d2 1
 have f2 := d2 2
 have f3 := d2 3
 have c0 := e2 0
 have c1 := e2 1
 have c2 := e2 2
 have c3 := e2 3
 simp only [lPa, lPb, lPc] at c0 c1 c2 c3
 have hl := World.block_lt_of_cell? w2 _ c0
 clear d2 e2
 go_wp2_with fail
 have B5 := set4 BQ.out (.int .i64 0) (.slice none 0 0) (.slice none 0 0) (.slice none 0 0)
 have K5 := kept4 KQ.out (.inr hszT) (.int .i64 0) (.slice none 0 0) (.slice none 0 0) (.slice none 0 0)
 refine bodyPost_ret (results_cell_tmp_row (p := 4) (u := 5) (ty := 28) rfl _ _ (w.heap.size + 1 + 1) 28 _ (0, 0) _ rfl B5 Tryz.underlying28 rfl (by kernel_rfl)) rfl ⟨K5, .inr ⟨HR.out, rfl⟩⟩
theorem eg80 : ∀ args w, (callFunc 80 args).run Tryz.prog w = .ok (.enter 80 args) w := enters_of Tryz.func80 (by kernel_rfl) rfl
set_option maxHeartbeats 2000000 in
theorem take28 {w : World} {vg vb : Value} {g : Gr} {b : Bk} (hG : GrV w vg g) (hB : BkV w vb b) (hf : Fits g b) {iv : Value} {ids : List Int} (hi : LV w iv ids) (hfi : ids.length ≤ 1000000) :
  Calls Tryz.prog 28 #[vg, vb, iv] w (ChPost w (chk g b (doTake b ids))) := by
 have hmix := mixed
 obtain ⟨v1, v2, v3, rfl, hg⟩ := hG
 obtain ⟨p, o, q, rfl, hp, ho, hq⟩ := hB
 obtain ⟨a1, n1, rfl, l1⟩ := hg.vs
 obtain ⟨a2, n2, rfl, l2⟩ := hg.es
 obtain ⟨a3, n3, rfl, l3⟩ := hg.ds
 obtain ⟨ap, np, rfl, lp⟩ := hp
 obtain ⟨ao, no, rfl, lo⟩ := ho
 obtain ⟨aq, nq, rfl, lq⟩ := hq
 obtain ⟨ai, ci, rfl, li⟩ := hi
 have HI := yy (show LV w (.slice ai ids.length ci) ids from ⟨_, _, rfl, li⟩)
 have HFI2 := yy hfi
 clear li hfi
 have HP := yy (show LV w (.slice ap b.ps.length np) b.ps from ⟨_, _, rfl, lp⟩)
 have HO := yy (show LV w (.slice ao b.os.length no) b.os from ⟨_, _, rfl, lo⟩)
 have HQ := yy (show LV w (.slice aq b.ws.length nq) b.ws from ⟨_, _, rfl, lq⟩)
 have HGA := yy hg
 have HF := yy hf
 clear hg lp lo lq l1 l2 l3 hf
 go_enter Tryz.func28, Tryz.ntmps28
 go_wp2_with fail
 obtain ⟨wa, hwa⟩ : ∃ wa, wa = (((w.alloc (Obj.cells #[Value.slice a1 g.vs.length n1, Value.slice a2 g.es.length n2, Value.slice a3 g.ds.length n3] 38)).alloc (Obj.cells #[Value.int IntKind.i64 b.round, Value.slice ap b.ps.length np, Value.slice ao b.os.length no, Value.slice aq b.ws.length nq] 28)).alloc (Obj.cells #[Value.slice ai ids.length ci] 33)).alloc (Obj.cells #[Value.int IntKind.i64 0, Value.slice none 0 0, Value.slice none 0 0, Value.slice none 0 0] 28) := ⟨_, rfl⟩
 have k0 : Gro w wa := by rw [hwa]; exact ((((Gro.refl _).alloc _).alloc _).alloc _).alloc _
 have bC0 : wa.heap[w.heap.size + 1 + 1]? = some (.cells #[Value.slice ai ids.length ci] 33 (0, 0)) := by
  rw [hwa]
  have := blk_new ((w.alloc (Obj.cells #[Value.slice a1 g.vs.length n1, Value.slice a2 g.es.length n2, Value.slice a3 g.ds.length n3] 38)).alloc (Obj.cells #[Value.int IntKind.i64 b.round, Value.slice ap b.ps.length np, Value.slice ao b.os.length no, Value.slice aq b.ws.length nq] 28)) (Obj.cells #[Value.slice ai ids.length ci] 33)
  rw [asz, asz] at this
  exact blk_alloc (this) _
 have bT : wa.heap[w.heap.size + 1 + 1 + 1]? = some (.cells #[.int .i64 0, .slice none 0 0, .slice none 0 0, .slice none 0 0] 28 (0, 0)) := by
  rw [hwa]
  have := blk_new (((w.alloc (Obj.cells #[Value.slice a1 g.vs.length n1, Value.slice a2 g.es.length n2, Value.slice a3 g.ds.length n3] 38)).alloc (Obj.cells #[Value.int IntKind.i64 b.round, Value.slice ap b.ps.length np, Value.slice ao b.os.length no, Value.slice aq b.ws.length nq] 28)).alloc (Obj.cells #[Value.slice ai ids.length ci] 33)) (Obj.cells #[Value.int IntKind.i64 0, Value.slice none 0 0, Value.slice none 0 0, Value.slice none 0 0] 28)
  rw [asz, asz, asz] at this
  exact this
 rw [← hwa]
 clear hwa
 have hcall := changed61 (HGA.out.gro k0) (HP.out.gro k0) (HO.out.gro k0) (HQ.out.gro k0) HF.out 80 #[.pointer (some ⟨w.heap.size + 1 + 1, 0, none⟩)] eg80 (if validB g b = true then doTake b ids else none)
  (fun b' hb' => by
   split at hb'
   ·exact fits_take (validB_iff.1 (by assumption)) hb'
   ·cases hb')
  (fun hvv => by
   have hv := validB_iff.1 hvv
   have hfv := hv.fits
   have hfi2 := HFI2.out
   rw [if_pos hvv]
   exact do80 bC0 (HI.out.gro k0) hfi2 hv)
 rw [chk_if] at hcall
 refine hcall.mono ?_
 have K0 := yy k0
 have BT := yy bT
 clear hcall k0 bT bC0
 rintro e w2 ⟨k2, (⟨b', v, hr, rfl, hbk⟩ | ⟨hr, rfl⟩)⟩
 ·obtain ⟨p', o', q', rfl, hp', ho', hq'⟩ := hbk
  obtain ⟨ap', np', rfl, lp'⟩ := hp'
  obtain ⟨ao', no', rfl, lo'⟩ := ho'
  obtain ⟨aq', nq', rfl, lq'⟩ := hq'
  have HP' := yy (show LV w2 (.slice ap' b'.ps.length np') b'.ps from ⟨_, _, rfl, lp'⟩)
  have HO' := yy (show LV w2 (.slice ao' b'.os.length no') b'.os from ⟨_, _, rfl, lo'⟩)
  have HQ' := yy (show LV w2 (.slice aq' b'.ws.length nq') b'.ws from ⟨_, _, rfl, lq'⟩)
  have HR := yy hr
  have BQ := yy (k2.blk BT.out)
  have KQ := yy (K0.out.trans k2)
  clear lp' lo' lq' hr k2
  have hszT : w.heap.size ≤ w.heap.size + 1 + 1 + 1 := by omega
  have d2 := blk_frozen BQ.out
  have e2 := blk_cell BQ.out
  have f0 := d2 0
  have f1 := d2 1
  have f2 := d2 2
  have f3 := d2 3
  have c0 := e2 0
  have c1 := e2 1
  have c2 := e2 2
  have c3 := e2 3
  simp only [lPa, lPb, lPc] at c0 c1 c2 c3
  have hl := World.block_lt_of_cell? w2 _ c0
  clear d2 e2
  go_wp2_with fail
  have B5 := set4 BQ.out (.int .i64 b'.round) (.slice ap' b'.ps.length np') (.slice ao' b'.os.length no') (.slice aq' b'.ws.length nq')
  have K5 := kept4 KQ.out (.inr hszT) (.int .i64 b'.round) (.slice ap' b'.ps.length np') (.slice ao' b'.os.length no') (.slice aq' b'.ws.length nq')
  have K6 := kept4 (F := (· = w.heap.size + 1 + 1 + 1)) (Kept.refl (· = w.heap.size + 1 + 1 + 1) w2) (.inl rfl) (.int .i64 b'.round) (.slice ap' b'.ps.length np') (.slice ao' b'.os.length no') (.slice aq' b'.ws.length nq')
  refine bodyPost_ret (results_cell_tmp_row (p := 6) (u := 7) (ty := 28) rfl _ _ (w.heap.size + 1 + 1 + 1) 28 _ (0, 0) _ rfl B5 Tryz.underlying28 rfl (by kernel_rfl)) rfl ⟨K5, .inl ⟨b', _, HR.out, rfl, ⟨_, _, _, rfl, ?_, ?_, ?_⟩⟩⟩
  ·exact HP'.out.far K6 BQ.out (by decide) (fun x => ⟨x.id, x.budget, rfl, rfl⟩)
  ·exact HO'.out.far K6 BQ.out (by decide) (fun x => ⟨x.id, x.party, rfl, rfl⟩)
  exact HQ'.out.far K6 BQ.out (by decide) (fun x => ⟨x.edge, x.src, rfl, rfl⟩)
 have HR := yy hr
 have BQ := yy (k2.blk BT.out)
 have KQ := yy (K0.out.trans k2)
 clear hr k2
 have hszT : w.heap.size ≤ w.heap.size + 1 + 1 + 1 := by omega
 have d2 := blk_frozen BQ.out
 have e2 := blk_cell BQ.out
 have f0 := d2 0
 have f1 := d2 1
 have f2 := d2 2
 have f3 := d2 3
 have c0 := e2 0
 have c1 := e2 1
 have c2 := e2 2
 have c3 := e2 3
 simp only [lPa, lPb, lPc] at c0 c1 c2 c3
 have hl := World.block_lt_of_cell? w2 _ c0
 clear d2 e2
 go_wp2_with fail
 have B5 := set4 BQ.out (.int .i64 0) (.slice none 0 0) (.slice none 0 0) (.slice none 0 0)
 have K5 := kept4 KQ.out (.inr hszT) (.int .i64 0) (.slice none 0 0) (.slice none 0 0) (.slice none 0 0)
 refine bodyPost_ret (results_cell_tmp_row (p := 6) (u := 7) (ty := 28) rfl _ _ (w.heap.size + 1 + 1 + 1) 28 _ (0, 0) _ rfl B5 Tryz.underlying28 rfl (by kernel_rfl)) rfl ⟨K5, .inr ⟨HR.out, rfl⟩⟩
end Go.Proofs.YthfagcdjbmhhcaaGreat
namespace Go.Proofs.YthfagcdjbmhhcaaGreat
open Go.RowKit
theorem LV.farB {α : Type} [Rec α] {w w' : World} {v : Value} {l : List α} {T : Nat} {fr : Nat × Nat} {x0 : Value} {t : TypeId} {a1 a2 a3 : Option Addr} {n1 n2 n3 c1 c2 c3 : Nat} (h : LV w v l) (k : Kept (· = T) w w') (hT : w.heap[T]? = some (.cells #[x0, .slice a1 n1 c1, .slice a2 n2 c2, .slice a3 n3 c3] t fr)) (hk : 1 < Rec.k α)
  (hint : ∀ x : α, ∃ a b, (Rec.cs x)[0]? = some (.int .i64 a) ∧ (Rec.cs x)[1]? = some (.int .i64 b)) : LV w' v l := by
 obtain ⟨a, c, rfl, h2⟩ := h
 refine ⟨a, c, rfl, h2.len, h2.cap, h2.big, ?_⟩
 rcases h2.at_ with h0 | ⟨b, off, rfl, hb, hc⟩
 ·exact .inl h0
 cases l with
 | nil => exact .inl rfl
 | cons x l =>
  refine .inr ⟨b, off, rfl, Nat.lt_of_lt_of_le hb k.size, fun i v hv => k.cell (p := ⟨b, off + i, none⟩) ?_ (hc i v hv)⟩
  intro e
  simp only at e
  subst e
  obtain ⟨y0, y1, e0, e1⟩ := hint x
  have g0 := flat_get (x :: l) 0 (by simp) 0 (by omega)
  have g1 := flat_get (x :: l) 0 (by simp) 1 hk
  simp only [Nat.zero_mul, Nat.zero_add, List.getElem_cons_zero] at g0 g1
  have q0 := hc 0 _ (g0.trans e0)
  have q1 := hc 1 _ (g1.trans e1)
  rw [blk_cell hT] at q0 q1
  rcases off with _ | _ | _ | _ | off <;> simp at q0 q1
theorem OwnL.far {α : Type} [Rec α] {w w' : World} {base : Nat} {v : Value} {l : List α} {T : Nat} {cs : Array Value} {t : TypeId} {fr : Nat × Nat} (h : OwnL w base v l) (k : Kept (· = T) w w') (hT : w.heap[T]? = some (.cells cs t fr)) (hne : t ≠ Rec.ty α) : OwnL w' base v l :=
 h.kept k (fun b hb e => by
  subst e
  obtain ⟨_, _, cur, hc⟩ := h.block hb
  exact blk_ne hT hc hne rfl)
theorem run_app_nothing {α : Type} [RecI α] {w : World} {base : Nat} {v : Value} {l : List α} (hown : OwnL w base v l) (a : Option Addr) (c : Nat) (ty : TypeId) :
  (Builtin.append_ #[Rec.sty α, Rec.sty α] ty #[v, .slice a 0 c]).run Tryz.prog w = .ok v w := by
 obtain ⟨i, hi, hz, hs, hb⟩ := info_parts (RecI.info (α := α))
 have hu := RecI.hu (α := α)
 have hz0 : ∀ (ad : Addr) (w : World), (loadCells ad 0).run Tryz.prog w = .ok #[] w := fun ad w => by simp [loadCells, loadCellsFrom]
 rcases hown.2 with ⟨rfl, _⟩ | ⟨g, cap, cur, rfl, _, _, hnc, _⟩
 ·cases a <;> simp [Builtin.append_, run_underlying hu, sizeOf, typeInfo, hi, Builtin.lenOf, Builtin.firstCells, hz0]
 cases a <;> simp [Builtin.append_, run_underlying hu, sizeOf, typeInfo, hi, Builtin.lenOf, Builtin.firstCells, hnc, hz0, storeCells]
theorem news_of_lst {α : Type} [Rec α] {w : World} {ad : Addr} {n c : Nat} {l : List α} (h : Lst w (some ad) n c l) : ∀ j u, (flat l)[j]? = some u → w.cell? (ad.add j) = some u := by
 intro j u hu
 rcases h.at_ with rfl | ⟨b, off, e, _, hc⟩
 ·simp [flat] at hu
 injection e with e
 subst e
 have hadd : (⟨b, off, none⟩ : Addr).add j = ⟨b, off + j, none⟩ := by unfold Addr.add; split <;> simp_all
 rw [hadd]
 exact hc j u hu
/-- a list is appended to what is the call's own -/
theorem run_appL {α : Type} [RecI α] {w : World} {base : Nat} {v : Value} {l xs : List α} (hown : OwnL w base v l) {a : Option Addr} {n c : Nat} (hx : Lst w a n c xs) (hfew : l.length + xs.length ≤ 1000000000) (hbase : base ≤ w.heap.size) (ty : TypeId) :
  ∃ v' w', (Builtin.append_ #[Rec.sty α, Rec.sty α] ty #[v, .slice a n c]).run Tryz.prog w = .ok v' w' ∧ OwnL w' base v' (l ++ xs) ∧ Kept (ownF v) w w' := by
 have hn := hx.len
 by_cases hz : xs = []
 ·subst hz
  obtain rfl : n = 0 := by simpa using hn
  exact ⟨v, w, run_app_nothing hown a c ty, by rw [List.append_nil]; exact hown, Kept.refl _ _⟩
 cases a with
 | none =>
  rcases hx.at_ with h | ⟨b, off, h, _⟩
  ·exact absurd h hz
  cases h
 | some ad =>
 obtain ⟨v', w', h1, h2, h3, _⟩ := run_app hown ad n c xs hn.symm (news_of_lst hx) (by omega) hbase ty
 exact ⟨v', w', h1, h2, h3⟩
/-- a list that is not empty is appended to a slice without room -/
theorem run_appcap {α : Type} [RecI α] {w : World} {a0 : Option Addr} {n0 : Nat} {l xs : List α} (h0 : Lst w a0 n0 n0 l) (hnil : a0 = none → n0 = 0) {a : Option Addr} {n c : Nat} (hx : Lst w a n c xs) (hne : xs ≠ []) (hfew : l.length + xs.length ≤ 1000000000) (ty : TypeId) :
  ∃ v' w', (Builtin.append_ #[Rec.sty α, Rec.sty α] ty #[.slice a0 n0 n0, .slice a n c]).run Tryz.prog w = .ok v' w' ∧ OwnL w' w.heap.size v' (l ++ xs) ∧ Gro w w' := by
 obtain ⟨i, hi, hz, hs, hb⟩ := info_parts (RecI.info (α := α))
 have hbp := RecI.bpos (α := α)
 have hn0 := h0.len
 have hn := hx.len
 have hpos : 0 < xs.length := by cases xs with | nil => exact absurd rfl hne | cons x xs => simp
 cases a with
 | none =>
  rcases hx.at_ with h | ⟨b, off, h, _⟩
  ·exact absurd h hne
  cases h
 | some ad =>
 cases a0 with
 | none =>
  obtain rfl := hnil rfl
  have hl : l = [] := List.eq_nil_of_length_eq_zero hn0.symm
  subst hl
  obtain ⟨v', w', h1, h2, h3, _⟩ := run_app (OwnL.nil (α := α) w w.heap.size) ad n c xs hn.symm (news_of_lst hx) (by simp; omega) (Nat.le_refl _) ty
  exact ⟨v', w', h1, h2, Kept.mono h3 (fun i hi => by cases hi)⟩
 | some ad0 =>
 obtain ⟨v', w', h1, h2, h3⟩ := run_append_arg_grows (P := Tryz.prog) w (Rec.sty α) ty (Rec.ty α) i (RecI.z α) (Rec.k α) (RecI.by_ α) RecI.hu hi hz hs hb RecI.zs RecI.kpos ad0 n0 n0 (flat l) (by rw [flat_length, hn0]) (news_of_lst h0) ad n c (flat xs)
  (by rw [flat_length, hn]) (news_of_lst hx) (by omega) (by unfold maxLen; omega) (by
   have : (n0 + n) * RecI.by_ α ≤ 1000000000 * 64 := Nat.mul_le_mul (by omega) hbp
   omega)
 refine ⟨v', w', h1, ?_, Kept.mono (Kept.of_run h1 h3) (fun i hi => by cases hi)⟩
 show w'.ownsRow _ _ _ _ _ _
 rw [List.length_append, ← hn0, ← hn, flat_append]
 exact h2
section
variable {α : Type} [RecI α] {w : World} {ops : Array Oper} {o : Oper} {a : Act} {K : Act → World → Prop} {Q : Exit → Act → World → Prop} {E : Prop}
theorem step_run (hgd : o.guard = none) (s x : Operand) (t : TypeId) (ho : o.op = .call { callee := .builtin .append, args := #[s, x], argTypes := #[t, t] }) (vs vx : Value) (hs : a.eval s = vs) (hx : a.eval x = vx)
  {v' : Value} {w' : World} (hr : (Builtin.append_ #[t, t] o.type #[vs, vx]).run Tryz.prog w = .ok v' w') (h : K (a.put o.dst v') w') :
  if Region.wanted o (yielded ops a.tmps) = true then Oper.wp Tryz.prog o a w K Q else E := by
 have hw : Region.wanted o (yielded ops a.tmps) = true := by simp [Region.wanted, hgd]
 rw [if_pos hw]
 unfold Oper.wp
 simp only [execOp, ho, resolve, invoke, builtin, Sem.run_bind, Sem.run_pure, Result.andThen_ok, List.map_toArray, List.map_cons, List.map_nil, hs, hx, hr]
 exact h
end
end Go.Proofs.YthfagcdjbmhhcaaGreat
namespace Go.Proofs.YthfagcdjbmhhcaaGreat
open Go.RowKit
theorem ins_at {α : Type} (key : α → Int) (x : α) : ∀ (l : List α) (i : Nat) (hi : i ≤ l.length), (∀ j (h : j < l.length), j < i → key l[j] < key x) → (∀ h : i < l.length, key x ≤ key l[i]) → insAt l i x = ins key x l
 | [], i, hi, _, _ => by
  obtain rfl : i = 0 := by simpa using hi
  rfl
 | y :: l, 0, _, _, h => by
  have := h (by simp)
  simp only [List.getElem_cons_zero] at this
  unfold ins
  rw [if_neg (by omega)]
  rfl
 | y :: l, i + 1, hi, hl, h => by
  have h0 := hl 0 (by simp) (by omega)
  simp only [List.getElem_cons_zero] at h0
  have ih := ins_at key x l i (by simpa using hi) (fun j hj hji => by
   have := hl (j + 1) (by simpa using hj) (by omega)
   simpa using this) (fun hh => by
   have := h (by simpa using hh)
   simpa using this)
  unfold ins
  rw [if_pos h0, ← ih]
  simp [insAt]
theorem own_single {α : Type} [RecI α] (x : α) (w : World) : OwnL (w.alloc (.cells (Rec.cs x).toArray (Rec.ty α))) w.heap.size (.slice (some ⟨w.heap.size, 0, none⟩) 1 1) [x] := by
 have hlen := Rec.len x
 refine ⟨by rw [flat_length], .inr ⟨w.heap.size, 1, (Rec.cs x).toArray, rfl, Nat.le_refl _, blk_new _ _, Nat.le_refl _, by decide, by simp [hlen], ?_⟩⟩
 simp only [flat, List.flatMap_cons, List.flatMap_nil, List.append_nil]
 rw [List.take_of_length_le]
 simp [hlen]
theorem lst_take {α : Type} [Rec α] {w : World} {g cap : Nat} {l : List α} (h : Lst w (some ⟨g, 0, none⟩) l.length cap l) (i : Nat) (hi : i ≤ l.length) : Lst w (some ⟨g, 0, none⟩) i i (l.take i) := by
 refine ⟨by rw [List.length_take]; omega, Nat.le_refl _, by have := h.big; omega, ?_⟩
 rcases h.at_ with rfl | ⟨b, off, e, hb, hc⟩
 ·left; simp
 refine .inr ⟨b, off, e, hb, fun j v hv => hc j v ?_⟩
 have e2 : flat l = flat (l.take i) ++ flat (l.drop i) := by rw [← flat_append, List.take_append_drop]
 rw [e2, List.getElem?_append_left (List.getElem?_eq_some_iff.1 hv).1]
 exact hv
theorem lst_drop {α : Type} [Rec α] {w : World} {g cap : Nat} {l : List α} (h : Lst w (some ⟨g, 0, none⟩) l.length cap l) (i : Nat) (hi : i ≤ l.length) : Lst w (some ⟨g, i * Rec.k α, none⟩) (l.length - i) (cap - i) (l.drop i) := by
 refine ⟨by rw [List.length_drop], by have := h.cap; omega, by have := h.big; omega, ?_⟩
 by_cases hz : l.drop i = []
 ·exact .inl hz
 rcases h.at_ with rfl | ⟨b, off, e, hb, hc⟩
 ·left; simp
 injection e with e
 injection e with e1 e2 _
 subst e1 e2
 refine .inr ⟨g, i * Rec.k α, rfl, hb, fun j v hv => ?_⟩
 have h1 := hc (i * Rec.k α + j) v (by
  have e2 : flat l = flat (l.take i) ++ flat (l.drop i) := by rw [← flat_append, List.take_append_drop]
  have hl : (flat (l.take i)).length = i * Rec.k α := by rw [flat_length, List.length_take, Nat.min_eq_left hi]
  rw [e2, List.getElem?_append_right (by omega), hl, Nat.add_sub_cancel_left]
  exact hv)
 simpa using h1
theorem lst_drop_if {α : Type} [Rec α] {w : World} {g cap : Nat} {l : List α} (h : Lst w (some ⟨g, 0, none⟩) l.length cap l) (i : Nat) (hi : i ≤ l.length) : Lst w (if cap = i then some ⟨g, 0, none⟩ else some ⟨g, i * Rec.k α, none⟩) (l.length - i) (cap - i) (l.drop i) := by
 split
 ·rename_i e
  have hc := h.cap
  have hz : l.drop i = [] := by rw [List.drop_eq_nil_iff]; omega
  exact ⟨by rw [List.length_drop], by omega, by have := h.big; omega, .inl hz⟩
 exact lst_drop h i hi
theorem lst_nil {α : Type} [Rec α] (w : World) (c : Nat) : Lst w none 0 c ([] : List α) := ⟨rfl, Nat.zero_le _, by omega, .inl rfl⟩
theorem own_lst {α : Type} [Rec α] {w : World} {base n c : Nat} {a : Option Addr} {l : List α} (h : OwnL w base (.slice a n c) l) (hb : l.length ≤ 4611686018427387903) : Lst w a n c l := by
 obtain ⟨a', c', e, h2⟩ := h.lv hb
 injection e with e1 e2 e3
 subst e1 e3 e2
 exact h2
theorem own_cases {α : Type} [Rec α] {w : World} {base : Nat} {v : Value} {l : List α} (h : OwnL w base v l) : (v = .slice none 0 0 ∧ l = []) ∨ ∃ g cap, v = .slice (some ⟨g, 0, none⟩) l.length cap ∧ l.length ≤ cap := by
 rcases h.2 with ⟨h0, hz⟩ | ⟨g, cap, cur, h0, _, _, hc, _⟩
 ·exact .inl ⟨h0, List.eq_nil_of_length_eq_zero hz⟩
 exact .inr ⟨g, cap, h0, hc⟩
/-- the world after an edge's six fields are written -/
def set6w (w : World) (T : Nat) (y0 y1 y2 y3 y4 y5 : Value) : World :=
 (((((w.setCell ⟨T, 0, none⟩ y0).setCell ⟨T, 1, none⟩ y1).setCell ⟨T, 2, none⟩ y2).setCell ⟨T, 3, none⟩ y3).setCell ⟨T, 4, none⟩ y4).setCell ⟨T, 5, none⟩ y5
theorem set6 {w : World} {T : Nat} {x0 x1 x2 x3 x4 x5 : Value} {t : TypeId} {fr : Nat × Nat} (h : w.heap[T]? = some (.cells #[x0, x1, x2, x3, x4, x5] t fr)) (y0 y1 y2 y3 y4 y5 : Value) :
  (set6w w T y0 y1 y2 y3 y4 y5).heap[T]? = some (.cells #[y0, y1, y2, y3, y4, y5] t fr) := by
 unfold set6w
 simpa using blk_set (blk_set (blk_set (blk_set (blk_set (blk_set h 0 y0) 1 y1) 2 y2) 3 y3) 4 y4) 5 y5
theorem kept6 {F : Nat → Prop} {w0 w : World} (h : Kept F w0 w) {T : Nat} (hT : F T ∨ w0.heap.size ≤ T) (y0 y1 y2 y3 y4 y5 : Value) : Kept F w0 (set6w w T y0 y1 y2 y3 y4 y5) :=
 (((((h.setCell (p := ⟨T, 0, none⟩) hT y0).setCell (p := ⟨T, 1, none⟩) hT y1).setCell (p := ⟨T, 2, none⟩) hT y2).setCell (p := ⟨T, 3, none⟩) hT y3).setCell (p := ⟨T, 4, none⟩) hT y4).setCell (p := ⟨T, 5, none⟩) hT y5
end Go.Proofs.YthfagcdjbmhhcaaGreat
