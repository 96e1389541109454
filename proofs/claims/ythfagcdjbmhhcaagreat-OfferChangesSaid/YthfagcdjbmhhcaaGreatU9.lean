/- graph.ApplyAll, where all changes succeed. -/
import Derived.Test.YthfagcdjbmhhcaaGreatU8
set_option linter.unusedVariables false
set_option linter.unusedSimpArgs false
namespace Go.Proofs.YthfagcdjbmhhcaaGreat
open Go.RowKit
attribute [local irreducible] wpQuiet
theorem lfU91 {P : Prop} (h : P := by (intro w0 hSw; have hSw := hSw; have c0 := blk_cell hSw 0; have c1 := blk_cell hSw 1; have c2 := blk_cell hSw 2; simp only [lPa, lPb, lPc] at c0 c1 c2; have hlG := blk_lt hSw; clear hSw; go_simp; try with_reducible rfl)) : P := h
theorem ccells {w : World} {b off : Nat} {l : List Chg} (h : ∀ i v, (flat l)[i]? = some v → w.cell? ⟨b, off + i, none⟩ = some v) {i : Nat} (hi : i < l.length) :
  w.cell? ⟨b, off + i * 13, none⟩ = some (.int .i64 l[i].kind) ∧ w.cell? ⟨b, off + i * 13 + 1, none⟩ = some (.int .i64 l[i].v.id) ∧ w.cell? ⟨b, off + i * 13 + 2, none⟩ = some (.int .i64 l[i].v.side) ∧ w.cell? ⟨b, off + i * 13 + 3, none⟩ = some (.int .i64 l[i].e.id) ∧ w.cell? ⟨b, off + i * 13 + 4, none⟩ = some (.int .i64 l[i].e.src) ∧ w.cell? ⟨b, off + i * 13 + 5, none⟩ = some (.int .i64 l[i].e.dst) ∧ w.cell? ⟨b, off + i * 13 + 6, none⟩ = some (.bool l[i].e.dir) ∧ w.cell? ⟨b, off + i * 13 + 7, none⟩ = some (.int .i64 l[i].e.weight) ∧ w.cell? ⟨b, off + i * 13 + 8, none⟩ = some (.int .i64 l[i].e.cap) ∧ w.cell? ⟨b, off + i * 13 + 9, none⟩ = some (.int .i64 l[i].id) ∧ w.cell? ⟨b, off + i * 13 + 10, none⟩ = some (.int .i64 0) ∧ w.cell? ⟨b, off + i * 13 + 11, none⟩ = some (.slice none 0 0) ∧ w.cell? ⟨b, off + i * 13 + 12, none⟩ = some (.slice none 0 0) :=
 ⟨Lst.cell h hi 0 (by decide) rfl, Lst.cell h hi 1 (by decide) rfl, Lst.cell h hi 2 (by decide) rfl, Lst.cell h hi 3 (by decide) rfl, Lst.cell h hi 4 (by decide) rfl, Lst.cell h hi 5 (by decide) rfl, Lst.cell h hi 6 (by decide) rfl, Lst.cell h hi 7 (by decide) rfl, Lst.cell h hi 8 (by decide) rfl, Lst.cell h hi 9 (by decide) rfl, Lst.cell h hi 10 (by decide) rfl, Lst.cell h hi 11 (by decide) rfl, Lst.cell h hi 12 (by decide) rfl⟩
theorem GoC.at_ : ∀ {l : List Chg} {g : Gr}, VG g → GoC g l → ∀ (k : Nat), VG (endC g (l.take k)) ∧ ∀ (h : k < l.length), OkC (endC g (l.take k)) l[k] ∧ endC g (l.take (k + 1)) = stepG (endC g (l.take k)) l[k]
 | [], g, hv, _, k => ⟨by simpa [endC] using hv, fun h => by simp at h⟩
 | c :: l, g, hv, hg, 0 => ⟨by simpa [endC] using hv, fun _ => ⟨by simpa [endC] using hg.1, by simp [endC]⟩⟩
 | c :: l, g, hv, hg, k + 1 => by
  obtain ⟨h1, h2⟩ := GoC.at_ (hv.step hg.1) hg.2 k
  refine ⟨by simpa [endC] using h1, fun h => ?_⟩
  have h3 := h2 (by simpa using h)
  simpa [endC] using h3
theorem results_cell_tmp2_row {P : Program} {fn : Func} {p u v : Tmp} {ty : TypeId} (h : fn.results = #[.cell p ty, .tmp u, .tmp v]) (tmps : Array Value) (w : World) (g : Nat) (t : TypeId) (cs : Array Value) (fr : Nat × Nat) (d : TypeDesc)
  (hp : tmps.getD p undef = .pointer (some ⟨g, 0, none⟩)) (hg : w.heap[g]? = some (.cells cs t fr))
  (hu : P.underlying ty = some d) (hd : (match d with | .struct _ | .array _ _ => true | _ => false) = true) (hi : (P.info? ty).map (·.size) = some cs.size) :
  (results fn tmps).run P w = .ok (.tuple #[.agg cs, tmps.getD u undef, tmps.getD v undef]) w := by
 have hp' : tmps[p]?.getD undef = .pointer (some ⟨g, 0, none⟩) := by simpa using hp
 simp [results, h, hp', asAddr, run_loadVar_row w g t ty cs fr d hg hu hd hi]
theorem LV.farT {α : Type} [Rec α] {w w' : World} {v : Value} {l : List α} {T : Nat} {fr : Nat × Nat} {t : TypeId} {a1 a2 a3 : Option Addr} {n1 n2 n3 c1 c2 c3 : Nat} (h : LV w v l) (k : Kept (· = T) w w') (hT : w.heap[T]? = some (.cells #[.slice a1 n1 c1, .slice a2 n2 c2, .slice a3 n3 c3] t fr)) (hk : 0 < Rec.k α)
  (hint : ∀ x : α, ∃ a, (Rec.cs x)[0]? = some (.int .i64 a)) : LV w' v l := by
 obtain ⟨a, c, rfl, h2⟩ := h
 refine ⟨a, c, rfl, h2.len, h2.cap, h2.big, ?_⟩
 rcases h2.at_ with h0 | ⟨b, off, rfl, hb, hc⟩
 ·exact .inl h0
 cases l with
 | nil => exact .inl rfl
 | cons x l =>
  refine .inr ⟨b, off, rfl, Nat.lt_of_lt_of_le hb k.size, fun i v hv => k.cell (p := ⟨b, off + i, none⟩) ?_ (hc i v hv)⟩
  intro e
  simp only at e
  subst e
  obtain ⟨y0, e0⟩ := hint x
  have g0 := flat_get (x :: l) 0 (by simp) 0 hk
  simp only [List.getElem_cons_zero, Nat.zero_mul, Nat.zero_add] at g0
  have := hc 0 _ (g0.trans e0)
  rw [blk_cell hT] at this
  rcases off with _ | _ | _ | n <;> simp at this
set_option maxHeartbeats 8000000 in
set_option maxRecDepth 100000 in
theorem all46 {w : World} {v1 v2 v3 lv : Value} {g : Gr} {l : List Chg} (h : GAt w v1 v2 v3 g) (hv : VG g) (hl : LV w lv l) (hg : GoC g l) :
  Calls Tryz.prog 46 #[.agg #[v1, v2, v3], lv] w fun e w' => ∃ u1 u2 u3, e = .returned (.tuple #[.agg #[u1, u2, u3], .int .i64 l.length, .int .i64 0]) ∧ GAt w' u1 u2 u3 (endC g l) ∧ Gro w w' := by
 obtain ⟨hl1, hl2, hl3⟩ := hv.lens
 have hvg : validG g = true := validG_iff.2 hv
 obtain ⟨⟨a1, n1, rfl, q1⟩, ⟨a2, n2, rfl, q2⟩, ⟨a3, n3, rfl, q3⟩⟩ := h
 obtain ⟨al, cl, rfl, ql⟩ := hl
 have L1 := yy (show LV w (.slice a1 g.vs.length n1) g.vs from ⟨_, _, rfl, q1⟩)
 have L2 := yy (show LV w (.slice a2 g.es.length n2) g.es from ⟨_, _, rfl, q2⟩)
 have L3 := yy (show LV w (.slice a3 g.ds.length n3) g.ds from ⟨_, _, rfl, q3⟩)
 have HL := yy ql
 have hbig := ql.big
 have hcap := ql.cap
 have HVG := yy hvg
 have HAT := yy (GoC.at_ hv hg)
 clear q1 q2 q3 ql hvg hv hg
 go_enter Tryz.func46, Tryz.ntmps46
 go_wp2_with fail
 obtain ⟨wa, hwa⟩ : ∃ wa, wa = (w.alloc (Obj.cells #[.slice a1 g.vs.length n1, .slice a2 g.es.length n2, .slice a3 g.ds.length n3] 38)).alloc (Obj.cells #[.slice none 0 0, .slice none 0 0, .slice none 0 0] 38) := ⟨_, rfl⟩
 have k0 : Gro w wa := by rw [hwa]; exact ((Gro.refl _).alloc _).alloc _
 have bG : wa.heap[w.heap.size]? = some (.cells #[.slice a1 g.vs.length n1, .slice a2 g.es.length n2, .slice a3 g.ds.length n3] 38 (0, 0)) := by rw [hwa]; exact blk_alloc (blk_new _ _) _
 have bR : wa.heap[w.heap.size + 1]? = some (.cells #[.slice none 0 0, .slice none 0 0, .slice none 0 0] 38 (0, 0)) := by
  rw [hwa]
  have := blk_new (w.alloc (Obj.cells #[.slice a1 g.vs.length n1, .slice a2 g.es.length n2, .slice a3 g.ds.length n3] 38)) (Obj.cells #[.slice none 0 0, .slice none 0 0, .slice none 0 0] 38)
  rw [asz] at this
  exact this
 rw [← hwa]
 clear hwa
 refine (valid41 (g := g) ⟨L1.out.gro k0, L2.out.gro k0, L3.out.gro k0⟩ ⟨by omega, by omega, by omega⟩).mono ?_
 rintro e w1 ⟨rfl, k1⟩
 rw [HVG.out]
 have BG := yy (k1.blk bG)
 have BR := yy (k1.blk bR)
 have K1 := yy (k0.trans k1)
 have hszG : w.heap.size < w1.heap.size := by have := blk_lt (k1.blk bR); omega
 have hszR : w.heap.size + 1 < w1.heap.size := blk_lt (k1.blk bR)
 clear k0 k1 bG bR HVG
 go_upto_region 3 with fail
 go_cut [7] (fun t wx => ∃ (T : Nat) (u1 u2 u3 : Value), t = .pointer (some ⟨T, 0, none⟩) ∧ w1.heap.size ≤ T ∧ Hid (wx.heap[T]? = some (.cells #[u1, u2, u3] 38 (0, 0))) ∧ Hid (GAt wx u1 u2 u3 g) ∧ Hid (Gro w1 wx))
 case first =>
  have L1 := yy (L1.out.gro K1.out)
  have L2 := yy (L2.out.gro K1.out)
  have L3 := yy (L3.out.gro K1.out)
  refine wp_region_held_drew (S := (fun w' => w'.heap[w.heap.size]? = some (.cells #[.slice a1 g.vs.length n1, .slice a2 g.es.length n2, .slice a3 g.ds.length n3] 38 (0, 0)))) (by kernel_rfl) ((Gro.refl w1).drew.blk BG.out) (fun hHeld => ?_)
  have KV := yy (Gro.refl w1).drew
  clear BG BR HL HAT K1
  generalize w1.drew = V0 at hHeld KV ⊢
  refine tkH 0 (v := ?_) rfl ?_ hHeld ?_
  rotate_left
  ·exact lfU91
  try refine nx ?_
  refine tkH 1 (v := ?_) rfl ?_ hHeld ?_
  rotate_left
  ·exact lfU91
  try refine nx ?_
  refine tkH 3 (v := ?_) rfl ?_ hHeld ?_
  rotate_left
  ·exact lfU91
  try refine nx ?_
  refine tkH 4 (v := ?_) rfl ?_ hHeld ?_
  rotate_left
  ·exact lfU91
  try refine nx ?_
  refine tkH 6 (v := ?_) rfl ?_ hHeld ?_
  rotate_left
  ·exact lfU91
  try refine nx ?_
  refine tkH 7 (v := ?_) rfl ?_ hHeld ?_
  rotate_left
  ·exact lfU91
  try refine nx ?_
  refine wpAnyH_ready (rs := [2, 10]) (by kernel_rfl) (by simp) ?_
  refine AllReadyH.cons (i := 2) rfl (fun K hK => ?_) (AllReadyH.cons (i := 10) rfl (fun K hK => ?_) (AllReadyH.nil))
  ·try go_simp
   refine (clone100 (L1.out.gro KV.out) (by omega)).mono ?_
   rintro _ V1 ⟨u1, rfl, ho, kx⟩
   obtain ⟨zu1, mu1, hz⟩ := ho.form
   subst hz
   have O1 := yy (ho.le (Nat.le_trans (Nat.le_refl _) KV.out.size))
   have KV' := yy (KV.out.trans kx)
   have hS2 : (fun w' => w'.heap[w.heap.size]? = some (.cells #[.slice a1 g.vs.length n1, .slice a2 g.es.length n2, .slice a3 g.ds.length n3] 38 (0, 0))) V1 := kx.blk hHeld
   clear kx ho hHeld KV 
   have KV := KV'
   clear KV'
   try go_simp
   refine hK.out _ _ hS2 (fun hHeld => ?_)
   clear hK K hS2
   try refine nx ?_
   refine wpAnyH_ready (rs := [5, 10]) (by kernel_rfl) (by simp) ?_
   refine AllReadyH.cons (i := 5) rfl (fun K hK => ?_) (AllReadyH.cons (i := 10) rfl (fun K hK => ?_) (AllReadyH.nil))
   ·try go_simp
    refine (clone101 (L2.out.gro KV.out) (by omega)).mono ?_
    rintro _ V2 ⟨u2, rfl, ho, kx⟩
    obtain ⟨zu2, mu2, hz⟩ := ho.form
    subst hz
    have O2 := yy (ho.le (Nat.le_trans (Nat.le_refl _) KV.out.size))
    have O1' := yy (O1.out.gro kx)
    have KV' := yy (KV.out.trans kx)
    have hS2 : (fun w' => w'.heap[w.heap.size]? = some (.cells #[.slice a1 g.vs.length n1, .slice a2 g.es.length n2, .slice a3 g.ds.length n3] 38 (0, 0))) V2 := kx.blk hHeld
    clear kx ho hHeld KV O1
    have KV := KV'
    clear KV'
    have O1 := O1'
    clear O1'
    try go_simp
    refine hK.out _ _ hS2 (fun hHeld => ?_)
    clear hK K hS2
    try refine nx ?_
    refine wpAnyH_ready (rs := [8, 10]) (by kernel_rfl) (by simp) ?_
    refine AllReadyH.cons (i := 8) rfl (fun K hK => ?_) (AllReadyH.cons (i := 10) rfl (fun K hK => ?_) (AllReadyH.nil))
    ·try go_simp
     refine (clone102 (L3.out.gro KV.out) (by omega)).mono ?_
     rintro _ V3 ⟨u3, rfl, ho, kx⟩
     obtain ⟨zu3, mu3, hz⟩ := ho.form
     subst hz
     have O3 := yy (ho.le (Nat.le_trans (Nat.le_refl _) KV.out.size))
     have O1' := yy (O1.out.gro kx)
     have O2' := yy (O2.out.gro kx)
     have KV' := yy (KV.out.trans kx)
     have hS2 : (fun w' => w'.heap[w.heap.size]? = some (.cells #[.slice a1 g.vs.length n1, .slice a2 g.es.length n2, .slice a3 g.ds.length n3] 38 (0, 0))) V3 := kx.blk hHeld
     clear kx ho hHeld KV O1 O2
     have KV := KV'
     clear KV'
     have O1 := O1'
     clear O1'
     have O2 := O2'
     clear O2'
     try go_simp
     refine hK.out _ _ hS2 (fun hHeld => ?_)
     clear hK K hS2
     try refine nx ?_
     refine wpAnyH_ready (rs := [9, 10]) (by kernel_rfl) (by simp) ?_
     refine AllReadyH.cons (i := 9) rfl (fun K hK => ?_) (AllReadyH.cons (i := 10) rfl (fun K hK => ?_) (AllReadyH.nil))
     ·try go_simp
      refine hK.out _ _ hHeld (fun hHeld => ?_)
      clear hK K
      try refine nx ?_
      refine wpAnyH_ready (rs := [10]) (by kernel_rfl) (by simp) ?_
      refine AllReadyH.cons (i := 10) rfl (fun K hK => ?_) (AllReadyH.nil)
      try go_simp
      have kx : Gro V3 (V3.alloc (.cells #[.slice none 0 0, .slice none 0 0, .slice none 0 0] 38)) := (Gro.refl _).alloc _
      have bx := blk_new V3 (.cells #[.slice none 0 0, .slice none 0 0, .slice none 0 0] 38)
      obtain ⟨qAL, hq⟩ : ∃ q, q = V3.heap.size := ⟨_, rfl⟩
      rw [← hq] at bx ⊢
      have AL := yy bx
      have GAL : w1.heap.size ≤ qAL := by rw [hq]; exact KV.out.size
      have O1' := yy (O1.out.gro kx)
      have O2' := yy (O2.out.gro kx)
      have O3' := yy (O3.out.gro kx)
      have KV' := yy (KV.out.trans kx)
      have hS2 : (fun w' => w'.heap[w.heap.size]? = some (.cells #[.slice a1 g.vs.length n1, .slice a2 g.es.length n2, .slice a3 g.ds.length n3] 38 (0, 0))) (V3.alloc (.cells #[.slice none 0 0, .slice none 0 0, .slice none 0 0] 38)) := kx.blk hHeld
      clear kx bx hHeld KV hq O1 O2 O3
      have KV := KV'
      clear KV'
      have O1 := O1'
      clear O1'
      have O2 := O2'
      clear O2'
      have O3 := O3'
      clear O3'
      refine hK.out _ _ hS2 (fun hHeld => ?_)
      clear hK K hS2
      try refine nx ?_
      generalize V3.alloc (.cells #[.slice none 0 0, .slice none 0 0, .slice none 0 0] 38) = V5 at *
      refine wpAnyH_ready (rs := [11]) (by kernel_rfl) (by simp) ?_
      refine AllReadyH.cons (i := 11) rfl (fun K hK => ?_) AllReadyH.nil
      have cQ := blk_cell AL.out
      have s0 := cQ 0
      have s1 := cQ 1
      have s2 := cQ 2
      have fQ := blk_frozen AL.out
      have p0 := fQ 0
      have p1 := fQ 1
      have p2 := fQ 2
      have s4 := blk_lt AL.out
      clear cQ fQ
      simp only [lPa, lPb, lPc] at s0 s1 s2
      go_simp
      have k9 : Kept (· = qAL) V5 (((V5.setCell ⟨qAL, 0, none⟩ (.slice zu1 g.vs.length mu1)).setCell ⟨qAL, 1, none⟩ (.slice zu2 g.es.length mu2)).setCell ⟨qAL, 2, none⟩ (.slice zu3 g.ds.length mu3)) := kept3 (F := (· = qAL)) (Kept.refl (· = qAL) V5) (.inl rfl) (.slice zu1 g.vs.length mu1) (.slice zu2 g.es.length mu2) (.slice zu3 g.ds.length mu3)
      have nGA : w.heap.size ≠ qAL := by have := GAL; have := hszG; omega
      have hS2 : (fun w' => w'.heap[w.heap.size]? = some (.cells #[.slice a1 g.vs.length n1, .slice a2 g.es.length n2, .slice a3 g.ds.length n3] 38 (0, 0))) (((V5.setCell ⟨qAL, 0, none⟩ (.slice zu1 g.vs.length mu1)).setCell ⟨qAL, 1, none⟩ (.slice zu2 g.es.length mu2)).setCell ⟨qAL, 2, none⟩ (.slice zu3 g.ds.length mu3)) := k9.blk hHeld nGA
      refine hK.out _ _ hS2 (fun hHeld => ?_)
      clear hK K hS2 s0 s1 s2 p0 p1 p2 s4
      try refine nx ?_
      refine wpAnyH_done (by kernel_rfl) ?_ _
      go_wp2_with fail
      all_goals go_meet
      exact ⟨qAL, _, _, _, rfl, GAL, yy (set3 AL.out (.slice zu1 g.vs.length mu1) (.slice zu2 g.es.length mu2) (.slice zu3 g.ds.length mu3)), yy ⟨(O1.out.lv (by omega)).far3 k9 AL.out (by decide) (fun x => ⟨x.id, rfl⟩), (O2.out.lv (by omega)).far3 k9 AL.out (by decide) (fun x => ⟨x.id, rfl⟩), (O3.out.lv (by omega)).far3 k9 AL.out (by decide) (fun x => ⟨x, rfl⟩)⟩, yy (kept3 KV.out (.inr GAL) _ _ _)⟩
     try go_simp
     have kx : Gro V3 (V3.alloc (.cells #[.slice none 0 0, .slice none 0 0, .slice none 0 0] 38)) := (Gro.refl _).alloc _
     have bx := blk_new V3 (.cells #[.slice none 0 0, .slice none 0 0, .slice none 0 0] 38)
     obtain ⟨qAL, hq⟩ : ∃ q, q = V3.heap.size := ⟨_, rfl⟩
     rw [← hq] at bx ⊢
     have AL := yy bx
     have GAL : w1.heap.size ≤ qAL := by rw [hq]; exact KV.out.size
     have O1' := yy (O1.out.gro kx)
     have O2' := yy (O2.out.gro kx)
     have O3' := yy (O3.out.gro kx)
     have KV' := yy (KV.out.trans kx)
     have hS2 : (fun w' => w'.heap[w.heap.size]? = some (.cells #[.slice a1 g.vs.length n1, .slice a2 g.es.length n2, .slice a3 g.ds.length n3] 38 (0, 0))) (V3.alloc (.cells #[.slice none 0 0, .slice none 0 0, .slice none 0 0] 38)) := kx.blk hHeld
     clear kx bx hHeld KV hq O1 O2 O3
     have KV := KV'
     clear KV'
     have O1 := O1'
     clear O1'
     have O2 := O2'
     clear O2'
     have O3 := O3'
     clear O3'
     refine hK.out _ _ hS2 (fun hHeld => ?_)
     clear hK K hS2
     try refine nx ?_
     generalize V3.alloc (.cells #[.slice none 0 0, .slice none 0 0, .slice none 0 0] 38) = V6 at *
     refine wpAnyH_ready (rs := [9]) (by kernel_rfl) (by simp) ?_
     refine AllReadyH.cons (i := 9) rfl (fun K hK => ?_) (AllReadyH.nil)
     try go_simp
     refine hK.out _ _ hHeld (fun hHeld => ?_)
     clear hK K
     try refine nx ?_
     refine wpAnyH_ready (rs := [11]) (by kernel_rfl) (by simp) ?_
     refine AllReadyH.cons (i := 11) rfl (fun K hK => ?_) AllReadyH.nil
     have cQ := blk_cell AL.out
     have s0 := cQ 0
     have s1 := cQ 1
     have s2 := cQ 2
     have fQ := blk_frozen AL.out
     have p0 := fQ 0
     have p1 := fQ 1
     have p2 := fQ 2
     have s4 := blk_lt AL.out
     clear cQ fQ
     simp only [lPa, lPb, lPc] at s0 s1 s2
     go_simp
     have k9 : Kept (· = qAL) V6 (((V6.setCell ⟨qAL, 0, none⟩ (.slice zu1 g.vs.length mu1)).setCell ⟨qAL, 1, none⟩ (.slice zu2 g.es.length mu2)).setCell ⟨qAL, 2, none⟩ (.slice zu3 g.ds.length mu3)) := kept3 (F := (· = qAL)) (Kept.refl (· = qAL) V6) (.inl rfl) (.slice zu1 g.vs.length mu1) (.slice zu2 g.es.length mu2) (.slice zu3 g.ds.length mu3)
     have nGA : w.heap.size ≠ qAL := by have := GAL; have := hszG; omega
     have hS2 : (fun w' => w'.heap[w.heap.size]? = some (.cells #[.slice a1 g.vs.length n1, .slice a2 g.es.length n2, .slice a3 g.ds.length n3] 38 (0, 0))) (((V6.setCell ⟨qAL, 0, none⟩ (.slice zu1 g.vs.length mu1)).setCell ⟨qAL, 1, none⟩ (.slice zu2 g.es.length mu2)).setCell ⟨qAL, 2, none⟩ (.slice zu3 g.ds.length mu3)) := k9.blk hHeld nGA
     refine hK.out _ _ hS2 (fun hHeld => ?_)
     clear hK K hS2 s0 s1 s2 p0 p1 p2 s4
     try refine nx ?_
     refine wpAnyH_done (by kernel_rfl) ?_ _
     go_wp2_with fail
     all_goals go_meet
     exact ⟨qAL, _, _, _, rfl, GAL, yy (set3 AL.out (.slice zu1 g.vs.length mu1) (.slice zu2 g.es.length mu2) (.slice zu3 g.ds.length mu3)), yy ⟨(O1.out.lv (by omega)).far3 k9 AL.out (by decide) (fun x => ⟨x.id, rfl⟩), (O2.out.lv (by omega)).far3 k9 AL.out (by decide) (fun x => ⟨x.id, rfl⟩), (O3.out.lv (by omega)).far3 k9 AL.out (by decide) (fun x => ⟨x, rfl⟩)⟩, yy (kept3 KV.out (.inr GAL) _ _ _)⟩
    try go_simp
    have kx : Gro V2 (V2.alloc (.cells #[.slice none 0 0, .slice none 0 0, .slice none 0 0] 38)) := (Gro.refl _).alloc _
    have bx := blk_new V2 (.cells #[.slice none 0 0, .slice none 0 0, .slice none 0 0] 38)
    obtain ⟨qAL, hq⟩ : ∃ q, q = V2.heap.size := ⟨_, rfl⟩
    rw [← hq] at bx ⊢
    have AL := yy bx
    have GAL : w1.heap.size ≤ qAL := by rw [hq]; exact KV.out.size
    have O1' := yy (O1.out.gro kx)
    have O2' := yy (O2.out.gro kx)
    have KV' := yy (KV.out.trans kx)
    have hS2 : (fun w' => w'.heap[w.heap.size]? = some (.cells #[.slice a1 g.vs.length n1, .slice a2 g.es.length n2, .slice a3 g.ds.length n3] 38 (0, 0))) (V2.alloc (.cells #[.slice none 0 0, .slice none 0 0, .slice none 0 0] 38)) := kx.blk hHeld
    clear kx bx hHeld KV hq O1 O2
    have KV := KV'
    clear KV'
    have O1 := O1'
    clear O1'
    have O2 := O2'
    clear O2'
    refine hK.out _ _ hS2 (fun hHeld => ?_)
    clear hK K hS2
    try refine nx ?_
    generalize V2.alloc (.cells #[.slice none 0 0, .slice none 0 0, .slice none 0 0] 38) = V8 at *
    refine wpAnyH_ready (rs := [8]) (by kernel_rfl) (by simp) ?_
    refine AllReadyH.cons (i := 8) rfl (fun K hK => ?_) (AllReadyH.nil)
    try go_simp
    refine (clone102 (L3.out.gro KV.out) (by omega)).mono ?_
    rintro _ V9 ⟨u3, rfl, ho, kx⟩
    obtain ⟨zu3, mu3, hz⟩ := ho.form
    subst hz
    have O3 := yy (ho.le (Nat.le_trans (Nat.le_refl _) KV.out.size))
    have O1' := yy (O1.out.gro kx)
    have O2' := yy (O2.out.gro kx)
    have AL' := yy (Kept.blk (F := fun _ => False) kx AL.out (fun hf => hf))
    have KV' := yy (KV.out.trans kx)
    have hS2 : (fun w' => w'.heap[w.heap.size]? = some (.cells #[.slice a1 g.vs.length n1, .slice a2 g.es.length n2, .slice a3 g.ds.length n3] 38 (0, 0))) V9 := kx.blk hHeld
    clear kx ho hHeld KV O1 O2 AL
    have KV := KV'
    clear KV'
    have O1 := O1'
    clear O1'
    have O2 := O2'
    clear O2'
    have AL := AL'
    clear AL'
    try go_simp
    refine hK.out _ _ hS2 (fun hHeld => ?_)
    clear hK K hS2
    try refine nx ?_
    refine wpAnyH_ready (rs := [9]) (by kernel_rfl) (by simp) ?_
    refine AllReadyH.cons (i := 9) rfl (fun K hK => ?_) (AllReadyH.nil)
    try go_simp
    refine hK.out _ _ hHeld (fun hHeld => ?_)
    clear hK K
    try refine nx ?_
    refine wpAnyH_ready (rs := [11]) (by kernel_rfl) (by simp) ?_
    refine AllReadyH.cons (i := 11) rfl (fun K hK => ?_) AllReadyH.nil
    have cQ := blk_cell AL.out
    have s0 := cQ 0
    have s1 := cQ 1
    have s2 := cQ 2
    have fQ := blk_frozen AL.out
    have p0 := fQ 0
    have p1 := fQ 1
    have p2 := fQ 2
    have s4 := blk_lt AL.out
    clear cQ fQ
    simp only [lPa, lPb, lPc] at s0 s1 s2
    go_simp
    have k9 : Kept (· = qAL) V9 (((V9.setCell ⟨qAL, 0, none⟩ (.slice zu1 g.vs.length mu1)).setCell ⟨qAL, 1, none⟩ (.slice zu2 g.es.length mu2)).setCell ⟨qAL, 2, none⟩ (.slice zu3 g.ds.length mu3)) := kept3 (F := (· = qAL)) (Kept.refl (· = qAL) V9) (.inl rfl) (.slice zu1 g.vs.length mu1) (.slice zu2 g.es.length mu2) (.slice zu3 g.ds.length mu3)
    have nGA : w.heap.size ≠ qAL := by have := GAL; have := hszG; omega
    have hS2 : (fun w' => w'.heap[w.heap.size]? = some (.cells #[.slice a1 g.vs.length n1, .slice a2 g.es.length n2, .slice a3 g.ds.length n3] 38 (0, 0))) (((V9.setCell ⟨qAL, 0, none⟩ (.slice zu1 g.vs.length mu1)).setCell ⟨qAL, 1, none⟩ (.slice zu2 g.es.length mu2)).setCell ⟨qAL, 2, none⟩ (.slice zu3 g.ds.length mu3)) := k9.blk hHeld nGA
    refine hK.out _ _ hS2 (fun hHeld => ?_)
    clear hK K hS2 s0 s1 s2 p0 p1 p2 s4
    try refine nx ?_
    refine wpAnyH_done (by kernel_rfl) ?_ _
    go_wp2_with fail
    all_goals go_meet
    exact ⟨qAL, _, _, _, rfl, GAL, yy (set3 AL.out (.slice zu1 g.vs.length mu1) (.slice zu2 g.es.length mu2) (.slice zu3 g.ds.length mu3)), yy ⟨(O1.out.lv (by omega)).far3 k9 AL.out (by decide) (fun x => ⟨x.id, rfl⟩), (O2.out.lv (by omega)).far3 k9 AL.out (by decide) (fun x => ⟨x.id, rfl⟩), (O3.out.lv (by omega)).far3 k9 AL.out (by decide) (fun x => ⟨x, rfl⟩)⟩, yy (kept3 KV.out (.inr GAL) _ _ _)⟩
   try go_simp
   have kx : Gro V1 (V1.alloc (.cells #[.slice none 0 0, .slice none 0 0, .slice none 0 0] 38)) := (Gro.refl _).alloc _
   have bx := blk_new V1 (.cells #[.slice none 0 0, .slice none 0 0, .slice none 0 0] 38)
   obtain ⟨qAL, hq⟩ : ∃ q, q = V1.heap.size := ⟨_, rfl⟩
   rw [← hq] at bx ⊢
   have AL := yy bx
   have GAL : w1.heap.size ≤ qAL := by rw [hq]; exact KV.out.size
   have O1' := yy (O1.out.gro kx)
   have KV' := yy (KV.out.trans kx)
   have hS2 : (fun w' => w'.heap[w.heap.size]? = some (.cells #[.slice a1 g.vs.length n1, .slice a2 g.es.length n2, .slice a3 g.ds.length n3] 38 (0, 0))) (V1.alloc (.cells #[.slice none 0 0, .slice none 0 0, .slice none 0 0] 38)) := kx.blk hHeld
   clear kx bx hHeld KV hq O1
   have KV := KV'
   clear KV'
   have O1 := O1'
   clear O1'
   refine hK.out _ _ hS2 (fun hHeld => ?_)
   clear hK K hS2
   try refine nx ?_
   generalize V1.alloc (.cells #[.slice none 0 0, .slice none 0 0, .slice none 0 0] 38) = V11 at *
   refine wpAnyH_ready (rs := [5]) (by kernel_rfl) (by simp) ?_
   refine AllReadyH.cons (i := 5) rfl (fun K hK => ?_) (AllReadyH.nil)
   try go_simp
   refine (clone101 (L2.out.gro KV.out) (by omega)).mono ?_
   rintro _ V12 ⟨u2, rfl, ho, kx⟩
   obtain ⟨zu2, mu2, hz⟩ := ho.form
   subst hz
   have O2 := yy (ho.le (Nat.le_trans (Nat.le_refl _) KV.out.size))
   have O1' := yy (O1.out.gro kx)
   have AL' := yy (Kept.blk (F := fun _ => False) kx AL.out (fun hf => hf))
   have KV' := yy (KV.out.trans kx)
   have hS2 : (fun w' => w'.heap[w.heap.size]? = some (.cells #[.slice a1 g.vs.length n1, .slice a2 g.es.length n2, .slice a3 g.ds.length n3] 38 (0, 0))) V12 := kx.blk hHeld
   clear kx ho hHeld KV O1 AL
   have KV := KV'
   clear KV'
   have O1 := O1'
   clear O1'
   have AL := AL'
   clear AL'
   try go_simp
   refine hK.out _ _ hS2 (fun hHeld => ?_)
   clear hK K hS2
   try refine nx ?_
   refine wpAnyH_ready (rs := [8]) (by kernel_rfl) (by simp) ?_
   refine AllReadyH.cons (i := 8) rfl (fun K hK => ?_) (AllReadyH.nil)
   try go_simp
   refine (clone102 (L3.out.gro KV.out) (by omega)).mono ?_
   rintro _ V13 ⟨u3, rfl, ho, kx⟩
   obtain ⟨zu3, mu3, hz⟩ := ho.form
   subst hz
   have O3 := yy (ho.le (Nat.le_trans (Nat.le_refl _) KV.out.size))
   have O1' := yy (O1.out.gro kx)
   have AL' := yy (Kept.blk (F := fun _ => False) kx AL.out (fun hf => hf))
   have O2' := yy (O2.out.gro kx)
   have KV' := yy (KV.out.trans kx)
   have hS2 : (fun w' => w'.heap[w.heap.size]? = some (.cells #[.slice a1 g.vs.length n1, .slice a2 g.es.length n2, .slice a3 g.ds.length n3] 38 (0, 0))) V13 := kx.blk hHeld
   clear kx ho hHeld KV O1 AL O2
   have KV := KV'
   clear KV'
   have O1 := O1'
   clear O1'
   have AL := AL'
   clear AL'
   have O2 := O2'
   clear O2'
   try go_simp
   refine hK.out _ _ hS2 (fun hHeld => ?_)
   clear hK K hS2
   try refine nx ?_
   refine wpAnyH_ready (rs := [9]) (by kernel_rfl) (by simp) ?_
   refine AllReadyH.cons (i := 9) rfl (fun K hK => ?_) (AllReadyH.nil)
   try go_simp
   refine hK.out _ _ hHeld (fun hHeld => ?_)
   clear hK K
   try refine nx ?_
   refine wpAnyH_ready (rs := [11]) (by kernel_rfl) (by simp) ?_
   refine AllReadyH.cons (i := 11) rfl (fun K hK => ?_) AllReadyH.nil
   have cQ := blk_cell AL.out
   have s0 := cQ 0
   have s1 := cQ 1
   have s2 := cQ 2
   have fQ := blk_frozen AL.out
   have p0 := fQ 0
   have p1 := fQ 1
   have p2 := fQ 2
   have s4 := blk_lt AL.out
   clear cQ fQ
   simp only [lPa, lPb, lPc] at s0 s1 s2
   go_simp
   have k9 : Kept (· = qAL) V13 (((V13.setCell ⟨qAL, 0, none⟩ (.slice zu1 g.vs.length mu1)).setCell ⟨qAL, 1, none⟩ (.slice zu2 g.es.length mu2)).setCell ⟨qAL, 2, none⟩ (.slice zu3 g.ds.length mu3)) := kept3 (F := (· = qAL)) (Kept.refl (· = qAL) V13) (.inl rfl) (.slice zu1 g.vs.length mu1) (.slice zu2 g.es.length mu2) (.slice zu3 g.ds.length mu3)
   have nGA : w.heap.size ≠ qAL := by have := GAL; have := hszG; omega
   have hS2 : (fun w' => w'.heap[w.heap.size]? = some (.cells #[.slice a1 g.vs.length n1, .slice a2 g.es.length n2, .slice a3 g.ds.length n3] 38 (0, 0))) (((V13.setCell ⟨qAL, 0, none⟩ (.slice zu1 g.vs.length mu1)).setCell ⟨qAL, 1, none⟩ (.slice zu2 g.es.length mu2)).setCell ⟨qAL, 2, none⟩ (.slice zu3 g.ds.length mu3)) := k9.blk hHeld nGA
   refine hK.out _ _ hS2 (fun hHeld => ?_)
   clear hK K hS2 s0 s1 s2 p0 p1 p2 s4
   try refine nx ?_
   refine wpAnyH_done (by kernel_rfl) ?_ _
   go_wp2_with fail
   all_goals go_meet
   exact ⟨qAL, _, _, _, rfl, GAL, yy (set3 AL.out (.slice zu1 g.vs.length mu1) (.slice zu2 g.es.length mu2) (.slice zu3 g.ds.length mu3)), yy ⟨(O1.out.lv (by omega)).far3 k9 AL.out (by decide) (fun x => ⟨x.id, rfl⟩), (O2.out.lv (by omega)).far3 k9 AL.out (by decide) (fun x => ⟨x.id, rfl⟩), (O3.out.lv (by omega)).far3 k9 AL.out (by decide) (fun x => ⟨x, rfl⟩)⟩, yy (kept3 KV.out (.inr GAL) _ _ _)⟩
  try go_simp
  have kx : Gro V0 (V0.alloc (.cells #[.slice none 0 0, .slice none 0 0, .slice none 0 0] 38)) := (Gro.refl _).alloc _
  have bx := blk_new V0 (.cells #[.slice none 0 0, .slice none 0 0, .slice none 0 0] 38)
  obtain ⟨qAL, hq⟩ : ∃ q, q = V0.heap.size := ⟨_, rfl⟩
  rw [← hq] at bx ⊢
  have AL := yy bx
  have GAL : w1.heap.size ≤ qAL := by rw [hq]; exact KV.out.size
  have KV' := yy (KV.out.trans kx)
  have hS2 : (fun w' => w'.heap[w.heap.size]? = some (.cells #[.slice a1 g.vs.length n1, .slice a2 g.es.length n2, .slice a3 g.ds.length n3] 38 (0, 0))) (V0.alloc (.cells #[.slice none 0 0, .slice none 0 0, .slice none 0 0] 38)) := kx.blk hHeld
  clear kx bx hHeld KV hq 
  have KV := KV'
  clear KV'
  refine hK.out _ _ hS2 (fun hHeld => ?_)
  clear hK K hS2
  try refine nx ?_
  generalize V0.alloc (.cells #[.slice none 0 0, .slice none 0 0, .slice none 0 0] 38) = V15 at *
  refine wpAnyH_ready (rs := [2]) (by kernel_rfl) (by simp) ?_
  refine AllReadyH.cons (i := 2) rfl (fun K hK => ?_) (AllReadyH.nil)
  try go_simp
  refine (clone100 (L1.out.gro KV.out) (by omega)).mono ?_
  rintro _ V16 ⟨u1, rfl, ho, kx⟩
  obtain ⟨zu1, mu1, hz⟩ := ho.form
  subst hz
  have O1 := yy (ho.le (Nat.le_trans (Nat.le_refl _) KV.out.size))
  have AL' := yy (Kept.blk (F := fun _ => False) kx AL.out (fun hf => hf))
  have KV' := yy (KV.out.trans kx)
  have hS2 : (fun w' => w'.heap[w.heap.size]? = some (.cells #[.slice a1 g.vs.length n1, .slice a2 g.es.length n2, .slice a3 g.ds.length n3] 38 (0, 0))) V16 := kx.blk hHeld
  clear kx ho hHeld KV AL
  have KV := KV'
  clear KV'
  have AL := AL'
  clear AL'
  try go_simp
  refine hK.out _ _ hS2 (fun hHeld => ?_)
  clear hK K hS2
  try refine nx ?_
  refine wpAnyH_ready (rs := [5]) (by kernel_rfl) (by simp) ?_
  refine AllReadyH.cons (i := 5) rfl (fun K hK => ?_) (AllReadyH.nil)
  try go_simp
  refine (clone101 (L2.out.gro KV.out) (by omega)).mono ?_
  rintro _ V17 ⟨u2, rfl, ho, kx⟩
  obtain ⟨zu2, mu2, hz⟩ := ho.form
  subst hz
  have O2 := yy (ho.le (Nat.le_trans (Nat.le_refl _) KV.out.size))
  have AL' := yy (Kept.blk (F := fun _ => False) kx AL.out (fun hf => hf))
  have O1' := yy (O1.out.gro kx)
  have KV' := yy (KV.out.trans kx)
  have hS2 : (fun w' => w'.heap[w.heap.size]? = some (.cells #[.slice a1 g.vs.length n1, .slice a2 g.es.length n2, .slice a3 g.ds.length n3] 38 (0, 0))) V17 := kx.blk hHeld
  clear kx ho hHeld KV AL O1
  have KV := KV'
  clear KV'
  have AL := AL'
  clear AL'
  have O1 := O1'
  clear O1'
  try go_simp
  refine hK.out _ _ hS2 (fun hHeld => ?_)
  clear hK K hS2
  try refine nx ?_
  refine wpAnyH_ready (rs := [8]) (by kernel_rfl) (by simp) ?_
  refine AllReadyH.cons (i := 8) rfl (fun K hK => ?_) (AllReadyH.nil)
  try go_simp
  refine (clone102 (L3.out.gro KV.out) (by omega)).mono ?_
  rintro _ V18 ⟨u3, rfl, ho, kx⟩
  obtain ⟨zu3, mu3, hz⟩ := ho.form
  subst hz
  have O3 := yy (ho.le (Nat.le_trans (Nat.le_refl _) KV.out.size))
  have AL' := yy (Kept.blk (F := fun _ => False) kx AL.out (fun hf => hf))
  have O1' := yy (O1.out.gro kx)
  have O2' := yy (O2.out.gro kx)
  have KV' := yy (KV.out.trans kx)
  have hS2 : (fun w' => w'.heap[w.heap.size]? = some (.cells #[.slice a1 g.vs.length n1, .slice a2 g.es.length n2, .slice a3 g.ds.length n3] 38 (0, 0))) V18 := kx.blk hHeld
  clear kx ho hHeld KV AL O1 O2
  have KV := KV'
  clear KV'
  have AL := AL'
  clear AL'
  have O1 := O1'
  clear O1'
  have O2 := O2'
  clear O2'
  try go_simp
  refine hK.out _ _ hS2 (fun hHeld => ?_)
  clear hK K hS2
  try refine nx ?_
  refine wpAnyH_ready (rs := [9]) (by kernel_rfl) (by simp) ?_
  refine AllReadyH.cons (i := 9) rfl (fun K hK => ?_) (AllReadyH.nil)
  try go_simp
  refine hK.out _ _ hHeld (fun hHeld => ?_)
  clear hK K
  try refine nx ?_
  refine wpAnyH_ready (rs := [11]) (by kernel_rfl) (by simp) ?_
  refine AllReadyH.cons (i := 11) rfl (fun K hK => ?_) AllReadyH.nil
  have cQ := blk_cell AL.out
  have s0 := cQ 0
  have s1 := cQ 1
  have s2 := cQ 2
  have fQ := blk_frozen AL.out
  have p0 := fQ 0
  have p1 := fQ 1
  have p2 := fQ 2
  have s4 := blk_lt AL.out
  clear cQ fQ
  simp only [lPa, lPb, lPc] at s0 s1 s2
  go_simp
  have k9 : Kept (· = qAL) V18 (((V18.setCell ⟨qAL, 0, none⟩ (.slice zu1 g.vs.length mu1)).setCell ⟨qAL, 1, none⟩ (.slice zu2 g.es.length mu2)).setCell ⟨qAL, 2, none⟩ (.slice zu3 g.ds.length mu3)) := kept3 (F := (· = qAL)) (Kept.refl (· = qAL) V18) (.inl rfl) (.slice zu1 g.vs.length mu1) (.slice zu2 g.es.length mu2) (.slice zu3 g.ds.length mu3)
  have nGA : w.heap.size ≠ qAL := by have := GAL; have := hszG; omega
  have hS2 : (fun w' => w'.heap[w.heap.size]? = some (.cells #[.slice a1 g.vs.length n1, .slice a2 g.es.length n2, .slice a3 g.ds.length n3] 38 (0, 0))) (((V18.setCell ⟨qAL, 0, none⟩ (.slice zu1 g.vs.length mu1)).setCell ⟨qAL, 1, none⟩ (.slice zu2 g.es.length mu2)).setCell ⟨qAL, 2, none⟩ (.slice zu3 g.ds.length mu3)) := k9.blk hHeld nGA
  refine hK.out _ _ hS2 (fun hHeld => ?_)
  clear hK K hS2 s0 s1 s2 p0 p1 p2 s4
  try refine nx ?_
  refine wpAnyH_done (by kernel_rfl) ?_ _
  go_wp2_with fail
  all_goals go_meet
  exact ⟨qAL, _, _, _, rfl, GAL, yy (set3 AL.out (.slice zu1 g.vs.length mu1) (.slice zu2 g.es.length mu2) (.slice zu3 g.ds.length mu3)), yy ⟨(O1.out.lv (by omega)).far3 k9 AL.out (by decide) (fun x => ⟨x.id, rfl⟩), (O2.out.lv (by omega)).far3 k9 AL.out (by decide) (fun x => ⟨x.id, rfl⟩), (O3.out.lv (by omega)).far3 k9 AL.out (by decide) (fun x => ⟨x, rfl⟩)⟩, yy (kept3 KV.out (.inr GAL) _ _ _)⟩
 case rest =>
 obtain ⟨T, u1, u2, u3, rfl, hT, HT, HX, HK⟩ := hcut
 clear L1 L2 L3 BG
 go_wp2_with fail
 go_loopw [28] (fun t wr => ∃ (k : Nat) (u1 u2 u3 : Value), k ≤ l.length ∧ t = .int .i64 k ∧ Hid (wr.heap[T]? = some (.cells #[u1, u2, u3] 38 (0, 0))) ∧ Hid (GAt wr u1 u2 u3 (endC g (l.take k))) ∧ Hid (Gro w1 wr)) (fun t _ => l.length - (intOf t).toNat)
 case atStart => exact ⟨0, u1, u2, u3, Nat.zero_le _, by go_num, HT, by simpa [endC] using HX, HK⟩
 case round =>
 obtain ⟨k, y1, y2, y3, hk, rfl, HTk, HXk, HKk⟩ := hrel
 clear HT HX HK
 have hvk := (HAT.out k).1
 obtain ⟨x1, x2, x3⟩ := hvk.lens
 obtain ⟨⟨s1, t1, rfl, z1⟩, ⟨s2, t2, rfl, z2⟩, ⟨s3, t3, rfl, z3⟩⟩ := HXk.out
 clear z1 z2 z3
 have cQ := blk_cell HTk.out
 have c0 := cQ 0
 have c1 := cQ 1
 have c2 := cQ 2
 simp only [lPa, lPb, lPc] at c0 c1 c2
 have hlT := blk_lt HTk.out
 clear cQ
 by_cases hlt : k < l.length
 ·obtain ⟨hok, hst⟩ := (HAT.out k).2 hlt
  obtain ⟨b, off, rfl, hb, hcc⟩ := Lst.base HL.out hlt
  have hc' := fun i v hv => (K1.out.trans HKk.out).cell (hcc i v hv)
  obtain ⟨f0, f1, f2, f3, f4, f5, f6, f7, f8, f9, f10, f11, f12⟩ := ccells hc' hlt
  have hlA := World.block_lt_of_cell? _ _ f0
  clear hcc hc'
  generalize l[k] = x at f0 f1 f2 f3 f4 f5 f6 f7 f8 f9 hok hst
  have HV := yy hvk
  have HOK := yy hok
  have HST := yy hst
  clear hvk hok hst
  go_wp2_with fail
  have kA : Gro wr (wr.alloc (.cells #[.int .i64 x.kind, .int .i64 x.v.id, .int .i64 x.v.side, .int .i64 x.e.id, .int .i64 x.e.src, .int .i64 x.e.dst, .bool x.e.dir, .int .i64 x.e.weight, .int .i64 x.e.cap, .int .i64 x.id, .int .i64 0, .slice none 0 0, .slice none 0 0] 86)) := (Gro.refl _).alloc _
  refine (app103 (HXk.out.gro kA) HV.out HOK.out).mono ?_
  rintro e w2 ⟨p1, p2, p3, rfl, hx2, k2⟩
  rw [← HST.out] at hx2
  have HT2 := yy ((kA.trans k2).blk HTk.out)
  have HK2 := yy (HKk.out.trans (kA.trans k2))
  clear kA k2 f0 f1 f2 f3 f4 f5 f6 f7 f8 f9 f10 f11 f12 hlA c0 c1 c2 hlT HTk HKk HV HOK HST HXk
  have hvk' := (HAT.out (k + 1)).1
  obtain ⟨x1', x2', x3'⟩ := hvk'.lens
  obtain ⟨⟨r1, j1, rfl, z1⟩, ⟨r2, j2, rfl, z2⟩, ⟨r3, j3, rfl, z3⟩⟩ := hx2
  have HX2 := yy (show GAt w2 (.slice r1 (endC g (l.take (k + 1))).vs.length j1) (.slice r2 (endC g (l.take (k + 1))).es.length j2) (.slice r3 (endC g (l.take (k + 1))).ds.length j3) (endC g (l.take (k + 1))) from ⟨⟨_, _, rfl, z1⟩, ⟨_, _, rfl, z2⟩, ⟨_, _, rfl, z3⟩⟩)
  clear z1 z2 z3 hvk'
  have HTA := yy (blk_alloc HT2.out (.cells #[.slice r1 (endC g (l.take (k + 1))).vs.length j1, .slice r2 (endC g (l.take (k + 1))).es.length j2, .slice r3 (endC g (l.take (k + 1))).ds.length j3] 38))
  have kB : Gro w2 (w2.alloc (.cells #[.slice r1 (endC g (l.take (k + 1))).vs.length j1, .slice r2 (endC g (l.take (k + 1))).es.length j2, .slice r3 (endC g (l.take (k + 1))).ds.length j3] 38)) := (Gro.refl _).alloc _
  have HXA := yy (HX2.out.gro kB)
  have HKA := yy (HK2.out.trans kB)
  have hlT2 := blk_lt HT2.out
  have hTne : ¬ (w2.heap.size = T) := by omega
  have hTne' : ¬ (T = w2.heap.size) := by omega
  have fQ := blk_frozen HT2.out
  have p0 := fQ 0
  have p1 := fQ 1
  have p2 := fQ 2
  have cQ := blk_cell HT2.out
  have c0 := cQ 0
  have c1 := cQ 1
  have c2 := cQ 2
  simp only [lPa, lPb, lPc] at c0 c1 c2
  clear fQ cQ kB HTA HXA HKA
  generalize (endC g (l.take (k + 1))).vs.length = N1 at *
  generalize (endC g (l.take (k + 1))).es.length = N2 at *
  generalize (endC g (l.take (k + 1))).ds.length = N3 at *
  go_wp2_with fail
  go_roundw
  case rel =>
   have k9 := kept3 (F := (· = T)) (Kept.refl (· = T) w2) (.inl rfl) (.slice r1 N1 j1) (.slice r2 N2 j2) (.slice r3 N3 j3)
   have hg9 : GAt _ (.slice r1 N1 j1) (.slice r2 N2 j2) (.slice r3 N3 j3) _ := ⟨HX2.out.vs.farT k9 HT2.out (by decide) (fun x => ⟨x.id, rfl⟩), HX2.out.es.farT k9 HT2.out (by decide) (fun x => ⟨x.id, rfl⟩), HX2.out.ds.farT k9 HT2.out (by decide) (fun x => ⟨x, rfl⟩)⟩
   exact ⟨k + 1, _, _, _, by omega, by go_num, yy (blk_alloc (set3 HT2.out _ _ _) _), yy (hg9.gro ((Gro.refl _).alloc _)), yy ((kept3 HK2.out (.inr hT) _ _ _).alloc _)⟩
  case measure => simp [intOf]; omega
 have hkl : k = l.length := by omega
 subst hkl
 have hle : l.take l.length = l := List.take_length
 have hE : endC g (l.take l.length) = endC g l := by rw [hle]
 rw [hE] at HXk HTk c0 c1 c2 x1 x2 x3
 clear hvk hE
 have BRk := yy (HKk.out.blk BR.out)
 have hRT : ¬ (w.heap.size + 1 = T) := by omega
 have hRT' : ¬ (T = w.heap.size + 1) := by omega
 have fQ := blk_frozen BRk.out
 have p0 := fQ 0
 have p1 := fQ 1
 have p2 := fQ 2
 have cQ := blk_cell BRk.out
 have r0 := cQ 0
 have r1 := cQ 1
 have r2 := cQ 2
 simp only [lPa, lPb, lPc] at r0 r1 r2
 have hlR := blk_lt BRk.out
 clear fQ cQ
 have hszT : w.heap.size ≤ w.heap.size + 1 := by omega
 go_wp2_with fail
 have B6 := set3 BRk.out (.slice s1 (endC g l).vs.length t1) (.slice s2 (endC g l).es.length t2) (.slice s3 (endC g l).ds.length t3)
 have K6 := kept3 (K1.out.trans HKk.out) (.inr hszT) (.slice s1 (endC g l).vs.length t1) (.slice s2 (endC g l).es.length t2) (.slice s3 (endC g l).ds.length t3)
 have K7 := kept3 (F := (· = w.heap.size + 1)) (Kept.refl (· = w.heap.size + 1) wr) (.inl rfl) (.slice s1 (endC g l).vs.length t1) (.slice s2 (endC g l).es.length t2) (.slice s3 (endC g l).ds.length t3)
 (try simp only [Exit.inBlock, Exit.then])
 refine bodyPost_ret (results_cell_tmp2_row (p := 4) (u := 5) (v := 6) (ty := 38) rfl _ _ (w.heap.size + 1) 38 _ (0, 0) _ rfl B6 Tryz.underlying38 rfl (by kernel_rfl)) rfl ⟨_, _, _, rfl, ⟨?_, ?_, ?_⟩, K6⟩
 ·exact HXk.out.vs.far3 K7 BRk.out (by decide) (fun x => ⟨x.id, rfl⟩)
 ·exact HXk.out.es.far3 K7 BRk.out (by decide) (fun x => ⟨x.id, rfl⟩)
 exact HXk.out.ds.far3 K7 BRk.out (by decide) (fun x => ⟨x, rfl⟩)
end Go.Proofs.YthfagcdjbmhhcaaGreat
