/- graph.Apply, where the change succeeds. -/
import Derived.Test.YthfagcdjbmhhcaaGreatU7
import Derived.Test.YthfagcdjbmhhcaaGreatK13
set_option linter.unusedVariables false
set_option linter.unusedSimpArgs false
namespace Go.Proofs.YthfagcdjbmhhcaaGreat
open Go.RowKit
attribute [local irreducible] wpQuiet
theorem lfU81 {P : Prop} (h : P := by (intro w0 hSw; have hSw := hSw; have c0 := blk_cell hSw 0; have c1 := blk_cell hSw 1; have c2 := blk_cell hSw 2; simp only [lPa, lPb, lPc] at c0 c1 c2; have hlG := blk_lt hSw; clear hSw; go_simp; try with_reducible rfl)) : P := h
theorem isC_ok {g : Gr} {c : Chg} (hc : OkC g c) (w : World) : Calls Tryz.prog 141 #[.agg #[.int .i64 c.kind, .int .i64 c.v.id, .int .i64 c.v.side, .int .i64 c.e.id, .int .i64 c.e.src, .int .i64 c.e.dst, .bool c.e.dir, .int .i64 c.e.weight, .int .i64 c.e.cap, .int .i64 c.id, .int .i64 0, .slice none 0 0, .slice none 0 0]] w fun e w' => e = .returned (.bool true) ∧ Gro w w' := by
 cases hc with
 | dropE x _ => exact isC_dropE w x
 | dropV x _ _ _ => exact isC_dropV w x
 | addV x _ _ => exact isC_addV w x
 | addE x _ _ _ _ => exact isC_addE w x
set_option maxHeartbeats 8000000 in
set_option maxRecDepth 100000 in
theorem app103 {w : World} {v1 v2 v3 : Value} {g : Gr} (h : GAt w v1 v2 v3 g) (hv : VG g) {c : Chg} (hc : OkC g c) :
  Calls Tryz.prog 103 #[.agg #[v1, v2, v3], chgV c] w fun e w' => ∃ u1 u2 u3, e = .returned (.tuple #[.agg #[u1, u2, u3], .int .i64 0]) ∧ GAt w' u1 u2 u3 (stepG g c) ∧ Gro w w' := by
 rw [chgV_eq]
 have hmf : ∀ (fn : Fn) (first cap : Array Value) (w : World), (Instr.makeFunc fn first cap).run Tryz.prog w = .ok (.func fn first cap) w := fun _ _ _ _ => rfl
 obtain ⟨hl1, hl2, hl3⟩ := hv.lens
 obtain ⟨m1, m2, m3⟩ := (hv.step hc).lens
 have hvg : validG g = true := validG_iff.2 hv
 obtain ⟨⟨a1, n1, rfl, q1⟩, ⟨a2, n2, rfl, q2⟩, ⟨a3, n3, rfl, q3⟩⟩ := h
 have L1 := yy (show LV w (.slice a1 g.vs.length n1) g.vs from ⟨_, _, rfl, q1⟩)
 have L2 := yy (show LV w (.slice a2 g.es.length n2) g.es from ⟨_, _, rfl, q2⟩)
 have L3 := yy (show LV w (.slice a3 g.ds.length n3) g.ds from ⟨_, _, rfl, q3⟩)
 have HVG := yy hvg
 have HV := yy hv
 have HCo := yy hc
 clear q1 q2 q3 hvg hv hc
 go_enter Tryz.func103, Tryz.ntmps103
 go_wp2_with fail
 obtain ⟨wa, hwa⟩ : ∃ wa, wa = ((w.alloc (Obj.cells #[.slice a1 g.vs.length n1, .slice a2 g.es.length n2, .slice a3 g.ds.length n3] 38)).alloc (Obj.cells #[.int .i64 c.kind, .int .i64 c.v.id, .int .i64 c.v.side, .int .i64 c.e.id, .int .i64 c.e.src, .int .i64 c.e.dst, .bool c.e.dir, .int .i64 c.e.weight, .int .i64 c.e.cap, .int .i64 c.id, .int .i64 0, .slice none 0 0, .slice none 0 0] 86)).alloc (Obj.cells #[.slice none 0 0, .slice none 0 0, .slice none 0 0] 38) := ⟨_, rfl⟩
 have k0 : Gro w wa := by rw [hwa]; exact (((Gro.refl _).alloc _).alloc _).alloc _
 have bG : wa.heap[w.heap.size]? = some (.cells #[.slice a1 g.vs.length n1, .slice a2 g.es.length n2, .slice a3 g.ds.length n3] 38 (0, 0)) := by rw [hwa]; exact blk_alloc (blk_alloc (blk_new _ _) _) _
 have bC : wa.heap[w.heap.size + 1]? = some (.cells #[.int .i64 c.kind, .int .i64 c.v.id, .int .i64 c.v.side, .int .i64 c.e.id, .int .i64 c.e.src, .int .i64 c.e.dst, .bool c.e.dir, .int .i64 c.e.weight, .int .i64 c.e.cap, .int .i64 c.id, .int .i64 0, .slice none 0 0, .slice none 0 0] 86 (0, 0)) := by
  rw [hwa]
  have := blk_new (w.alloc (Obj.cells #[.slice a1 g.vs.length n1, .slice a2 g.es.length n2, .slice a3 g.ds.length n3] 38)) (Obj.cells #[.int .i64 c.kind, .int .i64 c.v.id, .int .i64 c.v.side, .int .i64 c.e.id, .int .i64 c.e.src, .int .i64 c.e.dst, .bool c.e.dir, .int .i64 c.e.weight, .int .i64 c.e.cap, .int .i64 c.id, .int .i64 0, .slice none 0 0, .slice none 0 0] 86)
  rw [asz] at this
  exact blk_alloc this _
 have bR : wa.heap[w.heap.size + 1 + 1]? = some (.cells #[.slice none 0 0, .slice none 0 0, .slice none 0 0] 38 (0, 0)) := by
  rw [hwa]
  have := blk_new ((w.alloc (Obj.cells #[.slice a1 g.vs.length n1, .slice a2 g.es.length n2, .slice a3 g.ds.length n3] 38)).alloc (Obj.cells #[.int .i64 c.kind, .int .i64 c.v.id, .int .i64 c.v.side, .int .i64 c.e.id, .int .i64 c.e.src, .int .i64 c.e.dst, .bool c.e.dir, .int .i64 c.e.weight, .int .i64 c.e.cap, .int .i64 c.id, .int .i64 0, .slice none 0 0, .slice none 0 0] 86)) (Obj.cells #[.slice none 0 0, .slice none 0 0, .slice none 0 0] 38)
  rw [asz, asz] at this
  exact this
 rw [← hwa]
 clear hwa
 refine (valid41 (g := g) ⟨L1.out.gro k0, L2.out.gro k0, L3.out.gro k0⟩ ⟨by omega, by omega, by omega⟩).mono ?_
 rintro e w1 ⟨rfl, k1⟩
 rw [HVG.out]
 have BG1 := yy (k1.blk bG)
 have BC1 := yy (k1.blk bC)
 have BR1 := yy (k1.blk bR)
 have K1 := yy (k0.trans k1)
 clear k0 k1 bG bC bR HVG
 have cQ := blk_cell BC1.out
 have f0 := cQ 0
 have f1 := cQ 1
 have f2 := cQ 2
 have f3 := cQ 3
 have f4 := cQ 4
 have f5 := cQ 5
 have f6 := cQ 6
 have f7 := cQ 7
 have f8 := cQ 8
 have f9 := cQ 9
 have f10 := cQ 10
 have f11 := cQ 11
 have f12 := cQ 12
 simp only [lPa, lPb, lPc] at f0 f1 f2 f3 f4 f5 f6 f7 f8 f9 f10 f11 f12
 have hlA := blk_lt BC1.out
 clear cQ
 go_wp2_with fail
 refine (isC_ok HCo.out w1).mono ?_
 rintro e w2 ⟨rfl, k2⟩
 have BG := yy (k2.blk BG1.out)
 have BC := yy (k2.blk BC1.out)
 have BR := yy (k2.blk BR1.out)
 have K2 := yy (K1.out.trans k2)
 clear f0 f1 f2 f3 f4 f5 f6 f7 f8 f9 f10 f11 f12 hlA BG1 BC1 BR1 K1 k2
 go_upto_region 3 with fail
 go_cut [6] (fun t wx => ∃ (O B : Nat) (u1 u2 u3 : Value), t = .pointer (some ⟨O, 0, none⟩) ∧ Hid (CAt (fun _ => False) w2 w2.heap.size wx B u1 u2 u3 g) ∧ Hid (wx.heap[O]? = some (.cells #[.pointer (some ⟨B, 0, none⟩)] 126 (0, 0))))
 case first =>
  have L1 := yy (L1.out.gro K2.out)
  have L2 := yy (L2.out.gro K2.out)
  have L3 := yy (L3.out.gro K2.out)
  refine wp_region_held_drew (S := (fun w' => w'.heap[w.heap.size]? = some (.cells #[.slice a1 g.vs.length n1, .slice a2 g.es.length n2, .slice a3 g.ds.length n3] 38 (0, 0)))) (by kernel_rfl) ((Gro.refl w2).drew.blk BG.out) (fun hHeld => ?_)
  have KV := yy (Gro.refl w2).drew
  clear BG BC BR HV HCo K2
  generalize w2.drew = V0 at hHeld KV ⊢
  refine tkH 0 (v := ?_) rfl ?_ hHeld ?_
  rotate_left
  ·exact lfU81
  try refine nx ?_
  refine tkH 1 (v := ?_) rfl ?_ hHeld ?_
  rotate_left
  ·exact lfU81
  try refine nx ?_
  refine tkH 3 (v := ?_) rfl ?_ hHeld ?_
  rotate_left
  ·exact lfU81
  try refine nx ?_
  refine tkH 4 (v := ?_) rfl ?_ hHeld ?_
  rotate_left
  ·exact lfU81
  try refine nx ?_
  refine tkH 6 (v := ?_) rfl ?_ hHeld ?_
  rotate_left
  ·exact lfU81
  try refine nx ?_
  refine tkH 7 (v := ?_) rfl ?_ hHeld ?_
  rotate_left
  ·exact lfU81
  try refine nx ?_
  refine wpAnyH_ready (rs := [2, 12]) (by kernel_rfl) (by simp) ?_
  refine AllReadyH.cons (i := 2) rfl (fun K hK => ?_) (AllReadyH.cons (i := 12) rfl (fun K hK => ?_) (AllReadyH.nil))
  ·try go_simp
   refine (clone100 (L1.out.gro KV.out) (by omega)).mono ?_
   rintro _ V1 ⟨u1, rfl, ho, kx⟩
   obtain ⟨zu1, mu1, hz⟩ := ho.form
   subst hz
   have O1 := yy (ho.le (Nat.le_trans (Nat.le_refl _) KV.out.size))
   have KV' := yy (KV.out.trans kx)
   have hS2 : (fun w' => w'.heap[w.heap.size]? = some (.cells #[.slice a1 g.vs.length n1, .slice a2 g.es.length n2, .slice a3 g.ds.length n3] 38 (0, 0))) V1 := kx.blk hHeld
   clear kx ho hHeld KV 
   have KV := KV'
   clear KV'
   try go_simp
   refine hK.out _ _ hS2 (fun hHeld => ?_)
   clear hK K hS2
   try refine nx ?_
   refine wpAnyH_ready (rs := [5, 12]) (by kernel_rfl) (by simp) ?_
   refine AllReadyH.cons (i := 5) rfl (fun K hK => ?_) (AllReadyH.cons (i := 12) rfl (fun K hK => ?_) (AllReadyH.nil))
   ·try go_simp
    refine (clone101 (L2.out.gro KV.out) (by omega)).mono ?_
    rintro _ V2 ⟨u2, rfl, ho, kx⟩
    obtain ⟨zu2, mu2, hz⟩ := ho.form
    subst hz
    have O2 := yy (ho.le (Nat.le_trans (Nat.le_refl _) KV.out.size))
    have O1' := yy (O1.out.gro kx)
    have KV' := yy (KV.out.trans kx)
    have hS2 : (fun w' => w'.heap[w.heap.size]? = some (.cells #[.slice a1 g.vs.length n1, .slice a2 g.es.length n2, .slice a3 g.ds.length n3] 38 (0, 0))) V2 := kx.blk hHeld
    clear kx ho hHeld KV O1
    have KV := KV'
    clear KV'
    have O1 := O1'
    clear O1'
    try go_simp
    refine hK.out _ _ hS2 (fun hHeld => ?_)
    clear hK K hS2
    try refine nx ?_
    refine wpAnyH_ready (rs := [8, 12]) (by kernel_rfl) (by simp) ?_
    refine AllReadyH.cons (i := 8) rfl (fun K hK => ?_) (AllReadyH.cons (i := 12) rfl (fun K hK => ?_) (AllReadyH.nil))
    ·try go_simp
     refine (clone102 (L3.out.gro KV.out) (by omega)).mono ?_
     rintro _ V3 ⟨u3, rfl, ho, kx⟩
     obtain ⟨zu3, mu3, hz⟩ := ho.form
     subst hz
     have O3 := yy (ho.le (Nat.le_trans (Nat.le_refl _) KV.out.size))
     have O1' := yy (O1.out.gro kx)
     have O2' := yy (O2.out.gro kx)
     have KV' := yy (KV.out.trans kx)
     have hS2 : (fun w' => w'.heap[w.heap.size]? = some (.cells #[.slice a1 g.vs.length n1, .slice a2 g.es.length n2, .slice a3 g.ds.length n3] 38 (0, 0))) V3 := kx.blk hHeld
     clear kx ho hHeld KV O1 O2
     have KV := KV'
     clear KV'
     have O1 := O1'
     clear O1'
     have O2 := O2'
     clear O2'
     try go_simp
     refine hK.out _ _ hS2 (fun hHeld => ?_)
     clear hK K hS2
     try refine nx ?_
     refine wpAnyH_ready (rs := [9, 12]) (by kernel_rfl) (by simp) ?_
     refine AllReadyH.cons (i := 9) rfl (fun K hK => ?_) (AllReadyH.cons (i := 12) rfl (fun K hK => ?_) (AllReadyH.nil))
     ·try go_simp
      refine hK.out _ _ hHeld (fun hHeld => ?_)
      clear hK K
      try refine nx ?_
      refine wpAnyH_ready (rs := [10, 12]) (by kernel_rfl) (by simp) ?_
      refine AllReadyH.cons (i := 10) rfl (fun K hK => ?_) (AllReadyH.cons (i := 12) rfl (fun K hK => ?_) (AllReadyH.nil))
      ·try go_simp
       refine hK.out _ _ hHeld (fun hHeld => ?_)
       clear hK K
       try refine nx ?_
       refine wpAnyH_ready (rs := [11, 12]) (by kernel_rfl) (by simp) ?_
       refine AllReadyH.cons (i := 11) rfl (fun K hK => ?_) (AllReadyH.cons (i := 12) rfl (fun K hK => ?_) (AllReadyH.nil))
       ·try go_simp
        have kx : Gro V3 (V3.alloc (.cells #[.slice zu1 g.vs.length mu1, .slice zu2 g.es.length mu2, .slice zu3 g.ds.length mu3] 128)) := (Gro.refl _).alloc _
        have bx := blk_new V3 (.cells #[.slice zu1 g.vs.length mu1, .slice zu2 g.es.length mu2, .slice zu3 g.ds.length mu3] 128)
        obtain ⟨qBX, hq⟩ : ∃ q, q = V3.heap.size := ⟨_, rfl⟩
        rw [← hq] at bx ⊢
        have BX := yy bx
        have GBX : w2.heap.size ≤ qBX := by rw [hq]; exact KV.out.size
        have O1' := yy (O1.out.gro kx)
        have O2' := yy (O2.out.gro kx)
        have O3' := yy (O3.out.gro kx)
        have KV' := yy (KV.out.trans kx)
        have hS2 : (fun w' => w'.heap[w.heap.size]? = some (.cells #[.slice a1 g.vs.length n1, .slice a2 g.es.length n2, .slice a3 g.ds.length n3] 38 (0, 0))) (V3.alloc (.cells #[.slice zu1 g.vs.length mu1, .slice zu2 g.es.length mu2, .slice zu3 g.ds.length mu3] 128)) := kx.blk hHeld
        clear kx bx hHeld KV hq O1 O2 O3
        have KV := KV'
        clear KV'
        have O1 := O1'
        clear O1'
        have O2 := O2'
        clear O2'
        have O3 := O3'
        clear O3'
        refine hK.out _ _ hS2 (fun hHeld => ?_)
        clear hK K hS2
        try refine nx ?_
        generalize V3.alloc (.cells #[.slice zu1 g.vs.length mu1, .slice zu2 g.es.length mu2, .slice zu3 g.ds.length mu3] 128) = V6 at *
        refine wpAnyH_ready (rs := [12]) (by kernel_rfl) (by simp) ?_
        refine AllReadyH.cons (i := 12) rfl (fun K hK => ?_) (AllReadyH.nil)
        try go_simp
        have kx : Gro V6 (V6.alloc (.cells #[.pointer none] 126)) := (Gro.refl _).alloc _
        have bx := blk_new V6 (.cells #[.pointer none] 126)
        obtain ⟨qAL, hq⟩ : ∃ q, q = V6.heap.size := ⟨_, rfl⟩
        rw [← hq] at bx ⊢
        have AL := yy bx
        have GAL : w2.heap.size ≤ qAL := by rw [hq]; exact KV.out.size
        have O1' := yy (O1.out.gro kx)
        have O2' := yy (O2.out.gro kx)
        have O3' := yy (O3.out.gro kx)
        have BX' := yy (Kept.blk (F := fun _ => False) kx BX.out (fun hf => hf))
        have KV' := yy (KV.out.trans kx)
        have hS2 : (fun w' => w'.heap[w.heap.size]? = some (.cells #[.slice a1 g.vs.length n1, .slice a2 g.es.length n2, .slice a3 g.ds.length n3] 38 (0, 0))) (V6.alloc (.cells #[.pointer none] 126)) := kx.blk hHeld
        clear kx bx hHeld KV hq O1 O2 O3 BX
        have KV := KV'
        clear KV'
        have O1 := O1'
        clear O1'
        have O2 := O2'
        clear O2'
        have O3 := O3'
        clear O3'
        have BX := BX'
        clear BX'
        refine hK.out _ _ hS2 (fun hHeld => ?_)
        clear hK K hS2
        try refine nx ?_
        generalize V6.alloc (.cells #[.pointer none] 126) = V7 at *
        refine wpAnyH_ready (rs := [13]) (by kernel_rfl) (by simp) ?_
        refine AllReadyH.cons (i := 13) rfl (fun K hK => ?_) AllReadyH.nil
        have s0 := blk_cell AL.out 0
        have s1 := blk_frozen AL.out 0
        have s2 := blk_lt AL.out
        simp only [lPa, lPb, lPc] at s0
        go_simp
        have k9 : Kept (· = qAL) V7 (V7.setCell ⟨qAL, 0, none⟩ (.pointer (some ⟨qBX, 0, none⟩))) := (Kept.refl (· = qAL) V7).setCell (p := ⟨qAL, 0, none⟩) (.inl rfl) _
        have nGA : w.heap.size ≠ qAL := blk_ne hHeld AL.out (by decide)
        have nBA : qBX ≠ qAL := blk_ne BX.out AL.out (by decide)
        have hS2 : (fun w' => w'.heap[w.heap.size]? = some (.cells #[.slice a1 g.vs.length n1, .slice a2 g.es.length n2, .slice a3 g.ds.length n3] 38 (0, 0))) (V7.setCell ⟨qAL, 0, none⟩ (.pointer (some ⟨qBX, 0, none⟩))) := k9.blk hHeld nGA
        refine hK.out _ _ hS2 (fun hHeld => ?_)
        clear hK K hS2 s0 s1 s2
        try refine nx ?_
        refine wpAnyH_done (by kernel_rfl) ?_ _
        go_wp2_with fail
        all_goals go_meet
        refine ⟨qAL, qBX, _, _, _, rfl, yy ⟨k9.blk BX.out nBA, O1.out.far k9 AL.out (by decide), O2.out.far k9 AL.out (by decide), O3.out.far k9 AL.out (by decide), Kept.setCell KV.out (.inr GAL) _, Nat.le_refl _, .inr GBX, fun k hk => .inr (O1.out.block hk).1, fun k hk => .inr (O2.out.block hk).1⟩, yy ?_⟩
        simpa using blk_set AL.out 0 (.pointer (some ⟨qBX, 0, none⟩))
       try go_simp
       have kx : Gro V3 (V3.alloc (.cells #[.pointer none] 126)) := (Gro.refl _).alloc _
       have bx := blk_new V3 (.cells #[.pointer none] 126)
       obtain ⟨qAL, hq⟩ : ∃ q, q = V3.heap.size := ⟨_, rfl⟩
       rw [← hq] at bx ⊢
       have AL := yy bx
       have GAL : w2.heap.size ≤ qAL := by rw [hq]; exact KV.out.size
       have O1' := yy (O1.out.gro kx)
       have O2' := yy (O2.out.gro kx)
       have O3' := yy (O3.out.gro kx)
       have KV' := yy (KV.out.trans kx)
       have hS2 : (fun w' => w'.heap[w.heap.size]? = some (.cells #[.slice a1 g.vs.length n1, .slice a2 g.es.length n2, .slice a3 g.ds.length n3] 38 (0, 0))) (V3.alloc (.cells #[.pointer none] 126)) := kx.blk hHeld
       clear kx bx hHeld KV hq O1 O2 O3
       have KV := KV'
       clear KV'
       have O1 := O1'
       clear O1'
       have O2 := O2'
       clear O2'
       have O3 := O3'
       clear O3'
       refine hK.out _ _ hS2 (fun hHeld => ?_)
       clear hK K hS2
       try refine nx ?_
       generalize V3.alloc (.cells #[.pointer none] 126) = V8 at *
       refine wpAnyH_ready (rs := [11]) (by kernel_rfl) (by simp) ?_
       refine AllReadyH.cons (i := 11) rfl (fun K hK => ?_) (AllReadyH.nil)
       try go_simp
       have kx : Gro V8 (V8.alloc (.cells #[.slice zu1 g.vs.length mu1, .slice zu2 g.es.length mu2, .slice zu3 g.ds.length mu3] 128)) := (Gro.refl _).alloc _
       have bx := blk_new V8 (.cells #[.slice zu1 g.vs.length mu1, .slice zu2 g.es.length mu2, .slice zu3 g.ds.length mu3] 128)
       obtain ⟨qBX, hq⟩ : ∃ q, q = V8.heap.size := ⟨_, rfl⟩
       rw [← hq] at bx ⊢
       have BX := yy bx
       have GBX : w2.heap.size ≤ qBX := by rw [hq]; exact KV.out.size
       have O1' := yy (O1.out.gro kx)
       have O2' := yy (O2.out.gro kx)
       have O3' := yy (O3.out.gro kx)
       have AL' := yy (Kept.blk (F := fun _ => False) kx AL.out (fun hf => hf))
       have KV' := yy (KV.out.trans kx)
       have hS2 : (fun w' => w'.heap[w.heap.size]? = some (.cells #[.slice a1 g.vs.length n1, .slice a2 g.es.length n2, .slice a3 g.ds.length n3] 38 (0, 0))) (V8.alloc (.cells #[.slice zu1 g.vs.length mu1, .slice zu2 g.es.length mu2, .slice zu3 g.ds.length mu3] 128)) := kx.blk hHeld
       clear kx bx hHeld KV hq O1 O2 O3 AL
       have KV := KV'
       clear KV'
       have O1 := O1'
       clear O1'
       have O2 := O2'
       clear O2'
       have O3 := O3'
       clear O3'
       have AL := AL'
       clear AL'
       refine hK.out _ _ hS2 (fun hHeld => ?_)
       clear hK K hS2
       try refine nx ?_
       generalize V8.alloc (.cells #[.slice zu1 g.vs.length mu1, .slice zu2 g.es.length mu2, .slice zu3 g.ds.length mu3] 128) = V9 at *
       refine wpAnyH_ready (rs := [13]) (by kernel_rfl) (by simp) ?_
       refine AllReadyH.cons (i := 13) rfl (fun K hK => ?_) AllReadyH.nil
       have s0 := blk_cell AL.out 0
       have s1 := blk_frozen AL.out 0
       have s2 := blk_lt AL.out
       simp only [lPa, lPb, lPc] at s0
       go_simp
       have k9 : Kept (· = qAL) V9 (V9.setCell ⟨qAL, 0, none⟩ (.pointer (some ⟨qBX, 0, none⟩))) := (Kept.refl (· = qAL) V9).setCell (p := ⟨qAL, 0, none⟩) (.inl rfl) _
       have nGA : w.heap.size ≠ qAL := blk_ne hHeld AL.out (by decide)
       have nBA : qBX ≠ qAL := blk_ne BX.out AL.out (by decide)
       have hS2 : (fun w' => w'.heap[w.heap.size]? = some (.cells #[.slice a1 g.vs.length n1, .slice a2 g.es.length n2, .slice a3 g.ds.length n3] 38 (0, 0))) (V9.setCell ⟨qAL, 0, none⟩ (.pointer (some ⟨qBX, 0, none⟩))) := k9.blk hHeld nGA
       refine hK.out _ _ hS2 (fun hHeld => ?_)
       clear hK K hS2 s0 s1 s2
       try refine nx ?_
       refine wpAnyH_done (by kernel_rfl) ?_ _
       go_wp2_with fail
       all_goals go_meet
       refine ⟨qAL, qBX, _, _, _, rfl, yy ⟨k9.blk BX.out nBA, O1.out.far k9 AL.out (by decide), O2.out.far k9 AL.out (by decide), O3.out.far k9 AL.out (by decide), Kept.setCell KV.out (.inr GAL) _, Nat.le_refl _, .inr GBX, fun k hk => .inr (O1.out.block hk).1, fun k hk => .inr (O2.out.block hk).1⟩, yy ?_⟩
       simpa using blk_set AL.out 0 (.pointer (some ⟨qBX, 0, none⟩))
      try go_simp
      have kx : Gro V3 (V3.alloc (.cells #[.pointer none] 126)) := (Gro.refl _).alloc _
      have bx := blk_new V3 (.cells #[.pointer none] 126)
      obtain ⟨qAL, hq⟩ : ∃ q, q = V3.heap.size := ⟨_, rfl⟩
      rw [← hq] at bx ⊢
      have AL := yy bx
      have GAL : w2.heap.size ≤ qAL := by rw [hq]; exact KV.out.size
      have O1' := yy (O1.out.gro kx)
      have O2' := yy (O2.out.gro kx)
      have O3' := yy (O3.out.gro kx)
      have KV' := yy (KV.out.trans kx)
      have hS2 : (fun w' => w'.heap[w.heap.size]? = some (.cells #[.slice a1 g.vs.length n1, .slice a2 g.es.length n2, .slice a3 g.ds.length n3] 38 (0, 0))) (V3.alloc (.cells #[.pointer none] 126)) := kx.blk hHeld
      clear kx bx hHeld KV hq O1 O2 O3
      have KV := KV'
      clear KV'
      have O1 := O1'
      clear O1'
      have O2 := O2'
      clear O2'
      have O3 := O3'
      clear O3'
      refine hK.out _ _ hS2 (fun hHeld => ?_)
      clear hK K hS2
      try refine nx ?_
      generalize V3.alloc (.cells #[.pointer none] 126) = V10 at *
      refine wpAnyH_ready (rs := [10]) (by kernel_rfl) (by simp) ?_
      refine AllReadyH.cons (i := 10) rfl (fun K hK => ?_) (AllReadyH.nil)
      try go_simp
      refine hK.out _ _ hHeld (fun hHeld => ?_)
      clear hK K
      try refine nx ?_
      refine wpAnyH_ready (rs := [11]) (by kernel_rfl) (by simp) ?_
      refine AllReadyH.cons (i := 11) rfl (fun K hK => ?_) (AllReadyH.nil)
      try go_simp
      have kx : Gro V10 (V10.alloc (.cells #[.slice zu1 g.vs.length mu1, .slice zu2 g.es.length mu2, .slice zu3 g.ds.length mu3] 128)) := (Gro.refl _).alloc _
      have bx := blk_new V10 (.cells #[.slice zu1 g.vs.length mu1, .slice zu2 g.es.length mu2, .slice zu3 g.ds.length mu3] 128)
      obtain ⟨qBX, hq⟩ : ∃ q, q = V10.heap.size := ⟨_, rfl⟩
      rw [← hq] at bx ⊢
      have BX := yy bx
      have GBX : w2.heap.size ≤ qBX := by rw [hq]; exact KV.out.size
      have O1' := yy (O1.out.gro kx)
      have O2' := yy (O2.out.gro kx)
      have O3' := yy (O3.out.gro kx)
      have AL' := yy (Kept.blk (F := fun _ => False) kx AL.out (fun hf => hf))
      have KV' := yy (KV.out.trans kx)
      have hS2 : (fun w' => w'.heap[w.heap.size]? = some (.cells #[.slice a1 g.vs.length n1, .slice a2 g.es.length n2, .slice a3 g.ds.length n3] 38 (0, 0))) (V10.alloc (.cells #[.slice zu1 g.vs.length mu1, .slice zu2 g.es.length mu2, .slice zu3 g.ds.length mu3] 128)) := kx.blk hHeld
      clear kx bx hHeld KV hq O1 O2 O3 AL
      have KV := KV'
      clear KV'
      have O1 := O1'
      clear O1'
      have O2 := O2'
      clear O2'
      have O3 := O3'
      clear O3'
      have AL := AL'
      clear AL'
      refine hK.out _ _ hS2 (fun hHeld => ?_)
      clear hK K hS2
      try refine nx ?_
      generalize V10.alloc (.cells #[.slice zu1 g.vs.length mu1, .slice zu2 g.es.length mu2, .slice zu3 g.ds.length mu3] 128) = V12 at *
      refine wpAnyH_ready (rs := [13]) (by kernel_rfl) (by simp) ?_
      refine AllReadyH.cons (i := 13) rfl (fun K hK => ?_) AllReadyH.nil
      have s0 := blk_cell AL.out 0
      have s1 := blk_frozen AL.out 0
      have s2 := blk_lt AL.out
      simp only [lPa, lPb, lPc] at s0
      go_simp
      have k9 : Kept (· = qAL) V12 (V12.setCell ⟨qAL, 0, none⟩ (.pointer (some ⟨qBX, 0, none⟩))) := (Kept.refl (· = qAL) V12).setCell (p := ⟨qAL, 0, none⟩) (.inl rfl) _
      have nGA : w.heap.size ≠ qAL := blk_ne hHeld AL.out (by decide)
      have nBA : qBX ≠ qAL := blk_ne BX.out AL.out (by decide)
      have hS2 : (fun w' => w'.heap[w.heap.size]? = some (.cells #[.slice a1 g.vs.length n1, .slice a2 g.es.length n2, .slice a3 g.ds.length n3] 38 (0, 0))) (V12.setCell ⟨qAL, 0, none⟩ (.pointer (some ⟨qBX, 0, none⟩))) := k9.blk hHeld nGA
      refine hK.out _ _ hS2 (fun hHeld => ?_)
      clear hK K hS2 s0 s1 s2
      try refine nx ?_
      refine wpAnyH_done (by kernel_rfl) ?_ _
      go_wp2_with fail
      all_goals go_meet
      refine ⟨qAL, qBX, _, _, _, rfl, yy ⟨k9.blk BX.out nBA, O1.out.far k9 AL.out (by decide), O2.out.far k9 AL.out (by decide), O3.out.far k9 AL.out (by decide), Kept.setCell KV.out (.inr GAL) _, Nat.le_refl _, .inr GBX, fun k hk => .inr (O1.out.block hk).1, fun k hk => .inr (O2.out.block hk).1⟩, yy ?_⟩
      simpa using blk_set AL.out 0 (.pointer (some ⟨qBX, 0, none⟩))
     try go_simp
     have kx : Gro V3 (V3.alloc (.cells #[.pointer none] 126)) := (Gro.refl _).alloc _
     have bx := blk_new V3 (.cells #[.pointer none] 126)
     obtain ⟨qAL, hq⟩ : ∃ q, q = V3.heap.size := ⟨_, rfl⟩
     rw [← hq] at bx ⊢
     have AL := yy bx
     have GAL : w2.heap.size ≤ qAL := by rw [hq]; exact KV.out.size
     have O1' := yy (O1.out.gro kx)
     have O2' := yy (O2.out.gro kx)
     have O3' := yy (O3.out.gro kx)
     have KV' := yy (KV.out.trans kx)
     have hS2 : (fun w' => w'.heap[w.heap.size]? = some (.cells #[.slice a1 g.vs.length n1, .slice a2 g.es.length n2, .slice a3 g.ds.length n3] 38 (0, 0))) (V3.alloc (.cells #[.pointer none] 126)) := kx.blk hHeld
     clear kx bx hHeld KV hq O1 O2 O3
     have KV := KV'
     clear KV'
     have O1 := O1'
     clear O1'
     have O2 := O2'
     clear O2'
     have O3 := O3'
     clear O3'
     refine hK.out _ _ hS2 (fun hHeld => ?_)
     clear hK K hS2
     try refine nx ?_
     generalize V3.alloc (.cells #[.pointer none] 126) = V13 at *
     refine wpAnyH_ready (rs := [9]) (by kernel_rfl) (by simp) ?_
     refine AllReadyH.cons (i := 9) rfl (fun K hK => ?_) (AllReadyH.nil)
     try go_simp
     refine hK.out _ _ hHeld (fun hHeld => ?_)
     clear hK K
     try refine nx ?_
     refine wpAnyH_ready (rs := [10]) (by kernel_rfl) (by simp) ?_
     refine AllReadyH.cons (i := 10) rfl (fun K hK => ?_) (AllReadyH.nil)
     try go_simp
     refine hK.out _ _ hHeld (fun hHeld => ?_)
     clear hK K
     try refine nx ?_
     refine wpAnyH_ready (rs := [11]) (by kernel_rfl) (by simp) ?_
     refine AllReadyH.cons (i := 11) rfl (fun K hK => ?_) (AllReadyH.nil)
     try go_simp
     have kx : Gro V13 (V13.alloc (.cells #[.slice zu1 g.vs.length mu1, .slice zu2 g.es.length mu2, .slice zu3 g.ds.length mu3] 128)) := (Gro.refl _).alloc _
     have bx := blk_new V13 (.cells #[.slice zu1 g.vs.length mu1, .slice zu2 g.es.length mu2, .slice zu3 g.ds.length mu3] 128)
     obtain ⟨qBX, hq⟩ : ∃ q, q = V13.heap.size := ⟨_, rfl⟩
     rw [← hq] at bx ⊢
     have BX := yy bx
     have GBX : w2.heap.size ≤ qBX := by rw [hq]; exact KV.out.size
     have O1' := yy (O1.out.gro kx)
     have O2' := yy (O2.out.gro kx)
     have O3' := yy (O3.out.gro kx)
     have AL' := yy (Kept.blk (F := fun _ => False) kx AL.out (fun hf => hf))
     have KV' := yy (KV.out.trans kx)
     have hS2 : (fun w' => w'.heap[w.heap.size]? = some (.cells #[.slice a1 g.vs.length n1, .slice a2 g.es.length n2, .slice a3 g.ds.length n3] 38 (0, 0))) (V13.alloc (.cells #[.slice zu1 g.vs.length mu1, .slice zu2 g.es.length mu2, .slice zu3 g.ds.length mu3] 128)) := kx.blk hHeld
     clear kx bx hHeld KV hq O1 O2 O3 AL
     have KV := KV'
     clear KV'
     have O1 := O1'
     clear O1'
     have O2 := O2'
     clear O2'
     have O3 := O3'
     clear O3'
     have AL := AL'
     clear AL'
     refine hK.out _ _ hS2 (fun hHeld => ?_)
     clear hK K hS2
     try refine nx ?_
     generalize V13.alloc (.cells #[.slice zu1 g.vs.length mu1, .slice zu2 g.es.length mu2, .slice zu3 g.ds.length mu3] 128) = V16 at *
     refine wpAnyH_ready (rs := [13]) (by kernel_rfl) (by simp) ?_
     refine AllReadyH.cons (i := 13) rfl (fun K hK => ?_) AllReadyH.nil
     have s0 := blk_cell AL.out 0
     have s1 := blk_frozen AL.out 0
     have s2 := blk_lt AL.out
     simp only [lPa, lPb, lPc] at s0
     go_simp
     have k9 : Kept (· = qAL) V16 (V16.setCell ⟨qAL, 0, none⟩ (.pointer (some ⟨qBX, 0, none⟩))) := (Kept.refl (· = qAL) V16).setCell (p := ⟨qAL, 0, none⟩) (.inl rfl) _
     have nGA : w.heap.size ≠ qAL := blk_ne hHeld AL.out (by decide)
     have nBA : qBX ≠ qAL := blk_ne BX.out AL.out (by decide)
     have hS2 : (fun w' => w'.heap[w.heap.size]? = some (.cells #[.slice a1 g.vs.length n1, .slice a2 g.es.length n2, .slice a3 g.ds.length n3] 38 (0, 0))) (V16.setCell ⟨qAL, 0, none⟩ (.pointer (some ⟨qBX, 0, none⟩))) := k9.blk hHeld nGA
     refine hK.out _ _ hS2 (fun hHeld => ?_)
     clear hK K hS2 s0 s1 s2
     try refine nx ?_
     refine wpAnyH_done (by kernel_rfl) ?_ _
     go_wp2_with fail
     all_goals go_meet
     refine ⟨qAL, qBX, _, _, _, rfl, yy ⟨k9.blk BX.out nBA, O1.out.far k9 AL.out (by decide), O2.out.far k9 AL.out (by decide), O3.out.far k9 AL.out (by decide), Kept.setCell KV.out (.inr GAL) _, Nat.le_refl _, .inr GBX, fun k hk => .inr (O1.out.block hk).1, fun k hk => .inr (O2.out.block hk).1⟩, yy ?_⟩
     simpa using blk_set AL.out 0 (.pointer (some ⟨qBX, 0, none⟩))
    try go_simp
    have kx : Gro V2 (V2.alloc (.cells #[.pointer none] 126)) := (Gro.refl _).alloc _
    have bx := blk_new V2 (.cells #[.pointer none] 126)
    obtain ⟨qAL, hq⟩ : ∃ q, q = V2.heap.size := ⟨_, rfl⟩
    rw [← hq] at bx ⊢
    have AL := yy bx
    have GAL : w2.heap.size ≤ qAL := by rw [hq]; exact KV.out.size
    have O1' := yy (O1.out.gro kx)
    have O2' := yy (O2.out.gro kx)
    have KV' := yy (KV.out.trans kx)
    have hS2 : (fun w' => w'.heap[w.heap.size]? = some (.cells #[.slice a1 g.vs.length n1, .slice a2 g.es.length n2, .slice a3 g.ds.length n3] 38 (0, 0))) (V2.alloc (.cells #[.pointer none] 126)) := kx.blk hHeld
    clear kx bx hHeld KV hq O1 O2
    have KV := KV'
    clear KV'
    have O1 := O1'
    clear O1'
    have O2 := O2'
    clear O2'
    refine hK.out _ _ hS2 (fun hHeld => ?_)
    clear hK K hS2
    try refine nx ?_
    generalize V2.alloc (.cells #[.pointer none] 126) = V17 at *
    refine wpAnyH_ready (rs := [8]) (by kernel_rfl) (by simp) ?_
    refine AllReadyH.cons (i := 8) rfl (fun K hK => ?_) (AllReadyH.nil)
    try go_simp
    refine (clone102 (L3.out.gro KV.out) (by omega)).mono ?_
    rintro _ V18 ⟨u3, rfl, ho, kx⟩
    obtain ⟨zu3, mu3, hz⟩ := ho.form
    subst hz
    have O3 := yy (ho.le (Nat.le_trans (Nat.le_refl _) KV.out.size))
    have O1' := yy (O1.out.gro kx)
    have O2' := yy (O2.out.gro kx)
    have AL' := yy (Kept.blk (F := fun _ => False) kx AL.out (fun hf => hf))
    have KV' := yy (KV.out.trans kx)
    have hS2 : (fun w' => w'.heap[w.heap.size]? = some (.cells #[.slice a1 g.vs.length n1, .slice a2 g.es.length n2, .slice a3 g.ds.length n3] 38 (0, 0))) V18 := kx.blk hHeld
    clear kx ho hHeld KV O1 O2 AL
    have KV := KV'
    clear KV'
    have O1 := O1'
    clear O1'
    have O2 := O2'
    clear O2'
    have AL := AL'
    clear AL'
    try go_simp
    refine hK.out _ _ hS2 (fun hHeld => ?_)
    clear hK K hS2
    try refine nx ?_
    refine wpAnyH_ready (rs := [9]) (by kernel_rfl) (by simp) ?_
    refine AllReadyH.cons (i := 9) rfl (fun K hK => ?_) (AllReadyH.nil)
    try go_simp
    refine hK.out _ _ hHeld (fun hHeld => ?_)
    clear hK K
    try refine nx ?_
    refine wpAnyH_ready (rs := [10]) (by kernel_rfl) (by simp) ?_
    refine AllReadyH.cons (i := 10) rfl (fun K hK => ?_) (AllReadyH.nil)
    try go_simp
    refine hK.out _ _ hHeld (fun hHeld => ?_)
    clear hK K
    try refine nx ?_
    refine wpAnyH_ready (rs := [11]) (by kernel_rfl) (by simp) ?_
    refine AllReadyH.cons (i := 11) rfl (fun K hK => ?_) (AllReadyH.nil)
    try go_simp
    have kx : Gro V18 (V18.alloc (.cells #[.slice zu1 g.vs.length mu1, .slice zu2 g.es.length mu2, .slice zu3 g.ds.length mu3] 128)) := (Gro.refl _).alloc _
    have bx := blk_new V18 (.cells #[.slice zu1 g.vs.length mu1, .slice zu2 g.es.length mu2, .slice zu3 g.ds.length mu3] 128)
    obtain ⟨qBX, hq⟩ : ∃ q, q = V18.heap.size := ⟨_, rfl⟩
    rw [← hq] at bx ⊢
    have BX := yy bx
    have GBX : w2.heap.size ≤ qBX := by rw [hq]; exact KV.out.size
    have O1' := yy (O1.out.gro kx)
    have O2' := yy (O2.out.gro kx)
    have AL' := yy (Kept.blk (F := fun _ => False) kx AL.out (fun hf => hf))
    have O3' := yy (O3.out.gro kx)
    have KV' := yy (KV.out.trans kx)
    have hS2 : (fun w' => w'.heap[w.heap.size]? = some (.cells #[.slice a1 g.vs.length n1, .slice a2 g.es.length n2, .slice a3 g.ds.length n3] 38 (0, 0))) (V18.alloc (.cells #[.slice zu1 g.vs.length mu1, .slice zu2 g.es.length mu2, .slice zu3 g.ds.length mu3] 128)) := kx.blk hHeld
    clear kx bx hHeld KV hq O1 O2 AL O3
    have KV := KV'
    clear KV'
    have O1 := O1'
    clear O1'
    have O2 := O2'
    clear O2'
    have AL := AL'
    clear AL'
    have O3 := O3'
    clear O3'
    refine hK.out _ _ hS2 (fun hHeld => ?_)
    clear hK K hS2
    try refine nx ?_
    generalize V18.alloc (.cells #[.slice zu1 g.vs.length mu1, .slice zu2 g.es.length mu2, .slice zu3 g.ds.length mu3] 128) = V21 at *
    refine wpAnyH_ready (rs := [13]) (by kernel_rfl) (by simp) ?_
    refine AllReadyH.cons (i := 13) rfl (fun K hK => ?_) AllReadyH.nil
    have s0 := blk_cell AL.out 0
    have s1 := blk_frozen AL.out 0
    have s2 := blk_lt AL.out
    simp only [lPa, lPb, lPc] at s0
    go_simp
    have k9 : Kept (· = qAL) V21 (V21.setCell ⟨qAL, 0, none⟩ (.pointer (some ⟨qBX, 0, none⟩))) := (Kept.refl (· = qAL) V21).setCell (p := ⟨qAL, 0, none⟩) (.inl rfl) _
    have nGA : w.heap.size ≠ qAL := blk_ne hHeld AL.out (by decide)
    have nBA : qBX ≠ qAL := blk_ne BX.out AL.out (by decide)
    have hS2 : (fun w' => w'.heap[w.heap.size]? = some (.cells #[.slice a1 g.vs.length n1, .slice a2 g.es.length n2, .slice a3 g.ds.length n3] 38 (0, 0))) (V21.setCell ⟨qAL, 0, none⟩ (.pointer (some ⟨qBX, 0, none⟩))) := k9.blk hHeld nGA
    refine hK.out _ _ hS2 (fun hHeld => ?_)
    clear hK K hS2 s0 s1 s2
    try refine nx ?_
    refine wpAnyH_done (by kernel_rfl) ?_ _
    go_wp2_with fail
    all_goals go_meet
    refine ⟨qAL, qBX, _, _, _, rfl, yy ⟨k9.blk BX.out nBA, O1.out.far k9 AL.out (by decide), O2.out.far k9 AL.out (by decide), O3.out.far k9 AL.out (by decide), Kept.setCell KV.out (.inr GAL) _, Nat.le_refl _, .inr GBX, fun k hk => .inr (O1.out.block hk).1, fun k hk => .inr (O2.out.block hk).1⟩, yy ?_⟩
    simpa using blk_set AL.out 0 (.pointer (some ⟨qBX, 0, none⟩))
   try go_simp
   have kx : Gro V1 (V1.alloc (.cells #[.pointer none] 126)) := (Gro.refl _).alloc _
   have bx := blk_new V1 (.cells #[.pointer none] 126)
   obtain ⟨qAL, hq⟩ : ∃ q, q = V1.heap.size := ⟨_, rfl⟩
   rw [← hq] at bx ⊢
   have AL := yy bx
   have GAL : w2.heap.size ≤ qAL := by rw [hq]; exact KV.out.size
   have O1' := yy (O1.out.gro kx)
   have KV' := yy (KV.out.trans kx)
   have hS2 : (fun w' => w'.heap[w.heap.size]? = some (.cells #[.slice a1 g.vs.length n1, .slice a2 g.es.length n2, .slice a3 g.ds.length n3] 38 (0, 0))) (V1.alloc (.cells #[.pointer none] 126)) := kx.blk hHeld
   clear kx bx hHeld KV hq O1
   have KV := KV'
   clear KV'
   have O1 := O1'
   clear O1'
   refine hK.out _ _ hS2 (fun hHeld => ?_)
   clear hK K hS2
   try refine nx ?_
   generalize V1.alloc (.cells #[.pointer none] 126) = V22 at *
   refine wpAnyH_ready (rs := [5]) (by kernel_rfl) (by simp) ?_
   refine AllReadyH.cons (i := 5) rfl (fun K hK => ?_) (AllReadyH.nil)
   try go_simp
   refine (clone101 (L2.out.gro KV.out) (by omega)).mono ?_
   rintro _ V23 ⟨u2, rfl, ho, kx⟩
   obtain ⟨zu2, mu2, hz⟩ := ho.form
   subst hz
   have O2 := yy (ho.le (Nat.le_trans (Nat.le_refl _) KV.out.size))
   have O1' := yy (O1.out.gro kx)
   have AL' := yy (Kept.blk (F := fun _ => False) kx AL.out (fun hf => hf))
   have KV' := yy (KV.out.trans kx)
   have hS2 : (fun w' => w'.heap[w.heap.size]? = some (.cells #[.slice a1 g.vs.length n1, .slice a2 g.es.length n2, .slice a3 g.ds.length n3] 38 (0, 0))) V23 := kx.blk hHeld
   clear kx ho hHeld KV O1 AL
   have KV := KV'
   clear KV'
   have O1 := O1'
   clear O1'
   have AL := AL'
   clear AL'
   try go_simp
   refine hK.out _ _ hS2 (fun hHeld => ?_)
   clear hK K hS2
   try refine nx ?_
   refine wpAnyH_ready (rs := [8]) (by kernel_rfl) (by simp) ?_
   refine AllReadyH.cons (i := 8) rfl (fun K hK => ?_) (AllReadyH.nil)
   try go_simp
   refine (clone102 (L3.out.gro KV.out) (by omega)).mono ?_
   rintro _ V24 ⟨u3, rfl, ho, kx⟩
   obtain ⟨zu3, mu3, hz⟩ := ho.form
   subst hz
   have O3 := yy (ho.le (Nat.le_trans (Nat.le_refl _) KV.out.size))
   have O1' := yy (O1.out.gro kx)
   have AL' := yy (Kept.blk (F := fun _ => False) kx AL.out (fun hf => hf))
   have O2' := yy (O2.out.gro kx)
   have KV' := yy (KV.out.trans kx)
   have hS2 : (fun w' => w'.heap[w.heap.size]? = some (.cells #[.slice a1 g.vs.length n1, .slice a2 g.es.length n2, .slice a3 g.ds.length n3] 38 (0, 0))) V24 := kx.blk hHeld
   clear kx ho hHeld KV O1 AL O2
   have KV := KV'
   clear KV'
   have O1 := O1'
   clear O1'
   have AL := AL'
   clear AL'
   have O2 := O2'
   clear O2'
   try go_simp
   refine hK.out _ _ hS2 (fun hHeld => ?_)
   clear hK K hS2
   try refine nx ?_
   refine wpAnyH_ready (rs := [9]) (by kernel_rfl) (by simp) ?_
   refine AllReadyH.cons (i := 9) rfl (fun K hK => ?_) (AllReadyH.nil)
   try go_simp
   refine hK.out _ _ hHeld (fun hHeld => ?_)
   clear hK K
   try refine nx ?_
   refine wpAnyH_ready (rs := [10]) (by kernel_rfl) (by simp) ?_
   refine AllReadyH.cons (i := 10) rfl (fun K hK => ?_) (AllReadyH.nil)
   try go_simp
   refine hK.out _ _ hHeld (fun hHeld => ?_)
   clear hK K
   try refine nx ?_
   refine wpAnyH_ready (rs := [11]) (by kernel_rfl) (by simp) ?_
   refine AllReadyH.cons (i := 11) rfl (fun K hK => ?_) (AllReadyH.nil)
   try go_simp
   have kx : Gro V24 (V24.alloc (.cells #[.slice zu1 g.vs.length mu1, .slice zu2 g.es.length mu2, .slice zu3 g.ds.length mu3] 128)) := (Gro.refl _).alloc _
   have bx := blk_new V24 (.cells #[.slice zu1 g.vs.length mu1, .slice zu2 g.es.length mu2, .slice zu3 g.ds.length mu3] 128)
   obtain ⟨qBX, hq⟩ : ∃ q, q = V24.heap.size := ⟨_, rfl⟩
   rw [← hq] at bx ⊢
   have BX := yy bx
   have GBX : w2.heap.size ≤ qBX := by rw [hq]; exact KV.out.size
   have O1' := yy (O1.out.gro kx)
   have AL' := yy (Kept.blk (F := fun _ => False) kx AL.out (fun hf => hf))
   have O2' := yy (O2.out.gro kx)
   have O3' := yy (O3.out.gro kx)
   have KV' := yy (KV.out.trans kx)
   have hS2 : (fun w' => w'.heap[w.heap.size]? = some (.cells #[.slice a1 g.vs.length n1, .slice a2 g.es.length n2, .slice a3 g.ds.length n3] 38 (0, 0))) (V24.alloc (.cells #[.slice zu1 g.vs.length mu1, .slice zu2 g.es.length mu2, .slice zu3 g.ds.length mu3] 128)) := kx.blk hHeld
   clear kx bx hHeld KV hq O1 AL O2 O3
   have KV := KV'
   clear KV'
   have O1 := O1'
   clear O1'
   have AL := AL'
   clear AL'
   have O2 := O2'
   clear O2'
   have O3 := O3'
   clear O3'
   refine hK.out _ _ hS2 (fun hHeld => ?_)
   clear hK K hS2
   try refine nx ?_
   generalize V24.alloc (.cells #[.slice zu1 g.vs.length mu1, .slice zu2 g.es.length mu2, .slice zu3 g.ds.length mu3] 128) = V27 at *
   refine wpAnyH_ready (rs := [13]) (by kernel_rfl) (by simp) ?_
   refine AllReadyH.cons (i := 13) rfl (fun K hK => ?_) AllReadyH.nil
   have s0 := blk_cell AL.out 0
   have s1 := blk_frozen AL.out 0
   have s2 := blk_lt AL.out
   simp only [lPa, lPb, lPc] at s0
   go_simp
   have k9 : Kept (· = qAL) V27 (V27.setCell ⟨qAL, 0, none⟩ (.pointer (some ⟨qBX, 0, none⟩))) := (Kept.refl (· = qAL) V27).setCell (p := ⟨qAL, 0, none⟩) (.inl rfl) _
   have nGA : w.heap.size ≠ qAL := blk_ne hHeld AL.out (by decide)
   have nBA : qBX ≠ qAL := blk_ne BX.out AL.out (by decide)
   have hS2 : (fun w' => w'.heap[w.heap.size]? = some (.cells #[.slice a1 g.vs.length n1, .slice a2 g.es.length n2, .slice a3 g.ds.length n3] 38 (0, 0))) (V27.setCell ⟨qAL, 0, none⟩ (.pointer (some ⟨qBX, 0, none⟩))) := k9.blk hHeld nGA
   refine hK.out _ _ hS2 (fun hHeld => ?_)
   clear hK K hS2 s0 s1 s2
   try refine nx ?_
   refine wpAnyH_done (by kernel_rfl) ?_ _
   go_wp2_with fail
   all_goals go_meet
   refine ⟨qAL, qBX, _, _, _, rfl, yy ⟨k9.blk BX.out nBA, O1.out.far k9 AL.out (by decide), O2.out.far k9 AL.out (by decide), O3.out.far k9 AL.out (by decide), Kept.setCell KV.out (.inr GAL) _, Nat.le_refl _, .inr GBX, fun k hk => .inr (O1.out.block hk).1, fun k hk => .inr (O2.out.block hk).1⟩, yy ?_⟩
   simpa using blk_set AL.out 0 (.pointer (some ⟨qBX, 0, none⟩))
  try go_simp
  have kx : Gro V0 (V0.alloc (.cells #[.pointer none] 126)) := (Gro.refl _).alloc _
  have bx := blk_new V0 (.cells #[.pointer none] 126)
  obtain ⟨qAL, hq⟩ : ∃ q, q = V0.heap.size := ⟨_, rfl⟩
  rw [← hq] at bx ⊢
  have AL := yy bx
  have GAL : w2.heap.size ≤ qAL := by rw [hq]; exact KV.out.size
  have KV' := yy (KV.out.trans kx)
  have hS2 : (fun w' => w'.heap[w.heap.size]? = some (.cells #[.slice a1 g.vs.length n1, .slice a2 g.es.length n2, .slice a3 g.ds.length n3] 38 (0, 0))) (V0.alloc (.cells #[.pointer none] 126)) := kx.blk hHeld
  clear kx bx hHeld KV hq 
  have KV := KV'
  clear KV'
  refine hK.out _ _ hS2 (fun hHeld => ?_)
  clear hK K hS2
  try refine nx ?_
  generalize V0.alloc (.cells #[.pointer none] 126) = V28 at *
  refine wpAnyH_ready (rs := [2]) (by kernel_rfl) (by simp) ?_
  refine AllReadyH.cons (i := 2) rfl (fun K hK => ?_) (AllReadyH.nil)
  try go_simp
  refine (clone100 (L1.out.gro KV.out) (by omega)).mono ?_
  rintro _ V29 ⟨u1, rfl, ho, kx⟩
  obtain ⟨zu1, mu1, hz⟩ := ho.form
  subst hz
  have O1 := yy (ho.le (Nat.le_trans (Nat.le_refl _) KV.out.size))
  have AL' := yy (Kept.blk (F := fun _ => False) kx AL.out (fun hf => hf))
  have KV' := yy (KV.out.trans kx)
  have hS2 : (fun w' => w'.heap[w.heap.size]? = some (.cells #[.slice a1 g.vs.length n1, .slice a2 g.es.length n2, .slice a3 g.ds.length n3] 38 (0, 0))) V29 := kx.blk hHeld
  clear kx ho hHeld KV AL
  have KV := KV'
  clear KV'
  have AL := AL'
  clear AL'
  try go_simp
  refine hK.out _ _ hS2 (fun hHeld => ?_)
  clear hK K hS2
  try refine nx ?_
  refine wpAnyH_ready (rs := [5]) (by kernel_rfl) (by simp) ?_
  refine AllReadyH.cons (i := 5) rfl (fun K hK => ?_) (AllReadyH.nil)
  try go_simp
  refine (clone101 (L2.out.gro KV.out) (by omega)).mono ?_
  rintro _ V30 ⟨u2, rfl, ho, kx⟩
  obtain ⟨zu2, mu2, hz⟩ := ho.form
  subst hz
  have O2 := yy (ho.le (Nat.le_trans (Nat.le_refl _) KV.out.size))
  have AL' := yy (Kept.blk (F := fun _ => False) kx AL.out (fun hf => hf))
  have O1' := yy (O1.out.gro kx)
  have KV' := yy (KV.out.trans kx)
  have hS2 : (fun w' => w'.heap[w.heap.size]? = some (.cells #[.slice a1 g.vs.length n1, .slice a2 g.es.length n2, .slice a3 g.ds.length n3] 38 (0, 0))) V30 := kx.blk hHeld
  clear kx ho hHeld KV AL O1
  have KV := KV'
  clear KV'
  have AL := AL'
  clear AL'
  have O1 := O1'
  clear O1'
  try go_simp
  refine hK.out _ _ hS2 (fun hHeld => ?_)
  clear hK K hS2
  try refine nx ?_
  refine wpAnyH_ready (rs := [8]) (by kernel_rfl) (by simp) ?_
  refine AllReadyH.cons (i := 8) rfl (fun K hK => ?_) (AllReadyH.nil)
  try go_simp
  refine (clone102 (L3.out.gro KV.out) (by omega)).mono ?_
  rintro _ V31 ⟨u3, rfl, ho, kx⟩
  obtain ⟨zu3, mu3, hz⟩ := ho.form
  subst hz
  have O3 := yy (ho.le (Nat.le_trans (Nat.le_refl _) KV.out.size))
  have AL' := yy (Kept.blk (F := fun _ => False) kx AL.out (fun hf => hf))
  have O1' := yy (O1.out.gro kx)
  have O2' := yy (O2.out.gro kx)
  have KV' := yy (KV.out.trans kx)
  have hS2 : (fun w' => w'.heap[w.heap.size]? = some (.cells #[.slice a1 g.vs.length n1, .slice a2 g.es.length n2, .slice a3 g.ds.length n3] 38 (0, 0))) V31 := kx.blk hHeld
  clear kx ho hHeld KV AL O1 O2
  have KV := KV'
  clear KV'
  have AL := AL'
  clear AL'
  have O1 := O1'
  clear O1'
  have O2 := O2'
  clear O2'
  try go_simp
  refine hK.out _ _ hS2 (fun hHeld => ?_)
  clear hK K hS2
  try refine nx ?_
  refine wpAnyH_ready (rs := [9]) (by kernel_rfl) (by simp) ?_
  refine AllReadyH.cons (i := 9) rfl (fun K hK => ?_) (AllReadyH.nil)
  try go_simp
  refine hK.out _ _ hHeld (fun hHeld => ?_)
  clear hK K
  try refine nx ?_
  refine wpAnyH_ready (rs := [10]) (by kernel_rfl) (by simp) ?_
  refine AllReadyH.cons (i := 10) rfl (fun K hK => ?_) (AllReadyH.nil)
  try go_simp
  refine hK.out _ _ hHeld (fun hHeld => ?_)
  clear hK K
  try refine nx ?_
  refine wpAnyH_ready (rs := [11]) (by kernel_rfl) (by simp) ?_
  refine AllReadyH.cons (i := 11) rfl (fun K hK => ?_) (AllReadyH.nil)
  try go_simp
  have kx : Gro V31 (V31.alloc (.cells #[.slice zu1 g.vs.length mu1, .slice zu2 g.es.length mu2, .slice zu3 g.ds.length mu3] 128)) := (Gro.refl _).alloc _
  have bx := blk_new V31 (.cells #[.slice zu1 g.vs.length mu1, .slice zu2 g.es.length mu2, .slice zu3 g.ds.length mu3] 128)
  obtain ⟨qBX, hq⟩ : ∃ q, q = V31.heap.size := ⟨_, rfl⟩
  rw [← hq] at bx ⊢
  have BX := yy bx
  have GBX : w2.heap.size ≤ qBX := by rw [hq]; exact KV.out.size
  have AL' := yy (Kept.blk (F := fun _ => False) kx AL.out (fun hf => hf))
  have O1' := yy (O1.out.gro kx)
  have O2' := yy (O2.out.gro kx)
  have O3' := yy (O3.out.gro kx)
  have KV' := yy (KV.out.trans kx)
  have hS2 : (fun w' => w'.heap[w.heap.size]? = some (.cells #[.slice a1 g.vs.length n1, .slice a2 g.es.length n2, .slice a3 g.ds.length n3] 38 (0, 0))) (V31.alloc (.cells #[.slice zu1 g.vs.length mu1, .slice zu2 g.es.length mu2, .slice zu3 g.ds.length mu3] 128)) := kx.blk hHeld
  clear kx bx hHeld KV hq AL O1 O2 O3
  have KV := KV'
  clear KV'
  have AL := AL'
  clear AL'
  have O1 := O1'
  clear O1'
  have O2 := O2'
  clear O2'
  have O3 := O3'
  clear O3'
  refine hK.out _ _ hS2 (fun hHeld => ?_)
  clear hK K hS2
  try refine nx ?_
  generalize V31.alloc (.cells #[.slice zu1 g.vs.length mu1, .slice zu2 g.es.length mu2, .slice zu3 g.ds.length mu3] 128) = V34 at *
  refine wpAnyH_ready (rs := [13]) (by kernel_rfl) (by simp) ?_
  refine AllReadyH.cons (i := 13) rfl (fun K hK => ?_) AllReadyH.nil
  have s0 := blk_cell AL.out 0
  have s1 := blk_frozen AL.out 0
  have s2 := blk_lt AL.out
  simp only [lPa, lPb, lPc] at s0
  go_simp
  have k9 : Kept (· = qAL) V34 (V34.setCell ⟨qAL, 0, none⟩ (.pointer (some ⟨qBX, 0, none⟩))) := (Kept.refl (· = qAL) V34).setCell (p := ⟨qAL, 0, none⟩) (.inl rfl) _
  have nGA : w.heap.size ≠ qAL := blk_ne hHeld AL.out (by decide)
  have nBA : qBX ≠ qAL := blk_ne BX.out AL.out (by decide)
  have hS2 : (fun w' => w'.heap[w.heap.size]? = some (.cells #[.slice a1 g.vs.length n1, .slice a2 g.es.length n2, .slice a3 g.ds.length n3] 38 (0, 0))) (V34.setCell ⟨qAL, 0, none⟩ (.pointer (some ⟨qBX, 0, none⟩))) := k9.blk hHeld nGA
  refine hK.out _ _ hS2 (fun hHeld => ?_)
  clear hK K hS2 s0 s1 s2
  try refine nx ?_
  refine wpAnyH_done (by kernel_rfl) ?_ _
  go_wp2_with fail
  all_goals go_meet
  refine ⟨qAL, qBX, _, _, _, rfl, yy ⟨k9.blk BX.out nBA, O1.out.far k9 AL.out (by decide), O2.out.far k9 AL.out (by decide), O3.out.far k9 AL.out (by decide), Kept.setCell KV.out (.inr GAL) _, Nat.le_refl _, .inr GBX, fun k hk => .inr (O1.out.block hk).1, fun k hk => .inr (O2.out.block hk).1⟩, yy ?_⟩
  simpa using blk_set AL.out 0 (.pointer (some ⟨qBX, 0, none⟩))
 case rest =>
 obtain ⟨O, B, u1, u2, u3, rfl, HX, HO⟩ := hcut
 have HC := yy (HX.out.kept.blk BC.out (fun hf => hf))
 go_wp2_with fail
 refine (try142 HX.out.own HV.out HCo.out HC.out HO.out).mono ?_
 rintro e w5 ⟨rfl, y1, y2, h5⟩
 have HO5 := yy (h5.kept.blk HO.out (HX.out.far HO.out (by decide) (by decide) (by decide)))
 have H5 := yy (HX.out.back h5)
 have BR5 := yy (H5.out.kept.blk BR.out (fun hf => hf))
 have K5 := yy (K2.out.trans H5.out.kept)
 clear h5 HX HO HC BC BR BG K2 L1 L2 L3
 obtain ⟨s1, t1, rfl⟩ := H5.out.va.form
 obtain ⟨s2, t2, rfl⟩ := H5.out.vb.form
 obtain ⟨s3, t3, rfl⟩ := H5.out.vc.form
 have cO := blk_cell HO5.out 0
 simp only [lPa, lPb, lPc] at cO
 have hlO := blk_lt HO5.out
 obtain ⟨c0, c1, c2⟩ := H5.out.cb.cells
 have hlB := World.block_lt_of_cell? _ _ c0
 have d2 := blk_frozen BR5.out
 have z0 := d2 0
 have z1 := d2 1
 have z2 := d2 2
 have cQ := blk_cell BR5.out
 have r0 := cQ 0
 have r1 := cQ 1
 have r2 := cQ 2
 simp only [lPa, lPb, lPc] at r0 r1 r2
 have hlR := blk_lt BR5.out
 clear cQ
 clear d2
 have hszT : w.heap.size ≤ w.heap.size + 1 + 1 := by omega
 go_wp2_with fail
 have B6 := set3 BR5.out (.slice s1 (stepG g c).vs.length t1) (.slice s2 (stepG g c).es.length t2) (.slice s3 (stepG g c).ds.length t3)
 have K6 := kept3 K5.out (.inr hszT) (.slice s1 (stepG g c).vs.length t1) (.slice s2 (stepG g c).es.length t2) (.slice s3 (stepG g c).ds.length t3)
 have K7 := kept3 (F := (· = w.heap.size + 1 + 1)) (Kept.refl (· = w.heap.size + 1 + 1) w5) (.inl rfl) (.slice s1 (stepG g c).vs.length t1) (.slice s2 (stepG g c).es.length t2) (.slice s3 (stepG g c).ds.length t3)
 refine bodyPost_ret (results_cell_tmp_row (p := 4) (u := 5) (ty := 38) rfl _ _ (w.heap.size + 1 + 1) 38 _ (0, 0) _ rfl B6 Tryz.underlying38 rfl (by kernel_rfl)) rfl ⟨_, _, _, rfl, ⟨?_, ?_, ?_⟩, K6⟩
 ·exact (H5.out.va.lv (by omega)).far3 K7 BR5.out (by decide) (fun x => ⟨x.id, rfl⟩)
 ·exact (H5.out.vb.lv (by omega)).far3 K7 BR5.out (by decide) (fun x => ⟨x.id, rfl⟩)
 exact (H5.out.vc.lv (by omega)).far3 K7 BR5.out (by decide) (fun x => ⟨x, rfl⟩)
end Go.Proofs.YthfagcdjbmhhcaaGreat
