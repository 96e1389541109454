/- the graph that is being changed, and addVertex, where it succeeds. -/
import Derived.Test.YthfagcdjbmhhcaaGreatU0
import Derived.Test.YthfagcdjbmhhcaaGreatU1
import Derived.Test.YthfagcdjbmhhcaaGreatPCh
import Derived.Test.YthfagcdjbmhhcaaGreatE5
set_option linter.unusedVariables false
set_option linter.unusedSimpArgs false
namespace Go.Proofs.YthfagcdjbmhhcaaGreat
open Go.RowKit
attribute [local irreducible] wpQuiet
theorem lfU21 {P : Prop} (h : P := by (intro w0 hSw; obtain ⟨hA, hB⟩ := hSw; have f0 := blk_cell hA 0; have f1 := blk_cell hA 1; have c0 := blk_cell hB 0; simp only [lPa, lPb, lPc] at f0 f1 c0; have hlA := blk_lt hA; have hlB := blk_lt hB; clear hA hB; go_simp; try with_reducible rfl)) : P := h
/-- a graph of the call's own that is being changed: block B; since w0 the blocks of F alone have turned -/
structure CAt (F : Nat → Prop) (w0 : World) (base : Nat) (w : World) (B : Nat) (v1 v2 v3 : Value) (g : Gr) : Prop where
 cb : ChAt w B v1 v2 v3
 va : OwnL w base v1 g.vs
 vb : OwnL w base v2 g.es
 vc : OwnL w base v3 g.ds
 kept : Kept F w0 w
 bs : base ≤ w0.heap.size
 bl : F B ∨ w0.heap.size ≤ B
 fa : ∀ k, ownF v1 k → F k ∨ w0.heap.size ≤ k
 fe : ∀ k, ownF v2 k → F k ∨ w0.heap.size ≤ k
theorem CAt.bw {F : Nat → Prop} {w0 w : World} {base B : Nat} {v1 v2 v3 : Value} {g : Gr} (h : CAt F w0 base w B v1 v2 v3 g) : base ≤ w.heap.size := Nat.le_trans h.bs h.kept.size
theorem CAt.step {F : Nat → Prop} {w0 w w' : World} {base B : Nat} {v1 v2 v3 : Value} {g : Gr} (h : CAt F w0 base w B v1 v2 v3 g) (k : Gro w w') : CAt F w0 base w' B v1 v2 v3 g :=
 ⟨k.blk h.cb, h.va.gro k, h.vb.gro k, h.vc.gro k, h.kept.trans (k.kept _), h.bs, h.bl, h.fa, h.fe⟩
theorem CAt.setV {F : Nat → Prop} {w0 w w' : World} {base B : Nat} {v1 v2 v3 v' : Value} {g : Gr} {vs' : List Vtx} (h : CAt F w0 base w B v1 v2 v3 g) (ho : OwnL w' base v' vs') (k : Kept (ownF v1) w w')
  (hat : v'.ownBlock = v1.ownBlock ∨ ∃ g, v'.ownBlock = some g ∧ w.heap.size ≤ g) : CAt F w0 base (w'.setCell ⟨B, 0, none⟩ v') B v' v2 v3 ⟨vs', g.es, g.ds⟩ := by
 have hT := k.blk h.cb (own_far h.va h.cb (by decide))
 have hb := h.vb.kept k (own_far2 h.va h.vb (by decide))
 have hc := h.vc.kept k (own_far2 h.va h.vc (by decide))
 have hg : Kept F w0 w' := Kept.trans' h.kept k (fun i hi => h.fa i hi)
 have kk : Kept (· = B) w' (w'.setCell ⟨B, 0, none⟩ v') := (Kept.refl (· = B) w').setCell (p := ⟨B, 0, none⟩) (.inl rfl) v'
 refine ⟨(by simpa using blk_set hT 0 v' : (w'.setCell ⟨B, 0, none⟩ v').heap[B]? = some (.cells #[v', v2, v3] 128 (0, 0))), ho.far kk hT (by decide), hb.far kk hT (by decide), hc.far kk hT (by decide), Kept.setCell hg h.bl _, h.bs, h.bl, fun j hj => ?_, h.fe⟩
 rcases hat with e | ⟨y, e, hy⟩
 ·exact h.fa j (e.symm.trans hj)
 have : some y = some j := e.symm.trans hj
 injection this with this
 subst this
 exact .inr (Nat.le_trans h.kept.size hy)
theorem CAt.setE {F : Nat → Prop} {w0 w w' : World} {base B : Nat} {v1 v2 v3 v' : Value} {g : Gr} {es' : List Edg} (h : CAt F w0 base w B v1 v2 v3 g) (ho : OwnL w' base v' es') (k : Kept (ownF v2) w w')
  (hat : v'.ownBlock = v2.ownBlock ∨ ∃ g, v'.ownBlock = some g ∧ w.heap.size ≤ g) : CAt F w0 base (w'.setCell ⟨B, 1, none⟩ v') B v1 v' v3 ⟨g.vs, es', g.ds⟩ := by
 have hT := k.blk h.cb (own_far h.vb h.cb (by decide))
 have ha := h.va.kept k (own_far2 h.vb h.va (by decide))
 have hc := h.vc.kept k (own_far2 h.vb h.vc (by decide))
 have hg : Kept F w0 w' := Kept.trans' h.kept k (fun i hi => h.fe i hi)
 have kk : Kept (· = B) w' (w'.setCell ⟨B, 1, none⟩ v') := (Kept.refl (· = B) w').setCell (p := ⟨B, 1, none⟩) (.inl rfl) v'
 refine ⟨(by simpa using blk_set hT 1 v' : (w'.setCell ⟨B, 1, none⟩ v').heap[B]? = some (.cells #[v1, v', v3] 128 (0, 0))), ha.far kk hT (by decide), ho.far kk hT (by decide), hc.far kk hT (by decide), Kept.setCell hg h.bl _, h.bs, h.bl, h.fa, fun j hj => ?_⟩
 rcases hat with e | ⟨y, e, hy⟩
 ·exact h.fe j (e.symm.trans hj)
 have : some y = some j := e.symm.trans hj
 injection this with this
 subst this
 exact .inr (Nat.le_trans h.kept.size hy)
theorem delAt_flt {α : Type} (key : α → Int) {l : List α} (ha : (l.map key).Pairwise (· < ·)) {i : Nat} (hi : i < l.length) {id : Int} (he : key l[i] = id) : delAt l i = l.filter fun x => !(key x == id) := by
 subst he
 have hl : ∀ x ∈ l.take i, key x < key l[i] := by
  intro x hx
  obtain ⟨j, hj, rfl⟩ := List.getElem_of_mem hx
  rw [List.getElem_take]
  have := lt_of_pair ha (i := j) (j := i) (by simp at hj ⊢; omega) (by simpa using hi) (by simp at hj; omega)
  simpa using this
 have hr : ∀ x ∈ l.drop (i + 1), key l[i] < key x := by
  intro x hx
  obtain ⟨j, hj, rfl⟩ := List.getElem_of_mem hx
  rw [List.getElem_drop]
  have := lt_of_pair ha (i := i) (j := i + 1 + j) (by simpa using hi) (by simp at hj ⊢; omega) (by omega)
  simpa using this
 have hsp : l = l.take i ++ l[i] :: l.drop (i + 1) := by rw [← List.drop_eq_getElem_cons hi, List.take_append_drop]
 generalize hk : key l[i] = k at hl hr
 conv => rhs; rw [hsp]
 rw [List.filter_append, List.filter_cons]
 rw [if_neg (by simp [hk])]
 unfold delAt
 rw [List.filter_eq_self.2 (fun x hx => by have := hl x hx; simp; omega), List.filter_eq_self.2 (fun x hx => by have := hr x hx; simp; omega)]
set_option maxHeartbeats 2000000 in
set_option maxRecDepth 100000 in
theorem addV184 {F : Nat → Prop} {w0 w : World} {base B : Nat} {v1 v2 v3 : Value} {g : Gr} (h : CAt F w0 base w B v1 v2 v3 g) (hv : VG g) (x : Vtx) (hn : x.id ∉ g.vs.map Vtx.id) (hok : okV x = true) :
  Calls Tryz.prog 184 #[.pointer (some ⟨B, 0, none⟩), .agg #[.int .i64 x.id, .int .i64 x.side]] w fun e w' => e = .returned (.tuple #[]) ∧ ∃ v', CAt F w0 base w' B v' v2 v3 ⟨ins Vtx.id x g.vs, g.es, g.ds⟩ := by
 have hmix := mixed
 have hlen : g.vs.length ≤ 1000000 := by have := hv.lens; omega
 have hh : has g x.id = false := by rw [← mem_has]; simp only [decide_eq_false_iff_not]; exact hn
 have HH := yy hh
 have hvA : ¬ ownF v1 w.heap.size := fun e => by have := (h.va.block e).2.1; omega
 have HV := yy hv
 have HOK := yy hok
 have kA : Gro w (w.alloc (.cells #[.int .i64 x.id, .int .i64 x.side] 77)) := (Gro.refl _).alloc _
 have bA := blk_new w (.cells #[.int .i64 x.id, .int .i64 x.side] 77)
 have HA := yy (h.step kA)
 have BA := yy bA
 clear h hv hok hh kA bA hn
 go_enter Tryz.func184, Tryz.ntmps184
 go_wp2_with fail
 refine (vertex134 HA.out.cb (HA.out.va.lv (by omega)) hlen HV.out.av x.id).mono ?_
 rintro e w2 ⟨i, rfl, hpos, k2⟩
 rw [HH.out]
 have hins := insAt_ins Vtx.id x g.vs i hpos
 have hile := hpos.le
 rw [List.length_map] at hile
 have H2 := yy (HA.out.step k2)
 have B2 := yy (k2.blk BA.out)
 have HINS := yy hins
 clear hins hpos k2 HA BA HH
 have f0 := blk_cell B2.out 0
 have f1 := blk_cell B2.out 1
 simp only [lPa, lPb, lPc] at f0 f1
 have hlA := blk_lt B2.out
 go_wp2_with fail
 refine (okV97 x w2).mono ?_
 rintro e w3 ⟨rfl, k3⟩
 rw [HOK.out]
 have H3 := yy (H2.out.step k3)
 have B3 := yy (k3.blk B2.out)
 clear f0 f1 hlA k3 H2 B2 HOK
 go_wp2_with fail
 refine (want186 w3).mono ?_
 rintro e w4 ⟨rfl, rfl⟩
 generalize w.heap.size = A at B3 hvA ⊢
 go_wp2_with fail
 have H4 := yy (H3.out.step (Gro.refl w3).drew)
 have B4 := yy ((Gro.refl w3).drew.blk B3.out)
 have hS : (fun w' => w'.heap[A]? = some (.cells #[.int .i64 x.id, .int .i64 x.side] 77 (0, 0)) ∧ w'.heap[B]? = some (.cells #[v1, v2, v3] 128 (0, 0))) w3.drew := ⟨B4.out, H4.out.cb⟩
 refine anyL_begin 13 (fun w' => w'.heap[A]? = some (.cells #[.int .i64 x.id, .int .i64 x.side] 77 (0, 0)) ∧ w'.heap[B]? = some (.cells #[v1, v2, v3] 128 (0, 0))) hmix ?_
 clear H3 B3 HV
 generalize w3.drew = wd at hS H4 B4 ⊢
 refine tkL 0 (v := ?_) rfl ?_ hS ?_
 rotate_left
 ·exact lfU21
 try refine nx ?_
 refine tkL 1 (v := ?_) rfl ?_ hS ?_
 rotate_left
 ·exact lfU21
 try refine nx ?_
 refine tkL 2 (v := ?_) rfl ?_ hS ?_
 rotate_left
 ·exact lfU21
 try refine nx ?_
 refine tkL 3 (v := ?_) rfl ?_ hS ?_
 rotate_left
 ·exact lfU21
 try refine nx ?_
 refine tkL 4 (v := ?_) rfl ?_ hS ?_
 rotate_left
 ·exact lfU21
 try refine nx ?_
 refine tkL 5 (v := ?_) rfl ?_ hS ?_
 rotate_left
 ·exact lfU21
 try refine nx ?_
 refine tkL 6 (v := ?_) rfl ?_ hS ?_
 rotate_left
 ·exact lfU21
 try refine nx ?_
 refine tkL 7 (v := ?_) rfl ?_ hS ?_
 rotate_left
 ·exact lfU21
 try refine nx ?_
 refine anyL_one (i := 8) (by kernel_rfl) rfl (fun K hK => ?_)
 go_simp
 have k5 : Gro wd (wd.alloc (.cells #[.int .i64 x.id, .int .i64 x.side] 77)) := (Gro.refl _).alloc _
 have b5 := blk_new wd (.cells #[.int .i64 x.id, .int .i64 x.side] 77)
 have H5 := yy (H4.out.step k5)
 have hS5 : (fun w' => w'.heap[A]? = some (.cells #[.int .i64 x.id, .int .i64 x.side] 77 (0, 0)) ∧ w'.heap[B]? = some (.cells #[v1, v2, v3] 128 (0, 0))) (wd.alloc (.cells #[.int .i64 x.id, .int .i64 x.side] 77)) := ⟨k5.blk hS.1, k5.blk hS.2⟩
 have hne : v1.ownBlock ≠ some wd.heap.size := fun e => by have := (H4.out.va.block e).2.1; omega
 have HIN := yy (ins127 H5.out.va H5.out.bw (by omega) i hile x wd.heap.size b5 hne)
 clear b5 k5 H4 hS hne
 refine hK.out _ _ (fun _ => hS5) ?_
 clear hK K
 try refine nx ?_
 generalize hw5 : wd.alloc (.cells #[.int .i64 x.id, .int .i64 x.side] 77) = w5 at H5 hS5 HIN ⊢
 clear hw5
 refine anyL_one (i := 9) (by kernel_rfl) rfl (fun K hK => ?_)
 go_simp
 refine HIN.out.mono ?_
 rintro e w6 ⟨v', rfl, ho, kk, hat⟩
 rw [HINS.out] at ho
 obtain ⟨s2, cs2, hs2⟩ := ho.form
 subst hs2
 have hB6 := kk.blk H5.out.cb (own_far H5.out.va H5.out.cb (by decide))
 have hA6 : w6.heap[A]? = some (.cells #[.int .i64 x.id, .int .i64 x.side] 77 (0, 0)) := kk.blk hS5.1 hvA
 have hS : (fun w' => w'.heap[A]? = some (.cells #[.int .i64 x.id, .int .i64 x.side] 77 (0, 0)) ∧ w'.heap[B]? = some (.cells #[v1, v2, v3] 128 (0, 0))) w6 := ⟨hA6, hB6⟩
 have H6 := yy (H5.out.setV ho kk hat)
 clear hS5 H5 HIN HINS ho kk hat hB6 hA6 B4
 refine hK.out _ _ (fun _ => hS) ?_
 clear hK K
 try refine nx ?_
 refine anyL_one (i := 10) (by kernel_rfl) rfl (fun K hK => ?_)
 go_simp
 refine hK.out _ _ (fun _ => hS) ?_
 clear hK K
 try refine nx ?_
 refine anyL_one (i := 11) (by kernel_rfl) rfl (fun K hK => ?_)
 go_simp
 refine hK.out _ _ (fun _ => hS) ?_
 clear hK K
 try refine nx ?_
 refine tkL 12 (v := ?_) rfl ?_ hS ?_
 rotate_left
 ·exact lfU21
 try refine nx ?_
 refine anyL_one (i := 13) (by kernel_rfl) rfl (fun K hK => ?_)
 have z0 := blk_frozen hS.2 0
 have c0 := blk_cell hS.2 0
 simp only [lPa, lPb, lPc] at c0
 have hlB := blk_lt hS.2
 go_simp
 refine hK.out _ _ (fun h => absurd rfl h) ?_
 clear hK K hS z0 c0 hlB
 try refine nx ?_
 refine anyL_done (by kernel_rfl) ?_
 go_wp2_with fail
 go_end0
 exact ⟨rfl, _, H6.out⟩
end Go.Proofs.YthfagcdjbmhhcaaGreat
