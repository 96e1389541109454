/- the act of a change; Apply's closure. -/
import Derived.Test.YthfagcdjbmhhcaaGreatU5
set_option linter.unusedVariables false
set_option linter.unusedSimpArgs false
namespace Go.Proofs.YthfagcdjbmhhcaaGreat
open Go.RowKit
attribute [local irreducible] wpQuiet
theorem lfU61 {P : Prop} (h : P := by (intro w0 hSw; obtain ⟨hA, hB⟩ := hSw; have f0 := blk_cell hA 0; have f1 := blk_cell hA 1; have f2 := blk_cell hA 2; have f3 := blk_cell hA 3; have f4 := blk_cell hA 4; have f5 := blk_cell hA 5; have f6 := blk_cell hA 6; have f7 := blk_cell hA 7; have f8 := blk_cell hA 8; have f9 := blk_cell hA 9; have f10 := blk_cell hA 10; have f11 := blk_cell hA 11; have f12 := blk_cell hA 12; have c0 := blk_cell hB 0; simp only [lPa, lPb, lPc] at f0 f1 f2 f3 f4 f5 f6 f7 f8 f9 f10 f11 f12 c0; have hlA := blk_lt hA; have hlB := blk_lt hB; clear hA hB; go_simp; try with_reducible rfl)) : P := h
/-- the blocks that an act may turn -/
def CF (B : Nat) (v1 v2 : Value) : Nat → Prop := fun k => k = B ∨ ownF v1 k ∨ ownF v2 k
theorem CAt.own {F : Nat → Prop} {w0 w : World} {base B : Nat} {v1 v2 v3 : Value} {g : Gr} (h : CAt F w0 base w B v1 v2 v3 g) : CAt (CF B v1 v2) w base w B v1 v2 v3 g :=
 ⟨h.cb, h.va, h.vb, h.vc, Kept.refl _ _, h.bw, .inl (.inl rfl), fun _ hk => .inl (.inr (.inl hk)), fun _ hk => .inl (.inr (.inr hk))⟩
theorem CAt.back {F : Nat → Prop} {w0 w w' : World} {base B : Nat} {v1 v2 v3 u1 u2 : Value} {g g' : Gr} (h : CAt F w0 base w B v1 v2 v3 g) (k : CAt (CF B v1 v2) w base w' B u1 u2 v3 g') : CAt F w0 base w' B u1 u2 v3 g' := by
 have hF : ∀ i, CF B v1 v2 i → F i ∨ w0.heap.size ≤ i := by
  rintro i (rfl | hi | hi)
  ·exact h.bl
  ·exact h.fa i hi
  exact h.fe i hi
 have hG : ∀ i, CF B v1 v2 i ∨ w.heap.size ≤ i → F i ∨ w0.heap.size ≤ i := fun i hi => hi.elim (hF i) (fun h1 => .inr (Nat.le_trans h.kept.size h1))
 exact ⟨k.cb, k.va, k.vb, k.vc, Kept.trans' h.kept k.kept hF, h.bs, h.bl, fun j hj => hG j (k.fa j hj), fun j hj => hG j (k.fe j hj)⟩
/-- a block of another type is none of these -/
theorem CAt.far {F : Nat → Prop} {w0 w : World} {base B : Nat} {v1 v2 v3 : Value} {g : Gr} (h : CAt F w0 base w B v1 v2 v3 g) {k : Nat} {cs : Array Value} {t : TypeId} (hk : w.heap[k]? = some (.cells cs t (0, 0))) (h1 : t ≠ 128) (h2 : t ≠ 77) (h3 : t ≠ 69) : ¬ CF B v1 v2 k := by
 rintro (rfl | hi | hi)
 ·exact blk_ne hk h.cb h1 rfl
 ·exact own_far h.va hk h2 hi
 exact own_far h.vb hk h3 hi
/-- the act of a change that succeeds -/
theorem act_ok {g : Gr} (hv : VG g) {c : Chg} (hc : OkC g c) : ∃ f : Nat, ((c.kind = 1 ∧ f = 183) ∨ (c.kind = 2 ∧ f = 185) ∨ (c.kind = 3 ∧ f = 189) ∨ (c.kind = 4 ∧ f = 191)) ∧ (∀ args w, (callFunc f args).run Tryz.prog w = .ok (.enter f args) w) ∧
  ∀ (F : Nat → Prop) (w0 w : World) (base B : Nat) (v1 v2 v3 : Value), CAt F w0 base w B v1 v2 v3 g → Calls Tryz.prog f #[.pointer (some ⟨B, 0, none⟩), chgV c] w fun e w' => e = .returned (.tuple #[]) ∧ ∃ u1 u2, CAt F w0 base w' B u1 u2 v3 (stepG g c) := by
 cases hc with
 | dropE x hx => exact ⟨191, .inr (.inr (.inr ⟨rfl, rfl⟩)), enters_of Tryz.func191 (by kernel_rfl) rfl, fun F w0 w base B v1 v2 v3 h => (dropE191 h hv x hx).mono fun e w' ⟨he, v', h'⟩ => ⟨he, v1, v', by rw [step_dropE]; exact h'⟩⟩
 | dropV x hx hd hn => exact ⟨185, .inr (.inl ⟨rfl, rfl⟩), enters_of Tryz.func185 (by kernel_rfl) rfl, fun F w0 w base B v1 v2 v3 h => (dropV185 h hv x hx hd hn).mono fun e w' ⟨he, v', h'⟩ => ⟨he, v', v2, by rw [step_dropV]; exact h'⟩⟩
 | addV x hx ho => exact ⟨183, .inl ⟨rfl, rfl⟩, enters_of Tryz.func183 (by kernel_rfl) rfl, fun F w0 w base B v1 v2 v3 h => (addV183 h hv x hx ho).mono fun e w' ⟨he, v', h'⟩ => ⟨he, v', v2, by rw [step_addV]; exact h'⟩⟩
 | addE x hx ho hs hd => exact ⟨189, .inr (.inr (.inl ⟨rfl, rfl⟩)), enters_of Tryz.func189 (by kernel_rfl) rfl, fun F w0 w base B v1 v2 v3 h => (addE189 h hv x hx ho hs hd).mono fun e w' ⟨he, v', h'⟩ => ⟨he, v1, v', by rw [step_addE]; exact h'⟩⟩
set_option maxHeartbeats 4000000 in
set_option maxRecDepth 100000 in
theorem app143 {F : Nat → Prop} {w0 w : World} {base B C O : Nat} {v1 v2 v3 : Value} {g : Gr} (h : CAt F w0 base w B v1 v2 v3 g) (hv : VG g) {c : Chg} (hc : OkC g c) (hC : w.heap[C]? = some (.cells (Rec.cs c).toArray 86 (0, 0)))
  (hO : w.heap[O]? = some (.cells #[.pointer (some ⟨B, 0, none⟩)] 126 (0, 0))) :
  Calls Tryz.prog 143 #[.pointer (some ⟨C, 0, none⟩), .pointer (some ⟨O, 0, none⟩)] w fun e w' => e = .returned (.tuple #[]) ∧ ∃ u1 u2, CAt F w0 base w' B u1 u2 v3 (stepG g c) := by
 have hmix := mixed
 have hC' : w.heap[C]? = some (.cells #[.int .i64 c.kind, .int .i64 c.v.id, .int .i64 c.v.side, .int .i64 c.e.id, .int .i64 c.e.src, .int .i64 c.e.dst, .bool c.e.dir, .int .i64 c.e.weight, .int .i64 c.e.cap, .int .i64 c.id, .int .i64 0, .slice none 0 0, .slice none 0 0] 86 (0, 0)) := hC
 obtain ⟨f, hf, hen, hact⟩ := act_ok hv hc
 have HACT := yy hact
 have HH := yy h
 clear hact h hC hc hv
 go_enter Tryz.func143, Tryz.ntmps143
 go_wp2_with fail
 refine wp_region_held_drew (S := (fun w' => w'.heap[C]? = some (.cells #[.int .i64 c.kind, .int .i64 c.v.id, .int .i64 c.v.side, .int .i64 c.e.id, .int .i64 c.e.src, .int .i64 c.e.dst, .bool c.e.dir, .int .i64 c.e.weight, .int .i64 c.e.cap, .int .i64 c.id, .int .i64 0, .slice none 0 0, .slice none 0 0] 86 (0, 0)) ∧ w'.heap[O]? = some (.cells #[.pointer (some ⟨B, 0, none⟩)] 126 (0, 0)))) (by kernel_rfl) ⟨hC', hO⟩ (fun hHeld => ?_)
 have H1 := yy (HH.out.step (Gro.refl w).drew)
 clear hC' hO HH
 generalize w.drew = wD at hHeld H1 ⊢
 refine tkH 1 (v := ?_) rfl ?_ hHeld ?_
 rotate_left
 ·exact lfU61
 try refine nx ?_
 refine tkH 2 (v := ?_) rfl ?_ hHeld ?_
 rotate_left
 ·exact lfU61
 try refine nx ?_
 refine tkH 4 (v := ?_) rfl ?_ hHeld ?_
 rotate_left
 ·exact lfU61
 try refine nx ?_
 refine tkH 5 (v := ?_) rfl ?_ hHeld ?_
 rotate_left
 ·exact lfU61
 try refine nx ?_
 refine wpAnyH_ready (rs := [0]) (by kernel_rfl) (by simp) ?_
 refine AllReadyH.cons (i := 0) rfl (fun K hK => ?_) AllReadyH.nil
 go_simp
 refine (acts144 _).mono ?_
 rintro _ w2 ⟨M, rfl, hM, k2⟩
 have H2 := yy (H1.out.step k2)
 have hH2 : (fun w' => w'.heap[C]? = some (.cells #[.int .i64 c.kind, .int .i64 c.v.id, .int .i64 c.v.side, .int .i64 c.e.id, .int .i64 c.e.src, .int .i64 c.e.dst, .bool c.e.dir, .int .i64 c.e.weight, .int .i64 c.e.cap, .int .i64 c.id, .int .i64 0, .slice none 0 0, .slice none 0 0] 86 (0, 0)) ∧ w'.heap[O]? = some (.cells #[.pointer (some ⟨B, 0, none⟩)] 126 (0, 0))) w2 := ⟨k2.blk hHeld.1, k2.blk hHeld.2⟩
 clear k2 H1 hHeld
 try go_simp
 refine hK.out _ _ hH2 (fun hHeld => ?_)
 clear hK K hH2
 try refine nx ?_
 refine wpAnyH_ready (rs := [3]) (by kernel_rfl) (by simp) ?_
 refine AllReadyH.cons (i := 3) rfl (fun K hK => ?_) AllReadyH.nil
 have hlk := run_look hM c.kind f hf
 go_simp
 refine hK.out _ _ hHeld (fun hHeld => ?_)
 clear hK K hlk hM
 try refine nx ?_
 refine wpAnyH_ready (rs := [6]) (by kernel_rfl) (by simp) ?_
 refine AllReadyH.cons (i := 6) rfl (fun K hK => ?_) AllReadyH.nil
 go_simp
 refine (HACT.out _ _ _ _ _ _ _ _ H2.out.own).mono ?_
 rintro e w3 ⟨rfl, u1, u2, h3⟩
 have hH3 : (fun w' => w'.heap[C]? = some (.cells #[.int .i64 c.kind, .int .i64 c.v.id, .int .i64 c.v.side, .int .i64 c.e.id, .int .i64 c.e.src, .int .i64 c.e.dst, .bool c.e.dir, .int .i64 c.e.weight, .int .i64 c.e.cap, .int .i64 c.id, .int .i64 0, .slice none 0 0, .slice none 0 0] 86 (0, 0)) ∧ w'.heap[O]? = some (.cells #[.pointer (some ⟨B, 0, none⟩)] 126 (0, 0))) w3 := ⟨h3.kept.blk hHeld.1 (H2.out.far hHeld.1 (by decide) (by decide) (by decide)), h3.kept.blk hHeld.2 (H2.out.far hHeld.2 (by decide) (by decide) (by decide))⟩
 have H3 := yy (H2.out.back h3)
 clear h3 hHeld H2 HACT hen hf
 try go_simp
 refine hK.out _ _ hH3 (fun hHeld => ?_)
 clear hK K hH3 hHeld
 try refine nx ?_
 refine wpAnyH_done (by kernel_rfl) ?_ _
 go_wp2_with fail
 go_end0
 exact ⟨rfl, u1, u2, H3.out⟩
end Go.Proofs.YthfagcdjbmhhcaaGreat
