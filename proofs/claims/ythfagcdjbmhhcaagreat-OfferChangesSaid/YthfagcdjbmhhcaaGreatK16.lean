/- the reference: build. -/
import Derived.Test.YthfagcdjbmhhcaaGreatK13
import Derived.Test.YthfagcdjbmhhcaaGreatK14
import Derived.Test.YthfagcdjbmhhcaaGreatK15
import Derived.Deep.CutBlock
import Derived.Deep.DeepCutAuto
set_option linter.unusedVariables false
set_option linter.unusedSimpArgs false
namespace Go.Proofs.YthfagcdjbmhhcaaGreat
open Go.RowKit
attribute [local irreducible] wpQuiet
theorem lfR61 {P : Prop} (h : P := by (intro w hSw; obtain ⟨cbt0, cbt1, cbt2, cblt⟩ := cells3 hSw.1; obtain ⟨cbx0, cbx1, cbx2, cbx3, cblx⟩ := cells4 hSw.2.1; have s0 := hSw.2.2.1; have s2 := hSw.2.2.2; have hlo := World.block_lt_of_cell? _ _ s0; clear hSw; go_simp; try with_reducible rfl)) : P := h
theorem lfR62 {P : Prop} (h : P := by (intro w hSw; obtain ⟨cbt0, cbt1, cbt2, cblt⟩ := cells3 hSw.1; obtain ⟨cbe0, cbe1, cbe2, cbe3, cbe4, cbe5, cble⟩ := cells6 hSw.2; clear hSw; go_simp; try with_reducible rfl)) : P := h
theorem lfR63 {P : Prop} (h : P := by (intro w hSw; obtain ⟨cbx0, cbx1, cbx2, cbx3, cblx⟩ := cells4 hSw.1; obtain ⟨cbn0, cbn1, cbn2, cbn3, cbln⟩ := cells4 hSw.2.1; have s2 := hSw.2.2; have hlo := World.block_lt_of_cell? _ _ s2; clear hSw; go_simp; try with_reducible rfl)) : P := h
theorem lfR64 {P : Prop} (h : P := by (intro w hSw; obtain ⟨cbx0, cbx1, cbx2, cbx3, cblx⟩ := cells4 hSw.1; obtain ⟨cbn0, cbn1, cbn2, cbn3, cbln⟩ := cells4 hSw.2; clear hSw; go_simp; try with_reducible rfl)) : P := h
theorem dirOf_fnd {b : Bk} {x : Wsh} : (fidx (b.os.map Ofr.id) x.src = -1 ∧ dirOf b x = false) ∨ ∃ i : Nat, ∃ h : i < b.os.length, fidx (b.os.map Ofr.id) x.src = i ∧ dirOf b x = (b.os[i].side == 3) := by
 rcases fidx_fnd (b := b) (id := x.src) with ⟨hn, he, _⟩ | ⟨i, hi, hf, he, _⟩
 ·exact .inl ⟨he, by unfold dirOf; rw [hn]⟩
 exact .inr ⟨i, hi, he, by unfold dirOf; rw [hf]⟩
theorem insV2 {w wr W w3 : World} {T R : Nat} {va vb vc v : Value} {vs vs' : List Vtx} {es : List Edg} {ds : List Int} (h : BAt w wr T R va vb vc vs es ds) (k : Gro wr W) (k3 : Gro W w3) (ho : OwnL w3 w.heap.size v vs') : BAt w (w3.setCell ⟨T, 0, none⟩ v) T R v vb vc vs' es ds :=
 (h.step k).insV ho (k3.kept _)
theorem insE2 {w wr W w3 : World} {T R : Nat} {va vb vc v : Value} {vs : List Vtx} {es es' : List Edg} {ds : List Int} (h : BAt w wr T R va vb vc vs es ds) (k : Gro wr W) (k3 : Gro W w3) (ho : OwnL w3 w.heap.size v es') : BAt w (w3.setCell ⟨T, 1, none⟩ v) T R va v vc vs es' ds :=
 (h.step k).insE ho (k3.kept _)
theorem box_keep {wr W w3 : World} {T X i : Nat} {cs cs' : Array Value} {v : Value} (h : wr.heap[X]? = some (.cells cs 28 (0, 0))) (hT : wr.heap[T]? = some (.cells cs' 38 (0, 0))) (k : Gro wr W) (k3 : Gro W w3) : (w3.setCell ⟨T, i, none⟩ v).heap[X]? = some (.cells cs 28 (0, 0)) :=
 blk_far (k3.blk (k.blk h)) (fun e => by simp only at e; subst e; exact blk_ne hT h (by decide) rfl) v
set_option maxHeartbeats 20000000 in
set_option maxRecDepth 100000 in
theorem build57 {w : World} {vg vb : Value} {g : Gr} {b : Bk} (hG : GrV w vg g) (hB : BkV w vb b) (hg : g.few) (hf : b.few) (hs1 : g.vs.length + b.os.length ≤ 1000000) (hs2 : g.es.length + b.ws.length ≤ 1000000) :
  Calls Tryz.prog 57 #[vg, vb] w fun e w' => ∃ r1 r2 r3, e = .returned (.agg #[r1, r2, r3]) ∧ GAt w' r1 r2 r3 (build g b) ∧ Gro w w' := by
 have hmix := mixed
 obtain ⟨v1, v2, v3, rfl, hg0⟩ := hG
 obtain ⟨a1, n1, rfl, l1⟩ := hg0.vs
 obtain ⟨a2, n2, rfl, l2⟩ := hg0.es
 obtain ⟨a3, n3, rfl, l3⟩ := hg0.ds
 obtain ⟨p, o, q, rfl, hp, ho, hq⟩ := hB
 obtain ⟨ap, np, rfl, lp⟩ := hp
 obtain ⟨ao, no, rfl, lo⟩ := ho
 obtain ⟨aq, mq, rfl, lq⟩ := hq
 have fo := hf.os
 have fw := hf.ws
 have fd := hg.ds
 obtain ⟨wa, hwa⟩ : ∃ wa, wa = ((w.alloc (.cells #[Value.slice a1 g.vs.length n1, Value.slice a2 g.es.length n2, Value.slice a3 g.ds.length n3] 38)).alloc (.cells #[Value.int IntKind.i64 b.round, Value.slice ap b.ps.length np, Value.slice ao b.os.length no, Value.slice aq b.ws.length mq] 28)).alloc (.cells #[.slice none 0 0, .slice none 0 0, .slice none 0 0] 38) := ⟨_, rfl⟩
 have k0 : Gro w wa := by rw [hwa]; exact (((Gro.refl _).alloc _).alloc _).alloc _
 have bB : wa.heap[w.heap.size + 1]? = some (.cells #[Value.int IntKind.i64 b.round, Value.slice ap b.ps.length np, Value.slice ao b.os.length no, Value.slice aq b.ws.length mq] 28 (0, 0)) := by
  rw [hwa]
  have := blk_new (w.alloc (.cells #[Value.slice a1 g.vs.length n1, Value.slice a2 g.es.length n2, Value.slice a3 g.ds.length n3] 38)) (.cells #[Value.int IntKind.i64 b.round, Value.slice ap b.ps.length np, Value.slice ao b.os.length no, Value.slice aq b.ws.length mq] 28)
  rw [asz] at this
  exact blk_alloc this _
 have bR : wa.heap[w.heap.size + 1 + 1]? = some (.cells #[.slice none 0 0, .slice none 0 0, .slice none 0 0] 38 (0, 0)) := by
  rw [hwa]
  have := blk_new ((w.alloc (.cells #[Value.slice a1 g.vs.length n1, Value.slice a2 g.es.length n2, Value.slice a3 g.ds.length n3] 38)).alloc (.cells #[Value.int IntKind.i64 b.round, Value.slice ap b.ps.length np, Value.slice ao b.os.length no, Value.slice aq b.ws.length mq] 28)) (.cells #[.slice none 0 0, .slice none 0 0, .slice none 0 0] 38)
  rw [asz, asz] at this
  exact this
 have HC := yy (copy113 (w := wa) ⟨_, _, _, rfl, hg0.gro k0⟩ hg)
 have HW := yy hwa
 have CF : Hid (∀ W, Gro w W → ∀ id, Calls Tryz.prog 40 #[.agg #[Value.int IntKind.i64 b.round, Value.slice ap b.ps.length np, Value.slice ao b.os.length no, Value.slice aq b.ws.length mq], .int .i64 id] W fun e w' => e = .returned (.int .i64 (fidx (b.os.map Ofr.id) id)) ∧ Gro W w') :=
  yy fun W hW id => find40 ⟨_, _, _, rfl, ⟨_, _, rfl, lp.gro hW⟩, ⟨_, _, rfl, lo.gro hW⟩, ⟨_, _, rfl, lq.gro hW⟩⟩ hf id
 have LO := yy lo
 have LQ := yy lq
 have HSZ := yy k0.size
 have K0 := yy k0
 have BB := yy bB
 have BR := yy bR
 clear hg0 l1 l2 l3 lp lo lq hg hf k0 bB bR hwa
 go_enter Tryz.func57, Tryz.ntmps57
 go_wp2_with fail
 rw [← HW.out]
 clear HW
 refine HC.out.mono ?_
 rintro e w1 ⟨va, vb, vc, rfl, k1, oa, ob, oc⟩
 obtain ⟨sa, ca, hva⟩ := oa.form
 obtain ⟨sb, cb, hvb⟩ := ob.form
 obtain ⟨sc, cc, hvc⟩ := oc.form
 subst hva hvb hvc
 have kT : Gro w1 (w1.alloc (.cells #[.slice sa g.vs.length ca, .slice sb g.es.length cb, .slice sc g.ds.length cc] 38)) := (Gro.refl _).alloc _
 have bAt : BAt w (w1.alloc (.cells #[.slice sa g.vs.length ca, .slice sb g.es.length cb, .slice sc g.ds.length cc] 38)) w1.heap.size (w.heap.size + 1 + 1) (.slice sa g.vs.length ca) (.slice sb g.es.length cb) (.slice sc g.ds.length cc) (vsAt g b 0) (esAt g b 0) g.ds := by
  have h1 := HSZ.out
  have h2 := k1.size
  have h3 := blk_lt BR.out
  exact ⟨blk_new _ _, kT.blk (k1.blk BR.out), (oa.gro kT).le h1, (ob.gro kT).le h1, (oc.gro kT).le h1, (K0.out.trans k1).trans kT, by omega, by omega, by omega⟩
 have HB0 := yy bAt
 have BX0 := yy (kT.blk (k1.blk BB.out))
 clear HC k1 oa ob oc bAt kT BB BR HSZ
 generalize hT : w1.heap.size = T at HB0
 go_wp2_with fail
 try simp only [hT]
 clear hT
 generalize (w1.alloc (Obj.cells #[Value.slice sa g.vs.length ca, Value.slice sb g.es.length cb, Value.slice sc g.ds.length cc] 38)) = w0 at HB0 BX0 ⊢
 go_loopw [6] (fun t wr => ∃ (k : Nat) (va : Value), k ≤ b.os.length ∧ t = .int .i64 k ∧ Hid (BAt w wr T (w.heap.size + 1 + 1) va (.slice sb g.es.length cb) (.slice sc g.ds.length cc) (vsAt g b k) (esAt g b 0) g.ds) ∧ Hid (wr.heap[w.heap.size + 1]? = some (.cells #[Value.int IntKind.i64 b.round, Value.slice ap b.ps.length np, Value.slice ao b.os.length no, Value.slice aq b.ws.length mq] 28 (0, 0)))) (fun t _ => b.os.length - (intOf t).toNat)
 case atStart => exact ⟨0, _, Nat.zero_le _, by go_num, HB0, BX0⟩
 case round =>
 clear HB0 BX0
 obtain ⟨k, va, hk, rfl, HB1, HX1⟩ := hrel
 have q2 := blk_cell HX1.out 2
 simp only [lPa, lPb, lPc] at q2
 have hlX := blk_lt HX1.out
 by_cases hlt : k < b.os.length
 ·obtain ⟨ob, off, rfl, hob, hc⟩ := (LO.out.gro HB1.out.gro).base hlt
  obtain ⟨d0, _, d2, _, _, _, d6⟩ := ocells hc hlt
  have hlo := World.block_lt_of_cell? _ _ d0
  have hopn := vsAt_open (g := g) hlt
  have hsht := vsAt_shut (g := g) hlt
  have hvf := vsAt_few (g := g) (b := b) k
  have hvl : (vsAt g b k).length ≤ 1000000 := by omega
  generalize b.os[k] = x at d0 d2 d6 hopn hsht
  obtain ⟨xi, xp, xs, xl, xr, xu, xt⟩ := x
  simp only at d0 d2 d6 hopn hsht
  have HOP := yy hopn
  have HSH := yy hsht
  clear hopn hsht hc
  by_cases hst : xt = 1
  ·subst hst
   unfold vtxOf at HOP
   simp only at HOP
   generalize hL : vsAt g b k = L at HB1 HOP hvl
   have HLL := yy hL
   clear hL hvf
   obtain ⟨sva, cva, hva⟩ := HB1.out.va.form
   subst hva
   go_upto_block 2 with fail
   go_cut [7] (fun t wx => ∃ i : Nat, i ≤ L.length ∧ t = .int .i64 i ∧ Hid (Gro wr wx) ∧ Hid (∀ j (h : j < L.length), j < i → L[j].id < xi) ∧ Hid (∀ h : i < L.length, xi ≤ L[i].id))
   case first =>
    go_wp2_with fail
    go_loopw [7] (fun t wr2 => ∃ i : Nat, i ≤ L.length ∧ t = .int .i64 i ∧ Hid (Gro wr wr2) ∧ Hid (∀ j (h : j < L.length), j < i → L[j].id < xi)) (fun t _ => L.length - (intOf t).toNat)
    case atStart => exact ⟨0, Nat.zero_le _, by go_num, yy (Gro.refl _), yy (fun j h hj => by omega)⟩
    case round =>
    obtain ⟨i, hi, rfl, HG, HLT⟩ := hrel
    have x2 := blk_cell (HG.out.blk HX1.out) 2
    have t0 := blk_cell (HG.out.blk HB1.out.tb) 0
    simp only [lPa, lPb, lPc] at x2 t0
    have hlX2 := blk_lt (HG.out.blk HX1.out)
    have hlT2 := blk_lt (HG.out.blk HB1.out.tb)
    have s0 := HG.out.cell d0
    have hlo2 := World.block_lt_of_cell? _ _ s0
    have x2 := gcell x2
    have t0 := gcell t0
    have s0 := gcell s0
    by_cases hli : i < L.length
    ·have hlI := decide_eq_true (show (i : Int) < (L.length : Int) by omega)
     obtain ⟨Bv, offv, rfl, hbv, hcv⟩ := (own_lst (HB1.out.va.gro HG.out) (by omega)).base hli
     obtain ⟨e0, _⟩ := vcells hcv hli
     have hlv := World.block_lt_of_cell? _ _ e0
     have e0 := gcell e0
     obtain ⟨y, hy⟩ : ∃ y, y = L[i].id := ⟨_, rfl⟩
     rw [← hy] at e0
     have HY := yy hy
     clear hy hcv
     by_cases hlt2 : y < xi
     ·have hl2d := decide_eq_true hlt2
      go_wp2_with fail
      go_quiet_grown (fail)
      have kq := gro_of_grow wr nq osq
      dsimp only at kq ⊢
      clear x2 t0 s0 e0
      generalize Go.Sort.grow (wr.drewN nq) osq = w3 at kq ⊢
      have HG3 := yy (HG.out.trans kq)
      have HLT3 : Hid (∀ j (h : j < L.length), j < i + 1 → L[j].id < xi) := yy (fun j h hj => by
       by_cases e : j = i
       ·subst e; rw [← HY.out]; exact hlt2
       exact HLT.out j h (by omega))
      clear kq
      go_wp2_with fail
      go_roundw
      case rel => exact ⟨i + 1, by omega, by go_num, HG3, HLT3⟩
      case measure => simp [intOf]; omega
     have hl2d := decide_eq_false hlt2
     have HGE : Hid (∀ h : i < L.length, xi ≤ L[i].id) := yy (fun h => by rw [← HY.out]; omega)
     go_wp2_with fail
     go_quiet_grown (fail)
     have kq := gro_of_grow wr nq osq
     dsimp only at kq ⊢
     clear x2 t0 s0 e0
     generalize Go.Sort.grow (wr.drewN nq) osq = w3 at kq ⊢
     have HG3 := yy (HG.out.trans kq)
     clear kq
     go_wp2_with fail
     go_meet
     exact ⟨i, hi, rfl, HG3, HLT, HGE⟩
    have hlI := decide_eq_false (show ¬ (i : Int) < (L.length : Int) by omega)
    have HGE : Hid (∀ h : i < L.length, xi ≤ L[i].id) := yy (fun h => absurd h hli)
    go_wp2_with fail
    go_quiet_grown (fail)
    have kq := gro_of_grow wr nq osq
    dsimp only at kq ⊢
    clear x2 t0 s0
    generalize Go.Sort.grow (wr.drewN nq) osq = w3 at kq ⊢
    have HG3 := yy (HG.out.trans kq)
    clear kq
    go_wp2_with fail
    go_meet
    exact ⟨i, hi, rfl, HG3, HLT, HGE⟩
   case rest =>
   obtain ⟨i, hi, rfl, HG, HLT, HGE⟩ := hcut
   rcases own_cases HB1.out.va with ⟨hva, hL0⟩ | ⟨gv, cv2, hva, hcap⟩
   ·injection hva with e1 e2 e3
    subst e1 e3 hL0
    have hi0 : i = 0 := by simpa using hi
    subst hi0
    have HS0 : Hid ((fun w' => w'.heap[T]? = some (.cells #[.slice none 0 0, .slice sb g.es.length cb, .slice sc g.ds.length cc] 38 (0, 0)) ∧ w'.heap[w.heap.size + 1]? = some (.cells #[Value.int IntKind.i64 b.round, Value.slice ap b.ps.length np, Value.slice (some ⟨ob, off, none⟩) b.os.length no, Value.slice aq b.ws.length mq] 28 (0, 0)) ∧ w'.cell? ⟨ob, off + k * 7, none⟩ = some (.int .i64 xi) ∧ w'.cell? ⟨ob, off + k * 7 + 2, none⟩ = some (.int .i64 xs)) wc.drew) := yy ⟨HG.out.drew.blk HB1.out.tb, HG.out.drew.blk HX1.out, HG.out.drew.cell d0, HG.out.drew.cell d2⟩
    have HOWN := yy (HB1.out.va.gro HG.out)
    have hbw : w.heap.size ≤ wc.heap.size := Nat.le_trans HB1.out.gro.size HG.out.size
    go_wp2_with fail
    refine anyL_begin 26 (fun w' => w'.heap[T]? = some (.cells #[.slice none 0 0, .slice sb g.es.length cb, .slice sc g.ds.length cc] 38 (0, 0)) ∧ w'.heap[w.heap.size + 1]? = some (.cells #[Value.int IntKind.i64 b.round, Value.slice ap b.ps.length np, Value.slice (some ⟨ob, off, none⟩) b.os.length no, Value.slice aq b.ws.length mq] 28 (0, 0)) ∧ w'.cell? ⟨ob, off + k * 7, none⟩ = some (.int .i64 xi) ∧ w'.cell? ⟨ob, off + k * 7 + 2, none⟩ = some (.int .i64 xs)) (by kernel_rfl) ?_
    have hS : (fun w' => w'.heap[T]? = some (.cells #[.slice none 0 0, .slice sb g.es.length cb, .slice sc g.ds.length cc] 38 (0, 0)) ∧ w'.heap[w.heap.size + 1]? = some (.cells #[Value.int IntKind.i64 b.round, Value.slice ap b.ps.length np, Value.slice (some ⟨ob, off, none⟩) b.os.length no, Value.slice aq b.ws.length mq] 28 (0, 0)) ∧ w'.cell? ⟨ob, off + k * 7, none⟩ = some (.int .i64 xi) ∧ w'.cell? ⟨ob, off + k * 7 + 2, none⟩ = some (.int .i64 xs)) wc.drew := HS0.out
    have HO := yy (HOWN.out.gro ((Gro.refl wc).drew))
    have HKD := yy ((Gro.refl wc).drew)
    clear HOWN HS0
    generalize wc.drew = wd at hS HO HKD ⊢
    refine tkL 0 rfl lfR61 hS ?_
    refine nx ?_
    refine tkL 1 rfl lfR61 hS ?_
    refine nx ?_
    refine tkL 2 rfl lfR61 hS ?_
    refine nx ?_
    refine tkL 3 rfl lfR61 hS ?_
    refine nx ?_
    refine tkL 4 rfl lfR61 hS ?_
    refine nx ?_
    refine tkL 5 rfl lfR61 hS ?_
    refine nx ?_
    refine tkL 6 rfl lfR61 hS ?_
    refine nx ?_
    refine tkL 7 rfl lfR61 hS ?_
    refine nx ?_
    refine tkL 8 rfl lfR61 hS ?_
    refine nx ?_
    refine tkL 9 rfl lfR61 hS ?_
    refine nx ?_
    refine tkL 10 rfl lfR61 hS ?_
    refine nx ?_
    refine tkL 11 rfl lfR61 hS ?_
    refine nx ?_
    refine tkL 12 rfl lfR61 hS ?_
    refine nx ?_
    refine tkL 13 rfl lfR61 hS ?_
    refine nx ?_
    refine tkL 14 rfl lfR61 hS ?_
    refine nx ?_
    refine tkL 15 rfl lfR61 hS ?_
    refine nx ?_
    refine tkL 16 rfl lfR61 hS ?_
    refine nx ?_
    refine tkL 17 rfl lfR61 hS ?_
    refine nx ?_
    refine tkL 19 rfl lfR61 hS ?_
    refine nx ?_
    refine tkL 20 rfl lfR61 hS ?_
    refine nx ?_
    refine tkL 21 rfl lfR61 hS ?_
    refine nx ?_
    refine tkL 22 rfl lfR61 hS ?_
    refine nx ?_
    refine anyL_one (i := 18) (by kernel_rfl) rfl (fun K hK => ?_)
    go_simp
    obtain ⟨w1, hw1⟩ : ∃ w1, w1 = wd.alloc (Obj.cells #[.int .i64 xi, .int .i64 xs] 77) := ⟨_, rfl⟩
    rw [← hw1]
    have k1 : Gro wd w1 := by rw [hw1]; exact (Gro.refl _).alloc _
    have o1 : OwnL w1 wd.heap.size (.slice (some ⟨wd.heap.size, 0, none⟩) 1 1) [(⟨xi, xs⟩ : Vtx)] := by rw [hw1]; exact own_single (⟨xi, xs⟩ : Vtx) wd
    have hS1 : (fun w' => w'.heap[T]? = some (.cells #[.slice none 0 0, .slice sb g.es.length cb, .slice sc g.ds.length cc] 38 (0, 0)) ∧ w'.heap[w.heap.size + 1]? = some (.cells #[Value.int IntKind.i64 b.round, Value.slice ap b.ps.length np, Value.slice (some ⟨ob, off, none⟩) b.os.length no, Value.slice aq b.ws.length mq] 28 (0, 0)) ∧ w'.cell? ⟨ob, off + k * 7, none⟩ = some (.int .i64 xi) ∧ w'.cell? ⟨ob, off + k * 7 + 2, none⟩ = some (.int .i64 xs)) w1 := ⟨k1.blk hS.1, k1.blk hS.2.1, k1.cell hS.2.2.1, k1.cell hS.2.2.2⟩
    clear hw1
    refine hK.out _ _ (fun _ => hS1) ?_
    clear hK K
    try refine nx ?_
    have hsz1 : wd.heap.size ≤ w1.heap.size := k1.size
    have LL := HO.out.lv (by omega)
    obtain ⟨v2, w2, hrun2, o2, k2⟩ := run_appL o1 (show Lst w1 none 0 0 (([] : List Vtx).drop 0) from lst_nil _ _) (by simp only [List.length_cons, List.length_nil, List.length_drop]; omega) hsz1 35
    have k12 : Gro wd w2 := Kept.trans' k1 k2 (fun j hj => .inr (o1.block hj).1)
    have hS2 : (fun w' => w'.heap[T]? = some (.cells #[.slice none 0 0, .slice sb g.es.length cb, .slice sc g.ds.length cc] 38 (0, 0)) ∧ w'.heap[w.heap.size + 1]? = some (.cells #[Value.int IntKind.i64 b.round, Value.slice ap b.ps.length np, Value.slice (some ⟨ob, off, none⟩) b.os.length no, Value.slice aq b.ws.length mq] 28 (0, 0)) ∧ w'.cell? ⟨ob, off + k * 7, none⟩ = some (.int .i64 xi) ∧ w'.cell? ⟨ob, off + k * 7 + 2, none⟩ = some (.int .i64 xs)) w2 := ⟨k12.blk hS.1, k12.blk hS.2.1, k12.cell hS.2.2.1, k12.cell hS.2.2.2⟩
    refine anyL_one (i := 23) (by kernel_rfl) rfl (fun K hK => ?_)
    refine step_run rfl _ _ 35 rfl _ _ rfl rfl hrun2 ?_
    refine hK.out _ _ (fun _ => hS2) ?_
    clear hK K
    try refine nx ?_
    obtain ⟨az2, cz2, hv2, l2⟩ := o2.lv (by simp only [List.length_append, List.length_cons, List.length_nil, List.length_drop]; omega)
    obtain ⟨v3, w3, hrun3, o3, k3⟩ := run_appcap (show Lst w2 none 0 0 (([] : List Vtx).take 0) from lst_nil _ _) (fun _ => rfl) (l2) (by simp) (by simp only [List.length_append, List.length_cons, List.length_nil, List.length_drop, List.length_take]; omega) 35
    rw [← hv2] at hrun3
    have k13 : Gro wd w3 := k12.trans k3
    have hS3 : (fun w' => w'.heap[T]? = some (.cells #[.slice none 0 0, .slice sb g.es.length cb, .slice sc g.ds.length cc] 38 (0, 0)) ∧ w'.heap[w.heap.size + 1]? = some (.cells #[Value.int IntKind.i64 b.round, Value.slice ap b.ps.length np, Value.slice (some ⟨ob, off, none⟩) b.os.length no, Value.slice aq b.ws.length mq] 28 (0, 0)) ∧ w'.cell? ⟨ob, off + k * 7, none⟩ = some (.int .i64 xi) ∧ w'.cell? ⟨ob, off + k * 7 + 2, none⟩ = some (.int .i64 xs)) w3 := ⟨k13.blk hS.1, k13.blk hS.2.1, k13.cell hS.2.2.1, k13.cell hS.2.2.2⟩
    refine anyL_one (i := 24) (by kernel_rfl) rfl (fun K hK => ?_)
    refine step_run rfl _ _ 35 rfl _ _ rfl rfl hrun3 ?_
    refine hK.out _ _ (fun _ => hS3) ?_
    clear hK K
    try refine nx ?_
    have o3' : OwnL w3 w.heap.size v3 (insAt ([] : List Vtx) 0 (⟨xi, xs⟩ : Vtx)) := by
     have h3 := o3.le (Nat.le_trans hbw (Nat.le_trans HKD.out.size k12.size))
     rwa [List.singleton_append] at h3
    obtain ⟨s3, c3, hv3⟩ := o3'.form
    generalize hN3 : (insAt ([] : List Vtx) 0 (⟨xi, xs⟩ : Vtx)).length = n3 at hv3
    subst hv3
    have O3 := yy o3'
    have K13 := yy (HKD.out.trans k13)
    have hS := hS3
    clear hS1 hS2 hS3 o1 o2 k1 k2 k3 k12 k13 hrun2 hrun3 o3 o3' hv2 l2 LL HO HKD hsz1 hN3
    refine tkL 25 rfl lfR61 hS ?_
    refine nx ?_
    have fz := blk_frozen hS.1 0
    have ct := blk_cell hS.1 0
    simp only [lPa, lPb, lPc] at ct
    have hlT := blk_lt hS.1
    refine anyL_one (i := 26) (by kernel_rfl) rfl (fun K hK => ?_)
    go_simp
    refine hK.out _ _ (fun h => absurd rfl h) ?_
    clear hK K
    try refine nx ?_
    refine anyL_done (by kernel_rfl) ?_
    have HB2 := yy (insV2 HB1.out HG.out K13.out O3.out)
    have HX2 := yy (box_keep (i := 0) (v := .slice s3 n3 c3) HX1.out HB1.out.tb HG.out K13.out)
    rw [ins_at Vtx.id ⟨xi, xs⟩ [] 0 hi HLT.out HGE.out, ← HOP.out (by first | rfl | trivial)] at HB2
    clear hS fz ct hlT HG K13 O3
    go_wp2_with fail
    go_roundw
    case rel => first | exact ⟨k + 1, _, by omega, by go_num, HB2, HX2⟩ | ((repeat apply Exists.intro); exact ⟨⟨by omega, by go_num, HB2, HX2⟩, rfl⟩)
    case measure => simp [intOf]; omega
   injection hva with e1 e2 e3
   subst e1 e3
   have hic : i ≤ cva := Nat.le_trans hi hcap
   have HS0 : Hid ((fun w' => w'.heap[T]? = some (.cells #[.slice (some ⟨gv, 0, none⟩) L.length cva, .slice sb g.es.length cb, .slice sc g.ds.length cc] 38 (0, 0)) ∧ w'.heap[w.heap.size + 1]? = some (.cells #[Value.int IntKind.i64 b.round, Value.slice ap b.ps.length np, Value.slice (some ⟨ob, off, none⟩) b.os.length no, Value.slice aq b.ws.length mq] 28 (0, 0)) ∧ w'.cell? ⟨ob, off + k * 7, none⟩ = some (.int .i64 xi) ∧ w'.cell? ⟨ob, off + k * 7 + 2, none⟩ = some (.int .i64 xs)) wc.drew) := yy ⟨HG.out.drew.blk HB1.out.tb, HG.out.drew.blk HX1.out, HG.out.drew.cell d0, HG.out.drew.cell d2⟩
   have HOWN := yy (HB1.out.va.gro HG.out)
   have hbw : w.heap.size ≤ wc.heap.size := Nat.le_trans HB1.out.gro.size HG.out.size
   go_wp2_with fail
   refine anyL_begin 26 (fun w' => w'.heap[T]? = some (.cells #[.slice (some ⟨gv, 0, none⟩) L.length cva, .slice sb g.es.length cb, .slice sc g.ds.length cc] 38 (0, 0)) ∧ w'.heap[w.heap.size + 1]? = some (.cells #[Value.int IntKind.i64 b.round, Value.slice ap b.ps.length np, Value.slice (some ⟨ob, off, none⟩) b.os.length no, Value.slice aq b.ws.length mq] 28 (0, 0)) ∧ w'.cell? ⟨ob, off + k * 7, none⟩ = some (.int .i64 xi) ∧ w'.cell? ⟨ob, off + k * 7 + 2, none⟩ = some (.int .i64 xs)) (by kernel_rfl) ?_
   have hS : (fun w' => w'.heap[T]? = some (.cells #[.slice (some ⟨gv, 0, none⟩) L.length cva, .slice sb g.es.length cb, .slice sc g.ds.length cc] 38 (0, 0)) ∧ w'.heap[w.heap.size + 1]? = some (.cells #[Value.int IntKind.i64 b.round, Value.slice ap b.ps.length np, Value.slice (some ⟨ob, off, none⟩) b.os.length no, Value.slice aq b.ws.length mq] 28 (0, 0)) ∧ w'.cell? ⟨ob, off + k * 7, none⟩ = some (.int .i64 xi) ∧ w'.cell? ⟨ob, off + k * 7 + 2, none⟩ = some (.int .i64 xs)) wc.drew := HS0.out
   have HO := yy (HOWN.out.gro ((Gro.refl wc).drew))
   have HKD := yy ((Gro.refl wc).drew)
   clear HOWN HS0
   generalize wc.drew = wd at hS HO HKD ⊢
   refine tkL 0 rfl lfR61 hS ?_
   refine nx ?_
   refine tkL 1 rfl lfR61 hS ?_
   refine nx ?_
   refine tkL 2 rfl lfR61 hS ?_
   refine nx ?_
   refine tkL 3 rfl lfR61 hS ?_
   refine nx ?_
   refine tkL 4 rfl lfR61 hS ?_
   refine nx ?_
   refine tkL 5 rfl lfR61 hS ?_
   refine nx ?_
   refine tkL 6 rfl lfR61 hS ?_
   refine nx ?_
   refine tkL 7 rfl lfR61 hS ?_
   refine nx ?_
   refine tkL 8 rfl lfR61 hS ?_
   refine nx ?_
   refine tkL 9 rfl lfR61 hS ?_
   refine nx ?_
   refine tkL 10 rfl lfR61 hS ?_
   refine nx ?_
   refine tkL 11 rfl lfR61 hS ?_
   refine nx ?_
   refine tkL 12 rfl lfR61 hS ?_
   refine nx ?_
   refine tkL 13 rfl lfR61 hS ?_
   refine nx ?_
   refine tkL 14 rfl lfR61 hS ?_
   refine nx ?_
   refine tkL 15 rfl lfR61 hS ?_
   refine nx ?_
   refine tkL 16 rfl lfR61 hS ?_
   refine nx ?_
   refine tkL 17 rfl lfR61 hS ?_
   refine nx ?_
   refine tkL 19 rfl lfR61 hS ?_
   refine nx ?_
   refine tkL 20 rfl lfR61 hS ?_
   refine nx ?_
   refine tkL 21 rfl lfR61 hS ?_
   refine nx ?_
   refine tkL 22 rfl lfR61 hS ?_
   refine nx ?_
   refine anyL_one (i := 18) (by kernel_rfl) rfl (fun K hK => ?_)
   go_simp
   obtain ⟨w1, hw1⟩ : ∃ w1, w1 = wd.alloc (Obj.cells #[.int .i64 xi, .int .i64 xs] 77) := ⟨_, rfl⟩
   rw [← hw1]
   have k1 : Gro wd w1 := by rw [hw1]; exact (Gro.refl _).alloc _
   have o1 : OwnL w1 wd.heap.size (.slice (some ⟨wd.heap.size, 0, none⟩) 1 1) [(⟨xi, xs⟩ : Vtx)] := by rw [hw1]; exact own_single (⟨xi, xs⟩ : Vtx) wd
   have hS1 : (fun w' => w'.heap[T]? = some (.cells #[.slice (some ⟨gv, 0, none⟩) L.length cva, .slice sb g.es.length cb, .slice sc g.ds.length cc] 38 (0, 0)) ∧ w'.heap[w.heap.size + 1]? = some (.cells #[Value.int IntKind.i64 b.round, Value.slice ap b.ps.length np, Value.slice (some ⟨ob, off, none⟩) b.os.length no, Value.slice aq b.ws.length mq] 28 (0, 0)) ∧ w'.cell? ⟨ob, off + k * 7, none⟩ = some (.int .i64 xi) ∧ w'.cell? ⟨ob, off + k * 7 + 2, none⟩ = some (.int .i64 xs)) w1 := ⟨k1.blk hS.1, k1.blk hS.2.1, k1.cell hS.2.2.1, k1.cell hS.2.2.2⟩
   clear hw1
   refine hK.out _ _ (fun _ => hS1) ?_
   clear hK K
   try refine nx ?_
   have hsz1 : wd.heap.size ≤ w1.heap.size := k1.size
   have LL := HO.out.lv (by omega)
   obtain ⟨v2, w2, hrun2, o2, k2⟩ := run_appL o1 (lst_drop_if (own_lst (HO.out.gro k1) (by omega)) i hi) (by simp only [List.length_cons, List.length_nil, List.length_drop]; omega) hsz1 35
   have k12 : Gro wd w2 := Kept.trans' k1 k2 (fun j hj => .inr (o1.block hj).1)
   have hS2 : (fun w' => w'.heap[T]? = some (.cells #[.slice (some ⟨gv, 0, none⟩) L.length cva, .slice sb g.es.length cb, .slice sc g.ds.length cc] 38 (0, 0)) ∧ w'.heap[w.heap.size + 1]? = some (.cells #[Value.int IntKind.i64 b.round, Value.slice ap b.ps.length np, Value.slice (some ⟨ob, off, none⟩) b.os.length no, Value.slice aq b.ws.length mq] 28 (0, 0)) ∧ w'.cell? ⟨ob, off + k * 7, none⟩ = some (.int .i64 xi) ∧ w'.cell? ⟨ob, off + k * 7 + 2, none⟩ = some (.int .i64 xs)) w2 := ⟨k12.blk hS.1, k12.blk hS.2.1, k12.cell hS.2.2.1, k12.cell hS.2.2.2⟩
   refine anyL_one (i := 23) (by kernel_rfl) rfl (fun K hK => ?_)
   refine step_run rfl _ _ 35 rfl _ _ rfl rfl hrun2 ?_
   refine hK.out _ _ (fun _ => hS2) ?_
   clear hK K
   try refine nx ?_
   obtain ⟨az2, cz2, hv2, l2⟩ := o2.lv (by simp only [List.length_append, List.length_cons, List.length_nil, List.length_drop]; omega)
   obtain ⟨v3, w3, hrun3, o3, k3⟩ := run_appcap (lst_take (own_lst (HO.out.gro k12) (by omega)) i hi) (fun h => by cases h) (l2) (by simp) (by simp only [List.length_append, List.length_cons, List.length_nil, List.length_drop, List.length_take]; omega) 35
   rw [← hv2] at hrun3
   have k13 : Gro wd w3 := k12.trans k3
   have hS3 : (fun w' => w'.heap[T]? = some (.cells #[.slice (some ⟨gv, 0, none⟩) L.length cva, .slice sb g.es.length cb, .slice sc g.ds.length cc] 38 (0, 0)) ∧ w'.heap[w.heap.size + 1]? = some (.cells #[Value.int IntKind.i64 b.round, Value.slice ap b.ps.length np, Value.slice (some ⟨ob, off, none⟩) b.os.length no, Value.slice aq b.ws.length mq] 28 (0, 0)) ∧ w'.cell? ⟨ob, off + k * 7, none⟩ = some (.int .i64 xi) ∧ w'.cell? ⟨ob, off + k * 7 + 2, none⟩ = some (.int .i64 xs)) w3 := ⟨k13.blk hS.1, k13.blk hS.2.1, k13.cell hS.2.2.1, k13.cell hS.2.2.2⟩
   refine anyL_one (i := 24) (by kernel_rfl) rfl (fun K hK => ?_)
   refine step_run rfl _ _ 35 rfl _ _ rfl rfl hrun3 ?_
   refine hK.out _ _ (fun _ => hS3) ?_
   clear hK K
   try refine nx ?_
   have o3' : OwnL w3 w.heap.size v3 (insAt L i (⟨xi, xs⟩ : Vtx)) := by
    have h3 := o3.le (Nat.le_trans hbw (Nat.le_trans HKD.out.size k12.size))
    rwa [List.singleton_append] at h3
   obtain ⟨s3, c3, hv3⟩ := o3'.form
   generalize hN3 : (insAt L i (⟨xi, xs⟩ : Vtx)).length = n3 at hv3
   subst hv3
   have O3 := yy o3'
   have K13 := yy (HKD.out.trans k13)
   have hS := hS3
   clear hS1 hS2 hS3 o1 o2 k1 k2 k3 k12 k13 hrun2 hrun3 o3 o3' hv2 l2 LL HO HKD hsz1 hN3
   refine tkL 25 rfl lfR61 hS ?_
   refine nx ?_
   have fz := blk_frozen hS.1 0
   have ct := blk_cell hS.1 0
   simp only [lPa, lPb, lPc] at ct
   have hlT := blk_lt hS.1
   refine anyL_one (i := 26) (by kernel_rfl) rfl (fun K hK => ?_)
   go_simp
   refine hK.out _ _ (fun h => absurd rfl h) ?_
   clear hK K
   try refine nx ?_
   refine anyL_done (by kernel_rfl) ?_
   have HB2 := yy (insV2 HB1.out HG.out K13.out O3.out)
   have HX2 := yy (box_keep (i := 0) (v := .slice s3 n3 c3) HX1.out HB1.out.tb HG.out K13.out)
   rw [ins_at Vtx.id ⟨xi, xs⟩ L i hi HLT.out HGE.out, ← HOP.out (by first | rfl | trivial)] at HB2
   clear hS fz ct hlT HG K13 O3
   go_wp2_with fail
   go_roundw
   case rel => first | exact ⟨k + 1, _, by omega, by go_num, HB2, HX2⟩ | ((repeat apply Exists.intro); exact ⟨⟨by omega, by go_num, HB2, HX2⟩, rfl⟩)
   case measure => simp [intOf]; omega
  have hst' : (xt != 1) = true := by simpa using hst
  rw [← HSH.out hst] at HB1
  go_wp2_with fail
  go_roundw
  case rel => exact ⟨k + 1, va, by omega, by go_num, HB1, HX1⟩
  case measure => simp [intOf]; omega
 obtain rfl : k = b.os.length := by omega
 go_wp2_with fail
 clear q2 hlX
 have HB0 := HB1
 have BX0 := HX1
 clear HB1 HX1
 go_loopw [8] (fun t wr => ∃ (k : Nat) (vb : Value), k ≤ b.ws.length ∧ t = .int .i64 k ∧ Hid (BAt w wr T (w.heap.size + 1 + 1) va vb (.slice sc g.ds.length cc) (vsAt g b b.os.length) (esAt g b k) g.ds) ∧ Hid (wr.heap[w.heap.size + 1]? = some (.cells #[Value.int IntKind.i64 b.round, Value.slice ap b.ps.length np, Value.slice ao b.os.length no, Value.slice aq b.ws.length mq] 28 (0, 0)))) (fun t _ => b.ws.length - (intOf t).toNat)
 case atStart => exact ⟨0, _, Nat.zero_le _, by go_num, HB0, BX0⟩
 case round =>
 clear HB0 BX0
 obtain ⟨k, vb, hk, rfl, HB1, HX1⟩ := hrel
 have cq := blk_cell HX1.out
 have q0 := cq 0
 have q1 := cq 1
 have q2 := cq 2
 have q3 := cq 3
 simp only [lPa, lPb, lPc] at q0 q1 q2 q3
 have hlX := blk_lt HX1.out
 clear cq
 by_cases hlt : k < b.ws.length
 ·obtain ⟨qb, off, rfl, hqb, hc⟩ := (LQ.out.gro HB1.out.gro).base hlt
  obtain ⟨d0, d1, d2, d3⟩ := wcells hc hlt
  have hlq := World.block_lt_of_cell? _ _ d0
  have hesu := esAt_succ (g := g) hlt
  have hvf := esAt_few (g := g) (b := b) k
  have hvl : (esAt g b k).length ≤ 1000000 := by omega
  have hdir := dirOf_fnd (b := b) (x := b.ws[k])
  generalize b.ws[k] = x at d0 d1 d2 d3 hesu hdir
  obtain ⟨xe, xf, xo, xw⟩ := x
  unfold edgOf at hesu
  simp only at d0 d1 d2 d3 hesu hdir
  generalize dirOf b ⟨xe, xf, xo, xw⟩ = dd at hesu hdir
  have HES := yy hesu
  have CF2 := yy (fun W hW => CF.out W hW xf)
  generalize fidx (b.os.map Ofr.id) xf = fx at CF2 hdir
  have HDI := yy hdir
  generalize hL : esAt g b k = L at HB1 HES hvl
  have HLL := yy hL
  have b9 := blk_new wr (.cells #[.int .i64 xe, .int .i64 xf, .int .i64 xo, .int .i64 xw] 32)
  have k9 : Gro wr (wr.alloc (.cells #[.int .i64 xe, .int .i64 xf, .int .i64 xo, .int .i64 xw] 32)) := (Gro.refl _).alloc _
  obtain ⟨w9, hw9⟩ : ∃ w9, w9 = wr.alloc (Obj.cells #[.int .i64 xe, .int .i64 xf, .int .i64 xo, .int .i64 xw] 32) := ⟨_, rfl⟩
  rw [← hw9] at b9 k9
  have HW9 := yy hw9
  have B9 := yy b9
  have K9 := yy k9
  clear hL hvf hesu hdir hc hw9 b9 k9
  go_wp2_with fail
  rw [← HW9.out]
  generalize wr.heap.size = E9 at B9 ⊢
  clear HW9 q0 q1 q2 q3 hlX d0 d1 d2 d3 hlq
  refine (CF2.out _ (HB1.out.gro.trans K9.out)).mono ?_
  rintro e w2 ⟨rfl, k2⟩
  have K2 := yy (K9.out.trans k2)
  have B92 := yy (k2.blk B9.out)
  clear k2 K9 B9 CF2
  go_upto_region 15 with fail
  go_cut [11] (fun t wx => ∃ EB, t = .pointer (some ⟨EB, 0, none⟩) ∧ Hid (Gro wr wx) ∧ Hid (wx.heap[EB]? = some (.cells #[.int .i64 xe, .int .i64 xf, .int .i64 xo, .bool dd, .int .i64 xw, .int .i64 0] 69 (0, 0))))
  case first =>
   rcases HDI.out with ⟨rfl, rfl⟩ | ⟨j, hj, rfl, hdd⟩
   ·skip
    refine anyL_begin 21 (fun w' => w'.heap[w.heap.size + 1]? = some (.cells #[Value.int IntKind.i64 b.round, Value.slice ap b.ps.length np, Value.slice ao b.os.length no, Value.slice (some ⟨qb, off, none⟩) b.ws.length mq] 28 (0, 0)) ∧ w'.heap[E9]? = some (.cells #[.int .i64 xe, .int .i64 xf, .int .i64 xo, .int .i64 xw] 32 (0, 0))) (by kernel_rfl) ?_
    have hS : (fun w' => w'.heap[w.heap.size + 1]? = some (.cells #[Value.int IntKind.i64 b.round, Value.slice ap b.ps.length np, Value.slice ao b.os.length no, Value.slice (some ⟨qb, off, none⟩) b.ws.length mq] 28 (0, 0)) ∧ w'.heap[E9]? = some (.cells #[.int .i64 xe, .int .i64 xf, .int .i64 xo, .int .i64 xw] 32 (0, 0))) w2.drew := ⟨(K2.out.drew).blk HX1.out, (Gro.refl w2).drew.blk B92.out⟩
    have KD := yy (K2.out.drew)
    generalize w2.drew = wd at hS KD ⊢
    refine tkL 0 rfl lfR64 hS ?_
    refine nx ?_
    refine tkL 1 rfl lfR64 hS ?_
    refine nx ?_
    refine tkL 2 rfl lfR64 hS ?_
    refine nx ?_
    refine tkL 3 rfl lfR64 hS ?_
    refine nx ?_
    refine tkL 4 rfl lfR64 hS ?_
    refine nx ?_
    refine tkL 5 rfl lfR64 hS ?_
    refine nx ?_
    refine tkL 6 rfl lfR64 hS ?_
    refine nx ?_
    refine tkL 7 rfl lfR64 hS ?_
    refine nx ?_
    refine tkL 8 rfl lfR64 hS ?_
    refine nx ?_
    refine tkL 9 rfl lfR64 hS ?_
    refine nx ?_
    refine tkL 10 rfl lfR64 hS ?_
    refine nx ?_
    refine anyL_take (i := 11) (v := undef) rfl (by kernel_rfl) (by kernel_rfl) (by kernel_rfl) (by kernel_rfl) (fun _ _ _ h => h) (Or.inr ⟨rfl, rfl⟩) hS ?_
    refine nx ?_
    refine anyL_take (i := 12) (v := undef) rfl (by kernel_rfl) (by kernel_rfl) (by kernel_rfl) (by kernel_rfl) (fun _ _ _ h => h) (Or.inr ⟨rfl, rfl⟩) hS ?_
    refine nx ?_
    refine anyL_take (i := 13) (v := undef) rfl (by kernel_rfl) (by kernel_rfl) (by kernel_rfl) (by kernel_rfl) (fun _ _ _ h => h) (Or.inr ⟨rfl, rfl⟩) hS ?_
    refine nx ?_
    refine anyL_take (i := 14) (v := undef) rfl (by kernel_rfl) (by kernel_rfl) (by kernel_rfl) (by kernel_rfl) (fun _ _ _ h => h) (Or.inr ⟨rfl, rfl⟩) hS ?_
    refine nx ?_
    refine anyL_take (i := 15) (v := undef) rfl (by kernel_rfl) (by kernel_rfl) (by kernel_rfl) (by kernel_rfl) (fun _ _ _ h => h) (Or.inr ⟨rfl, rfl⟩) hS ?_
    refine nx ?_
    refine anyL_take (i := 16) (v := undef) rfl (by kernel_rfl) (by kernel_rfl) (by kernel_rfl) (by kernel_rfl) (fun _ _ _ h => h) (Or.inr ⟨rfl, rfl⟩) hS ?_
    refine nx ?_
    refine anyL_take (i := 17) (v := undef) rfl (by kernel_rfl) (by kernel_rfl) (by kernel_rfl) (by kernel_rfl) (fun _ _ _ h => h) (Or.inr ⟨rfl, rfl⟩) hS ?_
    refine nx ?_
    refine tkL 18 rfl lfR64 hS ?_
    refine nx ?_
    refine tkL 19 rfl lfR64 hS ?_
    refine nx ?_
    refine anyL_one (i := 20) (by kernel_rfl) rfl (fun K hK => ?_)
    go_simp
    obtain ⟨w1, hw1⟩ : ∃ w1, w1 = wd.alloc (Obj.cells #[.int .i64 0, .int .i64 0, .int .i64 0, .bool false, .int .i64 0, .int .i64 0] 69) := ⟨_, rfl⟩
    rw [← hw1]
    have k1 : Gro wd w1 := by rw [hw1]; exact (Gro.refl _).alloc _
    have bE : w1.heap[wd.heap.size]? = some (.cells #[.int .i64 0, .int .i64 0, .int .i64 0, .bool false, .int .i64 0, .int .i64 0] 69 (0, 0)) := by rw [hw1]; exact blk_new _ _
    have hS1 : (fun w' => w'.heap[w.heap.size + 1]? = some (.cells #[Value.int IntKind.i64 b.round, Value.slice ap b.ps.length np, Value.slice ao b.os.length no, Value.slice (some ⟨qb, off, none⟩) b.ws.length mq] 28 (0, 0)) ∧ w'.heap[E9]? = some (.cells #[.int .i64 xe, .int .i64 xf, .int .i64 xo, .int .i64 xw] 32 (0, 0))) w1 := ⟨k1.blk hS.1, k1.blk hS.2⟩
    clear hw1
    refine hK.out _ _ (fun _ => hS1) ?_
    clear hK K
    try refine nx ?_
    have fe := blk_frozen bE
    have ce := blk_cell bE
    have fe0 := fe 0
    have ce0 := ce 0
    have fe1 := fe 1
    have ce1 := ce 1
    have fe2 := fe 2
    have ce2 := ce 2
    have fe3 := fe 3
    have ce3 := ce 3
    have fe4 := fe 4
    have ce4 := ce 4
    have fe5 := fe 5
    have ce5 := ce 5
    simp only [lPa, lPb, lPc] at ce0 ce1 ce2 ce3 ce4 ce5
    have hlE := blk_lt bE
    clear fe ce
    have KW : Hid (Gro wd (set6w w1 wd.heap.size (.int .i64 xe) (.int .i64 xf) (.int .i64 xo) (.bool false) (.int .i64 xw) (.int .i64 0))) := yy (kept6 k1 (.inr (Nat.le_refl _)) (.int .i64 xe) (.int .i64 xf) (.int .i64 xo) (.bool false) (.int .i64 xw) (.int .i64 0))
    have BE : Hid ((set6w w1 wd.heap.size (.int .i64 xe) (.int .i64 xf) (.int .i64 xo) (.bool false) (.int .i64 xw) (.int .i64 0)).heap[wd.heap.size]? = some (.cells #[.int .i64 xe, .int .i64 xf, .int .i64 xo, .bool false, .int .i64 xw, .int .i64 0] 69 (0, 0))) := yy (set6 bE (.int .i64 xe) (.int .i64 xf) (.int .i64 xo) (.bool false) (.int .i64 xw) (.int .i64 0))
    clear bE k1
    unfold set6w at KW BE
    refine anyL_one (i := 21) (by kernel_rfl) rfl (fun K hK => ?_)
    go_simp
    refine hK.out _ _ (fun h => absurd rfl h) ?_
    clear hK K
    try refine nx ?_
    refine anyL_done (by kernel_rfl) ?_
    clear fe0 ce0 fe1 ce1 fe2 ce2 fe3 ce3 fe4 ce4 fe5 ce5 hlE hS hS1
    have HGo := yy (KD.out.trans KW.out)
    clear KW KD
    go_wp2_with fail
    go_meet
    exact ⟨_, rfl, HGo, BE⟩
   have hjn := decide_eq_true (show (0 : Int) ≤ (j : Int) by omega)
   obtain ⟨ob, ooff, rfl, hob, hoc⟩ := (LO.out.gro HB1.out.gro).base hj
   obtain ⟨_, _, s2, _, _, _, _⟩ := ocells hoc hj
   obtain ⟨ys, hys⟩ : ∃ ys, ys = b.os[j].side := ⟨_, rfl⟩
   rw [← hys] at s2 hdd
   subst hdd
   clear hys hoc
   refine anyL_begin 21 (fun w' => w'.heap[w.heap.size + 1]? = some (.cells #[Value.int IntKind.i64 b.round, Value.slice ap b.ps.length np, Value.slice (some ⟨ob, ooff, none⟩) b.os.length no, Value.slice (some ⟨qb, off, none⟩) b.ws.length mq] 28 (0, 0)) ∧ w'.heap[E9]? = some (.cells #[.int .i64 xe, .int .i64 xf, .int .i64 xo, .int .i64 xw] 32 (0, 0)) ∧ w'.cell? ⟨ob, ooff + j * 7 + 2, none⟩ = some (.int .i64 ys)) (by kernel_rfl) ?_
   have hS : (fun w' => w'.heap[w.heap.size + 1]? = some (.cells #[Value.int IntKind.i64 b.round, Value.slice ap b.ps.length np, Value.slice (some ⟨ob, ooff, none⟩) b.os.length no, Value.slice (some ⟨qb, off, none⟩) b.ws.length mq] 28 (0, 0)) ∧ w'.heap[E9]? = some (.cells #[.int .i64 xe, .int .i64 xf, .int .i64 xo, .int .i64 xw] 32 (0, 0)) ∧ w'.cell? ⟨ob, ooff + j * 7 + 2, none⟩ = some (.int .i64 ys)) w2.drew := ⟨(K2.out.drew).blk HX1.out, (Gro.refl w2).drew.blk B92.out, (K2.out.drew).cell s2⟩
   have KD := yy (K2.out.drew)
   generalize w2.drew = wd at hS KD ⊢
   refine tkL 0 rfl lfR63 hS ?_
   refine nx ?_
   refine tkL 1 rfl lfR63 hS ?_
   refine nx ?_
   refine tkL 2 rfl lfR63 hS ?_
   refine nx ?_
   refine tkL 3 rfl lfR63 hS ?_
   refine nx ?_
   refine tkL 4 rfl lfR63 hS ?_
   refine nx ?_
   refine tkL 5 rfl lfR63 hS ?_
   refine nx ?_
   refine tkL 6 rfl lfR63 hS ?_
   refine nx ?_
   refine tkL 7 rfl lfR63 hS ?_
   refine nx ?_
   refine tkL 8 rfl lfR63 hS ?_
   refine nx ?_
   refine tkL 9 rfl lfR63 hS ?_
   refine nx ?_
   refine tkL 10 rfl lfR63 hS ?_
   refine nx ?_
   refine tkL 11 rfl lfR63 hS ?_
   refine nx ?_
   refine tkL 12 rfl lfR63 hS ?_
   refine nx ?_
   refine tkL 13 rfl lfR63 hS ?_
   refine nx ?_
   refine tkL 14 rfl lfR63 hS ?_
   refine nx ?_
   refine tkL 15 rfl lfR63 hS ?_
   refine nx ?_
   refine tkL 16 rfl lfR63 hS ?_
   refine nx ?_
   refine tkL 17 rfl lfR63 hS ?_
   refine nx ?_
   refine tkL 18 rfl lfR63 hS ?_
   refine nx ?_
   refine tkL 19 rfl lfR63 hS ?_
   refine nx ?_
   refine anyL_one (i := 20) (by kernel_rfl) rfl (fun K hK => ?_)
   go_simp
   obtain ⟨w1, hw1⟩ : ∃ w1, w1 = wd.alloc (Obj.cells #[.int .i64 0, .int .i64 0, .int .i64 0, .bool false, .int .i64 0, .int .i64 0] 69) := ⟨_, rfl⟩
   rw [← hw1]
   have k1 : Gro wd w1 := by rw [hw1]; exact (Gro.refl _).alloc _
   have bE : w1.heap[wd.heap.size]? = some (.cells #[.int .i64 0, .int .i64 0, .int .i64 0, .bool false, .int .i64 0, .int .i64 0] 69 (0, 0)) := by rw [hw1]; exact blk_new _ _
   have hS1 : (fun w' => w'.heap[w.heap.size + 1]? = some (.cells #[Value.int IntKind.i64 b.round, Value.slice ap b.ps.length np, Value.slice (some ⟨ob, ooff, none⟩) b.os.length no, Value.slice (some ⟨qb, off, none⟩) b.ws.length mq] 28 (0, 0)) ∧ w'.heap[E9]? = some (.cells #[.int .i64 xe, .int .i64 xf, .int .i64 xo, .int .i64 xw] 32 (0, 0)) ∧ w'.cell? ⟨ob, ooff + j * 7 + 2, none⟩ = some (.int .i64 ys)) w1 := ⟨k1.blk hS.1, k1.blk hS.2.1, k1.cell hS.2.2⟩
   clear hw1
   refine hK.out _ _ (fun _ => hS1) ?_
   clear hK K
   try refine nx ?_
   have fe := blk_frozen bE
   have ce := blk_cell bE
   have fe0 := fe 0
   have ce0 := ce 0
   have fe1 := fe 1
   have ce1 := ce 1
   have fe2 := fe 2
   have ce2 := ce 2
   have fe3 := fe 3
   have ce3 := ce 3
   have fe4 := fe 4
   have ce4 := ce 4
   have fe5 := fe 5
   have ce5 := ce 5
   simp only [lPa, lPb, lPc] at ce0 ce1 ce2 ce3 ce4 ce5
   have hlE := blk_lt bE
   clear fe ce
   have KW : Hid (Gro wd (set6w w1 wd.heap.size (.int .i64 xe) (.int .i64 xf) (.int .i64 xo) (.bool (ys == 3)) (.int .i64 xw) (.int .i64 0))) := yy (kept6 k1 (.inr (Nat.le_refl _)) (.int .i64 xe) (.int .i64 xf) (.int .i64 xo) (.bool (ys == 3)) (.int .i64 xw) (.int .i64 0))
   have BE : Hid ((set6w w1 wd.heap.size (.int .i64 xe) (.int .i64 xf) (.int .i64 xo) (.bool (ys == 3)) (.int .i64 xw) (.int .i64 0)).heap[wd.heap.size]? = some (.cells #[.int .i64 xe, .int .i64 xf, .int .i64 xo, .bool (ys == 3), .int .i64 xw, .int .i64 0] 69 (0, 0))) := yy (set6 bE (.int .i64 xe) (.int .i64 xf) (.int .i64 xo) (.bool (ys == 3)) (.int .i64 xw) (.int .i64 0))
   clear bE k1
   unfold set6w at KW BE
   refine anyL_one (i := 21) (by kernel_rfl) rfl (fun K hK => ?_)
   go_simp
   refine hK.out _ _ (fun h => absurd rfl h) ?_
   clear hK K
   try refine nx ?_
   refine anyL_done (by kernel_rfl) ?_
   clear fe0 ce0 fe1 ce1 fe2 ce2 fe3 ce3 fe4 ce4 fe5 ce5 hlE hS hS1
   have HGo := yy (KD.out.trans KW.out)
   clear KW KD
   go_wp2_with fail
   go_meet
   exact ⟨_, rfl, HGo, BE⟩
  case rest =>
  obtain ⟨EB, rfl, HGo, BE⟩ := hcut
  obtain ⟨we, hwe⟩ : ∃ we, we = wc := ⟨_, rfl⟩
  rw [← hwe] at HGo BE ⊢
  clear hwe
  obtain ⟨svb, cvb, hvb0⟩ := HB1.out.vb.form
  subst hvb0
  go_upto_block 6 with fail
  go_cut [12] (fun t wx => ∃ i : Nat, i ≤ L.length ∧ t = .int .i64 i ∧ Hid (Gro we wx) ∧ Hid (∀ j (h : j < L.length), j < i → L[j].id < xe) ∧ Hid (∀ h : i < L.length, xe ≤ L[i].id))
  case first =>
   go_wp2_with fail
   go_loopw [12] (fun t wr2 => ∃ i : Nat, i ≤ L.length ∧ t = .int .i64 i ∧ Hid (Gro we wr2) ∧ Hid (∀ j (h : j < L.length), j < i → L[j].id < xe)) (fun t _ => L.length - (intOf t).toNat)
   case atStart => exact ⟨0, Nat.zero_le _, by go_num, yy (Gro.refl _), yy (fun j h hj => by omega)⟩
   case round =>
   obtain ⟨i, hi, rfl, HG, HLT⟩ := hrel
   have z0 := blk_cell (HG.out.blk BE.out) 0
   have t1 := blk_cell ((HGo.out.trans HG.out).blk HB1.out.tb) 1
   simp only [lPa, lPb, lPc] at z0 t1
   have hlE2 := blk_lt (HG.out.blk BE.out)
   have hlT2 := blk_lt ((HGo.out.trans HG.out).blk HB1.out.tb)
   have z0 := gcell z0
   have t1 := gcell t1
   by_cases hli : i < L.length
   ·have hlI := decide_eq_true (show (i : Int) < (L.length : Int) by omega)
    obtain ⟨Bv, offv, rfl, hbv, hcv⟩ := (own_lst (HB1.out.vb.gro (HGo.out.trans HG.out)) (by omega)).base hli
    obtain ⟨e0, _⟩ := ecells hcv hli
    have hlv := World.block_lt_of_cell? _ _ e0
    have e0 := gcell e0
    obtain ⟨y, hy⟩ : ∃ y, y = L[i].id := ⟨_, rfl⟩
    rw [← hy] at e0
    have HY := yy hy
    clear hy hcv
    by_cases hlt2 : y < xe
    ·have hl2d := decide_eq_true hlt2
     go_wp2_with fail
     go_quiet_grown (fail)
     have kq := gro_of_grow wr nq osq
     dsimp only at kq ⊢
     clear z0 t1 e0
     generalize Go.Sort.grow (wr.drewN nq) osq = w3 at kq ⊢
     have HG3 := yy (HG.out.trans kq)
     have HLT3 : Hid (∀ j (h : j < L.length), j < i + 1 → L[j].id < xe) := yy (fun j h hj => by
      by_cases e : j = i
      ·subst e; rw [← HY.out]; exact hlt2
      exact HLT.out j h (by omega))
     clear kq
     go_wp2_with fail
     go_roundw
     case rel => exact ⟨i + 1, by omega, by go_num, HG3, HLT3⟩
     case measure => simp [intOf]; omega
    have hl2d := decide_eq_false hlt2
    have HGE : Hid (∀ h : i < L.length, xe ≤ L[i].id) := yy (fun h => by rw [← HY.out]; omega)
    go_wp2_with fail
    go_quiet_grown (fail)
    have kq := gro_of_grow wr nq osq
    dsimp only at kq ⊢
    clear z0 t1 e0
    generalize Go.Sort.grow (wr.drewN nq) osq = w3 at kq ⊢
    have HG3 := yy (HG.out.trans kq)
    clear kq
    go_wp2_with fail
    go_meet
    exact ⟨i, hi, rfl, HG3, HLT, HGE⟩
   have hlI := decide_eq_false (show ¬ (i : Int) < (L.length : Int) by omega)
   have HGE : Hid (∀ h : i < L.length, xe ≤ L[i].id) := yy (fun h => absurd h hli)
   go_wp2_with fail
   go_quiet_grown (fail)
   have kq := gro_of_grow wr nq osq
   dsimp only at kq ⊢
   clear z0 t1
   generalize Go.Sort.grow (wr.drewN nq) osq = w3 at kq ⊢
   have HG3 := yy (HG.out.trans kq)
   clear kq
   go_wp2_with fail
   go_meet
   exact ⟨i, hi, rfl, HG3, HLT, HGE⟩
  case rest =>
  obtain ⟨i, hi, rfl, HG, HLT, HGE⟩ := hcut
  rcases own_cases HB1.out.vb with ⟨hvb, hL0⟩ | ⟨gv, cv2, hvb, hcap⟩
  ·injection hvb with e1 e2 e3
   subst e1 e3 hL0
   have hi0 : i = 0 := by simpa using hi
   subst hi0
   have HS0 : Hid ((fun w' => w'.heap[T]? = some (.cells #[va, .slice none 0 0, .slice sc g.ds.length cc] 38 (0, 0)) ∧ w'.heap[EB]? = some (.cells #[.int .i64 xe, .int .i64 xf, .int .i64 xo, .bool dd, .int .i64 xw, .int .i64 0] 69 (0, 0))) wc.drew) := yy ⟨(HGo.out.trans HG.out).drew.blk HB1.out.tb, HG.out.drew.blk BE.out⟩
   have HOWN := yy (HB1.out.vb.gro (HGo.out.trans HG.out))
   have hbw : w.heap.size ≤ wc.heap.size := Nat.le_trans HB1.out.gro.size (HGo.out.trans HG.out).size
   go_wp2_with fail
   refine anyL_begin 14 (fun w' => w'.heap[T]? = some (.cells #[va, .slice none 0 0, .slice sc g.ds.length cc] 38 (0, 0)) ∧ w'.heap[EB]? = some (.cells #[.int .i64 xe, .int .i64 xf, .int .i64 xo, .bool dd, .int .i64 xw, .int .i64 0] 69 (0, 0))) (by kernel_rfl) ?_
   have hS : (fun w' => w'.heap[T]? = some (.cells #[va, .slice none 0 0, .slice sc g.ds.length cc] 38 (0, 0)) ∧ w'.heap[EB]? = some (.cells #[.int .i64 xe, .int .i64 xf, .int .i64 xo, .bool dd, .int .i64 xw, .int .i64 0] 69 (0, 0))) wc.drew := HS0.out
   have HO := yy (HOWN.out.gro ((Gro.refl wc).drew))
   have HKD := yy ((Gro.refl wc).drew)
   clear HOWN HS0
   generalize wc.drew = wd at hS HO HKD ⊢
   refine tkL 0 rfl lfR62 hS ?_
   refine nx ?_
   refine tkL 1 rfl lfR62 hS ?_
   refine nx ?_
   refine tkL 2 rfl lfR62 hS ?_
   refine nx ?_
   refine tkL 3 rfl lfR62 hS ?_
   refine nx ?_
   refine tkL 4 rfl lfR62 hS ?_
   refine nx ?_
   refine tkL 5 rfl lfR62 hS ?_
   refine nx ?_
   refine tkL 7 rfl lfR62 hS ?_
   refine nx ?_
   refine tkL 8 rfl lfR62 hS ?_
   refine nx ?_
   refine tkL 9 rfl lfR62 hS ?_
   refine nx ?_
   refine tkL 10 rfl lfR62 hS ?_
   refine nx ?_
   refine anyL_one (i := 6) (by kernel_rfl) rfl (fun K hK => ?_)
   go_simp
   obtain ⟨w1, hw1⟩ : ∃ w1, w1 = wd.alloc (Obj.cells #[.int .i64 xe, .int .i64 xf, .int .i64 xo, .bool dd, .int .i64 xw, .int .i64 0] 69) := ⟨_, rfl⟩
   rw [← hw1]
   have k1 : Gro wd w1 := by rw [hw1]; exact (Gro.refl _).alloc _
   have o1 : OwnL w1 wd.heap.size (.slice (some ⟨wd.heap.size, 0, none⟩) 1 1) [(⟨xe, xf, xo, dd, xw, 0⟩ : Edg)] := by rw [hw1]; exact own_single (⟨xe, xf, xo, dd, xw, 0⟩ : Edg) wd
   have hS1 : (fun w' => w'.heap[T]? = some (.cells #[va, .slice none 0 0, .slice sc g.ds.length cc] 38 (0, 0)) ∧ w'.heap[EB]? = some (.cells #[.int .i64 xe, .int .i64 xf, .int .i64 xo, .bool dd, .int .i64 xw, .int .i64 0] 69 (0, 0))) w1 := ⟨k1.blk hS.1, k1.blk hS.2⟩
   clear hw1
   refine hK.out _ _ (fun _ => hS1) ?_
   clear hK K
   try refine nx ?_
   have hsz1 : wd.heap.size ≤ w1.heap.size := k1.size
   have LL := HO.out.lv (by omega)
   obtain ⟨v2, w2, hrun2, o2, k2⟩ := run_appL o1 (show Lst w1 none 0 0 (([] : List Edg).drop 0) from lst_nil _ _) (by simp only [List.length_cons, List.length_nil, List.length_drop]; omega) hsz1 36
   have k12 : Gro wd w2 := Kept.trans' k1 k2 (fun j hj => .inr (o1.block hj).1)
   have hS2 : (fun w' => w'.heap[T]? = some (.cells #[va, .slice none 0 0, .slice sc g.ds.length cc] 38 (0, 0)) ∧ w'.heap[EB]? = some (.cells #[.int .i64 xe, .int .i64 xf, .int .i64 xo, .bool dd, .int .i64 xw, .int .i64 0] 69 (0, 0))) w2 := ⟨k12.blk hS.1, k12.blk hS.2⟩
   refine anyL_one (i := 11) (by kernel_rfl) rfl (fun K hK => ?_)
   refine step_run rfl _ _ 36 rfl _ _ rfl rfl hrun2 ?_
   refine hK.out _ _ (fun _ => hS2) ?_
   clear hK K
   try refine nx ?_
   obtain ⟨az2, cz2, hv2, l2⟩ := o2.lv (by simp only [List.length_append, List.length_cons, List.length_nil, List.length_drop]; omega)
   obtain ⟨v3, w3, hrun3, o3, k3⟩ := run_appcap (show Lst w2 none 0 0 (([] : List Edg).take 0) from lst_nil _ _) (fun _ => rfl) (l2) (by simp) (by simp only [List.length_append, List.length_cons, List.length_nil, List.length_drop, List.length_take]; omega) 36
   rw [← hv2] at hrun3
   have k13 : Gro wd w3 := k12.trans k3
   have hS3 : (fun w' => w'.heap[T]? = some (.cells #[va, .slice none 0 0, .slice sc g.ds.length cc] 38 (0, 0)) ∧ w'.heap[EB]? = some (.cells #[.int .i64 xe, .int .i64 xf, .int .i64 xo, .bool dd, .int .i64 xw, .int .i64 0] 69 (0, 0))) w3 := ⟨k13.blk hS.1, k13.blk hS.2⟩
   refine anyL_one (i := 12) (by kernel_rfl) rfl (fun K hK => ?_)
   refine step_run rfl _ _ 36 rfl _ _ rfl rfl hrun3 ?_
   refine hK.out _ _ (fun _ => hS3) ?_
   clear hK K
   try refine nx ?_
   have o3' : OwnL w3 w.heap.size v3 (insAt ([] : List Edg) 0 (⟨xe, xf, xo, dd, xw, 0⟩ : Edg)) := by
    have h3 := o3.le (Nat.le_trans hbw (Nat.le_trans HKD.out.size k12.size))
    rwa [List.singleton_append] at h3
   obtain ⟨s3, c3, hv3⟩ := o3'.form
   generalize hN3 : (insAt ([] : List Edg) 0 (⟨xe, xf, xo, dd, xw, 0⟩ : Edg)).length = n3 at hv3
   subst hv3
   have O3 := yy o3'
   have K13 := yy (HKD.out.trans k13)
   have hS := hS3
   clear hS1 hS2 hS3 o1 o2 k1 k2 k3 k12 k13 hrun2 hrun3 o3 o3' hv2 l2 LL HO HKD hsz1 hN3
   refine tkL 13 rfl lfR62 hS ?_
   refine nx ?_
   have fz := blk_frozen hS.1 1
   have ct := blk_cell hS.1 1
   simp only [lPa, lPb, lPc] at ct
   have hlT := blk_lt hS.1
   refine anyL_one (i := 14) (by kernel_rfl) rfl (fun K hK => ?_)
   go_simp
   refine hK.out _ _ (fun h => absurd rfl h) ?_
   clear hK K
   try refine nx ?_
   refine anyL_done (by kernel_rfl) ?_
   have HB2 := yy (insE2 HB1.out (HGo.out.trans HG.out) K13.out O3.out)
   have HX2 := yy (box_keep (i := 1) (v := .slice s3 n3 c3) HX1.out HB1.out.tb (HGo.out.trans HG.out) K13.out)
   rw [ins_at Edg.id ⟨xe, xf, xo, dd, xw, 0⟩ [] 0 hi HLT.out HGE.out, ← HES.out] at HB2
   clear hS fz ct hlT HG K13 O3
   go_wp2_with fail
   go_roundw
   case rel => first | exact ⟨k + 1, _, by omega, by go_num, HB2, HX2⟩ | ((repeat apply Exists.intro); exact ⟨⟨by omega, by go_num, HB2, HX2⟩, rfl⟩)
   case measure => simp [intOf]; omega
  injection hvb with e1 e2 e3
  subst e1 e3
  have hic : i ≤ cvb := Nat.le_trans hi hcap
  have HS0 : Hid ((fun w' => w'.heap[T]? = some (.cells #[va, .slice (some ⟨gv, 0, none⟩) L.length cvb, .slice sc g.ds.length cc] 38 (0, 0)) ∧ w'.heap[EB]? = some (.cells #[.int .i64 xe, .int .i64 xf, .int .i64 xo, .bool dd, .int .i64 xw, .int .i64 0] 69 (0, 0))) wc.drew) := yy ⟨(HGo.out.trans HG.out).drew.blk HB1.out.tb, HG.out.drew.blk BE.out⟩
  have HOWN := yy (HB1.out.vb.gro (HGo.out.trans HG.out))
  have hbw : w.heap.size ≤ wc.heap.size := Nat.le_trans HB1.out.gro.size (HGo.out.trans HG.out).size
  go_wp2_with fail
  refine anyL_begin 14 (fun w' => w'.heap[T]? = some (.cells #[va, .slice (some ⟨gv, 0, none⟩) L.length cvb, .slice sc g.ds.length cc] 38 (0, 0)) ∧ w'.heap[EB]? = some (.cells #[.int .i64 xe, .int .i64 xf, .int .i64 xo, .bool dd, .int .i64 xw, .int .i64 0] 69 (0, 0))) (by kernel_rfl) ?_
  have hS : (fun w' => w'.heap[T]? = some (.cells #[va, .slice (some ⟨gv, 0, none⟩) L.length cvb, .slice sc g.ds.length cc] 38 (0, 0)) ∧ w'.heap[EB]? = some (.cells #[.int .i64 xe, .int .i64 xf, .int .i64 xo, .bool dd, .int .i64 xw, .int .i64 0] 69 (0, 0))) wc.drew := HS0.out
  have HO := yy (HOWN.out.gro ((Gro.refl wc).drew))
  have HKD := yy ((Gro.refl wc).drew)
  clear HOWN HS0
  generalize wc.drew = wd at hS HO HKD ⊢
  refine tkL 0 rfl lfR62 hS ?_
  refine nx ?_
  refine tkL 1 rfl lfR62 hS ?_
  refine nx ?_
  refine tkL 2 rfl lfR62 hS ?_
  refine nx ?_
  refine tkL 3 rfl lfR62 hS ?_
  refine nx ?_
  refine tkL 4 rfl lfR62 hS ?_
  refine nx ?_
  refine tkL 5 rfl lfR62 hS ?_
  refine nx ?_
  refine tkL 7 rfl lfR62 hS ?_
  refine nx ?_
  refine tkL 8 rfl lfR62 hS ?_
  refine nx ?_
  refine tkL 9 rfl lfR62 hS ?_
  refine nx ?_
  refine tkL 10 rfl lfR62 hS ?_
  refine nx ?_
  refine anyL_one (i := 6) (by kernel_rfl) rfl (fun K hK => ?_)
  go_simp
  obtain ⟨w1, hw1⟩ : ∃ w1, w1 = wd.alloc (Obj.cells #[.int .i64 xe, .int .i64 xf, .int .i64 xo, .bool dd, .int .i64 xw, .int .i64 0] 69) := ⟨_, rfl⟩
  rw [← hw1]
  have k1 : Gro wd w1 := by rw [hw1]; exact (Gro.refl _).alloc _
  have o1 : OwnL w1 wd.heap.size (.slice (some ⟨wd.heap.size, 0, none⟩) 1 1) [(⟨xe, xf, xo, dd, xw, 0⟩ : Edg)] := by rw [hw1]; exact own_single (⟨xe, xf, xo, dd, xw, 0⟩ : Edg) wd
  have hS1 : (fun w' => w'.heap[T]? = some (.cells #[va, .slice (some ⟨gv, 0, none⟩) L.length cvb, .slice sc g.ds.length cc] 38 (0, 0)) ∧ w'.heap[EB]? = some (.cells #[.int .i64 xe, .int .i64 xf, .int .i64 xo, .bool dd, .int .i64 xw, .int .i64 0] 69 (0, 0))) w1 := ⟨k1.blk hS.1, k1.blk hS.2⟩
  clear hw1
  refine hK.out _ _ (fun _ => hS1) ?_
  clear hK K
  try refine nx ?_
  have hsz1 : wd.heap.size ≤ w1.heap.size := k1.size
  have LL := HO.out.lv (by omega)
  obtain ⟨v2, w2, hrun2, o2, k2⟩ := run_appL o1 (lst_drop_if (own_lst (HO.out.gro k1) (by omega)) i hi) (by simp only [List.length_cons, List.length_nil, List.length_drop]; omega) hsz1 36
  have k12 : Gro wd w2 := Kept.trans' k1 k2 (fun j hj => .inr (o1.block hj).1)
  have hS2 : (fun w' => w'.heap[T]? = some (.cells #[va, .slice (some ⟨gv, 0, none⟩) L.length cvb, .slice sc g.ds.length cc] 38 (0, 0)) ∧ w'.heap[EB]? = some (.cells #[.int .i64 xe, .int .i64 xf, .int .i64 xo, .bool dd, .int .i64 xw, .int .i64 0] 69 (0, 0))) w2 := ⟨k12.blk hS.1, k12.blk hS.2⟩
  refine anyL_one (i := 11) (by kernel_rfl) rfl (fun K hK => ?_)
  refine step_run rfl _ _ 36 rfl _ _ rfl rfl hrun2 ?_
  refine hK.out _ _ (fun _ => hS2) ?_
  clear hK K
  try refine nx ?_
  obtain ⟨az2, cz2, hv2, l2⟩ := o2.lv (by simp only [List.length_append, List.length_cons, List.length_nil, List.length_drop]; omega)
  obtain ⟨v3, w3, hrun3, o3, k3⟩ := run_appcap (lst_take (own_lst (HO.out.gro k12) (by omega)) i hi) (fun h => by cases h) (l2) (by simp) (by simp only [List.length_append, List.length_cons, List.length_nil, List.length_drop, List.length_take]; omega) 36
  rw [← hv2] at hrun3
  have k13 : Gro wd w3 := k12.trans k3
  have hS3 : (fun w' => w'.heap[T]? = some (.cells #[va, .slice (some ⟨gv, 0, none⟩) L.length cvb, .slice sc g.ds.length cc] 38 (0, 0)) ∧ w'.heap[EB]? = some (.cells #[.int .i64 xe, .int .i64 xf, .int .i64 xo, .bool dd, .int .i64 xw, .int .i64 0] 69 (0, 0))) w3 := ⟨k13.blk hS.1, k13.blk hS.2⟩
  refine anyL_one (i := 12) (by kernel_rfl) rfl (fun K hK => ?_)
  refine step_run rfl _ _ 36 rfl _ _ rfl rfl hrun3 ?_
  refine hK.out _ _ (fun _ => hS3) ?_
  clear hK K
  try refine nx ?_
  have o3' : OwnL w3 w.heap.size v3 (insAt L i (⟨xe, xf, xo, dd, xw, 0⟩ : Edg)) := by
   have h3 := o3.le (Nat.le_trans hbw (Nat.le_trans HKD.out.size k12.size))
   rwa [List.singleton_append] at h3
  obtain ⟨s3, c3, hv3⟩ := o3'.form
  generalize hN3 : (insAt L i (⟨xe, xf, xo, dd, xw, 0⟩ : Edg)).length = n3 at hv3
  subst hv3
  have O3 := yy o3'
  have K13 := yy (HKD.out.trans k13)
  have hS := hS3
  clear hS1 hS2 hS3 o1 o2 k1 k2 k3 k12 k13 hrun2 hrun3 o3 o3' hv2 l2 LL HO HKD hsz1 hN3
  refine tkL 13 rfl lfR62 hS ?_
  refine nx ?_
  have fz := blk_frozen hS.1 1
  have ct := blk_cell hS.1 1
  simp only [lPa, lPb, lPc] at ct
  have hlT := blk_lt hS.1
  refine anyL_one (i := 14) (by kernel_rfl) rfl (fun K hK => ?_)
  go_simp
  refine hK.out _ _ (fun h => absurd rfl h) ?_
  clear hK K
  try refine nx ?_
  refine anyL_done (by kernel_rfl) ?_
  have HB2 := yy (insE2 HB1.out (HGo.out.trans HG.out) K13.out O3.out)
  have HX2 := yy (box_keep (i := 1) (v := .slice s3 n3 c3) HX1.out HB1.out.tb (HGo.out.trans HG.out) K13.out)
  rw [ins_at Edg.id ⟨xe, xf, xo, dd, xw, 0⟩ L i hi HLT.out HGE.out, ← HES.out] at HB2
  clear hS fz ct hlT HG K13 O3
  go_wp2_with fail
  go_roundw
  case rel => first | exact ⟨k + 1, _, by omega, by go_num, HB2, HX2⟩ | ((repeat apply Exists.intro); exact ⟨⟨by omega, by go_num, HB2, HX2⟩, rfl⟩)
  case measure => simp [intOf]; omega
 obtain rfl : k = b.ws.length := by omega
 obtain ⟨ra, ca2, hra⟩ := HB1.out.va.form
 obtain ⟨rb, cb2, hrb⟩ := HB1.out.vb.form
 subst hra hrb
 have ct := blk_cell HB1.out.tb
 have t0 := ct 0
 have t1 := ct 1
 have t2 := ct 2
 have cr := blk_cell HB1.out.rb
 have r0 := cr 0
 have r1 := cr 1
 have r2 := cr 2
 have fr := blk_frozen HB1.out.rb
 have f0 := fr 0
 have f1 := fr 1
 have f2 := fr 2
 simp only [lPa, lPb, lPc] at t0 t1 t2 r0 r1 r2
 have hlT := blk_lt HB1.out.tb
 have hlR := blk_lt HB1.out.rb
 have hl1 := vsAt_few (g := g) (b := b) b.os.length
 have hl2 := esAt_few (g := g) (b := b) b.ws.length
 have B5 := set3 HB1.out.rb (.slice ra (vsAt g b b.os.length).length ca2) (.slice rb (esAt g b b.ws.length).length cb2) (.slice sc g.ds.length cc)
 have K5 := kept3 (Kept.refl (· = w.heap.size + 1 + 1) wr) (.inl rfl) (.slice ra (vsAt g b b.os.length).length ca2) (.slice rb (esAt g b b.ws.length).length cb2) (.slice sc g.ds.length cc)
 have K6 := kept3 HB1.out.gro (.inr HB1.out.rl) (.slice ra (vsAt g b b.os.length).length ca2) (.slice rb (esAt g b b.ws.length).length cb2) (.slice sc g.ds.length cc)
 have Q0 := yy ((HB1.out.va.far K5 HB1.out.rb (by decide)).lv (by omega))
 have Q1 := yy ((HB1.out.vb.far K5 HB1.out.rb (by decide)).lv (by omega))
 have Q2 := yy ((HB1.out.vc.far K5 HB1.out.rb (by decide)).lv (by omega))
 have B6 := yy B5
 have K7 := yy K6
 have HBA := yy (build_at g b)
 clear ct cr fr B5 K5 K6 hl1 hl2
 generalize (vsAt g b b.os.length).length = N1 at t0 Q0 B6 K7 Q1 Q2
 generalize (esAt g b b.ws.length).length = N2 at t1 Q0 B6 K7 Q1 Q2
 go_wp2_with fail
 (try simp only [Exit.inBlock, Exit.then])
 refine bodyPost_ret (results_cell_row (p := 4) (ty := 38) rfl _ _ (w.heap.size + 1 + 1) 38 _ (0, 0) _ rfl B6.out Tryz.underlying38 rfl (by kernel_rfl)) rfl ⟨_, _, _, rfl, ?_, K7.out⟩
 rw [HBA.out]
 exact ⟨Q0.out, Q1.out, Q2.out⟩
end Go.Proofs.YthfagcdjbmhhcaaGreat
