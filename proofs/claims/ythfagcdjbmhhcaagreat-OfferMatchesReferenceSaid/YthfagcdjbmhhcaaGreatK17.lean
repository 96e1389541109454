/- gone. gone. Changes. -/
import Derived.Test.YthfagcdjbmhhcaaGreatK14
set_option linter.unusedVariables false
set_option linter.unusedSimpArgs false
namespace Go.Proofs.YthfagcdjbmhhcaaGreat
open Go.RowKit
attribute [local irreducible] wpQuiet
def moved (a b : Gr) (id : Int) : Bool := sideG a id != sideG b id
def goneV (a b : Gr) : List Vtx := a.vs.filter fun v => sideG b v.id != v.side
def lostE (a b : Gr) (e : Edg) : Bool := !decide (e ∈ b.es) || moved a b e.src || moved a b e.dst
def goneE (a b : Gr) : List Edg := a.es.filter (lostE a b)
theorem wpList_app1 {α : Type} [RecI α] {W : World} (x : α) {ops : Array Oper} {rest : List Oper} {o : Oper} {a : Act} {Q : Exit → Act → World → Prop} (hgd : o.guard = none) (s t : Operand)
  (ho : o.op = .call { callee := .builtin .append, args := #[s, t], argTypes := #[Rec.sty α, Rec.sty α] }) {base : Nat} {v : Value} {l : List α} (hs : a.eval s = v) (hown : OwnL W base v l) (hx : a.eval t = .slice (some ⟨W.heap.size, 0, none⟩) 1 1)
  (hfew : l.length ≤ 900000000) (hbase : base ≤ W.heap.size)
  (h : ∀ v' w', OwnL w' base v' (l ++ [x]) → Kept (ownF v) W w' → (v'.ownBlock = v.ownBlock ∨ v'.ownBlock = some (W.heap.size + 1)) → wpList Tryz.prog ops Q rest (a.put o.dst v') w') : wpList Tryz.prog ops Q (o :: rest) a (W.alloc (.cells (Rec.cs x).toArray (Rec.ty α))) := by
 have kA : Gro W (W.alloc (.cells (Rec.cs x).toArray (Rec.ty α))) := (Gro.refl _).alloc _
 refine wpList_app (α := α) hgd s t ho hs (hown.gro kA) ⟨W.heap.size, 0, none⟩ 1 1 [x] hx rfl (fun j u hu => World.news_of_block (blk_new _ _) j u (by simpa [flat] using hu)) (by omega) (by rw [asz]; omega) (fun v' w' h1 h2 h3 => h v' w' h1 (Kept.trans' (kA.kept _) h2 (fun i hi => .inl hi)) ?_)
 rw [asz] at h3
 exact h3
set_option maxHeartbeats 2000000 in
theorem clo132 {w : World} {A B : Nat} {v1 v2 v3 u1 u2 u3 : Value} {a b : Gr} (hA : w.heap[A]? = some (.cells #[v1, v2, v3] 38 (0, 0))) (hB : w.heap[B]? = some (.cells #[u1, u2, u3] 38 (0, 0))) (ha : GAt w v1 v2 v3 a) (hb : GAt w u1 u2 u3 b)
  (fa : a.few) (fb : b.few) (sa : (a.vs.map Vtx.id).Pairwise (· < ·)) (sb : (b.vs.map Vtx.id).Pairwise (· < ·)) (id : Int) :
  Calls Tryz.prog 132 #[.int .i64 id, .pointer (some ⟨A, 0, none⟩), .pointer (some ⟨B, 0, none⟩)] w fun e w' => e = .returned (.bool (moved a b id)) ∧ Gro w w' := by
 have hmix := mixed
 obtain ⟨a1, n1, rfl, l1⟩ := ha.vs
 obtain ⟨a2, n2, rfl, l2⟩ := ha.es
 obtain ⟨a3, n3, rfl, l3⟩ := ha.ds
 obtain ⟨b1, m1, rfl, k1⟩ := hb.vs
 obtain ⟨b2, m2, rfl, k2⟩ := hb.es
 obtain ⟨b3, m3, rfl, k3⟩ := hb.ds
 have C1 : Hid (∀ W, Gro w W → Calls Tryz.prog 131 #[.agg #[.slice a1 a.vs.length n1, .slice a2 a.es.length n2, .slice a3 a.ds.length n3], .int .i64 id] W fun e w' => e = .returned (.int .i64 (sideG a id)) ∧ Gro W w') :=
  yy fun W hW => side131 ⟨_, _, _, rfl, ha.gro hW⟩ fa sa id
 have C2 : Hid (∀ W, Gro w W → Calls Tryz.prog 131 #[.agg #[.slice b1 b.vs.length m1, .slice b2 b.es.length m2, .slice b3 b.ds.length m3], .int .i64 id] W fun e w' => e = .returned (.int .i64 (sideG b id)) ∧ Gro W w') :=
  yy fun W hW => side131 ⟨_, _, _, rfl, hb.gro hW⟩ fb sb id
 have hr : moved a b id = (sideG a id != sideG b id) := rfl
 generalize sideG a id = x at C1 hr
 generalize sideG b id = y at C2 hr
 have HR := yy hr
 have cA := blk_cell hA
 have cB := blk_cell hB
 have e0 := cA 0
 have e1 := cA 1
 have e2 := cA 2
 have g0 := cB 0
 have g1 := cB 1
 have g2 := cB 2
 simp only [lPa, lPb, lPc] at e0 e1 e2 g0 g1 g2
 have hlA := blk_lt hA
 have hlB := blk_lt hB
 have e0 := gcell e0
 have e1 := gcell e1
 have e2 := gcell e2
 have g0 := gcell g0
 have g1 := gcell g1
 have g2 := gcell g2
 generalize a.vs.length = N1 at C1 e0
 generalize a.es.length = N2 at C1 e1
 generalize a.ds.length = N3 at C1 e2
 generalize b.vs.length = M1 at C2 g0
 generalize b.es.length = M2 at C2 g1
 generalize b.ds.length = M3 at C2 g2
 clear hr ha hb l1 l2 l3 k1 k2 k3 hA hB cA cB fa fb sa sb
 go_enter Tryz.func132, Tryz.ntmps132
 go_wp2_with fail
 go_quiet_grown ((first | (go_at_call_of 131 (Value.agg #[.slice a1 N1 n1, .slice a2 N2 n2, .slice a3 N3 n3]); exact Calls.quiet_gro (C1.out _ (gro_of_grow _ _ _))) | (go_at_call_of 131 (Value.agg #[.slice b1 M1 m1, .slice b2 M2 m2, .slice b3 M3 m3]); exact Calls.quiet_gro (C2.out _ (gro_of_grow _ _ _)))))
 have kq := gro_of_grow w nq osq
 dsimp only at kq ⊢
 clear e0 e1 e2 g0 g1 g2
 generalize Go.Sort.grow (w.drewN nq) osq = w3 at kq ⊢
 have KQ := yy kq
 clear kq
 go_wp2_with fail
 go_ret
 exact ⟨by rw [HR.out]; rfl, KQ.out⟩
end Go.Proofs.YthfagcdjbmhhcaaGreat
namespace Go.Proofs.YthfagcdjbmhhcaaGreat
open Go.RowKit
attribute [local irreducible] wpQuiet
theorem filter_take_succ {α : Type} (p : α → Bool) (l : List α) (k : Nat) (h : k < l.length) : (l.take (k + 1)).filter p = (l.take k).filter p ++ (if p l[k] = true then [l[k]] else []) := by
 rw [take_snoc l k h, List.filter_append]
 congr 1
 by_cases hp : p l[k] = true <;> simp [hp]
theorem memE_at {b : Gr} (ha : (b.es.map Edg.id).Pairwise (· < ·)) {e : Edg} {i : Nat} (hi : i < b.es.length) (h : b.es[i].id = e.id) : decide (e ∈ b.es) = decide (b.es[i] = e) := by
 rw [decide_eq_decide]
 constructor
 ·intro hm
  obtain ⟨j, hj, he⟩ := List.getElem_of_mem hm
  have : j = i := by
   rcases Nat.lt_trichotomy j i with hh | hh | hh
   ·have := lt_of_pair ha (i := j) (j := i) (by simpa using hj) (by simpa using hi) hh
    simp only [List.getElem_map, he, h] at this; omega
   ·exact hh
   have := lt_of_pair ha (i := i) (j := j) (by simpa using hi) (by simpa using hj) hh
   simp only [List.getElem_map, he, h] at this; omega
  subst this
  exact he
 intro he
 exact he ▸ List.getElem_mem hi
theorem memE_none {b : Gr} {e : Edg} (h : e.id ∉ b.es.map Edg.id) : decide (e ∈ b.es) = false := by
 rw [decide_eq_false_iff_not]
 exact fun hm => h (List.mem_map.2 ⟨e, hm, rfl⟩)
/-- the state of gone's loops -/
structure GoAt {α : Type} [Rec α] (wa wr : World) (u : Value) (l : List α) : Prop where
 own : OwnL wr wa.heap.size u l
 gro : Gro wa wr
theorem GoAt.step {α : Type} [Rec α] {wa wr w' : World} {u : Value} {l : List α} (h : GoAt wa wr u l) (k : Gro wr w') : GoAt wa w' u l := ⟨h.own.gro k, h.gro.trans k⟩
theorem GoAt.app {α : Type} [Rec α] {wa wr w' : World} {u v : Value} {l l' : List α} (h : GoAt wa wr u l) (ho : OwnL w' wa.heap.size v l') (k : Kept (ownF u) wr w') : GoAt wa w' v l' :=
 ⟨ho, Kept.trans' h.gro k (fun i hi => .inr (h.own.block hi).1)⟩
set_option maxHeartbeats 8000000 in
set_option maxRecDepth 100000 in
theorem gone84 {w : World} {va vb : Value} {a b : Gr} (hA : GrV w va a) (hB : GrV w vb b) (fa : a.few) (fb : b.few) (sa : (a.vs.map Vtx.id).Pairwise (· < ·)) (sb : (b.vs.map Vtx.id).Pairwise (· < ·)) (eb : (b.es.map Edg.id).Pairwise (· < ·)) :
  Calls Tryz.prog 84 #[va, vb] w fun e w' => Gro w w' ∧ ∃ r1 r2, e = .returned (.tuple #[r1, r2]) ∧ LV w' r1 (goneV a b) ∧ LV w' r2 (goneE a b) := by
 have hmix := mixed
 obtain ⟨v1, v2, v3, rfl, ha⟩ := hA
 obtain ⟨u1, u2, u3, rfl, hb⟩ := hB
 obtain ⟨a1, n1, rfl, l1⟩ := ha.vs
 obtain ⟨a2, n2, rfl, l2⟩ := ha.es
 obtain ⟨a3, n3, rfl, l3⟩ := ha.ds
 obtain ⟨b1, m1, rfl, k1⟩ := hb.vs
 obtain ⟨b2, m2, rfl, k2⟩ := hb.es
 obtain ⟨b3, m3, rfl, k3⟩ := hb.ds
 have HA := yy ha
 have HB := yy hb
 have LA1 := yy l1
 have LA2 := yy l2
 have LB2 := yy k2
 have fav := fa.vs
 have fae := fa.es
 have fbe := fb.es
 clear ha hb l1 l2 l3 k1 k2 k3
 go_enter Tryz.func84, Tryz.ntmps84
 obtain ⟨wa, hwa⟩ : ∃ wa, wa = (w.alloc (Obj.cells #[Value.slice a1 a.vs.length n1, Value.slice a2 a.es.length n2, Value.slice a3 a.ds.length n3] 38)).alloc (Obj.cells #[Value.slice b1 b.vs.length m1, Value.slice b2 b.es.length m2, Value.slice b3 b.ds.length m3] 38) := ⟨_, rfl⟩
 have k0 : Gro w wa := by rw [hwa]; exact ((Gro.refl _).alloc _).alloc _
 have bA : wa.heap[w.heap.size]? = some (.cells #[Value.slice a1 a.vs.length n1, Value.slice a2 a.es.length n2, Value.slice a3 a.ds.length n3] 38 (0, 0)) := by rw [hwa]; exact blk_alloc (blk_new _ _) _
 have bB : wa.heap[w.heap.size + 1]? = some (.cells #[Value.slice b1 b.vs.length m1, Value.slice b2 b.es.length m2, Value.slice b3 b.ds.length m3] 38 (0, 0)) := by
  rw [hwa]
  have := blk_new (w.alloc (Obj.cells #[Value.slice a1 a.vs.length n1, Value.slice a2 a.es.length n2, Value.slice a3 a.ds.length n3] 38)) (Obj.cells #[Value.slice b1 b.vs.length m1, Value.slice b2 b.es.length m2, Value.slice b3 b.ds.length m3] 38)
  rw [asz] at this
  exact this
 have C1 : Hid (∀ W, Gro wa W → ∀ id, Calls Tryz.prog 131 #[.agg #[.slice b1 b.vs.length m1, .slice b2 b.es.length m2, .slice b3 b.ds.length m3], .int .i64 id] W fun e w' => e = .returned (.int .i64 (sideG b id)) ∧ Gro W w') :=
  yy fun W hW id => side131 ⟨_, _, _, rfl, (HB.out.gro k0).gro hW⟩ fb sb id
 have C2 : Hid (∀ W, Gro wa W → ∀ id, Calls Tryz.prog 132 #[.int .i64 id, .pointer (some ⟨w.heap.size, 0, none⟩), .pointer (some ⟨w.heap.size + 1, 0, none⟩)] W fun e w' => e = .returned (.bool (moved a b id)) ∧ Gro W w') :=
  yy fun W hW id => clo132 (hW.blk bA) (hW.blk bB) ((HA.out.gro k0).gro hW) ((HB.out.gro k0).gro hW) fa fb sa sb id
 have K0 := yy k0
 have BA := yy bA
 have BB := yy bB
 have HW := yy hwa
 have EB := yy eb
 have G1 := yy (GoAt.mk (α := Vtx) (OwnL.nil wa wa.heap.size) (Gro.refl wa))
 have G2 := yy (GoAt.mk (α := Edg) (OwnL.nil wa wa.heap.size) (Gro.refl wa))
 have hszB := blk_lt bB
 clear k0 bA bB hwa fa fb sa sb eb
 go_wp2_with fail
 rw [← HW.out]
 have c0 := blk_cell BA.out 0
 simp only [lPa, lPb, lPc] at c0
 go_wp2_with fail
 clear c0
 go_loopw [16, 4] (fun t u wr => ∃ k : Nat, k ≤ a.vs.length ∧ t = .int .i64 k ∧ Hid (GoAt wa wr u ((a.vs.take k).filter fun v => sideG b v.id != v.side))) (fun t _ _ => a.vs.length - (intOf t).toNat)
 case atStart => exact ⟨0, Nat.zero_le _, by go_num, G1⟩
 case round =>
 obtain ⟨k, hk, rfl, HG⟩ := hrel
 by_cases hlt : k < a.vs.length
 ·obtain ⟨B, off, rfl, hb, hc⟩ := ((LA1.out.gro K0.out).gro HG.out.gro).base hlt
  obtain ⟨d0, d1⟩ := vcells hc hlt
  have hlB := World.block_lt_of_cell? _ _ d1
  have hf := filter_take_succ (fun v : Vtx => sideG b v.id != v.side) a.vs k hlt
  have hfl : ((a.vs.take k).filter fun v : Vtx => sideG b v.id != v.side).length ≤ 1000000 := Nat.le_trans (List.length_filter_le _ _) (by rw [List.length_take]; omega)
  generalize a.vs[k] = x at d0 d1 hf
  obtain ⟨xi, xs⟩ := x
  simp only at d0 d1 hf
  have HFT := yy hf
  obtain ⟨WA, hWA⟩ : ∃ WA, WA = wr.alloc (.cells #[.int .i64 xi, .int .i64 xs] 77) := ⟨_, rfl⟩
  have kA : Gro wr WA := by rw [hWA]; exact (Gro.refl _).alloc _
  have bX : WA.heap[wr.heap.size]? = some (.cells #[.int .i64 xi, .int .i64 xs] 77 (0, 0)) := by rw [hWA]; exact blk_new _ _
  have HWA := yy hWA
  have HGA := yy (HG.out.step kA)
  have BX := yy bX
  have cB := blk_cell (HGA.out.gro.blk BB.out)
  have g0 := cB 0
  have g1 := cB 1
  have g2 := cB 2
  have x0 := blk_cell bX 0
  have x1 := blk_cell bX 1
  simp only [lPa, lPb, lPc] at g0 g1 g2 x0 x1
  have g0 := gcell g0
  have g1 := gcell g1
  have g2 := gcell g2
  have x0 := gcell x0
  have x1 := gcell x1
  have hlX := blk_lt bX
  have hlB2 := blk_lt (HGA.out.gro.blk BB.out)
  clear hf hWA kA bX cB hc
  go_wp2_with fail
  rw [← HWA.out]
  clear HWA d0 d1 hlB
  have CX := yy (fun W hW => C1.out W hW xi)
  obtain ⟨sd, hsd⟩ : ∃ sd, sd = sideG b xi := ⟨_, rfl⟩
  rw [← hsd] at CX HFT
  clear hsd
  go_quiet_grown ((go_at_call 131; exact Calls.quiet_gro (CX.out _ (HGA.out.gro.trans (gro_of_grow _ _ _)))))
  have kq := gro_of_grow WA nq osq
  dsimp only at kq ⊢
  clear g0 g1 g2 x0 x1 hlX hlB2 CX
  generalize Go.Sort.grow (WA.drewN nq) osq = w3 at kq ⊢
  have HG3 := yy (HGA.out.step kq)
  have bx3 := kq.blk BX.out
  have x0 := blk_cell bx3 0
  have x1 := blk_cell bx3 1
  simp only [lPa, lPb, lPc] at x0 x1
  have hlX := blk_lt bx3
  have hbs : wa.heap.size ≤ w3.heap.size := HG3.out.gro.size
  clear kq bx3 HGA BX
  by_cases hd : sd = xs
  ·subst hd
   rw [if_neg (by simp), List.append_nil] at HFT
   clear x0 x1 hlX
   go_wp2_with fail
   go_roundw
   case rel => exact ⟨k + 1, by omega, by go_num, by rw [HFT.out]; exact HG3⟩
   case measure => simp [intOf]; omega
  rw [if_pos (by simpa using hd)] at HFT
  have hd' : (sd != xs) = true := by simpa using hd
  go_wp2_with (at_builtin; refine wpList_app1 (α := Vtx) ⟨xi, xs⟩ rfl _ _ rfl rfl HG3.out.own rfl (by omega) hbs ?_; intro v' w' h1 h2 h3; have H1 := yy (HG3.out.app h1 h2); clear h1 h2 h3)
  go_roundw
  case rel => exact ⟨k + 1, by omega, by go_num, by rw [HFT.out]; exact H1⟩
  case measure => simp [intOf]; omega
 obtain rfl : k = a.vs.length := by omega
 rw [List.take_length] at HG
 have c1 := blk_cell (HG.out.gro.blk BA.out) 1
 simp only [lPa, lPb, lPc] at c1
 have hlA := blk_lt (HG.out.gro.blk BA.out)
 have G2r : Hid (GoAt wa wr (.slice none 0 0) ([] : List Edg)) := yy ⟨OwnL.nil _ _, HG.out.gro⟩
 have HGV : Hid (GoAt wa wr u4 (goneV a b)) := HG
 clear HG G2 G1
 go_wp2_with fail
 clear c1 hlA
 go_loopw [35, 5] (fun t u wr2 => ∃ k : Nat, k ≤ a.es.length ∧ t = .int .i64 k ∧ Hid (GoAt wa wr2 u ((a.es.take k).filter (lostE a b))) ∧ Hid (GoAt wa wr2 u4 (goneV a b))) (fun t _ _ => a.es.length - (intOf t).toNat)
 case atStart => exact ⟨0, Nat.zero_le _, by go_num, G2r, HGV⟩
 case round =>
 clear HGV G2r
 obtain ⟨k, hk, rfl, HG, HV⟩ := hrel
 by_cases hlt : k < a.es.length
 ·obtain ⟨B, off, rfl, hb, hc⟩ := ((LA2.out.gro K0.out).gro HG.out.gro).base hlt
  obtain ⟨d0, d1, d2, d3, d4, d5⟩ := ecells hc hlt
  have hlB := World.block_lt_of_cell? _ _ d1
  have hf := filter_take_succ (lostE a b) a.es k hlt
  have hfl : ((a.es.take k).filter (lostE a b)).length ≤ 1000000 := Nat.le_trans (List.length_filter_le _ _) (by rw [List.length_take]; omega)
  generalize a.es[k] = x at d0 d1 d2 d3 d4 d5 hf
  have HFT := yy hf
  obtain ⟨WA, hWA⟩ : ∃ WA, WA = wr.alloc (.cells #[.int .i64 x.id, .int .i64 x.src, .int .i64 x.dst, .bool x.dir, .int .i64 x.weight, .int .i64 x.cap] 69) := ⟨_, rfl⟩
  have kA : Gro wr WA := by rw [hWA]; exact (Gro.refl _).alloc _
  have bX : WA.heap[wr.heap.size]? = some (.cells #[.int .i64 x.id, .int .i64 x.src, .int .i64 x.dst, .bool x.dir, .int .i64 x.weight, .int .i64 x.cap] 69 (0, 0)) := by rw [hWA]; exact blk_new _ _
  have HWA := yy hWA
  have HGA := yy (HG.out.step kA)
  have HVA := yy (HV.out.step kA)
  have BX := yy bX
  have g1 := blk_cell (HG.out.gro.blk BB.out) 1
  simp only [lPa, lPb, lPc] at g1
  have hlB2 := blk_lt (HG.out.gro.blk BB.out)
  have HPL := yy (placeF128 ((LB2.out.gro K0.out).gro HGA.out.gro) (by omega) x.id EB.out)
  have hp := posI_is EB.out x.id
  generalize posI (b.es.map Edg.id) x.id = i at HPL hp
  obtain ⟨hm, hme⟩ : ∃ hm, hm = decide (x.id ∈ b.es.map Edg.id) := ⟨_, rfl⟩
  rw [← hme] at HPL
  have HME := yy hme
  have HPO := yy hp
  clear hf hWA kA bX hc hp hme
  go_wp2_with fail
  rw [← HWA.out]
  clear HWA d0 d1 d2 d3 d4 d5 hlB g1 hlB2
  refine HPL.out.mono ?_
  rintro e w2 ⟨rfl, k2⟩
  have HG2 := yy (HGA.out.step k2)
  have HV2 := yy (HVA.out.step k2)
  have bx2 := k2.blk BX.out
  have cx := blk_cell bx2
  have x0 := cx 0
  have x1 := cx 1
  have x2 := cx 2
  have x3 := cx 3
  have x4 := cx 4
  have x5 := cx 5
  have g1 := blk_cell (HG2.out.gro.blk BB.out) 1
  simp only [lPa, lPb, lPc] at x0 x1 x2 x3 x4 x5 g1
  have x0 := gcell x0
  have x1 := gcell x1
  have x2 := gcell x2
  have x3 := gcell x3
  have x4 := gcell x4
  have x5 := gcell x5
  have g1 := gcell g1
  have hlX := blk_lt bx2
  have hlB2 := blk_lt (HG2.out.gro.blk BB.out)
  have BX2 := yy bx2
  clear k2 cx bx2 HGA HVA BX HPL
  have key : ∀ (W : World), Gro w2 W → ∀ (K : Prop), (GoAt wa W u5 ((a.es.take k).filter (lostE a b)) → GoAt wa W u4 (goneV a b) → W.heap[wr.heap.size]? = some (.cells #[.int .i64 x.id, .int .i64 x.src, .int .i64 x.dst, .bool x.dir, .int .i64 x.weight, .int .i64 x.cap] 69 (0, 0)) → K) → K :=
   fun W hW K hK => hK (HG2.out.step hW) (HV2.out.step hW) (hW.blk BX2.out)
  have KEY := yy key
  clear key
  clear KEY
  cases hm with
  | false =>
   have hr : lostE a b x = true := by
    have := memE_none (b := b) (e := x) (by have := HME.out; simpa using this)
    simp [lostE, this]
   have HT := yy hr
   clear hr HPO
   go_wp2_with fail
   go_quiet_grown (fail)
   have kq := gro_of_grow w2 nq osq
   dsimp only at kq ⊢
   clear x0 x1 x2 x3 x4 x5 g1 hlX hlB2
   generalize Go.Sort.grow (w2.drewN nq) osq = w3 at kq ⊢
   have HG3 := yy (HG2.out.step kq)
   have HV3 := yy (HV2.out.step kq)
   have cx := blk_cell (kq.blk BX2.out)
   have x0 := cx 0
   have x1 := cx 1
   have x2 := cx 2
   have x3 := cx 3
   have x4 := cx 4
   have x5 := cx 5
   simp only [lPa, lPb, lPc] at x0 x1 x2 x3 x4 x5
   have hlX := blk_lt (kq.blk BX2.out)
   have hbs : wa.heap.size ≤ w3.heap.size := HG3.out.gro.size
   clear kq cx HG2 HV2
   rw [if_pos (by simp [HT.out])] at HFT
   go_wp2_with (at_builtin; refine wpList_app1 (α := Edg) x rfl _ _ rfl rfl HG3.out.own rfl (by omega) hbs ?_; intro v' w' h1 h2 h3; have H1 := yy (HG3.out.app h1 h2); have H2 := yy (HV3.out.own.kept h2 (own_far2 HG3.out.own HV3.out.own (by decide))); clear h1 h2 h3)
   go_roundw
   case rel => exact ⟨k + 1, by omega, by go_num, by rw [HFT.out]; exact H1, yy ⟨H2.out, H1.out.gro⟩⟩
   case measure => simp [intOf]; omega
  | true =>
  have hmm : x.id ∈ b.es.map Edg.id := by have := HME.out; simpa using this
  obtain ⟨hi', he⟩ := (HPO.out.found EB.out).1 hmm
  have hi : i < b.es.length := by simpa using hi'
  simp only [List.getElem_map] at he
  have hmem := memE_at EB.out hi he
  obtain ⟨B', off', rfl, hb', hc'⟩ := ((LB2.out.gro K0.out).gro HG2.out.gro).base hi
  obtain ⟨y0, y1, y2, y3, y4, y5⟩ := ecells hc' hi
  have hlY := World.block_lt_of_cell? _ _ y0
  have y0 := gcell y0
  have y1 := gcell y1
  have y2 := gcell y2
  have y3 := gcell y3
  have y4 := gcell y4
  have y5 := gcell y5
  generalize b.es[i] = y at y0 y1 y2 y3 y4 y5 hmem
  have hE := eqin69 y x
  have hgd : Tryz.prog.eqGuardType Tryz.prog.depth 69 = false := by kernel_rfl
  have hT : lostE a b x = (!decide (y = x) || moved a b x.src || moved a b x.dst) := by rw [← hmem]; rfl
  generalize decide (y = x) = q0 at hE hT
  have CS := yy (fun W hW => C2.out W hW x.src)
  have CD := yy (fun W hW => C2.out W hW x.dst)
  generalize moved a b x.src = q1 at CS hT
  generalize moved a b x.dst = q2 at CD hT
  have HT := yy hT
  clear hmm hi' he hmem hc' hT HPO
  cases q0 with
  | false =>
   go_wp2_with fail
   go_quiet_grown (fail)
   clear y0 y1 y2 y3 y4 y5 hlY hE
   have kq := gro_of_grow w2 nq osq
   dsimp only at kq ⊢
   clear x0 x1 x2 x3 x4 x5 g1 hlX hlB2
   generalize Go.Sort.grow (w2.drewN nq) osq = w3 at kq ⊢
   have HG3 := yy (HG2.out.step kq)
   have HV3 := yy (HV2.out.step kq)
   have cx := blk_cell (kq.blk BX2.out)
   have x0 := cx 0
   have x1 := cx 1
   have x2 := cx 2
   have x3 := cx 3
   have x4 := cx 4
   have x5 := cx 5
   simp only [lPa, lPb, lPc] at x0 x1 x2 x3 x4 x5
   have hlX := blk_lt (kq.blk BX2.out)
   have hbs : wa.heap.size ≤ w3.heap.size := HG3.out.gro.size
   clear kq cx HG2 HV2
   rw [if_pos (by simp [HT.out])] at HFT
   go_wp2_with (at_builtin; refine wpList_app1 (α := Edg) x rfl _ _ rfl rfl HG3.out.own rfl (by omega) hbs ?_; intro v' w' h1 h2 h3; have H1 := yy (HG3.out.app h1 h2); have H2 := yy (HV3.out.own.kept h2 (own_far2 HG3.out.own HV3.out.own (by decide))); clear h1 h2 h3)
   go_roundw
   case rel => exact ⟨k + 1, by omega, by go_num, by rw [HFT.out]; exact H1, yy ⟨H2.out, H1.out.gro⟩⟩
   case measure => simp [intOf]; omega
  | true =>
  cases q1 with
  | true =>
   go_wp2_with fail
   go_quiet_grown ((go_at_call_of 132 (Value.int IntKind.i64 x.src); exact Calls.quiet_gro (CS.out _ (HG2.out.gro.trans (gro_of_grow _ _ _)))))
   clear y0 y1 y2 y3 y4 y5 hlY hE
   have kq := gro_of_grow w2 nq osq
   dsimp only at kq ⊢
   clear x0 x1 x2 x3 x4 x5 g1 hlX hlB2
   generalize Go.Sort.grow (w2.drewN nq) osq = w3 at kq ⊢
   have HG3 := yy (HG2.out.step kq)
   have HV3 := yy (HV2.out.step kq)
   have cx := blk_cell (kq.blk BX2.out)
   have x0 := cx 0
   have x1 := cx 1
   have x2 := cx 2
   have x3 := cx 3
   have x4 := cx 4
   have x5 := cx 5
   simp only [lPa, lPb, lPc] at x0 x1 x2 x3 x4 x5
   have hlX := blk_lt (kq.blk BX2.out)
   have hbs : wa.heap.size ≤ w3.heap.size := HG3.out.gro.size
   clear kq cx HG2 HV2
   rw [if_pos (by simp [HT.out])] at HFT
   go_wp2_with (at_builtin; refine wpList_app1 (α := Edg) x rfl _ _ rfl rfl HG3.out.own rfl (by omega) hbs ?_; intro v' w' h1 h2 h3; have H1 := yy (HG3.out.app h1 h2); have H2 := yy (HV3.out.own.kept h2 (own_far2 HG3.out.own HV3.out.own (by decide))); clear h1 h2 h3)
   go_roundw
   case rel => exact ⟨k + 1, by omega, by go_num, by rw [HFT.out]; exact H1, yy ⟨H2.out, H1.out.gro⟩⟩
   case measure => simp [intOf]; omega
  | false =>
  cases q2 with
  | true =>
   go_wp2_with fail
   go_quiet_grown ((first | (go_at_call_of 132 (Value.int IntKind.i64 x.src); exact Calls.quiet_gro (CS.out _ (HG2.out.gro.trans (gro_of_grow _ _ _)))) | (go_at_call_of 132 (Value.int IntKind.i64 x.dst); exact Calls.quiet_gro (CD.out _ (HG2.out.gro.trans (gro_of_grow _ _ _))))))
   clear y0 y1 y2 y3 y4 y5 hlY hE
   have kq := gro_of_grow w2 nq osq
   dsimp only at kq ⊢
   clear x0 x1 x2 x3 x4 x5 g1 hlX hlB2
   generalize Go.Sort.grow (w2.drewN nq) osq = w3 at kq ⊢
   have HG3 := yy (HG2.out.step kq)
   have HV3 := yy (HV2.out.step kq)
   have cx := blk_cell (kq.blk BX2.out)
   have x0 := cx 0
   have x1 := cx 1
   have x2 := cx 2
   have x3 := cx 3
   have x4 := cx 4
   have x5 := cx 5
   simp only [lPa, lPb, lPc] at x0 x1 x2 x3 x4 x5
   have hlX := blk_lt (kq.blk BX2.out)
   have hbs : wa.heap.size ≤ w3.heap.size := HG3.out.gro.size
   clear kq cx HG2 HV2
   rw [if_pos (by simp [HT.out])] at HFT
   go_wp2_with (at_builtin; refine wpList_app1 (α := Edg) x rfl _ _ rfl rfl HG3.out.own rfl (by omega) hbs ?_; intro v' w' h1 h2 h3; have H1 := yy (HG3.out.app h1 h2); have H2 := yy (HV3.out.own.kept h2 (own_far2 HG3.out.own HV3.out.own (by decide))); clear h1 h2 h3)
   go_roundw
   case rel => exact ⟨k + 1, by omega, by go_num, by rw [HFT.out]; exact H1, yy ⟨H2.out, H1.out.gro⟩⟩
   case measure => simp [intOf]; omega
  | false =>
  go_wp2_with fail
  go_quiet_grown ((first | (go_at_call_of 132 (Value.int IntKind.i64 x.src); exact Calls.quiet_gro (CS.out _ (HG2.out.gro.trans (gro_of_grow _ _ _)))) | (go_at_call_of 132 (Value.int IntKind.i64 x.dst); exact Calls.quiet_gro (CD.out _ (HG2.out.gro.trans (gro_of_grow _ _ _))))))
  clear y0 y1 y2 y3 y4 y5 hlY hE
  have kq := gro_of_grow w2 nq osq
  dsimp only at kq ⊢
  clear x0 x1 x2 x3 x4 x5 g1 hlX hlB2
  generalize Go.Sort.grow (w2.drewN nq) osq = w3 at kq ⊢
  have HG3 := yy (HG2.out.step kq)
  have HV3 := yy (HV2.out.step kq)
  clear kq HG2 HV2
  rw [if_neg (by simp [HT.out]), List.append_nil] at HFT
  go_wp2_with fail
  go_roundw
  case rel => exact ⟨k + 1, by omega, by go_num, by rw [HFT.out]; exact HG3, HV3⟩
  case measure => simp [intOf]; omega
 obtain rfl : k = a.es.length := by omega
 rw [List.take_length] at HG
 have hl1 : (goneV a b).length ≤ 1000000 := Nat.le_trans (List.length_filter_le _ _) fav
 have hl2 : (goneE a b).length ≤ 1000000 := Nat.le_trans (List.length_filter_le _ _) fae
 go_wp2_with fail
 go_ret2
 exact ⟨K0.out.trans HG.out.gro, _, _, rfl, HV.out.own.lv (by omega), OwnL.lv (l := goneE a b) HG.out.own (by omega)⟩
end Go.Proofs.YthfagcdjbmhhcaaGreat
namespace Go.Proofs.YthfagcdjbmhhcaaGreat
open Go.RowKit
attribute [local irreducible] wpQuiet
structure Chg where
 kind : Int
 v : Vtx
 e : Edg
 id : Int
 deriving DecidableEq
instance : Rec Chg := ⟨86, 56, 13, fun x => [.int .i64 x.kind, .int .i64 x.v.id, .int .i64 x.v.side, .int .i64 x.e.id, .int .i64 x.e.src, .int .i64 x.e.dst, .bool x.e.dir, .int .i64 x.e.weight, .int .i64 x.e.cap, .int .i64 x.id, .int .i64 0, .slice none 0 0, .slice none 0 0], fun _ => rfl,
 fun x v hv => by simp at hv; rcases hv with rfl | rfl | rfl | rfl | rfl | rfl | rfl | rfl | rfl | rfl | rfl | rfl | rfl <;> rfl⟩
def zV : Vtx := ⟨0, 0⟩
def zE : Edg := ⟨0, 0, 0, false, 0, 0⟩
def dropE (e : Edg) : Chg := ⟨4, zV, zE, e.id⟩
def dropV (v : Vtx) : Chg := ⟨2, zV, zE, v.id⟩
def addV (v : Vtx) : Chg := ⟨1, v, zE, 0⟩
def addE (e : Edg) : Chg := ⟨3, zV, e, 0⟩
def chgs (x y : Gr) : List Chg := (goneE x y).map dropE ++ (goneV x y).map dropV ++ (goneV y x).map addV ++ (goneE y x).map addE
def changesOf (g : Gr) (a b : Bk) : Option (List Chg) := if validB g a = true ∧ validB g b = true then some (chgs (build g a) (build g b)) else none
def ChgPost (w : World) (r : Option (List Chg)) (e : Ending) (w' : World) : Prop :=
 Gro w w' ∧ ((∃ l v, r = some l ∧ e = .returned (.tuple #[v, .int .i64 0]) ∧ LV w' v l) ∨ (r = none ∧ e = .returned (.tuple #[.slice none 0 0, .int .i64 270])))
theorem info86 : (Tryz.prog.info? 86).map (fun i => (i.zero, i.size, i.bytes)) = some (some (.agg #[.int .i64 0, .int .i64 0, .int .i64 0, .int .i64 0, .int .i64 0, .int .i64 0, .bool false, .int .i64 0, .int .i64 0, .int .i64 0, .int .i64 0, .slice none 0 0, .slice none 0 0]), 13, 136) := by kernel_rfl
theorem wpList_appC {W : World} (x : Chg) {ops : Array Oper} {rest : List Oper} {o : Oper} {a : Act} {Q : Exit → Act → World → Prop} (hgd : o.guard = none) (s t : Operand)
  (ho : o.op = .call { callee := .builtin .append, args := #[s, t], argTypes := #[56, 56] }) {base : Nat} {v : Value} {l : List Chg} (hs : a.eval s = v) (hown : OwnL W base v l) (hx : a.eval t = .slice (some ⟨W.heap.size, 0, none⟩) 1 1)
  (hfew : l.length ≤ 900000000) (hbase : base ≤ W.heap.size)
  (h : ∀ v' w', OwnL w' base v' (l ++ [x]) → Kept (ownF v) W w' → wpList Tryz.prog ops Q rest (a.put o.dst v') w') : wpList Tryz.prog ops Q (o :: rest) a (W.alloc (.cells (Rec.cs x).toArray 86)) := by
 have kA : Gro W (W.alloc (.cells (Rec.cs x).toArray 86)) := (Gro.refl _).alloc _
 refine wpList_plain hgd fun K hK => ?_
 obtain ⟨i, hi, hz, hs', hb⟩ := info_parts info86
 obtain ⟨v', w', hr, h2, h3, _, _⟩ := run_append_own_at (P := Tryz.prog) (W.alloc (.cells (Rec.cs x).toArray 86)) base 56 o.type 86 i _ 13 136 Tryz.underlying56 hi hz hs' hb (by rfl) (by decide) v l.length (flat l) (hown.gro kA) ⟨W.heap.size, 0, none⟩ 1 1 (flat [x])
  (by rw [flat_length]; rfl) (fun j u hu => World.news_of_block (blk_new _ _) j u (by simpa [flat] using hu)) (flat_one [x]) (by unfold maxLen; omega) (by omega) (by rw [asz]; omega)
 unfold Oper.wp
 simp only [execOp, ho, resolve, invoke, builtin, Sem.run_bind, Sem.run_pure, Result.andThen_ok, List.map_toArray, List.map_cons, List.map_nil, hs, hx, hr]
 refine hK _ _ (h v' w' ?_ (Kept.trans' (kA.kept _) (Kept.of_run hr h3) (fun i hi => .inl hi)))
 show w'.ownsRow _ _ _ _ _ _
 rw [List.length_append, flat_append]
 exact h2
theorem map_take_succ {α β : Type} (f : α → β) (l : List α) (k : Nat) (h : k < l.length) : (l.take (k + 1)).map f = (l.take k).map f ++ [f l[k]] := by
 rw [take_snoc l k h, List.map_append]; rfl
theorem goneV_few {a b : Gr} (h : a.vs.length ≤ 100000) : (goneV a b).length ≤ 100000 := Nat.le_trans (List.length_filter_le _ _) h
theorem goneE_few {a b : Gr} (h : a.es.length ≤ 100000) : (goneE a b).length ≤ 100000 := Nat.le_trans (List.length_filter_le _ _) h
set_option maxHeartbeats 8000000 in
set_option maxRecDepth 100000 in
theorem changes32 {w : World} {vg va vb : Value} {g : Gr} {a b : Bk} (hG : GrV w vg g) (hA : BkV w va a) (hB : BkV w vb b) (hfa : Fits g a) (hfb : Fits g b) :
  Calls Tryz.prog 32 #[vg, va, vb] w (ChgPost w (changesOf g a b)) := by
 have hmix := mixed
 obtain ⟨v1, v2, v3, rfl, hg⟩ := hG
 obtain ⟨a1, n1, rfl, l1⟩ := hg.vs
 obtain ⟨a2, n2, rfl, l2⟩ := hg.es
 obtain ⟨a3, n3, rfl, l3⟩ := hg.ds
 obtain ⟨p, o, q, rfl, hp, ho, hq⟩ := hA
 obtain ⟨ap, anp, rfl, lp⟩ := hp
 obtain ⟨ao, ano, rfl, lo⟩ := ho
 obtain ⟨aq, anq, rfl, lq⟩ := hq
 have AP := yy (show LV w (.slice ap a.ps.length anp) a.ps from ⟨_, _, rfl, lp⟩)
 have AO := yy (show LV w (.slice ao a.os.length ano) a.os from ⟨_, _, rfl, lo⟩)
 have AQ := yy (show LV w (.slice aq a.ws.length anq) a.ws from ⟨_, _, rfl, lq⟩)
 clear lp lo lq
 obtain ⟨p, o, q, rfl, hp, ho, hq⟩ := hB
 obtain ⟨bp, bnp, rfl, lp⟩ := hp
 obtain ⟨bo, bno, rfl, lo⟩ := ho
 obtain ⟨bq, bnq, rfl, lq⟩ := hq
 have BP := yy (show LV w (.slice bp b.ps.length bnp) b.ps from ⟨_, _, rfl, lp⟩)
 have BO := yy (show LV w (.slice bo b.os.length bno) b.os from ⟨_, _, rfl, lo⟩)
 have BQ := yy (show LV w (.slice bq b.ws.length bnq) b.ws from ⟨_, _, rfl, lq⟩)
 clear lp lo lq
 have HGA := yy hg
 have FA := yy hfa
 have FB := yy hfb
 clear hg l1 l2 l3 hfa hfb
 go_enter Tryz.func32, Tryz.ntmps32
 go_wp2_with fail
 obtain ⟨wa, hwa⟩ : ∃ wa, wa = ((w.alloc (Obj.cells #[Value.slice a1 g.vs.length n1, Value.slice a2 g.es.length n2, Value.slice a3 g.ds.length n3] 38)).alloc (Obj.cells #[Value.int IntKind.i64 a.round, Value.slice ap a.ps.length anp, Value.slice ao a.os.length ano, Value.slice aq a.ws.length anq] 28)).alloc (Obj.cells #[Value.int IntKind.i64 b.round, Value.slice bp b.ps.length bnp, Value.slice bo b.os.length bno, Value.slice bq b.ws.length bnq] 28) := ⟨_, rfl⟩
 have k0 : Gro w wa := by rw [hwa]; exact (((Gro.refl _).alloc _).alloc _).alloc _
 have bG : wa.heap[w.heap.size]? = some (.cells #[Value.slice a1 g.vs.length n1, Value.slice a2 g.es.length n2, Value.slice a3 g.ds.length n3] 38 (0, 0)) := by rw [hwa]; exact blk_alloc (blk_alloc (blk_new _ _) _) _
 have bB : wa.heap[w.heap.size + 1 + 1]? = some (.cells #[Value.int IntKind.i64 b.round, Value.slice bp b.ps.length bnp, Value.slice bo b.os.length bno, Value.slice bq b.ws.length bnq] 28 (0, 0)) := by
  rw [hwa]
  have := blk_new ((w.alloc (Obj.cells #[Value.slice a1 g.vs.length n1, Value.slice a2 g.es.length n2, Value.slice a3 g.ds.length n3] 38)).alloc (Obj.cells #[Value.int IntKind.i64 a.round, Value.slice ap a.ps.length anp, Value.slice ao a.os.length ano, Value.slice aq a.ws.length anq] 28)) (Obj.cells #[Value.int IntKind.i64 b.round, Value.slice bp b.ps.length bnp, Value.slice bo b.os.length bno, Value.slice bq b.ws.length bnq] 28)
  rw [asz, asz] at this
  exact this
 rw [← hwa]
 clear hwa
 refine (read51 (HGA.out.gro k0) (AP.out.gro k0) (AO.out.gro k0) (AQ.out.gro k0) FA.out.gfew FA.out.bfew FA.out.v FA.out.e).mono ?_
 rintro e w1 ⟨k1, hra⟩
 have K1 := yy (k0.trans k1)
 have c3 := blk_cell (k1.blk bG)
 have g0 := c3 0
 have g1 := c3 1
 have g2 := c3 2
 have c4 := blk_cell (k1.blk bB)
 have b0 := c4 0
 have b1 := c4 1
 have b2 := c4 2
 have b3 := c4 3
 simp only [lPa, lPb, lPc] at g0 g1 g2 b0 b1 b2 b3
 have hlG := blk_lt (k1.blk bG)
 have hlB := blk_lt (k1.blk bB)
 clear k0 k1 bG bB c3 c4
 obtain ⟨rv, av, rfl, hrn⟩ : ∃ rv av, e = .returned (.tuple #[rv, .bool av]) ∧ ((av = true ∧ validB g a = true ∧ ∃ X p o q, rv = .pointer (some ⟨X, 0, none⟩) ∧ XOwn w1 wa.heap.size X p o q (.slice a1 g.vs.length n1) (.slice a2 g.es.length n2) (.slice a3 g.ds.length n3) g a) ∨ (av = false ∧ validB g a = false)) := by
  rcases hra with ⟨hv, X, p, o, q, rfl, hx⟩ | ⟨hv, rfl⟩
  ·exact ⟨_, _, rfl, .inl ⟨rfl, hv, X, p, o, q, rfl, hx⟩⟩
  exact ⟨_, _, rfl, .inr ⟨rfl, hv⟩⟩
 have HRA := yy hrn
 clear hra hrn
 go_wp2_with fail
 clear g0 g1 g2 b0 b1 b2 b3 hlG hlB
 refine (read51 (HGA.out.gro K1.out) (BP.out.gro K1.out) (BO.out.gro K1.out) (BQ.out.gro K1.out) FB.out.gfew FB.out.bfew FB.out.v FB.out.e).mono ?_
 rintro e w2 ⟨k2, hrb⟩
 have K2 := yy k2
 clear k2
 rcases hrb with ⟨hvb, Y, p', o', q', rfl, hy⟩ | ⟨hvb, rfl⟩
 ·rcases HRA.out with ⟨rfl, hva, X, p, o, q, rfl, hx⟩ | ⟨rfl, hva⟩
  ·have HR : Hid (changesOf g a b = some (chgs (build g a) (build g b))) := yy (by unfold changesOf; rw [if_pos ⟨hva, hvb⟩])
   have VA := yy (validB_iff.1 hva)
   have VC := yy (validB_iff.1 hvb)
   have HX := yy (hx.at_.gro K2.out)
   have HY := yy hy.at_
   clear hva hvb hx hy HRA
   go_wp2_with fail
   refine (graph83 HX.out VA.out FA.out.gfew FA.out.bfew FA.out.v FA.out.e).mono ?_
   rintro e w3 ⟨x1, x2, x3, rfl, hgx, k3⟩
   have K3 := yy k3
   have HGX := yy hgx
   clear k3 hgx
   go_wp2_with fail
   refine (graph83 (HY.out.gro K3.out) VC.out FB.out.gfew FB.out.bfew FB.out.v FB.out.e).mono ?_
   rintro e w4 ⟨y1, y2, y3, rfl, hgy, k4⟩
   have hgx := HGX.out.gro k4
   have VX := yy (valid_build VA.out)
   have VY := yy (valid_build VC.out)
   clear HX HY VA VC FA FB AP AO AQ BP BO BQ HGA HGX
   generalize build g a = x at hgx HR VX
   generalize build g b = y at hgy HR VY
   obtain ⟨xa1, xn1, rfl, l1⟩ := hgx.vs
   obtain ⟨xa2, xn2, rfl, l2⟩ := hgx.es
   obtain ⟨xa3, xn3, rfl, l3⟩ := hgx.ds
   obtain ⟨ya1, yn1, rfl, m1⟩ := hgy.vs
   obtain ⟨ya2, yn2, rfl, m2⟩ := hgy.es
   obtain ⟨ya3, yn3, rfl, m3⟩ := hgy.ds
   have HGX := yy hgx
   have HGY := yy hgy
   have KA := yy ((K1.out.trans K2.out).trans (K3.out.trans k4))
   have hxl := VX.out.lens
   have hyl := VY.out.lens
   clear hgx hgy l1 l2 l3 m1 m2 m3 k4 K1 K2 K3
   generalize x.vs.length = X1 at HGX hxl
   generalize x.es.length = X2 at HGX hxl
   generalize x.ds.length = X3 at HGX hxl
   generalize y.vs.length = Y1 at HGY hyl
   generalize y.es.length = Y2 at HGY hyl
   generalize y.ds.length = Y3 at HGY hyl
   go_wp2_with fail
   obtain ⟨wb, hwb⟩ : ∃ wb, wb = (w4.alloc (Obj.cells #[Value.slice xa1 X1 xn1, Value.slice xa2 X2 xn2, Value.slice xa3 X3 xn3] 38)).alloc (Obj.cells #[Value.slice ya1 Y1 yn1, Value.slice ya2 Y2 yn2, Value.slice ya3 Y3 yn3] 38) := ⟨_, rfl⟩
   have kb : Gro w4 wb := by rw [hwb]; exact ((Gro.refl _).alloc _).alloc _
   have b12 : wb.heap[w4.heap.size]? = some (.cells #[Value.slice xa1 X1 xn1, Value.slice xa2 X2 xn2, Value.slice xa3 X3 xn3] 38 (0, 0)) := by rw [hwb]; exact blk_alloc (blk_new _ _) _
   have b13 : wb.heap[w4.heap.size + 1]? = some (.cells #[Value.slice ya1 Y1 yn1, Value.slice ya2 Y2 yn2, Value.slice ya3 Y3 yn3] 38 (0, 0)) := by
    rw [hwb]
    have := blk_new (w4.alloc (Obj.cells #[Value.slice xa1 X1 xn1, Value.slice xa2 X2 xn2, Value.slice xa3 X3 xn3] 38)) (Obj.cells #[Value.slice ya1 Y1 yn1, Value.slice ya2 Y2 yn2, Value.slice ya3 Y3 yn3] 38)
    rw [asz] at this
    exact this
   rw [← hwb]
   clear hwb
   have FX : Hid x.few := yy ⟨by have := VX.out.lens; omega, by have := VX.out.lens; omega, by have := VX.out.lens; omega⟩
   have FY : Hid y.few := yy ⟨by have := VY.out.lens; omega, by have := VY.out.lens; omega, by have := VY.out.lens; omega⟩
   have GX : Hid (GrV wb (.agg #[Value.slice xa1 X1 xn1, Value.slice xa2 X2 xn2, Value.slice xa3 X3 xn3]) x) := yy ⟨_, _, _, rfl, HGX.out.gro kb⟩
   have GY : Hid (GrV wb (.agg #[Value.slice ya1 Y1 yn1, Value.slice ya2 Y2 yn2, Value.slice ya3 Y3 yn3]) y) := yy ⟨_, _, _, rfl, HGY.out.gro kb⟩
   have KB := yy (KA.out.trans kb)
   clear KA kb HGX HGY
   refine (gone84 GX.out GY.out FX.out FY.out VX.out.av VY.out.av VY.out.ae).mono ?_
   rintro e w5 ⟨k5, r1, r2, rfl, hr1, hr2⟩
   have c5 := blk_cell (k5.blk b12)
   have c6 := blk_cell (k5.blk b13)
   have p0 := c5 0
   have p1 := c5 1
   have p2 := c5 2
   have q0 := c6 0
   have q1 := c6 1
   have q2 := c6 2
   simp only [lPa, lPb, lPc] at p0 p1 p2 q0 q1 q2
   have hl1 := blk_lt (k5.blk b12)
   have hl2 := blk_lt (k5.blk b13)
   have K5 := yy k5
   have R1 := yy hr1
   have R2 := yy hr2
   clear k5 c5 c6 b12 b13 hr1 hr2
   go_wp2_with fail
   clear p0 p1 p2 q0 q1 q2 hl1 hl2
   refine (gone84 (GY.out.gro K5.out) (GX.out.gro K5.out) FY.out FX.out VY.out.av VX.out.av VX.out.ae).mono ?_
   rintro e w6 ⟨k6, r3, r4, rfl, hr3, hr4⟩
   have hr1 := R1.out.gro k6
   have hr2 := R2.out.gro k6
   have K6 := yy ((KB.out.trans K5.out).trans k6)
   have hc : chgs x y = (goneE x y).map dropE ++ (goneV x y).map dropV ++ (goneV y x).map addV ++ (goneE y x).map addE := rfl
   have f1 := goneV_few (b := y) (a := x) (by have := VX.out.lens; omega)
   have f2 := goneE_few (b := y) (a := x) (by have := VX.out.lens; omega)
   have f3 := goneV_few (b := x) (a := y) (by have := VY.out.lens; omega)
   have f4 := goneE_few (b := x) (a := y) (by have := VY.out.lens; omega)
   generalize goneV x y = L1 at hr1 hc f1
   generalize goneE x y = L2 at hr2 hc f2
   generalize goneV y x = L3 at hr3 hc f3
   generalize goneE y x = L4 at hr4 hc f4
   obtain ⟨c1, d1, rfl, hr1⟩ := hr1
   obtain ⟨c2, d2, rfl, hr2⟩ := hr2
   obtain ⟨c3, d3, rfl, hr3⟩ := hr3
   obtain ⟨c4, d4, rfl, hr4⟩ := hr4
   have R1 := yy hr1
   have R2 := yy hr2
   have R3 := yy hr3
   have R4 := yy hr4
   have HC := yy hc
   have G0 := yy (GoAt.mk (α := Chg) (OwnL.nil w6 w6.heap.size) (Gro.refl w6))
   clear hr1 hr2 hr3 hr4 hc k6 KB K5 GX GY FX FY VX VY
   go_wp2_with fail
   go_loopw [63, 18] (fun t u wr => ∃ k : Nat, k ≤ L2.length ∧ t = .int .i64 k ∧ Hid (GoAt w6 wr u (((L2.take k).map dropE) : List Chg))) (fun t _ _ => L2.length - (intOf t).toNat)
   case atStart => exact ⟨0, Nat.zero_le _, by go_num, G0⟩
   case round =>
   clear G0
   obtain ⟨k, hk, rfl, HG⟩ := hrel
   by_cases hlt : k < L2.length
   ·obtain ⟨B, off, rfl, hb, hc⟩ := (R2.out.gro HG.out.gro).base hlt
    obtain ⟨e0, e1, e2, e3, e4, e5⟩ := ecells hc hlt
    have hlB := World.block_lt_of_cell? _ _ e0
    have hf := map_take_succ dropE L2 k hlt
    have hfl : (((L2.take k).map dropE) : List Chg).length ≤ 900000000 := by simp only [List.length_append, List.length_map, List.length_take]; omega
    generalize L2[k] = x at e0 e1 e2 e3 e4 e5 hf
    have HFT := yy hf
    obtain ⟨WA, hWA⟩ : ∃ WA, WA = wr.alloc (.cells #[.int .i64 x.id, .int .i64 x.src, .int .i64 x.dst, .bool x.dir, .int .i64 x.weight, .int .i64 x.cap] 69) := ⟨_, rfl⟩
    have kA : Gro wr WA := by rw [hWA]; exact (Gro.refl _).alloc _
    have HGA := yy (HG.out.step (w' := wr.alloc (.cells #[.int .i64 x.id, .int .i64 x.src, .int .i64 x.dst, .bool x.dir, .int .i64 x.weight, .int .i64 x.cap] 69)) ((Gro.refl _).alloc _))
    have hbs : w6.heap.size ≤ (wr.alloc (.cells #[.int .i64 x.id, .int .i64 x.src, .int .i64 x.dst, .bool x.dir, .int .i64 x.weight, .int .i64 x.cap] 69)).heap.size := HGA.out.gro.size
    clear hf hWA kA hc
    go_wp2_with (at_builtin; refine wpList_appC (dropE x) rfl _ _ rfl rfl HGA.out.own (by rw [asz]; rfl) hfl hbs ?_; intro v' w' h1 h2; have H1 := yy (HGA.out.app h1 h2); clear h1 h2)
    go_roundw
    case rel => exact ⟨k + 1, by omega, by go_num, by rw [HFT.out]; exact H1⟩
    case measure => simp [intOf]; omega
   obtain rfl : k = L2.length := by omega
   rw [List.take_length] at HG
   have HGN := HG
   clear HG
   go_wp2_with fail
   go_loopw [76, 18] (fun t u wr => ∃ k : Nat, k ≤ L1.length ∧ t = .int .i64 k ∧ Hid (GoAt w6 wr u ((L2.map dropE ++ (L1.take k).map dropV) : List Chg))) (fun t _ _ => L1.length - (intOf t).toNat)
   case atStart => exact ⟨0, Nat.zero_le _, by go_num, by rw [List.take_zero, List.map_nil, List.append_nil]; exact HGN⟩
   case round =>
   clear HGN
   obtain ⟨k, hk, rfl, HG⟩ := hrel
   by_cases hlt : k < L1.length
   ·obtain ⟨B, off, rfl, hb, hc⟩ := (R1.out.gro HG.out.gro).base hlt
    obtain ⟨e0, e1⟩ := vcells hc hlt
    have hlB := World.block_lt_of_cell? _ _ e0
    have hf := map_take_succ dropV L1 k hlt
    have hfl : ((L2.map dropE ++ (L1.take k).map dropV) : List Chg).length ≤ 900000000 := by simp only [List.length_append, List.length_map, List.length_take]; omega
    generalize L1[k] = x at e0 e1 hf
    have HFT := yy hf
    obtain ⟨WA, hWA⟩ : ∃ WA, WA = wr.alloc (.cells #[.int .i64 x.id, .int .i64 x.side] 77) := ⟨_, rfl⟩
    have kA : Gro wr WA := by rw [hWA]; exact (Gro.refl _).alloc _
    have HGA := yy (HG.out.step (w' := wr.alloc (.cells #[.int .i64 x.id, .int .i64 x.side] 77)) ((Gro.refl _).alloc _))
    have hbs : w6.heap.size ≤ (wr.alloc (.cells #[.int .i64 x.id, .int .i64 x.side] 77)).heap.size := HGA.out.gro.size
    clear hf hWA kA hc
    go_wp2_with (at_builtin; refine wpList_appC (dropV x) rfl _ _ rfl rfl HGA.out.own (by rw [asz]; rfl) hfl hbs ?_; intro v' w' h1 h2; have H1 := yy (HGA.out.app h1 h2); clear h1 h2)
    go_roundw
    case rel => exact ⟨k + 1, by omega, by go_num, by rw [HFT.out, ← List.append_assoc]; exact H1⟩
    case measure => simp [intOf]; omega
   obtain rfl : k = L1.length := by omega
   rw [List.take_length] at HG
   have HGN := HG
   clear HG
   go_wp2_with fail
   go_loopw [89, 18] (fun t u wr => ∃ k : Nat, k ≤ L3.length ∧ t = .int .i64 k ∧ Hid (GoAt w6 wr u ((L2.map dropE ++ L1.map dropV ++ (L3.take k).map addV) : List Chg))) (fun t _ _ => L3.length - (intOf t).toNat)
   case atStart => exact ⟨0, Nat.zero_le _, by go_num, by rw [List.take_zero, List.map_nil, List.append_nil]; exact HGN⟩
   case round =>
   clear HGN
   obtain ⟨k, hk, rfl, HG⟩ := hrel
   by_cases hlt : k < L3.length
   ·obtain ⟨B, off, rfl, hb, hc⟩ := (R3.out.gro HG.out.gro).base hlt
    obtain ⟨e0, e1⟩ := vcells hc hlt
    have hlB := World.block_lt_of_cell? _ _ e0
    have hf := map_take_succ addV L3 k hlt
    have hfl : ((L2.map dropE ++ L1.map dropV ++ (L3.take k).map addV) : List Chg).length ≤ 900000000 := by simp only [List.length_append, List.length_map, List.length_take]; omega
    generalize L3[k] = x at e0 e1 hf
    have HFT := yy hf
    obtain ⟨WA, hWA⟩ : ∃ WA, WA = wr.alloc (.cells #[.int .i64 x.id, .int .i64 x.side] 77) := ⟨_, rfl⟩
    have kA : Gro wr WA := by rw [hWA]; exact (Gro.refl _).alloc _
    have HGA := yy (HG.out.step (w' := wr.alloc (.cells #[.int .i64 x.id, .int .i64 x.side] 77)) ((Gro.refl _).alloc _))
    have hbs : w6.heap.size ≤ (wr.alloc (.cells #[.int .i64 x.id, .int .i64 x.side] 77)).heap.size := HGA.out.gro.size
    clear hf hWA kA hc
    go_wp2_with (at_builtin; refine wpList_appC (addV x) rfl _ _ rfl rfl HGA.out.own (by rw [asz]; rfl) hfl hbs ?_; intro v' w' h1 h2; have H1 := yy (HGA.out.app h1 h2); clear h1 h2)
    go_roundw
    case rel => exact ⟨k + 1, by omega, by go_num, by rw [HFT.out, ← List.append_assoc]; exact H1⟩
    case measure => simp [intOf]; omega
   obtain rfl : k = L3.length := by omega
   rw [List.take_length] at HG
   have HGN := HG
   clear HG
   go_wp2_with fail
   go_loopw [101, 18] (fun t u wr => ∃ k : Nat, k ≤ L4.length ∧ t = .int .i64 k ∧ Hid (GoAt w6 wr u ((L2.map dropE ++ L1.map dropV ++ L3.map addV ++ (L4.take k).map addE) : List Chg))) (fun t _ _ => L4.length - (intOf t).toNat)
   case atStart => exact ⟨0, Nat.zero_le _, by go_num, by rw [List.take_zero, List.map_nil, List.append_nil]; exact HGN⟩
   case round =>
   clear HGN
   obtain ⟨k, hk, rfl, HG⟩ := hrel
   by_cases hlt : k < L4.length
   ·obtain ⟨B, off, rfl, hb, hc⟩ := (R4.out.gro HG.out.gro).base hlt
    obtain ⟨e0, e1, e2, e3, e4, e5⟩ := ecells hc hlt
    have hlB := World.block_lt_of_cell? _ _ e0
    have hf := map_take_succ addE L4 k hlt
    have hfl : ((L2.map dropE ++ L1.map dropV ++ L3.map addV ++ (L4.take k).map addE) : List Chg).length ≤ 900000000 := by simp only [List.length_append, List.length_map, List.length_take]; omega
    generalize L4[k] = x at e0 e1 e2 e3 e4 e5 hf
    have HFT := yy hf
    obtain ⟨WA, hWA⟩ : ∃ WA, WA = wr.alloc (.cells #[.int .i64 x.id, .int .i64 x.src, .int .i64 x.dst, .bool x.dir, .int .i64 x.weight, .int .i64 x.cap] 69) := ⟨_, rfl⟩
    have kA : Gro wr WA := by rw [hWA]; exact (Gro.refl _).alloc _
    have HGA := yy (HG.out.step (w' := wr.alloc (.cells #[.int .i64 x.id, .int .i64 x.src, .int .i64 x.dst, .bool x.dir, .int .i64 x.weight, .int .i64 x.cap] 69)) ((Gro.refl _).alloc _))
    have hbs : w6.heap.size ≤ (wr.alloc (.cells #[.int .i64 x.id, .int .i64 x.src, .int .i64 x.dst, .bool x.dir, .int .i64 x.weight, .int .i64 x.cap] 69)).heap.size := HGA.out.gro.size
    clear hf hWA kA hc
    go_wp2_with (at_builtin; refine wpList_appC (addE x) rfl _ _ rfl rfl HGA.out.own (by rw [asz]; rfl) hfl hbs ?_; intro v' w' h1 h2; have H1 := yy (HGA.out.app h1 h2); clear h1 h2)
    go_roundw
    case rel => exact ⟨k + 1, by omega, by go_num, by rw [HFT.out, ← List.append_assoc]; exact H1⟩
    case measure => simp [intOf]; omega
   obtain rfl : k = L4.length := by omega
   rw [List.take_length] at HG
   have HGN := HG
   clear HG
   go_wp2_with fail
   go_ret2
   refine ⟨K6.out.trans HGN.out.gro, .inl ⟨_, _, HR.out, rfl, ?_⟩⟩
   rw [HC.out]
   exact HGN.out.own.lv (by simp only [List.length_append, List.length_map]; omega)
  have HR : Hid (changesOf g a b = none) := yy (by unfold changesOf; rw [if_neg (by simp [hva])])
  clear hva hvb hy HRA
  go_wp2_with fail
  go_ret2
  exact ⟨K1.out.trans K2.out, .inr ⟨HR.out, rfl⟩⟩
 have HR : Hid (changesOf g a b = none) := yy (by unfold changesOf; rw [if_neg (by simp [hvb])])
 clear hvb HRA
 cases av with
 | true =>
  go_wp2_with fail
  go_ret2
  exact ⟨K1.out.trans K2.out, .inr ⟨HR.out, rfl⟩⟩
 | false =>
 go_wp2_with fail
 go_ret2
 exact ⟨K1.out.trans K2.out, .inr ⟨HR.out, rfl⟩⟩
end Go.Proofs.YthfagcdjbmhhcaaGreat
