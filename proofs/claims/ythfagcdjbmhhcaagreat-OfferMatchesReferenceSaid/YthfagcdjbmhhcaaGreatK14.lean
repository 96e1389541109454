/- the reference: Place, Find, in, vertex, edge. Graph, side. the reference: Copy of a graph, of a book. -/
import Derived.Test.YthfagcdjbmhhcaaGreatK10
import Derived.Test.YthfagcdjbmhhcaaGreatK13
set_option linter.unusedVariables false
set_option linter.unusedSimpArgs false
namespace Go.Proofs.YthfagcdjbmhhcaaGreat
open Go.RowKit
attribute [local irreducible] wpQuiet
/-- the index of the first; -1 if there is none -/
def fidx (ks : List Int) (id : Int) : Int := if ks.findIdx (fun x => x == id) < ks.length then (ks.findIdx (fun x => x == id) : Nat) else -1
theorem fidx_found {ks : List Int} {id : Int} {k : Nat} (hk : k < ks.length) (h : ks[k] = id) (hl : ∀ j (hj : j < ks.length), j < k → ks[j] ≠ id) : fidx ks id = k := by
 have : ks.findIdx (fun x => x == id) = k := by
  rw [List.findIdx_eq hk]
  exact ⟨by simp [h], fun j hj => by simpa using hl j (by omega) hj⟩
 unfold fidx
 rw [this, if_pos hk]
theorem fidx_none {ks : List Int} {id : Int} (hl : ∀ j (hj : j < ks.length), ks[j] ≠ id) : fidx ks id = -1 := by
 unfold fidx
 rw [if_neg]
 intro h
 have := List.findIdx_getElem (w := h)
 exact hl _ h (by simpa using this)
theorem fidx_cases (ks : List Int) (id : Int) : (fidx ks id = -1 ∧ id ∉ ks) ∨ ∃ i : Nat, ∃ h : i < ks.length, fidx ks id = i ∧ ks[i] = id ∧ (∀ j (hj : j < ks.length), j < i → ks[j] ≠ id) := by
 by_cases hm : ks.findIdx (fun x => x == id) < ks.length
 ·have h1 := List.findIdx_getElem (w := hm)
  refine .inr ⟨_, hm, by unfold fidx; rw [if_pos hm], by simpa using h1, fun j hj hlt e => ?_⟩
  have := List.not_of_lt_findIdx hlt
  simp [e] at this
 refine .inl ⟨by unfold fidx; rw [if_neg hm], fun h => hm ?_⟩
 exact List.findIdx_lt_length_of_exists ⟨id, h, by simp⟩
theorem fidx_neg {ks : List Int} {id : Int} : fidx ks id < 0 ↔ id ∉ ks := by
 rcases fidx_cases ks id with ⟨h, hm⟩ | ⟨i, h, he, hi, _⟩
 ·simp [h, hm]
 constructor
 ·intro h2; omega
 intro h2; exact absurd (hi ▸ List.getElem_mem h) h2
theorem fidx_nonneg {ks : List Int} {id : Int} : 0 ≤ fidx ks id ↔ id ∈ ks := by
 have := @fidx_neg ks id
 constructor
 ·intro h
  by_cases hm : id ∈ ks
  ·exact hm
  have := this.2 hm; omega
 intro h
 by_cases hm : fidx ks id < 0
 ·exact absurd h (this.1 hm)
 omega
set_option maxHeartbeats 1000000 in
theorem place39 {w : World} {vg : Value} {g : Gr} (hG : GrV w vg g) (hf : g.few) (id : Int) : Calls Tryz.prog 39 #[vg, .int .i64 id] w fun e w' => e = .returned (.int .i64 (fidx (g.vs.map Vtx.id) id)) ∧ Gro w w' := by
 have hmix := mixed
 obtain ⟨v1, v2, v3, rfl, hg⟩ := hG
 obtain ⟨a1, n1, rfl, l1⟩ := hg.vs
 obtain ⟨a2, n2, rfl, l2⟩ := hg.es
 obtain ⟨a3, n3, rfl, l3⟩ := hg.ds
 have hfew := hf.vs
 have HL := yy l1
 clear hg l1 l2 l3 hf
 go_enter Tryz.func39, Tryz.ntmps39
 go_wp2_with fail
 obtain ⟨wa, hwa⟩ : ∃ wa, wa = w.alloc (Obj.cells #[Value.slice a1 g.vs.length n1, Value.slice a2 g.es.length n2, Value.slice a3 g.ds.length n3] 38) := ⟨_, rfl⟩
 have k0 : Gro w wa := by rw [hwa]; exact (Gro.refl _).alloc _
 have bA : wa.heap[w.heap.size]? = some (.cells #[Value.slice a1 g.vs.length n1, Value.slice a2 g.es.length n2, Value.slice a3 g.ds.length n3] 38 (0, 0)) := by rw [hwa]; exact blk_new _ _
 rw [← hwa]
 clear hwa
 have c0 := blk_cell bA 0
 simp only [lPa, lPb, lPc] at c0
 have hlA := blk_lt bA
 have K0 := yy k0
 have HL2 := yy (HL.out.gro k0)
 clear k0 bA HL
 go_loopw [5] (fun t wr => ∃ k : Nat, k ≤ g.vs.length ∧ t = .int .i64 k ∧ wr = wa ∧ ∀ j (hj : j < (g.vs.map Vtx.id).length), j < k → (g.vs.map Vtx.id)[j] ≠ id) (fun t _ => g.vs.length - (intOf t).toNat)
 case atStart => exact ⟨0, Nat.zero_le _, by go_num, rfl, fun j hj h => by omega⟩
 case round =>
 obtain ⟨k, hk, rfl, rfl, hne⟩ := hrel
 have HN := yy hne
 clear hne
 by_cases hlt : k < g.vs.length
 ·obtain ⟨B, off, rfl, hb, hc⟩ := HL2.out.base hlt
  obtain ⟨d0, _⟩ := vcells hc hlt
  have hlB := World.block_lt_of_cell? _ _ d0
  have HC := yy hc
  clear hc
  obtain ⟨y, hy⟩ : ∃ y, y = g.vs[k].id := ⟨_, rfl⟩
  rw [← hy] at d0
  by_cases he : y = id
  ·have hr := fidx_found (ks := g.vs.map Vtx.id) (id := id) (k := k) (by simpa using hlt) (by simpa [← hy] using he) (fun j hj h => HN.out j hj h)
   have HR := yy hr
   clear hr
   subst he
   clear hy
   go_wp2_with fail
   go_ret
   exact ⟨by rw [HR.out]; rfl, K0.out⟩
  have hn : ∀ j (hj : j < (g.vs.map Vtx.id).length), j < k + 1 → (g.vs.map Vtx.id)[j] ≠ id := by
   intro j hj h
   by_cases e : j = k
   ·subst e; simpa [← hy] using he
   exact HN.out j hj (by omega)
  have HN2 := yy hn
  clear hn
  have hb2 : (y == id) = false := by simpa using he
  clear hy
  go_wp2_with fail
  go_roundw
  case rel => exact ⟨k + 1, by omega, by go_num, by first | rfl | trivial, HN2.out⟩
  case measure => simp [intOf]; omega
 have hr := fidx_none (ks := g.vs.map Vtx.id) (id := id) (fun j hj => HN.out j hj (by simp at hj; omega))
 have HR := yy hr
 clear hr
 go_wp2_with fail
 go_ret
 exact ⟨by rw [HR.out]; rfl, K0.out⟩
set_option maxHeartbeats 1000000 in
theorem find43 {w : World} {vg : Value} {g : Gr} (hG : GrV w vg g) (hf : g.few) (id : Int) : Calls Tryz.prog 43 #[vg, .int .i64 id] w fun e w' => e = .returned (.int .i64 (fidx (g.es.map Edg.id) id)) ∧ Gro w w' := by
 have hmix := mixed
 obtain ⟨v1, v2, v3, rfl, hg⟩ := hG
 obtain ⟨a1, n1, rfl, l1⟩ := hg.vs
 obtain ⟨a2, n2, rfl, l2⟩ := hg.es
 obtain ⟨a3, n3, rfl, l3⟩ := hg.ds
 have hfew := hf.es
 have HL := yy l2
 clear hg l1 l2 l3 hf
 go_enter Tryz.func43, Tryz.ntmps43
 go_wp2_with fail
 obtain ⟨wa, hwa⟩ : ∃ wa, wa = w.alloc (Obj.cells #[Value.slice a1 g.vs.length n1, Value.slice a2 g.es.length n2, Value.slice a3 g.ds.length n3] 38) := ⟨_, rfl⟩
 have k0 : Gro w wa := by rw [hwa]; exact (Gro.refl _).alloc _
 have bA : wa.heap[w.heap.size]? = some (.cells #[Value.slice a1 g.vs.length n1, Value.slice a2 g.es.length n2, Value.slice a3 g.ds.length n3] 38 (0, 0)) := by rw [hwa]; exact blk_new _ _
 rw [← hwa]
 clear hwa
 have c0 := blk_cell bA 1
 simp only [lPa, lPb, lPc] at c0
 have hlA := blk_lt bA
 have K0 := yy k0
 have HL2 := yy (HL.out.gro k0)
 clear k0 bA HL
 go_loopw [5] (fun t wr => ∃ k : Nat, k ≤ g.es.length ∧ t = .int .i64 k ∧ wr = wa ∧ ∀ j (hj : j < (g.es.map Edg.id).length), j < k → (g.es.map Edg.id)[j] ≠ id) (fun t _ => g.es.length - (intOf t).toNat)
 case atStart => exact ⟨0, Nat.zero_le _, by go_num, rfl, fun j hj h => by omega⟩
 case round =>
 obtain ⟨k, hk, rfl, rfl, hne⟩ := hrel
 have HN := yy hne
 clear hne
 by_cases hlt : k < g.es.length
 ·obtain ⟨B, off, rfl, hb, hc⟩ := HL2.out.base hlt
  obtain ⟨d0, _, _, _, _, _⟩ := ecells hc hlt
  have hlB := World.block_lt_of_cell? _ _ d0
  have HC := yy hc
  clear hc
  obtain ⟨y, hy⟩ : ∃ y, y = g.es[k].id := ⟨_, rfl⟩
  rw [← hy] at d0
  by_cases he : y = id
  ·have hr := fidx_found (ks := g.es.map Edg.id) (id := id) (k := k) (by simpa using hlt) (by simpa [← hy] using he) (fun j hj h => HN.out j hj h)
   have HR := yy hr
   clear hr
   subst he
   clear hy
   go_wp2_with fail
   go_ret
   exact ⟨by rw [HR.out]; rfl, K0.out⟩
  have hn : ∀ j (hj : j < (g.es.map Edg.id).length), j < k + 1 → (g.es.map Edg.id)[j] ≠ id := by
   intro j hj h
   by_cases e : j = k
   ·subst e; simpa [← hy] using he
   exact HN.out j hj (by omega)
  have HN2 := yy hn
  clear hn
  have hb2 : (y == id) = false := by simpa using he
  clear hy
  go_wp2_with fail
  go_roundw
  case rel => exact ⟨k + 1, by omega, by go_num, by first | rfl | trivial, HN2.out⟩
  case measure => simp [intOf]; omega
 have hr := fidx_none (ks := g.es.map Edg.id) (id := id) (fun j hj => HN.out j hj (by simp at hj; omega))
 have HR := yy hr
 clear hr
 go_wp2_with fail
 go_ret
 exact ⟨by rw [HR.out]; rfl, K0.out⟩
set_option maxHeartbeats 1000000 in
theorem find40 {w : World} {vb : Value} {b : Bk} (hB : BkV w vb b) (hf : b.few) (id : Int) : Calls Tryz.prog 40 #[vb, .int .i64 id] w fun e w' => e = .returned (.int .i64 (fidx (b.os.map Ofr.id) id)) ∧ Gro w w' := by
 have hmix := mixed
 obtain ⟨p, o, q, rfl, hp, ho, hq⟩ := hB
 obtain ⟨ap, np, rfl, lp⟩ := hp
 obtain ⟨ao, no, rfl, lo⟩ := ho
 obtain ⟨aq, nq, rfl, lq⟩ := hq
 have hfew := hf.os
 have HL := yy lo
 clear lp lo lq hf
 go_enter Tryz.func40, Tryz.ntmps40
 go_wp2_with fail
 obtain ⟨wa, hwa⟩ : ∃ wa, wa = w.alloc (Obj.cells #[Value.int IntKind.i64 b.round, Value.slice ap b.ps.length np, Value.slice ao b.os.length no, Value.slice aq b.ws.length nq] 28) := ⟨_, rfl⟩
 have k0 : Gro w wa := by rw [hwa]; exact (Gro.refl _).alloc _
 have bA : wa.heap[w.heap.size]? = some (.cells #[Value.int IntKind.i64 b.round, Value.slice ap b.ps.length np, Value.slice ao b.os.length no, Value.slice aq b.ws.length nq] 28 (0, 0)) := by rw [hwa]; exact blk_new _ _
 rw [← hwa]
 clear hwa
 have c0 := blk_cell bA 2
 simp only [lPa, lPb, lPc] at c0
 have hlA := blk_lt bA
 have K0 := yy k0
 have HL2 := yy (HL.out.gro k0)
 clear k0 bA HL
 go_loopw [5] (fun t wr => ∃ k : Nat, k ≤ b.os.length ∧ t = .int .i64 k ∧ wr = wa ∧ ∀ j (hj : j < (b.os.map Ofr.id).length), j < k → (b.os.map Ofr.id)[j] ≠ id) (fun t _ => b.os.length - (intOf t).toNat)
 case atStart => exact ⟨0, Nat.zero_le _, by go_num, rfl, fun j hj h => by omega⟩
 case round =>
 obtain ⟨k, hk, rfl, rfl, hne⟩ := hrel
 have HN := yy hne
 clear hne
 by_cases hlt : k < b.os.length
 ·obtain ⟨B, off, rfl, hb, hc⟩ := HL2.out.base hlt
  obtain ⟨d0, _, _, _, _, _, _⟩ := ocells hc hlt
  have hlB := World.block_lt_of_cell? _ _ d0
  have HC := yy hc
  clear hc
  obtain ⟨y, hy⟩ : ∃ y, y = b.os[k].id := ⟨_, rfl⟩
  rw [← hy] at d0
  by_cases he : y = id
  ·have hr := fidx_found (ks := b.os.map Ofr.id) (id := id) (k := k) (by simpa using hlt) (by simpa [← hy] using he) (fun j hj h => HN.out j hj h)
   have HR := yy hr
   clear hr
   subst he
   clear hy
   go_wp2_with fail
   go_ret
   exact ⟨by rw [HR.out]; rfl, K0.out⟩
  have hn : ∀ j (hj : j < (b.os.map Ofr.id).length), j < k + 1 → (b.os.map Ofr.id)[j] ≠ id := by
   intro j hj h
   by_cases e : j = k
   ·subst e; simpa [← hy] using he
   exact HN.out j hj (by omega)
  have HN2 := yy hn
  clear hn
  have hb2 : (y == id) = false := by simpa using he
  clear hy
  go_wp2_with fail
  go_roundw
  case rel => exact ⟨k + 1, by omega, by go_num, by first | rfl | trivial, HN2.out⟩
  case measure => simp [intOf]; omega
 have hr := fidx_none (ks := b.os.map Ofr.id) (id := id) (fun j hj => HN.out j hj (by simp at hj; omega))
 have HR := yy hr
 clear hr
 go_wp2_with fail
 go_ret
 exact ⟨by rw [HR.out]; rfl, K0.out⟩
end Go.Proofs.YthfagcdjbmhhcaaGreat
namespace Go.Proofs.YthfagcdjbmhhcaaGreat
open Go.RowKit
attribute [local irreducible] wpQuiet
theorem LV.far3 {α : Type} [Rec α] {w w' : World} {v : Value} {l : List α} {T : Nat} {fr : Nat × Nat} (h : LV w v l) (k : Kept (· = T) w w') (hT : w.heap[T]? = some (.cells #[.slice none 0 0, .slice none 0 0, .slice none 0 0] 38 fr)) (hk : 0 < Rec.k α)
  (hint : ∀ x : α, ∃ a, (Rec.cs x)[0]? = some (.int .i64 a)) : LV w' v l := by
 obtain ⟨a, c, rfl, h2⟩ := h
 refine ⟨a, c, rfl, h2.len, h2.cap, h2.big, ?_⟩
 rcases h2.at_ with h0 | ⟨b, off, rfl, hb, hc⟩
 ·exact .inl h0
 cases l with
 | nil => exact .inl rfl
 | cons x l =>
  refine .inr ⟨b, off, rfl, Nat.lt_of_lt_of_le hb k.size, fun i v hv => k.cell (p := ⟨b, off + i, none⟩) ?_ (hc i v hv)⟩
  intro e
  simp only at e
  subst e
  obtain ⟨y0, e0⟩ := hint x
  have g0 := flat_get (x :: l) 0 (by simp) 0 hk
  simp only [Nat.zero_mul, Nat.zero_add, List.getElem_cons_zero] at g0
  have q0 := hc 0 _ (g0.trans e0)
  rw [blk_cell hT] at q0
  rcases off with _ | _ | _ | off <;> simp at q0
theorem set3 {w : World} {T : Nat} {x0 x1 x2 : Value} {t : TypeId} {fr : Nat × Nat} (h : w.heap[T]? = some (.cells #[x0, x1, x2] t fr)) (y0 y1 y2 : Value) :
  (((w.setCell ⟨T, 0, none⟩ y0).setCell ⟨T, 1, none⟩ y1).setCell ⟨T, 2, none⟩ y2).heap[T]? = some (.cells #[y0, y1, y2] t fr) := by
 simpa using blk_set (blk_set (blk_set h 0 y0) 1 y1) 2 y2
theorem kept3 {F : Nat → Prop} {w0 w : World} (h : Kept F w0 w) {T : Nat} (hT : F T ∨ w0.heap.size ≤ T) (y0 y1 y2 : Value) :
  Kept F w0 (((w.setCell ⟨T, 0, none⟩ y0).setCell ⟨T, 1, none⟩ y1).setCell ⟨T, 2, none⟩ y2) :=
 ((h.setCell (p := ⟨T, 0, none⟩) hT y0).setCell (p := ⟨T, 1, none⟩) hT y1).setCell (p := ⟨T, 2, none⟩) hT y2
def graphOf (g : Gr) (b : Bk) : Option Gr := if validB g b = true then some (build g b) else none
def GrPost (w : World) (r : Option Gr) (e : Ending) (w' : World) : Prop :=
 Gro w w' ∧ ((∃ g v, r = some g ∧ e = .returned (.tuple #[v, .int .i64 0]) ∧ GrV w' v g) ∨ (r = none ∧ e = .returned (.tuple #[.agg #[.slice none 0 0, .slice none 0 0, .slice none 0 0], .int .i64 270])))
set_option maxHeartbeats 2000000 in
theorem graph30 {w : World} {vg vb : Value} {g : Gr} {b : Bk} (hG : GrV w vg g) (hB : BkV w vb b) (hf : Fits g b) :
  Calls Tryz.prog 30 #[vg, vb] w (GrPost w (graphOf g b)) := by
 have hmix := mixed
 obtain ⟨v1, v2, v3, rfl, hg⟩ := hG
 obtain ⟨p, o, q, rfl, hp, ho, hq⟩ := hB
 obtain ⟨a1, n1, rfl, l1⟩ := hg.vs
 obtain ⟨a2, n2, rfl, l2⟩ := hg.es
 obtain ⟨a3, n3, rfl, l3⟩ := hg.ds
 obtain ⟨ap, np, rfl, lp⟩ := hp
 obtain ⟨ao, no, rfl, lo⟩ := ho
 obtain ⟨aq, nq, rfl, lq⟩ := hq
 have HP := yy (show LV w (.slice ap b.ps.length np) b.ps from ⟨_, _, rfl, lp⟩)
 have HO := yy (show LV w (.slice ao b.os.length no) b.os from ⟨_, _, rfl, lo⟩)
 have HQ := yy (show LV w (.slice aq b.ws.length nq) b.ws from ⟨_, _, rfl, lq⟩)
 have HGA := yy hg
 have HF := yy hf
 clear hg lp lo lq l1 l2 l3 hf
 go_enter Tryz.func30, Tryz.ntmps30
 go_wp2_with fail
 obtain ⟨wa, hwa⟩ : ∃ wa, wa = ((w.alloc (Obj.cells #[Value.slice a1 g.vs.length n1, Value.slice a2 g.es.length n2, Value.slice a3 g.ds.length n3] 38)).alloc (Obj.cells #[Value.int IntKind.i64 b.round, Value.slice ap b.ps.length np, Value.slice ao b.os.length no, Value.slice aq b.ws.length nq] 28)).alloc (Obj.cells #[Value.slice none 0 0, Value.slice none 0 0, Value.slice none 0 0] 38) := ⟨_, rfl⟩
 have k0 : Gro w wa := by rw [hwa]; exact (((Gro.refl _).alloc _).alloc _).alloc _
 have bT : wa.heap[w.heap.size + 1 + 1]? = some (.cells #[.slice none 0 0, .slice none 0 0, .slice none 0 0] 38 (0, 0)) := by
  rw [hwa]
  have := blk_new ((w.alloc (Obj.cells #[Value.slice a1 g.vs.length n1, Value.slice a2 g.es.length n2, Value.slice a3 g.ds.length n3] 38)).alloc (Obj.cells #[Value.int IntKind.i64 b.round, Value.slice ap b.ps.length np, Value.slice ao b.os.length no, Value.slice aq b.ws.length nq] 28)) (Obj.cells #[Value.slice none 0 0, Value.slice none 0 0, Value.slice none 0 0] 38)
  rw [asz, asz] at this
  exact this
 rw [← hwa]
 clear hwa
 refine (read51 (HGA.out.gro k0) (HP.out.gro k0) (HO.out.gro k0) (HQ.out.gro k0) HF.out.gfew HF.out.bfew HF.out.v HF.out.e).mono ?_
 rintro e w1 ⟨k1, hr⟩
 have K1 := yy (k0.trans k1)
 have BT := yy (k1.blk bT)
 clear k0 k1 bT
 have hszT : w.heap.size ≤ w.heap.size + 1 + 1 := by omega
 rcases hr with ⟨hv, X, p', o', q', rfl, hx⟩ | ⟨hv, rfl⟩
 ·have HV := yy hv
  have HGC := yy (graph83 hx.at_ (validB_iff.1 hv) HF.out.gfew HF.out.bfew HF.out.v HF.out.e)
  clear hv hx
  go_wp2_with fail
  refine HGC.out.mono ?_
  rintro e w2 ⟨r1, r2, r3, rfl, hgr, k2⟩
  obtain ⟨b1, m1, rfl, l1⟩ := hgr.vs
  obtain ⟨b2, m2, rfl, l2⟩ := hgr.es
  obtain ⟨b3, m3, rfl, l3⟩ := hgr.ds
  have HGR := yy (show GAt w2 (.slice b1 (build g b).vs.length m1) (.slice b2 (build g b).es.length m2) (.slice b3 (build g b).ds.length m3) (build g b) from ⟨⟨_, _, rfl, l1⟩, ⟨_, _, rfl, l2⟩, ⟨_, _, rfl, l3⟩⟩)
  have BQ := yy (k2.blk BT.out)
  have KQ := yy (K1.out.trans k2)
  clear l1 l2 l3 hgr k2 HGC
  generalize (build g b).vs.length = N1 at HGR
  generalize (build g b).es.length = N2 at HGR
  generalize (build g b).ds.length = N3 at HGR
  have d2 := blk_frozen BQ.out
  have e2 := blk_cell BQ.out
  have f0 := d2 0
  have f1 := d2 1
  have f2 := d2 2
  have c0 := e2 0
  have c1 := e2 1
  have c2 := e2 2
  simp only [lPa, lPb, lPc] at c0 c1 c2
  have hl := World.block_lt_of_cell? w2 _ c0
  clear d2 e2
  go_wp2_with fail
  have B5 := set3 BQ.out (.slice b1 N1 m1) (.slice b2 N2 m2) (.slice b3 N3 m3)
  have K5 := kept3 KQ.out (.inr hszT) (.slice b1 N1 m1) (.slice b2 N2 m2) (.slice b3 N3 m3)
  have K6 := kept3 (F := (· = w.heap.size + 1 + 1)) (Kept.refl (· = w.heap.size + 1 + 1) w2) (.inl rfl) (.slice b1 N1 m1) (.slice b2 N2 m2) (.slice b3 N3 m3)
  refine bodyPost_ret (results_cell_tmp_row (p := 4) (u := 5) (ty := 38) rfl _ _ (w.heap.size + 1 + 1) 38 _ (0, 0) _ rfl B5 Tryz.underlying38 rfl (by kernel_rfl)) rfl ⟨K5, .inl ⟨build g b, _, by simp [graphOf, HV.out], rfl, ⟨_, _, _, rfl, ?_, ?_, ?_⟩⟩⟩
  ·exact HGR.out.vs.far3 K6 BQ.out (by decide) (fun x => ⟨x.id, rfl⟩)
  ·exact HGR.out.es.far3 K6 BQ.out (by decide) (fun x => ⟨x.id, rfl⟩)
  exact HGR.out.ds.far3 K6 BQ.out (by decide) (fun x => ⟨x, rfl⟩)
 have HV := yy hv
 clear hv
 have d2 := blk_frozen BT.out
 have e2 := blk_cell BT.out
 have f0 := d2 0
 have f1 := d2 1
 have f2 := d2 2
 have c0 := e2 0
 have c1 := e2 1
 have c2 := e2 2
 simp only [lPa, lPb, lPc] at c0 c1 c2
 have hl := World.block_lt_of_cell? w1 _ c0
 clear d2 e2
 go_wp2_with fail
 have B5 := set3 BT.out (.slice none 0 0) (.slice none 0 0) (.slice none 0 0)
 have K5 := kept3 K1.out (.inr hszT) (.slice none 0 0) (.slice none 0 0) (.slice none 0 0)
 refine bodyPost_ret (results_cell_tmp_row (p := 4) (u := 5) (ty := 38) rfl _ _ (w.heap.size + 1 + 1) 38 _ (0, 0) _ rfl B5 Tryz.underlying38 rfl (by kernel_rfl)) rfl ⟨K5, .inr ⟨by simp [graphOf, HV.out], rfl⟩⟩
/-- the side of a vertex; -1 if there is none -/
def sideG (g : Gr) (id : Int) : Int := match g.vs.find? fun v => v.id == id with | some v => v.side | none => -1
theorem sideG_at {g : Gr} (ha : (g.vs.map Vtx.id).Pairwise (· < ·)) {i : Nat} (hi : i < g.vs.length) : sideG g g.vs[i].id = g.vs[i].side := by
 have : (g.vs.find? fun v => v.id == g.vs[i].id) = some g.vs[i] := by
  rw [List.find?_eq_some_iff_getElem]
  refine ⟨by simp, i, hi, rfl, fun j hj => ?_⟩
  have := lt_of_pair ha (i := j) (j := i) (by simp; omega) (by simpa using hi) hj
  simp only [List.getElem_map] at this
  simp; omega
 unfold sideG
 rw [this]
theorem sideG_none {g : Gr} {id : Int} (h : id ∉ g.vs.map Vtx.id) : sideG g id = -1 := by
 have : (g.vs.find? fun v => v.id == id) = none := by
  rw [List.find?_eq_none]
  intro v hv
  simp only [beq_iff_eq]
  exact fun e => h (List.mem_map.2 ⟨v, hv, e⟩)
 unfold sideG
 rw [this]
set_option maxHeartbeats 1000000 in
theorem side131 {w : World} {vg : Value} {g : Gr} (hG : GrV w vg g) (hf : g.few) (ha : (g.vs.map Vtx.id).Pairwise (· < ·)) (id : Int) :
  Calls Tryz.prog 131 #[vg, .int .i64 id] w fun e w' => e = .returned (.int .i64 (sideG g id)) ∧ Gro w w' := by
 have hmix := mixed
 obtain ⟨v1, v2, v3, rfl, hg⟩ := hG
 obtain ⟨a1, n1, rfl, l1⟩ := hg.vs
 obtain ⟨a2, n2, rfl, l2⟩ := hg.es
 obtain ⟨a3, n3, rfl, l3⟩ := hg.ds
 have hfv := hf.vs
 obtain ⟨wa, hwa⟩ : ∃ wa, wa = w.alloc (Obj.cells #[Value.slice a1 g.vs.length n1, Value.slice a2 g.es.length n2, Value.slice a3 g.ds.length n3] 38) := ⟨_, rfl⟩
 have k0 : Gro w wa := by rw [hwa]; exact (Gro.refl _).alloc _
 have bA : wa.heap[w.heap.size]? = some (.cells #[Value.slice a1 g.vs.length n1, Value.slice a2 g.es.length n2, Value.slice a3 g.ds.length n3] 38 (0, 0)) := by rw [hwa]; exact blk_new _ _
 have HW := yy hwa
 have HPL := yy (placeF125 (l1.gro k0) (by omega) id ha)
 have hp := posI_is ha id
 generalize posI (g.vs.map Vtx.id) id = i at HPL hp
 have HL := yy (l1.gro k0)
 have K0 := yy k0
 have BA := yy bA
 clear hg l1 l2 l3 hf hwa k0 bA
 by_cases hm : id ∈ g.vs.map Vtx.id
 ·obtain ⟨hi', he⟩ := (hp.found ha).1 hm
  have hi : i < g.vs.length := by simpa using hi'
  simp only [List.getElem_map] at he
  have hr := sideG_at ha hi
  rw [he] at hr
  rw [decide_eq_true hm] at HPL
  have HR := yy hr
  clear hr hp hm hi' he
  go_enter Tryz.func131, Tryz.ntmps131
  go_wp2_with fail
  rw [← HW.out]
  refine HPL.out.mono ?_
  rintro e w2 ⟨rfl, k2⟩
  have c0 := blk_cell (k2.blk BA.out) 0
  simp only [lPa, lPb, lPc] at c0
  have hlA := blk_lt (k2.blk BA.out)
  obtain ⟨B, off, rfl, hb, hc⟩ := (HL.out.gro k2).base hi
  obtain ⟨_, d1⟩ := vcells hc hi
  have hlB := World.block_lt_of_cell? _ _ d1
  have KK := yy (K0.out.trans k2)
  rw [← HR.out] at d1
  clear hc k2 HPL HR
  go_wp2_with fail
  go_ret
  exact ⟨rfl, KK.out⟩
 rw [decide_eq_false hm] at HPL
 have hr := sideG_none hm
 have HR := yy hr
 clear hr hp hm
 go_enter Tryz.func131, Tryz.ntmps131
 go_wp2_with fail
 rw [← HW.out]
 refine HPL.out.mono ?_
 rintro e w2 ⟨rfl, k2⟩
 have KK := yy (K0.out.trans k2)
 clear k2 HPL
 go_wp2_with fail
 go_ret
 exact ⟨by rw [HR.out]; rfl, KK.out⟩
end Go.Proofs.YthfagcdjbmhhcaaGreat
namespace Go.Proofs.YthfagcdjbmhhcaaGreat
open Go.RowKit
attribute [local irreducible] wpQuiet
theorem lfR51 {P : Prop} (h : P := by (intro w hSw; obtain ⟨cb0, cb1, cb2, cb3, cbl⟩ := cells4 hSw; clear hSw; go_simp; try with_reducible rfl)) : P := h
theorem lfR52 {P : Prop} (h : P := by (intro w hSw; obtain ⟨cb0, cb1, cb2, cbl⟩ := cells3 hSw; clear hSw; go_simp; try with_reducible rfl)) : P := h
set_option maxHeartbeats 20000000 in
set_option maxRecDepth 100000 in
theorem copy113 {w : World} {vg : Value} {g : Gr} (hG : GrV w vg g) (hf : g.few) : Calls Tryz.prog 113 #[vg] w fun e w' => ∃ v1 v2 v3, e = .returned (.agg #[v1, v2, v3]) ∧ Gro w w' ∧ OwnL w' w.heap.size v1 g.vs ∧ OwnL w' w.heap.size v2 g.es ∧ OwnL w' w.heap.size v3 g.ds := by
 have hmix := mixed
 obtain ⟨v1, v2, v3, rfl, hg⟩ := hG
 obtain ⟨a1, n1, rfl, l1⟩ := hg.vs
 obtain ⟨a2, n2, rfl, l2⟩ := hg.es
 obtain ⟨a3, n3, rfl, l3⟩ := hg.ds
 have f1 := hf.vs
 have f2 := hf.es
 have f3 := hf.ds
 obtain ⟨wa, hwa⟩ : ∃ wa, wa = (w.alloc (.cells #[Value.slice a1 g.vs.length n1, Value.slice a2 g.es.length n2, Value.slice a3 g.ds.length n3] 38)).alloc (.cells #[.slice none 0 0, .slice none 0 0, .slice none 0 0] 38) := ⟨_, rfl⟩
 have k0 : Gro w wa := by rw [hwa]; exact ((Gro.refl _).alloc _).alloc _
 have bA : wa.heap[w.heap.size]? = some (.cells #[Value.slice a1 g.vs.length n1, Value.slice a2 g.es.length n2, Value.slice a3 g.ds.length n3] 38 (0, 0)) := by rw [hwa]; exact blk_alloc (blk_new _ _) _
 have bT : wa.heap[w.heap.size + 1]? = some (.cells #[.slice none 0 0, .slice none 0 0, .slice none 0 0] 38 (0, 0)) := by
  rw [hwa]
  have := blk_new (w.alloc (.cells #[Value.slice a1 g.vs.length n1, Value.slice a2 g.es.length n2, Value.slice a3 g.ds.length n3] 38)) (.cells #[.slice none 0 0, .slice none 0 0, .slice none 0 0] 38)
  rw [asz] at this
  exact this
 have HW := yy hwa
 have L1 := yy (l1.gro k0)
 have L2 := yy (l2.gro k0)
 have L3 := yy (l3.gro k0)
 have K0 := yy k0
 clear hg l1 l2 l3 hf hwa
 go_enter Tryz.func113, Tryz.ntmps113
 go_wp2_with fail
 rw [← HW.out]
 clear HW
 refine wp_region_held_drew (S := (fun w' => w'.heap[w.heap.size]? = some (.cells #[Value.slice a1 g.vs.length n1, Value.slice a2 g.es.length n2, Value.slice a3 g.ds.length n3] 38 (0, 0)))) (by kernel_rfl) bA (fun hHeld => ?_)
 have hszw : w.heap.size ≤ wa.heap.size := k0.size
 have HK := yy ((Gro.refl wa).drew)
 have BT := yy (show wa.drew.heap[w.heap.size + 1]? = some (.cells #[.slice none 0 0, .slice none 0 0, .slice none 0 0] 38 (0, 0)) from bT)
 clear k0 bA bT
 generalize wa.drew = W at hHeld HK BT ⊢
 refine tkH 1 rfl lfR52 hHeld ?_
 refine nx ?_
 refine tkH 2 rfl lfR52 hHeld ?_
 refine nx ?_
 refine tkH 5 rfl lfR52 hHeld ?_
 refine nx ?_
 refine tkH 6 rfl lfR52 hHeld ?_
 refine nx ?_
 refine tkH 9 rfl lfR52 hHeld ?_
 refine nx ?_
 refine tkH 10 rfl lfR52 hHeld ?_
 refine nx ?_
 iterate 6
  all_goals
   first
    | (refine wpAnyH_ready (rs := [0, 4, 8]) (by decide +kernel) (by simp) ?_; refine AllReadyH.cons (i := 0) rfl (fun K hK => ?_) (AllReadyH.cons (i := 4) rfl (fun K hK => ?_) (AllReadyH.cons (i := 8) rfl (fun K hK => ?_) (AllReadyH.nil))))
    | (refine wpAnyH_ready (rs := [3, 4, 8]) (by decide +kernel) (by simp) ?_; refine AllReadyH.cons (i := 3) rfl (fun K hK => ?_) (AllReadyH.cons (i := 4) rfl (fun K hK => ?_) (AllReadyH.cons (i := 8) rfl (fun K hK => ?_) (AllReadyH.nil))))
    | (refine wpAnyH_ready (rs := [4, 8]) (by decide +kernel) (by simp) ?_; refine AllReadyH.cons (i := 4) rfl (fun K hK => ?_) (AllReadyH.cons (i := 8) rfl (fun K hK => ?_) (AllReadyH.nil)))
    | (refine wpAnyH_ready (rs := [7, 8]) (by decide +kernel) (by simp) ?_; refine AllReadyH.cons (i := 7) rfl (fun K hK => ?_) (AllReadyH.cons (i := 8) rfl (fun K hK => ?_) (AllReadyH.nil)))
    | (refine wpAnyH_ready (rs := [3, 8]) (by decide +kernel) (by simp) ?_; refine AllReadyH.cons (i := 3) rfl (fun K hK => ?_) (AllReadyH.cons (i := 8) rfl (fun K hK => ?_) (AllReadyH.nil)))
    | (refine wpAnyH_ready (rs := [3, 4]) (by decide +kernel) (by simp) ?_; refine AllReadyH.cons (i := 3) rfl (fun K hK => ?_) (AllReadyH.cons (i := 4) rfl (fun K hK => ?_) (AllReadyH.nil)))
    | (refine wpAnyH_ready (rs := [0, 8]) (by decide +kernel) (by simp) ?_; refine AllReadyH.cons (i := 0) rfl (fun K hK => ?_) (AllReadyH.cons (i := 8) rfl (fun K hK => ?_) (AllReadyH.nil)))
    | (refine wpAnyH_ready (rs := [0, 4]) (by decide +kernel) (by simp) ?_; refine AllReadyH.cons (i := 0) rfl (fun K hK => ?_) (AllReadyH.cons (i := 4) rfl (fun K hK => ?_) (AllReadyH.nil)))
    | (refine wpAnyH_ready (rs := [8]) (by decide +kernel) (by simp) ?_; refine AllReadyH.cons (i := 8) rfl (fun K hK => ?_) (AllReadyH.nil))
    | (refine wpAnyH_ready (rs := [11]) (by decide +kernel) (by simp) ?_; refine AllReadyH.cons (i := 11) rfl (fun K hK => ?_) (AllReadyH.nil))
    | (refine wpAnyH_ready (rs := [7]) (by decide +kernel) (by simp) ?_; refine AllReadyH.cons (i := 7) rfl (fun K hK => ?_) (AllReadyH.nil))
    | (refine wpAnyH_ready (rs := [4]) (by decide +kernel) (by simp) ?_; refine AllReadyH.cons (i := 4) rfl (fun K hK => ?_) (AllReadyH.nil))
    | (refine wpAnyH_ready (rs := [3]) (by decide +kernel) (by simp) ?_; refine AllReadyH.cons (i := 3) rfl (fun K hK => ?_) (AllReadyH.nil))
    | (refine wpAnyH_ready (rs := [0]) (by decide +kernel) (by simp) ?_; refine AllReadyH.cons (i := 0) rfl (fun K hK => ?_) (AllReadyH.nil))
  all_goals
   rename World => W
   first
    | (have hown : OwnL W wa.heap.size (.slice (some ⟨_, 0, none⟩) 0 0) ([] : List Vtx) := own_empty _ _ E0.out _ hB0; obtain ⟨va0, V, hrun, ho, hk⟩ := run_appL hown (L1.out.gro HK.out) (by simp; omega) HK.out.size 35; refine step_run rfl _ _ 35 rfl _ _ rfl rfl hrun ?_; (try replace E1 := yy (hk.blk E1.out (own_far hown E1.out (by decide)))); (try replace O1 := yy (O1.out.kept hk (own_far2 hown O1.out (by decide)))); (try replace E2 := yy (hk.blk E2.out (own_far hown E2.out (by decide)))); (try replace O2 := yy (O2.out.kept hk (own_far2 hown O2.out (by decide)))); replace BT := yy (hk.blk BT.out (own_far hown BT.out (by decide))); replace HK : Hid (Gro wa V) := yy (Kept.trans' HK.out hk (fun j hj => .inr (hown.block hj).1)); have hH2 := hk.blk hHeld (own_far hown hHeld (by decide)); have O0 : Hid (OwnL V wa.heap.size va0 g.vs) := yy (by rw [List.nil_append] at ho; exact ho); clear hown hrun ho hk hHeld E0 hB0)
    | (have hown : OwnL W wa.heap.size (.slice (some ⟨_, 0, none⟩) 0 0) ([] : List Edg) := own_empty _ _ E1.out _ hB1; obtain ⟨va1, V, hrun, ho, hk⟩ := run_appL hown (L2.out.gro HK.out) (by simp; omega) HK.out.size 36; refine step_run rfl _ _ 36 rfl _ _ rfl rfl hrun ?_; (try replace E0 := yy (hk.blk E0.out (own_far hown E0.out (by decide)))); (try replace O0 := yy (O0.out.kept hk (own_far2 hown O0.out (by decide)))); (try replace E2 := yy (hk.blk E2.out (own_far hown E2.out (by decide)))); (try replace O2 := yy (O2.out.kept hk (own_far2 hown O2.out (by decide)))); replace BT := yy (hk.blk BT.out (own_far hown BT.out (by decide))); replace HK : Hid (Gro wa V) := yy (Kept.trans' HK.out hk (fun j hj => .inr (hown.block hj).1)); have hH2 := hk.blk hHeld (own_far hown hHeld (by decide)); have O1 : Hid (OwnL V wa.heap.size va1 g.es) := yy (by rw [List.nil_append] at ho; exact ho); clear hown hrun ho hk hHeld E1 hB1)
    | (have hown : OwnL W wa.heap.size (.slice (some ⟨_, 0, none⟩) 0 0) ([] : List Int) := own_empty _ _ E2.out _ hB2; obtain ⟨va2, V, hrun, ho, hk⟩ := run_appL hown (L3.out.gro HK.out) (by simp; omega) HK.out.size 33; refine step_run rfl _ _ 33 rfl _ _ rfl rfl hrun ?_; (try replace E0 := yy (hk.blk E0.out (own_far hown E0.out (by decide)))); (try replace O0 := yy (O0.out.kept hk (own_far2 hown O0.out (by decide)))); (try replace E1 := yy (hk.blk E1.out (own_far hown E1.out (by decide)))); (try replace O1 := yy (O1.out.kept hk (own_far2 hown O1.out (by decide)))); replace BT := yy (hk.blk BT.out (own_far hown BT.out (by decide))); replace HK : Hid (Gro wa V) := yy (Kept.trans' HK.out hk (fun j hj => .inr (hown.block hj).1)); have hH2 := hk.blk hHeld (own_far hown hHeld (by decide)); have O2 : Hid (OwnL V wa.heap.size va2 g.ds) := yy (by rw [List.nil_append] at ho; exact ho); clear hown hrun ho hk hHeld E2 hB2)
    | (go_simp; first
     | (obtain ⟨V, hWn⟩ : ∃ V, V = W.alloc (Obj.cells #[] 77) := ⟨_, rfl⟩; rw [← hWn]; have hk : Gro W V := (by rw [hWn]; exact (Gro.refl _).alloc _); have E0 : Hid (V.heap[W.heap.size]? = some (.cells #[] 77 (0, 0))) := yy (by rw [hWn]; exact blk_new _ _); have hB0 : wa.heap.size ≤ W.heap.size := HK.out.size; (try replace E1 := yy (hk.blk E1.out)); (try replace O1 := yy (O1.out.gro hk)); (try replace E2 := yy (hk.blk E2.out)); (try replace O2 := yy (O2.out.gro hk)); replace BT := yy (hk.blk BT.out); replace HK := yy (HK.out.trans hk); have hH2 := hk.blk hHeld; clear hWn hk hHeld)
     | (obtain ⟨V, hWn⟩ : ∃ V, V = W.alloc (Obj.cells #[] 69) := ⟨_, rfl⟩; rw [← hWn]; have hk : Gro W V := (by rw [hWn]; exact (Gro.refl _).alloc _); have E1 : Hid (V.heap[W.heap.size]? = some (.cells #[] 69 (0, 0))) := yy (by rw [hWn]; exact blk_new _ _); have hB1 : wa.heap.size ≤ W.heap.size := HK.out.size; (try replace E0 := yy (hk.blk E0.out)); (try replace O0 := yy (O0.out.gro hk)); (try replace E2 := yy (hk.blk E2.out)); (try replace O2 := yy (O2.out.gro hk)); replace BT := yy (hk.blk BT.out); replace HK := yy (HK.out.trans hk); have hH2 := hk.blk hHeld; clear hWn hk hHeld)
     | (obtain ⟨V, hWn⟩ : ∃ V, V = W.alloc (Obj.cells #[] 3) := ⟨_, rfl⟩; rw [← hWn]; have hk : Gro W V := (by rw [hWn]; exact (Gro.refl _).alloc _); have E2 : Hid (V.heap[W.heap.size]? = some (.cells #[] 3 (0, 0))) := yy (by rw [hWn]; exact blk_new _ _); have hB2 : wa.heap.size ≤ W.heap.size := HK.out.size; (try replace E0 := yy (hk.blk E0.out)); (try replace O0 := yy (O0.out.gro hk)); (try replace E1 := yy (hk.blk E1.out)); (try replace O1 := yy (O1.out.gro hk)); replace BT := yy (hk.blk BT.out); replace HK := yy (HK.out.trans hk); have hH2 := hk.blk hHeld; clear hWn hk hHeld))
   refine hK.out _ _ hH2 (fun hHeld => ?_)
   clear hK K hH2
   try refine nx ?_
 all_goals
  rename World => W
  obtain ⟨z0, y0, hz0⟩ := O0.out.form
  subst hz0
  obtain ⟨z1, y1, hz1⟩ := O1.out.form
  subst hz1
  obtain ⟨z2, y2, hz2⟩ := O2.out.form
  subst hz2
  refine tkH 12 rfl (by intro w hSw; go_simp; try with_reducible rfl) hHeld ?_
  refine nx ?_
  have fz := blk_frozen BT.out
  have ct := blk_cell BT.out
  have f0z := fz 0
  have c0z := ct 0
  have f1z := fz 1
  have c1z := ct 1
  have f2z := fz 2
  have c2z := ct 2
  simp only [lPa, lPb, lPc] at c0z c1z c2z
  have hlT := blk_lt BT.out
  clear fz ct
  refine wpAnyH_ready (rs := [13]) (by kernel_rfl) (by simp) ?_
  refine AllReadyH.cons (i := 13) rfl (fun K hK => ?_) AllReadyH.nil
  have B5 := set3 BT.out (.slice z0 g.vs.length y0) (.slice z1 g.es.length y1) (.slice z2 g.ds.length y2)
  have K5 := kept3 (Kept.refl (· = w.heap.size + 1) W) (.inl rfl) (.slice z0 g.vs.length y0) (.slice z1 g.es.length y1) (.slice z2 g.ds.length y2)
  have K6 := kept3 (K0.out.trans HK.out) (.inr (by omega : w.heap.size ≤ w.heap.size + 1)) (.slice z0 g.vs.length y0) (.slice z1 g.es.length y1) (.slice z2 g.ds.length y2)
  have hH2 := K5.blk hHeld (by omega)
  have Q0 := yy ((O0.out.far K5 BT.out (by decide)).le hszw)
  have Q1 := yy ((O1.out.far K5 BT.out (by decide)).le hszw)
  have Q2 := yy ((O2.out.far K5 BT.out (by decide)).le hszw)
  have B6 := yy B5
  have K7 := yy K6
  have H2 := yy hH2
  clear B5 K5 K6 hH2
  go_simp
  refine hK.out _ _ H2.out (fun hHeld => ?_)
  clear hK K H2
  try refine nx ?_
  refine wpAnyH_done (by kernel_rfl) ?_ _
  go_wp2_with fail
  refine bodyPost_ret (results_cell_row (p := 2) (ty := 38) rfl _ _ (w.heap.size + 1) 38 _ (0, 0) _ rfl B6.out Tryz.underlying38 rfl (by kernel_rfl)) rfl ⟨_, _, _, rfl, K7.out, Q0.out, Q1.out, Q2.out⟩
set_option maxHeartbeats 20000000 in
set_option maxRecDepth 100000 in
theorem copy67 {w : World} {vb : Value} {b : Bk} (hB : BkV w vb b) (hf : b.few) : Calls Tryz.prog 67 #[vb] w fun e w' => ∃ v1 v2 v3, e = .returned (.agg #[.int .i64 b.round, v1, v2, v3]) ∧ Gro w w' ∧ OwnL w' w.heap.size v1 b.ps ∧ OwnL w' w.heap.size v2 b.os ∧ OwnL w' w.heap.size v3 b.ws := by
 have hmix := mixed
 obtain ⟨p, o, q, rfl, hp, ho, hq⟩ := hB
 obtain ⟨ap, np, rfl, l1⟩ := hp
 obtain ⟨ao, no, rfl, l2⟩ := ho
 obtain ⟨aq, nq, rfl, l3⟩ := hq
 have f1 := hf.ps
 have f2 := hf.os
 have f3 := hf.ws
 obtain ⟨wa, hwa⟩ : ∃ wa, wa = (w.alloc (.cells #[Value.int IntKind.i64 b.round, Value.slice ap b.ps.length np, Value.slice ao b.os.length no, Value.slice aq b.ws.length nq] 28)).alloc (.cells #[.int .i64 0, .slice none 0 0, .slice none 0 0, .slice none 0 0] 28) := ⟨_, rfl⟩
 have k0 : Gro w wa := by rw [hwa]; exact ((Gro.refl _).alloc _).alloc _
 have bA : wa.heap[w.heap.size]? = some (.cells #[Value.int IntKind.i64 b.round, Value.slice ap b.ps.length np, Value.slice ao b.os.length no, Value.slice aq b.ws.length nq] 28 (0, 0)) := by rw [hwa]; exact blk_alloc (blk_new _ _) _
 have bT : wa.heap[w.heap.size + 1]? = some (.cells #[.int .i64 0, .slice none 0 0, .slice none 0 0, .slice none 0 0] 28 (0, 0)) := by
  rw [hwa]
  have := blk_new (w.alloc (.cells #[Value.int IntKind.i64 b.round, Value.slice ap b.ps.length np, Value.slice ao b.os.length no, Value.slice aq b.ws.length nq] 28)) (.cells #[.int .i64 0, .slice none 0 0, .slice none 0 0, .slice none 0 0] 28)
  rw [asz] at this
  exact this
 have HW := yy hwa
 have L1 := yy (l1.gro k0)
 have L2 := yy (l2.gro k0)
 have L3 := yy (l3.gro k0)
 have K0 := yy k0
 clear l1 l2 l3 hf hwa
 go_enter Tryz.func67, Tryz.ntmps67
 go_wp2_with fail
 rw [← HW.out]
 clear HW
 refine wp_region_held_drew (S := (fun w' => w'.heap[w.heap.size]? = some (.cells #[Value.int IntKind.i64 b.round, Value.slice ap b.ps.length np, Value.slice ao b.os.length no, Value.slice aq b.ws.length nq] 28 (0, 0)))) (by kernel_rfl) bA (fun hHeld => ?_)
 have hszw : w.heap.size ≤ wa.heap.size := k0.size
 have HK := yy ((Gro.refl wa).drew)
 have BT := yy (show wa.drew.heap[w.heap.size + 1]? = some (.cells #[.int .i64 0, .slice none 0 0, .slice none 0 0, .slice none 0 0] 28 (0, 0)) from bT)
 clear k0 bA bT
 generalize wa.drew = W at hHeld HK BT ⊢
 refine tkH 0 rfl lfR51 hHeld ?_
 refine nx ?_
 refine tkH 1 rfl lfR51 hHeld ?_
 refine nx ?_
 refine tkH 3 rfl lfR51 hHeld ?_
 refine nx ?_
 refine tkH 4 rfl lfR51 hHeld ?_
 refine nx ?_
 refine tkH 7 rfl lfR51 hHeld ?_
 refine nx ?_
 refine tkH 8 rfl lfR51 hHeld ?_
 refine nx ?_
 refine tkH 11 rfl lfR51 hHeld ?_
 refine nx ?_
 refine tkH 12 rfl lfR51 hHeld ?_
 refine nx ?_
 iterate 6
  all_goals
   first
    | (refine wpAnyH_ready (rs := [2, 6, 10]) (by decide +kernel) (by simp) ?_; refine AllReadyH.cons (i := 2) rfl (fun K hK => ?_) (AllReadyH.cons (i := 6) rfl (fun K hK => ?_) (AllReadyH.cons (i := 10) rfl (fun K hK => ?_) (AllReadyH.nil))))
    | (refine wpAnyH_ready (rs := [5, 6, 10]) (by decide +kernel) (by simp) ?_; refine AllReadyH.cons (i := 5) rfl (fun K hK => ?_) (AllReadyH.cons (i := 6) rfl (fun K hK => ?_) (AllReadyH.cons (i := 10) rfl (fun K hK => ?_) (AllReadyH.nil))))
    | (refine wpAnyH_ready (rs := [6, 10]) (by decide +kernel) (by simp) ?_; refine AllReadyH.cons (i := 6) rfl (fun K hK => ?_) (AllReadyH.cons (i := 10) rfl (fun K hK => ?_) (AllReadyH.nil)))
    | (refine wpAnyH_ready (rs := [9, 10]) (by decide +kernel) (by simp) ?_; refine AllReadyH.cons (i := 9) rfl (fun K hK => ?_) (AllReadyH.cons (i := 10) rfl (fun K hK => ?_) (AllReadyH.nil)))
    | (refine wpAnyH_ready (rs := [5, 10]) (by decide +kernel) (by simp) ?_; refine AllReadyH.cons (i := 5) rfl (fun K hK => ?_) (AllReadyH.cons (i := 10) rfl (fun K hK => ?_) (AllReadyH.nil)))
    | (refine wpAnyH_ready (rs := [5, 6]) (by decide +kernel) (by simp) ?_; refine AllReadyH.cons (i := 5) rfl (fun K hK => ?_) (AllReadyH.cons (i := 6) rfl (fun K hK => ?_) (AllReadyH.nil)))
    | (refine wpAnyH_ready (rs := [2, 10]) (by decide +kernel) (by simp) ?_; refine AllReadyH.cons (i := 2) rfl (fun K hK => ?_) (AllReadyH.cons (i := 10) rfl (fun K hK => ?_) (AllReadyH.nil)))
    | (refine wpAnyH_ready (rs := [2, 6]) (by decide +kernel) (by simp) ?_; refine AllReadyH.cons (i := 2) rfl (fun K hK => ?_) (AllReadyH.cons (i := 6) rfl (fun K hK => ?_) (AllReadyH.nil)))
    | (refine wpAnyH_ready (rs := [10]) (by decide +kernel) (by simp) ?_; refine AllReadyH.cons (i := 10) rfl (fun K hK => ?_) (AllReadyH.nil))
    | (refine wpAnyH_ready (rs := [13]) (by decide +kernel) (by simp) ?_; refine AllReadyH.cons (i := 13) rfl (fun K hK => ?_) (AllReadyH.nil))
    | (refine wpAnyH_ready (rs := [9]) (by decide +kernel) (by simp) ?_; refine AllReadyH.cons (i := 9) rfl (fun K hK => ?_) (AllReadyH.nil))
    | (refine wpAnyH_ready (rs := [6]) (by decide +kernel) (by simp) ?_; refine AllReadyH.cons (i := 6) rfl (fun K hK => ?_) (AllReadyH.nil))
    | (refine wpAnyH_ready (rs := [5]) (by decide +kernel) (by simp) ?_; refine AllReadyH.cons (i := 5) rfl (fun K hK => ?_) (AllReadyH.nil))
    | (refine wpAnyH_ready (rs := [2]) (by decide +kernel) (by simp) ?_; refine AllReadyH.cons (i := 2) rfl (fun K hK => ?_) (AllReadyH.nil))
  all_goals
   rename World => W
   first
    | (have hown : OwnL W wa.heap.size (.slice (some ⟨_, 0, none⟩) 0 0) ([] : List Pty) := own_empty _ _ E0.out _ hB0; obtain ⟨va0, V, hrun, ho, hk⟩ := run_appL hown (L1.out.gro HK.out) (by simp; omega) HK.out.size 24; refine step_run rfl _ _ 24 rfl _ _ rfl rfl hrun ?_; (try replace E1 := yy (hk.blk E1.out (own_far hown E1.out (by decide)))); (try replace O1 := yy (O1.out.kept hk (own_far2 hown O1.out (by decide)))); (try replace E2 := yy (hk.blk E2.out (own_far hown E2.out (by decide)))); (try replace O2 := yy (O2.out.kept hk (own_far2 hown O2.out (by decide)))); replace BT := yy (hk.blk BT.out (own_far hown BT.out (by decide))); replace HK : Hid (Gro wa V) := yy (Kept.trans' HK.out hk (fun j hj => .inr (hown.block hj).1)); have hH2 := hk.blk hHeld (own_far hown hHeld (by decide)); have O0 : Hid (OwnL V wa.heap.size va0 b.ps) := yy (by rw [List.nil_append] at ho; exact ho); clear hown hrun ho hk hHeld E0 hB0)
    | (have hown : OwnL W wa.heap.size (.slice (some ⟨_, 0, none⟩) 0 0) ([] : List Ofr) := own_empty _ _ E1.out _ hB1; obtain ⟨va1, V, hrun, ho, hk⟩ := run_appL hown (L2.out.gro HK.out) (by simp; omega) HK.out.size 25; refine step_run rfl _ _ 25 rfl _ _ rfl rfl hrun ?_; (try replace E0 := yy (hk.blk E0.out (own_far hown E0.out (by decide)))); (try replace O0 := yy (O0.out.kept hk (own_far2 hown O0.out (by decide)))); (try replace E2 := yy (hk.blk E2.out (own_far hown E2.out (by decide)))); (try replace O2 := yy (O2.out.kept hk (own_far2 hown O2.out (by decide)))); replace BT := yy (hk.blk BT.out (own_far hown BT.out (by decide))); replace HK : Hid (Gro wa V) := yy (Kept.trans' HK.out hk (fun j hj => .inr (hown.block hj).1)); have hH2 := hk.blk hHeld (own_far hown hHeld (by decide)); have O1 : Hid (OwnL V wa.heap.size va1 b.os) := yy (by rw [List.nil_append] at ho; exact ho); clear hown hrun ho hk hHeld E1 hB1)
    | (have hown : OwnL W wa.heap.size (.slice (some ⟨_, 0, none⟩) 0 0) ([] : List Wsh) := own_empty _ _ E2.out _ hB2; obtain ⟨va2, V, hrun, ho, hk⟩ := run_appL hown (L3.out.gro HK.out) (by simp; omega) HK.out.size 26; refine step_run rfl _ _ 26 rfl _ _ rfl rfl hrun ?_; (try replace E0 := yy (hk.blk E0.out (own_far hown E0.out (by decide)))); (try replace O0 := yy (O0.out.kept hk (own_far2 hown O0.out (by decide)))); (try replace E1 := yy (hk.blk E1.out (own_far hown E1.out (by decide)))); (try replace O1 := yy (O1.out.kept hk (own_far2 hown O1.out (by decide)))); replace BT := yy (hk.blk BT.out (own_far hown BT.out (by decide))); replace HK : Hid (Gro wa V) := yy (Kept.trans' HK.out hk (fun j hj => .inr (hown.block hj).1)); have hH2 := hk.blk hHeld (own_far hown hHeld (by decide)); have O2 : Hid (OwnL V wa.heap.size va2 b.ws) := yy (by rw [List.nil_append] at ho; exact ho); clear hown hrun ho hk hHeld E2 hB2)
    | (go_simp; first
     | (obtain ⟨V, hWn⟩ : ∃ V, V = W.alloc (Obj.cells #[] 66) := ⟨_, rfl⟩; rw [← hWn]; have hk : Gro W V := (by rw [hWn]; exact (Gro.refl _).alloc _); have E0 : Hid (V.heap[W.heap.size]? = some (.cells #[] 66 (0, 0))) := yy (by rw [hWn]; exact blk_new _ _); have hB0 : wa.heap.size ≤ W.heap.size := HK.out.size; (try replace E1 := yy (hk.blk E1.out)); (try replace O1 := yy (O1.out.gro hk)); (try replace E2 := yy (hk.blk E2.out)); (try replace O2 := yy (O2.out.gro hk)); replace BT := yy (hk.blk BT.out); replace HK := yy (HK.out.trans hk); have hH2 := hk.blk hHeld; clear hWn hk hHeld)
     | (obtain ⟨V, hWn⟩ : ∃ V, V = W.alloc (Obj.cells #[] 30) := ⟨_, rfl⟩; rw [← hWn]; have hk : Gro W V := (by rw [hWn]; exact (Gro.refl _).alloc _); have E1 : Hid (V.heap[W.heap.size]? = some (.cells #[] 30 (0, 0))) := yy (by rw [hWn]; exact blk_new _ _); have hB1 : wa.heap.size ≤ W.heap.size := HK.out.size; (try replace E0 := yy (hk.blk E0.out)); (try replace O0 := yy (O0.out.gro hk)); (try replace E2 := yy (hk.blk E2.out)); (try replace O2 := yy (O2.out.gro hk)); replace BT := yy (hk.blk BT.out); replace HK := yy (HK.out.trans hk); have hH2 := hk.blk hHeld; clear hWn hk hHeld)
     | (obtain ⟨V, hWn⟩ : ∃ V, V = W.alloc (Obj.cells #[] 32) := ⟨_, rfl⟩; rw [← hWn]; have hk : Gro W V := (by rw [hWn]; exact (Gro.refl _).alloc _); have E2 : Hid (V.heap[W.heap.size]? = some (.cells #[] 32 (0, 0))) := yy (by rw [hWn]; exact blk_new _ _); have hB2 : wa.heap.size ≤ W.heap.size := HK.out.size; (try replace E0 := yy (hk.blk E0.out)); (try replace O0 := yy (O0.out.gro hk)); (try replace E1 := yy (hk.blk E1.out)); (try replace O1 := yy (O1.out.gro hk)); replace BT := yy (hk.blk BT.out); replace HK := yy (HK.out.trans hk); have hH2 := hk.blk hHeld; clear hWn hk hHeld))
   refine hK.out _ _ hH2 (fun hHeld => ?_)
   clear hK K hH2
   try refine nx ?_
 all_goals
  rename World => W
  obtain ⟨z0, y0, hz0⟩ := O0.out.form
  subst hz0
  obtain ⟨z1, y1, hz1⟩ := O1.out.form
  subst hz1
  obtain ⟨z2, y2, hz2⟩ := O2.out.form
  subst hz2
  refine tkH 14 rfl (by intro w hSw; go_simp; try with_reducible rfl) hHeld ?_
  refine nx ?_
  have fz := blk_frozen BT.out
  have ct := blk_cell BT.out
  have f0z := fz 0
  have c0z := ct 0
  have f1z := fz 1
  have c1z := ct 1
  have f2z := fz 2
  have c2z := ct 2
  have f3z := fz 3
  have c3z := ct 3
  simp only [lPa, lPb, lPc] at c0z c1z c2z c3z
  have hlT := blk_lt BT.out
  clear fz ct
  refine wpAnyH_ready (rs := [15]) (by kernel_rfl) (by simp) ?_
  refine AllReadyH.cons (i := 15) rfl (fun K hK => ?_) AllReadyH.nil
  have B5 := set4 BT.out (.int .i64 b.round) (.slice z0 b.ps.length y0) (.slice z1 b.os.length y1) (.slice z2 b.ws.length y2)
  have K5 := kept4 (Kept.refl (· = w.heap.size + 1) W) (.inl rfl) (.int .i64 b.round) (.slice z0 b.ps.length y0) (.slice z1 b.os.length y1) (.slice z2 b.ws.length y2)
  have K6 := kept4 (K0.out.trans HK.out) (.inr (by omega : w.heap.size ≤ w.heap.size + 1)) (.int .i64 b.round) (.slice z0 b.ps.length y0) (.slice z1 b.os.length y1) (.slice z2 b.ws.length y2)
  have hH2 := K5.blk hHeld (by omega)
  have Q0 := yy ((O0.out.far K5 BT.out (by decide)).le hszw)
  have Q1 := yy ((O1.out.far K5 BT.out (by decide)).le hszw)
  have Q2 := yy ((O2.out.far K5 BT.out (by decide)).le hszw)
  have B6 := yy B5
  have K7 := yy K6
  have H2 := yy hH2
  clear B5 K5 K6 hH2
  go_simp
  refine hK.out _ _ H2.out (fun hHeld => ?_)
  clear hK K H2
  try refine nx ?_
  refine wpAnyH_done (by kernel_rfl) ?_ _
  go_wp2_with fail
  refine bodyPost_ret (results_cell_row (p := 2) (ty := 28) rfl _ _ (w.heap.size + 1) 28 _ (0, 0) _ rfl B6.out Tryz.underlying28 rfl (by kernel_rfl)) rfl ⟨_, _, _, rfl, K7.out, Q0.out, Q1.out, Q2.out⟩
end Go.Proofs.YthfagcdjbmhhcaaGreat
