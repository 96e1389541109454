/- graph.Valid: the depots, and the whole. a book that is being read: places, open offers. (*book).isOffer. (*book).isWish. the rules of a book, but the last. -/
import Derived.Test.YthfagcdjbmhhcaaGreatK04
import Derived.Test.YthfagcdjbmhhcaaGreatK01
set_option linter.unusedVariables false
set_option linter.unusedSimpArgs false
namespace Go.Proofs.YthfagcdjbmhhcaaGreat
open Go.RowKit
def depsOk (g : Gr) : Bool := decide (g.ds.length ≤ 3) && asc g.ds && g.ds.all (has g)
set_option maxHeartbeats 2000000 in
theorem deps99 {w : World} {B : Nat} {v1 v2 v3 : Value} {g : Gr} (hB : ChAt w B v1 v2 v3) (h : GAt w v1 v2 v3 g) (hfew : g.few) (ha : (g.vs.map Vtx.id).Pairwise (· < ·)) :
  Calls Tryz.prog 99 #[.pointer (some ⟨B, 0, none⟩)] w fun e w' => e = .returned (.bool (depsOk g)) ∧ Gro w w' := by
 obtain ⟨w0, hw0⟩ : ∃ w0, w0 = w.alloc (.cells #[.pointer (some ⟨B, 0, none⟩)] 126) := ⟨_, rfl⟩
 have k0 : Gro w w0 := by rw [hw0]; exact (Gro.refl _).alloc _
 have b0 : w0.heap[w.heap.size]? = some (.cells #[.pointer (some ⟨B, 0, none⟩)] 126) := by rw [hw0]; exact blk_new _ _
 obtain ⟨a, c, rfl, hl⟩ := h.ds
 have hany : g.ds.any (fun x => !has g x) = !(g.ds.all (has g)) := by rw [List.all_eq_not_any_not]; simp
 generalize h1 : asc g.ds = q1
 generalize h2 : (g.ds.all (has g)) = q2 at hany
 obtain ⟨q0, h0⟩ : ∃ q0, q0 = decide (g.ds.length ≤ 3) := ⟨_, rfl⟩
 have hr : depsOk g = (q0 && q1 && q2) := by simp only [depsOk, h0, h1, h2]
 obtain ⟨c0, c1, c2⟩ := ChAt.cells hB
 have hltB := World.block_lt_of_cell? w _ c0
 have HR := yy hr
 have B0 := yy b0
 have K0 := yy k0
 have HCh := yy (k0.blk hB)
 have HG := yy (h.gro k0)
 have HL := yy (hl.gro k0)
 have HS := yy ha
 have HA := yy hany
 have H1 := yy h1
 have few := hfew.ds
 have fewv := hfew.vs
 clear h1 h2 hr b0 k0 hB h hl hany ha hfew
 go_enter Tryz.func99, Tryz.ntmps99
 have HW := yy hw0
 clear hw0
 by_cases hd : g.ds.length ≤ 3
 ·have hq : q0 = true := by rw [h0]; exact decide_eq_true hd
  subst hq
  have hdi : (g.ds.length : Int) ≤ 3 := by omega
  clear h0
  go_wp2_with fail
  rw [← HW.out]
  clear c0 c1 c2 hltB
  obtain ⟨c0, c1, c2⟩ := ChAt.cells HCh.out
  have cc := blk_cell B0.out 0
  simp only [List.getElem?_toArray, List.getElem?_cons_zero] at cc
  refine (asc137 HL.out (by omega)).mono ?_
  rintro e w1 ⟨rfl, k1⟩
  rw [H1.out]
  have C1 := yy (k1.blk HCh.out)
  have B1 := yy (k1.blk B0.out)
  have G1 := yy (HG.out.gro k1)
  have L1 := yy (HL.out.gro k1)
  have K1 := yy (K0.out.trans k1)
  have d2 := Gro.cell k1 c2
  have dc := Gro.cell k1 cc
  have hlt1 := World.block_lt_of_cell? w1 _ dc
  have hltB1 := World.block_lt_of_cell? w1 _ d2
  clear k1 c0 c1 c2 cc HCh B0 HG HL K0 HW
  cases q1 with
  | false =>
   go_wp2
   go_ret
   exact ⟨by rw [HR.out]; rfl, K1.out⟩
  | true =>
  go_wp2_with fail
  have hb := con139 L1.out (fun x => !has g x) 140 #[.pointer (some ⟨w.heap.size, 0, none⟩)] eg140 (fun W x hW _ => clo140 (hW.blk B1.out) (hW.blk C1.out) (G1.out.vs.gro hW) fewv HS.out x)
  rw [HA.out] at hb
  refine hb.mono ?_
  rintro e w2 ⟨rfl, k2⟩
  have K2 := yy (K1.out.trans k2)
  clear k2 hb
  go_wp2
  go_ret
  exact ⟨by rw [HR.out]; cases q2 <;> rfl, K2.out⟩
 have hq : q0 = false := by rw [h0]; exact decide_eq_false hd
 subst hq
 have hdi : ¬ (g.ds.length : Int) ≤ 3 := by omega
 clear h0
 go_wp2
 go_ret
 exact ⟨by rw [HR.out]; rfl, by rw [← HW.out]; exact K0.out⟩
theorem validG_parts (g : Gr) : validG g = (asc (g.vs.map Vtx.id) && asc (g.es.map Edg.id) && !(g.vs.any fun v => !okV v) && !(g.es.any (badE g)) && depsOk g) := by
 have h1 : (g.vs.any fun v => !okV v) = !(g.vs.all okV) := by rw [List.all_eq_not_any_not]; simp
 have h2 : (g.es.any (badE g)) = !(g.es.all (fun e => okE e && has g e.src && has g e.dst)) := by
  rw [List.all_eq_not_any_not]
  simp only [Bool.not_not]
  rfl
 rw [h1, h2]
 simp only [validG, depsOk, Bool.not_not, Bool.and_assoc]
set_option maxHeartbeats 4000000 in
theorem valid41 {w : World} {v1 v2 v3 : Value} {g : Gr} (h : GAt w v1 v2 v3 g) (hfew : g.few) :
  Calls Tryz.prog 41 #[.agg #[v1, v2, v3]] w fun e w' => e = .returned (.bool (validG g)) ∧ Gro w w' := by
 obtain ⟨w0, hw0⟩ : ∃ w0, w0 = w.alloc (.cells #[v1, v2, v3] 38) := ⟨_, rfl⟩
 have k0 : Gro w w0 := by rw [hw0]; exact (Gro.refl _).alloc _
 have b0 : w0.heap[w.heap.size]? = some (.cells #[v1, v2, v3] 38) := by rw [hw0]; exact blk_new _ _
 have hr := validG_parts g
 generalize h0 : asc (g.vs.map Vtx.id) = q0 at hr
 generalize h1 : asc (g.es.map Edg.id) = q1 at hr
 generalize h2 : (g.vs.any fun v => !okV v) = q2 at hr
 generalize h3 : g.es.any (badE g) = q3 at hr
 generalize h4 : depsOk g = q4 at hr
 have HR := yy hr
 have H0 := yy h0
 have H1 := yy h1
 have H2 := yy h2
 have H3 := yy h3
 have H4 := yy h4
 have B0 := yy b0
 have K0 := yy k0
 have HG := yy (h.gro k0)
 have HW := yy hw0
 obtain ⟨⟨a1, n1, rfl, hl1⟩, ⟨a2, n2, rfl, hl2⟩, ⟨a3, n3, rfl, hl3⟩⟩ := h
 have L1 := yy (hl1.gro k0)
 have L2 := yy (hl2.gro k0)
 have fv := hfew.vs
 have fe := hfew.es
 have HF := yy hfew
 clear hr h0 h1 h2 h3 h4 b0 k0 hw0 hl1 hl2 hl3 hfew
 go_enter Tryz.func41, Tryz.ntmps41
 go_wp2_with fail
 rw [← HW.out]
 have c1 := blk_cell B0.out 1
 simp only [lPa, lPb, lPc] at c1
 have hlt := World.block_lt_of_cell? w0 _ c1
 refine (asc88 L1.out (by omega)).mono ?_
 rintro e w1 ⟨rfl, k1⟩
 rw [H0.out]
 have d1 := Gro.cell k1 c1
 have hlt1 := World.block_lt_of_cell? w1 _ d1
 have B1 := yy (k1.blk B0.out)
 have G1 := yy (HG.out.gro k1)
 have L1' := yy (L1.out.gro k1)
 have L2' := yy (L2.out.gro k1)
 have K1 := yy (K0.out.trans k1)
 clear k1 c1 hlt B0 HG L1 L2 K0 HW
 cases q0 with
 | false =>
  clear H0
  go_wp2
  go_ret
  exact ⟨by rw [HR.out]; rfl, K1.out⟩
 | true =>
 go_wp2_with fail
 refine (asc90 L2'.out (by omega)).mono ?_
 rintro e w2 ⟨rfl, k2⟩
 rw [H1.out]
 have G2 := yy (G1.out.gro k2)
 have B2 := yy (k2.blk B1.out)
 have K2 := yy (K1.out.trans k2)
 clear k2 d1 hlt1 B1 G1 L1' L2' K1
 cases q1 with
 | false =>
  go_wp2
  go_ret
  exact ⟨by rw [HR.out]; cases q2 <;> rfl, K2.out⟩
 | true =>
 have c0 := blk_cell B2.out 0
 have c1 := blk_cell B2.out 1
 have c2 := blk_cell B2.out 2
 simp only [lPa, lPb, lPc] at c0 c1 c2
 have hlt := World.block_lt_of_cell? w2 _ c1
 go_wp2_with fail
 have k3 : Gro w2 ((w2.alloc (.cells #[.slice a1 g.vs.length n1, .slice a2 g.es.length n2, .slice a3 g.ds.length n3] 128)).alloc (.cells #[.pointer (some ⟨w2.heap.size, 0, none⟩)] 126)) := ((Gro.refl _).alloc _).alloc _
 have hM : ChAt ((w2.alloc (.cells #[.slice a1 g.vs.length n1, .slice a2 g.es.length n2, .slice a3 g.ds.length n3] 128)).alloc (.cells #[.pointer (some ⟨w2.heap.size, 0, none⟩)] 126)) w2.heap.size (.slice a1 g.vs.length n1) (.slice a2 g.es.length n2) (.slice a3 g.ds.length n3) := blk_alloc (blk_new _ _) _
 have hC : ((w2.alloc (.cells #[.slice a1 g.vs.length n1, .slice a2 g.es.length n2, .slice a3 g.ds.length n3] 128)).alloc (.cells #[.pointer (some ⟨w2.heap.size, 0, none⟩)] 126)).heap[w2.heap.size + 1]? = some (.cells #[.pointer (some ⟨w2.heap.size, 0, none⟩)] 126 (0, 0)) := by
  have := blk_new (w2.alloc (.cells #[.slice a1 g.vs.length n1, .slice a2 g.es.length n2, .slice a3 g.ds.length n3] 128)) (.cells #[.pointer (some ⟨w2.heap.size, 0, none⟩)] 126)
  simpa using this
 generalize (w2.alloc (.cells #[.slice a1 g.vs.length n1, .slice a2 g.es.length n2, .slice a3 g.ds.length n3] 128)).alloc (.cells #[.pointer (some ⟨w2.heap.size, 0, none⟩)] 126) = w3 at k3 hM hC ⊢
 have hv : (g.vs.map Vtx.id).Pairwise (· < ·) := asc_iff.1 H0.out
 have G3 := yy (G2.out.gro k3)
 have K3 := yy (K2.out.trans k3)
 have C3 := yy (k3.blk B2.out)
 have M3 := yy hM
 have D3 := yy hC
 have HV := yy hv
 clear k3 hM hC hv c0 c1 c2 hlt B2 K2 G2
 generalize w2.heap.size = M at M3 D3 ⊢
 obtain ⟨a', n', hs1, hl1⟩ := G3.out.vs
 obtain ⟨rfl, rfl⟩ : a' = a1 ∧ n' = n1 := by injection hs1 with e1 e2 e3; exact ⟨e1.symm, e3.symm⟩
 have hb := con95 hl1 (fun x => !okV x) 96 #[] eg96 (fun W x _ _ => clo96 x W)
 rw [H2.out] at hb
 refine hb.mono ?_
 rintro e w4 ⟨rfl, k4⟩
 have c1 := blk_cell C3.out 1
 simp only [lPa, lPb, lPc] at c1
 have d1 := Gro.cell k4 c1
 have hlt4 := World.block_lt_of_cell? w4 _ d1
 have G4 := yy (G3.out.gro k4)
 have K4 := yy (K3.out.trans k4)
 have M4 := yy (k4.blk M3.out)
 have D4 := yy (k4.blk D3.out)
 have cD := blk_cell D4.out 0
 simp only [lPa, lPb, lPc] at cD
 have hltD := World.block_lt_of_cell? w4 _ cD
 clear k4 c1 hb hl1 hs1 M3 D3 K3 G3 C3
 cases q2 with
 | true =>
  go_wp2
  go_ret
  exact ⟨by rw [HR.out]; rfl, K4.out⟩
 | false =>
 go_wp2_with fail
 obtain ⟨a', n', hs1, hl1⟩ := G4.out.es
 obtain ⟨rfl, rfl⟩ : a' = a2 ∧ n' = n2 := by injection hs1 with e1 e2 e3; exact ⟨e1.symm, e3.symm⟩
 have hb := con98 hl1 (badE g) 92 #[.pointer (some ⟨M + 1, 0, none⟩)] eg92 (fun W x hW _ => clo92 (hW.blk D4.out) (hW.blk M4.out) (G4.out.vs.gro hW) fv HV.out x)
 rw [H3.out] at hb
 refine hb.mono ?_
 rintro e w5 ⟨rfl, k5⟩
 have dD := Gro.cell k5 cD
 have hlt5 := World.block_lt_of_cell? w5 _ dD
 have G5 := yy (G4.out.gro k5)
 have K5 := yy (K4.out.trans k5)
 have M5 := yy (k5.blk M4.out)
 clear k5 hb hl1 hs1 M4 D4 K4 G4 cD hltD d1 hlt4
 cases q3 with
 | true =>
  go_wp2
  go_ret
  exact ⟨by rw [HR.out]; rfl, K5.out⟩
 | false =>
 go_wp2_with fail
 refine (deps99 M5.out G5.out HF.out HV.out).mono ?_
 rintro e w6 ⟨rfl, k6⟩
 rw [H4.out]
 have K6 := yy (K5.out.trans k6)
 clear k6 K5
 go_wp2
 go_ret
 exact ⟨by rw [HR.out]; cases q4 <;> rfl, K6.out⟩
end Go.Proofs.YthfagcdjbmhhcaaGreat
namespace Go.Proofs.YthfagcdjbmhhcaaGreat
open Go.RowKit
attribute [local irreducible] wpQuiet
structure XAt (w : World) (X : Nat) (p o q v1 v2 v3 : Value) (g : Gr) (b : Bk) : Prop where
 blk : w.heap[X]? = some (.cells #[.int .i64 b.round, p, o, q, v1, v2, v3] 103 (0, 0))
 ps : LV w p b.ps
 os : LV w o b.os
 ws : LV w q b.ws
 gr : GAt w v1 v2 v3 g
theorem XAt.gro {w w' : World} {X : Nat} {p o q v1 v2 v3 : Value} {g : Gr} {b : Bk} (h : XAt w X p o q v1 v2 v3 g b) (k : Gro w w') : XAt w' X p o q v1 v2 v3 g b :=
 ⟨k.blk h.blk, h.ps.gro k, h.os.gro k, h.ws.gro k, h.gr.gro k⟩
theorem XAt.cells {w : World} {X : Nat} {p o q v1 v2 v3 : Value} {g : Gr} {b : Bk} (h : XAt w X p o q v1 v2 v3 g b) :
  w.cell? ⟨X, 0, none⟩ = some (.int .i64 b.round) ∧ w.cell? ⟨X, 1, none⟩ = some p ∧ w.cell? ⟨X, 2, none⟩ = some o ∧ w.cell? ⟨X, 3, none⟩ = some q ∧
  w.cell? ⟨X, 4, none⟩ = some v1 ∧ w.cell? ⟨X, 5, none⟩ = some v2 ∧ w.cell? ⟨X, 6, none⟩ = some v3 :=
 ⟨by rw [blk_cell h.blk]; rfl, by rw [blk_cell h.blk]; rfl, by rw [blk_cell h.blk]; rfl, by rw [blk_cell h.blk]; rfl, by rw [blk_cell h.blk]; rfl, by rw [blk_cell h.blk]; rfl, by rw [blk_cell h.blk]; rfl⟩
structure Bk.few (b : Bk) : Prop where
 ps : b.ps.length ≤ 1000000
 os : b.os.length ≤ 1000000
 ws : b.ws.length ≤ 1000000
theorem clo222 {W : World} {C : Nat} {id : Int} (hC : W.heap[C]? = some (.cells #[.int .i64 id] 3 (0, 0))) (x : Vtx) :
  Calls Tryz.prog 222 #[.agg #[.int .i64 x.id, .int .i64 x.side], .pointer (some ⟨C, 0, none⟩)] W fun e w' => e = .returned (.bool (x.id == id)) ∧ Gro W w' := by
 have cc := blk_cell hC 0
 simp only [List.getElem?_toArray, List.getElem?_cons_zero] at cc
 have hlt := World.block_lt_of_cell? W _ cc
 clear hC
 generalize hr : (x.id == id) = r
 have HR := yy hr
 clear hr
 go_enter Tryz.func222, Tryz.ntmps222
 go_wp2
 go_ret
 exact ⟨by rw [← HR.out]; rfl, (Gro.refl _).alloc _⟩
theorem eg222 : ∀ args w, (callFunc 222 args).run Tryz.prog w = .ok (.enter 222 args) w := enters_of Tryz.func222 (by kernel_rfl) rfl
theorem place207 {w : World} {X : Nat} {p o q v1 v2 v3 : Value} {g : Gr} {b : Bk} (h : XAt w X p o q v1 v2 v3 g b) (id : Int) :
  Calls Tryz.prog 207 #[.pointer (some ⟨X, 0, none⟩), .int .i64 id] w fun e w' => e = .returned (.bool (has g id)) ∧ Gro w w' := by
 obtain ⟨c0, c1, c2, c3, c4, c5, c6⟩ := h.cells
 clear c0 c1 c2 c3 c5 c6
 have hlt := World.block_lt_of_cell? w _ c4
 obtain ⟨a, c, rfl, hl⟩ := h.gr.vs
 have k0 : Gro w (w.alloc (.cells #[.int .i64 id] 3)) := (Gro.refl _).alloc _
 have hb := con95 (hl.gro k0) (fun v => v.id == id) 222 #[.pointer (some ⟨w.heap.size, 0, none⟩)] eg222 (fun W x hW _ => clo222 (hW.blk (blk_new _ _)) x)
 have HB := yy hb
 have K0 := yy k0
 clear hb k0 hl h
 go_enter Tryz.func207, Tryz.ntmps207
 go_wp2_with fail
 generalize hr : (g.vs.any fun v => v.id == id) = r at HB
 have HR := yy hr
 clear hr
 refine HB.out.mono ?_
 rintro e w1 ⟨rfl, k1⟩
 have K1 := yy k1
 clear k1
 go_wp2
 go_ret
 exact ⟨by rw [show has g id = r from HR.out]; rfl, K0.out.trans K1.out⟩
def opn (b : Bk) (id : Int) : Bool := b.os.any fun o => o.id == id && o.state == 1
theorem eq_of_asc {b : Bk} (ha : (b.os.map Ofr.id).Pairwise (· < ·)) {i j : Nat} (hi : i < b.os.length) (hj : j < b.os.length) (h : b.os[i].id = b.os[j].id) : i = j := by
 rcases Nat.lt_trichotomy i j with h1 | h1 | h1
 ·have := lt_of_pair ha (by simpa using hi) (by simpa using hj) h1
  simp only [List.getElem_map] at this; omega
 ·exact h1
 have := lt_of_pair ha (by simpa using hj) (by simpa using hi) h1
 simp only [List.getElem_map] at this; omega
theorem found_at {b : Bk} (ha : (b.os.map Ofr.id).Pairwise (· < ·)) {id : Int} {i : Nat} (h : IsPos (b.os.map Ofr.id) id i) (hm : id ∈ b.os.map Ofr.id) : ∃ hi : i < b.os.length, b.os[i].id = id ∧ opn b id = (b.os[i].state == 1) ∧ fnd b id = some b.os[i] := by
 obtain ⟨hi, he⟩ := (h.found ha).1 hm
 have hi' : i < b.os.length := by simpa using hi
 simp only [List.getElem_map] at he
 refine ⟨hi', he, ?_, ?_⟩
 ·rw [Bool.eq_iff_iff]
  simp only [opn, List.any_eq_true, Bool.and_eq_true, beq_iff_eq]
  constructor
  ·rintro ⟨x, hx, h1, h2⟩
   obtain ⟨j, hj, rfl⟩ := List.getElem_of_mem hx
   have := eq_of_asc ha hj hi' (by rw [h1, he])
   subst this
   exact h2
  exact fun h2 => ⟨_, List.getElem_mem hi', he, h2⟩
 rw [fnd, List.find?_eq_some_iff_getElem]
 refine ⟨by simpa using he, i, hi', rfl, fun j hj => ?_⟩
 have h3 := h.lo j (by simp; omega) hj
 simp only [List.getElem_map] at h3
 have h4 : ¬ b.os[j].id = id := by omega
 simp only [Bool.not_eq_true', beq_eq_false_iff_ne, ne_eq]
 exact h4
theorem not_found {b : Bk} {id : Int} (hm : id ∉ b.os.map Ofr.id) : opn b id = false ∧ fnd b id = none := by
 simp only [List.mem_map, not_exists, not_and] at hm
 refine ⟨?_, ?_⟩
 ·rw [opn, List.any_eq_false]
  intro x hx
  simp [hm x hx]
 rw [fnd, List.find?_eq_none]
 intro x hx
 simp [hm x hx]
set_option maxHeartbeats 2000000 in
theorem open70 {w : World} {X : Nat} {p o q v1 v2 v3 : Value} {g : Gr} {b : Bk} (h : XAt w X p o q v1 v2 v3 g b) (hfew : b.few) (ha : (b.os.map Ofr.id).Pairwise (· < ·)) (id : Int) :
  Calls Tryz.prog 70 #[.pointer (some ⟨X, 0, none⟩), .int .i64 id] w fun e w' => ∃ i : Nat, e = .returned (.tuple #[.int .i64 i, .bool (opn b id)]) ∧ IsPos (b.os.map Ofr.id) id i ∧ Gro w w' := by
 obtain ⟨c0, c1, c2, c3, c4, c5, c6⟩ := h.cells
 clear c0 c1 c3 c4 c5 c6
 have hlt := World.block_lt_of_cell? w _ c2
 obtain ⟨a, c, rfl, hl⟩ := h.os
 have HB := yy (place63 hl (by have := hfew.os; omega) id ha)
 have HL := yy hl
 have HA := yy ha
 have fo := hfew.os
 have hmix := mixed
 clear hl h ha hfew
 by_cases hm : id ∈ b.os.map Ofr.id
 ·have hd : decide (id ∈ b.os.map Ofr.id) = true := decide_eq_true hm
  rw [hd] at HB
  have HM := yy hm
  clear hd hm
  go_enter Tryz.func70, Tryz.ntmps70
  go_wp2_with fail
  refine HB.out.mono ?_
  rintro e w1 ⟨i, rfl, h1, h2⟩
  obtain ⟨hi, he, ho, _⟩ := found_at HA.out h1 HM.out
  have H1 := yy h1
  have H2 := yy h2
  have HO := yy ho
  obtain ⟨B, off, rfl, hb, hc⟩ := (HL.out.gro h2).base hi
  obtain ⟨d0, d1, d2, d3, d4, d5, d6⟩ := ocells hc hi
  have e2 := gcell (Gro.cell h2 c2)
  have e6 := gcell d6
  have hltX : X < w1.heap.size := World.block_lt_of_cell? w1 _ (Gro.cell h2 c2)
  clear h1 h2 hc d0 d1 d2 d3 d4 d5 d6 c2 hlt HB he ho
  generalize hs : b.os[i].state = s at e6
  have HS := yy hs
  clear hs
  go_wp2_with fail
  go_quiet_grown (fail)
  go_wp2
  go_ret2
  exact ⟨i, by rw [HO.out, HS.out]; rfl, H1.out, H2.out.trans (gro_of_grow _ _ _)⟩
 have hd : decide (id ∈ b.os.map Ofr.id) = false := decide_eq_false hm
 rw [hd] at HB
 have HO := yy (not_found hm).1
 clear hd hm
 go_enter Tryz.func70, Tryz.ntmps70
 go_wp2_with fail
 refine HB.out.mono ?_
 rintro e w1 ⟨i, rfl, h1, h2⟩
 have H1 := yy h1
 have H2 := yy h2
 clear h1 h2 c2 hlt HB HL
 go_wp2_with fail
 go_quiet_grown (fail)
 go_wp2
 go_ret2
 exact ⟨i, by rw [HO.out]; rfl, H1.out, H2.out.trans (gro_of_grow _ _ _)⟩
/-! ### the place as a function -/
open Classical in
noncomputable def posI (ks : List Int) (id : Int) : Nat := if h : ∃ i, IsPos ks id i then h.choose else 0
theorem IsPos.uniq {ks : List Int} {id : Int} {i j : Nat} (h : IsPos ks id i) (k : IsPos ks id j) : i = j := by
 rcases Nat.lt_trichotomy i j with h1 | h1 | h1
 ·have h2 := k.lo i (by have := k.le; omega) h1
  have h3 := h.hi i (by have := k.le; omega) (Nat.le_refl _)
  omega
 ·exact h1
 have h2 := h.lo j (by have := h.le; omega) h1
 have h3 := k.hi j (by have := h.le; omega) (Nat.le_refl _)
 omega
theorem IsPos.eq {ks : List Int} {id : Int} {i : Nat} (h : IsPos ks id i) : posI ks id = i := by
 unfold posI
 rw [dif_pos ⟨i, h⟩]
 exact IsPos.uniq (Exists.choose_spec ⟨i, h⟩) h
theorem IsPos.of {ks : List Int} {id : Int} {i : Nat} (h : IsPos ks id i) : IsPos ks id (posI ks id) := by rw [h.eq]; exact h
theorem placeF63 {w : World} {a : Option Addr} {n c : Nat} {l : List Ofr} (h : Lst w a n c l) (hfew : l.length ≤ 4611686018427387903) (id : Int) (ha : (l.map Ofr.id).Pairwise (· < ·)) :
  Calls Tryz.prog 63 #[.slice a n c, .int .i64 id, .func (.func 64) #[] #[]] w fun e w' => e = .returned (.tuple #[.int .i64 (posI (l.map Ofr.id) id), .bool (decide (id ∈ l.map Ofr.id))]) ∧ Gro w w' :=
 (place63 h hfew id ha).mono fun e w' ⟨i, h1, h2, h3⟩ => ⟨by rw [h2.eq]; exact h1, h3⟩
theorem placeF74 {w : World} {a : Option Addr} {n c : Nat} {l : List Wsh} (h : Lst w a n c l) (hfew : l.length ≤ 4611686018427387903) (id : Int) (ha : (l.map Wsh.edge).Pairwise (· < ·)) :
  Calls Tryz.prog 74 #[.slice a n c, .int .i64 id, .func (.func 75) #[] #[]] w fun e w' => e = .returned (.tuple #[.int .i64 (posI (l.map Wsh.edge) id), .bool (decide (id ∈ l.map Wsh.edge))]) ∧ Gro w w' :=
 (place74 h hfew id ha).mono fun e w' ⟨i, h1, h2, h3⟩ => ⟨by rw [h2.eq]; exact h1, h3⟩
theorem placeF125 {w : World} {a : Option Addr} {n c : Nat} {l : List Vtx} (h : Lst w a n c l) (hfew : l.length ≤ 4611686018427387903) (id : Int) (ha : (l.map Vtx.id).Pairwise (· < ·)) :
  Calls Tryz.prog 125 #[.slice a n c, .int .i64 id, .func (.func 126) #[] #[]] w fun e w' => e = .returned (.tuple #[.int .i64 (posI (l.map Vtx.id) id), .bool (decide (id ∈ l.map Vtx.id))]) ∧ Gro w w' :=
 (place125 h hfew id ha).mono fun e w' ⟨i, h1, h2, h3⟩ => ⟨by rw [h2.eq]; exact h1, h3⟩
theorem placeF128 {w : World} {a : Option Addr} {n c : Nat} {l : List Edg} (h : Lst w a n c l) (hfew : l.length ≤ 4611686018427387903) (id : Int) (ha : (l.map Edg.id).Pairwise (· < ·)) :
  Calls Tryz.prog 128 #[.slice a n c, .int .i64 id, .func (.func 129) #[] #[]] w fun e w' => e = .returned (.tuple #[.int .i64 (posI (l.map Edg.id) id), .bool (decide (id ∈ l.map Edg.id))]) ∧ Gro w w' :=
 (place128 h hfew id ha).mono fun e w' ⟨i, h1, h2, h3⟩ => ⟨by rw [h2.eq]; exact h1, h3⟩
theorem placeF206 {w : World} {a : Option Addr} {n c : Nat} {l : List Pty} (h : Lst w a n c l) (hfew : l.length ≤ 4611686018427387903) (id : Int) (ha : (l.map Pty.id).Pairwise (· < ·)) :
  Calls Tryz.prog 206 #[.slice a n c, .int .i64 id, .func (.func 154) #[] #[]] w fun e w' => e = .returned (.tuple #[.int .i64 (posI (l.map Pty.id) id), .bool (decide (id ∈ l.map Pty.id))]) ∧ Gro w w' :=
 (place206 h hfew id ha).mono fun e w' ⟨i, h1, h2, h3⟩ => ⟨by rw [h2.eq]; exact h1, h3⟩
theorem exists_pos : ∀ (ks : List Int), ks.Pairwise (· < ·) → ∀ id, ∃ i, IsPos ks id i
 | [], _, id => ⟨0, Nat.le_refl _, fun j h => by simp at h, fun j h => by simp at h⟩
 | a :: l, h, id => by
  obtain ⟨h1, h2⟩ := List.pairwise_cons.1 h
  by_cases hlt : a < id
  ·obtain ⟨i, hi⟩ := exists_pos l h2 id
   refine ⟨i + 1, by have := hi.le; simp; omega, fun j hj hji => ?_, fun j hj hij => ?_⟩
   ·cases j with
    | zero => exact hlt
    | succ j => exact hi.lo j (by simpa using hj) (by omega)
   ·cases j with
    | zero => omega
    | succ j => exact hi.hi j (by simpa using hj) (by omega)
  ·refine ⟨0, Nat.zero_le _, fun j hj hji => by omega, fun j hj hij => ?_⟩
   cases j with
   | zero => simp; omega
   | succ j =>
    have := h1 _ (List.getElem_mem (by simpa using hj : j < l.length))
    simp only [List.getElem_cons_succ]
    omega
theorem posI_is {ks : List Int} (h : ks.Pairwise (· < ·)) (id : Int) : IsPos ks id (posI ks id) := by
 obtain ⟨i, hi⟩ := exists_pos ks h id
 exact hi.of
theorem openF70 {w : World} {X : Nat} {p o q v1 v2 v3 : Value} {g : Gr} {b : Bk} (h : XAt w X p o q v1 v2 v3 g b) (hfew : b.few) (ha : (b.os.map Ofr.id).Pairwise (· < ·)) (id : Int) :
  Calls Tryz.prog 70 #[.pointer (some ⟨X, 0, none⟩), .int .i64 id] w fun e w' => e = .returned (.tuple #[.int .i64 (posI (b.os.map Ofr.id) id), .bool (opn b id)]) ∧ Gro w w' :=
 (open70 h hfew ha id).mono fun e w' ⟨i, h1, h2, h3⟩ => ⟨by rw [h2.eq]; exact h1, h3⟩
end Go.Proofs.YthfagcdjbmhhcaaGreat
namespace Go.Proofs.YthfagcdjbmhhcaaGreat
open Go.RowKit
attribute [local irreducible] wpQuiet
set_option maxHeartbeats 8000000 in
set_option maxRecDepth 100000 in
theorem isOffer158 {w : World} {X : Nat} {p o q v1 v2 v3 : Value} {g : Gr} {b : Bk} (h : XAt w X p o q v1 v2 v3 g b) (hfew : b.few) (ha : (b.ps.map Pty.id).Pairwise (· < ·)) (x : Ofr) :
  Calls Tryz.prog 158 #[.pointer (some ⟨X, 0, none⟩), .agg #[.int .i64 x.id, .int .i64 x.party, .int .i64 x.side, .int .i64 x.place, .int .i64 x.price, .int .i64 x.until_, .int .i64 x.state]] w fun e w' => e = .returned (.bool (okO g b x)) ∧ Gro w w' := by
 have hmix := mixed
 obtain ⟨w0, hw0⟩ : ∃ w0, w0 = w.alloc (.cells #[.int .i64 x.id, .int .i64 x.party, .int .i64 x.side, .int .i64 x.place, .int .i64 x.price, .int .i64 x.until_, .int .i64 x.state] 30) := ⟨_, rfl⟩
 have k0 : Gro w w0 := by rw [hw0]; exact (Gro.refl _).alloc _
 have b0 : w0.heap[w.heap.size]? = some (.cells #[.int .i64 x.id, .int .i64 x.party, .int .i64 x.side, .int .i64 x.place, .int .i64 x.price, .int .i64 x.until_, .int .i64 x.state] 30) := by rw [hw0]; exact blk_new _ _
 have hX := h.gro k0
 have hq : decide (x.party ∈ b.ps.map Pty.id) = hasP b x.party := by
  rw [Bool.eq_iff_iff]; simp [hasP]
 have hr : okO g b x = (hasP b x.party && inB x.id 0 23 && !has g x.id && has g x.place && inB x.side 1 3 && inB x.price 0 1000 && inB x.until_ 0 30 && inB x.state 1 4 && (x.state != 1 || decide (b.round ≤ x.until_))) := rfl
 have C1 : Hid (∀ W, Calls Tryz.prog 147 #[.int .i64 x.id, .int .i64 0, .int .i64 23] W fun e w' => e = .returned (.bool (inB x.id 0 23)) ∧ Gro W w') := yy fun W => (in147 _ _ _ W).mono fun e w' ⟨h1, h2⟩ => ⟨h1, by rw [h2]; exact Gro.refl _⟩
 have C2 : Hid (∀ W, Gro w0 W → Calls Tryz.prog 207 #[.pointer (some ⟨X, 0, none⟩), .int .i64 x.id] W fun e w' => e = .returned (.bool (has g x.id)) ∧ Gro W w') := yy fun W hW => place207 (hX.gro hW) _
 have C3 : Hid (∀ W, Gro w0 W → Calls Tryz.prog 207 #[.pointer (some ⟨X, 0, none⟩), .int .i64 x.place] W fun e w' => e = .returned (.bool (has g x.place)) ∧ Gro W w') := yy fun W hW => place207 (hX.gro hW) _
 have C4 : Hid (∀ W, Calls Tryz.prog 147 #[.int .i64 x.side, .int .i64 1, .int .i64 3] W fun e w' => e = .returned (.bool (inB x.side 1 3)) ∧ Gro W w') := yy fun W => (in147 _ _ _ W).mono fun e w' ⟨h1, h2⟩ => ⟨h1, by rw [h2]; exact Gro.refl _⟩
 have C5 : Hid (∀ W, Calls Tryz.prog 147 #[.int .i64 x.price, .int .i64 0, .int .i64 1000] W fun e w' => e = .returned (.bool (inB x.price 0 1000)) ∧ Gro W w') := yy fun W => (in147 _ _ _ W).mono fun e w' ⟨h1, h2⟩ => ⟨h1, by rw [h2]; exact Gro.refl _⟩
 have C6 : Hid (∀ W, Calls Tryz.prog 147 #[.int .i64 x.until_, .int .i64 0, .int .i64 30] W fun e w' => e = .returned (.bool (inB x.until_ 0 30)) ∧ Gro W w') := yy fun W => (in147 _ _ _ W).mono fun e w' ⟨h1, h2⟩ => ⟨h1, by rw [h2]; exact Gro.refl _⟩
 have C7 : Hid (∀ W, Calls Tryz.prog 147 #[.int .i64 x.state, .int .i64 1, .int .i64 4] W fun e w' => e = .returned (.bool (inB x.state 1 4)) ∧ Gro W w') := yy fun W => (in147 _ _ _ W).mono fun e w' ⟨h1, h2⟩ => ⟨h1, by rw [h2]; exact Gro.refl _⟩
 generalize h0 : hasP b x.party = q0 at hr hq
 generalize inB x.id 0 23 = q1 at hr C1
 generalize h2 : has g x.id = q2 at hr C2
 generalize h3 : has g x.place = q3 at hr C3
 generalize inB x.side 1 3 = q4 at hr C4
 generalize inB x.price 0 1000 = q5 at hr C5
 generalize inB x.until_ 0 30 = q6 at hr C6
 generalize inB x.state 1 4 = q7 at hr C7
 have fp := hfew.ps
 obtain ⟨a, n, rfl, hl⟩ := hX.ps
 have C0 : Hid (∀ W, Gro w0 W → Calls Tryz.prog 206 #[.slice a b.ps.length n, .int .i64 x.party, .func (.func 154) #[] #[]] W fun e w' => e = .returned (.tuple #[.int .i64 (posI (b.ps.map Pty.id) x.party), .bool q0]) ∧ Gro W w') := yy fun W hW => by
  rw [← hq]; exact placeF206 (hl.gro hW) (by omega) _ ha
 have HX := yy hX
 have B0 := yy b0
 have K0 := yy k0
 have HR := yy hr
 have HW := yy hw0
 clear h ha hq h0 h2 h3 hl hX b0 k0 hr hw0 hfew
 generalize posI (b.ps.map Pty.id) x.party = i0 at C0
 go_enter Tryz.func158, Tryz.ntmps158
 go_wp2_with fail
 rw [← HW.out]
 obtain ⟨c0, c1, c2, c3, c4, c5, c6⟩ := XAt.cells HX.out
 have d : ∀ k, w0.cell? ⟨w.heap.size, k, none⟩ = _ := fun k => blk_cell B0.out k
 have d0 := d 0; have d1 := d 1; have d2 := d 2; have d3 := d 3; have d4 := d 4; have d5 := d 5; have d6 := d 6
 simp only [lPa, lPb, lPc] at d0 d1 d2 d3 d4 d5 d6
 clear d c2 c3 c4 c5 c6
 have hltX := World.block_lt_of_cell? w0 _ c0
 have hltB := World.block_lt_of_cell? w0 _ d0
 have e0 := gcell c0; have e1 := gcell c1
 have f0 := gcell d0; have f1 := gcell d1; have f2 := gcell d2; have f3 := gcell d3; have f4 := gcell d4; have f5 := gcell d5; have f6 := gcell d6
 clear c0 c1 d0 d1 d2 d3 d4 d5 d6
 go_quiet_grown (refine Calls.quiet_gro (C0.out _ (gro_of_grow _ _ _)))
 have k1 := gro_of_grow w0 nq osq
 have g0 := fun n os => e0 n os
 go_wp2_with fail
 have e0' := gcell (e0 nq osq)
 have f0' := gcell (f0 nq osq); have f2' := gcell (f2 nq osq); have f3' := gcell (f3 nq osq); have f4' := gcell (f4 nq osq); have f5' := gcell (f5 nq osq); have f6' := gcell (f6 nq osq)
 clear e0 e1 f0 f1 f2 f3 f4 f5 f6 g0
 generalize Go.Sort.grow (w0.drewN nq) osq = w1 at k1 e0' f0' f2' f3' f4' f5' f6' ⊢
 have K1 := yy k1
 have KK := yy (K0.out.trans k1)
 clear k1
 refine wp_region_quiet_grown (by assumption) (by kernel_rfl) ?_
 cases q0 with
 | false =>
  repeat (quiet_step (first | (go_at_call_of 147 (Value.int IntKind.i64 x.id); exact Calls.quiet_gro (C1.out _)) | (go_at_call_of 147 (Value.int IntKind.i64 x.side); exact Calls.quiet_gro (C4.out _)) | (go_at_call_of 147 (Value.int IntKind.i64 x.price); exact Calls.quiet_gro (C5.out _)) | (go_at_call_of 147 (Value.int IntKind.i64 x.until_); exact Calls.quiet_gro (C6.out _)) | (go_at_call_of 147 (Value.int IntKind.i64 x.state); exact Calls.quiet_gro (C7.out _)) | (go_at_call_of 207 (Value.int IntKind.i64 x.id); exact Calls.quiet_gro (C2.out _ (K1.out.trans (gro_of_grow _ _ _)))) | (go_at_call_of 207 (Value.int IntKind.i64 x.place); exact Calls.quiet_gro (C3.out _ (K1.out.trans (gro_of_grow _ _ _))))))
  refine wpQuiet_nil ?_
  intro _ hw'
  obtain ⟨⟨nq, osq⟩, hw''⟩ := hw'
  subst hw''
  go_wp2
  go_ret
  exact ⟨by rw [HR.out]; rfl, KK.out.trans (gro_of_grow _ _ _)⟩
 | true =>
 iterate 5 (quiet_step (first | (go_at_call_of 147 (Value.int IntKind.i64 x.id); exact Calls.quiet_gro (C1.out _)) | (go_at_call_of 147 (Value.int IntKind.i64 x.side); exact Calls.quiet_gro (C4.out _)) | (go_at_call_of 147 (Value.int IntKind.i64 x.price); exact Calls.quiet_gro (C5.out _)) | (go_at_call_of 147 (Value.int IntKind.i64 x.until_); exact Calls.quiet_gro (C6.out _)) | (go_at_call_of 147 (Value.int IntKind.i64 x.state); exact Calls.quiet_gro (C7.out _)) | (go_at_call_of 207 (Value.int IntKind.i64 x.id); exact Calls.quiet_gro (C2.out _ (K1.out.trans (gro_of_grow _ _ _)))) | (go_at_call_of 207 (Value.int IntKind.i64 x.place); exact Calls.quiet_gro (C3.out _ (K1.out.trans (gro_of_grow _ _ _))))))
 cases q1 with
 | false =>
  repeat (quiet_step (first | (go_at_call_of 147 (Value.int IntKind.i64 x.id); exact Calls.quiet_gro (C1.out _)) | (go_at_call_of 147 (Value.int IntKind.i64 x.side); exact Calls.quiet_gro (C4.out _)) | (go_at_call_of 147 (Value.int IntKind.i64 x.price); exact Calls.quiet_gro (C5.out _)) | (go_at_call_of 147 (Value.int IntKind.i64 x.until_); exact Calls.quiet_gro (C6.out _)) | (go_at_call_of 147 (Value.int IntKind.i64 x.state); exact Calls.quiet_gro (C7.out _)) | (go_at_call_of 207 (Value.int IntKind.i64 x.id); exact Calls.quiet_gro (C2.out _ (K1.out.trans (gro_of_grow _ _ _)))) | (go_at_call_of 207 (Value.int IntKind.i64 x.place); exact Calls.quiet_gro (C3.out _ (K1.out.trans (gro_of_grow _ _ _))))))
  refine wpQuiet_nil ?_
  intro _ hw'
  obtain ⟨⟨nq, osq⟩, hw''⟩ := hw'
  subst hw''
  go_wp2
  go_ret
  exact ⟨by rw [HR.out]; rfl, KK.out.trans (gro_of_grow _ _ _)⟩
 | true =>
 iterate 6 (quiet_step (first | (go_at_call_of 147 (Value.int IntKind.i64 x.id); exact Calls.quiet_gro (C1.out _)) | (go_at_call_of 147 (Value.int IntKind.i64 x.side); exact Calls.quiet_gro (C4.out _)) | (go_at_call_of 147 (Value.int IntKind.i64 x.price); exact Calls.quiet_gro (C5.out _)) | (go_at_call_of 147 (Value.int IntKind.i64 x.until_); exact Calls.quiet_gro (C6.out _)) | (go_at_call_of 147 (Value.int IntKind.i64 x.state); exact Calls.quiet_gro (C7.out _)) | (go_at_call_of 207 (Value.int IntKind.i64 x.id); exact Calls.quiet_gro (C2.out _ (K1.out.trans (gro_of_grow _ _ _)))) | (go_at_call_of 207 (Value.int IntKind.i64 x.place); exact Calls.quiet_gro (C3.out _ (K1.out.trans (gro_of_grow _ _ _))))))
 cases q2 with
 | true =>
  repeat (quiet_step (first | (go_at_call_of 147 (Value.int IntKind.i64 x.id); exact Calls.quiet_gro (C1.out _)) | (go_at_call_of 147 (Value.int IntKind.i64 x.side); exact Calls.quiet_gro (C4.out _)) | (go_at_call_of 147 (Value.int IntKind.i64 x.price); exact Calls.quiet_gro (C5.out _)) | (go_at_call_of 147 (Value.int IntKind.i64 x.until_); exact Calls.quiet_gro (C6.out _)) | (go_at_call_of 147 (Value.int IntKind.i64 x.state); exact Calls.quiet_gro (C7.out _)) | (go_at_call_of 207 (Value.int IntKind.i64 x.id); exact Calls.quiet_gro (C2.out _ (K1.out.trans (gro_of_grow _ _ _)))) | (go_at_call_of 207 (Value.int IntKind.i64 x.place); exact Calls.quiet_gro (C3.out _ (K1.out.trans (gro_of_grow _ _ _))))))
  refine wpQuiet_nil ?_
  intro _ hw'
  obtain ⟨⟨nq, osq⟩, hw''⟩ := hw'
  subst hw''
  go_wp2
  go_ret
  exact ⟨by rw [HR.out]; rfl, KK.out.trans (gro_of_grow _ _ _)⟩
 | false =>
 iterate 7 (quiet_step (first | (go_at_call_of 147 (Value.int IntKind.i64 x.id); exact Calls.quiet_gro (C1.out _)) | (go_at_call_of 147 (Value.int IntKind.i64 x.side); exact Calls.quiet_gro (C4.out _)) | (go_at_call_of 147 (Value.int IntKind.i64 x.price); exact Calls.quiet_gro (C5.out _)) | (go_at_call_of 147 (Value.int IntKind.i64 x.until_); exact Calls.quiet_gro (C6.out _)) | (go_at_call_of 147 (Value.int IntKind.i64 x.state); exact Calls.quiet_gro (C7.out _)) | (go_at_call_of 207 (Value.int IntKind.i64 x.id); exact Calls.quiet_gro (C2.out _ (K1.out.trans (gro_of_grow _ _ _)))) | (go_at_call_of 207 (Value.int IntKind.i64 x.place); exact Calls.quiet_gro (C3.out _ (K1.out.trans (gro_of_grow _ _ _))))))
 cases q3 with
 | false =>
  repeat (quiet_step (first | (go_at_call_of 147 (Value.int IntKind.i64 x.id); exact Calls.quiet_gro (C1.out _)) | (go_at_call_of 147 (Value.int IntKind.i64 x.side); exact Calls.quiet_gro (C4.out _)) | (go_at_call_of 147 (Value.int IntKind.i64 x.price); exact Calls.quiet_gro (C5.out _)) | (go_at_call_of 147 (Value.int IntKind.i64 x.until_); exact Calls.quiet_gro (C6.out _)) | (go_at_call_of 147 (Value.int IntKind.i64 x.state); exact Calls.quiet_gro (C7.out _)) | (go_at_call_of 207 (Value.int IntKind.i64 x.id); exact Calls.quiet_gro (C2.out _ (K1.out.trans (gro_of_grow _ _ _)))) | (go_at_call_of 207 (Value.int IntKind.i64 x.place); exact Calls.quiet_gro (C3.out _ (K1.out.trans (gro_of_grow _ _ _))))))
  refine wpQuiet_nil ?_
  intro _ hw'
  obtain ⟨⟨nq, osq⟩, hw''⟩ := hw'
  subst hw''
  go_wp2
  go_ret
  exact ⟨by rw [HR.out]; rfl, KK.out.trans (gro_of_grow _ _ _)⟩
 | true =>
 iterate 5 (quiet_step (first | (go_at_call_of 147 (Value.int IntKind.i64 x.id); exact Calls.quiet_gro (C1.out _)) | (go_at_call_of 147 (Value.int IntKind.i64 x.side); exact Calls.quiet_gro (C4.out _)) | (go_at_call_of 147 (Value.int IntKind.i64 x.price); exact Calls.quiet_gro (C5.out _)) | (go_at_call_of 147 (Value.int IntKind.i64 x.until_); exact Calls.quiet_gro (C6.out _)) | (go_at_call_of 147 (Value.int IntKind.i64 x.state); exact Calls.quiet_gro (C7.out _)) | (go_at_call_of 207 (Value.int IntKind.i64 x.id); exact Calls.quiet_gro (C2.out _ (K1.out.trans (gro_of_grow _ _ _)))) | (go_at_call_of 207 (Value.int IntKind.i64 x.place); exact Calls.quiet_gro (C3.out _ (K1.out.trans (gro_of_grow _ _ _))))))
 cases q4 with
 | false =>
  repeat (quiet_step (first | (go_at_call_of 147 (Value.int IntKind.i64 x.id); exact Calls.quiet_gro (C1.out _)) | (go_at_call_of 147 (Value.int IntKind.i64 x.side); exact Calls.quiet_gro (C4.out _)) | (go_at_call_of 147 (Value.int IntKind.i64 x.price); exact Calls.quiet_gro (C5.out _)) | (go_at_call_of 147 (Value.int IntKind.i64 x.until_); exact Calls.quiet_gro (C6.out _)) | (go_at_call_of 147 (Value.int IntKind.i64 x.state); exact Calls.quiet_gro (C7.out _)) | (go_at_call_of 207 (Value.int IntKind.i64 x.id); exact Calls.quiet_gro (C2.out _ (K1.out.trans (gro_of_grow _ _ _)))) | (go_at_call_of 207 (Value.int IntKind.i64 x.place); exact Calls.quiet_gro (C3.out _ (K1.out.trans (gro_of_grow _ _ _))))))
  refine wpQuiet_nil ?_
  intro _ hw'
  obtain ⟨⟨nq, osq⟩, hw''⟩ := hw'
  subst hw''
  go_wp2
  go_ret
  exact ⟨by rw [HR.out]; rfl, KK.out.trans (gro_of_grow _ _ _)⟩
 | true =>
 iterate 5 (quiet_step (first | (go_at_call_of 147 (Value.int IntKind.i64 x.id); exact Calls.quiet_gro (C1.out _)) | (go_at_call_of 147 (Value.int IntKind.i64 x.side); exact Calls.quiet_gro (C4.out _)) | (go_at_call_of 147 (Value.int IntKind.i64 x.price); exact Calls.quiet_gro (C5.out _)) | (go_at_call_of 147 (Value.int IntKind.i64 x.until_); exact Calls.quiet_gro (C6.out _)) | (go_at_call_of 147 (Value.int IntKind.i64 x.state); exact Calls.quiet_gro (C7.out _)) | (go_at_call_of 207 (Value.int IntKind.i64 x.id); exact Calls.quiet_gro (C2.out _ (K1.out.trans (gro_of_grow _ _ _)))) | (go_at_call_of 207 (Value.int IntKind.i64 x.place); exact Calls.quiet_gro (C3.out _ (K1.out.trans (gro_of_grow _ _ _))))))
 cases q5 with
 | false =>
  repeat (quiet_step (first | (go_at_call_of 147 (Value.int IntKind.i64 x.id); exact Calls.quiet_gro (C1.out _)) | (go_at_call_of 147 (Value.int IntKind.i64 x.side); exact Calls.quiet_gro (C4.out _)) | (go_at_call_of 147 (Value.int IntKind.i64 x.price); exact Calls.quiet_gro (C5.out _)) | (go_at_call_of 147 (Value.int IntKind.i64 x.until_); exact Calls.quiet_gro (C6.out _)) | (go_at_call_of 147 (Value.int IntKind.i64 x.state); exact Calls.quiet_gro (C7.out _)) | (go_at_call_of 207 (Value.int IntKind.i64 x.id); exact Calls.quiet_gro (C2.out _ (K1.out.trans (gro_of_grow _ _ _)))) | (go_at_call_of 207 (Value.int IntKind.i64 x.place); exact Calls.quiet_gro (C3.out _ (K1.out.trans (gro_of_grow _ _ _))))))
  refine wpQuiet_nil ?_
  intro _ hw'
  obtain ⟨⟨nq, osq⟩, hw''⟩ := hw'
  subst hw''
  go_wp2
  go_ret
  exact ⟨by rw [HR.out]; rfl, KK.out.trans (gro_of_grow _ _ _)⟩
 | true =>
 iterate 5 (quiet_step (first | (go_at_call_of 147 (Value.int IntKind.i64 x.id); exact Calls.quiet_gro (C1.out _)) | (go_at_call_of 147 (Value.int IntKind.i64 x.side); exact Calls.quiet_gro (C4.out _)) | (go_at_call_of 147 (Value.int IntKind.i64 x.price); exact Calls.quiet_gro (C5.out _)) | (go_at_call_of 147 (Value.int IntKind.i64 x.until_); exact Calls.quiet_gro (C6.out _)) | (go_at_call_of 147 (Value.int IntKind.i64 x.state); exact Calls.quiet_gro (C7.out _)) | (go_at_call_of 207 (Value.int IntKind.i64 x.id); exact Calls.quiet_gro (C2.out _ (K1.out.trans (gro_of_grow _ _ _)))) | (go_at_call_of 207 (Value.int IntKind.i64 x.place); exact Calls.quiet_gro (C3.out _ (K1.out.trans (gro_of_grow _ _ _))))))
 cases q6 with
 | false =>
  repeat (quiet_step (first | (go_at_call_of 147 (Value.int IntKind.i64 x.id); exact Calls.quiet_gro (C1.out _)) | (go_at_call_of 147 (Value.int IntKind.i64 x.side); exact Calls.quiet_gro (C4.out _)) | (go_at_call_of 147 (Value.int IntKind.i64 x.price); exact Calls.quiet_gro (C5.out _)) | (go_at_call_of 147 (Value.int IntKind.i64 x.until_); exact Calls.quiet_gro (C6.out _)) | (go_at_call_of 147 (Value.int IntKind.i64 x.state); exact Calls.quiet_gro (C7.out _)) | (go_at_call_of 207 (Value.int IntKind.i64 x.id); exact Calls.quiet_gro (C2.out _ (K1.out.trans (gro_of_grow _ _ _)))) | (go_at_call_of 207 (Value.int IntKind.i64 x.place); exact Calls.quiet_gro (C3.out _ (K1.out.trans (gro_of_grow _ _ _))))))
  refine wpQuiet_nil ?_
  intro _ hw'
  obtain ⟨⟨nq, osq⟩, hw''⟩ := hw'
  subst hw''
  go_wp2
  go_ret
  exact ⟨by rw [HR.out]; rfl, KK.out.trans (gro_of_grow _ _ _)⟩
 | true =>
 iterate 5 (quiet_step (first | (go_at_call_of 147 (Value.int IntKind.i64 x.id); exact Calls.quiet_gro (C1.out _)) | (go_at_call_of 147 (Value.int IntKind.i64 x.side); exact Calls.quiet_gro (C4.out _)) | (go_at_call_of 147 (Value.int IntKind.i64 x.price); exact Calls.quiet_gro (C5.out _)) | (go_at_call_of 147 (Value.int IntKind.i64 x.until_); exact Calls.quiet_gro (C6.out _)) | (go_at_call_of 147 (Value.int IntKind.i64 x.state); exact Calls.quiet_gro (C7.out _)) | (go_at_call_of 207 (Value.int IntKind.i64 x.id); exact Calls.quiet_gro (C2.out _ (K1.out.trans (gro_of_grow _ _ _)))) | (go_at_call_of 207 (Value.int IntKind.i64 x.place); exact Calls.quiet_gro (C3.out _ (K1.out.trans (gro_of_grow _ _ _))))))
 cases q7 with
 | false =>
  repeat (quiet_step (first | (go_at_call_of 147 (Value.int IntKind.i64 x.id); exact Calls.quiet_gro (C1.out _)) | (go_at_call_of 147 (Value.int IntKind.i64 x.side); exact Calls.quiet_gro (C4.out _)) | (go_at_call_of 147 (Value.int IntKind.i64 x.price); exact Calls.quiet_gro (C5.out _)) | (go_at_call_of 147 (Value.int IntKind.i64 x.until_); exact Calls.quiet_gro (C6.out _)) | (go_at_call_of 147 (Value.int IntKind.i64 x.state); exact Calls.quiet_gro (C7.out _)) | (go_at_call_of 207 (Value.int IntKind.i64 x.id); exact Calls.quiet_gro (C2.out _ (K1.out.trans (gro_of_grow _ _ _)))) | (go_at_call_of 207 (Value.int IntKind.i64 x.place); exact Calls.quiet_gro (C3.out _ (K1.out.trans (gro_of_grow _ _ _))))))
  refine wpQuiet_nil ?_
  intro _ hw'
  obtain ⟨⟨nq, osq⟩, hw''⟩ := hw'
  subst hw''
  go_wp2
  go_ret
  exact ⟨by rw [HR.out]; rfl, KK.out.trans (gro_of_grow _ _ _)⟩
 | true =>
 by_cases hs : x.state = 1
 ·have hs' : (x.state != 1) = false := by rw [hs]; rfl
  by_cases hu : b.round ≤ x.until_
  ·have hu' : decide (b.round ≤ x.until_) = true := decide_eq_true hu
   have HS := yy hs'
   have HU := yy hu'
   clear hs' hu'
   repeat (quiet_step (first | (go_at_call_of 147 (Value.int IntKind.i64 x.id); exact Calls.quiet_gro (C1.out _)) | (go_at_call_of 147 (Value.int IntKind.i64 x.side); exact Calls.quiet_gro (C4.out _)) | (go_at_call_of 147 (Value.int IntKind.i64 x.price); exact Calls.quiet_gro (C5.out _)) | (go_at_call_of 147 (Value.int IntKind.i64 x.until_); exact Calls.quiet_gro (C6.out _)) | (go_at_call_of 147 (Value.int IntKind.i64 x.state); exact Calls.quiet_gro (C7.out _)) | (go_at_call_of 207 (Value.int IntKind.i64 x.id); exact Calls.quiet_gro (C2.out _ (K1.out.trans (gro_of_grow _ _ _)))) | (go_at_call_of 207 (Value.int IntKind.i64 x.place); exact Calls.quiet_gro (C3.out _ (K1.out.trans (gro_of_grow _ _ _))))))
   refine wpQuiet_nil ?_
   intro _ hw'
   obtain ⟨⟨nq, osq⟩, hw''⟩ := hw'
   subst hw''
   go_wp2
   go_ret
   exact ⟨by rw [HR.out]; rw [HS.out, HU.out]; rfl, KK.out.trans (gro_of_grow _ _ _)⟩
  have hu' : decide (b.round ≤ x.until_) = false := decide_eq_false hu
  have HS := yy hs'
  have HU := yy hu'
  clear hs' hu'
  repeat (quiet_step (first | (go_at_call_of 147 (Value.int IntKind.i64 x.id); exact Calls.quiet_gro (C1.out _)) | (go_at_call_of 147 (Value.int IntKind.i64 x.side); exact Calls.quiet_gro (C4.out _)) | (go_at_call_of 147 (Value.int IntKind.i64 x.price); exact Calls.quiet_gro (C5.out _)) | (go_at_call_of 147 (Value.int IntKind.i64 x.until_); exact Calls.quiet_gro (C6.out _)) | (go_at_call_of 147 (Value.int IntKind.i64 x.state); exact Calls.quiet_gro (C7.out _)) | (go_at_call_of 207 (Value.int IntKind.i64 x.id); exact Calls.quiet_gro (C2.out _ (K1.out.trans (gro_of_grow _ _ _)))) | (go_at_call_of 207 (Value.int IntKind.i64 x.place); exact Calls.quiet_gro (C3.out _ (K1.out.trans (gro_of_grow _ _ _))))))
  refine wpQuiet_nil ?_
  intro _ hw'
  obtain ⟨⟨nq, osq⟩, hw''⟩ := hw'
  subst hw''
  go_wp2
  go_ret
  exact ⟨by rw [HR.out]; rw [HS.out, HU.out]; rfl, KK.out.trans (gro_of_grow _ _ _)⟩
 have hs' : (x.state != 1) = true := by simpa using hs
 have HS := yy hs'
 clear hs'
 repeat (quiet_step (first | (go_at_call_of 147 (Value.int IntKind.i64 x.id); exact Calls.quiet_gro (C1.out _)) | (go_at_call_of 147 (Value.int IntKind.i64 x.side); exact Calls.quiet_gro (C4.out _)) | (go_at_call_of 147 (Value.int IntKind.i64 x.price); exact Calls.quiet_gro (C5.out _)) | (go_at_call_of 147 (Value.int IntKind.i64 x.until_); exact Calls.quiet_gro (C6.out _)) | (go_at_call_of 147 (Value.int IntKind.i64 x.state); exact Calls.quiet_gro (C7.out _)) | (go_at_call_of 207 (Value.int IntKind.i64 x.id); exact Calls.quiet_gro (C2.out _ (K1.out.trans (gro_of_grow _ _ _)))) | (go_at_call_of 207 (Value.int IntKind.i64 x.place); exact Calls.quiet_gro (C3.out _ (K1.out.trans (gro_of_grow _ _ _))))))
 refine wpQuiet_nil ?_
 intro _ hw'
 obtain ⟨⟨nq, osq⟩, hw''⟩ := hw'
 subst hw''
 go_wp2
 go_ret
 exact ⟨by rw [HR.out]; rw [HS.out]; rfl, KK.out.trans (gro_of_grow _ _ _)⟩
theorem eg158 : ∀ args w, (callFunc 158 args).run Tryz.prog w = .ok (.enter 158 args) w := enters_of Tryz.func158 (by kernel_rfl) rfl
end Go.Proofs.YthfagcdjbmhhcaaGreat
namespace Go.Proofs.YthfagcdjbmhhcaaGreat
open Go.RowKit
attribute [local irreducible] wpQuiet
theorem okW_closed {b : Bk} {w : Wsh} (h : opn b w.src = false ∨ opn b w.dst = false) (ha : (b.os.map Ofr.id).Pairwise (· < ·)) : okW b w = false := by
  have key : ∀ id x, opn b id = false → fnd b id = some x → x.state ≠ 1 := by
    intro id x h hx hs
    obtain ⟨hm, e⟩ := fnd_some hx
    have : opn b id = true := by
      simp only [opn, List.any_eq_true, Bool.and_eq_true, beq_iff_eq]
      exact ⟨x, hm, e, hs⟩
    rw [h] at this; cases this
  unfold okW
  split
  · rename_i x y hx hy
    rcases h with h | h
    · have := key _ _ h hx; simp [this]
    have := key _ _ h hy; simp [this]
  rfl
theorem okW_open {b : Bk} {w : Wsh} {x y : Ofr} (hx : fnd b w.src = some x) (hy : fnd b w.dst = some y) (sx : x.state = 1) (sy : y.state = 1) : okW b w = (w.src != w.dst && joinsO x y w.weight) := by
  unfold okW
  rw [hx, hy]
  simp [sx, sy]
set_option maxHeartbeats 4000000 in
theorem isWish165 {w : World} {X : Nat} {p o q v1 v2 v3 : Value} {g : Gr} {b : Bk} (h : XAt w X p o q v1 v2 v3 g b) (hfew : b.few) (ha : (b.os.map Ofr.id).Pairwise (· < ·)) (hp : ∀ o ∈ b.os, 0 ≤ o.price ∧ o.price ≤ 1000) (x : Wsh) :
    Calls Tryz.prog 165 #[.pointer (some ⟨X, 0, none⟩), .agg #[.int .i64 x.edge, .int .i64 x.src, .int .i64 x.dst, .int .i64 x.weight]] w fun e w' => e = .returned (.bool (okW b x)) ∧ Gro w w' := by
  have hmix := mixed
  obtain ⟨w0, hw0⟩ : ∃ w0, w0 = w.alloc (.cells #[.int .i64 x.edge, .int .i64 x.src, .int .i64 x.dst, .int .i64 x.weight] 32) := ⟨_, rfl⟩
  have k0 : Gro w w0 := by rw [hw0]; exact (Gro.refl _).alloc _
  have b0 : w0.heap[w.heap.size]? = some (.cells #[.int .i64 x.edge, .int .i64 x.src, .int .i64 x.dst, .int .i64 x.weight] 32) := by rw [hw0]; exact blk_new _ _
  have hX := h.gro k0
  have C1 := yy (openF70 hX hfew ha x.src)
  have B0 := yy b0
  have K0 := yy k0
  have HX := yy hX
  have HA := yy ha
  have HP := yy hp
  have HW := yy hw0
  have HF := yy hfew
  clear h k0 b0 hX ha hp hw0 hfew
  go_enter Tryz.func165, Tryz.ntmps165
  go_wp2_with fail
  rw [← HW.out]
  refine C1.out.mono ?_
  rintro e w1 ⟨rfl, k1⟩
  have K1 := yy (K0.out.trans k1)
  have X1 := yy (HX.out.gro k1)
  have B1 := yy (k1.blk B0.out)
  have C2 := yy (openF70 X1.out HF.out HA.out x.dst)
  have d2 := blk_cell B1.out 2
  simp only [lPa, lPb, lPc] at d2
  have hlt := World.block_lt_of_cell? w1 _ d2
  clear k1 C1 B0 K0 HX HW
  cases h1 : opn b x.src with
  | false =>
    have HR := yy (okW_closed (w := x) (.inl h1) HA.out)
    clear h1
    go_wp2_with fail
    refine C2.out.mono ?_
    rintro e w2 ⟨rfl, k2⟩
    have K2 := yy (K1.out.trans k2)
    clear k2
    go_wp2
    go_ret
    exact ⟨by rw [HR.out]; rfl, K2.out⟩
  | true =>
  have H1 := yy h1
  clear h1
  go_wp2_with fail
  refine C2.out.mono ?_
  rintro e w2 ⟨rfl, k2⟩
  have K2 := yy (K1.out.trans k2)
  have X2 := yy (X1.out.gro k2)
  have B2 := yy (k2.blk B1.out)
  clear k2 K1 X1 B1 d2 hlt C2
  cases h2 : opn b x.dst with
  | false =>
    have HR := yy (okW_closed (w := x) (.inr h2) HA.out)
    clear h2
    go_wp2
    go_ret
    exact ⟨by rw [HR.out]; rfl, K2.out⟩
  | true =>
  have hm : ∀ id, opn b id = true → id ∈ b.os.map Ofr.id := by
    intro id hid
    simp only [opn, List.any_eq_true, Bool.and_eq_true, beq_iff_eq] at hid
    obtain ⟨y, hy, e, _⟩ := hid
    exact List.mem_map.2 ⟨y, hy, e⟩
  obtain ⟨hi, ei, oi, fi⟩ := found_at HA.out (posI_is HA.out x.src) (hm _ H1.out)
  obtain ⟨hk, ek, ok, fk⟩ := found_at HA.out (posI_is HA.out x.dst) (hm _ h2)
  generalize posI (b.os.map Ofr.id) x.src = i at hi ei oi fi ⊢
  generalize posI (b.os.map Ofr.id) x.dst = k at hk ek ok fk ⊢
  rw [H1.out] at oi
  rw [h2] at ok
  have hs := okW_open fi fk (by simpa using oi.symm) (by simpa using ok.symm)
  clear hm h2 oi ok fi fk H1
  by_cases hik : i = k
  · have hr : okW b x = false := by
      rw [hs]
      subst hik
      have : x.src = x.dst := by rw [← ei, ← ek]
      simp [this]
    have HR := yy hr
    clear hs ei ek hr
    subst hik
    go_wp2
    go_ret
    exact ⟨by rw [HR.out]; rfl, K2.out⟩
  have hne : (x.src != x.dst) = true := by
    rw [bne_iff_ne]
    intro e
    exact hik (eq_of_asc HA.out hi hk (by rw [ei, ek, e]))
  rw [hne, Bool.true_and] at hs
  have bi := HP.out _ (List.getElem_mem hi)
  have bk := HP.out _ (List.getElem_mem hk)
  obtain ⟨c0, c1, c2, c3, c4, c5, c6⟩ := X2.out.cells
  obtain ⟨a, c, rfl, hl⟩ := X2.out.os
  obtain ⟨B, off, rfl, hb, hc⟩ := hl.base hi
  have hxc := ocells hc hi
  have hyc := ocells hc hk
  have hltX := World.block_lt_of_cell? w2 _ c2
  generalize hxx : b.os[i] = xo at hs bi hxc
  generalize hyy : b.os[k] = yo at hs bk hyc
  have hikI : ¬ (i : Int) = (k : Int) := by omega
  have HS := yy hs
  have BI := yy bi
  have BK := yy bk
  clear hs ei ek hne bi bk c0 c1 c3 c4 c5 c6 hl hc hxx hyy hik
  go_wp2_with fail
  have hS0 : w2.drew.cell? ⟨X, 2, none⟩ = some (.slice (some ⟨B, off, none⟩) b.os.length c) ∧
    (w2.drew.cell? ⟨B, off + i * 7, none⟩ = some (.int .i64 xo.id) ∧ w2.drew.cell? ⟨B, off + i * 7 + 1, none⟩ = some (.int .i64 xo.party) ∧ w2.drew.cell? ⟨B, off + i * 7 + 2, none⟩ = some (.int .i64 xo.side) ∧
     w2.drew.cell? ⟨B, off + i * 7 + 3, none⟩ = some (.int .i64 xo.place) ∧ w2.drew.cell? ⟨B, off + i * 7 + 4, none⟩ = some (.int .i64 xo.price) ∧ w2.drew.cell? ⟨B, off + i * 7 + 5, none⟩ = some (.int .i64 xo.until_) ∧ w2.drew.cell? ⟨B, off + i * 7 + 6, none⟩ = some (.int .i64 xo.state)) ∧
    (w2.drew.cell? ⟨B, off + k * 7, none⟩ = some (.int .i64 yo.id) ∧ w2.drew.cell? ⟨B, off + k * 7 + 1, none⟩ = some (.int .i64 yo.party) ∧ w2.drew.cell? ⟨B, off + k * 7 + 2, none⟩ = some (.int .i64 yo.side) ∧
     w2.drew.cell? ⟨B, off + k * 7 + 3, none⟩ = some (.int .i64 yo.place) ∧ w2.drew.cell? ⟨B, off + k * 7 + 4, none⟩ = some (.int .i64 yo.price) ∧ w2.drew.cell? ⟨B, off + k * 7 + 5, none⟩ = some (.int .i64 yo.until_) ∧ w2.drew.cell? ⟨B, off + k * 7 + 6, none⟩ = some (.int .i64 yo.state)) := ⟨c2, hxc, hyc⟩
  go_region_held3 (fun w' => w'.cell? ⟨X, 2, none⟩ = some (.slice (some ⟨B, off, none⟩) b.os.length c) ∧
    (w'.cell? ⟨B, off + i * 7, none⟩ = some (.int .i64 xo.id) ∧ w'.cell? ⟨B, off + i * 7 + 1, none⟩ = some (.int .i64 xo.party) ∧ w'.cell? ⟨B, off + i * 7 + 2, none⟩ = some (.int .i64 xo.side) ∧
     w'.cell? ⟨B, off + i * 7 + 3, none⟩ = some (.int .i64 xo.place) ∧ w'.cell? ⟨B, off + i * 7 + 4, none⟩ = some (.int .i64 xo.price) ∧ w'.cell? ⟨B, off + i * 7 + 5, none⟩ = some (.int .i64 xo.until_) ∧ w'.cell? ⟨B, off + i * 7 + 6, none⟩ = some (.int .i64 xo.state)) ∧
    (w'.cell? ⟨B, off + k * 7, none⟩ = some (.int .i64 yo.id) ∧ w'.cell? ⟨B, off + k * 7 + 1, none⟩ = some (.int .i64 yo.party) ∧ w'.cell? ⟨B, off + k * 7 + 2, none⟩ = some (.int .i64 yo.side) ∧
     w'.cell? ⟨B, off + k * 7 + 3, none⟩ = some (.int .i64 yo.place) ∧ w'.cell? ⟨B, off + k * 7 + 4, none⟩ = some (.int .i64 yo.price) ∧ w'.cell? ⟨B, off + k * 7 + 5, none⟩ = some (.int .i64 yo.until_) ∧ w'.cell? ⟨B, off + k * 7 + 6, none⟩ = some (.int .i64 yo.state)))
    (first | with_reducible exact hS0 | (go_keep)) (fail)
  all_goals
    have d3 := blk_cell B2.out 3
    simp only [lPa, lPb, lPc] at d3
    have hlt3 := World.block_lt_of_cell? w2 _ d3
    have bi := BI.out
    have bk := BK.out
    clear hS0 hxc hyc
    by_cases s1 : xo.side = 1
    · by_cases s2 : yo.side = 2
      · by_cases s3 : yo.price ≤ xo.price
        · have hr : okW b x = (x.weight == xo.price - yo.price) := by rw [HS.out]; simp [joinsO, s1, s2, s3]
          have HR := yy hr
          clear hr
          go_wp2
          go_ret
          exact ⟨by rw [HR.out]; rfl, K2.out.trans ((((Gro.refl _).alloc _).alloc _).drw ⟨rfl, rfl, rfl, rfl, Nat.le_succ _⟩)⟩
        · have hr : okW b x = false := by rw [HS.out]; simp [joinsO, s1, s2, s3]
          have HR := yy hr
          clear hr
          go_wp2
          go_ret
          exact ⟨by rw [HR.out]; rfl, K2.out.trans ((((Gro.refl _).alloc _).alloc _).drw ⟨rfl, rfl, rfl, rfl, Nat.le_succ _⟩)⟩
      · have hr : okW b x = false := by rw [HS.out]; simp [joinsO, s1, s2]
        have HR := yy hr
        clear hr
        go_wp2
        go_ret
        exact ⟨by rw [HR.out]; rfl, K2.out.trans ((((Gro.refl _).alloc _).alloc _).drw ⟨rfl, rfl, rfl, rfl, Nat.le_succ _⟩)⟩
    · by_cases s2 : xo.side = 3
      · by_cases s3 : yo.side = 3
        · have hr : okW b x = inB x.weight 0 1000 := by rw [HS.out]; simp [joinsO, s1, s2, s3]
          have HR := yy hr
          clear hr
          go_wp2_with (go_at_call 147; refine (in147 _ _ _ _).mono ?_; rintro e w' ⟨rfl, rfl⟩)
          go_ret
          exact ⟨by rw [HR.out]; rfl, K2.out.trans ((((Gro.refl _).alloc _).alloc _).drw ⟨rfl, rfl, rfl, rfl, Nat.le_succ _⟩)⟩
        · have hr : okW b x = false := by rw [HS.out]; simp [joinsO, s1, s2, s3]
          have HR := yy hr
          clear hr
          go_wp2
          go_ret
          exact ⟨by rw [HR.out]; rfl, K2.out.trans ((((Gro.refl _).alloc _).alloc _).drw ⟨rfl, rfl, rfl, rfl, Nat.le_succ _⟩)⟩
      · have hr : okW b x = false := by rw [HS.out]; simp [joinsO, s1, s2]
        have HR := yy hr
        clear hr
        go_wp2
        go_ret
        exact ⟨by rw [HR.out]; rfl, K2.out.trans ((((Gro.refl _).alloc _).alloc _).drw ⟨rfl, rfl, rfl, rfl, Nat.le_succ _⟩)⟩
theorem eg165 : ∀ args w, (callFunc 165 args).run Tryz.prog w = .ok (.enter 165 args) w := enters_of Tryz.func165 (by kernel_rfl) rfl
end Go.Proofs.YthfagcdjbmhhcaaGreat
namespace Go.Proofs.YthfagcdjbmhhcaaGreat
open Go.RowKit
attribute [local irreducible] wpQuiet
theorem box_cell {w : World} {C : Nat} {v : Value} {t : TypeId} (h : w.heap[C]? = some (.cells #[v] t (0, 0))) : w.cell? ⟨C, 0, none⟩ = some v := by rw [blk_cell h]; rfl
theorem clo145 (x : Vtx) (w : World) : Calls Tryz.prog 145 #[.agg #[.int .i64 x.id, .int .i64 x.side]] w fun e w' => e = .returned (.bool (x.side == 0)) ∧ Gro w w' := by
 generalize hr : (x.side == 0) = r
 have HR := yy hr
 clear hr
 go_enter Tryz.func145, Tryz.ntmps145
 go_wp2
 go_ret
 exact ⟨by rw [← HR.out]; rfl, (Gro.refl _).alloc _⟩
theorem eg145 : ∀ args w, (callFunc 145 args).run Tryz.prog w = .ok (.enter 145 args) w := enters_of Tryz.func145 (by kernel_rfl) rfl
theorem clo146 (x : Pty) (w : World) : Calls Tryz.prog 146 #[.agg #[.int .i64 x.id, .int .i64 x.budget]] w fun e w' => e = .returned (.bool (okP x)) ∧ Gro w w' := by
 cases h1 : inB x.id 0 9 with
 | false =>
  have hr : okP x = false := by simp [okP, h1]
  have HR := yy hr
  clear hr
  go_enter Tryz.func146, Tryz.ntmps146
  go_wp2_with (go_at_call 147; refine (in147 _ _ _ _).mono ?_; rintro e w' ⟨rfl, rfl⟩)
  go_ret
  exact ⟨by rw [HR.out]; rfl, (Gro.refl _).alloc _⟩
 | true =>
 have hr : okP x = inB x.budget 0 10000 := by simp [okP, h1]
 generalize inB x.budget 0 10000 = r at hr
 have h2 : Hid (∀ W, Calls Tryz.prog 147 #[.int .i64 x.budget, .int .i64 0, .int .i64 10000] W fun e w' => e = .returned (.bool (okP x)) ∧ W = w') := yy fun W => by
  have := in147 x.budget 0 10000 W
  rwa [show inB x.budget 0 10000 = okP x by simp [okP, h1]] at this
 generalize okP x = y at h2
 have H1 := yy (show ∀ W, Calls Tryz.prog 147 #[.int .i64 x.id, .int .i64 0, .int .i64 9] W fun e w' => e = .returned (.bool true) ∧ W = w' from fun W => by
  have := in147 x.id 0 9 W
  rwa [h1] at this)
 clear hr h1
 go_enter Tryz.func146, Tryz.ntmps146
 go_wp2_with fail
 refine (H1.out _).mono ?_
 rintro e w' ⟨rfl, rfl⟩
 go_wp2_with fail
 refine (h2.out _).mono ?_
 rintro e w' ⟨rfl, rfl⟩
 go_wp2
 go_ret
 exact ⟨rfl, (Gro.refl _).alloc _⟩
theorem eg146 : ∀ args w, (callFunc 146 args).run Tryz.prog w = .ok (.enter 146 args) w := enters_of Tryz.func146 (by kernel_rfl) rfl
/-- is the wish's edge a new one -/
theorem clo148 {w : World} {X C : Nat} {p o q v1 v2 v3 : Value} {g : Gr} {b : Bk} (hX : XAt w X p o q v1 v2 v3 g b) (hC : w.heap[C]? = some (.cells #[.pointer (some ⟨X, 0, none⟩)] 89 (0, 0))) (hfew : g.few) (ha : (g.es.map Edg.id).Pairwise (· < ·)) (x : Wsh) :
  Calls Tryz.prog 148 #[.agg #[.int .i64 x.edge, .int .i64 x.src, .int .i64 x.dst, .int .i64 x.weight], .pointer (some ⟨C, 0, none⟩)] w fun e w' => e = .returned (.bool (newE g x)) ∧ Gro w w' := by
 have hmix := mixed
 obtain ⟨w0, hw0⟩ : ∃ w0, w0 = w.alloc (.cells #[.int .i64 x.edge, .int .i64 x.src, .int .i64 x.dst, .int .i64 x.weight] 32) := ⟨_, rfl⟩
 have k0 : Gro w w0 := by rw [hw0]; exact (Gro.refl _).alloc _
 have b0 : w0.heap[w.heap.size]? = some (.cells #[.int .i64 x.edge, .int .i64 x.src, .int .i64 x.dst, .int .i64 x.weight] 32) := by rw [hw0]; exact blk_new _ _
 have hX' := hX.gro k0
 obtain ⟨a, n, rfl, hl⟩ := hX'.gr.es
 have C0 : Hid (∀ W, Gro w0 W → Calls Tryz.prog 128 #[.slice a g.es.length n, .int .i64 x.edge, .func (.func 129) #[] #[]] W fun e w' => e = .returned (.tuple #[.int .i64 (posI (g.es.map Edg.id) x.edge), .bool (hasE g x.edge)]) ∧ Gro W w') := yy fun W hW => by
  rw [← mem_hasE]; exact placeF128 (hl.gro hW) (by have := hfew.es; omega) _ ha
 have hr : newE g x = (inB x.edge 0 39 && !hasE g x.edge) := rfl
 have C1 : Hid (∀ W, Calls Tryz.prog 147 #[.int .i64 x.edge, .int .i64 0, .int .i64 39] W fun e w' => e = .returned (.bool (inB x.edge 0 39)) ∧ W = w') := yy fun W => in147 _ _ _ W
 generalize hasE g x.edge = q1 at hr C0
 generalize inB x.edge 0 39 = q0 at hr C1
 generalize posI (g.es.map Edg.id) x.edge = i at C0
 have HR := yy hr
 have K0 := yy k0
 have HW := yy hw0
 obtain ⟨c0, c1, c2, c3, c4, c5, c6⟩ := hX'.cells
 have d0 : w0.cell? ⟨w.heap.size, 0, none⟩ = some (.int .i64 x.edge) := by rw [blk_cell b0]; rfl
 have cc := box_cell (k0.blk hC)
 have hltX := World.block_lt_of_cell? w0 _ c5
 have hltB := World.block_lt_of_cell? w0 _ d0
 have hltC := World.block_lt_of_cell? w0 _ cc
 have e5 := gcell c5; have f0 := gcell d0; have ec := gcell cc
 clear hX hX' hC k0 b0 hl hw0 hr c0 c1 c2 c3 c4 c5 c6 d0 cc ha hfew
 go_enter Tryz.func148, Tryz.ntmps148
 go_wp2_with fail
 rw [← HW.out]
 go_quiet_grown (first | (go_at_call 128; exact Calls.quiet_gro (C0.out _ (gro_of_grow _ _ _))))
 have f0' := f0 nq osq
 have k1 := K0.out.trans (gro_of_grow w0 nq osq)
 have hltB' := World.block_lt_of_cell? _ _ f0'
 generalize Go.Sort.grow (w0.drewN nq) osq = w1 at k1 f0' hltB' ⊢
 have K1 := yy k1
 clear k1 e5 f0 ec C0 K0 HW hltX hltB hltC
 go_wp2_with fail
 refine (C1.out _).mono ?_
 rintro e w2 ⟨rfl, rfl⟩
 cases q0 with
 | false =>
  go_wp2
  go_ret
  exact ⟨by rw [HR.out]; rfl, K1.out⟩
 | true =>
 go_wp2
 go_ret
 exact ⟨by rw [HR.out]; cases q1 <;> rfl, K1.out⟩
theorem eg148 : ∀ args w, (callFunc 148 args).run Tryz.prog w = .ok (.enter 148 args) w := enters_of Tryz.func148 (by kernel_rfl) rfl
def r1 (g : Gr) (b : Bk) : Bool := validG g && g.vs.all (fun v => v.side == 0) && inB b.round 0 30
def r2 (b : Bk) : Bool := b.ps.all okP && asc (b.ps.map Pty.id)
def r3 (g : Gr) (b : Bk) : Bool := asc (b.os.map Ofr.id) && b.os.all (okO g b)
def r4 (b : Bk) : Bool := b.ps.all fun p => decide (spent b p.id ≤ p.budget)
def r5 (g : Gr) (b : Bk) : Bool := asc (b.ws.map Wsh.edge) && b.ws.all (newE g) && b.ws.all (okW b)
set_option maxHeartbeats 4000000 in
theorem rule149 {w : World} {X C D : Nat} {p o q v1 v2 v3 : Value} {g : Gr} {b : Bk} (hX : XAt w X p o q v1 v2 v3 g b) (hC : w.heap[C]? = some (.cells #[.pointer (some ⟨X, 0, none⟩)] 89 (0, 0))) (hD : w.heap[D]? = some (.cells #[.func (.func 145) #[] #[]] 132 (0, 0))) (hfew : g.few) :
  Calls Tryz.prog 149 #[.pointer (some ⟨C, 0, none⟩), .pointer (some ⟨D, 0, none⟩)] w fun e w' => e = .returned (.bool (r1 g b)) ∧ Gro w w' := by
 have hmix := mixed
 obtain ⟨c0, c1, c2, c3, c4, c5, c6⟩ := hX.cells
 have cc := box_cell hC
 have cd := box_cell hD
 have hltX := World.block_lt_of_cell? w _ c5
 have hltC := World.block_lt_of_cell? w _ cc
 have hltD := World.block_lt_of_cell? w _ cd
 have C1 : Hid (∀ W, Gro w W → Calls Tryz.prog 41 #[.agg #[v1, v2, v3]] W fun e w' => e = .returned (.bool (validG g)) ∧ Gro W w') := yy fun W hW => valid41 (hX.gr.gro hW) hfew
 obtain ⟨a, n, rfl, hl⟩ := hX.gr.vs
 have C2 : Hid (∀ W, Gro w W → Calls Tryz.prog 150 #[.slice a g.vs.length n, .func (.func 145) #[] #[]] W fun e w' => e = .returned (.bool (g.vs.all fun v => v.side == 0)) ∧ Gro W w') := yy fun W hW => all150 (hl.gro hW) _ 145 #[] #[] eg145 (fun W' x _ _ => clo145 x W')
 have C3 : Hid (∀ W, Calls Tryz.prog 147 #[.int .i64 b.round, .int .i64 0, .int .i64 30] W fun e w' => e = .returned (.bool (inB b.round 0 30)) ∧ Gro W w') := yy fun W => (in147 _ _ _ W).mono fun e w' ⟨h1, h2⟩ => ⟨h1, by rw [h2]; exact Gro.refl _⟩
 have hr : r1 g b = (validG g && (g.vs.all fun v => v.side == 0) && inB b.round 0 30) := rfl
 generalize validG g = q1 at hr C1
 generalize (g.vs.all fun v => v.side == 0) = q2 at hr C2
 generalize inB b.round 0 30 = q3 at hr C3
 have HR := yy hr
 have e0 := gcell c0; have e4 := gcell c4; have e5 := gcell c5; have e6 := gcell c6; have ec := gcell cc; have ed := gcell cd
 clear hX hC hD hl hr c0 c1 c2 c3 c4 c5 c6 cc cd hfew
 go_enter Tryz.func149, Tryz.ntmps149
 go_wp2_with fail
 refine wp_region_quiet_grown (by assumption) (by kernel_rfl) ?_
 iterate 5 (quiet_step (first | (go_at_call 41; exact Calls.quiet_gro (C1.out _ (gro_of_grow _ _ _))) | (go_at_call 150; exact Calls.quiet_gro (C2.out _ (gro_of_grow _ _ _))) | (go_at_call 147; exact Calls.quiet_gro (C3.out _))))
 cases q1 with
 | false =>
  repeat (quiet_step (first | (go_at_call 41; exact Calls.quiet_gro (C1.out _ (gro_of_grow _ _ _))) | (go_at_call 150; exact Calls.quiet_gro (C2.out _ (gro_of_grow _ _ _))) | (go_at_call 147; exact Calls.quiet_gro (C3.out _))))
  refine wpQuiet_nil ?_
  intro _ hw'
  obtain ⟨⟨nq, osq⟩, hw''⟩ := hw'
  subst hw''
  go_wp2
  go_ret
  exact ⟨by rw [HR.out]; rfl, gro_of_grow _ _ _⟩
 | true =>
 iterate 8 (quiet_step (first | (go_at_call 41; exact Calls.quiet_gro (C1.out _ (gro_of_grow _ _ _))) | (go_at_call 150; exact Calls.quiet_gro (C2.out _ (gro_of_grow _ _ _))) | (go_at_call 147; exact Calls.quiet_gro (C3.out _))))
 cases q2 with
 | false =>
  repeat (quiet_step (first | (go_at_call 41; exact Calls.quiet_gro (C1.out _ (gro_of_grow _ _ _))) | (go_at_call 150; exact Calls.quiet_gro (C2.out _ (gro_of_grow _ _ _))) | (go_at_call 147; exact Calls.quiet_gro (C3.out _))))
  refine wpQuiet_nil ?_
  intro _ hw'
  obtain ⟨⟨nq, osq⟩, hw''⟩ := hw'
  subst hw''
  go_wp2
  go_ret
  exact ⟨by rw [HR.out]; rfl, gro_of_grow _ _ _⟩
 | true =>
 iterate 8 (quiet_step (first | (go_at_call 41; exact Calls.quiet_gro (C1.out _ (gro_of_grow _ _ _))) | (go_at_call 150; exact Calls.quiet_gro (C2.out _ (gro_of_grow _ _ _))) | (go_at_call 147; exact Calls.quiet_gro (C3.out _))))
 cases q3 with
 | false =>
  repeat (quiet_step (first | (go_at_call 41; exact Calls.quiet_gro (C1.out _ (gro_of_grow _ _ _))) | (go_at_call 150; exact Calls.quiet_gro (C2.out _ (gro_of_grow _ _ _))) | (go_at_call 147; exact Calls.quiet_gro (C3.out _))))
  refine wpQuiet_nil ?_
  intro _ hw'
  obtain ⟨⟨nq, osq⟩, hw''⟩ := hw'
  subst hw''
  go_wp2
  go_ret
  exact ⟨by rw [HR.out]; rfl, gro_of_grow _ _ _⟩
 | true =>
 repeat (quiet_step (first | (go_at_call 41; exact Calls.quiet_gro (C1.out _ (gro_of_grow _ _ _))) | (go_at_call 150; exact Calls.quiet_gro (C2.out _ (gro_of_grow _ _ _))) | (go_at_call 147; exact Calls.quiet_gro (C3.out _))))
 refine wpQuiet_nil ?_
 intro _ hw'
 obtain ⟨⟨nq, osq⟩, hw''⟩ := hw'
 subst hw''
 go_wp2
 go_ret
 exact ⟨by rw [HR.out]; rfl, gro_of_grow _ _ _⟩
set_option maxHeartbeats 4000000 in
theorem rule151 {w : World} {X C D : Nat} {p o q v1 v2 v3 : Value} {g : Gr} {b : Bk} (hX : XAt w X p o q v1 v2 v3 g b) (hC : w.heap[C]? = some (.cells #[.pointer (some ⟨X, 0, none⟩)] 89 (0, 0))) (hD : w.heap[D]? = some (.cells #[.func (.func 146) #[] #[]] 168 (0, 0))) (hfew : b.few) :
  Calls Tryz.prog 151 #[.pointer (some ⟨C, 0, none⟩), .pointer (some ⟨D, 0, none⟩)] w fun e w' => e = .returned (.bool (r2 b)) ∧ Gro w w' := by
 have hmix := mixed
 obtain ⟨c0, c1, c2, c3, c4, c5, c6⟩ := hX.cells
 have cc := box_cell hC
 have cd := box_cell hD
 have hltX := World.block_lt_of_cell? w _ c1
 have hltC := World.block_lt_of_cell? w _ cc
 have hltD := World.block_lt_of_cell? w _ cd
 obtain ⟨a, n, rfl, hl⟩ := hX.ps
 have C1 : Hid (∀ W, Gro w W → Calls Tryz.prog 152 #[.slice a b.ps.length n, .func (.func 146) #[] #[]] W fun e w' => e = .returned (.bool (b.ps.all okP)) ∧ Gro W w') := yy fun W hW => all152 (hl.gro hW) _ 146 #[] #[] eg146 (fun W' x _ _ => clo146 x W')
 have C2 : Hid (∀ W, Gro w W → Calls Tryz.prog 153 #[.slice a b.ps.length n, .func (.func 154) #[] #[]] W fun e w' => e = .returned (.bool (asc (b.ps.map Pty.id))) ∧ Gro W w') := yy fun W hW => asc153 (hl.gro hW) (by have := hfew.ps; omega)
 have hr : r2 b = (b.ps.all okP && asc (b.ps.map Pty.id)) := rfl
 generalize b.ps.all okP = q1 at hr C1
 generalize asc (b.ps.map Pty.id) = q2 at hr C2
 have HR := yy hr
 have e1 := gcell c1; have ec := gcell cc; have ed := gcell cd
 clear hX hC hD hl hr c0 c1 c2 c3 c4 c5 c6 cc cd hfew
 go_enter Tryz.func151, Tryz.ntmps151
 go_wp2_with fail
 refine wp_region_quiet_grown (by assumption) (by kernel_rfl) ?_
 iterate 7 (quiet_step (first | (go_at_call 152; exact Calls.quiet_gro (C1.out _ (gro_of_grow _ _ _))) | (go_at_call 153; exact Calls.quiet_gro (C2.out _ (gro_of_grow _ _ _)))))
 cases q1 with
 | false =>
  repeat (quiet_step (first | (go_at_call 152; exact Calls.quiet_gro (C1.out _ (gro_of_grow _ _ _))) | (go_at_call 153; exact Calls.quiet_gro (C2.out _ (gro_of_grow _ _ _)))))
  refine wpQuiet_nil ?_
  intro _ hw'
  obtain ⟨⟨nq, osq⟩, hw''⟩ := hw'
  subst hw''
  go_wp2
  go_ret
  exact ⟨by rw [HR.out]; rfl, gro_of_grow _ _ _⟩
 | true =>
 iterate 7 (quiet_step (first | (go_at_call 152; exact Calls.quiet_gro (C1.out _ (gro_of_grow _ _ _))) | (go_at_call 153; exact Calls.quiet_gro (C2.out _ (gro_of_grow _ _ _)))))
 cases q2 with
 | false =>
  repeat (quiet_step (first | (go_at_call 152; exact Calls.quiet_gro (C1.out _ (gro_of_grow _ _ _))) | (go_at_call 153; exact Calls.quiet_gro (C2.out _ (gro_of_grow _ _ _)))))
  refine wpQuiet_nil ?_
  intro _ hw'
  obtain ⟨⟨nq, osq⟩, hw''⟩ := hw'
  subst hw''
  go_wp2
  go_ret
  exact ⟨by rw [HR.out]; rfl, gro_of_grow _ _ _⟩
 | true =>
 repeat (quiet_step (first | (go_at_call 152; exact Calls.quiet_gro (C1.out _ (gro_of_grow _ _ _))) | (go_at_call 153; exact Calls.quiet_gro (C2.out _ (gro_of_grow _ _ _)))))
 refine wpQuiet_nil ?_
 intro _ hw'
 obtain ⟨⟨nq, osq⟩, hw''⟩ := hw'
 subst hw''
 go_wp2
 go_ret
 exact ⟨by rw [HR.out]; rfl, gro_of_grow _ _ _⟩
set_option maxHeartbeats 4000000 in
theorem rule155 {w : World} {X C : Nat} {p o q v1 v2 v3 : Value} {g : Gr} {b : Bk} (hX : XAt w X p o q v1 v2 v3 g b) (hC : w.heap[C]? = some (.cells #[.pointer (some ⟨X, 0, none⟩)] 89 (0, 0))) (hfew : b.few) (ha : (b.ps.map Pty.id).Pairwise (· < ·)) :
  Calls Tryz.prog 155 #[.pointer (some ⟨C, 0, none⟩)] w fun e w' => e = .returned (.bool (r3 g b)) ∧ Gro w w' := by
 have hmix := mixed
 obtain ⟨c0, c1, c2, c3, c4, c5, c6⟩ := hX.cells
 have cc := box_cell hC
 have hltX := World.block_lt_of_cell? w _ c2
 have hltC := World.block_lt_of_cell? w _ cc
 obtain ⟨a, n, ho, hl⟩ := hX.os
 have C1 : Hid (∀ W, Gro w W → Calls Tryz.prog 156 #[.slice a b.os.length n, .func (.func 64) #[] #[]] W fun e w' => e = .returned (.bool (asc (b.os.map Ofr.id))) ∧ Gro W w') := yy fun W hW => asc156 (hl.gro hW) (by have := hfew.os; omega)
 have C2 : Hid (∀ W, Gro w W → Calls Tryz.prog 157 #[.slice a b.os.length n, .func (.func 158) #[.pointer (some ⟨X, 0, none⟩)] #[]] W fun e w' => e = .returned (.bool (b.os.all (okO g b))) ∧ Gro W w') := yy fun W hW => all157 (hl.gro hW) _ 158 #[.pointer (some ⟨X, 0, none⟩)] #[] eg158 (fun W' x hW' _ => isOffer158 (hX.gro (hW.trans hW')) hfew ha x)
 have hr : r3 g b = (asc (b.os.map Ofr.id) && b.os.all (okO g b)) := rfl
 rw [ho] at c2
 generalize b.os.all (okO g b) = q2 at hr C2
 generalize asc (b.os.map Ofr.id) = q1 at hr C1
 have HR := yy hr
 have e2 := gcell c2; have ec := gcell cc
 clear hX hC hl hr c0 c1 c2 c3 c4 c5 c6 cc hfew ha ho
 go_enter Tryz.func155, Tryz.ntmps155
 go_wp2_with fail
 refine wp_region_quiet_grown (by assumption) (by kernel_rfl) ?_
 iterate 6 (quiet_step (first | (go_at_call 156; exact Calls.quiet_gro (C1.out _ (gro_of_grow _ _ _))) | (go_at_call 157; exact Calls.quiet_gro (C2.out _ (gro_of_grow _ _ _)))))
 cases q1 with
 | false =>
  repeat (quiet_step (first | (go_at_call 156; exact Calls.quiet_gro (C1.out _ (gro_of_grow _ _ _))) | (go_at_call 157; exact Calls.quiet_gro (C2.out _ (gro_of_grow _ _ _)))))
  refine wpQuiet_nil ?_
  intro _ hw'
  obtain ⟨⟨nq, osq⟩, hw''⟩ := hw'
  subst hw''
  go_wp2
  go_ret
  exact ⟨by rw [HR.out]; rfl, gro_of_grow _ _ _⟩
 | true =>
 iterate 9 (quiet_step (first | (go_at_call 156; exact Calls.quiet_gro (C1.out _ (gro_of_grow _ _ _))) | (go_at_call 157; exact Calls.quiet_gro (C2.out _ (gro_of_grow _ _ _)))))
 cases q2 with
 | false =>
  repeat (quiet_step (first | (go_at_call 156; exact Calls.quiet_gro (C1.out _ (gro_of_grow _ _ _))) | (go_at_call 157; exact Calls.quiet_gro (C2.out _ (gro_of_grow _ _ _)))))
  refine wpQuiet_nil ?_
  intro _ hw'
  obtain ⟨⟨nq, osq⟩, hw''⟩ := hw'
  subst hw''
  go_wp2
  go_ret
  exact ⟨by rw [HR.out]; rfl, gro_of_grow _ _ _⟩
 | true =>
 repeat (quiet_step (first | (go_at_call 156; exact Calls.quiet_gro (C1.out _ (gro_of_grow _ _ _))) | (go_at_call 157; exact Calls.quiet_gro (C2.out _ (gro_of_grow _ _ _)))))
 refine wpQuiet_nil ?_
 intro _ hw'
 obtain ⟨⟨nq, osq⟩, hw''⟩ := hw'
 subst hw''
 go_wp2
 go_ret
 exact ⟨by rw [HR.out]; rfl, gro_of_grow _ _ _⟩
set_option maxHeartbeats 4000000 in
theorem rule162 {w : World} {X C D : Nat} {p o q v1 v2 v3 : Value} {g : Gr} {b : Bk} (hX : XAt w X p o q v1 v2 v3 g b) (hC : w.heap[C]? = some (.cells #[.pointer (some ⟨X, 0, none⟩)] 89 (0, 0))) (hD : w.heap[D]? = some (.cells #[.func (.func 148) #[] #[.pointer (some ⟨C, 0, none⟩)]] 152 (0, 0))) (hg : g.few) (hfew : b.few)
  (hae : (g.es.map Edg.id).Pairwise (· < ·)) (ha : (b.os.map Ofr.id).Pairwise (· < ·)) (hp : ∀ o ∈ b.os, 0 ≤ o.price ∧ o.price ≤ 1000) :
  Calls Tryz.prog 162 #[.pointer (some ⟨C, 0, none⟩), .pointer (some ⟨D, 0, none⟩)] w fun e w' => e = .returned (.bool (r5 g b)) ∧ Gro w w' := by
 have hmix := mixed
 obtain ⟨c0, c1, c2, c3, c4, c5, c6⟩ := hX.cells
 have cc := box_cell hC
 have cd := box_cell hD
 have hltX := World.block_lt_of_cell? w _ c3
 have hltC := World.block_lt_of_cell? w _ cc
 have hltD := World.block_lt_of_cell? w _ cd
 obtain ⟨a, n, hq, hl⟩ := hX.ws
 have C1 : Hid (∀ W, Gro w W → Calls Tryz.prog 163 #[.slice a b.ws.length n, .func (.func 75) #[] #[]] W fun e w' => e = .returned (.bool (asc (b.ws.map Wsh.edge))) ∧ Gro W w') := yy fun W hW => asc163 (hl.gro hW) (by have := hfew.ws; omega)
 have C2 : Hid (∀ W, Gro w W → Calls Tryz.prog 164 #[.slice a b.ws.length n, .func (.func 148) #[] #[.pointer (some ⟨C, 0, none⟩)]] W fun e w' => e = .returned (.bool (b.ws.all (newE g))) ∧ Gro W w') := yy fun W hW => all164 (hl.gro hW) _ 148 #[] #[.pointer (some ⟨C, 0, none⟩)] eg148 (fun W' x hW' _ => clo148 (hX.gro (hW.trans hW')) ((hW.trans hW').blk hC) hg hae x)
 have C3 : Hid (∀ W, Gro w W → Calls Tryz.prog 164 #[.slice a b.ws.length n, .func (.func 165) #[.pointer (some ⟨X, 0, none⟩)] #[]] W fun e w' => e = .returned (.bool (b.ws.all (okW b))) ∧ Gro W w') := yy fun W hW => all164 (hl.gro hW) _ 165 #[.pointer (some ⟨X, 0, none⟩)] #[] eg165 (fun W' x hW' _ => isWish165 (hX.gro (hW.trans hW')) hfew ha hp x)
 have hr : r5 g b = (asc (b.ws.map Wsh.edge) && b.ws.all (newE g) && b.ws.all (okW b)) := rfl
 rw [hq] at c3
 generalize b.ws.all (okW b) = q3 at hr C3
 generalize b.ws.all (newE g) = q2 at hr C2
 generalize asc (b.ws.map Wsh.edge) = q1 at hr C1
 have HR := yy hr
 have e3 := gcell c3; have ec := gcell cc; have ed := gcell cd
 clear hX hC hD hl hr c0 c1 c2 c3 c4 c5 c6 cc cd hfew ha hae hg hp hq
 go_enter Tryz.func162, Tryz.ntmps162
 go_wp2_with fail
 refine wp_region_quiet_grown (by assumption) (by kernel_rfl) ?_
 iterate 6 (quiet_step (first | (go_at_call 163; exact Calls.quiet_gro (C1.out _ (gro_of_grow _ _ _)))))
 cases q1 with
 | false =>
  repeat (quiet_step (fail))
  refine wpQuiet_nil ?_
  intro _ hw'
  obtain ⟨⟨nq, osq⟩, hw''⟩ := hw'
  subst hw''
  go_wp2
  go_ret
  exact ⟨by rw [HR.out]; rfl, gro_of_grow _ _ _⟩
 | true =>
  iterate 8 (quiet_step (first | (go_at_call 164; exact Calls.quiet_gro (C2.out _ (gro_of_grow _ _ _)))))
  cases q2 with
  | false =>
   repeat (quiet_step (fail))
   refine wpQuiet_nil ?_
   intro _ hw'
   obtain ⟨⟨nq, osq⟩, hw''⟩ := hw'
   subst hw''
   go_wp2
   go_ret
   exact ⟨by rw [HR.out]; rfl, gro_of_grow _ _ _⟩
  | true =>
   iterate 10 (quiet_step (first | (go_at_call 164; exact Calls.quiet_gro (C3.out _ (gro_of_grow _ _ _)))))
   cases q3 with
   | false =>
    repeat (quiet_step (fail))
    refine wpQuiet_nil ?_
    intro _ hw'
    obtain ⟨⟨nq, osq⟩, hw''⟩ := hw'
    subst hw''
    go_wp2
    go_ret
    exact ⟨by rw [HR.out]; rfl, gro_of_grow _ _ _⟩
   | true =>
    repeat (quiet_step (fail))
    refine wpQuiet_nil ?_
    intro _ hw'
    obtain ⟨⟨nq, osq⟩, hw''⟩ := hw'
    subst hw''
    go_wp2
    go_ret
    exact ⟨by rw [HR.out]; rfl, gro_of_grow _ _ _⟩
end Go.Proofs.YthfagcdjbmhhcaaGreat
