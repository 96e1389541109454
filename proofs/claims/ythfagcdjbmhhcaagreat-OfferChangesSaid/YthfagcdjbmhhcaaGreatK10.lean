/- the last rule, and the list of the rules. offer.read: a copy of a book, if it is valid. '==' of elements, slices.Equal, offer.Valid, offer.Same. offer.Valid, offer.Same. (*book).close. (*book).close. -/
import Derived.Test.YthfagcdjbmhhcaaGreatK09
import Derived.Laws.EntriesVeiled
import Derived.Laws.StructEq
set_option linter.unusedVariables false
set_option linter.unusedSimpArgs false
namespace Go.Proofs.YthfagcdjbmhhcaaGreat
open Go.RowKit
attribute [local irreducible] wpQuiet
theorem build_few {g : Gr} {b : Bk} (hg : g.few) (hs1 : g.vs.length + b.os.length ≤ 1000000) (hs2 : g.es.length + b.ws.length ≤ 1000000) : (build g b).few := by
 rw [build_at]
 exact ⟨Nat.le_trans (vsAt_few _) hs1, Nat.le_trans (esAt_few _) hs2, hg.ds⟩
theorem rule166 {w : World} {X C : Nat} {p o q v1 v2 v3 : Value} {g : Gr} {b : Bk} (hX : XAt w X p o q v1 v2 v3 g b) (hC : w.heap[C]? = some (.cells #[.pointer (some ⟨X, 0, none⟩)] 89 (0, 0))) (hV : VB g b) (hg : g.few) (hfew : b.few)
  (hs1 : g.vs.length + b.os.length ≤ 1000000) (hs2 : g.es.length + b.ws.length ≤ 1000000) :
  Calls Tryz.prog 166 #[.pointer (some ⟨C, 0, none⟩)] w fun e w' => e = .returned (.bool true) ∧ Gro w w' := by
 have cc := box_cell hC
 have hlt := World.block_lt_of_cell? w _ cc
 have H1 := yy (graph83 hX hV hg hfew hs1 hs2)
 have HV := yy (validG_iff.2 (valid_build hV))
 have HF := yy (build_few hg hs1 hs2)
 clear hX hC hV hg hfew hs1 hs2
 go_enter Tryz.func166, Tryz.ntmps166
 go_wp2_with fail
 refine H1.out.mono ?_
 rintro e w1 ⟨a1, a2, a3, rfl, hG, k1⟩
 have H2 := yy (valid41 hG HF.out)
 have K1 := yy k1
 rw [HV.out] at H2
 clear hG k1 HF HV
 go_wp2_with fail
 refine H2.out.mono ?_
 rintro e w2 ⟨rfl, k2⟩
 have K2 := yy (K1.out.trans k2)
 clear k2 K1 H2
 go_wp2
 go_ret
 exact ⟨rfl, K2.out⟩
/-- the rules in memory -/
structure RulesAt (w : World) (X S C D3 D4 D5 : Nat) : Prop where
 s : w.heap[S]? = some (.cells #[.func (.func 149) #[] #[.pointer (some ⟨C, 0, none⟩), .pointer (some ⟨D3, 0, none⟩)], .func (.func 151) #[] #[.pointer (some ⟨C, 0, none⟩), .pointer (some ⟨D4, 0, none⟩)], .func (.func 155) #[] #[.pointer (some ⟨C, 0, none⟩)],
  .func (.func 159) #[] #[.pointer (some ⟨C, 0, none⟩)], .func (.func 162) #[] #[.pointer (some ⟨C, 0, none⟩), .pointer (some ⟨D5, 0, none⟩)], .func (.func 166) #[] #[.pointer (some ⟨C, 0, none⟩)]] 146 (0, 0))
 c : w.heap[C]? = some (.cells #[.pointer (some ⟨X, 0, none⟩)] 89 (0, 0))
 d3 : w.heap[D3]? = some (.cells #[.func (.func 145) #[] #[]] 132 (0, 0))
 d4 : w.heap[D4]? = some (.cells #[.func (.func 146) #[] #[]] 168 (0, 0))
 d5 : w.heap[D5]? = some (.cells #[.func (.func 148) #[] #[.pointer (some ⟨C, 0, none⟩)]] 152 (0, 0))
theorem RulesAt.gro {w w' : World} {X S C D3 D4 D5 : Nat} (h : RulesAt w X S C D3 D4 D5) (k : Gro w w') : RulesAt w' X S C D3 D4 D5 := ⟨k.blk h.s, k.blk h.c, k.blk h.d3, k.blk h.d4, k.blk h.d5⟩
theorem heap5 (w : World) (a b c d e : Obj) : (((((w.alloc a).alloc b).alloc c).alloc d).alloc e).heap[w.heap.size]? = some a ∧ (((((w.alloc a).alloc b).alloc c).alloc d).alloc e).heap[w.heap.size + 1]? = some b ∧
  (((((w.alloc a).alloc b).alloc c).alloc d).alloc e).heap[w.heap.size + 1 + 1]? = some c ∧ (((((w.alloc a).alloc b).alloc c).alloc d).alloc e).heap[w.heap.size + 1 + 1 + 1]? = some d ∧ (((((w.alloc a).alloc b).alloc c).alloc d).alloc e).heap[w.heap.size + 1 + 1 + 1 + 1]? = some e := by
 have h2 := blk_new (w.alloc a) b
 have h3 := blk_new ((w.alloc a).alloc b) c
 have h4 := blk_new (((w.alloc a).alloc b).alloc c) d
 have h5 := blk_new ((((w.alloc a).alloc b).alloc c).alloc d) e
 rw [asz] at h2
 rw [asz, asz] at h3
 rw [asz, asz, asz] at h4
 rw [asz, asz, asz, asz] at h5
 exact ⟨blk_alloc (blk_alloc (blk_alloc (blk_alloc (blk_new w a) b) c) d) e, blk_alloc (blk_alloc (blk_alloc h2 c) d) e, blk_alloc (blk_alloc h3 d) e, blk_alloc h4 e, h5⟩
set_option maxHeartbeats 2000000 in
set_option maxRecDepth 100000 in
theorem rules110 (w : World) (X : Nat) : Calls Tryz.prog 110 #[.pointer (some ⟨X, 0, none⟩)] w fun e w' => ∃ S C D3 D4 D5, e = .returned (.slice (some ⟨S, 0, none⟩) 6 6) ∧ RulesAt w' X S C D3 D4 D5 ∧ Gro w w' := by
 go_enter Tryz.func110, Tryz.ntmps110
 go_wp2
 go_ret
 obtain ⟨h1, h2, h3, h4, h5⟩ := heap5 w _ _ _ _ _
 exact ⟨w.heap.size + 1 + 1 + 1 + 1, w.heap.size, w.heap.size + 1, w.heap.size + 1 + 1, w.heap.size + 1 + 1 + 1, rfl, ⟨h5, h1, h2, h3, h4⟩, (((((Gro.refl w).alloc _).alloc _).alloc _).alloc _).alloc _⟩
end Go.Proofs.YthfagcdjbmhhcaaGreat
namespace Go.Proofs.YthfagcdjbmhhcaaGreat
open Go.RowKit
attribute [local irreducible] wpQuiet
theorem LV.form {α : Type} [Rec α] {w : World} {v : Value} {l : List α} (h : LV w v l) : ∃ a c, v = .slice a l.length c ∧ Lst w a l.length c l := h
theorem r1_inv {g : Gr} {b : Bk} (h : r1 g b = true) : VG g ∧ (∀ v ∈ g.vs, v.side = 0) ∧ inB b.round 0 30 = true := by
 simp only [r1, Bool.and_eq_true, validG_iff, List.all_eq_true, beq_iff_eq] at h
 exact ⟨h.1.1, h.1.2, h.2⟩
theorem r2_inv {b : Bk} (h : r2 b = true) : (∀ p ∈ b.ps, okP p = true) ∧ (b.ps.map Pty.id).Pairwise (· < ·) := by
 simp only [r2, Bool.and_eq_true, List.all_eq_true, asc_iff] at h
 exact h
theorem r3_inv {g : Gr} {b : Bk} (h : r3 g b = true) : (b.os.map Ofr.id).Pairwise (· < ·) ∧ ∀ o ∈ b.os, okO g b o = true := by
 simp only [r3, Bool.and_eq_true, List.all_eq_true, asc_iff] at h
 exact h
theorem r4_inv {b : Bk} (h : r4 b = true) : ∀ p ∈ b.ps, spent b p.id ≤ p.budget := by
 simp only [r4, List.all_eq_true, decide_eq_true_eq] at h
 exact h
theorem r5_inv {g : Gr} {b : Bk} (h : r5 g b = true) : (b.ws.map Wsh.edge).Pairwise (· < ·) ∧ (∀ w ∈ b.ws, newE g w = true) ∧ ∀ w ∈ b.ws, okW b w = true := by
 simp only [r5, Bool.and_eq_true, List.all_eq_true, asc_iff] at h
 exact ⟨h.1.1, h.1.2, h.2⟩
theorem validB_rules (g : Gr) (b : Bk) : validB g b = (r1 g b && r2 b && r3 g b && r4 b && r5 g b) := by
 simp only [validB, r1, r2, r3, r4, r5, Bool.and_assoc]
theorem VB_rules {g : Gr} {b : Bk} (h1 : r1 g b = true) (h2 : r2 b = true) (h3 : r3 g b = true) (h4 : r4 b = true) (h5 : r5 g b = true) : VB g b := by
 rw [← validB_iff, validB_rules, h1, h2, h3, h4, h5]; rfl
theorem okP_id {p : Pty} (h : okP p = true) : 0 ≤ p.id ∧ p.id ≤ 9 := by
 simp [okP, inB_iff] at h
 exact h.1
theorem r3_party {g : Gr} {b : Bk} (h2 : r2 b = true) (h3 : r3 g b = true) : ∀ o ∈ b.os, (0 ≤ o.party ∧ o.party ≤ 9) ∧ 0 ≤ o.price ∧ o.price ≤ 1000 := by
 intro o ho
 have h := okO_inv ((r3_inv h3).2 o ho)
 obtain ⟨h0, _, _, _, _, hp, _⟩ := h
 simp only [hasP, List.any_eq_true, beq_iff_eq] at h0
 obtain ⟨p, hp1, hp2⟩ := h0
 have := okP_id ((r2_inv h2).1 p hp1)
 rw [hp2] at this
 exact ⟨this, hp⟩
/-- a book that is the call's own -/
structure XOwn (w : World) (base X : Nat) (p o q v1 v2 v3 : Value) (g : Gr) (b : Bk) : Prop where
 at_ : XAt w X p o q v1 v2 v3 g b
 ps : OwnL w base p b.ps
 os : OwnL w base o b.os
 ws : OwnL w base q b.ws
 lo : base ≤ X
theorem XOwn.gro {w w' : World} {base X : Nat} {p o q v1 v2 v3 : Value} {g : Gr} {b : Bk} (h : XOwn w base X p o q v1 v2 v3 g b) (k : Gro w w') : XOwn w' base X p o q v1 v2 v3 g b := ⟨h.at_.gro k, h.ps.gro k, h.os.gro k, h.ws.gro k, h.lo⟩
def ReadPost (w : World) (v1 v2 v3 : Value) (g : Gr) (b : Bk) (e : Ending) (w' : World) : Prop :=
 Gro w w' ∧ ((validB g b = true ∧ ∃ X p o q, e = .returned (.tuple #[.pointer (some ⟨X, 0, none⟩), .bool true]) ∧ XOwn w' w.heap.size X p o q v1 v2 v3 g b) ∨ (validB g b = false ∧ e = .returned (.tuple #[.pointer none, .bool false])))
def upTo (g : Gr) (b : Bk) (k : Nat) : Prop := (0 < k → r1 g b = true) ∧ (1 < k → r2 b = true) ∧ (2 < k → r3 g b = true) ∧ (3 < k → r4 b = true) ∧ (4 < k → r5 g b = true)
theorem upTo_succ0 {g : Gr} {b : Bk} (_ : upTo g b 0) (q : r1 g b = true) : upTo g b 1 := ⟨fun _ => q, fun h => by omega, fun h => by omega, fun h => by omega, fun h => by omega⟩
theorem upTo_succ1 {g : Gr} {b : Bk} (h : upTo g b 1) (q : r2 b = true) : upTo g b 2 := ⟨fun _ => h.1 (by omega), fun _ => q, fun h => by omega, fun h => by omega, fun h => by omega⟩
theorem upTo_succ2 {g : Gr} {b : Bk} (h : upTo g b 2) (q : r3 g b = true) : upTo g b 3 := ⟨fun _ => h.1 (by omega), fun _ => h.2.1 (by omega), fun _ => q, fun h => by omega, fun h => by omega⟩
theorem upTo_succ3 {g : Gr} {b : Bk} (h : upTo g b 3) (q : r4 b = true) : upTo g b 4 := ⟨fun _ => h.1 (by omega), fun _ => h.2.1 (by omega), fun _ => h.2.2.1 (by omega), fun _ => q, fun h => by omega⟩
theorem upTo_succ4 {g : Gr} {b : Bk} (h : upTo g b 4) (q : r5 g b = true) : upTo g b 5 := ⟨fun _ => h.1 (by omega), fun _ => h.2.1 (by omega), fun _ => h.2.2.1 (by omega), fun _ => h.2.2.2.1 (by omega), fun _ => q⟩
theorem upTo_succ5 {g : Gr} {b : Bk} (h : upTo g b 5) : upTo g b 6 := ⟨fun _ => h.1 (by omega), fun _ => h.2.1 (by omega), fun _ => h.2.2.1 (by omega), fun _ => h.2.2.2.1 (by omega), fun _ => h.2.2.2.2 (by omega)⟩
theorem s7 {w W : World} {a1 a2 a3 a4 a5 a6 a7 : Addr} {v1 v2 v3 v4 v5 v6 v7 : Value} (h : w.cell? a1 = some v1 ∧ w.cell? a2 = some v2 ∧ w.cell? a3 = some v3 ∧ w.cell? a4 = some v4 ∧ w.cell? a5 = some v5 ∧ w.cell? a6 = some v6 ∧ w.cell? a7 = some v7) (k : Gro w W) :
  W.cell? a1 = some v1 ∧ W.cell? a2 = some v2 ∧ W.cell? a3 = some v3 ∧ W.cell? a4 = some v4 ∧ W.cell? a5 = some v5 ∧ W.cell? a6 = some v6 ∧ W.cell? a7 = some v7 :=
 ⟨k.cell h.1, k.cell h.2.1, k.cell h.2.2.1, k.cell h.2.2.2.1, k.cell h.2.2.2.2.1, k.cell h.2.2.2.2.2.1, k.cell h.2.2.2.2.2.2⟩
set_option maxHeartbeats 8000000 in
set_option maxRecDepth 100000 in
theorem read51 {w : World} {v1 v2 v3 p o q : Value} {g : Gr} {b : Bk} (hG : GAt w v1 v2 v3 g) (hp : LV w p b.ps) (ho : LV w o b.os) (hq : LV w q b.ws) (hg : g.few) (hfew : b.few) (hs1 : g.vs.length + b.os.length ≤ 1000000) (hs2 : g.es.length + b.ws.length ≤ 1000000) :
  Calls Tryz.prog 51 #[.agg #[v1, v2, v3], .agg #[.int .i64 b.round, p, o, q]] w (ReadPost w v1 v2 v3 g b) := by
 have hmix := mixed
 obtain ⟨a1, n1, rfl, l1⟩ := hG.vs
 obtain ⟨a2, n2, rfl, l2⟩ := hG.es
 obtain ⟨a3, n3, rfl, l3⟩ := hG.ds
 obtain ⟨ap, np, rfl, lp⟩ := hp
 obtain ⟨ao, no, rfl, lo⟩ := ho
 obtain ⟨aq, nq, rfl, lq⟩ := hq
 have HGA := yy hG
 have HP := yy (show LV w (.slice ap b.ps.length np) b.ps from ⟨_, _, rfl, lp⟩)
 have HO := yy (show LV w (.slice ao b.os.length no) b.os from ⟨_, _, rfl, lo⟩)
 have HQ := yy (show LV w (.slice aq b.ws.length nq) b.ws from ⟨_, _, rfl, lq⟩)
 have HG := yy hg
 have HF := yy hfew
 clear hG l1 l2 l3 lp lo lq hg hfew
 go_enter Tryz.func51, Tryz.ntmps51
 go_wp2_with fail
 have k0 : Gro w ((w.alloc (.cells #[.slice a1 g.vs.length n1, .slice a2 g.es.length n2, .slice a3 g.ds.length n3] 38)).alloc (.cells #[.int .i64 b.round, .slice ap b.ps.length np, .slice ao b.os.length no, .slice aq b.ws.length nq] 28)) := ((Gro.refl _).alloc _).alloc _
 have b2 := blk_alloc (blk_new w (.cells #[.slice a1 g.vs.length n1, .slice a2 g.es.length n2, .slice a3 g.ds.length n3] 38)) (.cells #[.int .i64 b.round, .slice ap b.ps.length np, .slice ao b.os.length no, .slice aq b.ws.length nq] 28)
 have b3 := blk_new (w.alloc (.cells #[.slice a1 g.vs.length n1, .slice a2 g.es.length n2, .slice a3 g.ds.length n3] 38)) (.cells #[.int .i64 b.round, .slice ap b.ps.length np, .slice ao b.os.length no, .slice aq b.ws.length nq] 28)
 rw [asz] at b3
 generalize (w.alloc (.cells #[.slice a1 g.vs.length n1, .slice a2 g.es.length n2, .slice a3 g.ds.length n3] 38)).alloc (.cells #[.int .i64 b.round, .slice ap b.ps.length np, .slice ao b.os.length no, .slice aq b.ws.length nq] 28) = w0 at k0 b2 b3 ⊢
 have hS : w0.cell? ⟨w.heap.size, 0, none⟩ = some (.slice a1 g.vs.length n1) ∧ w0.cell? ⟨w.heap.size, 1, none⟩ = some (.slice a2 g.es.length n2) ∧ w0.cell? ⟨w.heap.size, 2, none⟩ = some (.slice a3 g.ds.length n3) ∧
   w0.cell? ⟨w.heap.size + 1, 0, none⟩ = some (.int .i64 b.round) ∧ w0.cell? ⟨w.heap.size + 1, 1, none⟩ = some (.slice ap b.ps.length np) ∧ w0.cell? ⟨w.heap.size + 1, 2, none⟩ = some (.slice ao b.os.length no) ∧ w0.cell? ⟨w.heap.size + 1, 3, none⟩ = some (.slice aq b.ws.length nq) :=
  ⟨by rw [blk_cell b2]; rfl, by rw [blk_cell b2]; rfl, by rw [blk_cell b2]; rfl, by rw [blk_cell b3]; rfl, by rw [blk_cell b3]; rfl, by rw [blk_cell b3]; rfl, by rw [blk_cell b3]; rfl⟩
 have hS0 := s7 hS (Gro.refl w0).drew
 have h1l := blk_lt b2
 have h2l := blk_lt b3
 have K0 := yy k0
 clear k0 b2 b3 hS
 go_region_held3 (fun w' => w'.cell? ⟨w.heap.size, 0, none⟩ = some (.slice a1 g.vs.length n1) ∧ w'.cell? ⟨w.heap.size, 1, none⟩ = some (.slice a2 g.es.length n2) ∧ w'.cell? ⟨w.heap.size, 2, none⟩ = some (.slice a3 g.ds.length n3) ∧
   w'.cell? ⟨w.heap.size + 1, 0, none⟩ = some (.int .i64 b.round) ∧ w'.cell? ⟨w.heap.size + 1, 1, none⟩ = some (.slice ap b.ps.length np) ∧ w'.cell? ⟨w.heap.size + 1, 2, none⟩ = some (.slice ao b.os.length no) ∧ w'.cell? ⟨w.heap.size + 1, 3, none⟩ = some (.slice aq b.ws.length nq))
  (first | with_reducible exact hS0 | with_reducible exact hS1 | with_reducible exact hS2 | with_reducible exact hS3 | go_keep)
  (first
   | (go_at_call 107; refine (clone107 (LV.gro HP.out (Gro.drew K0.out)) HF.out.ps).mono ?_; rintro e w1 ⟨p', rfl, o1, k1⟩; obtain ⟨sp, cp, rfl⟩ := o1.form; have hS1 := s7 hS0 k1; have K1 := yy (Gro.trans (Gro.drew K0.out) k1); have O1 := yy (OwnL.le o1 (Kept.size (F := fun _ => False) (Gro.drew K0.out))))
   | (go_at_call 108; refine (clone108 (LV.gro HO.out K1.out) HF.out.os).mono ?_; rintro e w2 ⟨o', rfl, o2, k2⟩; obtain ⟨so, co, rfl⟩ := o2.form; have hS2 := s7 hS1 k2; have L2 := yy k2; have K2 := yy (Gro.trans K1.out k2); have O2 := yy (OwnL.le o2 (Kept.size (F := fun _ => False) K1.out)))
   | (go_at_call 109; refine (clone109 (LV.gro HQ.out K2.out) HF.out.ws).mono ?_; rintro e w3 ⟨q', rfl, o3, k3⟩; obtain ⟨sq, cq, rfl⟩ := o3.form; have hS3 := s7 hS2 k3; have L3 := yy k3; have K3 := yy (Gro.trans K2.out k3); have O3 := yy (OwnL.le o3 (Kept.size (F := fun _ => False) K2.out))))
 have oa := O1.out.gro (Gro.trans L2.out L3.out)
 have ob := O2.out.gro L3.out
 have oc := O3.out
 have kA : Gro w3 (w3.alloc (.cells #[.int .i64 b.round, .slice sp b.ps.length cp, .slice so b.os.length co, .slice sq b.ws.length cq, .slice a1 g.vs.length n1, .slice a2 g.es.length n2, .slice a3 g.ds.length n3] 103)) := (Gro.refl _).alloc _
 have bA := blk_new w3 (.cells #[.int .i64 b.round, .slice sp b.ps.length cp, .slice so b.os.length co, .slice sq b.ws.length cq, .slice a1 g.vs.length n1, .slice a2 g.es.length n2, .slice a3 g.ds.length n3] 103)
 have fp := HF.out.ps
 have fo := HF.out.os
 have fw := HF.out.ws
 have hXO : XOwn (w3.alloc (.cells #[.int .i64 b.round, .slice sp b.ps.length cp, .slice so b.os.length co, .slice sq b.ws.length cq, .slice a1 g.vs.length n1, .slice a2 g.es.length n2, .slice a3 g.ds.length n3] 103)) w.heap.size w3.heap.size (.slice sp b.ps.length cp) (.slice so b.os.length co) (.slice sq b.ws.length cq) (.slice a1 g.vs.length n1) (.slice a2 g.es.length n2) (.slice a3 g.ds.length n3) g b :=
  ⟨⟨bA, (oa.gro kA).lv (by omega), (ob.gro kA).lv (by omega), (oc.gro kA).lv (by omega), HGA.out.gro (Gro.trans K3.out kA)⟩, oa.gro kA, ob.gro kA, oc.gro kA, K3.out.size⟩
 have K4 := yy (Gro.trans K3.out kA)
 have XO := yy hXO
 clear oa ob oc kA bA hXO hS0 hS1 hS2 hS3 O1 O2 O3 L2 L3 K1 K2 K3 k1 k2 k3 o1 o2 o3 HP HO HQ HGA h1l h2l fp fo fw
 generalize w3.alloc (.cells #[.int .i64 b.round, .slice sp b.ps.length cp, .slice so b.os.length co, .slice sq b.ws.length cq, .slice a1 g.vs.length n1, .slice a2 g.es.length n2, .slice a3 g.ds.length n3] 103) = w4 at XO K4 ⊢
 generalize w3.heap.size = X at XO ⊢
 go_wp2_with fail
 refine (rules110 w4 X).mono ?_
 rintro e w5 ⟨S, C, D3, D4, D5, rfl, hR, k5⟩
 have RU := yy hR
 have XO5 := yy (XO.out.gro k5)
 have K5 := yy (Gro.trans K4.out k5)
 clear hR k5 XO K4
 go_wp2_with fail
 go_loopw [27] (fun t wr => ∃ k : Nat, k ≤ 6 ∧ t = .int .i64 k ∧ Gro w5 wr ∧ upTo g b k) (fun t _ => 6 - (intOf t).toNat)
 case atStart => exact ⟨0, by omega, by go_num, Gro.refl _, ⟨fun h => by omega, fun h => by omega, fun h => by omega, fun h => by omega, fun h => by omega⟩⟩
 case round =>
 obtain ⟨k, hk, rfl, hgr, hu⟩ := hrel
 have HGR := yy hgr
 have HU := yy hu
 clear hgr hu
 rcases (show k = 0 ∨ k = 1 ∨ k = 2 ∨ k = 3 ∨ k = 4 ∨ k = 5 ∨ k = 6 by omega) with rfl | rfl | rfl | rfl | rfl | rfl | rfl
 ·have cS : wr.cell? ⟨S, 0, none⟩ = some (.func (.func 149) #[] #[.pointer (some ⟨C, 0, none⟩), .pointer (some ⟨D3, 0, none⟩)]) := by rw [blk_cell (RU.out.gro HGR.out).s]; rfl
  have hlS := blk_lt (RU.out.gro HGR.out).s
  have kA : Gro wr (wr.alloc (.cells #[.func (.func 149) #[] #[.pointer (some ⟨C, 0, none⟩), .pointer (some ⟨D3, 0, none⟩)]] 146)) := (Gro.refl _).alloc _
  have XA := (XO5.out.gro HGR.out).gro kA
  have RA := (RU.out.gro HGR.out).gro kA
  have hcon := rule149 XA.at_ RA.c RA.d3 HG.out
  generalize hq : r1 g b = q at hcon
  have HQ := yy hq
  have HC := yy hcon
  have KA := yy (Gro.trans HGR.out kA)
  clear hq hcon kA XA RA
  go_wp2_with fail
  refine HC.out.mono ?_
  rintro e w6 ⟨rfl, k6⟩
  have K6 := yy (Gro.trans KA.out k6)
  clear k6
  cases q with
  | false =>
   go_wp2
   go_ret2
   exact ⟨Gro.trans K5.out K6.out, .inr ⟨by rw [validB_rules, HQ.out]; simp, rfl⟩⟩
  | true =>
  go_wp2
  go_roundw
  case rel => exact ⟨1, by omega, by go_num, K6.out, upTo_succ0 HU.out HQ.out⟩
  case measure => simp [intOf]
 ·have cS : wr.cell? ⟨S, 1, none⟩ = some (.func (.func 151) #[] #[.pointer (some ⟨C, 0, none⟩), .pointer (some ⟨D4, 0, none⟩)]) := by rw [blk_cell (RU.out.gro HGR.out).s]; rfl
  have hlS := blk_lt (RU.out.gro HGR.out).s
  have kA : Gro wr (wr.alloc (.cells #[.func (.func 151) #[] #[.pointer (some ⟨C, 0, none⟩), .pointer (some ⟨D4, 0, none⟩)]] 146)) := (Gro.refl _).alloc _
  have XA := (XO5.out.gro HGR.out).gro kA
  have RA := (RU.out.gro HGR.out).gro kA
  have hcon := rule151 XA.at_ RA.c RA.d4 HF.out
  generalize hq : r2 b = q at hcon
  have HQ := yy hq
  have HC := yy hcon
  have KA := yy (Gro.trans HGR.out kA)
  clear hq hcon kA XA RA
  go_wp2_with fail
  refine HC.out.mono ?_
  rintro e w6 ⟨rfl, k6⟩
  have K6 := yy (Gro.trans KA.out k6)
  clear k6
  cases q with
  | false =>
   go_wp2
   go_ret2
   exact ⟨Gro.trans K5.out K6.out, .inr ⟨by rw [validB_rules, HQ.out]; simp, rfl⟩⟩
  | true =>
  go_wp2
  go_roundw
  case rel => exact ⟨2, by omega, by go_num, K6.out, upTo_succ1 HU.out HQ.out⟩
  case measure => simp [intOf]
 ·have cS : wr.cell? ⟨S, 2, none⟩ = some (.func (.func 155) #[] #[.pointer (some ⟨C, 0, none⟩)]) := by rw [blk_cell (RU.out.gro HGR.out).s]; rfl
  have hlS := blk_lt (RU.out.gro HGR.out).s
  have kA : Gro wr (wr.alloc (.cells #[.func (.func 155) #[] #[.pointer (some ⟨C, 0, none⟩)]] 146)) := (Gro.refl _).alloc _
  have XA := (XO5.out.gro HGR.out).gro kA
  have RA := (RU.out.gro HGR.out).gro kA
  have hcon := rule155 XA.at_ RA.c HF.out (r2_inv (HU.out.2.1 (by omega))).2
  generalize hq : r3 g b = q at hcon
  have HQ := yy hq
  have HC := yy hcon
  have KA := yy (Gro.trans HGR.out kA)
  clear hq hcon kA XA RA
  go_wp2_with fail
  refine HC.out.mono ?_
  rintro e w6 ⟨rfl, k6⟩
  have K6 := yy (Gro.trans KA.out k6)
  clear k6
  cases q with
  | false =>
   go_wp2
   go_ret2
   exact ⟨Gro.trans K5.out K6.out, .inr ⟨by rw [validB_rules, HQ.out]; simp, rfl⟩⟩
  | true =>
  go_wp2
  go_roundw
  case rel => exact ⟨3, by omega, by go_num, K6.out, upTo_succ2 HU.out HQ.out⟩
  case measure => simp [intOf]
 ·have cS : wr.cell? ⟨S, 3, none⟩ = some (.func (.func 159) #[] #[.pointer (some ⟨C, 0, none⟩)]) := by rw [blk_cell (RU.out.gro HGR.out).s]; rfl
  have hlS := blk_lt (RU.out.gro HGR.out).s
  have kA : Gro wr (wr.alloc (.cells #[.func (.func 159) #[] #[.pointer (some ⟨C, 0, none⟩)]] 146)) := (Gro.refl _).alloc _
  have XA := (XO5.out.gro HGR.out).gro kA
  have RA := (RU.out.gro HGR.out).gro kA
  have hcon := rule159 XA.at_ RA.c HF.out (r3_party (HU.out.2.1 (by omega)) (HU.out.2.2.1 (by omega))) (fun x hx => by have := okP_id ((r2_inv (HU.out.2.1 (by omega))).1 x hx); exact ⟨by omega, by omega⟩)
  generalize hq : r4 b = q at hcon
  have HQ := yy hq
  have HC := yy hcon
  have KA := yy (Gro.trans HGR.out kA)
  clear hq hcon kA XA RA
  go_wp2_with fail
  refine HC.out.mono ?_
  rintro e w6 ⟨rfl, k6⟩
  have K6 := yy (Gro.trans KA.out k6)
  clear k6
  cases q with
  | false =>
   go_wp2
   go_ret2
   exact ⟨Gro.trans K5.out K6.out, .inr ⟨by rw [validB_rules, HQ.out]; simp, rfl⟩⟩
  | true =>
  go_wp2
  go_roundw
  case rel => exact ⟨4, by omega, by go_num, K6.out, upTo_succ3 HU.out HQ.out⟩
  case measure => simp [intOf]
 ·have cS : wr.cell? ⟨S, 4, none⟩ = some (.func (.func 162) #[] #[.pointer (some ⟨C, 0, none⟩), .pointer (some ⟨D5, 0, none⟩)]) := by rw [blk_cell (RU.out.gro HGR.out).s]; rfl
  have hlS := blk_lt (RU.out.gro HGR.out).s
  have kA : Gro wr (wr.alloc (.cells #[.func (.func 162) #[] #[.pointer (some ⟨C, 0, none⟩), .pointer (some ⟨D5, 0, none⟩)]] 146)) := (Gro.refl _).alloc _
  have XA := (XO5.out.gro HGR.out).gro kA
  have RA := (RU.out.gro HGR.out).gro kA
  have hcon := rule162 XA.at_ RA.c RA.d5 HG.out HF.out (r1_inv (HU.out.1 (by omega))).1.ae (r3_inv (HU.out.2.2.1 (by omega))).1 (fun o ho => (r3_party (HU.out.2.1 (by omega)) (HU.out.2.2.1 (by omega)) o ho).2)
  generalize hq : r5 g b = q at hcon
  have HQ := yy hq
  have HC := yy hcon
  have KA := yy (Gro.trans HGR.out kA)
  clear hq hcon kA XA RA
  go_wp2_with fail
  refine HC.out.mono ?_
  rintro e w6 ⟨rfl, k6⟩
  have K6 := yy (Gro.trans KA.out k6)
  clear k6
  cases q with
  | false =>
   go_wp2
   go_ret2
   exact ⟨Gro.trans K5.out K6.out, .inr ⟨by rw [validB_rules, HQ.out]; simp, rfl⟩⟩
  | true =>
  go_wp2
  go_roundw
  case rel => exact ⟨5, by omega, by go_num, K6.out, upTo_succ4 HU.out HQ.out⟩
  case measure => simp [intOf]
 ·have cS : wr.cell? ⟨S, 5, none⟩ = some (.func (.func 166) #[] #[.pointer (some ⟨C, 0, none⟩)]) := by rw [blk_cell (RU.out.gro HGR.out).s]; rfl
  have hlS := blk_lt (RU.out.gro HGR.out).s
  have kA : Gro wr (wr.alloc (.cells #[.func (.func 166) #[] #[.pointer (some ⟨C, 0, none⟩)]] 146)) := (Gro.refl _).alloc _
  have XA := (XO5.out.gro HGR.out).gro kA
  have RA := (RU.out.gro HGR.out).gro kA
  have hcon := rule166 XA.at_ RA.c (VB_rules (HU.out.1 (by omega)) (HU.out.2.1 (by omega)) (HU.out.2.2.1 (by omega)) (HU.out.2.2.2.1 (by omega)) (HU.out.2.2.2.2 (by omega))) HG.out HF.out hs1 hs2
  have HC := yy hcon
  have KA := yy (Gro.trans HGR.out kA)
  clear hcon kA XA RA
  go_wp2_with fail
  refine HC.out.mono ?_
  rintro e w6 ⟨rfl, k6⟩
  have K6 := yy (Gro.trans KA.out k6)
  clear k6
  go_wp2
  go_roundw
  case rel => exact ⟨6, by omega, by go_num, K6.out, upTo_succ5 HU.out⟩
  case measure => simp [intOf]
 have hv : validB g b = true := by
  rw [validB_rules, HU.out.1 (by omega), HU.out.2.1 (by omega), HU.out.2.2.1 (by omega), HU.out.2.2.2.1 (by omega), HU.out.2.2.2.2 (by omega)]; rfl
 have HV := yy hv
 clear hv
 go_wp2
 go_ret2
 exact ⟨Gro.trans K5.out HGR.out, .inl ⟨HV.out, X, _, _, _, rfl, XO5.out.gro HGR.out⟩⟩
end Go.Proofs.YthfagcdjbmhhcaaGreat
namespace Go.Proofs.YthfagcdjbmhhcaaGreat
open Go.RowKit
attribute [local irreducible] wpQuiet
set_option maxHeartbeats 1000000 in
theorem eqin66 (x y : Pty) (w : World) : (Op.equalIn 10000 66 (.agg #[.int .i64 x.id, .int .i64 x.budget]) (.agg #[.int .i64 y.id, .int .i64 y.budget])).run Tryz.prog w = .ok (decide (x = y)) w := by
 have u3 := Tryz.underlying3
 have u4 := Tryz.underlying4
 have a3 := Tryz.isAgg3
 have z3 := Tryz.sizeOf3
 have hS : Tryz.prog.underlying 66 = some (.struct (Tryz.prog.fieldsOf 66)) := by kernel_rfl
 have hp : Tryz.prog.stoodInHeld 66 = false := by kernel_rfl
 rw [show (10000 : Nat) = 9999 + 1 from rfl, run_equalIn_agg w 9999 66 _ _ hS hp]
 simp only [Program.fieldsOf, Tryz.underlying66]
 cases x
 cases y
 go_simp
 repeat' split
 all_goals simp_all
set_option maxHeartbeats 1000000 in
theorem eqin77 (x y : Vtx) (w : World) : (Op.equalIn 10000 77 (.agg #[.int .i64 x.id, .int .i64 x.side]) (.agg #[.int .i64 y.id, .int .i64 y.side])).run Tryz.prog w = .ok (decide (x = y)) w := by
 have u3 := Tryz.underlying3
 have u4 := Tryz.underlying4
 have a3 := Tryz.isAgg3
 have z3 := Tryz.sizeOf3
 have hS : Tryz.prog.underlying 77 = some (.struct (Tryz.prog.fieldsOf 77)) := by kernel_rfl
 have hp : Tryz.prog.stoodInHeld 77 = false := by kernel_rfl
 rw [show (10000 : Nat) = 9999 + 1 from rfl, run_equalIn_agg w 9999 77 _ _ hS hp]
 simp only [Program.fieldsOf, Tryz.underlying77]
 cases x
 cases y
 go_simp
 repeat' split
 all_goals simp_all
set_option maxHeartbeats 1000000 in
theorem eqin32 (x y : Wsh) (w : World) : (Op.equalIn 10000 32 (.agg #[.int .i64 x.edge, .int .i64 x.src, .int .i64 x.dst, .int .i64 x.weight]) (.agg #[.int .i64 y.edge, .int .i64 y.src, .int .i64 y.dst, .int .i64 y.weight])).run Tryz.prog w = .ok (decide (x = y)) w := by
 have u3 := Tryz.underlying3
 have u4 := Tryz.underlying4
 have a3 := Tryz.isAgg3
 have z3 := Tryz.sizeOf3
 have hS : Tryz.prog.underlying 32 = some (.struct (Tryz.prog.fieldsOf 32)) := by kernel_rfl
 have hp : Tryz.prog.stoodInHeld 32 = false := by kernel_rfl
 rw [show (10000 : Nat) = 9999 + 1 from rfl, run_equalIn_agg w 9999 32 _ _ hS hp]
 simp only [Program.fieldsOf, Tryz.underlying32]
 cases x
 cases y
 go_simp
 repeat' split
 all_goals simp_all
set_option maxHeartbeats 1000000 in
theorem eqin69 (x y : Edg) (w : World) : (Op.equalIn 10000 69 (.agg #[.int .i64 x.id, .int .i64 x.src, .int .i64 x.dst, .bool x.dir, .int .i64 x.weight, .int .i64 x.cap]) (.agg #[.int .i64 y.id, .int .i64 y.src, .int .i64 y.dst, .bool y.dir, .int .i64 y.weight, .int .i64 y.cap])).run Tryz.prog w = .ok (decide (x = y)) w := by
 have u3 := Tryz.underlying3
 have u4 := Tryz.underlying4
 have a3 := Tryz.isAgg3
 have z3 := Tryz.sizeOf3
 have hS : Tryz.prog.underlying 69 = some (.struct (Tryz.prog.fieldsOf 69)) := by kernel_rfl
 have hp : Tryz.prog.stoodInHeld 69 = false := by kernel_rfl
 rw [show (10000 : Nat) = 9999 + 1 from rfl, run_equalIn_agg w 9999 69 _ _ hS hp]
 simp only [Program.fieldsOf, Tryz.underlying69]
 cases x
 cases y
 go_simp
 repeat' split
 all_goals simp_all
set_option maxHeartbeats 1000000 in
theorem eqin30 (x y : Ofr) (w : World) : (Op.equalIn 10000 30 (.agg #[.int .i64 x.id, .int .i64 x.party, .int .i64 x.side, .int .i64 x.place, .int .i64 x.price, .int .i64 x.until_, .int .i64 x.state]) (.agg #[.int .i64 y.id, .int .i64 y.party, .int .i64 y.side, .int .i64 y.place, .int .i64 y.price, .int .i64 y.until_, .int .i64 y.state])).run Tryz.prog w = .ok (decide (x = y)) w := by
 have u3 := Tryz.underlying3
 have u4 := Tryz.underlying4
 have a3 := Tryz.isAgg3
 have z3 := Tryz.sizeOf3
 have hS : Tryz.prog.underlying 30 = some (.struct (Tryz.prog.fieldsOf 30)) := by kernel_rfl
 have hp : Tryz.prog.stoodInHeld 30 = false := by kernel_rfl
 rw [show (10000 : Nat) = 9999 + 1 from rfl, run_equalIn_agg w 9999 30 _ _ hS hp]
 simp only [Program.fieldsOf, Tryz.underlying30]
 cases x
 cases y
 go_simp
 repeat' split
 all_goals simp_all
set_option maxHeartbeats 2000000 in
set_option maxRecDepth 100000 in
theorem equal58 {w : World} {v1 v2 : Value} {xs ys : List Pty} (h1 : LV w v1 xs) (h2 : LV w v2 ys) : Calls Tryz.prog 58 #[v1, v2] w fun e w' => e = .returned (.bool (decide (xs = ys))) ∧ Gro w w' := by
 obtain ⟨a, n, rfl, hl⟩ := h1
 obtain ⟨a', n', rfl, hl'⟩ := h2
 have hbig := hl.big
 have HA := yy hl
 have HB := yy hl'
 clear hl hl'
 by_cases hlen : xs.length = ys.length
 ·have hlenI : (xs.length : Int) = (ys.length : Int) := by omega
  have HLen := yy hlen
  clear hlen
  have hne : ¬ ((xs.length : Int) ≠ (ys.length : Int)) := by omega
  rw [← HLen.out]
  clear hlenI hne
  go_enter Tryz.func58, Tryz.ntmps58
  go_wp2
  go_loopw [13] (fun t wr => ∃ k : Nat, k ≤ xs.length ∧ t = .int .i64 k ∧ Gro w wr ∧ ∀ j (h : j < xs.length) (h' : j < ys.length), j < k → xs[j] = ys[j]) (fun t _ => xs.length - (intOf t).toNat)
  case atStart => exact ⟨0, Nat.zero_le _, by go_num, Gro.refl _, fun j _ _ h => by omega⟩
  case round =>
  obtain ⟨k, hk, rfl, hg, hall⟩ := hrel
  have HG := yy hg
  have HL := yy hall
  clear hg hall
  by_cases hlt : k < xs.length
  ·have hlt' : k < ys.length := by have := HLen.out; omega
   obtain ⟨b, off, rfl, hb, hc⟩ := (HA.out.gro HG.out).base hlt
   obtain ⟨c0, c1⟩ := pcells hc hlt
   obtain ⟨b', off', rfl, hb', hc'⟩ := (HB.out.gro HG.out).base hlt'
   obtain ⟨d0, d1⟩ := pcells hc' hlt'
   have e0 := gcell c0; have g0 := gcell d0
   have e1 := gcell c1; have g1 := gcell d1
   clear c0 c1 d0 d1 hc hc'
   have heq := eqin66 xs[k] ys[k]
   have hX : Hid (decide (xs[k] = ys[k]) = decide (xs[k] = ys[k])) := yy rfl
   generalize hx : xs[k] = x at e0 e1 heq
   generalize hy : ys[k] = y at g0 g1 heq
   have HX := yy hx
   have HY := yy hy
   clear hx hy hX
   have hmix := mixed
   have hgd : Tryz.prog.eqGuardType Tryz.prog.depth 66 = false := by kernel_rfl
   by_cases hxy : x = y
   ·rw [decide_eq_true hxy] at heq
    have HXY := yy hxy
    clear hxy
    go_wp2_with fail
    go_quiet_grown (fail)
    go_wp2
    go_roundw
    case rel => exact ⟨k + 1, by omega, by go_num, HG.out.trans (gro_of_grow _ _ _), fun j h h' hj => by
     by_cases e : j = k
     ·subst e; rw [HX.out, HY.out]; exact HXY.out
     exact HL.out j h h' (by omega)⟩
    case measure => simp [intOf]; omega
   rw [decide_eq_false hxy] at heq
   have hr : decide (xs = ys) = false := decide_eq_false fun h => by
    subst h
    exact hxy (by rw [← HX.out, ← HY.out])
   have HR := yy hr
   clear hxy hr
   go_wp2_with fail
   go_quiet_grown (fail)
   go_wp2
   go_ret
   exact ⟨by rw [HR.out]; rfl, HG.out.trans (gro_of_grow _ _ _)⟩
  have hr : decide (xs = ys) = true := decide_eq_true (List.ext_getElem HLen.out (fun j h h' => HL.out j h h' (by omega)))
  have HR := yy hr
  clear hr
  go_wp2
  go_ret
  exact ⟨by rw [HR.out]; rfl, HG.out⟩
 have hlenI : ¬ ((xs.length : Int) = (ys.length : Int)) := by omega
 have hr : decide (xs = ys) = false := decide_eq_false fun h => hlen (by rw [h])
 have HR := yy hr
 clear hr
 go_enter Tryz.func58, Tryz.ntmps58
 go_wp2
 go_ret
 exact ⟨by rw [HR.out]; rfl, Gro.refl _⟩
set_option maxHeartbeats 2000000 in
set_option maxRecDepth 100000 in
theorem equal59 {w : World} {v1 v2 : Value} {xs ys : List Ofr} (h1 : LV w v1 xs) (h2 : LV w v2 ys) : Calls Tryz.prog 59 #[v1, v2] w fun e w' => e = .returned (.bool (decide (xs = ys))) ∧ Gro w w' := by
 obtain ⟨a, n, rfl, hl⟩ := h1
 obtain ⟨a', n', rfl, hl'⟩ := h2
 have hbig := hl.big
 have HA := yy hl
 have HB := yy hl'
 clear hl hl'
 by_cases hlen : xs.length = ys.length
 ·have hlenI : (xs.length : Int) = (ys.length : Int) := by omega
  have HLen := yy hlen
  clear hlen
  have hne : ¬ ((xs.length : Int) ≠ (ys.length : Int)) := by omega
  rw [← HLen.out]
  clear hlenI hne
  go_enter Tryz.func59, Tryz.ntmps59
  go_wp2
  go_loopw [13] (fun t wr => ∃ k : Nat, k ≤ xs.length ∧ t = .int .i64 k ∧ Gro w wr ∧ ∀ j (h : j < xs.length) (h' : j < ys.length), j < k → xs[j] = ys[j]) (fun t _ => xs.length - (intOf t).toNat)
  case atStart => exact ⟨0, Nat.zero_le _, by go_num, Gro.refl _, fun j _ _ h => by omega⟩
  case round =>
  obtain ⟨k, hk, rfl, hg, hall⟩ := hrel
  have HG := yy hg
  have HL := yy hall
  clear hg hall
  by_cases hlt : k < xs.length
  ·have hlt' : k < ys.length := by have := HLen.out; omega
   obtain ⟨b, off, rfl, hb, hc⟩ := (HA.out.gro HG.out).base hlt
   obtain ⟨c0, c1, c2, c3, c4, c5, c6⟩ := ocells hc hlt
   obtain ⟨b', off', rfl, hb', hc'⟩ := (HB.out.gro HG.out).base hlt'
   obtain ⟨d0, d1, d2, d3, d4, d5, d6⟩ := ocells hc' hlt'
   have e0 := gcell c0; have g0 := gcell d0
   have e1 := gcell c1; have g1 := gcell d1
   have e2 := gcell c2; have g2 := gcell d2
   have e3 := gcell c3; have g3 := gcell d3
   have e4 := gcell c4; have g4 := gcell d4
   have e5 := gcell c5; have g5 := gcell d5
   have e6 := gcell c6; have g6 := gcell d6
   clear c0 c1 c2 c3 c4 c5 c6 d0 d1 d2 d3 d4 d5 d6 hc hc'
   have heq := eqin30 xs[k] ys[k]
   have hX : Hid (decide (xs[k] = ys[k]) = decide (xs[k] = ys[k])) := yy rfl
   generalize hx : xs[k] = x at e0 e1 e2 e3 e4 e5 e6 heq
   generalize hy : ys[k] = y at g0 g1 g2 g3 g4 g5 g6 heq
   have HX := yy hx
   have HY := yy hy
   clear hx hy hX
   have hmix := mixed
   have hgd : Tryz.prog.eqGuardType Tryz.prog.depth 30 = false := by kernel_rfl
   by_cases hxy : x = y
   ·rw [decide_eq_true hxy] at heq
    have HXY := yy hxy
    clear hxy
    go_wp2_with fail
    go_quiet_grown (fail)
    go_wp2
    go_roundw
    case rel => exact ⟨k + 1, by omega, by go_num, HG.out.trans (gro_of_grow _ _ _), fun j h h' hj => by
     by_cases e : j = k
     ·subst e; rw [HX.out, HY.out]; exact HXY.out
     exact HL.out j h h' (by omega)⟩
    case measure => simp [intOf]; omega
   rw [decide_eq_false hxy] at heq
   have hr : decide (xs = ys) = false := decide_eq_false fun h => by
    subst h
    exact hxy (by rw [← HX.out, ← HY.out])
   have HR := yy hr
   clear hxy hr
   go_wp2_with fail
   go_quiet_grown (fail)
   go_wp2
   go_ret
   exact ⟨by rw [HR.out]; rfl, HG.out.trans (gro_of_grow _ _ _)⟩
  have hr : decide (xs = ys) = true := decide_eq_true (List.ext_getElem HLen.out (fun j h h' => HL.out j h h' (by omega)))
  have HR := yy hr
  clear hr
  go_wp2
  go_ret
  exact ⟨by rw [HR.out]; rfl, HG.out⟩
 have hlenI : ¬ ((xs.length : Int) = (ys.length : Int)) := by omega
 have hr : decide (xs = ys) = false := decide_eq_false fun h => hlen (by rw [h])
 have HR := yy hr
 clear hr
 go_enter Tryz.func59, Tryz.ntmps59
 go_wp2
 go_ret
 exact ⟨by rw [HR.out]; rfl, Gro.refl _⟩
set_option maxHeartbeats 2000000 in
set_option maxRecDepth 100000 in
theorem equal60 {w : World} {v1 v2 : Value} {xs ys : List Wsh} (h1 : LV w v1 xs) (h2 : LV w v2 ys) : Calls Tryz.prog 60 #[v1, v2] w fun e w' => e = .returned (.bool (decide (xs = ys))) ∧ Gro w w' := by
 obtain ⟨a, n, rfl, hl⟩ := h1
 obtain ⟨a', n', rfl, hl'⟩ := h2
 have hbig := hl.big
 have HA := yy hl
 have HB := yy hl'
 clear hl hl'
 by_cases hlen : xs.length = ys.length
 ·have hlenI : (xs.length : Int) = (ys.length : Int) := by omega
  have HLen := yy hlen
  clear hlen
  have hne : ¬ ((xs.length : Int) ≠ (ys.length : Int)) := by omega
  rw [← HLen.out]
  clear hlenI hne
  go_enter Tryz.func60, Tryz.ntmps60
  go_wp2
  go_loopw [13] (fun t wr => ∃ k : Nat, k ≤ xs.length ∧ t = .int .i64 k ∧ Gro w wr ∧ ∀ j (h : j < xs.length) (h' : j < ys.length), j < k → xs[j] = ys[j]) (fun t _ => xs.length - (intOf t).toNat)
  case atStart => exact ⟨0, Nat.zero_le _, by go_num, Gro.refl _, fun j _ _ h => by omega⟩
  case round =>
  obtain ⟨k, hk, rfl, hg, hall⟩ := hrel
  have HG := yy hg
  have HL := yy hall
  clear hg hall
  by_cases hlt : k < xs.length
  ·have hlt' : k < ys.length := by have := HLen.out; omega
   obtain ⟨b, off, rfl, hb, hc⟩ := (HA.out.gro HG.out).base hlt
   obtain ⟨c0, c1, c2, c3⟩ := wcells hc hlt
   obtain ⟨b', off', rfl, hb', hc'⟩ := (HB.out.gro HG.out).base hlt'
   obtain ⟨d0, d1, d2, d3⟩ := wcells hc' hlt'
   have e0 := gcell c0; have g0 := gcell d0
   have e1 := gcell c1; have g1 := gcell d1
   have e2 := gcell c2; have g2 := gcell d2
   have e3 := gcell c3; have g3 := gcell d3
   clear c0 c1 c2 c3 d0 d1 d2 d3 hc hc'
   have heq := eqin32 xs[k] ys[k]
   have hX : Hid (decide (xs[k] = ys[k]) = decide (xs[k] = ys[k])) := yy rfl
   generalize hx : xs[k] = x at e0 e1 e2 e3 heq
   generalize hy : ys[k] = y at g0 g1 g2 g3 heq
   have HX := yy hx
   have HY := yy hy
   clear hx hy hX
   have hmix := mixed
   have hgd : Tryz.prog.eqGuardType Tryz.prog.depth 32 = false := by kernel_rfl
   by_cases hxy : x = y
   ·rw [decide_eq_true hxy] at heq
    have HXY := yy hxy
    clear hxy
    go_wp2_with fail
    go_quiet_grown (fail)
    go_wp2
    go_roundw
    case rel => exact ⟨k + 1, by omega, by go_num, HG.out.trans (gro_of_grow _ _ _), fun j h h' hj => by
     by_cases e : j = k
     ·subst e; rw [HX.out, HY.out]; exact HXY.out
     exact HL.out j h h' (by omega)⟩
    case measure => simp [intOf]; omega
   rw [decide_eq_false hxy] at heq
   have hr : decide (xs = ys) = false := decide_eq_false fun h => by
    subst h
    exact hxy (by rw [← HX.out, ← HY.out])
   have HR := yy hr
   clear hxy hr
   go_wp2_with fail
   go_quiet_grown (fail)
   go_wp2
   go_ret
   exact ⟨by rw [HR.out]; rfl, HG.out.trans (gro_of_grow _ _ _)⟩
  have hr : decide (xs = ys) = true := decide_eq_true (List.ext_getElem HLen.out (fun j h h' => HL.out j h h' (by omega)))
  have HR := yy hr
  clear hr
  go_wp2
  go_ret
  exact ⟨by rw [HR.out]; rfl, HG.out⟩
 have hlenI : ¬ ((xs.length : Int) = (ys.length : Int)) := by omega
 have hr : decide (xs = ys) = false := decide_eq_false fun h => hlen (by rw [h])
 have HR := yy hr
 clear hr
 go_enter Tryz.func60, Tryz.ntmps60
 go_wp2
 go_ret
 exact ⟨by rw [HR.out]; rfl, Gro.refl _⟩
end Go.Proofs.YthfagcdjbmhhcaaGreat
namespace Go.Proofs.YthfagcdjbmhhcaaGreat
open Go.RowKit
attribute [local irreducible] wpQuiet
/-- a graph, a book, as values -/
def GrV (w : World) (v : Value) (g : Gr) : Prop := ∃ v1 v2 v3, v = .agg #[v1, v2, v3] ∧ GAt w v1 v2 v3 g
def BkV (w : World) (v : Value) (b : Bk) : Prop := ∃ p o q, v = .agg #[.int .i64 b.round, p, o, q] ∧ LV w p b.ps ∧ LV w o b.os ∧ LV w q b.ws
theorem GrV.gro {w w' : World} {v : Value} {g : Gr} (h : GrV w v g) (k : Gro w w') : GrV w' v g := by
 obtain ⟨v1, v2, v3, h1, h2⟩ := h
 exact ⟨v1, v2, v3, h1, h2.gro k⟩
theorem BkV.gro {w w' : World} {v : Value} {b : Bk} (h : BkV w v b) (k : Gro w w') : BkV w' v b := by
 obtain ⟨p, o, q, h1, h2, h3, h4⟩ := h
 exact ⟨p, o, q, h1, h2.gro k, h3.gro k, h4.gro k⟩
theorem XOwn.bk {w : World} {base X : Nat} {p o q v1 v2 v3 : Value} {g : Gr} {b : Bk} (h : XOwn w base X p o q v1 v2 v3 g b) : BkV w (.agg #[.int .i64 b.round, p, o, q]) b := ⟨p, o, q, rfl, h.at_.ps, h.at_.os, h.at_.ws⟩
/-- bounds on the sizes, so that no index wraps -/
structure Fits (g : Gr) (b : Bk) : Prop where
 gfew : g.few
 bfew : b.few
 v : g.vs.length + b.os.length ≤ 1000000
 e : g.es.length + b.ws.length ≤ 1000000
theorem valid14 {w : World} {vg vb : Value} {g : Gr} {b : Bk} (hG : GrV w vg g) (hB : BkV w vb b) (hf : Fits g b) : Calls Tryz.prog 14 #[vg, vb] w fun e w' => e = .returned (.bool (validB g b)) ∧ Gro w w' := by
 obtain ⟨v1, v2, v3, rfl, hg⟩ := hG
 obtain ⟨p, o, q, rfl, hp, ho, hq⟩ := hB
 have k0 : Gro w ((w.alloc (.cells #[v1, v2, v3] 38)).alloc (.cells #[.int .i64 b.round, p, o, q] 28)) := ((Gro.refl _).alloc _).alloc _
 have HC := yy (read51 (hg.gro k0) (hp.gro k0) (ho.gro k0) (hq.gro k0) hf.gfew hf.bfew hf.v hf.e)
 have K0 := yy k0
 obtain ⟨a1, n1, rfl, _⟩ := hg.vs
 obtain ⟨a2, n2, rfl, _⟩ := hg.es
 obtain ⟨a3, n3, rfl, _⟩ := hg.ds
 obtain ⟨ap, np, rfl, _⟩ := hp
 obtain ⟨ao, no, rfl, _⟩ := ho
 obtain ⟨aq, nq, rfl, _⟩ := hq
 clear hg k0 hf
 go_enter Tryz.func14, Tryz.ntmps14
 go_wp2_with fail
 refine HC.out.mono ?_
 rintro e w1 ⟨k1, hr⟩
 have K1 := yy (Gro.trans K0.out k1)
 clear k1 K0
 rcases hr with ⟨hv, X, p', o', q', rfl, _⟩ | ⟨hv, rfl⟩
 ·have HV := yy hv
  clear hv
  go_wp2
  go_ret
  exact ⟨by rw [HV.out]; rfl, K1.out⟩
 have HV := yy hv
 clear hv
 go_wp2
 go_ret
 exact ⟨by rw [HV.out]; rfl, K1.out⟩
theorem bk_eq {a b : Bk} : decide (a = b) = (decide (a.round = b.round) && decide (a.ps = b.ps) && decide (a.os = b.os) && decide (a.ws = b.ws)) := by
 rw [Bool.eq_iff_iff]
 cases a; cases b
 simp [and_assoc]
set_option maxHeartbeats 1000000 in
theorem same16 {w : World} {va vb : Value} {a b : Bk} (hA : BkV w va a) (hB : BkV w vb b) : Calls Tryz.prog 16 #[va, vb] w fun e w' => e = .returned (.bool (decide (a = b))) ∧ Gro w w' := by
 obtain ⟨p, o, q, rfl, hp, ho, hq⟩ := hA
 obtain ⟨p', o', q', rfl, hp', ho', hq'⟩ := hB
 have k0 : Gro w ((w.alloc (.cells #[.int .i64 a.round, p, o, q] 28)).alloc (.cells #[.int .i64 b.round, p', o', q'] 28)) := ((Gro.refl _).alloc _).alloc _
 have b1 := blk_alloc (blk_new w (.cells #[.int .i64 a.round, p, o, q] 28)) (.cells #[.int .i64 b.round, p', o', q'] 28)
 have b2 := blk_new (w.alloc (.cells #[.int .i64 a.round, p, o, q] 28)) (.cells #[.int .i64 b.round, p', o', q'] 28)
 rw [asz] at b2
 obtain ⟨w0, hw0⟩ : ∃ w0, w0 = (w.alloc (.cells #[.int .i64 a.round, p, o, q] 28)).alloc (.cells #[.int .i64 b.round, p', o', q'] 28) := ⟨_, rfl⟩
 rw [← hw0] at k0 b1 b2
 have C1 : Hid (∀ W, Gro w0 W → Calls Tryz.prog 58 #[p, p'] W fun e w' => e = .returned (.bool (decide (a.ps = b.ps))) ∧ Gro W w') := yy fun W hW => equal58 ((hp.gro k0).gro hW) ((hp'.gro k0).gro hW)
 have C2 : Hid (∀ W, Gro w0 W → Calls Tryz.prog 59 #[o, o'] W fun e w' => e = .returned (.bool (decide (a.os = b.os))) ∧ Gro W w') := yy fun W hW => equal59 ((ho.gro k0).gro hW) ((ho'.gro k0).gro hW)
 have C3 : Hid (∀ W, Gro w0 W → Calls Tryz.prog 60 #[q, q'] W fun e w' => e = .returned (.bool (decide (a.ws = b.ws))) ∧ Gro W w') := yy fun W hW => equal60 ((hq.gro k0).gro hW) ((hq'.gro k0).gro hW)
 have hr := bk_eq (a := a) (b := b)
 generalize decide (a.ps = b.ps) = q1 at hr C1
 generalize decide (a.os = b.os) = q2 at hr C2
 generalize decide (a.ws = b.ws) = q3 at hr C3
 have HR := yy hr
 have K0 := yy k0
 have B1 := yy b1
 have B2 := yy b2
 have HW := yy hw0
 obtain ⟨ap, np, rfl, _⟩ := hp
 obtain ⟨ao, no, rfl, _⟩ := ho
 obtain ⟨aq, nq, rfl, _⟩ := hq
 obtain ⟨ap', np', rfl, _⟩ := hp'
 obtain ⟨ao', no', rfl, _⟩ := ho'
 obtain ⟨aq', nq', rfl, _⟩ := hq'
 clear k0 b1 b2 hw0 hr
 generalize b.round = br at HW B1 B2 HR ⊢
 by_cases hro : a.round = br
 ·have hd := decide_eq_true hro
  rw [hd] at HR
  clear hd
  subst hro
  go_enter Tryz.func16, Tryz.ntmps16
  go_wp2_with fail
  rw [← HW.out]
  refine (C1.out _ (Gro.refl _)).mono ?_
  rintro e w1 ⟨rfl, k1⟩
  cases q1 with
  | false =>
   have K1 := yy (Gro.trans K0.out k1)
   clear k1
   go_wp2
   go_ret
   exact ⟨by rw [HR.out]; rfl, K1.out⟩
  | true =>
  have c2 := blk_cell (k1.blk B1.out) 2
  have d2 := blk_cell (k1.blk B2.out) 2
  simp only [lPa, lPb, lPc] at c2 d2
  have hl1 := blk_lt (k1.blk B1.out)
  have hl2 := blk_lt (k1.blk B2.out)
  have K1 := yy k1
  clear k1
  go_wp2_with fail
  refine (C2.out _ K1.out).mono ?_
  rintro e w2 ⟨rfl, k2⟩
  clear c2 d2 hl1 hl2
  cases q2 with
  | false =>
   have K2 := yy (Gro.trans K0.out (Gro.trans K1.out k2))
   clear k2
   go_wp2
   go_ret
   exact ⟨by rw [HR.out]; rfl, K2.out⟩
  | true =>
  have K2 := yy (Gro.trans K1.out k2)
  have c2 := blk_cell (K2.out.blk B1.out) 3
  have d2 := blk_cell (K2.out.blk B2.out) 3
  simp only [lPa, lPb, lPc] at c2 d2
  have hl1 := blk_lt (K2.out.blk B1.out)
  have hl2 := blk_lt (K2.out.blk B2.out)
  clear k2
  go_wp2_with fail
  refine (C3.out _ K2.out).mono ?_
  rintro e w3 ⟨rfl, k3⟩
  have K3 := yy (Gro.trans K0.out (Gro.trans K2.out k3))
  clear k3 c2 d2 hl1 hl2
  go_wp2
  go_ret
  exact ⟨by rw [HR.out]; cases q3 <;> rfl, K3.out⟩
 have hd := decide_eq_false hro
 rw [hd] at HR
 clear hd
 go_enter Tryz.func16, Tryz.ntmps16
 go_wp2
 go_ret
 exact ⟨by rw [HR.out]; rfl, by rw [← HW.out]; exact K0.out⟩
end Go.Proofs.YthfagcdjbmhhcaaGreat
namespace Go.Proofs.YthfagcdjbmhhcaaGreat
open Go.RowKit
attribute [local irreducible] wpQuiet
/-- a book that a call with the world w0 at its start has made and is changing -/
structure XM (w0 w : World) (X : Nat) (p o q v1 v2 v3 : Value) (g : Gr) (b : Bk) : Prop where
 blk : w.heap[X]? = some (.cells #[.int .i64 b.round, p, o, q, v1, v2, v3] 103 (0, 0))
 ps : OwnL w w0.heap.size p b.ps
 os : OwnL w w0.heap.size o b.os
 ws : OwnL w w0.heap.size q b.ws
 lo : w0.heap.size ≤ X
 kept : Kept (fun k => w0.heap.size ≤ k) w0 w
 gr : GAt w0 v1 v2 v3 g
theorem LV.old {α : Type} [Rec α] {w0 w : World} {v : Value} {l : List α} (h : LV w0 v l) (k : Kept (fun k => w0.heap.size ≤ k) w0 w) : LV w v l := by
 obtain ⟨a, c, rfl, h2⟩ := h
 refine ⟨a, c, rfl, h2.len, h2.cap, h2.big, h2.at_.imp id fun ⟨b, off, h1, h2, h3⟩ => ⟨b, off, h1, Nat.lt_of_lt_of_le h2 k.size, fun i v hv => k.cell (by show ¬ (w0.heap.size ≤ b); omega) (h3 i v hv)⟩⟩
theorem GAt.old {w0 w : World} {v1 v2 v3 : Value} {g : Gr} (h : GAt w0 v1 v2 v3 g) (k : Kept (fun k => w0.heap.size ≤ k) w0 w) : GAt w v1 v2 v3 g := ⟨h.vs.old k, h.es.old k, h.ds.old k⟩
theorem XM.at_ {w0 w : World} {X : Nat} {p o q v1 v2 v3 : Value} {g : Gr} {b : Bk} (h : XM w0 w X p o q v1 v2 v3 g b) (hf : b.few) : XAt w X p o q v1 v2 v3 g b :=
 ⟨h.blk, h.ps.lv (by have := hf.ps; omega), h.os.lv (by have := hf.os; omega), h.ws.lv (by have := hf.ws; omega), h.gr.old h.kept⟩
theorem XM.gro {w0 w w' : World} {X : Nat} {p o q v1 v2 v3 : Value} {g : Gr} {b : Bk} (h : XM w0 w X p o q v1 v2 v3 g b) (k : Gro w w') : XM w0 w' X p o q v1 v2 v3 g b :=
 ⟨k.blk h.blk, h.ps.gro k, h.os.gro k, h.ws.gro k, h.lo, h.kept.trans (k.kept _), h.gr⟩
theorem XOwn.xm {w0 w : World} {X : Nat} {p o q v1 v2 v3 : Value} {g : Gr} {b : Bk} (h : XOwn w w0.heap.size X p o q v1 v2 v3 g b) (k : Gro w0 w) (hg : GAt w0 v1 v2 v3 g) : XM w0 w X p o q v1 v2 v3 g b :=
 ⟨h.at_.blk, h.ps, h.os, h.ws, h.lo, k.kept _, hg⟩
/-- a cell of the book's own is written -/
theorem XM.setWs {w0 w w' : World} {X : Nat} {p o q q' v1 v2 v3 : Value} {g : Gr} {b : Bk} {ws' : List Wsh} (h : XM w0 w X p o q v1 v2 v3 g b) (ho : OwnL w' w0.heap.size q' ws') (k : Kept (ownF q) w w') :
  XM w0 (w'.setCell ⟨X, 3, none⟩ q') X p o q' v1 v2 v3 g { b with ws := ws' } := by
 have hX := k.blk h.blk (own_far h.ws h.blk (by decide))
 have hp := h.ps.kept k (own_far2 h.ws h.ps (by decide))
 have hos := h.os.kept k (own_far2 h.ws h.os (by decide))
 have kk : Kept (· = X) w' (w'.setCell ⟨X, 3, none⟩ q') := (Kept.refl (· = X) w').setCell (p := ⟨X, 3, none⟩) (.inl rfl) q'
 have far : ∀ {β : Type} [Rec β] {v : Value} {l : List β}, OwnL w' w0.heap.size v l → 103 ≠ Rec.ty β → ∀ j, v.ownBlock = some j → ¬ (j = X) := by
  intro β _ v l hh hn j hj e
  subst e
  obtain ⟨_, _, cur, hc⟩ := hh.block hj
  exact blk_ne hX hc hn rfl
 refine ⟨?_, hp.kept kk (far hp (by decide)), hos.kept kk (far hos (by decide)), ho.kept kk (far ho (by decide)), h.lo, ?_, h.gr⟩
 ·have := blk_set hX 3 q'
  simpa using this
 exact (h.kept.trans' k (fun i hi => .inl (h.ws.block hi).1)).trans' kk (fun i hi => .inl (by subst hi; exact h.lo))
theorem flat_state : ∀ (l : List Ofr) (i : Nat) (h : i < l.length) (st : Int), flat (l.set i { l[i] with state := st }) = (flat l).set (i * 7 + 6) (.int .i64 st)
 | y :: ys, 0, _, st => by simp [flat, Rec.cs]
 | y :: ys, i + 1, h, st => by
  have ih := flat_state ys i (by simpa using h) st
  have e : (i + 1) * 7 + 6 = (i * 7 + 6) + 7 := by omega
  simp only [List.getElem_cons_succ]
  rw [List.set_cons_succ, flat_cons, ih, flat_cons, e]
  simp [Rec.cs]
theorem OwnL.setState {w : World} {base : Nat} {v : Value} {l : List Ofr} (h : OwnL w base v l) {g cap : Nat} (hv : v = .slice (some ⟨g, 0, none⟩) l.length cap) (i : Nat) (hi : i < l.length) (st : Int) :
  OwnL (w.setCell ⟨g, i * 7 + 6, none⟩ (.int .i64 st)) base v (l.set i { l[i] with state := st }) := by
 subst hv
 rcases h.2 with ⟨h0, _⟩ | ⟨g', cap', cur, h0, a1, a2, a3, a4, a5, a6⟩
 ·cases h0
 injection h0 with e1 e2 e3
 injection e1 with e1
 injection e1 with e1 _ _
 subst e1 e3
 refine ⟨by rw [flat_length, List.length_set], .inr ⟨g, cap, cur.setIfInBounds (i * 7 + 6) (.int .i64 st), by rw [List.length_set], a1, blk_set a2 _ _, by rw [List.length_set]; exact a3, a4, by rw [Array.size_setIfInBounds]; exact a5, ?_⟩⟩
 rw [flat_state l i hi st, List.length_set, Array.toList_setIfInBounds]
 have a6' : cur.toList.take (l.length * 7) = flat l := a6
 rw [← a6']
 show List.take (l.length * 7) _ = _
 rw [List.take_set]
def closeAt (b : Bk) (i : Nat) (hi : i < b.os.length) (st : Int) : Bk := { b with os := b.os.set i { b.os[i] with state := st }, ws := b.ws.filter fun w => !(w.src == b.os[i].id || w.dst == b.os[i].id) }
theorem clo120 {W : World} {C : Nat} {id : Int} (hC : W.heap[C]? = some (.cells #[.int .i64 id] 3 (0, 0))) (x : Wsh) :
  Calls Tryz.prog 120 #[.agg #[.int .i64 x.edge, .int .i64 x.src, .int .i64 x.dst, .int .i64 x.weight], .pointer (some ⟨C, 0, none⟩)] W fun e w' => e = .returned (.bool (x.src == id || x.dst == id)) ∧ Gro W w' := by
 have cc := box_cell hC
 have hlt := World.block_lt_of_cell? W _ cc
 clear hC
 by_cases h1 : x.src = id
 ·have hr : (x.src == id || x.dst == id) = true := by simp [h1]
  have HR := yy hr
  clear hr
  have hb : (x.src == id) = true := by simpa using h1
  go_enter Tryz.func120, Tryz.ntmps120
  go_wp2
  go_ret
  exact ⟨by first | (rw [HR.out]; rfl) | rfl, (Gro.refl _).alloc _⟩
 have hr : (x.src == id || x.dst == id) = (x.dst == id) := by simp [h1]
 have HR := yy hr
 clear hr
 go_enter Tryz.func120, Tryz.ntmps120
 go_wp2
 go_ret
 exact ⟨by first | (rw [HR.out]; rfl) | rfl, (Gro.refl _).alloc _⟩
theorem eg120 : ∀ args w, (callFunc 120 args).run Tryz.prog w = .ok (.enter 120 args) w := enters_of Tryz.func120 (by kernel_rfl) rfl
end Go.Proofs.YthfagcdjbmhhcaaGreat
namespace Go.Proofs.YthfagcdjbmhhcaaGreat
open Go.RowKit
attribute [local irreducible] wpQuiet
theorem OwnL.cells {α : Type} [Rec α] {w : World} {base g n cap : Nat} {l : List α} (h : OwnL w base (.slice (some ⟨g, 0, none⟩) n cap) l) {i : Nat} {v : Value} (hv : (flat l)[i]? = some v) : w.cell? ⟨g, i, none⟩ = some v := by
 rcases h.2 with ⟨h0, _⟩ | ⟨g', cap', cur, h0, a1, a2, a3, a4, a5, a6⟩
 ·cases h0
 injection h0 with e1 e2 e3
 injection e1 with e1
 injection e1 with e1 _ _
 subst e1
 have hi : i < (flat l).length := (List.getElem?_eq_some_iff.1 hv).1
 rw [blk_cell a2, ← Array.getElem?_toList, ← hv, ← a6, List.getElem?_take, if_pos (by rw [flat_length] at hi; exact hi)]
theorem OwnL.froz {α : Type} [Rec α] {w : World} {base g n cap : Nat} {l : List α} (h : OwnL w base (.slice (some ⟨g, 0, none⟩) n cap) l) (i : Nat) : w.frozen? ⟨g, i, none⟩ = false := by
 obtain ⟨_, _, cur, hc⟩ := h.block (k := g) rfl
 exact blk_frozen hc i
theorem OwnL.formI {α : Type} [Rec α] {w : World} {base : Nat} {v : Value} {l : List α} (h : OwnL w base v l) {i : Nat} (hi : i < l.length) : ∃ g cap, v = .slice (some ⟨g, 0, none⟩) l.length cap ∧ base ≤ g ∧ l.length ≤ cap := by
 rcases h.2 with ⟨_, h0⟩ | ⟨g', cap', cur, h0, a1, a2, a3, a4⟩
 ·omega
 exact ⟨g', cap', h0, a1, a3⟩
/-- the state of an offer is written -/
theorem XM.setState {w0 w : World} {X : Nat} {p q v1 v2 v3 : Value} {go co : Nat} {g : Gr} {b : Bk} (h : XM w0 w X p (.slice (some ⟨go, 0, none⟩) b.os.length co) q v1 v2 v3 g b) (i : Nat) (hi : i < b.os.length) (st : Int) :
  XM w0 (w.setCell ⟨go, i * 7 + 6, none⟩ (.int .i64 st)) X p (.slice (some ⟨go, 0, none⟩) b.os.length co) q v1 v2 v3 g { b with os := b.os.set i { b.os[i] with state := st } } := by
 obtain ⟨hgo, hgl, cur, hgb⟩ := h.os.block (k := go) rfl
 have kk : Kept (· = go) w (w.setCell ⟨go, i * 7 + 6, none⟩ (.int .i64 st)) := (Kept.refl (· = go) w).setCell (p := ⟨go, i * 7 + 6, none⟩) (.inl rfl) _
 have far : ∀ {β : Type} [Rec β] {v : Value} {l : List β}, OwnL w w0.heap.size v l → Rec.ty Ofr ≠ Rec.ty β → ∀ j, v.ownBlock = some j → ¬ (j = go) := by
  intro β _ v l hh hn j hj e
  subst e
  obtain ⟨_, _, cur', hc⟩ := hh.block hj
  exact blk_ne hgb hc hn rfl
 refine ⟨blk_far h.blk (by intro e; subst e; exact blk_ne hgb h.blk (by decide) rfl) _, h.ps.kept kk (far h.ps (by decide)), h.os.setState rfl i hi st, h.ws.kept kk (far h.ws (by decide)), h.lo, ?_, h.gr⟩
 exact h.kept.trans' kk (fun j hj => .inl (by subst hj; exact hgo))
set_option maxHeartbeats 2000000 in
theorem close71 {w0 w : World} {X : Nat} {p o q v1 v2 v3 : Value} {g : Gr} {b : Bk} (h : XM w0 w X p o q v1 v2 v3 g b) (hf : b.few) (i : Nat) (hi : i < b.os.length) (st : Int) :
  Calls Tryz.prog 71 #[.pointer (some ⟨X, 0, none⟩), .int .i64 i, .int .i64 st] w fun e w' => e = .returned (.tuple #[]) ∧ ∃ q', XM w0 w' X p o q' v1 v2 v3 g (closeAt b i hi st) := by
 obtain ⟨go, co, rfl, hgo, hco⟩ := h.os.formI hi
 obtain ⟨aq, cq, rfl⟩ := h.ws.form
 have hx := (h.at_ hf).cells
 obtain ⟨_, _, c2, c3, _, _, _⟩ := hx
 have hid : w.cell? ⟨go, i * 7, none⟩ = some (.int .i64 b.os[i].id) := h.os.cells (by have := flat_get b.os i hi 0 (by decide); exact this)
 have hst : w.cell? ⟨go, i * 7 + 6, none⟩ = some (.int .i64 b.os[i].state) := h.os.cells (by have := flat_get b.os i hi 6 (by decide); exact this)
 have hfz := h.os.froz (i * 7 + 6)
 have hfx := blk_frozen h.blk 3
 have hl1 := World.block_lt_of_cell? w _ c2
 have hl2 := World.block_lt_of_cell? w _ hid
 have hlen := hf.os
 have hi' := hi
 go_enter Tryz.func71, Tryz.ntmps71
 go_wp2_with fail
 have hxm := XM.gro (h.setState i hi st) ((Gro.refl _).alloc (Obj.cells #[Value.int IntKind.i64 b.os[i].id] 3))
 have hb : Bk.few { b with os := b.os.set i { b.os[i] with state := st } } := ⟨hf.ps, by rw [List.length_set]; exact hf.os, hf.ws⟩
 have hnew := blk_new (w.setCell { block := go, off := i * 7 + 6 } (Value.int IntKind.i64 st)) (Obj.cells #[Value.int IntKind.i64 b.os[i].id] 3)
 rw [show (w.setCell { block := go, off := i * 7 + 6 } (Value.int IntKind.i64 st)).heap.size = w.heap.size by simp [World.setCell]] at hnew
 generalize (w.setCell { block := go, off := i * 7 + 6 } (Value.int IntKind.i64 st)).alloc (Obj.cells #[Value.int IntKind.i64 b.os[i].id] 3) = w2 at hxm hnew ⊢
 have hwB := hxm.blk
 have hfar := own_far hxm.ws hnew (by decide)
 refine (delf119 hxm.ws hb.ws (fun x => x.src == b.os[i].id || x.dst == b.os[i].id) 120 #[.pointer (some ⟨w.heap.size, 0, none⟩)] eg120 (fun W x hW => clo120 (hW.blk hnew hfar) x)).mono ?_
 rintro e w3 ⟨q', rfl, hown, hk, _⟩
 have hX3 := hk.blk hwB (own_far hxm.ws hwB (by decide))
 have d3 := blk_cell hX3 3
 have hd3 := blk_frozen hX3 3
 have hfin : XM w0 (w3.setCell ⟨X, 3, none⟩ q') X p _ q' v1 v2 v3 g (closeAt b i hi st) := XM.setWs hxm hown hk
 obtain ⟨aq', cq', hq'⟩ := hown.form
 generalize (List.filter (fun x => !(x.src == b.os[i].id || x.dst == b.os[i].id)) b.ws).length = nq at hq'
 subst hq'
 have HF := yy hfin
 clear hxm hb hnew hfar hown hk hX3 hfin c2 c3 hid hst hfz hfx hl1 hl2 h hf hwB
 simp only [List.getElem?_toArray, List.getElem?_cons_succ, List.getElem?_cons_zero] at d3
 have hl3 := World.block_lt_of_cell? w3 _ d3
 go_wp2_with fail
 go_end0
 exact ⟨rfl, _, HF.out⟩
end Go.Proofs.YthfagcdjbmhhcaaGreat
