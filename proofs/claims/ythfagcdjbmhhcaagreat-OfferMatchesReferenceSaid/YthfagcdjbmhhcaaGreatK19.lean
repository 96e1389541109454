/- the examples of sane, in plain data. the law's sane. -/
import Derived.Test.YthfagcdjbmhhcaaGreatK17
import Derived.Test.YthfagcdjbmhhcaaGreatK12
set_option linter.unusedVariables false
set_option linter.unusedSimpArgs false
namespace Go.Proofs.YthfagcdjbmhhcaaGreat
def gS : Gr := ⟨[⟨0, 0⟩], [], []⟩
def psS : List Pty := [⟨1, 100⟩, ⟨2, 0⟩]
def xLoad : Ofr := ⟨5, 1, 1, 0, 60, 1, 1⟩
def xOther : Ofr := ⟨6, 1, 1, 0, 50, 1, 1⟩
def xVeh : Ofr := ⟨7, 2, 2, 0, 45, 2, 1⟩
def w15 : Wsh := ⟨3, 5, 7, 15⟩
def w14 : Wsh := ⟨3, 5, 7, 14⟩
def bS : Bk := ⟨0, psS, [], []⟩
def bA : Bk := ⟨0, psS, [xLoad], []⟩
def bC : Bk := ⟨0, psS, [xLoad, xVeh], []⟩
def bD : Bk := ⟨0, psS, [xLoad, xVeh], [w15]⟩
def bW : Bk := ⟨0, psS, [⟨5, 1, 1, 0, 60, 1, 2⟩, xVeh], []⟩
def bN : Bk := ⟨1, psS, [xLoad, xVeh], [w15]⟩
def bP : Bk := ⟨2, psS, [⟨5, 1, 1, 0, 60, 1, 4⟩, xVeh], []⟩
def bT : Bk := ⟨0, psS, [⟨5, 1, 1, 0, 60, 1, 3⟩, ⟨7, 2, 2, 0, 45, 2, 3⟩], []⟩
def gD : Gr := ⟨[⟨0, 0⟩, ⟨5, 1⟩, ⟨7, 2⟩], [⟨3, 5, 7, false, 15, 0⟩], []⟩
def b31 : Bk := ⟨31, [], [], []⟩
theorem s_a : chk gS bS (doAdd bS xLoad) = some bA := by decide
theorem s_f : chk gS bA (doAdd bA xOther) = none := by decide
theorem s_c : chk gS bA (doAdd bA xVeh) = some bC := by decide
theorem s_d : chk gS bC (doWant bC w15) = some bD := by decide
theorem s_j : chk gS bC (doWant bC w14) = none := by decide
theorem s_g : graphOf gS bD = some gD := by decide
theorem s_l : chk gS bD (doW bD 2 5) = none := by decide
theorem s_w : chk gS bD (doW bD 1 5) = some bW := by decide
theorem s_n : chk gS bD (doNext bD) = some bN := by decide
theorem s_p : chk gS bN (doNext bN) = some bP := by decide
theorem s_t : chk gS bD (doTake bD [5, 7]) = some bT := by decide
theorem s_x : chk gS bD (doDrop bD 3) = some bC := by decide
theorem s_y : changesOf gS bD bW = some [dropE ⟨3, 5, 7, false, 15, 0⟩, dropV ⟨5, 1⟩] := by decide
theorem s_v : validB gS bD = true := by decide
theorem s_31 : validB gS b31 = false := by decide
end Go.Proofs.YthfagcdjbmhhcaaGreat
namespace Go.Proofs.YthfagcdjbmhhcaaGreat
open Go.RowKit
attribute [local irreducible] wpQuiet
theorem ch_some {w : World} {r : Option Bk} {b : Bk} {rd : Int} {n1 n2 n3 : Nat} (hr : r = some b) (h0 : b.round = rd) (h1 : b.ps.length = n1) (h2 : b.os.length = n2) (h3 : b.ws.length = n3) (e : Ending) (w' : World) (h : ChPost w r e w') :
  ∃ (a1 : Option Addr) (c1 : Nat) (a2 : Option Addr) (c2 : Nat) (a3 : Option Addr) (c3 : Nat), e = .returned (.tuple #[.agg #[.int .i64 rd, .slice a1 n1 c1, .slice a2 n2 c2, .slice a3 n3 c3], .int .i64 0]) ∧ (∀ W, Gro w' W → BkV W (.agg #[.int .i64 rd, .slice a1 n1 c1, .slice a2 n2 c2, .slice a3 n3 c3]) b) ∧ Gro w w' := by
 obtain ⟨k, ⟨b2, vv, hr2, rfl, p, o, q, rfl, ⟨a1, c1, rfl, l1⟩, ⟨a2, c2, rfl, l2⟩, ⟨a3, c3, rfl, l3⟩⟩ | ⟨hr2, _⟩⟩ := h
 ·rw [hr] at hr2
  injection hr2 with hr2
  subst hr2 h0 h1 h2 h3
  exact ⟨a1, c1, a2, c2, a3, c3, rfl, fun W hW => ⟨_, _, _, rfl, ⟨_, _, rfl, l1.gro hW⟩, ⟨_, _, rfl, l2.gro hW⟩, ⟨_, _, rfl, l3.gro hW⟩⟩, k⟩
 rw [hr] at hr2; cases hr2
theorem ch_none {w : World} {r : Option Bk} (hr : r = none) (e : Ending) (w' : World) (h : ChPost w r e w') : e = .returned (.tuple #[.agg #[.int .i64 0, .slice none 0 0, .slice none 0 0, .slice none 0 0], .int .i64 270]) ∧ Gro w w' := by
 obtain ⟨k, ⟨b2, vv, hr2, _⟩ | ⟨_, h2⟩⟩ := h
 ·rw [hr] at hr2; cases hr2
 exact ⟨h2, k⟩
theorem gr_some {w : World} {r : Option Gr} {g : Gr} {n1 n2 n3 : Nat} (hr : r = some g) (h1 : g.vs.length = n1) (h2 : g.es.length = n2) (h3 : g.ds.length = n3) (e : Ending) (w' : World) (h : GrPost w r e w') :
  ∃ (a1 : Option Addr) (c1 : Nat) (a2 : Option Addr) (c2 : Nat) (a3 : Option Addr) (c3 : Nat), e = .returned (.tuple #[.agg #[.slice a1 n1 c1, .slice a2 n2 c2, .slice a3 n3 c3], .int .i64 0]) ∧ (∀ W, Gro w' W → LV W (.slice a2 n2 c2) g.es) ∧ Gro w w' := by
 obtain ⟨k, ⟨g2, vv, hr2, rfl, v1, v2, v3, rfl, ⟨⟨a1, c1, rfl, l1⟩, ⟨a2, c2, rfl, l2⟩, ⟨a3, c3, rfl, l3⟩⟩⟩ | ⟨hr2, _⟩⟩ := h
 ·rw [hr] at hr2
  injection hr2 with hr2
  subst hr2 h1 h2 h3
  exact ⟨a1, c1, a2, c2, a3, c3, rfl, fun W hW => ⟨_, _, rfl, l2.gro hW⟩, k⟩
 rw [hr] at hr2; cases hr2
theorem cg_some {w : World} {r : Option (List Chg)} {l : List Chg} {n : Nat} (hr : r = some l) (h1 : l.length = n) (e : Ending) (w' : World) (h : ChgPost w r e w') :
  ∃ (a : Option Addr) (c : Nat), e = .returned (.tuple #[.slice a n c, .int .i64 0]) ∧ (∀ W, Gro w' W → LV W (.slice a n c) l) ∧ Gro w w' := by
 obtain ⟨k, ⟨l2, vv, hr2, rfl, ⟨a, c, rfl, l1⟩⟩ | ⟨hr2, _⟩⟩ := h
 ·rw [hr] at hr2
  injection hr2 with hr2
  subst hr2 h1
  exact ⟨a, c, rfl, fun W hW => ⟨_, _, rfl, l1.gro hW⟩, k⟩
 rw [hr] at hr2; cases hr2
theorem fitsS (b : Bk) (h1 : b.ps.length ≤ 1000) (h2 : b.os.length ≤ 1000) (h3 : b.ws.length ≤ 1000) : Fits gS b := fits_of (validB_iff.1 s_v).vg h1 h2 h3
theorem lv_cell {α : Type} [Rec α] {w : World} {a : Option Addr} {n c : Nat} {l : List α} (h : LV w (.slice a n c) l) (hn : 0 < l.length) : ∃ B off, a = some ⟨B, off, none⟩ ∧ B < w.heap.size ∧ ∀ i v, (flat l)[i]? = some v → w.cell? ⟨B, off + i, none⟩ = some v := by
 obtain ⟨a', c', e, h2⟩ := h
 injection e with e1 e2 e3
 subst e1
 exact h2.base hn
def Sane (w : World) (e : Ending) (w' : World) : Prop := e = .returned (.bool true) ∧ Gro w w'
set_option maxHeartbeats 40000000 in
set_option maxRecDepth 100000 in
theorem sane9 (w : World) : Calls Tryz.prog 9 #[] w (Sane w) := by
 have hmix := mixed
 obtain ⟨W0, hW0⟩ : ∃ W0, W0 = (((((w.alloc (Obj.cells #[.int .i64 0, .int .i64 0] 77)).alloc (Obj.cells #[.slice (some ⟨w.heap.size, 0, none⟩) 1 1, .slice none 0 0, .slice none 0 0] 38)).alloc (Obj.cells #[.int .i64 1, .int .i64 100, .int .i64 2, .int .i64 0] 66)).alloc (Obj.cells #[.int .i64 0, .slice (some ⟨w.heap.size + 1 + 1, 0, none⟩) 2 2, .slice none 0 0, .slice none 0 0] 28)).alloc (Obj.cells #[.int .i64 5, .int .i64 1, .int .i64 1, .int .i64 0, .int .i64 60, .int .i64 1, .int .i64 1] 30)).alloc (Obj.cells #[.int .i64 6, .int .i64 1, .int .i64 1, .int .i64 0, .int .i64 50, .int .i64 1, .int .i64 1] 30) := ⟨_, rfl⟩
 have k0 : Gro w W0 := by rw [hW0]; exact ((((((Gro.refl _).alloc _).alloc _).alloc _).alloc _).alloc _).alloc _
 have q0 : W0.heap[w.heap.size]? = some (.cells #[.int .i64 0, .int .i64 0] 77 (0, 0)) := by
  rw [hW0]
  have := blk_new (w) (Obj.cells #[.int .i64 0, .int .i64 0] 77)
  exact blk_alloc (blk_alloc (blk_alloc (blk_alloc (blk_alloc (this) _) _) _) _) _
 have q1 : W0.heap[w.heap.size + 1]? = some (.cells #[.slice (some ⟨w.heap.size, 0, none⟩) 1 1, .slice none 0 0, .slice none 0 0] 38 (0, 0)) := by
  rw [hW0]
  have := blk_new ((w).alloc (Obj.cells #[.int .i64 0, .int .i64 0] 77)) (Obj.cells #[.slice (some ⟨w.heap.size, 0, none⟩) 1 1, .slice none 0 0, .slice none 0 0] 38)
  rw [asz] at this
  exact blk_alloc (blk_alloc (blk_alloc (blk_alloc (this) _) _) _) _
 have q2 : W0.heap[w.heap.size + 1 + 1]? = some (.cells #[.int .i64 1, .int .i64 100, .int .i64 2, .int .i64 0] 66 (0, 0)) := by
  rw [hW0]
  have := blk_new (((w).alloc (Obj.cells #[.int .i64 0, .int .i64 0] 77)).alloc (Obj.cells #[.slice (some ⟨w.heap.size, 0, none⟩) 1 1, .slice none 0 0, .slice none 0 0] 38)) (Obj.cells #[.int .i64 1, .int .i64 100, .int .i64 2, .int .i64 0] 66)
  rw [asz, asz] at this
  exact blk_alloc (blk_alloc (blk_alloc (this) _) _) _
 have q3 : W0.heap[w.heap.size + 1 + 1 + 1]? = some (.cells #[.int .i64 0, .slice (some ⟨w.heap.size + 1 + 1, 0, none⟩) 2 2, .slice none 0 0, .slice none 0 0] 28 (0, 0)) := by
  rw [hW0]
  have := blk_new ((((w).alloc (Obj.cells #[.int .i64 0, .int .i64 0] 77)).alloc (Obj.cells #[.slice (some ⟨w.heap.size, 0, none⟩) 1 1, .slice none 0 0, .slice none 0 0] 38)).alloc (Obj.cells #[.int .i64 1, .int .i64 100, .int .i64 2, .int .i64 0] 66)) (Obj.cells #[.int .i64 0, .slice (some ⟨w.heap.size + 1 + 1, 0, none⟩) 2 2, .slice none 0 0, .slice none 0 0] 28)
  rw [asz, asz, asz] at this
  exact blk_alloc (blk_alloc (this) _) _
 have q4 : W0.heap[w.heap.size + 1 + 1 + 1 + 1]? = some (.cells #[.int .i64 5, .int .i64 1, .int .i64 1, .int .i64 0, .int .i64 60, .int .i64 1, .int .i64 1] 30 (0, 0)) := by
  rw [hW0]
  have := blk_new (((((w).alloc (Obj.cells #[.int .i64 0, .int .i64 0] 77)).alloc (Obj.cells #[.slice (some ⟨w.heap.size, 0, none⟩) 1 1, .slice none 0 0, .slice none 0 0] 38)).alloc (Obj.cells #[.int .i64 1, .int .i64 100, .int .i64 2, .int .i64 0] 66)).alloc (Obj.cells #[.int .i64 0, .slice (some ⟨w.heap.size + 1 + 1, 0, none⟩) 2 2, .slice none 0 0, .slice none 0 0] 28)) (Obj.cells #[.int .i64 5, .int .i64 1, .int .i64 1, .int .i64 0, .int .i64 60, .int .i64 1, .int .i64 1] 30)
  rw [asz, asz, asz, asz] at this
  exact blk_alloc (this) _
 have q5 : W0.heap[w.heap.size + 1 + 1 + 1 + 1 + 1]? = some (.cells #[.int .i64 6, .int .i64 1, .int .i64 1, .int .i64 0, .int .i64 50, .int .i64 1, .int .i64 1] 30 (0, 0)) := by
  rw [hW0]
  have := blk_new ((((((w).alloc (Obj.cells #[.int .i64 0, .int .i64 0] 77)).alloc (Obj.cells #[.slice (some ⟨w.heap.size, 0, none⟩) 1 1, .slice none 0 0, .slice none 0 0] 38)).alloc (Obj.cells #[.int .i64 1, .int .i64 100, .int .i64 2, .int .i64 0] 66)).alloc (Obj.cells #[.int .i64 0, .slice (some ⟨w.heap.size + 1 + 1, 0, none⟩) 2 2, .slice none 0 0, .slice none 0 0] 28)).alloc (Obj.cells #[.int .i64 5, .int .i64 1, .int .i64 1, .int .i64 0, .int .i64 60, .int .i64 1, .int .i64 1] 30)) (Obj.cells #[.int .i64 6, .int .i64 1, .int .i64 1, .int .i64 0, .int .i64 50, .int .i64 1, .int .i64 1] 30)
  rw [asz, asz, asz, asz, asz] at this
  exact this
 have HRV : Hid (∀ W, Gro W0 W → GrV W (.agg #[.slice (some ⟨w.heap.size, 0, none⟩) 1 1, .slice none 0 0, .slice none 0 0]) gS) := yy (fun W hW => ⟨_, _, _, rfl, ⟨⟨some ⟨w.heap.size, 0, none⟩, 1, rfl, rfl, Nat.le_refl _, by decide, .inr ⟨w.heap.size, 0, rfl, blk_lt (hW.blk q0), fun i v hv => by rw [Nat.zero_add, blk_cell (hW.blk q0)]; simpa [flat, Rec.cs, gS] using hv⟩⟩, LV.nil _, LV.nil _⟩⟩)
 have HV0 : Hid (∀ W, Gro W0 W → BkV W (.agg #[.int .i64 0, .slice (some ⟨w.heap.size + 1 + 1, 0, none⟩) 2 2, .slice none 0 0, .slice none 0 0]) bS) := yy (fun W hW => ⟨_, _, _, rfl, ⟨some ⟨w.heap.size + 1 + 1, 0, none⟩, 2, rfl, rfl, Nat.le_refl _, by decide, .inr ⟨w.heap.size + 1 + 1, 0, rfl, blk_lt (hW.blk q2), fun i v hv => by rw [Nat.zero_add, blk_cell (hW.blk q2)]; simpa [flat, Rec.cs, bS, psS] using hv⟩⟩, LV.nil _, LV.nil _⟩)
 have HK0 := yy k0
 have HR := yy q1
 have HL := yy q4
 have HO := yy q5
 have HW0 := yy hW0
 clear k0 q0 q1 q2 q3 q4 q5 hW0
 go_enter Tryz.func9, Tryz.ntmps9
 go_wp2_with fail
 rw [← HW0.out]
 clear HW0
 refine (add18 (HRV.out _ (Gro.refl W0)) (HV0.out _ (Gro.refl W0)) (fitsS _ (by decide) (by decide) (by decide)) xLoad).mono (fun e w' h => ch_some s_a (rd := 0) (n1 := 2) (n2 := 1) (n3 := 0) rfl rfl rfl rfl e w' h) |>.mono ?_
 rintro _ wA ⟨pA, pcA, oA, ocA, qA, qcA, rfl, hv, kx⟩
 have bxR := ((Gro.refl W0).trans kx).blk HR.out
 have cxR := blk_cell bxR
 have zR0 := cxR 0
 have zR1 := cxR 1
 have zR2 := cxR 2
 have hlR := blk_lt bxR
 clear bxR cxR
 have bxO := ((Gro.refl W0).trans kx).blk HO.out
 have cxO := blk_cell bxO
 have zO0 := cxO 0
 have zO1 := cxO 1
 have zO2 := cxO 2
 have zO3 := cxO 3
 have zO4 := cxO 4
 have zO5 := cxO 5
 have zO6 := cxO 6
 have hlO := blk_lt bxO
 clear bxO cxO
 simp only [lPa, lPb, lPc] at zR0 zR1 zR2 zO0 zO1 zO2 zO3 zO4 zO5 zO6
 go_wp2_with fail
 obtain ⟨W1, hW⟩ : ∃ W1, W1 = wA.alloc (Obj.cells #[.int .i64 0, .slice pA 2 pcA, .slice oA 1 ocA, .slice qA 0 qcA] 28) := ⟨_, rfl⟩
 have kn : Gro wA W1 := by rw [hW]; exact (Gro.refl _).alloc _
 have K0 : Hid (Gro W0 W1) := yy (kx.trans kn)
 have HBA : Hid (W1.heap[wA.heap.size]? = some (.cells #[.int .i64 0, .slice pA 2 pcA, .slice oA 1 ocA, .slice qA 0 qcA] 28 (0, 0))) := yy (by rw [hW]; exact blk_new _ _)
 have HVA := yy (fun W (hW : Gro W1 W) => hv W (kn.trans hW))
 clear hv
 rw [← hW]
 clear hW kn kx zR0 zR1 zR2 hlR zO0 zO1 zO2 zO3 zO4 zO5 zO6 hlO
 generalize wA.heap.size = NA at HBA ⊢
 refine (add18 (HRV.out _ K0.out) (HVA.out _ (Gro.refl W1)) (fitsS _ (by decide) (by decide) (by decide)) xOther).mono (fun e w' h => ch_none s_f e w' h) |>.mono ?_
 rintro _ wF ⟨rfl, kx⟩
 have bxR := (K0.out.trans kx).blk HR.out
 have cxR := blk_cell bxR
 have zR0 := cxR 0
 have zR1 := cxR 1
 have zR2 := cxR 2
 have hlR := blk_lt bxR
 clear bxR cxR
 have bxA := ((Gro.refl W1).trans kx).blk HBA.out
 have cxA := blk_cell bxA
 have zA0 := cxA 0
 have zA1 := cxA 1
 have zA2 := cxA 2
 have zA3 := cxA 3
 have hlA := blk_lt bxA
 clear bxA cxA
 simp only [lPa, lPb, lPc] at zR0 zR1 zR2 zA0 zA1 zA2 zA3
 go_wp2_with fail
 obtain ⟨W2, hW⟩ : ∃ W2, W2 = wF.alloc (Obj.cells #[.int .i64 0, .slice none 0 0, .slice none 0 0, .slice none 0 0] 28) := ⟨_, rfl⟩
 have kn : Gro wF W2 := by rw [hW]; exact (Gro.refl _).alloc _
 have K1 : Hid (Gro W1 W2) := yy (kx.trans kn)
 have HBF : Hid (W2.heap[wF.heap.size]? = some (.cells #[.int .i64 0, .slice none 0 0, .slice none 0 0, .slice none 0 0] 28 (0, 0))) := yy (by rw [hW]; exact blk_new _ _)
 rw [← hW]
 clear hW kn kx zR0 zR1 zR2 hlR zA0 zA1 zA2 zA3 hlA
 generalize wF.heap.size = NF at HBF ⊢
 refine (add18 (HRV.out _ (K0.out.trans K1.out)) (HVA.out _ K1.out) (fitsS _ (by decide) (by decide) (by decide)) xVeh).mono (fun e w' h => ch_some s_c (rd := 0) (n1 := 2) (n2 := 2) (n3 := 0) rfl rfl rfl rfl e w' h) |>.mono ?_
 rintro _ wC ⟨pC, pcC, oC, ocC, qC, qcC, rfl, hv, kx⟩
 have bxR := ((K0.out.trans K1.out).trans kx).blk HR.out
 have cxR := blk_cell bxR
 have zR0 := cxR 0
 have zR1 := cxR 1
 have zR2 := cxR 2
 have hlR := blk_lt bxR
 clear bxR cxR
 simp only [lPa, lPb, lPc] at zR0 zR1 zR2
 go_wp2_with fail
 obtain ⟨W3, hW⟩ : ∃ W3, W3 = wC.alloc (Obj.cells #[.int .i64 0, .slice pC 2 pcC, .slice oC 2 ocC, .slice qC 0 qcC] 28) := ⟨_, rfl⟩
 have kn : Gro wC W3 := by rw [hW]; exact (Gro.refl _).alloc _
 have K2 : Hid (Gro W2 W3) := yy (kx.trans kn)
 have HBC : Hid (W3.heap[wC.heap.size]? = some (.cells #[.int .i64 0, .slice pC 2 pcC, .slice oC 2 ocC, .slice qC 0 qcC] 28 (0, 0))) := yy (by rw [hW]; exact blk_new _ _)
 have HVC := yy (fun W (hW : Gro W3 W) => hv W (kn.trans hW))
 clear hv
 rw [← hW]
 clear hW kn kx zR0 zR1 zR2 hlR
 generalize wC.heap.size = NC at HBC ⊢
 refine (want22 (HRV.out _ ((K0.out.trans K1.out).trans K2.out)) (HVC.out _ (Gro.refl W3)) (fitsS _ (by decide) (by decide) (by decide)) w15).mono (fun e w' h => ch_some s_d (rd := 0) (n1 := 2) (n2 := 2) (n3 := 1) rfl rfl rfl rfl e w' h) |>.mono ?_
 rintro _ wD ⟨pD, pcD, oD, ocD, qD, qcD, rfl, hv, kx⟩
 have bxR := (((K0.out.trans K1.out).trans K2.out).trans kx).blk HR.out
 have cxR := blk_cell bxR
 have zR0 := cxR 0
 have zR1 := cxR 1
 have zR2 := cxR 2
 have hlR := blk_lt bxR
 clear bxR cxR
 have bxC := ((Gro.refl W3).trans kx).blk HBC.out
 have cxC := blk_cell bxC
 have zC0 := cxC 0
 have zC1 := cxC 1
 have zC2 := cxC 2
 have zC3 := cxC 3
 have hlC := blk_lt bxC
 clear bxC cxC
 simp only [lPa, lPb, lPc] at zR0 zR1 zR2 zC0 zC1 zC2 zC3
 go_wp2_with fail
 obtain ⟨W4, hW⟩ : ∃ W4, W4 = wD.alloc (Obj.cells #[.int .i64 0, .slice pD 2 pcD, .slice oD 2 ocD, .slice qD 1 qcD] 28) := ⟨_, rfl⟩
 have kn : Gro wD W4 := by rw [hW]; exact (Gro.refl _).alloc _
 have K3 : Hid (Gro W3 W4) := yy (kx.trans kn)
 have HBD : Hid (W4.heap[wD.heap.size]? = some (.cells #[.int .i64 0, .slice pD 2 pcD, .slice oD 2 ocD, .slice qD 1 qcD] 28 (0, 0))) := yy (by rw [hW]; exact blk_new _ _)
 have HVD := yy (fun W (hW : Gro W4 W) => hv W (kn.trans hW))
 clear hv
 rw [← hW]
 clear hW kn kx zR0 zR1 zR2 hlR zC0 zC1 zC2 zC3 hlC
 generalize wD.heap.size = ND at HBD ⊢
 refine (want22 (HRV.out _ (((K0.out.trans K1.out).trans K2.out).trans K3.out)) (HVC.out _ K3.out) (fitsS _ (by decide) (by decide) (by decide)) w14).mono (fun e w' h => ch_none s_j e w' h) |>.mono ?_
 rintro _ wJ ⟨rfl, kx⟩
 have bxR := ((((K0.out.trans K1.out).trans K2.out).trans K3.out).trans kx).blk HR.out
 have cxR := blk_cell bxR
 have zR0 := cxR 0
 have zR1 := cxR 1
 have zR2 := cxR 2
 have hlR := blk_lt bxR
 clear bxR cxR
 have bxD := ((Gro.refl W4).trans kx).blk HBD.out
 have cxD := blk_cell bxD
 have zD0 := cxD 0
 have zD1 := cxD 1
 have zD2 := cxD 2
 have zD3 := cxD 3
 have hlD := blk_lt bxD
 clear bxD cxD
 simp only [lPa, lPb, lPc] at zR0 zR1 zR2 zD0 zD1 zD2 zD3
 go_wp2_with fail
 obtain ⟨W5, hW⟩ : ∃ W5, W5 = wJ.alloc (Obj.cells #[.int .i64 0, .slice none 0 0, .slice none 0 0, .slice none 0 0] 28) := ⟨_, rfl⟩
 have kn : Gro wJ W5 := by rw [hW]; exact (Gro.refl _).alloc _
 have K4 : Hid (Gro W4 W5) := yy (kx.trans kn)
 have HBJ : Hid (W5.heap[wJ.heap.size]? = some (.cells #[.int .i64 0, .slice none 0 0, .slice none 0 0, .slice none 0 0] 28 (0, 0))) := yy (by rw [hW]; exact blk_new _ _)
 rw [← hW]
 clear hW kn kx zR0 zR1 zR2 hlR zD0 zD1 zD2 zD3 hlD
 generalize wJ.heap.size = NJ at HBJ ⊢
 refine (graph30 (HRV.out _ ((((K0.out.trans K1.out).trans K2.out).trans K3.out).trans K4.out)) (HVD.out _ K4.out) (fitsS _ (by decide) (by decide) (by decide))).mono (fun e w' h => gr_some s_g (n1 := 3) (n2 := 1) (n3 := 0) rfl rfl rfl e w' h) |>.mono ?_
 rintro _ wG ⟨pG, pcG, oG, ocG, qG, qcG, rfl, hv, kx⟩
 have bxR := (((((K0.out.trans K1.out).trans K2.out).trans K3.out).trans K4.out).trans kx).blk HR.out
 have cxR := blk_cell bxR
 have zR0 := cxR 0
 have zR1 := cxR 1
 have zR2 := cxR 2
 have hlR := blk_lt bxR
 clear bxR cxR
 have bxD := (K4.out.trans kx).blk HBD.out
 have cxD := blk_cell bxD
 have zD0 := cxD 0
 have zD1 := cxD 1
 have zD2 := cxD 2
 have zD3 := cxD 3
 have hlD := blk_lt bxD
 clear bxD cxD
 simp only [lPa, lPb, lPc] at zR0 zR1 zR2 zD0 zD1 zD2 zD3
 go_wp2_with fail
 obtain ⟨W6, hW⟩ : ∃ W6, W6 = wG.alloc (Obj.cells #[.slice pG 3 pcG, .slice oG 1 ocG, .slice qG 0 qcG] 38) := ⟨_, rfl⟩
 have kn : Gro wG W6 := by rw [hW]; exact (Gro.refl _).alloc _
 have K5 : Hid (Gro W5 W6) := yy (kx.trans kn)
 have HBG : Hid (W6.heap[wG.heap.size]? = some (.cells #[.slice pG 3 pcG, .slice oG 1 ocG, .slice qG 0 qcG] 38 (0, 0))) := yy (by rw [hW]; exact blk_new _ _)
 have HVG := yy (fun W (hW : Gro W6 W) => hv W (kn.trans hW))
 clear hv
 rw [← hW]
 clear hW kn kx zR0 zR1 zR2 hlR zD0 zD1 zD2 zD3 hlD
 generalize wG.heap.size = NG at HBG ⊢
 refine (withdraw20 (HRV.out _ (((((K0.out.trans K1.out).trans K2.out).trans K3.out).trans K4.out).trans K5.out)) (HVD.out _ (K4.out.trans K5.out)) (fitsS _ (by decide) (by decide) (by decide)) 2 5).mono (fun e w' h => ch_none s_l e w' h) |>.mono ?_
 rintro _ wX1 ⟨rfl, kx⟩
 have bxR := ((((((K0.out.trans K1.out).trans K2.out).trans K3.out).trans K4.out).trans K5.out).trans kx).blk HR.out
 have cxR := blk_cell bxR
 have zR0 := cxR 0
 have zR1 := cxR 1
 have zR2 := cxR 2
 have hlR := blk_lt bxR
 clear bxR cxR
 have bxD := ((K4.out.trans K5.out).trans kx).blk HBD.out
 have cxD := blk_cell bxD
 have zD0 := cxD 0
 have zD1 := cxD 1
 have zD2 := cxD 2
 have zD3 := cxD 3
 have hlD := blk_lt bxD
 clear bxD cxD
 simp only [lPa, lPb, lPc] at zR0 zR1 zR2 zD0 zD1 zD2 zD3
 go_wp2_with fail
 obtain ⟨W7, hW⟩ : ∃ W7, W7 = wX1.alloc (Obj.cells #[.int .i64 0, .slice none 0 0, .slice none 0 0, .slice none 0 0] 28) := ⟨_, rfl⟩
 have kn : Gro wX1 W7 := by rw [hW]; exact (Gro.refl _).alloc _
 have K6 : Hid (Gro W6 W7) := yy (kx.trans kn)
 have HBX1 : Hid (W7.heap[wX1.heap.size]? = some (.cells #[.int .i64 0, .slice none 0 0, .slice none 0 0, .slice none 0 0] 28 (0, 0))) := yy (by rw [hW]; exact blk_new _ _)
 rw [← hW]
 clear hW kn kx zR0 zR1 zR2 hlR zD0 zD1 zD2 zD3 hlD
 generalize wX1.heap.size = NX1 at HBX1 ⊢
 refine (withdraw20 (HRV.out _ ((((((K0.out.trans K1.out).trans K2.out).trans K3.out).trans K4.out).trans K5.out).trans K6.out)) (HVD.out _ ((K4.out.trans K5.out).trans K6.out)) (fitsS _ (by decide) (by decide) (by decide)) 1 5).mono (fun e w' h => ch_some s_w (rd := 0) (n1 := 2) (n2 := 2) (n3 := 0) rfl rfl rfl rfl e w' h) |>.mono ?_
 rintro _ wWd ⟨pWd, pcWd, oWd, ocWd, qWd, qcWd, rfl, hv, kx⟩
 have bxR := (((((((K0.out.trans K1.out).trans K2.out).trans K3.out).trans K4.out).trans K5.out).trans K6.out).trans kx).blk HR.out
 have cxR := blk_cell bxR
 have zR0 := cxR 0
 have zR1 := cxR 1
 have zR2 := cxR 2
 have hlR := blk_lt bxR
 clear bxR cxR
 have bxD := (((K4.out.trans K5.out).trans K6.out).trans kx).blk HBD.out
 have cxD := blk_cell bxD
 have zD0 := cxD 0
 have zD1 := cxD 1
 have zD2 := cxD 2
 have zD3 := cxD 3
 have hlD := blk_lt bxD
 clear bxD cxD
 simp only [lPa, lPb, lPc] at zR0 zR1 zR2 zD0 zD1 zD2 zD3
 go_wp2_with fail
 obtain ⟨W8, hW⟩ : ∃ W8, W8 = wWd.alloc (Obj.cells #[.int .i64 0, .slice pWd 2 pcWd, .slice oWd 2 ocWd, .slice qWd 0 qcWd] 28) := ⟨_, rfl⟩
 have kn : Gro wWd W8 := by rw [hW]; exact (Gro.refl _).alloc _
 have K7 : Hid (Gro W7 W8) := yy (kx.trans kn)
 have HBWd : Hid (W8.heap[wWd.heap.size]? = some (.cells #[.int .i64 0, .slice pWd 2 pcWd, .slice oWd 2 ocWd, .slice qWd 0 qcWd] 28 (0, 0))) := yy (by rw [hW]; exact blk_new _ _)
 have HVWd := yy (fun W (hW : Gro W8 W) => hv W (kn.trans hW))
 clear hv
 rw [← hW]
 clear hW kn kx zR0 zR1 zR2 hlR zD0 zD1 zD2 zD3 hlD
 generalize wWd.heap.size = NWd at HBWd ⊢
 refine (next26 (HRV.out _ (((((((K0.out.trans K1.out).trans K2.out).trans K3.out).trans K4.out).trans K5.out).trans K6.out).trans K7.out)) (HVD.out _ (((K4.out.trans K5.out).trans K6.out).trans K7.out)) (fitsS _ (by decide) (by decide) (by decide))).mono (fun e w' h => ch_some s_n (rd := 1) (n1 := 2) (n2 := 2) (n3 := 1) rfl rfl rfl rfl e w' h) |>.mono ?_
 rintro _ wNx ⟨pNx, pcNx, oNx, ocNx, qNx, qcNx, rfl, hv, kx⟩
 have bxR := ((((((((K0.out.trans K1.out).trans K2.out).trans K3.out).trans K4.out).trans K5.out).trans K6.out).trans K7.out).trans kx).blk HR.out
 have cxR := blk_cell bxR
 have zR0 := cxR 0
 have zR1 := cxR 1
 have zR2 := cxR 2
 have hlR := blk_lt bxR
 clear bxR cxR
 simp only [lPa, lPb, lPc] at zR0 zR1 zR2
 go_wp2_with fail
 obtain ⟨W9, hW⟩ : ∃ W9, W9 = wNx.alloc (Obj.cells #[.int .i64 1, .slice pNx 2 pcNx, .slice oNx 2 ocNx, .slice qNx 1 qcNx] 28) := ⟨_, rfl⟩
 have kn : Gro wNx W9 := by rw [hW]; exact (Gro.refl _).alloc _
 have K8 : Hid (Gro W8 W9) := yy (kx.trans kn)
 have HBNx : Hid (W9.heap[wNx.heap.size]? = some (.cells #[.int .i64 1, .slice pNx 2 pcNx, .slice oNx 2 ocNx, .slice qNx 1 qcNx] 28 (0, 0))) := yy (by rw [hW]; exact blk_new _ _)
 have HVNx := yy (fun W (hW : Gro W9 W) => hv W (kn.trans hW))
 clear hv
 rw [← hW]
 clear hW kn kx zR0 zR1 zR2 hlR
 generalize wNx.heap.size = NNx at HBNx ⊢
 refine (next26 (HRV.out _ ((((((((K0.out.trans K1.out).trans K2.out).trans K3.out).trans K4.out).trans K5.out).trans K6.out).trans K7.out).trans K8.out)) (HVNx.out _ (Gro.refl W9)) (fitsS _ (by decide) (by decide) (by decide))).mono (fun e w' h => ch_some s_p (rd := 2) (n1 := 2) (n2 := 2) (n3 := 0) rfl rfl rfl rfl e w' h) |>.mono ?_
 rintro _ wPx ⟨pPx, pcPx, oPx, ocPx, qPx, qcPx, rfl, hv, kx⟩
 have bxR := (((((((((K0.out.trans K1.out).trans K2.out).trans K3.out).trans K4.out).trans K5.out).trans K6.out).trans K7.out).trans K8.out).trans kx).blk HR.out
 have cxR := blk_cell bxR
 have zR0 := cxR 0
 have zR1 := cxR 1
 have zR2 := cxR 2
 have hlR := blk_lt bxR
 clear bxR cxR
 have bxD := (((((K4.out.trans K5.out).trans K6.out).trans K7.out).trans K8.out).trans kx).blk HBD.out
 have cxD := blk_cell bxD
 have zD0 := cxD 0
 have zD1 := cxD 1
 have zD2 := cxD 2
 have zD3 := cxD 3
 have hlD := blk_lt bxD
 clear bxD cxD
 simp only [lPa, lPb, lPc] at zR0 zR1 zR2 zD0 zD1 zD2 zD3
 go_wp2_with fail
 obtain ⟨W10, hW⟩ : ∃ W10, W10 = (wPx.alloc (Obj.cells #[.int .i64 2, .slice pPx 2 pcPx, .slice oPx 2 ocPx, .slice qPx 0 qcPx] 28)).alloc (Obj.cells #[.int .i64 5, .int .i64 7] 3) := ⟨_, rfl⟩
 have kn : Gro wPx W10 := by rw [hW]; exact ((Gro.refl _).alloc _).alloc _
 have K9 : Hid (Gro W9 W10) := yy (kx.trans kn)
 have HBPx : Hid (W10.heap[wPx.heap.size]? = some (.cells #[.int .i64 2, .slice pPx 2 pcPx, .slice oPx 2 ocPx, .slice qPx 0 qcPx] 28 (0, 0))) := yy (by rw [hW]; exact blk_alloc (blk_new _ _) _)
 have HPRE : Hid (W10.heap[wPx.heap.size + 1]? = some (.cells #[.int .i64 5, .int .i64 7] 3 (0, 0))) := yy (by rw [hW]; have := blk_new (wPx.alloc (Obj.cells #[.int .i64 2, .slice pPx 2 pcPx, .slice oPx 2 ocPx, .slice qPx 0 qcPx] 28)) (Obj.cells #[.int .i64 5, .int .i64 7] 3); rw [asz] at this; exact this)
 have HVPx := yy (fun W (hW : Gro W10 W) => hv W (kn.trans hW))
 clear hv
 rw [← hW]
 clear hW kn kx zR0 zR1 zR2 hlR zD0 zD1 zD2 zD3 hlD
 generalize wPx.heap.size = NPx at HBPx HPRE ⊢
 have HIDS : Hid (LV W10 (.slice (some ⟨NPx + 1, 0, none⟩) 2 2) ([5, 7] : List Int)) := yy ⟨some ⟨NPx + 1, 0, none⟩, 2, rfl, rfl, Nat.le_refl _, by decide, .inr ⟨NPx + 1, 0, rfl, blk_lt HPRE.out, fun i v hv => by rw [Nat.zero_add, blk_cell HPRE.out]; simpa [flat, Rec.cs] using hv⟩⟩
 refine (take28 (HRV.out _ (((((((((K0.out.trans K1.out).trans K2.out).trans K3.out).trans K4.out).trans K5.out).trans K6.out).trans K7.out).trans K8.out).trans K9.out)) (HVD.out _ (((((K4.out.trans K5.out).trans K6.out).trans K7.out).trans K8.out).trans K9.out)) (fitsS _ (by decide) (by decide) (by decide)) HIDS.out (by decide)).mono (fun e w' h => ch_some s_t (rd := 0) (n1 := 2) (n2 := 2) (n3 := 0) rfl rfl rfl rfl e w' h) |>.mono ?_
 rintro _ wTx ⟨pTx, pcTx, oTx, ocTx, qTx, qcTx, rfl, hv, kx⟩
 have bxR := ((((((((((K0.out.trans K1.out).trans K2.out).trans K3.out).trans K4.out).trans K5.out).trans K6.out).trans K7.out).trans K8.out).trans K9.out).trans kx).blk HR.out
 have cxR := blk_cell bxR
 have zR0 := cxR 0
 have zR1 := cxR 1
 have zR2 := cxR 2
 have hlR := blk_lt bxR
 clear bxR cxR
 have bxD := ((((((K4.out.trans K5.out).trans K6.out).trans K7.out).trans K8.out).trans K9.out).trans kx).blk HBD.out
 have cxD := blk_cell bxD
 have zD0 := cxD 0
 have zD1 := cxD 1
 have zD2 := cxD 2
 have zD3 := cxD 3
 have hlD := blk_lt bxD
 clear bxD cxD
 simp only [lPa, lPb, lPc] at zR0 zR1 zR2 zD0 zD1 zD2 zD3
 go_wp2_with fail
 obtain ⟨W11, hW⟩ : ∃ W11, W11 = wTx.alloc (Obj.cells #[.int .i64 0, .slice pTx 2 pcTx, .slice oTx 2 ocTx, .slice qTx 0 qcTx] 28) := ⟨_, rfl⟩
 have kn : Gro wTx W11 := by rw [hW]; exact (Gro.refl _).alloc _
 have K10 : Hid (Gro W10 W11) := yy (kx.trans kn)
 have HBTx : Hid (W11.heap[wTx.heap.size]? = some (.cells #[.int .i64 0, .slice pTx 2 pcTx, .slice oTx 2 ocTx, .slice qTx 0 qcTx] 28 (0, 0))) := yy (by rw [hW]; exact blk_new _ _)
 have HVTx := yy (fun W (hW : Gro W11 W) => hv W (kn.trans hW))
 clear hv
 rw [← hW]
 clear hW kn kx zR0 zR1 zR2 hlR zD0 zD1 zD2 zD3 hlD
 generalize wTx.heap.size = NTx at HBTx ⊢
 refine (drop24 (HRV.out _ ((((((((((K0.out.trans K1.out).trans K2.out).trans K3.out).trans K4.out).trans K5.out).trans K6.out).trans K7.out).trans K8.out).trans K9.out).trans K10.out)) (HVD.out _ ((((((K4.out.trans K5.out).trans K6.out).trans K7.out).trans K8.out).trans K9.out).trans K10.out)) (fitsS _ (by decide) (by decide) (by decide)) 3).mono (fun e w' h => ch_some s_x (rd := 0) (n1 := 2) (n2 := 2) (n3 := 0) rfl rfl rfl rfl e w' h) |>.mono ?_
 rintro _ wXx ⟨pXx, pcXx, oXx, ocXx, qXx, qcXx, rfl, hv, kx⟩
 have bxR := (((((((((((K0.out.trans K1.out).trans K2.out).trans K3.out).trans K4.out).trans K5.out).trans K6.out).trans K7.out).trans K8.out).trans K9.out).trans K10.out).trans kx).blk HR.out
 have cxR := blk_cell bxR
 have zR0 := cxR 0
 have zR1 := cxR 1
 have zR2 := cxR 2
 have hlR := blk_lt bxR
 clear bxR cxR
 have bxD := (((((((K4.out.trans K5.out).trans K6.out).trans K7.out).trans K8.out).trans K9.out).trans K10.out).trans kx).blk HBD.out
 have cxD := blk_cell bxD
 have zD0 := cxD 0
 have zD1 := cxD 1
 have zD2 := cxD 2
 have zD3 := cxD 3
 have hlD := blk_lt bxD
 clear bxD cxD
 have bxWd := (((K8.out.trans K9.out).trans K10.out).trans kx).blk HBWd.out
 have cxWd := blk_cell bxWd
 have zWd0 := cxWd 0
 have zWd1 := cxWd 1
 have zWd2 := cxWd 2
 have zWd3 := cxWd 3
 have hlWd := blk_lt bxWd
 clear bxWd cxWd
 simp only [lPa, lPb, lPc] at zR0 zR1 zR2 zD0 zD1 zD2 zD3 zWd0 zWd1 zWd2 zWd3
 go_wp2_with fail
 obtain ⟨W12, hW⟩ : ∃ W12, W12 = wXx.alloc (Obj.cells #[.int .i64 0, .slice pXx 2 pcXx, .slice oXx 2 ocXx, .slice qXx 0 qcXx] 28) := ⟨_, rfl⟩
 have kn : Gro wXx W12 := by rw [hW]; exact (Gro.refl _).alloc _
 have K11 : Hid (Gro W11 W12) := yy (kx.trans kn)
 have HBXx : Hid (W12.heap[wXx.heap.size]? = some (.cells #[.int .i64 0, .slice pXx 2 pcXx, .slice oXx 2 ocXx, .slice qXx 0 qcXx] 28 (0, 0))) := yy (by rw [hW]; exact blk_new _ _)
 have HVXx := yy (fun W (hW : Gro W12 W) => hv W (kn.trans hW))
 clear hv
 rw [← hW]
 clear hW kn kx zR0 zR1 zR2 hlR zD0 zD1 zD2 zD3 hlD zWd0 zWd1 zWd2 zWd3 hlWd
 generalize wXx.heap.size = NXx at HBXx ⊢
 refine (changes32 (HRV.out _ (((((((((((K0.out.trans K1.out).trans K2.out).trans K3.out).trans K4.out).trans K5.out).trans K6.out).trans K7.out).trans K8.out).trans K9.out).trans K10.out).trans K11.out)) (HVD.out _ (((((((K4.out.trans K5.out).trans K6.out).trans K7.out).trans K8.out).trans K9.out).trans K10.out).trans K11.out)) (HVWd.out _ (((K8.out.trans K9.out).trans K10.out).trans K11.out)) (fitsS _ (by decide) (by decide) (by decide)) (fitsS _ (by decide) (by decide) (by decide))).mono (fun e w' h => cg_some s_y (n := 2) rfl e w' h) |>.mono ?_
 rintro _ wY ⟨ya, yc, rfl, hvY, kx⟩
 have bxG := ((((((K6.out.trans K7.out).trans K8.out).trans K9.out).trans K10.out).trans K11.out).trans kx).blk HBG.out
 have cxG := blk_cell bxG
 have zG0 := cxG 0
 have zG1 := cxG 1
 have zG2 := cxG 2
 have hlG := blk_lt bxG
 clear bxG cxG
 have bxWd := ((((K8.out.trans K9.out).trans K10.out).trans K11.out).trans kx).blk HBWd.out
 have cxWd := blk_cell bxWd
 have zWd0 := cxWd 0
 have zWd1 := cxWd 1
 have zWd2 := cxWd 2
 have zWd3 := cxWd 3
 have hlWd := blk_lt bxWd
 clear bxWd cxWd
 have bxPx := ((K10.out.trans K11.out).trans kx).blk HBPx.out
 have cxPx := blk_cell bxPx
 have zPx0 := cxPx 0
 have zPx1 := cxPx 1
 have zPx2 := cxPx 2
 have zPx3 := cxPx 3
 have hlPx := blk_lt bxPx
 clear bxPx cxPx
 have bxTx := (K11.out.trans kx).blk HBTx.out
 have cxTx := blk_cell bxTx
 have zTx0 := cxTx 0
 have zTx1 := cxTx 1
 have zTx2 := cxTx 2
 have zTx3 := cxTx 3
 have hlTx := blk_lt bxTx
 clear bxTx cxTx
 have bxNx := (((K9.out.trans K10.out).trans K11.out).trans kx).blk HBNx.out
 have cxNx := blk_cell bxNx
 have zNx0 := cxNx 0
 have zNx1 := cxNx 1
 have zNx2 := cxNx 2
 have zNx3 := cxNx 3
 have hlNx := blk_lt bxNx
 clear bxNx cxNx
 have bxXx := ((Gro.refl W12).trans kx).blk HBXx.out
 have cxXx := blk_cell bxXx
 have zXx0 := cxXx 0
 have zXx1 := cxXx 1
 have zXx2 := cxXx 2
 have zXx3 := cxXx 3
 have hlXx := blk_lt bxXx
 clear bxXx cxXx
 have bxC := (((((((((K3.out.trans K4.out).trans K5.out).trans K6.out).trans K7.out).trans K8.out).trans K9.out).trans K10.out).trans K11.out).trans kx).blk HBC.out
 have cxC := blk_cell bxC
 have zC0 := cxC 0
 have zC1 := cxC 1
 have zC2 := cxC 2
 have zC3 := cxC 3
 have hlC := blk_lt bxC
 clear bxC cxC
 simp only [lPa, lPb, lPc] at zG0 zG1 zG2 zWd0 zWd1 zWd2 zWd3 zPx0 zPx1 zPx2 zPx3 zTx0 zTx1 zTx2 zTx3 zNx0 zNx1 zNx2 zNx3 zXx0 zXx1 zXx2 zXx3 zC0 zC1 zC2 zC3
 obtain ⟨p9, o9, q9, e9, _, l9, _⟩ := HVWd.out _ ((((K8.out.trans K9.out).trans K10.out).trans K11.out).trans kx)
 injection e9 with e9
 simp only [Array.mk.injEq, List.cons.injEq, true_and, and_true] at e9
 obtain ⟨-, rfl, rfl, rfl⟩ := e9
 obtain ⟨BWd, fWd, eWd, hbWd, hcWd⟩ := lv_cell l9 (by decide)
 subst eWd
 have yWd6 : wY.cell? ⟨BWd, fWd + 6, none⟩ = some (.int .i64 2) := hcWd 6 _ rfl
 clear hcWd l9
 obtain ⟨p9, o9, q9, e9, _, l9, _⟩ := HVPx.out _ ((K10.out.trans K11.out).trans kx)
 injection e9 with e9
 simp only [Array.mk.injEq, List.cons.injEq, true_and, and_true] at e9
 obtain ⟨-, rfl, rfl, rfl⟩ := e9
 obtain ⟨BPx, fPx, ePx, hbPx, hcPx⟩ := lv_cell l9 (by decide)
 subst ePx
 have yPx6 : wY.cell? ⟨BPx, fPx + 6, none⟩ = some (.int .i64 4) := hcPx 6 _ rfl
 have yPx13 : wY.cell? ⟨BPx, fPx + 13, none⟩ = some (.int .i64 1) := hcPx 13 _ rfl
 have yPx13b : wY.cell? ⟨BPx, fPx + 7 + 6, none⟩ = some (.int .i64 1) := yPx13
 clear hcPx l9
 obtain ⟨p9, o9, q9, e9, _, l9, _⟩ := HVTx.out _ (K11.out.trans kx)
 injection e9 with e9
 simp only [Array.mk.injEq, List.cons.injEq, true_and, and_true] at e9
 obtain ⟨-, rfl, rfl, rfl⟩ := e9
 obtain ⟨BTx, fTx, eTx, hbTx, hcTx⟩ := lv_cell l9 (by decide)
 subst eTx
 have yTx13 : wY.cell? ⟨BTx, fTx + 13, none⟩ = some (.int .i64 3) := hcTx 13 _ rfl
 have yTx13b : wY.cell? ⟨BTx, fTx + 7 + 6, none⟩ = some (.int .i64 3) := yTx13
 clear hcTx l9
 have HKY := yy (HK0.out.trans ((((((((((((K0.out.trans K1.out).trans K2.out).trans K3.out).trans K4.out).trans K5.out).trans K6.out).trans K7.out).trans K8.out).trans K9.out).trans K10.out).trans K11.out).trans kx))
 have KY := yy kx
 have HVY := yy hvY
 clear kx hvY
 go_wp2_with fail
 refine (same16 (HVXx.out _ ((Gro.refl W12).trans KY.out)) (HVC.out _ (((((((((K3.out.trans K4.out).trans K5.out).trans K6.out).trans K7.out).trans K8.out).trans K9.out).trans K10.out).trans K11.out).trans KY.out))).mono (fun e w' h => (show e = .returned (.bool true) ∧ Gro wY w' from ⟨h.1.trans (by rw [show decide (bC = bC) = true from by decide]), h.2⟩)) |>.mono ?_
 rintro _ w16 ⟨rfl, k16⟩
 clear zG0 zG1 zG2 hlG zWd0 zWd1 zWd2 zWd3 hlWd zPx0 zPx1 zPx2 zPx3 hlPx zTx0 zTx1 zTx2 zTx3 hlTx zNx0 zNx1 zNx2 zNx3 hlNx zXx0 zXx1 zXx2 zXx3 hlXx zC0 zC1 zC2 zC3 hlC yWd6 yPx6 yPx13 yPx13b yTx13 yTx13b hbWd hbPx hbTx
 have kx := KY.out.trans k16
 have bxG := ((((((K6.out.trans K7.out).trans K8.out).trans K9.out).trans K10.out).trans K11.out).trans kx).blk HBG.out
 have cxG := blk_cell bxG
 have zG0 := cxG 0
 have zG1 := cxG 1
 have zG2 := cxG 2
 have hlG := blk_lt bxG
 clear bxG cxG
 have bxR := ((((((((((((K0.out.trans K1.out).trans K2.out).trans K3.out).trans K4.out).trans K5.out).trans K6.out).trans K7.out).trans K8.out).trans K9.out).trans K10.out).trans K11.out).trans kx).blk HR.out
 have cxR := blk_cell bxR
 have zR0 := cxR 0
 have zR1 := cxR 1
 have zR2 := cxR 2
 have hlR := blk_lt bxR
 clear bxR cxR
 have bxD := ((((((((K4.out.trans K5.out).trans K6.out).trans K7.out).trans K8.out).trans K9.out).trans K10.out).trans K11.out).trans kx).blk HBD.out
 have cxD := blk_cell bxD
 have zD0 := cxD 0
 have zD1 := cxD 1
 have zD2 := cxD 2
 have zD3 := cxD 3
 have hlD := blk_lt bxD
 clear bxD cxD
 simp only [lPa, lPb, lPc] at zG0 zG1 zG2 zR0 zR1 zR2 zD0 zD1 zD2 zD3
 obtain ⟨BG, fG, eG, hbG, hcG⟩ := lv_cell (HVG.out _ ((((((K6.out.trans K7.out).trans K8.out).trans K9.out).trans K10.out).trans K11.out).trans kx)) (by decide)
 subst eG
 have g0 : w16.cell? ⟨BG, fG, none⟩ = some (.int .i64 3) := hcG 0 _ rfl
 have g1 : w16.cell? ⟨BG, fG + 1, none⟩ = some (.int .i64 5) := hcG 1 _ rfl
 have g2 : w16.cell? ⟨BG, fG + 2, none⟩ = some (.int .i64 7) := hcG 2 _ rfl
 have g3 : w16.cell? ⟨BG, fG + 3, none⟩ = some (.bool false) := hcG 3 _ rfl
 have g4 : w16.cell? ⟨BG, fG + 4, none⟩ = some (.int .i64 15) := hcG 4 _ rfl
 have g5 : w16.cell? ⟨BG, fG + 5, none⟩ = some (.int .i64 0) := hcG 5 _ rfl
 obtain ⟨BY, fY, eY, hbY, hcY⟩ := lv_cell (HVY.out _ k16) (by decide)
 subst eY
 have u0 : w16.cell? ⟨BY, fY, none⟩ = some (.int .i64 4) := hcY 0 _ rfl
 have u1 : w16.cell? ⟨BY, fY + 22, none⟩ = some (.int .i64 5) := hcY 22 _ rfl
 have u2 : w16.cell? ⟨BY, fY + 13 + 9, none⟩ = some (.int .i64 5) := u1
 have hE : ∀ W, (Op.equalIn 10000 69 (.agg #[.int .i64 3, .int .i64 5, .int .i64 7, .bool false, .int .i64 15, .int .i64 0]) (.agg #[.int .i64 3, .int .i64 5, .int .i64 7, .bool false, .int .i64 15, .int .i64 0])).run Tryz.prog W = .ok true W := fun W => by
  have := eqin69 ⟨3, 5, 7, false, 15, 0⟩ ⟨3, 5, 7, false, 15, 0⟩ W
  simpa using this
 have hgd : Tryz.prog.eqGuardType Tryz.prog.depth 69 = false := by kernel_rfl
 have K16 := yy (HKY.out.trans k16)
 have CV := yy (valid14 (HRV.out _ ((((((((((((K0.out.trans K1.out).trans K2.out).trans K3.out).trans K4.out).trans K5.out).trans K6.out).trans K7.out).trans K8.out).trans K9.out).trans K10.out).trans K11.out).trans kx)) (HVD.out _ ((((((((K4.out.trans K5.out).trans K6.out).trans K7.out).trans K8.out).trans K9.out).trans K10.out).trans K11.out).trans kx)) (fitsS _ (by decide) (by decide) (by decide)))
 have KX := yy kx
 clear kx k16 hcG hcY
 go_wp2_with fail
 refine CV.out.mono (fun e w' h => (show e = .returned (.bool true) ∧ Gro w16 w' from ⟨h.1.trans (by rw [s_v]), h.2⟩)) |>.mono ?_
 rintro _ w14 ⟨rfl, k14⟩
 clear zG0 zG1 zG2 hlG zR0 zR1 zR2 hlR zD0 zD1 zD2 zD3 hlD g0 g1 g2 g3 g4 g5 u0 u1 u2 hbG hbY hE hgd CV
 have kx := KX.out.trans k14
 have bxR := ((((((((((((K0.out.trans K1.out).trans K2.out).trans K3.out).trans K4.out).trans K5.out).trans K6.out).trans K7.out).trans K8.out).trans K9.out).trans K10.out).trans K11.out).trans kx).blk HR.out
 have cxR := blk_cell bxR
 have zR0 := cxR 0
 have zR1 := cxR 1
 have zR2 := cxR 2
 have hlR := blk_lt bxR
 clear bxR cxR
 simp only [lPa, lPb, lPc] at zR0 zR1 zR2
 have CV := yy (valid14 (b := b31) (HRV.out _ ((((((((((((K0.out.trans K1.out).trans K2.out).trans K3.out).trans K4.out).trans K5.out).trans K6.out).trans K7.out).trans K8.out).trans K9.out).trans K10.out).trans K11.out).trans kx)) (show BkV w14 (.agg #[.int .i64 31, .slice none 0 0, .slice none 0 0, .slice none 0 0]) b31 from ⟨_, _, _, rfl, LV.nil _, LV.nil _, LV.nil _⟩) (fitsS _ (by decide) (by decide) (by decide)))
 have K14 := yy (K16.out.trans k14)
 clear kx k14
 go_wp2_with fail
 refine CV.out.mono (fun e w' h => (show e = .returned (.bool false) ∧ Gro w14 w' from ⟨h.1.trans (by rw [s_31]), h.2⟩)) |>.mono ?_
 rintro _ wz ⟨rfl, kz⟩
 have KZ := yy (K14.out.trans kz)
 clear kz CV
 go_wp2_with fail
 go_ret
 exact (show Sane w _ _ from ⟨rfl, KZ.out⟩)
end Go.Proofs.YthfagcdjbmhhcaaGreat
