/- OfferMatchesReference. -/
import Derived.Test.YthfagcdjbmhhcaaGreatT1
import Derived.Test.YthfagcdjbmhhcaaGreatL4
import Derived.Test.YthfagcdjbmhhcaaGreatS1
import Derived.Test.YthfagcdjbmhhcaaGreatR12
import Derived.Test.YthfagcdjbmhhcaaGreatR18
import Derived.Test.YthfagcdjbmhhcaaGreatR20
import Derived.Test.YthfagcdjbmhhcaaGreatR22
import Derived.Test.YthfagcdjbmhhcaaGreatR23
import Derived.Test.YthfagcdjbmhhcaaGreatR24
set_option linter.unusedVariables false
set_option linter.unusedSimpArgs false
namespace Go.Proofs.YthfagcdjbmhhcaaGreat
open Go.RowKit
attribute [local irreducible] wpQuiet
theorem lfT31 {P : Prop} (h : P := by (intro W9 hSw; obtain ⟨g_0, g_1, g_2, b_0, b_1, b_2, b_3, x_0, x_1, x_2, x_3⟩ := hSw; have hl1 := World.block_lt_of_cell? _ _ g_0; have hl2 := World.block_lt_of_cell? _ _ b_0; have hl3 := World.block_lt_of_cell? _ _ x_0; go_simp; first | done | with_reducible rfl | (simp; done))) : P := h
theorem BkV.old {w0 w : World} {v : Value} {b : Bk} (h : BkV w0 v b) (k : Kept (fun k => w0.heap.size ≤ k) w0 w) : BkV w v b := by
 obtain ⟨p, o, q, rfl, h1, h2, h3⟩ := h
 exact ⟨p, o, q, rfl, h1.old k, h2.old k, h3.old k⟩
theorem or_same {q : Option Bk} {c d : Bk} {E F : Int} (h : OR q c E) (k : OR q d F) : c = d ∧ E = F := by
 rcases h with ⟨h, rfl⟩ | ⟨h, rfl, rfl⟩ <;> rcases k with ⟨k, rfl⟩ | ⟨k, rfl, rfl⟩
 ·rw [h] at k; injection k with k; exact ⟨k, rfl⟩
 ·rw [h] at k; cases k
 ·rw [h] at k; cases k
 exact ⟨rfl, rfl⟩
/-- another block is written -/
theorem BB.far {w w' : World} {N T : Nat} {b : Bk} {a1 a2 a3 : Option Addr} {c1 c2 c3 : Nat} (h : BB w N b a1 c1 a2 c2 a3 c3) (k : Kept (· = T) w w') (hne : ¬ (N = T)) {x0 : Value} {t : TypeId} {fr : Nat × Nat} {e1 e2 e3 : Option Addr} {m1 m2 m3 d1 d2 d3 : Nat} (hT : w.heap[T]? = some (.cells #[x0, .slice e1 m1 d1, .slice e2 m2 d2, .slice e3 m3 d3] t fr)) : BB w' N b a1 c1 a2 c2 a3 c3 :=
 ⟨k.blk h.blk hne, h.val.far k hT⟩
theorem BB.put {w : World} {N : Nat} {b c : Bk} {a1 a2 a3 e1 e2 e3 : Option Addr} {c1 c2 c3 d1 d2 d3 : Nat} (h : BB w N b a1 c1 a2 c2 a3 c3) (hv : BkV w (.agg #[.int .i64 c.round, .slice e1 c.ps.length d1, .slice e2 c.os.length d2, .slice e3 c.ws.length d3]) c) :
  BB ((((w.setCell ⟨N, 0, none⟩ (.int .i64 c.round)).setCell ⟨N, 1, none⟩ (.slice e1 c.ps.length d1)).setCell ⟨N, 2, none⟩ (.slice e2 c.os.length d2)).setCell ⟨N, 3, none⟩ (.slice e3 c.ws.length d3)) N c e1 d1 e2 d2 e3 d3 :=
 ⟨set4 h.blk _ _ _ _, hv.far (kept4 (Kept.refl (· = N) w) (.inl rfl) _ _ _ _) h.blk⟩
/-- a graph's results -/
def GR (q : Option Gr) (c : Gr) (E : Int) : Prop := (q = some c ∧ E = 0) ∨ (q = none ∧ c = ⟨[], [], []⟩ ∧ E = 270)
def GPost (w : World) (q : Option Gr) (e : Ending) (w' : World) : Prop := ∃ (c : Gr) (E : Int) (a1 : Option Addr) (c1 : Nat) (a2 : Option Addr) (c2 : Nat) (a3 : Option Addr) (c3 : Nat),
 e = .returned (.tuple #[.agg #[.slice a1 c.vs.length c1, .slice a2 c.es.length c2, .slice a3 c.ds.length c3], .int .i64 E]) ∧ Gro w w' ∧ GrV w' (.agg #[.slice a1 c.vs.length c1, .slice a2 c.es.length c2, .slice a3 c.ds.length c3]) c ∧ GR q c E
theorem GPost.of {q : Option Gr} {w : World} (e : Ending) (w' : World) (h : GrPost w q e w') : GPost w q e w' := by
 obtain ⟨k, ⟨c, v, hr, rfl, hv⟩ | ⟨hr, rfl⟩⟩ := h
 ·obtain ⟨a1, c1, a2, c2, a3, c3, rfl⟩ := hv.open
  exact ⟨c, 0, a1, c1, a2, c2, a3, c3, rfl, k, hv, .inl ⟨hr, rfl⟩⟩
 exact ⟨⟨[], [], []⟩, 270, none, 0, none, 0, none, 0, rfl, k, ⟨_, _, _, rfl, lv_none _, lv_none _, lv_none _⟩, .inr ⟨hr, rfl, rfl⟩⟩
theorem gr_same {q : Option Gr} {c d : Gr} {E F : Int} (h : GR q c E) (k : GR q d F) : c = d ∧ E = F := by
 rcases h with ⟨h, rfl⟩ | ⟨h, rfl, rfl⟩ <;> rcases k with ⟨k, rfl⟩ | ⟨k, rfl, rfl⟩
 ·rw [h] at k; injection k with k; exact ⟨k, rfl⟩
 ·rw [h] at k; cases k
 ·rw [h] at k; cases k
 exact ⟨rfl, rfl⟩
def CR (q : Option (List Chg)) (c : List Chg) (E : Int) : Prop := (q = some c ∧ E = 0) ∨ (q = none ∧ c = [] ∧ E = 270)
def CPost (w : World) (q : Option (List Chg)) (e : Ending) (w' : World) : Prop := ∃ (c : List Chg) (E : Int) (a : Option Addr) (n : Nat), e = .returned (.tuple #[.slice a c.length n, .int .i64 E]) ∧ Gro w w' ∧ LV w' (.slice a c.length n) c ∧ CR q c E
theorem CPost.of {q : Option (List Chg)} {w : World} (e : Ending) (w' : World) (h : ChgPost w q e w') : CPost w q e w' := by
 obtain ⟨k, ⟨c, v, hr, rfl, hv⟩ | ⟨hr, rfl⟩⟩ := h
 ·obtain ⟨a, n, rfl, hl⟩ := hv
  exact ⟨c, 0, a, n, rfl, k, ⟨a, n, rfl, hl⟩, .inl ⟨hr, rfl⟩⟩
 exact ⟨[], 270, none, 0, rfl, k, lv_none _, .inr ⟨hr, rfl, rfl⟩⟩
theorem cr_same {q : Option (List Chg)} {c d : List Chg} {E F : Int} (h : CR q c E) (k : CR q d F) : c = d ∧ E = F := by
 rcases h with ⟨h, rfl⟩ | ⟨h, rfl, rfl⟩ <;> rcases k with ⟨k, rfl⟩ | ⟨k, rfl, rfl⟩
 ·rw [h] at k; injection k with k; exact ⟨k, rfl⟩
 ·rw [h] at k; cases k
 ·rw [h] at k; cases k
 exact ⟨rfl, rfl⟩
theorem LV.farS {α : Type} [Rec α] {w w' : World} {v : Value} {l : List α} {T : Nat} {fr : Nat × Nat} {t : TypeId} {a1 a2 a3 : Option Addr} {n1 n2 n3 c1 c2 c3 : Nat} (h : LV w v l) (k : Kept (· = T) w w') (hT : w.heap[T]? = some (.cells #[.slice a1 n1 c1, .slice a2 n2 c2, .slice a3 n3 c3] t fr)) (hk : 0 < Rec.k α)
  (hint : ∀ x : α, ∃ a, (Rec.cs x)[0]? = some (.int .i64 a)) : LV w' v l := by
 obtain ⟨a, c, rfl, h2⟩ := h
 refine ⟨a, c, rfl, h2.len, h2.cap, h2.big, ?_⟩
 rcases h2.at_ with h0 | ⟨b, off, rfl, hb, hc⟩
 ·exact .inl h0
 cases l with
 | nil => exact .inl rfl
 | cons x l =>
  refine .inr ⟨b, off, rfl, Nat.lt_of_lt_of_le hb k.size, fun i v hv => k.cell (p := ⟨b, off + i, none⟩) ?_ (hc i v hv)⟩
  intro e
  simp only at e
  subst e
  obtain ⟨y0, e0⟩ := hint x
  have g0 := flat_get (x :: l) 0 (by simp) 0 hk
  simp only [List.getElem_cons_zero, Nat.zero_mul, Nat.zero_add] at g0
  have := hc 0 _ (g0.trans e0)
  rw [blk_cell hT] at this
  rcases off with _ | _ | _ | n <;> simp at this
theorem GrV.farS {w w' : World} {v : Value} {g : Gr} {T : Nat} {fr : Nat × Nat} {t : TypeId} {a1 a2 a3 : Option Addr} {n1 n2 n3 c1 c2 c3 : Nat} (h : GrV w v g) (k : Kept (· = T) w w') (hT : w.heap[T]? = some (.cells #[.slice a1 n1 c1, .slice a2 n2 c2, .slice a3 n3 c3] t fr)) : GrV w' v g := by
 obtain ⟨v1, v2, v3, rfl, ⟨h1, h2, h3⟩⟩ := h
 exact ⟨v1, v2, v3, rfl, ⟨h1.farS k hT (by decide) (fun x => ⟨x.id, rfl⟩), h2.farS k hT (by decide) (fun x => ⟨x.id, rfl⟩), h3.farS k hT (by decide) (fun x => ⟨x, rfl⟩)⟩⟩
theorem BkV.farS {w w' : World} {v : Value} {b : Bk} {T : Nat} {fr : Nat × Nat} {t : TypeId} {a1 a2 a3 : Option Addr} {n1 n2 n3 c1 c2 c3 : Nat} (h : BkV w v b) (k : Kept (· = T) w w') (hT : w.heap[T]? = some (.cells #[.slice a1 n1 c1, .slice a2 n2 c2, .slice a3 n3 c3] t fr)) : BkV w' v b := by
 obtain ⟨p, o, q, rfl, h1, h2, h3⟩ := h
 exact ⟨p, o, q, rfl, h1.farS k hT (by decide) (fun x => ⟨x.id, rfl⟩), h2.farS k hT (by decide) (fun x => ⟨x.id, rfl⟩), h3.farS k hT (by decide) (fun x => ⟨x.edge, rfl⟩)⟩
set_option maxHeartbeats 40000000 in
set_option maxRecDepth 100000 in
theorem matches3 {w : World} (n : Int) (hn : I64 n) {lv : Value} {l : List A5} (hl : LV w lv l) (hlo : ∀ x ∈ l, x.ok) (m : Int) (hm : I64 m) {xv : Value} {xs : List A6} (hx : LV w xv xs) (hxo : ∀ x ∈ xs, x.ok) {yv : Value} {ys : List A6} (hy : LV w yv ys) (hyo : ∀ x ∈ ys, x.ok) {vraw : Value} {raw : Bk} (hraw : BkV w vraw raw) (o : Ofr) (q : Wsh) (party oid : Int) {iv : Value} {ids : List Int} (hi : LV w iv ids) : Calls Tryz.prog 3 #[.int .i64 n, lv, .int .i64 m, xv, yv, vraw, .agg #[.int .i64 o.id, .int .i64 o.party, .int .i64 o.side, .int .i64 o.place, .int .i64 o.price, .int .i64 o.until_, .int .i64 o.state], .agg #[.int .i64 q.edge, .int .i64 q.src, .int .i64 q.dst, .int .i64 q.weight], .int .i64 party, .int .i64 oid, iv] w (Truth w) := by
 have hmix := mixed
 have HN := yy hn
 have HLO := yy hlo
 have HM := yy hm
 have HXO := yy hxo
 have HL : Hid (∀ W, Gro w W → LV W lv l) := yy (fun W hW => hl.gro hW)
 have HX : Hid (∀ W, Gro w W → LV W xv xs) := yy (fun W hW => hx.gro hW)
 obtain ⟨la, lc, rfl, _⟩ := hl
 obtain ⟨xa, xc, rfl, _⟩ := hx
 clear hn hlo hm hxo
 have HYO := yy hyo
 have HY : Hid (∀ W, Gro w W → LV W yv ys) := yy (fun W hW => hy.gro hW)
 obtain ⟨ya, yc, rfl, hyl⟩ := hy
 obtain ⟨rr1, rrc1, rr2, rrc2, rr3, rrc3, rfl⟩ := hraw.open
 obtain ⟨ia, ic, rfl, hil⟩ := hi
 obtain ⟨m5, hle5, hm5, hmin5, ht5⟩ := minN ids.length 5
 have hic := hil.cap
 have hm5c : m5 ≤ ic := by omega
 clear hyo hyl
 go_enter Tryz.func3, Tryz.ntmps3
 go_wp2_with fail
 obtain ⟨W1, hW1⟩ : ∃ W1, W1 = ((w.alloc (Obj.cells #[.int .i64 raw.round, .slice rr1 raw.ps.length rrc1, .slice rr2 raw.os.length rrc2, .slice rr3 raw.ws.length rrc3] 28)).alloc (Obj.cells #[.int .i64 o.id, .int .i64 o.party, .int .i64 o.side, .int .i64 o.place, .int .i64 o.price, .int .i64 o.until_, .int .i64 o.state] 30)).alloc (Obj.cells #[.int .i64 q.edge, .int .i64 q.src, .int .i64 q.dst, .int .i64 q.weight] 32) := ⟨_, rfl⟩
 have kW : Gro w W1 := by rw [hW1]; exact (((Gro.refl _).alloc _).alloc _).alloc _
 have bR : W1.heap[w.heap.size]? = some (.cells #[.int .i64 raw.round, .slice rr1 raw.ps.length rrc1, .slice rr2 raw.os.length rrc2, .slice rr3 raw.ws.length rrc3] 28 (0, 0)) := by rw [hW1]; exact blk_alloc (blk_alloc (blk_new _ _) _) _
 have bO : W1.heap[w.heap.size + 1]? = some (.cells #[.int .i64 o.id, .int .i64 o.party, .int .i64 o.side, .int .i64 o.place, .int .i64 o.price, .int .i64 o.until_, .int .i64 o.state] 30 (0, 0)) := by
  rw [hW1]
  have := blk_new (w.alloc (Obj.cells #[.int .i64 raw.round, .slice rr1 raw.ps.length rrc1, .slice rr2 raw.os.length rrc2, .slice rr3 raw.ws.length rrc3] 28)) (Obj.cells #[.int .i64 o.id, .int .i64 o.party, .int .i64 o.side, .int .i64 o.place, .int .i64 o.price, .int .i64 o.until_, .int .i64 o.state] 30)
  rw [asz] at this
  exact blk_alloc this _
 have bQ : W1.heap[w.heap.size + 1 + 1]? = some (.cells #[.int .i64 q.edge, .int .i64 q.src, .int .i64 q.dst, .int .i64 q.weight] 32 (0, 0)) := by
  rw [hW1]
  have := blk_new ((w.alloc (Obj.cells #[.int .i64 raw.round, .slice rr1 raw.ps.length rrc1, .slice rr2 raw.os.length rrc2, .slice rr3 raw.ws.length rrc3] 28)).alloc (Obj.cells #[.int .i64 o.id, .int .i64 o.party, .int .i64 o.side, .int .i64 o.place, .int .i64 o.price, .int .i64 o.until_, .int .i64 o.state] 30)) (Obj.cells #[.int .i64 q.edge, .int .i64 q.src, .int .i64 q.dst, .int .i64 q.weight] 32)
  rw [asz, asz] at this
  exact this
 rw [← hW1]
 have HKW := yy kW
 have HL : Hid (∀ W, Gro W1 W → LV W (.slice la l.length lc) l) := yy (fun W hW => HL.out _ (kW.trans hW))
 have HX : Hid (∀ W, Gro W1 W → LV W (.slice xa xs.length xc) xs) := yy (fun W hW => HX.out _ (kW.trans hW))
 have HY : Hid (∀ W, Gro W1 W → LV W (.slice ya ys.length yc) ys) := yy (fun W hW => HY.out _ (kW.trans hW))
 have HRAW : Hid (∀ W, Gro W1 W → BkV W (.agg #[.int .i64 raw.round, .slice rr1 raw.ps.length rrc1, .slice rr2 raw.os.length rrc2, .slice rr3 raw.ws.length rrc3]) raw) := yy (fun W hW => hraw.gro (kW.trans hW))
 have HI : Hid (∀ W, Gro W1 W → LV W (.slice ia m5 ic) (ids.take 5)) := yy (fun W hW => by rw [← ht5 _ rfl]; exact lst_few (hil.gro (kW.trans hW)) hle5)
 have HRB := yy (fun (W : World) (hW : Gro W1 W) => hW.blk bR)
 have HOB := yy (fun (W : World) (hW : Gro W1 W) => hW.blk bO)
 have HQB := yy (fun (W : World) (hW : Gro W1 W) => hW.blk bQ)
 clear hW1 kW bR bO bQ hraw hil ht5 hle5
 generalize w.heap.size + 1 + 1 = XQ at HQB ⊢
 generalize w.heap.size + 1 = XO at HOB ⊢
 generalize w.heap.size = XR at HRB ⊢
 refine ((sane9 W1).mono (fun e w' h => (show e = .returned (.bool true) ∧ Gro W1 w' from h))).mono ?_
 rintro _ w1 ⟨rfl, k1⟩
 go_wp2_with fail
 refine (roads10 n HN.out (HL.out _ k1) HLO.out).mono ?_
 rintro _ w2 ⟨vg, g, rfl, hG, hVG, hs0, hpos, k2⟩
 obtain ⟨g1, gc1, g2, gc2, g3, gc3, rfl⟩ := hG.open
 have K2 := yy (k1.trans k2)
 have HG := yy hG
 have HVG := yy hVG
 have HS0 := yy hs0
 have HPOS := yy hpos
 clear k1 k2 hG hVG hs0 hpos
 go_wp2_with fail
 obtain ⟨W3, hW3⟩ : ∃ W3, W3 = w2.alloc (Obj.cells #[.slice g1 g.vs.length gc1, .slice g2 g.es.length gc2, .slice g3 g.ds.length gc3] 38) := ⟨_, rfl⟩
 have k3 : Gro w2 W3 := by rw [hW3]; exact (Gro.refl _).alloc _
 have b3 : W3.heap[w2.heap.size]? = some (.cells #[.slice g1 g.vs.length gc1, .slice g2 g.es.length gc2, .slice g3 g.ds.length gc3] 38 (0, 0)) := by rw [hW3]; exact blk_new _ _
 rw [← hW3]
 have K3 := yy k3
 have B3 := yy b3
 clear hW3 k3 b3
 refine (made11 (HG.out.gro K3.out) HVG.out HS0.out HPOS.out m HM.out (HX.out _ (K2.out.trans K3.out)) HXO.out).mono ?_
 rintro _ w4 ⟨v, b, rfl, hv, hb, k4⟩
 obtain ⟨a1, c1, a2, c2, a3, c3, rfl⟩ := hb.open
 have hLB : Hid (∀ W X, W = w4.alloc (Obj.cells #[.int .i64 b.round, .slice a1 b.ps.length c1, .slice a2 b.os.length c2, .slice a3 b.ws.length c3] 28) → X = w4.heap.size → LB W1 w2 W g #[.slice g1 g.vs.length gc1, .slice g2 g.es.length gc2, .slice g3 g.ds.length gc3] w2.heap.size X b a1 b.ps.length c1 a2 b.os.length c2 a3 b.ws.length c3) := yy (fun W X e1 e2 => by
  have kW : Gro w4 W := by rw [e1]; exact (Gro.refl _).alloc _
  have h3 := blk_lt (k4.blk B3.out)
  exact ⟨kW.blk (k4.blk B3.out), by rw [e1, e2]; exact blk_new _ _, hb.gro kW, hv, (((K3.out.trans k4).trans kW).kept _), ((K2.out.trans K3.out).trans k4).trans kW, K2.out.size, Nat.le_refl _, by omega⟩)
 have K4 := yy (K3.out.trans k4)
 have R4 := yy (k4.blk B3.out)
 clear hv hb k4
 obtain ⟨z0, z1, z2, hlR⟩ := cells3 R4.out
 go_wp2_with fail
 obtain ⟨W5, hW5⟩ : ∃ W5, W5 = w4.alloc (Obj.cells #[.int .i64 b.round, .slice a1 b.ps.length c1, .slice a2 b.os.length c2, .slice a3 b.ws.length c3] 28) := ⟨_, rfl⟩
 have HB := yy (hLB.out W5 _ hW5 rfl)
 rw [← hW5]
 clear hW5 hLB
 generalize w4.heap.size = X at HB ⊢
 refine (made11 (HG.out.old HB.out.kp) HVG.out HS0.out HPOS.out m HM.out (HY.out _ HB.out.gro) HYO.out).mono ?_
 rintro _ w6 ⟨v, cc, rfl, hv, hb, kx⟩
 obtain ⟨cc1, ccc1, cc2, ccc2, cc3, ccc3, rfl⟩ := hb.open
 have HVC := yy hv
 have HCC := yy hb
 have HB := yy (HB.out.step kx)
 clear kx hv hb z0 z1 z2 hlR K3 B3 K4 R4
 obtain ⟨z0, z1, z2, z3, hlR⟩ := cells4 (HRB.out _ HB.out.gro)
 go_wp2_with fail
 obtain ⟨w7, hW⟩ : ∃ w7, w7 = w6.alloc (Obj.cells #[.int .i64 cc.round, .slice cc1 cc.ps.length ccc1, .slice cc2 cc.os.length ccc2, .slice cc3 cc.ws.length ccc3] 28) := ⟨_, rfl⟩
 have kx : Gro w6 w7 := by rw [hW]; exact (Gro.refl _).alloc _
 have hcf : w7.heap[w6.heap.size]? = some (.cells #[.int .i64 cc.round, .slice cc1 cc.ps.length ccc1, .slice cc2 cc.os.length ccc2, .slice cc3 cc.ws.length ccc3] 28 (0, 0)) := by rw [hW]; exact blk_new _ _
 rw [← hW]
 have HCC := yy (HCC.out.gro kx)
 have HB := yy (HB.out.step kx)
 clear hW kx z0 z1 z2 z3 hlR
 generalize w6.heap.size = NC at hcf ⊢
 refine (few12 (HRAW.out _ HB.out.gro)).mono ?_
 rintro _ w8 ⟨v, rfl, hv, kx⟩
 obtain ⟨od, hod, hol1, hol2, hol3⟩ : ∃ od, fewB raw = od ∧ od.ps.length ≤ 6 ∧ od.os.length ≤ 8 ∧ od.ws.length ≤ 8 := ⟨_, rfl, by unfold fewB; simp only [List.length_take]; omega, by unfold fewB; simp only [List.length_take]; omega, by unfold fewB; simp only [List.length_take]; omega⟩
 rw [hod] at hv
 clear hod
 obtain ⟨od1, odc1, od2, odc2, od3, odc3, rfl⟩ := hv.open
 have HOD := yy hv
 have HCF := yy (kx.blk hcf)
 have HCC := yy (HCC.out.gro kx)
 have HB := yy (HB.out.step kx)
 clear hv hcf kx
 have HM5 := yy hmin5
 clear hmin5
 go_upto_region 8 with fail
 obtain ⟨w9, hW⟩ : ∃ w9, w9 = w8.alloc (Obj.cells #[.int .i64 od.round, .slice od1 od.ps.length odc1, .slice od2 od.os.length odc2, .slice od3 od.ws.length odc3] 28) := ⟨_, rfl⟩
 have kx : Gro w8 w9 := by rw [hW]; exact (Gro.refl _).alloc _
 have HODB := yy (show w9.heap[w8.heap.size]? = some (.cells #[.int .i64 od.round, .slice od1 od.ps.length odc1, .slice od2 od.os.length odc2, .slice od3 od.ws.length odc3] 28 (0, 0)) from by rw [hW]; exact blk_new _ _)
 rw [← hW]
 have HOD := yy (HOD.out.gro kx)
 have HCF := yy (kx.blk HCF.out)
 have HCC := yy (HCC.out.gro kx)
 have HB := yy (HB.out.step kx)
 clear hW kx
 generalize w8.heap.size = ND at HODB ⊢
 go_cut [28] (fun t wx => t = .slice ia m5 ic ∧ wx = w9)
 case first =>
  have hmin5 := HM5.out
  by_cases h5 : 5 < ids.length
  ·rw [if_pos (by omega)] at hmin5
   obtain rfl : m5 = 5 := by omega
   have hd5 : decide ((5 : Int) < (ids.length : Int)) = true := decide_eq_true (by omega)
   clear hmin5
   go_wp2_with fail
   go_meet
   exact ⟨rfl, rfl⟩
  rw [if_neg (by omega)] at hmin5
  obtain rfl : m5 = ids.length := by omega
  have hd5 : decide ((5 : Int) < (ids.length : Int)) = false := decide_eq_false (by omega)
  clear hmin5
  go_wp2_with fail
  go_meet
  exact ⟨rfl, rfl⟩
 case rest =>
 obtain ⟨rfl, rfl⟩ := hcut
 obtain ⟨w9, hw9⟩ : ∃ w9, w9 = wc := ⟨_, rfl⟩
 subst hw9
 obtain ⟨x0, x1, x2, x3, xl⟩ := cells4 HB.out.xb
 obtain ⟨y0, y1, y2, y3, yl⟩ := cells4 HODB.out
 go_wp2_with fail
 obtain ⟨wl, hW⟩ : ∃ wl, wl = w9.alloc (Obj.cells #[.int .i64 b.round, .slice a1 b.ps.length c1, .slice a2 b.os.length c2, .slice a3 b.ws.length c3, .int .i64 od.round, .slice od1 od.ps.length odc1, .slice od2 od.os.length odc2, .slice od3 od.ws.length odc3, .int .i64 od.round, .slice od1 od.ps.length odc1, .slice od2 od.os.length odc2, .slice od3 od.ws.length odc3] 28) := ⟨_, rfl⟩
 have kx : Gro w9 wl := by rw [hW]; exact (Gro.refl _).alloc _
 have hrow : wl.heap[w9.heap.size]? = some (.cells #[.int .i64 b.round, .slice a1 b.ps.length c1, .slice a2 b.os.length c2, .slice a3 b.ws.length c3, .int .i64 od.round, .slice od1 od.ps.length odc1, .slice od2 od.os.length odc2, .slice od3 od.ws.length odc3, .int .i64 od.round, .slice od1 od.ps.length odc1, .slice od2 od.os.length odc2, .slice od3 od.ws.length odc3] 28 (0, 0)) := by rw [hW]; exact blk_new _ _
 rw [← hW]
 have ROW := yy hrow
 have HOD := yy (HOD.out.gro kx)
 have HCF := yy (kx.blk HCF.out)
 have HCC := yy (HCC.out.gro kx)
 have HB := yy (HB.out.step kx)
 have K0 := yy (Gro.refl wl)
 clear hW kx hrow x0 x1 x2 x3 xl y0 y1 y2 y3 yl HODB
 generalize w9.heap.size = RW at ROW ⊢
 go_loopw [70] (fun t wr => ∃ k : Nat, k ≤ 3 ∧ t = .int .i64 k ∧ Hid (Gro wl wr)) (fun t _ => 3 - (intOf t).toNat)
 case atStart => exact ⟨0, Nat.zero_le _, by go_num, K0⟩
 case round =>
 clear K0
 obtain ⟨k, hk, rfl, KR⟩ := hrel
 refine nameGoal fun auxP auxH _ => ?_
 letI auxN : Nonempty auxP := ⟨by
  refine auxH ?_
  by_cases hlt : k < 3
  ·have hlt3 := decide_eq_true (show (k : Int) < 3 by omega)
   obtain ⟨bk, bk1, bkc1, bk2, bkc2, bk3, bkc3, hc0, hc1, hc2, hc3, hbk, hbl1, hbl2, hbl3⟩ : ∃ (bk : Bk) (bk1 : Option Addr) (bkc1 : Nat) (bk2 : Option Addr) (bkc2 : Nat) (bk3 : Option Addr) (bkc3 : Nat), wl.cell? ⟨RW, k * 4, none⟩ = some (.int .i64 bk.round) ∧ wl.cell? ⟨RW, k * 4 + 1, none⟩ = some (.slice bk1 bk.ps.length bkc1) ∧ wl.cell? ⟨RW, k * 4 + 2, none⟩ = some (.slice bk2 bk.os.length bkc2) ∧ wl.cell? ⟨RW, k * 4 + 3, none⟩ = some (.slice bk3 bk.ws.length bkc3) ∧ BkV wl (.agg #[.int .i64 bk.round, .slice bk1 bk.ps.length bkc1, .slice bk2 bk.os.length bkc2, .slice bk3 bk.ws.length bkc3]) bk ∧ bk.ps.length ≤ 1000 ∧ bk.os.length ≤ 1000 ∧ bk.ws.length ≤ 1000 := by
    have hbl := HB.out.vb.lens
    have hrow := blk_cell ROW.out
    have : k = 0 ∨ k = 1 ∨ k = 2 := by omega
    rcases this with rfl | rfl | rfl
    ·exact ⟨b, a1, c1, a2, c2, a3, c3, hrow 0, hrow 1, hrow 2, hrow 3, HB.out.bv, by omega, by omega, by omega⟩
    ·exact ⟨od, _, _, _, _, _, _, hrow 4, hrow 5, hrow 6, hrow 7, HOD.out, by omega, by omega, by omega⟩
    exact ⟨od, _, _, _, _, _, _, hrow 8, hrow 9, hrow 10, hrow 11, HOD.out, by omega, by omega, by omega⟩
   have c_0 := KR.out.cell hc0
   have c_1 := KR.out.cell hc1
   have c_2 := KR.out.cell hc2
   have c_3 := KR.out.cell hc3
   have c_l := World.block_lt_of_cell? _ _ c_0
   obtain ⟨z0, z1, z2, zl⟩ := cells3 (KR.out.blk HB.out.rb)
   have HBK := yy hbk
   clear hc0 hc1 hc2 hc3 hbk
   go_upto_if 77 with fail
   obtain ⟨wm, hW⟩ : ∃ wm, wm = (wr.alloc (Obj.cells #[.int .i64 bk.round, .slice bk1 bk.ps.length bkc1, .slice bk2 bk.os.length bkc2, .slice bk3 bk.ws.length bkc3] 28)).alloc (Obj.cells #[.slice g1 g.vs.length gc1, .slice g2 g.es.length gc2, .slice g3 g.ds.length gc3] 38) := ⟨_, rfl⟩
   have kx : Gro wr wm := by rw [hW]; exact ((Gro.refl _).alloc _).alloc _
   have hnb : wm.heap[wr.heap.size]? = some (.cells #[.int .i64 bk.round, .slice bk1 bk.ps.length bkc1, .slice bk2 bk.os.length bkc2, .slice bk3 bk.ws.length bkc3] 28 (0, 0)) := by rw [hW]; exact blk_alloc (blk_new _ _) _
   have hng : wm.heap[wr.heap.size + 1]? = some (.cells #[.slice g1 g.vs.length gc1, .slice g2 g.es.length gc2, .slice g3 g.ds.length gc3] 38 (0, 0)) := by
    rw [hW]
    have := blk_new (wr.alloc (Obj.cells #[.int .i64 bk.round, .slice bk1 bk.ps.length bkc1, .slice bk2 bk.os.length bkc2, .slice bk3 bk.ws.length bkc3] 28)) (Obj.cells #[.slice g1 g.vs.length gc1, .slice g2 g.es.length gc2, .slice g3 g.ds.length gc3] 38)
    rw [asz] at this
    exact this
   rw [← hW]
   have KM := yy (KR.out.trans kx)
   have NBM := yy hnb
   have NGM := yy hng
   have hgn : wl.heap.size ≤ wr.heap.size + 1 := by have := KR.out.size; omega
   have hnn : ¬ (wr.heap.size = wr.heap.size + 1) := by omega
   clear hW kx hnb hng c_0 c_1 c_2 c_3 c_l z0 z1 z2 zl KR
   generalize wr.heap.size + 1 = NG at NGM hgn hnn ⊢
   generalize wr.heap.size = NB at NBM hnn ⊢
   go_cut [] (fun wx => ∃ (gg : Gr) (gg1 : Option Addr) (ggc1 : Nat) (gg2 : Option Addr) (ggc2 : Nat) (gg3 : Option Addr) (ggc3 : Nat), Hid (Gro wl wx) ∧ Hid (wx.heap[NB]? = some (.cells #[.int .i64 bk.round, .slice bk1 bk.ps.length bkc1, .slice bk2 bk.os.length bkc2, .slice bk3 bk.ws.length bkc3] 28 (0, 0))) ∧ Hid (wx.heap[NG]? = some (.cells #[.slice gg1 gg.vs.length ggc1, .slice gg2 gg.es.length ggc2, .slice gg3 gg.ds.length ggc3] 38 (0, 0))) ∧ Hid (BkV wx (.agg #[.int .i64 bk.round, .slice bk1 bk.ps.length bkc1, .slice bk2 bk.os.length bkc2, .slice bk3 bk.ws.length bkc3]) bk) ∧ Hid (GrV wx (.agg #[.slice gg1 gg.vs.length ggc1, .slice gg2 gg.es.length ggc2, .slice gg3 gg.ds.length ggc3]) gg) ∧ Hid (gg.vs.length ≤ 24 ∧ gg.es.length ≤ 40 ∧ gg.ds.length ≤ 24))
   case first =>
    by_cases hk2 : k = 2
    ·skip
     refine nameGoal fun auxP auxH _ => ?_
     letI auxN : Nonempty auxP := ⟨by
      refine auxH ?_
      have hkd : ((k : Int) == 2) = true := by simp [hk2]
      clear hk2
      go_wp2_with fail
      refine (made13 n HN.out (HL.out _ (HB.out.gro.trans KM.out)) HLO.out).mono ?_
      rintro _ V ⟨v, gg, rfl, hv, hsz, kx⟩
      obtain ⟨gg1, ggc1, gg2, ggc2, gg3, ggc3, rfl⟩ := hv.open
      have hNb := kx.blk NGM.out
      have kk := kept3 (F := (· = NG)) (Kept.refl (· = NG) V) (.inl rfl) (.slice gg1 gg.vs.length ggc1) (.slice gg2 gg.es.length ggc2) (.slice gg3 gg.ds.length ggc3)
      have Z1 := yy (set3 hNb (.slice gg1 gg.vs.length ggc1) (.slice gg2 gg.es.length ggc2) (.slice gg3 gg.ds.length ggc3))
      have Z2 := yy (hv.farS kk hNb)
      have Z3 := yy ((HBK.out.gro (KM.out.trans kx)).farS kk hNb)
      have Z4 := yy (kk.blk (kx.blk NBM.out) hnn)
      have Z5 := yy (show Gro wl _ from Kept.trans' (KM.out.trans kx) kk (fun j (hj : j = NG) => .inr (by omega)))
      have HSZ := yy hsz
      obtain ⟨m0, m1, m2, ml⟩ := cells3 hNb
      have fz := blk_frozen hNb
      have f0 := fz 0
      have f1 := fz 1
      have f2 := fz 2
      clear fz kk hv hsz kx hNb
      go_wp2_with fail
      go_meet
      exact ⟨gg, _, _, _, _, _, _, Z5, Z4, Z1, Z3, Z2, HSZ⟩⟩
     exact (show Nonempty auxP from inferInstanceAs (Nonempty auxP)).elim id
    have hkd : ((k : Int) == 2) = false := by simp; omega
    clear hk2
    have HSZ := yy (show g.vs.length ≤ 24 ∧ g.es.length ≤ 40 ∧ g.ds.length ≤ 24 from by have := HVG.out.lens; omega)
    go_wp2_with fail
    go_meet
    exact ⟨g, _, _, _, _, _, _, KM, NBM, NGM, yy (HBK.out.gro KM.out), yy ((HG.out.old HB.out.kp).gro KM.out), HSZ⟩
   case rest =>
   obtain ⟨gg, gg1, ggc1, gg2, ggc2, gg3, ggc3, KL, NBF, NGF, BV0, GV0, HSZ⟩ := hcut
   clear KM NBM NGM
   obtain ⟨w0, hw0⟩ : ∃ w0, w0 = wc := ⟨_, rfl⟩
   subst hw0
   have hsz := HSZ.out
   have hbl := HB.out.vb.lens
   have FT : Hid (Fits gg bk) := yy ⟨⟨by omega, by omega, by omega⟩, ⟨by omega, by omega, by omega⟩, by omega, by omega⟩
   have hccl := HVC.out.lens
   have FTC : Hid (Fits gg cc) := yy ⟨⟨by omega, by omega, by omega⟩, ⟨by omega, by omega, by omega⟩, by omega, by omega⟩
   have hNB : NB < w0.heap.size := blk_lt NBF.out
   have hNG : NG < w0.heap.size := blk_lt NGF.out
   have cB := yy (fun (W : World) (k : Kept (fun j => w0.heap.size ≤ j) w0 W) => cells4 (k.blk NBF.out (by show ¬ (w0.heap.size ≤ NB); omega)))
   have cG := yy (fun (W : World) (k : Kept (fun j => w0.heap.size ≤ j) w0 W) => cells3 (k.blk NGF.out (by show ¬ (w0.heap.size ≤ NG); omega)))
   have NCF := yy (KL.out.blk HCF.out)
   have BCC := yy (HCC.out.gro KL.out)
   have hNC : NC < w0.heap.size := blk_lt NCF.out
   have K1 := yy (HB.out.gro.trans KL.out)
   clear hsz hbl hccl
   refine nameGoal fun auxP auxH _ => ?_
   letI auxN : Nonempty auxP := ⟨by
    refine auxH ?_
    go_upto_region 15 with fail
    obtain ⟨g_0, g_1, g_2, g_l⟩ := cells3 NGF.out
    obtain ⟨b_0, b_1, b_2, b_3, b_l⟩ := cells4 NBF.out
    obtain ⟨x_0, x_1, x_2, x_3, x_l⟩ := cells4 (KL.out.blk HB.out.xb)
    refine wp_region_held_drew (S := (fun w' => w'.cell? ⟨NG, 0, none⟩ = some (Value.slice gg1 gg.vs.length ggc1) ∧ w'.cell? ⟨NG, 1, none⟩ = some (Value.slice gg2 gg.es.length ggc2) ∧ w'.cell? ⟨NG, 2, none⟩ = some (Value.slice gg3 gg.ds.length ggc3) ∧ w'.cell? ⟨NB, 0, none⟩ = some (Value.int IntKind.i64 bk.round) ∧ w'.cell? ⟨NB, 1, none⟩ = some (Value.slice bk1 bk.ps.length bkc1) ∧ w'.cell? ⟨NB, 2, none⟩ = some (Value.slice bk2 bk.os.length bkc2) ∧ w'.cell? ⟨NB, 3, none⟩ = some (Value.slice bk3 bk.ws.length bkc3) ∧ w'.cell? ⟨X, 0, none⟩ = some (Value.int IntKind.i64 b.round) ∧ w'.cell? ⟨X, 1, none⟩ = some (Value.slice a1 b.ps.length c1) ∧ w'.cell? ⟨X, 2, none⟩ = some (Value.slice a2 b.os.length c2) ∧ w'.cell? ⟨X, 3, none⟩ = some (Value.slice a3 b.ws.length c3))) (by kernel_rfl) ⟨(Gro.refl w0).drew.cell g_0, (Gro.refl w0).drew.cell g_1, (Gro.refl w0).drew.cell g_2, (Gro.refl w0).drew.cell b_0, (Gro.refl w0).drew.cell b_1, (Gro.refl w0).drew.cell b_2, (Gro.refl w0).drew.cell b_3, (Gro.refl w0).drew.cell x_0, (Gro.refl w0).drew.cell x_1, (Gro.refl w0).drew.cell x_2, (Gro.refl w0).drew.cell x_3⟩ (fun hHeld => ?_)
    have KG := yy (Gro.refl w0).drew
    clear g_0 g_1 g_2 b_0 b_1 b_2 b_3 x_0 x_1 x_2 x_3 g_l b_l x_l
    generalize w0.drew = wD at hHeld KG ⊢
    refine tkH 0 rfl lfT31 hHeld ?_
    refine nx ?_
    refine tkH 1 rfl lfT31 hHeld ?_
    refine nx ?_
    refine tkH 3 rfl lfT31 hHeld ?_
    refine nx ?_
    refine tkH 4 rfl lfT31 hHeld ?_
    refine nx ?_
    refine wpAnyH_ready (rs := [2]) (by kernel_rfl) (by simp) ?_
    refine AllReadyH.cons (i := 2) rfl (fun K hK => ?_) AllReadyH.nil
    go_simp
    refine (valid14 (GV0.out.gro KG.out) (BV0.out.gro KG.out) FT.out).mono ?_
    rintro _ V1 ⟨rfl, kx⟩
    obtain ⟨g_0, g_1, g_2, b_0, b_1, b_2, b_3, x_0, x_1, x_2, x_3⟩ := hHeld
    have hH2 : (fun w' => w'.cell? ⟨NG, 0, none⟩ = some (Value.slice gg1 gg.vs.length ggc1) ∧ w'.cell? ⟨NG, 1, none⟩ = some (Value.slice gg2 gg.es.length ggc2) ∧ w'.cell? ⟨NG, 2, none⟩ = some (Value.slice gg3 gg.ds.length ggc3) ∧ w'.cell? ⟨NB, 0, none⟩ = some (Value.int IntKind.i64 bk.round) ∧ w'.cell? ⟨NB, 1, none⟩ = some (Value.slice bk1 bk.ps.length bkc1) ∧ w'.cell? ⟨NB, 2, none⟩ = some (Value.slice bk2 bk.os.length bkc2) ∧ w'.cell? ⟨NB, 3, none⟩ = some (Value.slice bk3 bk.ws.length bkc3) ∧ w'.cell? ⟨X, 0, none⟩ = some (Value.int IntKind.i64 b.round) ∧ w'.cell? ⟨X, 1, none⟩ = some (Value.slice a1 b.ps.length c1) ∧ w'.cell? ⟨X, 2, none⟩ = some (Value.slice a2 b.os.length c2) ∧ w'.cell? ⟨X, 3, none⟩ = some (Value.slice a3 b.ws.length c3)) V1 := ⟨kx.cell g_0, kx.cell g_1, kx.cell g_2, kx.cell b_0, kx.cell b_1, kx.cell b_2, kx.cell b_3, kx.cell x_0, kx.cell x_1, kx.cell x_2, kx.cell x_3⟩
    have KG := yy (KG.out.trans kx)
    clear kx g_0 g_1 g_2 b_0 b_1 b_2 b_3 x_0 x_1 x_2 x_3
    try go_simp
    refine hK.out _ _ hH2 (fun hHeld => ?_)
    clear hK K hH2
    try refine nx ?_
    refine wpAnyH_ready (rs := [5]) (by kernel_rfl) (by simp) ?_
    refine AllReadyH.cons (i := 5) rfl (fun K hK => ?_) AllReadyH.nil
    go_simp
    refine (valid15 (GV0.out.gro KG.out) (BV0.out.gro KG.out) FT.out).mono ?_
    rintro _ V2 ⟨rfl, kx⟩
    generalize validB gg bk = vb at hHeld kx ⊢
    obtain ⟨g_0, g_1, g_2, b_0, b_1, b_2, b_3, x_0, x_1, x_2, x_3⟩ := hHeld
    have hH2 : (fun w' => w'.cell? ⟨NG, 0, none⟩ = some (Value.slice gg1 gg.vs.length ggc1) ∧ w'.cell? ⟨NG, 1, none⟩ = some (Value.slice gg2 gg.es.length ggc2) ∧ w'.cell? ⟨NG, 2, none⟩ = some (Value.slice gg3 gg.ds.length ggc3) ∧ w'.cell? ⟨NB, 0, none⟩ = some (Value.int IntKind.i64 bk.round) ∧ w'.cell? ⟨NB, 1, none⟩ = some (Value.slice bk1 bk.ps.length bkc1) ∧ w'.cell? ⟨NB, 2, none⟩ = some (Value.slice bk2 bk.os.length bkc2) ∧ w'.cell? ⟨NB, 3, none⟩ = some (Value.slice bk3 bk.ws.length bkc3) ∧ w'.cell? ⟨X, 0, none⟩ = some (Value.int IntKind.i64 b.round) ∧ w'.cell? ⟨X, 1, none⟩ = some (Value.slice a1 b.ps.length c1) ∧ w'.cell? ⟨X, 2, none⟩ = some (Value.slice a2 b.os.length c2) ∧ w'.cell? ⟨X, 3, none⟩ = some (Value.slice a3 b.ws.length c3)) V2 := ⟨kx.cell g_0, kx.cell g_1, kx.cell g_2, kx.cell b_0, kx.cell b_1, kx.cell b_2, kx.cell b_3, kx.cell x_0, kx.cell x_1, kx.cell x_2, kx.cell x_3⟩
    have KG := yy (KG.out.trans kx)
    clear kx g_0 g_1 g_2 b_0 b_1 b_2 b_3 x_0 x_1 x_2 x_3
    try go_simp
    refine hK.out _ _ hH2 (fun hHeld => ?_)
    clear hK K hH2
    try refine nx ?_
    refine tkH 6 (v := .bool false) rfl lfT31 hHeld ?_
    refine nx ?_
    refine tkH 7 rfl lfT31 hHeld ?_
    refine nx ?_
    refine tkH 8 rfl lfT31 hHeld ?_
    refine nx ?_
    refine tkH 9 rfl lfT31 hHeld ?_
    refine nx ?_
    refine tkH 11 rfl lfT31 hHeld ?_
    refine nx ?_
    refine tkH 12 rfl lfT31 hHeld ?_
    refine nx ?_
    refine wpAnyH_ready (rs := [10]) (by kernel_rfl) (by simp) ?_
    refine AllReadyH.cons (i := 10) rfl (fun K hK => ?_) AllReadyH.nil
    go_simp
    refine (same16 (HB.out.bv.gro (KL.out.trans KG.out)) (BV0.out.gro KG.out)).mono ?_
    rintro _ V3 ⟨rfl, kx⟩
    obtain ⟨g_0, g_1, g_2, b_0, b_1, b_2, b_3, x_0, x_1, x_2, x_3⟩ := hHeld
    have hH2 : (fun w' => w'.cell? ⟨NG, 0, none⟩ = some (Value.slice gg1 gg.vs.length ggc1) ∧ w'.cell? ⟨NG, 1, none⟩ = some (Value.slice gg2 gg.es.length ggc2) ∧ w'.cell? ⟨NG, 2, none⟩ = some (Value.slice gg3 gg.ds.length ggc3) ∧ w'.cell? ⟨NB, 0, none⟩ = some (Value.int IntKind.i64 bk.round) ∧ w'.cell? ⟨NB, 1, none⟩ = some (Value.slice bk1 bk.ps.length bkc1) ∧ w'.cell? ⟨NB, 2, none⟩ = some (Value.slice bk2 bk.os.length bkc2) ∧ w'.cell? ⟨NB, 3, none⟩ = some (Value.slice bk3 bk.ws.length bkc3) ∧ w'.cell? ⟨X, 0, none⟩ = some (Value.int IntKind.i64 b.round) ∧ w'.cell? ⟨X, 1, none⟩ = some (Value.slice a1 b.ps.length c1) ∧ w'.cell? ⟨X, 2, none⟩ = some (Value.slice a2 b.os.length c2) ∧ w'.cell? ⟨X, 3, none⟩ = some (Value.slice a3 b.ws.length c3)) V3 := ⟨kx.cell g_0, kx.cell g_1, kx.cell g_2, kx.cell b_0, kx.cell b_1, kx.cell b_2, kx.cell b_3, kx.cell x_0, kx.cell x_1, kx.cell x_2, kx.cell x_3⟩
    have KG := yy (KG.out.trans kx)
    clear kx g_0 g_1 g_2 b_0 b_1 b_2 b_3 x_0 x_1 x_2 x_3
    try go_simp
    refine hK.out _ _ hH2 (fun hHeld => ?_)
    clear hK K hH2
    try refine nx ?_
    refine wpAnyH_ready (rs := [13]) (by kernel_rfl) (by simp) ?_
    refine AllReadyH.cons (i := 13) rfl (fun K hK => ?_) AllReadyH.nil
    go_simp
    refine (rsame17 (HB.out.bv.gro (KL.out.trans KG.out)) (BV0.out.gro KG.out)).mono ?_
    rintro _ V4 ⟨rfl, kx⟩
    generalize decide (b = bk) = vs at hHeld kx ⊢
    obtain ⟨g_0, g_1, g_2, b_0, b_1, b_2, b_3, x_0, x_1, x_2, x_3⟩ := hHeld
    have hH2 : (fun w' => w'.cell? ⟨NG, 0, none⟩ = some (Value.slice gg1 gg.vs.length ggc1) ∧ w'.cell? ⟨NG, 1, none⟩ = some (Value.slice gg2 gg.es.length ggc2) ∧ w'.cell? ⟨NG, 2, none⟩ = some (Value.slice gg3 gg.ds.length ggc3) ∧ w'.cell? ⟨NB, 0, none⟩ = some (Value.int IntKind.i64 bk.round) ∧ w'.cell? ⟨NB, 1, none⟩ = some (Value.slice bk1 bk.ps.length bkc1) ∧ w'.cell? ⟨NB, 2, none⟩ = some (Value.slice bk2 bk.os.length bkc2) ∧ w'.cell? ⟨NB, 3, none⟩ = some (Value.slice bk3 bk.ws.length bkc3) ∧ w'.cell? ⟨X, 0, none⟩ = some (Value.int IntKind.i64 b.round) ∧ w'.cell? ⟨X, 1, none⟩ = some (Value.slice a1 b.ps.length c1) ∧ w'.cell? ⟨X, 2, none⟩ = some (Value.slice a2 b.os.length c2) ∧ w'.cell? ⟨X, 3, none⟩ = some (Value.slice a3 b.ws.length c3)) V4 := ⟨kx.cell g_0, kx.cell g_1, kx.cell g_2, kx.cell b_0, kx.cell b_1, kx.cell b_2, kx.cell b_3, kx.cell x_0, kx.cell x_1, kx.cell x_2, kx.cell x_3⟩
    have KG := yy (KG.out.trans kx)
    clear kx g_0 g_1 g_2 b_0 b_1 b_2 b_3 x_0 x_1 x_2 x_3
    try go_simp
    refine hK.out _ _ hH2 (fun hHeld => ?_)
    clear hK K hH2
    try refine nx ?_
    refine tkH 14 (v := .bool false) rfl lfT31 hHeld ?_
    refine nx ?_
    refine tkH 15 rfl lfT31 hHeld ?_
    refine nx ?_
    refine tkH 16 rfl lfT31 hHeld ?_
    refine nx ?_
    refine tkH 17 rfl lfT31 hHeld ?_
    refine nx ?_
    refine tkH 18 rfl lfT31 hHeld ?_
    refine nx ?_
    refine wpAnyH_ready (rs := [19]) (by kernel_rfl) (by simp) ?_
    refine AllReadyH.cons (i := 19) rfl (fun K hK => ?_) AllReadyH.nil
    go_simp
    refine (same16 (BV0.out.gro KG.out) (BV0.out.gro KG.out)).mono ?_
    rintro _ V5 ⟨rfl, kx⟩
    rw [show decide (bk = bk) = true from decide_eq_true rfl]
    obtain ⟨g_0, g_1, g_2, b_0, b_1, b_2, b_3, x_0, x_1, x_2, x_3⟩ := hHeld
    have hH2 : (fun w' => w'.cell? ⟨NG, 0, none⟩ = some (Value.slice gg1 gg.vs.length ggc1) ∧ w'.cell? ⟨NG, 1, none⟩ = some (Value.slice gg2 gg.es.length ggc2) ∧ w'.cell? ⟨NG, 2, none⟩ = some (Value.slice gg3 gg.ds.length ggc3) ∧ w'.cell? ⟨NB, 0, none⟩ = some (Value.int IntKind.i64 bk.round) ∧ w'.cell? ⟨NB, 1, none⟩ = some (Value.slice bk1 bk.ps.length bkc1) ∧ w'.cell? ⟨NB, 2, none⟩ = some (Value.slice bk2 bk.os.length bkc2) ∧ w'.cell? ⟨NB, 3, none⟩ = some (Value.slice bk3 bk.ws.length bkc3) ∧ w'.cell? ⟨X, 0, none⟩ = some (Value.int IntKind.i64 b.round) ∧ w'.cell? ⟨X, 1, none⟩ = some (Value.slice a1 b.ps.length c1) ∧ w'.cell? ⟨X, 2, none⟩ = some (Value.slice a2 b.os.length c2) ∧ w'.cell? ⟨X, 3, none⟩ = some (Value.slice a3 b.ws.length c3)) V5 := ⟨kx.cell g_0, kx.cell g_1, kx.cell g_2, kx.cell b_0, kx.cell b_1, kx.cell b_2, kx.cell b_3, kx.cell x_0, kx.cell x_1, kx.cell x_2, kx.cell x_3⟩
    have KG := yy (KG.out.trans kx)
    clear kx g_0 g_1 g_2 b_0 b_1 b_2 b_3 x_0 x_1 x_2 x_3
    try go_simp
    refine hK.out _ _ hH2 (fun hHeld => ?_)
    clear hK K hH2
    try refine nx ?_
    refine tkH 20 rfl lfT31 hHeld ?_
    refine nx ?_
    refine tkH 21 rfl lfT31 hHeld ?_
    refine nx ?_
    refine wpAnyH_done (by kernel_rfl) ?_ _
    clear hHeld
    go_upto_region 17 with fail
    have KW := yy (KG.out.kept (fun j => w0.heap.size ≤ j))
    clear KG
    refine nameGoal fun auxP auxH _ => ?_
    letI auxN : Nonempty auxP := ⟨by
     refine auxH ?_
     obtain ⟨g_0, g_1, g_2, g_l⟩ := cG.out _ KW.out
     obtain ⟨b_0, b_1, b_2, b_3, b_l⟩ := cB.out _ KW.out
     obtain ⟨o_0, o_1, o_2, o_3, o_4, o_5, o_6, o_l⟩ := cells7 (HOB.out _ (show Gro W1 _ from Kept.trans' K1.out KW.out (fun j hj => .inr (Nat.le_trans K1.out.size hj))))
     go_wp2_with fail
     refine ((add18 (GV0.out.old KW.out) (BV0.out.old KW.out) FT.out o).mono BPost.of).mono ?_
     rintro _ V1 ⟨p0x, E1, p0x1, p0xc1, p0x2, p0xc2, p0x3, p0xc3, rfl, kx, hv, ho⟩
     have HVp0x := yy hv
     have HOp0x := yy ho
     have KW := yy (KW.out.trans (kx.kept _))
     clear hv ho
     clear kx
     clear g_0 g_1 g_2 g_l b_0 b_1 b_2 b_3 b_l o_0 o_1 o_2 o_3 o_4 o_5 o_6 o_l
     obtain ⟨g_0, g_1, g_2, g_l⟩ := cG.out _ KW.out
     obtain ⟨b_0, b_1, b_2, b_3, b_l⟩ := cB.out _ KW.out
     obtain ⟨o_0, o_1, o_2, o_3, o_4, o_5, o_6, o_l⟩ := cells7 (HOB.out _ (show Gro W1 _ from Kept.trans' K1.out KW.out (fun j hj => .inr (Nat.le_trans K1.out.size hj))))
     go_wp2_with fail
     obtain ⟨W2, hW⟩ : ∃ W2, W2 = V1.alloc (Obj.cells #[.int .i64 p0x.round, .slice p0x1 p0x.ps.length p0xc1, .slice p0x2 p0x.os.length p0xc2, .slice p0x3 p0x.ws.length p0xc3] 28) := ⟨_, rfl⟩
     have kx : Gro V1 W2 := by rw [hW]; exact (Gro.refl _).alloc _
     have H32 : Hid (BB W2 V1.heap.size p0x p0x1 p0xc1 p0x2 p0xc2 p0x3 p0xc3) := yy ⟨by rw [hW]; exact blk_new _ _, HVp0x.out.gro kx⟩
     rw [← hW]
     have h32 : w0.heap.size ≤ V1.heap.size := KW.out.size
     have KW := yy (KW.out.trans (kx.kept _))
     clear hW HVp0x kx
     clear g_0 g_1 g_2 g_l b_0 b_1 b_2 b_3 b_l o_0 o_1 o_2 o_3 o_4 o_5 o_6 o_l
     generalize V1.heap.size = N32 at H32 h32 ⊢
     refine ((radd19 (GV0.out.old KW.out) (BV0.out.old KW.out) FT.out o).mono BPost.of).mono ?_
     rintro _ V2 ⟨q0x, E2, q0x1, q0xc1, q0x2, q0xc2, q0x3, q0xc3, rfl, kx, hv, ho⟩
     have HVq0x := yy hv
     have HOq0x := yy ho
     have KW := yy (KW.out.trans (kx.kept _))
     clear hv ho
     have H32 := yy (H32.out.step kx)
     clear kx
     obtain ⟨hpq, rfl⟩ := or_same HOp0x.out HOq0x.out
     have HPQ := yy hpq
     have hee : (E1 != E1) = false := by simp
     clear hpq HOp0x HOq0x
     obtain ⟨p_0, p_1, p_2, p_3, p_l⟩ := cells4 (H32.out.blk)
     go_wp2_with fail
     obtain ⟨W3, hW⟩ : ∃ W3, W3 = V2.alloc (Obj.cells #[.int .i64 q0x.round, .slice q0x1 q0x.ps.length q0xc1, .slice q0x2 q0x.os.length q0xc2, .slice q0x3 q0x.ws.length q0xc3] 28) := ⟨_, rfl⟩
     have kx : Gro V2 W3 := by rw [hW]; exact (Gro.refl _).alloc _
     have H34 : Hid (BB W3 V2.heap.size q0x q0x1 q0xc1 q0x2 q0xc2 q0x3 q0xc3) := yy ⟨by rw [hW]; exact blk_new _ _, HVq0x.out.gro kx⟩
     rw [← hW]
     have h34 : w0.heap.size ≤ V2.heap.size := KW.out.size
     have hne : ¬ (V2.heap.size = N32) := by have := blk_lt H32.out.blk; omega
     have KW := yy (KW.out.trans (kx.kept _))
     have H32 := yy (H32.out.step kx)
     clear hW HVq0x kx
     clear p_0 p_1 p_2 p_3 p_l
     generalize V2.heap.size = N34 at H34 h34 hne ⊢
     refine (rsame17 H32.out.val H34.out.val).mono ?_
     rintro _ V3 ⟨rfl, kx⟩
     rw [decide_eq_true HPQ.out]
     have H32 := yy (H32.out.step kx)
     have H34 := yy (H34.out.step kx)
     have KW := yy (KW.out.trans (kx.kept _))
     clear kx
     go_upto_region 21 with fail
     clear hee HPQ
     refine nameGoal fun auxP auxH _ => ?_
     letI auxN : Nonempty auxP := ⟨by
      refine auxH ?_
      obtain ⟨g_0, g_1, g_2, g_l⟩ := cG.out _ KW.out
      obtain ⟨b_0, b_1, b_2, b_3, b_l⟩ := cB.out _ KW.out
      go_wp2_with fail
      refine ((withdraw20 (GV0.out.old KW.out) (BV0.out.old KW.out) FT.out party oid).mono BPost.of).mono ?_
      rintro _ V1 ⟨p1x, E1, p1x1, p1xc1, p1x2, p1xc2, p1x3, p1xc3, rfl, kx, hv, ho⟩
      have HVp1x := yy hv
      have HOp1x := yy ho
      have KW := yy (KW.out.trans (kx.kept _))
      clear hv ho
      have H32 := yy (H32.out.step kx)
      have H34 := yy (H34.out.step kx)
      clear kx
      clear g_0 g_1 g_2 g_l b_0 b_1 b_2 b_3 b_l
      have kk := kept4 (Kept.refl (· = N32) V1) (.inl rfl) (.int .i64 p1x.round) (.slice p1x1 p1x.ps.length p1xc1) (.slice p1x2 p1x.os.length p1xc2) (.slice p1x3 p1x.ws.length p1xc3)
      have HZ := yy (H32.out.put HVp1x.out)
      have HY := yy (H34.out.far kk hne H32.out.blk)
      have HK := yy (kept4 KW.out (.inl h32) (.int .i64 p1x.round) (.slice p1x1 p1x.ps.length p1xc1) (.slice p1x2 p1x.os.length p1xc2) (.slice p1x3 p1x.ws.length p1xc3))
      obtain ⟨g_0, g_1, g_2, g_l⟩ := cG.out _ KW.out
      obtain ⟨b_0, b_1, b_2, b_3, b_l⟩ := cB.out _ KW.out
      obtain ⟨p_0, p_1, p_2, p_3, p_l⟩ := cells4 (H32.out.blk)
      have fz := blk_frozen H32.out.blk
      have fp0 := fz 0
      have fp1 := fz 1
      have fp2 := fz 2
      have fp3 := fz 3
      clear fz
      have hG32 : ¬ (NG = N32) := by omega
      have hB32 : ¬ (NB = N32) := by omega
      clear kk HVp1x
      go_wp2_with fail
      have hz := HZ.out
      have hy := HY.out
      have hk := HK.out
      clear HZ HY HK g_0 g_1 g_2 g_l b_0 b_1 b_2 b_3 b_l p_0 p_1 p_2 p_3 p_l fp0 fp1 fp2 fp3 H32 H34 KW
      generalize ((((V1.setCell ⟨N32, 0, none⟩ (.int .i64 p1x.round)).setCell ⟨N32, 1, none⟩ (.slice p1x1 p1x.ps.length p1xc1)).setCell ⟨N32, 2, none⟩ (.slice p1x2 p1x.os.length p1xc2)).setCell ⟨N32, 3, none⟩ (.slice p1x3 p1x.ws.length p1xc3)) = W2 at hz hy hk ⊢
      have H32 := yy hz
      have H34 := yy hy
      have KW := yy hk
      clear hz hy hk
      refine ((rwithdraw21 (GV0.out.old KW.out) (BV0.out.old KW.out) FT.out party oid).mono BPost.of).mono ?_
      rintro _ V2 ⟨q1x, E2, q1x1, q1xc1, q1x2, q1xc2, q1x3, q1xc3, rfl, kx, hv, ho⟩
      have HVq1x := yy hv
      have HOq1x := yy ho
      have KW := yy (KW.out.trans (kx.kept _))
      clear hv ho
      have H32 := yy (H32.out.step kx)
      have H34 := yy (H34.out.step kx)
      clear kx
      obtain ⟨hpq, rfl⟩ := or_same HOp1x.out HOq1x.out
      have HPQ := yy hpq
      have hee : (E1 != E1) = false := by simp
      clear hpq HOp1x HOq1x
      have kk := kept4 (Kept.refl (· = N34) V2) (.inl rfl) (.int .i64 q1x.round) (.slice q1x1 q1x.ps.length q1xc1) (.slice q1x2 q1x.os.length q1xc2) (.slice q1x3 q1x.ws.length q1xc3)
      have HZ := yy (H34.out.put HVq1x.out)
      have HY := yy (H32.out.far kk (fun e => hne e.symm) H34.out.blk)
      have HK := yy (kept4 KW.out (.inl h34) (.int .i64 q1x.round) (.slice q1x1 q1x.ps.length q1xc1) (.slice q1x2 q1x.os.length q1xc2) (.slice q1x3 q1x.ws.length q1xc3))
      obtain ⟨p_0, p_1, p_2, p_3, p_l⟩ := cells4 (H32.out.blk)
      obtain ⟨q_0, q_1, q_2, q_3, q_l⟩ := cells4 (H34.out.blk)
      have fz := blk_frozen H34.out.blk
      have fq0 := fz 0
      have fq1 := fz 1
      have fq2 := fz 2
      have fq3 := fz 3
      clear fz
      have hne2 : ¬ (N32 = N34) := fun e => hne e.symm
      clear kk HVq1x
      go_wp2_with fail
      have hz := HZ.out
      have hy := HY.out
      have hk := HK.out
      clear HZ HY HK p_0 p_1 p_2 p_3 p_l q_0 q_1 q_2 q_3 q_l fq0 fq1 fq2 fq3 H32 H34 KW
      generalize ((((V2.setCell ⟨N34, 0, none⟩ (.int .i64 q1x.round)).setCell ⟨N34, 1, none⟩ (.slice q1x1 q1x.ps.length q1xc1)).setCell ⟨N34, 2, none⟩ (.slice q1x2 q1x.os.length q1xc2)).setCell ⟨N34, 3, none⟩ (.slice q1x3 q1x.ws.length q1xc3)) = W3 at hz hy hk ⊢
      have H34 := yy hz
      have H32 := yy hy
      have KW := yy hk
      clear hz hy hk hne2
      refine (rsame17 H32.out.val H34.out.val).mono ?_
      rintro _ V3 ⟨rfl, kx⟩
      rw [decide_eq_true HPQ.out]
      have H32 := yy (H32.out.step kx)
      have H34 := yy (H34.out.step kx)
      have KW := yy (KW.out.trans (kx.kept _))
      clear kx
      go_upto_region 25 with fail
      clear hee HPQ
      refine nameGoal fun auxP auxH _ => ?_
      letI auxN : Nonempty auxP := ⟨by
       refine auxH ?_
       obtain ⟨g_0, g_1, g_2, g_l⟩ := cG.out _ KW.out
       obtain ⟨b_0, b_1, b_2, b_3, b_l⟩ := cB.out _ KW.out
       obtain ⟨w_0, w_1, w_2, w_3, w_l⟩ := cells4 (HQB.out _ (show Gro W1 _ from Kept.trans' K1.out KW.out (fun j hj => .inr (Nat.le_trans K1.out.size hj))))
       go_wp2_with fail
       refine ((want22 (GV0.out.old KW.out) (BV0.out.old KW.out) FT.out q).mono BPost.of).mono ?_
       rintro _ V1 ⟨p2x, E1, p2x1, p2xc1, p2x2, p2xc2, p2x3, p2xc3, rfl, kx, hv, ho⟩
       have HVp2x := yy hv
       have HOp2x := yy ho
       have KW := yy (KW.out.trans (kx.kept _))
       clear hv ho
       have H32 := yy (H32.out.step kx)
       have H34 := yy (H34.out.step kx)
       clear kx
       clear g_0 g_1 g_2 g_l b_0 b_1 b_2 b_3 b_l w_0 w_1 w_2 w_3 w_l
       have kk := kept4 (Kept.refl (· = N32) V1) (.inl rfl) (.int .i64 p2x.round) (.slice p2x1 p2x.ps.length p2xc1) (.slice p2x2 p2x.os.length p2xc2) (.slice p2x3 p2x.ws.length p2xc3)
       have HZ := yy (H32.out.put HVp2x.out)
       have HY := yy (H34.out.far kk hne H32.out.blk)
       have HK := yy (kept4 KW.out (.inl h32) (.int .i64 p2x.round) (.slice p2x1 p2x.ps.length p2xc1) (.slice p2x2 p2x.os.length p2xc2) (.slice p2x3 p2x.ws.length p2xc3))
       obtain ⟨g_0, g_1, g_2, g_l⟩ := cG.out _ KW.out
       obtain ⟨b_0, b_1, b_2, b_3, b_l⟩ := cB.out _ KW.out
       obtain ⟨w_0, w_1, w_2, w_3, w_l⟩ := cells4 (HQB.out _ (show Gro W1 _ from Kept.trans' K1.out KW.out (fun j hj => .inr (Nat.le_trans K1.out.size hj))))
       obtain ⟨p_0, p_1, p_2, p_3, p_l⟩ := cells4 (H32.out.blk)
       have fz := blk_frozen H32.out.blk
       have fp0 := fz 0
       have fp1 := fz 1
       have fp2 := fz 2
       have fp3 := fz 3
       clear fz
       have hG32 : ¬ (NG = N32) := by omega
       have hB32 : ¬ (NB = N32) := by omega
       have hW32 : ¬ (XQ = N32) := by have h1 := K1.out.size; have h2 := blk_lt (HQB.out _ (Gro.refl _)); omega
       clear kk HVp2x
       go_wp2_with fail
       have hz := HZ.out
       have hy := HY.out
       have hk := HK.out
       clear HZ HY HK g_0 g_1 g_2 g_l b_0 b_1 b_2 b_3 b_l w_0 w_1 w_2 w_3 w_l p_0 p_1 p_2 p_3 p_l fp0 fp1 fp2 fp3 H32 H34 KW
       generalize ((((V1.setCell ⟨N32, 0, none⟩ (.int .i64 p2x.round)).setCell ⟨N32, 1, none⟩ (.slice p2x1 p2x.ps.length p2xc1)).setCell ⟨N32, 2, none⟩ (.slice p2x2 p2x.os.length p2xc2)).setCell ⟨N32, 3, none⟩ (.slice p2x3 p2x.ws.length p2xc3)) = W2 at hz hy hk ⊢
       have H32 := yy hz
       have H34 := yy hy
       have KW := yy hk
       clear hz hy hk
       refine ((rwant23 (GV0.out.old KW.out) (BV0.out.old KW.out) FT.out q).mono BPost.of).mono ?_
       rintro _ V2 ⟨q2x, E2, q2x1, q2xc1, q2x2, q2xc2, q2x3, q2xc3, rfl, kx, hv, ho⟩
       have HVq2x := yy hv
       have HOq2x := yy ho
       have KW := yy (KW.out.trans (kx.kept _))
       clear hv ho
       have H32 := yy (H32.out.step kx)
       have H34 := yy (H34.out.step kx)
       clear kx
       obtain ⟨hpq, rfl⟩ := or_same HOp2x.out HOq2x.out
       have HPQ := yy hpq
       have hee : (E1 != E1) = false := by simp
       clear hpq HOp2x HOq2x
       have kk := kept4 (Kept.refl (· = N34) V2) (.inl rfl) (.int .i64 q2x.round) (.slice q2x1 q2x.ps.length q2xc1) (.slice q2x2 q2x.os.length q2xc2) (.slice q2x3 q2x.ws.length q2xc3)
       have HZ := yy (H34.out.put HVq2x.out)
       have HY := yy (H32.out.far kk (fun e => hne e.symm) H34.out.blk)
       have HK := yy (kept4 KW.out (.inl h34) (.int .i64 q2x.round) (.slice q2x1 q2x.ps.length q2xc1) (.slice q2x2 q2x.os.length q2xc2) (.slice q2x3 q2x.ws.length q2xc3))
       obtain ⟨p_0, p_1, p_2, p_3, p_l⟩ := cells4 (H32.out.blk)
       obtain ⟨q_0, q_1, q_2, q_3, q_l⟩ := cells4 (H34.out.blk)
       have fz := blk_frozen H34.out.blk
       have fq0 := fz 0
       have fq1 := fz 1
       have fq2 := fz 2
       have fq3 := fz 3
       clear fz
       have hne2 : ¬ (N32 = N34) := fun e => hne e.symm
       clear kk HVq2x
       go_wp2_with fail
       have hz := HZ.out
       have hy := HY.out
       have hk := HK.out
       clear HZ HY HK p_0 p_1 p_2 p_3 p_l q_0 q_1 q_2 q_3 q_l fq0 fq1 fq2 fq3 H32 H34 KW
       generalize ((((V2.setCell ⟨N34, 0, none⟩ (.int .i64 q2x.round)).setCell ⟨N34, 1, none⟩ (.slice q2x1 q2x.ps.length q2xc1)).setCell ⟨N34, 2, none⟩ (.slice q2x2 q2x.os.length q2xc2)).setCell ⟨N34, 3, none⟩ (.slice q2x3 q2x.ws.length q2xc3)) = W3 at hz hy hk ⊢
       have H34 := yy hz
       have H32 := yy hy
       have KW := yy hk
       clear hz hy hk hne2
       refine (rsame17 H32.out.val H34.out.val).mono ?_
       rintro _ V3 ⟨rfl, kx⟩
       rw [decide_eq_true HPQ.out]
       have H32 := yy (H32.out.step kx)
       have H34 := yy (H34.out.step kx)
       have KW := yy (KW.out.trans (kx.kept _))
       clear kx
       go_upto_region 29 with fail
       clear hee HPQ
       refine nameGoal fun auxP auxH _ => ?_
       letI auxN : Nonempty auxP := ⟨by
        refine auxH ?_
        obtain ⟨g_0, g_1, g_2, g_l⟩ := cG.out _ KW.out
        obtain ⟨b_0, b_1, b_2, b_3, b_l⟩ := cB.out _ KW.out
        obtain ⟨w_0, w_1, w_2, w_3, w_l⟩ := cells4 (HQB.out _ (show Gro W1 _ from Kept.trans' K1.out KW.out (fun j hj => .inr (Nat.le_trans K1.out.size hj))))
        go_wp2_with fail
        refine ((drop24 (GV0.out.old KW.out) (BV0.out.old KW.out) FT.out q.edge).mono BPost.of).mono ?_
        rintro _ V1 ⟨p3x, E1, p3x1, p3xc1, p3x2, p3xc2, p3x3, p3xc3, rfl, kx, hv, ho⟩
        have HVp3x := yy hv
        have HOp3x := yy ho
        have KW := yy (KW.out.trans (kx.kept _))
        clear hv ho
        have H32 := yy (H32.out.step kx)
        have H34 := yy (H34.out.step kx)
        clear kx
        clear g_0 g_1 g_2 g_l b_0 b_1 b_2 b_3 b_l w_0 w_1 w_2 w_3 w_l
        have kk := kept4 (Kept.refl (· = N32) V1) (.inl rfl) (.int .i64 p3x.round) (.slice p3x1 p3x.ps.length p3xc1) (.slice p3x2 p3x.os.length p3xc2) (.slice p3x3 p3x.ws.length p3xc3)
        have HZ := yy (H32.out.put HVp3x.out)
        have HY := yy (H34.out.far kk hne H32.out.blk)
        have HK := yy (kept4 KW.out (.inl h32) (.int .i64 p3x.round) (.slice p3x1 p3x.ps.length p3xc1) (.slice p3x2 p3x.os.length p3xc2) (.slice p3x3 p3x.ws.length p3xc3))
        obtain ⟨g_0, g_1, g_2, g_l⟩ := cG.out _ KW.out
        obtain ⟨b_0, b_1, b_2, b_3, b_l⟩ := cB.out _ KW.out
        obtain ⟨w_0, w_1, w_2, w_3, w_l⟩ := cells4 (HQB.out _ (show Gro W1 _ from Kept.trans' K1.out KW.out (fun j hj => .inr (Nat.le_trans K1.out.size hj))))
        obtain ⟨p_0, p_1, p_2, p_3, p_l⟩ := cells4 (H32.out.blk)
        have fz := blk_frozen H32.out.blk
        have fp0 := fz 0
        have fp1 := fz 1
        have fp2 := fz 2
        have fp3 := fz 3
        clear fz
        have hG32 : ¬ (NG = N32) := by omega
        have hB32 : ¬ (NB = N32) := by omega
        have hW32 : ¬ (XQ = N32) := by have h1 := K1.out.size; have h2 := blk_lt (HQB.out _ (Gro.refl _)); omega
        clear kk HVp3x
        go_wp2_with fail
        have hz := HZ.out
        have hy := HY.out
        have hk := HK.out
        clear HZ HY HK g_0 g_1 g_2 g_l b_0 b_1 b_2 b_3 b_l w_0 w_1 w_2 w_3 w_l p_0 p_1 p_2 p_3 p_l fp0 fp1 fp2 fp3 H32 H34 KW
        generalize ((((V1.setCell ⟨N32, 0, none⟩ (.int .i64 p3x.round)).setCell ⟨N32, 1, none⟩ (.slice p3x1 p3x.ps.length p3xc1)).setCell ⟨N32, 2, none⟩ (.slice p3x2 p3x.os.length p3xc2)).setCell ⟨N32, 3, none⟩ (.slice p3x3 p3x.ws.length p3xc3)) = W2 at hz hy hk ⊢
        have H32 := yy hz
        have H34 := yy hy
        have KW := yy hk
        clear hz hy hk
        refine ((rdrop25 (GV0.out.old KW.out) (BV0.out.old KW.out) FT.out q.edge).mono BPost.of).mono ?_
        rintro _ V2 ⟨q3x, E2, q3x1, q3xc1, q3x2, q3xc2, q3x3, q3xc3, rfl, kx, hv, ho⟩
        have HVq3x := yy hv
        have HOq3x := yy ho
        have KW := yy (KW.out.trans (kx.kept _))
        clear hv ho
        have H32 := yy (H32.out.step kx)
        have H34 := yy (H34.out.step kx)
        clear kx
        obtain ⟨hpq, rfl⟩ := or_same HOp3x.out HOq3x.out
        have HPQ := yy hpq
        have hee : (E1 != E1) = false := by simp
        clear hpq HOp3x HOq3x
        have kk := kept4 (Kept.refl (· = N34) V2) (.inl rfl) (.int .i64 q3x.round) (.slice q3x1 q3x.ps.length q3xc1) (.slice q3x2 q3x.os.length q3xc2) (.slice q3x3 q3x.ws.length q3xc3)
        have HZ := yy (H34.out.put HVq3x.out)
        have HY := yy (H32.out.far kk (fun e => hne e.symm) H34.out.blk)
        have HK := yy (kept4 KW.out (.inl h34) (.int .i64 q3x.round) (.slice q3x1 q3x.ps.length q3xc1) (.slice q3x2 q3x.os.length q3xc2) (.slice q3x3 q3x.ws.length q3xc3))
        obtain ⟨p_0, p_1, p_2, p_3, p_l⟩ := cells4 (H32.out.blk)
        obtain ⟨q_0, q_1, q_2, q_3, q_l⟩ := cells4 (H34.out.blk)
        have fz := blk_frozen H34.out.blk
        have fq0 := fz 0
        have fq1 := fz 1
        have fq2 := fz 2
        have fq3 := fz 3
        clear fz
        have hne2 : ¬ (N32 = N34) := fun e => hne e.symm
        clear kk HVq3x
        go_wp2_with fail
        have hz := HZ.out
        have hy := HY.out
        have hk := HK.out
        clear HZ HY HK p_0 p_1 p_2 p_3 p_l q_0 q_1 q_2 q_3 q_l fq0 fq1 fq2 fq3 H32 H34 KW
        generalize ((((V2.setCell ⟨N34, 0, none⟩ (.int .i64 q3x.round)).setCell ⟨N34, 1, none⟩ (.slice q3x1 q3x.ps.length q3xc1)).setCell ⟨N34, 2, none⟩ (.slice q3x2 q3x.os.length q3xc2)).setCell ⟨N34, 3, none⟩ (.slice q3x3 q3x.ws.length q3xc3)) = W3 at hz hy hk ⊢
        have H34 := yy hz
        have H32 := yy hy
        have KW := yy hk
        clear hz hy hk hne2
        refine (rsame17 H32.out.val H34.out.val).mono ?_
        rintro _ V3 ⟨rfl, kx⟩
        rw [decide_eq_true HPQ.out]
        have H32 := yy (H32.out.step kx)
        have H34 := yy (H34.out.step kx)
        have KW := yy (KW.out.trans (kx.kept _))
        clear kx
        go_upto_region 33 with fail
        clear hee HPQ
        refine nameGoal fun auxP auxH _ => ?_
        letI auxN : Nonempty auxP := ⟨by
         refine auxH ?_
         obtain ⟨g_0, g_1, g_2, g_l⟩ := cG.out _ KW.out
         obtain ⟨b_0, b_1, b_2, b_3, b_l⟩ := cB.out _ KW.out
         go_wp2_with fail
         refine ((next26 (GV0.out.old KW.out) (BV0.out.old KW.out) FT.out ).mono BPost.of).mono ?_
         rintro _ V1 ⟨p4x, E1, p4x1, p4xc1, p4x2, p4xc2, p4x3, p4xc3, rfl, kx, hv, ho⟩
         have HVp4x := yy hv
         have HOp4x := yy ho
         have KW := yy (KW.out.trans (kx.kept _))
         clear hv ho
         have H32 := yy (H32.out.step kx)
         have H34 := yy (H34.out.step kx)
         clear kx
         clear g_0 g_1 g_2 g_l b_0 b_1 b_2 b_3 b_l
         have kk := kept4 (Kept.refl (· = N32) V1) (.inl rfl) (.int .i64 p4x.round) (.slice p4x1 p4x.ps.length p4xc1) (.slice p4x2 p4x.os.length p4xc2) (.slice p4x3 p4x.ws.length p4xc3)
         have HZ := yy (H32.out.put HVp4x.out)
         have HY := yy (H34.out.far kk hne H32.out.blk)
         have HK := yy (kept4 KW.out (.inl h32) (.int .i64 p4x.round) (.slice p4x1 p4x.ps.length p4xc1) (.slice p4x2 p4x.os.length p4xc2) (.slice p4x3 p4x.ws.length p4xc3))
         obtain ⟨g_0, g_1, g_2, g_l⟩ := cG.out _ KW.out
         obtain ⟨b_0, b_1, b_2, b_3, b_l⟩ := cB.out _ KW.out
         obtain ⟨p_0, p_1, p_2, p_3, p_l⟩ := cells4 (H32.out.blk)
         have fz := blk_frozen H32.out.blk
         have fp0 := fz 0
         have fp1 := fz 1
         have fp2 := fz 2
         have fp3 := fz 3
         clear fz
         have hG32 : ¬ (NG = N32) := by omega
         have hB32 : ¬ (NB = N32) := by omega
         clear kk HVp4x
         go_wp2_with fail
         have hz := HZ.out
         have hy := HY.out
         have hk := HK.out
         clear HZ HY HK g_0 g_1 g_2 g_l b_0 b_1 b_2 b_3 b_l p_0 p_1 p_2 p_3 p_l fp0 fp1 fp2 fp3 H32 H34 KW
         generalize ((((V1.setCell ⟨N32, 0, none⟩ (.int .i64 p4x.round)).setCell ⟨N32, 1, none⟩ (.slice p4x1 p4x.ps.length p4xc1)).setCell ⟨N32, 2, none⟩ (.slice p4x2 p4x.os.length p4xc2)).setCell ⟨N32, 3, none⟩ (.slice p4x3 p4x.ws.length p4xc3)) = W2 at hz hy hk ⊢
         have H32 := yy hz
         have H34 := yy hy
         have KW := yy hk
         clear hz hy hk
         refine ((rnext27 (GV0.out.old KW.out) (BV0.out.old KW.out) FT.out ).mono BPost.of).mono ?_
         rintro _ V2 ⟨q4x, E2, q4x1, q4xc1, q4x2, q4xc2, q4x3, q4xc3, rfl, kx, hv, ho⟩
         have HVq4x := yy hv
         have HOq4x := yy ho
         have KW := yy (KW.out.trans (kx.kept _))
         clear hv ho
         have H32 := yy (H32.out.step kx)
         have H34 := yy (H34.out.step kx)
         clear kx
         obtain ⟨hpq, rfl⟩ := or_same HOp4x.out HOq4x.out
         have HPQ := yy hpq
         have hee : (E1 != E1) = false := by simp
         clear hpq HOp4x HOq4x
         have kk := kept4 (Kept.refl (· = N34) V2) (.inl rfl) (.int .i64 q4x.round) (.slice q4x1 q4x.ps.length q4xc1) (.slice q4x2 q4x.os.length q4xc2) (.slice q4x3 q4x.ws.length q4xc3)
         have HZ := yy (H34.out.put HVq4x.out)
         have HY := yy (H32.out.far kk (fun e => hne e.symm) H34.out.blk)
         have HK := yy (kept4 KW.out (.inl h34) (.int .i64 q4x.round) (.slice q4x1 q4x.ps.length q4xc1) (.slice q4x2 q4x.os.length q4xc2) (.slice q4x3 q4x.ws.length q4xc3))
         obtain ⟨p_0, p_1, p_2, p_3, p_l⟩ := cells4 (H32.out.blk)
         obtain ⟨q_0, q_1, q_2, q_3, q_l⟩ := cells4 (H34.out.blk)
         have fz := blk_frozen H34.out.blk
         have fq0 := fz 0
         have fq1 := fz 1
         have fq2 := fz 2
         have fq3 := fz 3
         clear fz
         have hne2 : ¬ (N32 = N34) := fun e => hne e.symm
         clear kk HVq4x
         go_wp2_with fail
         have hz := HZ.out
         have hy := HY.out
         have hk := HK.out
         clear HZ HY HK p_0 p_1 p_2 p_3 p_l q_0 q_1 q_2 q_3 q_l fq0 fq1 fq2 fq3 H32 H34 KW
         generalize ((((V2.setCell ⟨N34, 0, none⟩ (.int .i64 q4x.round)).setCell ⟨N34, 1, none⟩ (.slice q4x1 q4x.ps.length q4xc1)).setCell ⟨N34, 2, none⟩ (.slice q4x2 q4x.os.length q4xc2)).setCell ⟨N34, 3, none⟩ (.slice q4x3 q4x.ws.length q4xc3)) = W3 at hz hy hk ⊢
         have H34 := yy hz
         have H32 := yy hy
         have KW := yy hk
         clear hz hy hk hne2
         refine (rsame17 H32.out.val H34.out.val).mono ?_
         rintro _ V3 ⟨rfl, kx⟩
         rw [decide_eq_true HPQ.out]
         have H32 := yy (H32.out.step kx)
         have H34 := yy (H34.out.step kx)
         have KW := yy (KW.out.trans (kx.kept _))
         clear kx
         go_upto_region 37 with fail
         clear hee HPQ
         refine nameGoal fun auxP auxH _ => ?_
         letI auxN : Nonempty auxP := ⟨by
          refine auxH ?_
          obtain ⟨g_0, g_1, g_2, g_l⟩ := cG.out _ KW.out
          obtain ⟨b_0, b_1, b_2, b_3, b_l⟩ := cB.out _ KW.out
          go_wp2_with fail
          refine ((take28 (GV0.out.old KW.out) (BV0.out.old KW.out) FT.out (HI.out _ (show Gro W1 _ from Kept.trans' K1.out KW.out (fun j hj => .inr (Nat.le_trans K1.out.size hj)))) (by simp; omega)).mono BPost.of).mono ?_
          rintro _ V1 ⟨p5x, E1, p5x1, p5xc1, p5x2, p5xc2, p5x3, p5xc3, rfl, kx, hv, ho⟩
          have HVp5x := yy hv
          have HOp5x := yy ho
          have KW := yy (KW.out.trans (kx.kept _))
          clear hv ho
          have H32 := yy (H32.out.step kx)
          have H34 := yy (H34.out.step kx)
          clear kx
          clear g_0 g_1 g_2 g_l b_0 b_1 b_2 b_3 b_l
          have kk := kept4 (Kept.refl (· = N32) V1) (.inl rfl) (.int .i64 p5x.round) (.slice p5x1 p5x.ps.length p5xc1) (.slice p5x2 p5x.os.length p5xc2) (.slice p5x3 p5x.ws.length p5xc3)
          have HZ := yy (H32.out.put HVp5x.out)
          have HY := yy (H34.out.far kk hne H32.out.blk)
          have HK := yy (kept4 KW.out (.inl h32) (.int .i64 p5x.round) (.slice p5x1 p5x.ps.length p5xc1) (.slice p5x2 p5x.os.length p5xc2) (.slice p5x3 p5x.ws.length p5xc3))
          obtain ⟨g_0, g_1, g_2, g_l⟩ := cG.out _ KW.out
          obtain ⟨b_0, b_1, b_2, b_3, b_l⟩ := cB.out _ KW.out
          obtain ⟨p_0, p_1, p_2, p_3, p_l⟩ := cells4 (H32.out.blk)
          have fz := blk_frozen H32.out.blk
          have fp0 := fz 0
          have fp1 := fz 1
          have fp2 := fz 2
          have fp3 := fz 3
          clear fz
          have hG32 : ¬ (NG = N32) := by omega
          have hB32 : ¬ (NB = N32) := by omega
          clear kk HVp5x
          go_wp2_with fail
          have hz := HZ.out
          have hy := HY.out
          have hk := HK.out
          clear HZ HY HK g_0 g_1 g_2 g_l b_0 b_1 b_2 b_3 b_l p_0 p_1 p_2 p_3 p_l fp0 fp1 fp2 fp3 H32 H34 KW
          generalize ((((V1.setCell ⟨N32, 0, none⟩ (.int .i64 p5x.round)).setCell ⟨N32, 1, none⟩ (.slice p5x1 p5x.ps.length p5xc1)).setCell ⟨N32, 2, none⟩ (.slice p5x2 p5x.os.length p5xc2)).setCell ⟨N32, 3, none⟩ (.slice p5x3 p5x.ws.length p5xc3)) = W2 at hz hy hk ⊢
          have H32 := yy hz
          have H34 := yy hy
          have KW := yy hk
          clear hz hy hk
          refine ((rtake29 (GV0.out.old KW.out) (BV0.out.old KW.out) FT.out (HI.out _ (show Gro W1 _ from Kept.trans' K1.out KW.out (fun j hj => .inr (Nat.le_trans K1.out.size hj))))).mono BPost.of).mono ?_
          rintro _ V2 ⟨q5x, E2, q5x1, q5xc1, q5x2, q5xc2, q5x3, q5xc3, rfl, kx, hv, ho⟩
          have HVq5x := yy hv
          have HOq5x := yy ho
          have KW := yy (KW.out.trans (kx.kept _))
          clear hv ho
          have H32 := yy (H32.out.step kx)
          have H34 := yy (H34.out.step kx)
          clear kx
          obtain ⟨hpq, rfl⟩ := or_same HOp5x.out HOq5x.out
          have HPQ := yy hpq
          have hee : (E1 != E1) = false := by simp
          clear hpq HOp5x HOq5x
          have kk := kept4 (Kept.refl (· = N34) V2) (.inl rfl) (.int .i64 q5x.round) (.slice q5x1 q5x.ps.length q5xc1) (.slice q5x2 q5x.os.length q5xc2) (.slice q5x3 q5x.ws.length q5xc3)
          have HZ := yy (H34.out.put HVq5x.out)
          have HY := yy (H32.out.far kk (fun e => hne e.symm) H34.out.blk)
          have HK := yy (kept4 KW.out (.inl h34) (.int .i64 q5x.round) (.slice q5x1 q5x.ps.length q5xc1) (.slice q5x2 q5x.os.length q5xc2) (.slice q5x3 q5x.ws.length q5xc3))
          obtain ⟨p_0, p_1, p_2, p_3, p_l⟩ := cells4 (H32.out.blk)
          obtain ⟨q_0, q_1, q_2, q_3, q_l⟩ := cells4 (H34.out.blk)
          have fz := blk_frozen H34.out.blk
          have fq0 := fz 0
          have fq1 := fz 1
          have fq2 := fz 2
          have fq3 := fz 3
          clear fz
          have hne2 : ¬ (N32 = N34) := fun e => hne e.symm
          clear kk HVq5x
          go_wp2_with fail
          have hz := HZ.out
          have hy := HY.out
          have hk := HK.out
          clear HZ HY HK p_0 p_1 p_2 p_3 p_l q_0 q_1 q_2 q_3 q_l fq0 fq1 fq2 fq3 H32 H34 KW
          generalize ((((V2.setCell ⟨N34, 0, none⟩ (.int .i64 q5x.round)).setCell ⟨N34, 1, none⟩ (.slice q5x1 q5x.ps.length q5xc1)).setCell ⟨N34, 2, none⟩ (.slice q5x2 q5x.os.length q5xc2)).setCell ⟨N34, 3, none⟩ (.slice q5x3 q5x.ws.length q5xc3)) = W3 at hz hy hk ⊢
          have H34 := yy hz
          have H32 := yy hy
          have KW := yy hk
          clear hz hy hk hne2
          refine (rsame17 H32.out.val H34.out.val).mono ?_
          rintro _ V3 ⟨rfl, kx⟩
          rw [decide_eq_true HPQ.out]
          have H32 := yy (H32.out.step kx)
          have H34 := yy (H34.out.step kx)
          have KW := yy (KW.out.trans (kx.kept _))
          clear kx
          go_upto_region 41 with fail
          clear hee HPQ
          refine nameGoal fun auxP auxH _ => ?_
          letI auxN : Nonempty auxP := ⟨by
           refine auxH ?_
           clear H32 H34 h32 h34 hne
           obtain ⟨g_0, g_1, g_2, g_l⟩ := cG.out _ KW.out
           obtain ⟨b_0, b_1, b_2, b_3, b_l⟩ := cB.out _ KW.out
           go_wp2_with fail
           refine ((graph30 (GV0.out.old KW.out) (BV0.out.old KW.out) FT.out).mono GPost.of).mono ?_
           rintro _ V1 ⟨gp, E1, gp1, gpc1, gp2, gpc2, gp3, gpc3, rfl, kx, hv, ho⟩
           have HVgp := yy hv
           have HOgp := yy ho
           have KW := yy (KW.out.trans (kx.kept _))
           clear hv ho kx
           clear g_0 g_1 g_2 g_l b_0 b_1 b_2 b_3 b_l
           obtain ⟨g_0, g_1, g_2, g_l⟩ := cG.out _ KW.out
           obtain ⟨b_0, b_1, b_2, b_3, b_l⟩ := cB.out _ KW.out
           go_wp2_with fail
           obtain ⟨W2, hW⟩ : ∃ W2, W2 = V1.alloc (Obj.cells #[.slice gp1 gp.vs.length gpc1, .slice gp2 gp.es.length gpc2, .slice gp3 gp.ds.length gpc3] 38) := ⟨_, rfl⟩
           have kx : Gro V1 W2 := by rw [hW]; exact (Gro.refl _).alloc _
           have h36 : W2.heap[V1.heap.size]? = some (.cells #[.slice gp1 gp.vs.length gpc1, .slice gp2 gp.es.length gpc2, .slice gp3 gp.ds.length gpc3] 38 (0, 0)) := by rw [hW]; exact blk_new _ _
           rw [← hW]
           have HVgp := yy (HVgp.out.gro kx)
           have KW := yy (KW.out.trans (kx.kept _))
           clear hW kx
           clear g_0 g_1 g_2 g_l b_0 b_1 b_2 b_3 b_l
           generalize V1.heap.size = N36 at h36 ⊢
           refine ((rgraph31 (GV0.out.old KW.out) (BV0.out.old KW.out) FT.out).mono GPost.of).mono ?_
           rintro _ V2 ⟨gq, E2, gq1, gqc1, gq2, gqc2, gq3, gqc3, rfl, kx, hv, ho⟩
           have HVgq := yy hv
           have HOgq := yy ho
           have KW := yy (KW.out.trans (kx.kept _))
           have H36 := yy (kx.blk h36)
           have HVgp := yy (HVgp.out.gro kx)
           clear hv ho kx h36
           obtain ⟨hg, rfl⟩ := gr_same HOgp.out HOgq.out
           have HGE := yy hg
           have hee : (E1 != E1) = false := by simp
           clear hg HOgp HOgq
           obtain ⟨g_0, g_1, g_2, g_l⟩ := cG.out _ KW.out
           obtain ⟨b_0, b_1, b_2, b_3, b_l⟩ := cB.out _ KW.out
           obtain ⟨c_0, c_1, c_2, c_3, c_l⟩ := cells4 (KW.out.blk NCF.out (by show ¬ (w0.heap.size ≤ NC); omega))
           go_wp2_with fail
           obtain ⟨W3, hW⟩ : ∃ W3, W3 = V2.alloc (Obj.cells #[.slice gq1 gq.vs.length gqc1, .slice gq2 gq.es.length gqc2, .slice gq3 gq.ds.length gqc3] 38) := ⟨_, rfl⟩
           have kx : Gro V2 W3 := by rw [hW]; exact (Gro.refl _).alloc _
           have h38 : W3.heap[V2.heap.size]? = some (.cells #[.slice gq1 gq.vs.length gqc1, .slice gq2 gq.es.length gqc2, .slice gq3 gq.ds.length gqc3] 38 (0, 0)) := by rw [hW]; exact blk_new _ _
           rw [← hW]
           have HVgq := yy (HVgq.out.gro kx)
           have HVgp := yy (HVgp.out.gro kx)
           have H36 := yy (kx.blk H36.out)
           have KW := yy (KW.out.trans (kx.kept _))
           clear hW kx
           clear g_0 g_1 g_2 g_l b_0 b_1 b_2 b_3 b_l c_0 c_1 c_2 c_3 c_l
           generalize V2.heap.size = N38 at h38 ⊢
           refine ((changes32 (GV0.out.old KW.out) (BV0.out.old KW.out) (BCC.out.old KW.out) FT.out FTC.out).mono CPost.of).mono ?_
           rintro _ V3 ⟨k1, E3, ka, kn, rfl, kx, hv, ho⟩
           have HK1 := yy hv
           have HO1 := yy ho
           have KW := yy (KW.out.trans (kx.kept _))
           have HVgq := yy (HVgq.out.gro kx)
           have HVgp := yy (HVgp.out.gro kx)
           have H36 := yy (kx.blk H36.out)
           have H38 := yy (kx.blk h38)
           clear hv ho kx h38
           obtain ⟨g_0, g_1, g_2, g_l⟩ := cG.out _ KW.out
           obtain ⟨b_0, b_1, b_2, b_3, b_l⟩ := cB.out _ KW.out
           obtain ⟨c_0, c_1, c_2, c_3, c_l⟩ := cells4 (KW.out.blk NCF.out (by show ¬ (w0.heap.size ≤ NC); omega))
           go_wp2_with fail
           refine ((rchanges33 (GV0.out.old KW.out) (BV0.out.old KW.out) (BCC.out.old KW.out) FT.out FTC.out).mono CPost.of).mono ?_
           rintro _ V4 ⟨k2, E4, qa, qn, rfl, kx, hv, ho⟩
           obtain ⟨hkk, rfl⟩ := cr_same HO1.out ho
           have HKE := yy hkk
           have HK2 := yy hv
           have HK1 := yy (HK1.out.gro kx)
           have KW := yy (KW.out.trans (kx.kept _))
           have HVgq := yy (HVgq.out.gro kx)
           have HVgp := yy (HVgp.out.gro kx)
           have H36 := yy (kx.blk H36.out)
           have H38 := yy (kx.blk H38.out)
           have hee2 : (E3 != E3) = false := by simp
           clear g_0 g_1 g_2 g_l b_0 b_1 b_2 b_3 b_l c_0 c_1 c_2 c_3 c_l
           clear hv ho kx hkk HO1
           obtain ⟨m0, m1, m2, ml⟩ := cells3 H36.out
           obtain ⟨n0, n1, n2, nl⟩ := cells3 H38.out
           go_wp2_with fail
           refine (rsame34 HVgp.out HVgq.out).mono ?_
           rintro _ V5 ⟨rfl, kx⟩
           rw [decide_eq_true HGE.out]
           have HK1 := yy (HK1.out.gro kx)
           have HK2 := yy (HK2.out.gro kx)
           have KW := yy (KW.out.trans (kx.kept _))
           clear kx m0 m1 m2 ml n0 n1 n2 nl
           go_wp2_with fail
           refine (schanges35 HK1.out HK2.out).mono ?_
           rintro _ V6 ⟨rfl, kx⟩
           rw [decide_eq_true HKE.out]
           have KW := yy (KW.out.trans (kx.kept _))
           have KE := yy (show Gro wl V6 from Kept.trans' KL.out KW.out (fun j hj => .inr (Nat.le_trans KL.out.size hj)))
           clear kx hee hee2
           go_wp2_with fail
           go_roundw
           case rel => exact ⟨k + 1, by omega, by go_num, KE⟩
           case measure => simp [intOf]; omega⟩
          exact (show Nonempty auxP from inferInstanceAs (Nonempty auxP)).elim id⟩
         exact (show Nonempty auxP from inferInstanceAs (Nonempty auxP)).elim id⟩
        exact (show Nonempty auxP from inferInstanceAs (Nonempty auxP)).elim id⟩
       exact (show Nonempty auxP from inferInstanceAs (Nonempty auxP)).elim id⟩
      exact (show Nonempty auxP from inferInstanceAs (Nonempty auxP)).elim id⟩
     exact (show Nonempty auxP from inferInstanceAs (Nonempty auxP)).elim id⟩
    exact (show Nonempty auxP from inferInstanceAs (Nonempty auxP)).elim id⟩
   exact (show Nonempty auxP from inferInstanceAs (Nonempty auxP)).elim id
  have hlt3 := decide_eq_false (show ¬ (k : Int) < 3 by omega)
  go_wp2_with fail
  go_ret
  exact (show Truth w _ _ from ⟨rfl, HKW.out.trans (HB.out.gro.trans KR.out)⟩)⟩
 exact (show Nonempty auxP from inferInstanceAs (Nonempty auxP)).elim id
end Go.Proofs.YthfagcdjbmhhcaaGreat
