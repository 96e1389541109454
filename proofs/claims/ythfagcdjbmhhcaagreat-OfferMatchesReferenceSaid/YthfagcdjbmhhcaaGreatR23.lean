/- the reference: Made of graphs. -/
import Derived.Test.YthfagcdjbmhhcaaGreatK27
import Derived.Test.YthfagcdjbmhhcaaGreatL4
set_option linter.unusedVariables false
set_option linter.unusedSimpArgs false
namespace Go.Proofs.YthfagcdjbmhhcaaGreat
open Go.RowKit
attribute [local irreducible] wpQuiet
theorem lfR231 {P : Prop} (h : P := by (intro W9 hSw; obtain ⟨g0, c0, c1, d0, d1, d2, d3, d4⟩ := hSw; have hlg := World.block_lt_of_cell? _ _ g0; have hlo := World.block_lt_of_cell? _ _ c0; have hlB := World.block_lt_of_cell? _ _ d0; go_simp; try with_reducible rfl)) : P := h
theorem lfR232 {P : Prop} (h : P := by (intro w0 hSw; obtain ⟨hSg, e0⟩ := hSw; obtain ⟨cb0, cb1, cb2, cbl⟩ := cells3 hSg; have hlo := World.block_lt_of_cell? _ _ e0; clear hSg; go_simp; try with_reducible rfl)) : P := h
theorem tdiv_i64 {n : Int} (hn : I64 n) (k : Int) (hk : 0 < k) : I64 (n.tdiv k) := by
 unfold I64 at hn ⊢
 rcases Int.le_total 0 n with h | h
 ·rw [Int.tdiv_eq_ediv_of_nonneg h]
  have h1 := Int.ediv_nonneg h (by omega : 0 ≤ k)
  have h2 := Int.ediv_le_self k h
  omega
 have e : n.tdiv k = -((-n).tdiv k) := by rw [Int.neg_tdiv]; omega
 rw [e, Int.tdiv_eq_ediv_of_nonneg (by omega)]
 have h1 := Int.ediv_nonneg (by omega : 0 ≤ -n) (by omega : 0 ≤ k)
 have h2 := Int.ediv_le_self k (by omega : 0 ≤ -n)
 omega
theorem wrap_i64 (x : Int) : I64 (IntKind.i64.wrap x) := by unfold I64; rw [IntKind.wrap_i64]; omega
theorem i64_wrap {x : Int} (h : I64 x) : IntKind.i64.wrap x = x := by unfold I64 at h; rw [IntKind.wrap_i64]; omega
/-- the graph that is being made, and an edge in a block N of its own -/
structure RGN (w wr : World) (v1 v2 v3 : Value) (vs : List Vtx) (es : List Edg) (ds : List Int) (N : Nat) (x : Edg) : Prop where
 rg : RG w wr v1 v2 v3 vs es ds
 nb : wr.heap[N]? = some (.cells #[.int .i64 x.id, .int .i64 x.src, .int .i64 x.dst, .bool x.dir, .int .i64 x.weight, .int .i64 x.cap] 69 (0, 0))
 f1 : ∀ b, v1.ownBlock = some b → b < N
 f2 : ∀ b, v2.ownBlock = some b → b < N
 f3 : ∀ b, v3.ownBlock = some b → b < N
 lo : w.heap.size + 1 < N
theorem RGN.make {w wr w' : World} {v1 v2 v3 : Value} {vs : List Vtx} {es : List Edg} {ds : List Int} (h : RG w wr v1 v2 v3 vs es ds) {N : Nat} {x : Edg} (k : Gro wr w') (hN : wr.heap.size ≤ N) (nb : w'.heap[N]? = some (.cells #[.int .i64 x.id, .int .i64 x.src, .int .i64 x.dst, .bool x.dir, .int .i64 x.weight, .int .i64 x.cap] 69 (0, 0))) : RGN w w' v1 v2 v3 vs es ds N x :=
 ⟨h.step k, nb, fun b hb => by have := (h.o1.block hb).2.1; omega, fun b hb => by have := (h.o2.block hb).2.1; omega, fun b hb => by have := (h.o3.block hb).2.1; omega, by have := h.bz; omega⟩
theorem RGN.step {w wr w' : World} {v1 v2 v3 : Value} {vs : List Vtx} {es : List Edg} {ds : List Int} {N : Nat} {x : Edg} (h : RGN w wr v1 v2 v3 vs es ds N x) (k : Gro wr w') : RGN w w' v1 v2 v3 vs es ds N x := ⟨h.rg.step k, k.blk h.nb, h.f1, h.f2, h.f3, h.lo⟩
theorem RGN.put {w wr : World} {v1 v2 v3 : Value} {vs : List Vtx} {es : List Edg} {ds : List Int} {N : Nat} {x : Edg} (h : RGN w wr v1 v2 v3 vs es ds N x) (y : Int) : RGN w (wr.setCell ⟨N, 4, none⟩ (.int .i64 y)) v1 v2 v3 vs es ds N { x with weight := y } := by
 have kk : Kept (· = N) wr (wr.setCell ⟨N, 4, none⟩ (.int .i64 y)) := (Kept.refl (· = N) wr).setCell (p := ⟨N, 4, none⟩) (.inl rfl) _
 have hl := h.lo
 refine ⟨⟨kk.blk h.rg.tb (by omega), kk.blk h.rg.gb (by omega), h.rg.o1.kept kk (fun b hb e => by have := h.f1 b hb; omega), h.rg.o2.kept kk (fun b hb e => by have := h.f2 b hb; omega), h.rg.o3.kept kk (fun b hb e => by have := h.f3 b hb; omega), Kept.setCell h.rg.gro (.inr (by show w.heap.size ≤ N; omega)) _⟩, ?_, h.f1, h.f2, h.f3, h.lo⟩
 have := blk_set h.nb 4 (.int .i64 y)
 simpa using this
def MadeG (w : World) (e : Ending) (w' : World) : Prop := ∃ v g, e = .returned v ∧ GrV w' v g ∧ (g.vs.length ≤ 24 ∧ g.es.length ≤ 40 ∧ g.ds.length ≤ 24) ∧ Gro w w'
set_option maxHeartbeats 16000000 in
set_option maxRecDepth 100000 in
theorem made13 {w : World} (n : Int) (hn : I64 n) {lv : Value} {l : List A5} (hl : LV w lv l) (hok : ∀ x ∈ l, x.ok) : Calls Tryz.prog 13 #[.int .i64 n, lv, .bool false] w (MadeG w) := by
 have hmix := mixed
 obtain ⟨al, cl, rfl, hll⟩ := hl
 have hbig := hll.big
 have q8 := pk_range (c := n) (n := 8) (by omega)
 have P8 := yy (fun W => pick50 (w := W) n 8 hn (by omega))
 have Q8 := yy (fun W => pick50 (w := W) (n.tdiv 8) 2 (tdiv_i64 hn 8 (by omega)) (by omega))
 have Q64 := yy (fun W => pick50 (w := W) (n.tdiv 64) 3 (tdiv_i64 hn 64 (by omega)) (by omega))
 have Q4 := yy (fun W => pick50 (w := W) (n.tdiv 4) 20 (tdiv_i64 hn 4 (by omega)) (by omega))
 have Q32 := yy (fun W => pick50 (w := W) (n.tdiv 32) 4 (tdiv_i64 hn 32 (by omega)) (by omega))
 have q32 := pk_range (c := n.tdiv 32) (n := 4) (by omega)
 have hw8 := i64_wrap (tdiv_i64 hn 8 (by omega))
 have hw64 := i64_wrap (tdiv_i64 hn 64 (by omega))
 have hw4 := i64_wrap (tdiv_i64 hn 4 (by omega))
 have hw32 := i64_wrap (tdiv_i64 hn 32 (by omega))
 have hw16 := i64_wrap (tdiv_i64 hn 16 (by omega))
 generalize pk n 8 = y1 at P8 q8
 generalize pk (n.tdiv 8) 2 = y2 at Q8
 generalize pk (n.tdiv 64) 3 = y3 at Q64
 generalize pk (n.tdiv 4) 20 = y4 at Q4
 generalize pk (n.tdiv 32) 4 = y5 at Q32 q32
 obtain ⟨m1, rfl⟩ : ∃ m : Nat, y1 = m := ⟨y1.toNat, by omega⟩
 obtain ⟨m5, rfl⟩ : ∃ m : Nat, y5 = m := ⟨y5.toNat, by omega⟩
 obtain ⟨many, hmany⟩ : ∃ q, q = Nat.succ m1 := ⟨_, rfl⟩
 have hM1 : 1 ≤ many := by omega
 have hM8 : many ≤ 8 := by omega
 have hwm : IntKind.i64.wrap (1 + (m1 : Int)) = (many : Int) := by rw [IntKind.wrap_i64]; omega
 clear hmany q8
 have HL := yy hll
 have HOK := yy hok
 obtain ⟨wa, hwa⟩ : ∃ wa, wa = (w.alloc (Obj.cells #[Value.slice none 0 0, Value.slice none 0 0, Value.slice none 0 0] 38)).alloc (Obj.cells #[Value.slice none 0 0, Value.slice none 0 0, Value.slice none 0 0] 38) := ⟨_, rfl⟩
 have HR0 : Hid (RG w wa (.slice none 0 0) (.slice none 0 0) (.slice none 0 0) [] [] []) := yy (by
  have hb := blk_new (w.alloc (Obj.cells #[Value.slice none 0 0, Value.slice none 0 0, Value.slice none 0 0] 38)) (Obj.cells #[Value.slice none 0 0, Value.slice none 0 0, Value.slice none 0 0] 38)
  rw [asz] at hb
  rw [hwa]
  exact ⟨blk_alloc (blk_new _ _) _, hb, OwnL.nil _ _, OwnL.nil _ _, OwnL.nil _ _, ((Gro.refl _).alloc _).alloc _⟩)
 have HWA := yy hwa
 clear hll hok hwa hn
 go_enter Tryz.func13, Tryz.ntmps13
 go_wp2_with fail
 rw [← HWA.out]
 clear HWA
 refine (P8.out _).mono ?_
 rintro e w' ⟨rfl, rfl⟩
 clear P8
 go_wp2_with fail
 go_loopw [9] (fun t wr => ∃ (k : Nat) (v1 : Value) (vs : List Vtx), k ≤ many ∧ t = .int .i64 k ∧ vs.length = k ∧ Hid (RG w wr v1 (.slice none 0 0) (.slice none 0 0) vs [] [])) (fun t _ => many - (intOf t).toNat)
 case atStart => exact ⟨0, _, [], Nat.zero_le _, by go_num, rfl, HR0⟩
 case round =>
 clear HR0
 obtain ⟨k, v1, vs, hk, rfl, hvl, HR⟩ := hrel
 obtain ⟨ga1, gc1, ge1⟩ := HR.out.o1.form
 generalize hgn1 : vs.length = gn1 at ge1
 subst ge1
 have hbz := HR.out.bz
 by_cases hlt : k < many
 ·have HVL := yy hvl
  have hk2 : vs.length ≤ 900000 := by omega
  clear hvl hgn1
  go_upto_if 34 with (go_at_call 50; refine (Q8.out _).mono ?_; rintro _ wq ⟨rfl, rfl⟩)
  go_cut [10] (fun t wx => (∃ d : Int, t = .int .i64 d) ∧ wx = wq)
  case first =>
   by_cases hy : y2 = 1
   ·have hyd : (y2 == 1) = true := by simpa using hy
    clear hy
    go_wp2_with fail
    go_meet
    exact ⟨⟨_, rfl⟩, rfl⟩
   have hyd : (y2 == 1) = false := by simpa using hy
   clear hy
   go_wp2_with fail
   go_meet
   exact ⟨⟨_, rfl⟩, rfl⟩
  case rest =>
  obtain ⟨⟨d, rfl⟩, rfl⟩ := hcut
  go_wp2_with fail
  have hS : (fun w' => w'.heap[w.heap.size + 1]? = some (.cells #[.slice ga1 gn1 gc1, .slice none 0 0, .slice none 0 0] 38 (0, 0))) wc.drew := (Gro.refl wc).drew.blk HR.out.gb
  refine anyL_begin 17 (fun w' => w'.heap[w.heap.size + 1]? = some (.cells #[.slice ga1 gn1 gc1, .slice none 0 0, .slice none 0 0] 38 (0, 0))) (by kernel_rfl) ?_
  have HD := yy (HR.out.step (Gro.refl wc).drew)
  clear HR 
  generalize wc.drew = wd at hS HD ⊢
  refine tkL 0 rfl (by intro w0 hSg; obtain ⟨cb0, cb1, cb2, cbl⟩ := cells3 hSg; clear hSg; go_simp; try with_reducible rfl) hS ?_
  refine nx ?_
  refine tkL 1 rfl (by intro w0 hSg; obtain ⟨cb0, cb1, cb2, cbl⟩ := cells3 hSg; clear hSg; go_simp; try with_reducible rfl) hS ?_
  refine nx ?_
  refine tkL 2 rfl (by intro w0 hSg; obtain ⟨cb0, cb1, cb2, cbl⟩ := cells3 hSg; clear hSg; go_simp; try with_reducible rfl) hS ?_
  refine nx ?_
  refine tkL 3 rfl (by intro w0 hSg; obtain ⟨cb0, cb1, cb2, cbl⟩ := cells3 hSg; clear hSg; go_simp; try with_reducible rfl) hS ?_
  refine nx ?_
  refine tkL 4 rfl (by intro w0 hSg; obtain ⟨cb0, cb1, cb2, cbl⟩ := cells3 hSg; clear hSg; go_simp; try with_reducible rfl) hS ?_
  refine nx ?_
  refine tkL 5 rfl (by intro w0 hSg; obtain ⟨cb0, cb1, cb2, cbl⟩ := cells3 hSg; clear hSg; go_simp; try with_reducible rfl) hS ?_
  refine nx ?_
  refine tkL 6 rfl (by intro w0 hSg; obtain ⟨cb0, cb1, cb2, cbl⟩ := cells3 hSg; clear hSg; go_simp; try with_reducible rfl) hS ?_
  refine nx ?_
  refine tkL 7 rfl (by intro w0 hSg; obtain ⟨cb0, cb1, cb2, cbl⟩ := cells3 hSg; clear hSg; go_simp; try with_reducible rfl) hS ?_
  refine nx ?_
  refine anyL_one (i := 8) (by kernel_rfl) rfl (fun K hK => ?_)
  go_simp
  refine (Q64.out _).mono ?_
  rintro _ w' ⟨rfl, rfl⟩
  refine hK.out _ _ (fun _ => hS) ?_
  clear hK K
  try refine nx ?_
  refine tkL 9 rfl (by intro w0 hSg; obtain ⟨cb0, cb1, cb2, cbl⟩ := cells3 hSg; clear hSg; go_simp; try with_reducible rfl) hS ?_
  refine nx ?_
  refine tkL 10 rfl (by intro w0 hSg; obtain ⟨cb0, cb1, cb2, cbl⟩ := cells3 hSg; clear hSg; go_simp; try with_reducible rfl) hS ?_
  refine nx ?_
  refine tkL 11 rfl (by intro w0 hSg; obtain ⟨cb0, cb1, cb2, cbl⟩ := cells3 hSg; clear hSg; go_simp; try with_reducible rfl) hS ?_
  refine nx ?_
  refine anyL_one (i := 12) (by kernel_rfl) rfl (fun K hK => ?_)
  go_simp
  refine (pick50 _ 4 (by first | exact wrap_i64 _) (by omega)).mono ?_
  rintro _ w' ⟨rfl, rfl⟩
  generalize pk _ 4 = z
  refine hK.out _ _ (fun _ => hS) ?_
  clear hK K
  try refine nx ?_
  refine tkL 13 rfl (by intro w0 hSg; obtain ⟨cb0, cb1, cb2, cbl⟩ := cells3 hSg; clear hSg; go_simp; try with_reducible rfl) hS ?_
  refine nx ?_
  refine anyL_one (i := 14) (by kernel_rfl) rfl (fun K hK => ?_)
  go_simp
  obtain ⟨w1, hw1⟩ : ∃ w1, w1 = w'.alloc (Obj.cells #[.int .i64 d, .int .i64 z] 77) := ⟨_, rfl⟩
  rw [← hw1]
  have k1 : Gro w' w1 := by rw [hw1]; exact (Gro.refl _).alloc _
  have b1 : w1.heap[w'.heap.size]? = some (.cells #[.int .i64 d, .int .i64 z] 77 (0, 0)) := by rw [hw1]; exact blk_new _ _
  have hS1 : (fun w' => w'.heap[w.heap.size + 1]? = some (.cells #[.slice ga1 gn1 gc1, .slice none 0 0, .slice none 0 0] 38 (0, 0))) w1 := k1.blk hS
  clear hw1
  refine hK.out _ _ (fun _ => hS1) ?_
  clear hK K
  try refine nx ?_
  have HD1 := HD.out.step k1
  obtain ⟨v2', w2, hrun2, o2, k2, _⟩ := run_app (α := Vtx) HD1.o1 ⟨w'.heap.size, 0, none⟩ 1 1 [⟨d, z⟩] rfl (fun j u hu => World.news_of_block b1 j u (by simpa [flat, Rec.cs] using hu)) (by omega) HD1.bz 35
  have hGb := k2.blk HD1.gb (own_far HD1.o1 HD1.gb (by decide))
  have HP := yy (HD1.put1 o2 k2)
  obtain ⟨a', c', e'⟩ := o2.form
  generalize (vs ++ [(⟨d, z⟩ : Vtx)]).length = nq at e'
  subst e'
  have hS2 : (fun w' => w'.heap[w.heap.size + 1]? = some (.cells #[.slice ga1 gn1 gc1, .slice none 0 0, .slice none 0 0] 38 (0, 0))) w2 := hGb
  refine anyL_one (i := 15) (by kernel_rfl) rfl (fun K hK => ?_)
  refine step_run rfl _ _ 35 rfl _ _ rfl rfl hrun2 ?_
  refine hK.out _ _ (fun _ => hS2) ?_
  clear hK K
  try refine nx ?_
  have hS := hS2
  refine tkL 16 rfl (by intro w0 hSg; obtain ⟨cb0, cb1, cb2, cbl⟩ := cells3 hSg; clear hSg; go_simp; try with_reducible rfl) hS ?_
  refine nx ?_
  have fz := blk_frozen hGb 0
  have ct := blk_cell hGb 0
  simp only [lPa, lPb, lPc] at ct
  have hlT := blk_lt hGb
  refine anyL_one (i := 17) (by kernel_rfl) rfl (fun K hK => ?_)
  go_simp
  refine hK.out _ _ (fun h => absurd rfl h) ?_
  clear hK K
  try refine nx ?_
  refine anyL_done (by kernel_rfl) ?_
  go_wp2_with fail
  go_roundw
  case rel => exact ⟨k + 1, _, _, by omega, by go_num, by rw [List.length_append, HVL.out]; rfl, HP⟩
  case measure => simp [intOf]; omega
 obtain rfl : many = k := by omega
 have HVL := yy hvl
 clear hvl
 go_wp2_with fail
 go_loopw [11] (fun t wr => ∃ (i : Nat) (v2 : Value) (es : List Edg), i ≤ l.length ∧ i ≤ 20 ∧ es.length = i ∧ t = .int .i64 i ∧ Hid (RG w wr (.slice ga1 gn1 gc1) v2 (.slice none 0 0) vs es [])) (fun t _ => l.length - (intOf t).toNat)
 case atStart => exact ⟨0, _, [], Nat.zero_le _, Nat.zero_le _, rfl, by go_num, HR⟩
 case round =>
 clear HR
 obtain ⟨i, v2, es, hi, hi20, hel, rfl, HR⟩ := hrel
 obtain ⟨ga2, gc2, ge2⟩ := HR.out.o2.form
 generalize hgn2 : es.length = gn2 at ge2
 subst ge2
 have hel9 : es.length ≤ 20 := by omega
 by_cases hlt1 : i < l.length
 ·by_cases hlt20 : i < 20
  ·have hd20 := decide_eq_true (show (i : Int) < 20 by omega)
   have HEL := yy hel
   obtain ⟨B, off, rfl, hB, hc⟩ := HL.out.base hlt1
   obtain ⟨d0, d1, d2, d3, d4⟩ := acells5 hc hlt1
   have hx := HOK.out _ (List.getElem_mem hlt1)
   generalize l[i] = x at d0 d1 d2 d3 d4 hx
   obtain ⟨x0, x1, x2, x3, x4⟩ := x
   obtain ⟨rx0, rx1, rx2, rx3, rx4⟩ := hx
   simp only at d0 d1 d2 d3 d4 rx0 rx1 rx2 rx3 rx4
   have HD3 := yy d3
   have HD4 := yy d4
   have hgr := HR.out.gro
   have d0 := hgr.cell d0
   have d1 := hgr.cell d1
   have d2 := hgr.cell d2
   have d3 := hgr.cell d3
   have d4 := hgr.cell d4
   have hlB := World.block_lt_of_cell? _ _ d0
   have R0 := yy (fun W => pick50 (w := W) x0 (many : Int) rx0 (by omega))
   have R1 := yy (fun W => pick50 (w := W) x1 (many : Int) rx1 (by omega))
   have R2 := yy (fun W => pick50 (w := W) x2 2 rx2 (by omega))
   have R3 := yy (fun W => pick50 (w := W) x3 12 rx3 (by omega))
   have R4 := yy (fun W => pick50 (w := W) x4 6 rx4 (by omega))
   have R5 := yy (fun W => pick50 (w := W) x4 11 rx4 (by omega))
   have R6 := yy (fun W => pick50 (w := W) x3 2001 rx3 (by omega))
   have p0 := pk_range (c := x0) (n := (many : Int)) (by omega)
   have p1 := pk_range (c := x1) (n := (many : Int)) (by omega)
   generalize pk x0 (many : Int) = z0' at R0 p0
   generalize pk x1 (many : Int) = z1' at R1 p1
   generalize pk x2 2 = z2 at R2
   generalize pk x3 12 = z3 at R3
   generalize pk x4 6 = z4 at R4
   generalize pk x4 11 = z5 at R5
   generalize pk x3 2001 = z6 at R6
   obtain ⟨z0, rfl⟩ : ∃ m : Nat, z0' = m := ⟨z0'.toNat, by omega⟩
   obtain ⟨z1, rfl⟩ : ∃ m : Nat, z1' = m := ⟨z1'.toNat, by omega⟩
   have hvl9 := HVL.out
   have h0v : z0 < vs.length := by omega
   have h1v : z1 < vs.length := by omega
   obtain ⟨go, co, eo, _, _⟩ := HR.out.o1.formI h0v
   injection eo with eo1 eo3 eo2
   subst eo1 eo2
   clear eo3
   have c0 : wr.cell? ⟨go, z0 * 2, none⟩ = some (.int .i64 vs[z0].id) := HR.out.o1.cells (by have := flat_get vs z0 h0v 0 (by decide); exact this)
   have c1 : wr.cell? ⟨go, z1 * 2, none⟩ = some (.int .i64 vs[z1].id) := HR.out.o1.cells (by have := flat_get vs z1 h1v 0 (by decide); exact this)
   generalize vs[z0].id = u0 at c0
   generalize vs[z1].id = u1 at c1
   have hlo := World.block_lt_of_cell? _ _ c0
   have g0 := blk_cell HR.out.gb 0
   simp only [lPa, lPb, lPc] at g0
   have hlg := blk_lt HR.out.gb
   have hg0 : z0 < gn1 := by omega
   have hg1 : z1 < gn1 := by omega
   clear hgr hc hel hgn2 rx0 rx1 rx2 rx3 rx4 hvl9 hB h0v h1v hgn1
   go_upto_region 15 with fail
   go_cut [12] (fun t wx => ∃ (N : Nat) (x : Edg), t = .pointer (some ⟨N, 0, none⟩) ∧ Hid (RGN w wx (.slice (some ⟨go, 0, none⟩) gn1 gc1) (.slice ga2 gn2 gc2) (.slice none 0 0) vs es [] N x))
   case first =>
    refine wp_region_held_drew (S := (fun w' => w'.cell? ⟨w.heap.size + 1, 0, none⟩ = some (.slice (some ⟨go, 0, none⟩) gn1 gc1) ∧ w'.cell? ⟨go, z0 * 2, none⟩ = some (Value.int IntKind.i64 u0) ∧ w'.cell? ⟨go, z1 * 2, none⟩ = some (Value.int IntKind.i64 u1) ∧ w'.cell? ⟨B, off + i * 5, none⟩ = some (Value.int IntKind.i64 x0) ∧ w'.cell? ⟨B, off + i * 5 + 1, none⟩ = some (Value.int IntKind.i64 x1) ∧ w'.cell? ⟨B, off + i * 5 + 2, none⟩ = some (Value.int IntKind.i64 x2) ∧ w'.cell? ⟨B, off + i * 5 + 3, none⟩ = some (Value.int IntKind.i64 x3) ∧ w'.cell? ⟨B, off + i * 5 + 4, none⟩ = some (Value.int IntKind.i64 x4))) (by kernel_rfl) ⟨(Gro.refl wr).drew.cell g0, (Gro.refl wr).drew.cell c0, (Gro.refl wr).drew.cell c1, (Gro.refl wr).drew.cell d0, (Gro.refl wr).drew.cell d1, (Gro.refl wr).drew.cell d2, (Gro.refl wr).drew.cell d3, (Gro.refl wr).drew.cell d4⟩ (fun hHeld => ?_)
    have HR := yy (HR.out.step (Gro.refl wr).drew)
    have KD := yy (Gro.refl wr).drew
    clear g0 c0 c1 d0 d1 d2 d3 d4 hlg hlo hlB
    generalize wr.drew = wD at hHeld HR KD ⊢
    have HS0 := yy hHeld
    refine tkH 0 rfl lfR231 hHeld ?_
    refine nx ?_
    refine tkH 1 rfl lfR231 hHeld ?_
    refine nx ?_
    refine tkH 2 rfl lfR231 hHeld ?_
    refine nx ?_
    refine wpAnyH_takeQ (i := 3) (f := 50) (args := #[.int .i64 (n.tdiv 4), .int .i64 (20)]) rfl (by kernel_rfl) (by kernel_rfl) (by kernel_rfl) (fun _ _ _ h => h) rfl (fun _ => by go_simp) (fun W _ => Q4.out W) hHeld ?_
    refine nx ?_
    refine tkH 4 rfl lfR231 hHeld ?_
    refine nx ?_
    refine tkH 5 rfl lfR231 hHeld ?_
    refine nx ?_
    refine tkH 6 rfl lfR231 hHeld ?_
    refine nx ?_
    refine tkH 7 rfl lfR231 hHeld ?_
    refine nx ?_
    refine tkH 8 rfl lfR231 hHeld ?_
    refine nx ?_
    refine tkH 9 rfl lfR231 hHeld ?_
    refine nx ?_
    refine tkH 10 rfl lfR231 hHeld ?_
    refine nx ?_
    refine tkH 11 rfl lfR231 hHeld ?_
    refine nx ?_
    refine tkH 12 rfl lfR231 hHeld ?_
    refine nx ?_
    refine wpAnyH_takeQ (i := 13) (f := 50) (args := #[.int .i64 (x0), .int .i64 (many : Int)]) rfl (by kernel_rfl) (by kernel_rfl) (by kernel_rfl) (fun _ _ _ h => h) rfl (fun _ => by go_simp) (fun W _ => R0.out W) hHeld ?_
    refine nx ?_
    refine tkH 14 rfl lfR231 hHeld ?_
    refine nx ?_
    refine tkH 15 rfl lfR231 hHeld ?_
    refine nx ?_
    refine tkH 16 rfl lfR231 hHeld ?_
    refine nx ?_
    refine tkH 17 rfl lfR231 hHeld ?_
    refine nx ?_
    refine tkH 18 rfl lfR231 hHeld ?_
    refine nx ?_
    refine tkH 19 rfl lfR231 hHeld ?_
    refine nx ?_
    refine tkH 20 rfl lfR231 hHeld ?_
    refine nx ?_
    refine tkH 21 rfl lfR231 hHeld ?_
    refine nx ?_
    refine tkH 22 rfl lfR231 hHeld ?_
    refine nx ?_
    refine tkH 23 rfl lfR231 hHeld ?_
    refine nx ?_
    refine tkH 24 rfl lfR231 hHeld ?_
    refine nx ?_
    refine wpAnyH_takeQ (i := 25) (f := 50) (args := #[.int .i64 (x1), .int .i64 (many : Int)]) rfl (by kernel_rfl) (by kernel_rfl) (by kernel_rfl) (fun _ _ _ h => h) rfl (fun _ => by go_simp) (fun W _ => R1.out W) hHeld ?_
    refine nx ?_
    refine tkH 26 rfl lfR231 hHeld ?_
    refine nx ?_
    refine tkH 27 rfl lfR231 hHeld ?_
    refine nx ?_
    refine tkH 28 rfl lfR231 hHeld ?_
    refine nx ?_
    refine tkH 29 rfl lfR231 hHeld ?_
    refine nx ?_
    refine tkH 30 rfl lfR231 hHeld ?_
    refine nx ?_
    refine tkH 31 rfl lfR231 hHeld ?_
    refine nx ?_
    refine tkH 32 rfl lfR231 hHeld ?_
    refine nx ?_
    refine tkH 33 rfl lfR231 hHeld ?_
    refine nx ?_
    refine wpAnyH_takeQ (i := 34) (f := 50) (args := #[.int .i64 (x2), .int .i64 (2)]) rfl (by kernel_rfl) (by kernel_rfl) (by kernel_rfl) (fun _ _ _ h => h) rfl (fun _ => by go_simp) (fun W _ => R2.out W) hHeld ?_
    refine nx ?_
    refine tkH 35 rfl lfR231 hHeld ?_
    refine nx ?_
    refine tkH 36 rfl lfR231 hHeld ?_
    refine nx ?_
    refine tkH 37 rfl lfR231 hHeld ?_
    refine nx ?_
    refine tkH 38 rfl lfR231 hHeld ?_
    refine nx ?_
    refine tkH 39 rfl lfR231 hHeld ?_
    refine nx ?_
    refine tkH 40 rfl lfR231 hHeld ?_
    refine nx ?_
    refine wpAnyH_takeQ (i := 41) (f := 50) (args := #[.int .i64 (x3), .int .i64 (12)]) rfl (by kernel_rfl) (by kernel_rfl) (by kernel_rfl) (fun _ _ _ h => h) rfl (fun _ => by go_simp) (fun W _ => R3.out W) hHeld ?_
    refine nx ?_
    refine tkH 42 rfl lfR231 hHeld ?_
    refine nx ?_
    refine tkH 43 rfl lfR231 hHeld ?_
    refine nx ?_
    refine tkH 44 rfl lfR231 hHeld ?_
    refine nx ?_
    refine tkH 45 rfl lfR231 hHeld ?_
    refine nx ?_
    refine tkH 46 rfl lfR231 hHeld ?_
    refine nx ?_
    refine tkH 47 rfl lfR231 hHeld ?_
    refine nx ?_
    refine wpAnyH_takeQ (i := 48) (f := 50) (args := #[.int .i64 (x4), .int .i64 (6)]) rfl (by kernel_rfl) (by kernel_rfl) (by kernel_rfl) (fun _ _ _ h => h) rfl (fun _ => by go_simp) (fun W _ => R4.out W) hHeld ?_
    refine nx ?_
    refine tkH 49 rfl lfR231 hHeld ?_
    refine nx ?_
    refine wpAnyH_ready (rs := [50]) (by kernel_rfl) (by simp) ?_
    refine AllReadyH.cons (i := 50) rfl (fun K hK => ?_) AllReadyH.nil
    go_simp
    obtain ⟨wB, hT⟩ : ∃ wB, wB = wD.alloc (Obj.cells #[.int .i64 0, .int .i64 0, .int .i64 0, .bool false, .int .i64 0, .int .i64 0] 69) := ⟨_, rfl⟩
    have kB : Gro wD wB := by rw [hT]; exact (Gro.refl _).alloc _
    have bN : wB.heap[wD.heap.size]? = some (.cells #[.int .i64 0, .int .i64 0, .int .i64 0, .bool false, .int .i64 0, .int .i64 0] 69 (0, 0)) := by rw [hT]; exact blk_new _ _
    rw [← hT]
    have hS2 : (fun w' => w'.cell? ⟨w.heap.size + 1, 0, none⟩ = some (.slice (some ⟨go, 0, none⟩) gn1 gc1) ∧ w'.cell? ⟨go, z0 * 2, none⟩ = some (Value.int IntKind.i64 u0) ∧ w'.cell? ⟨go, z1 * 2, none⟩ = some (Value.int IntKind.i64 u1) ∧ w'.cell? ⟨B, off + i * 5, none⟩ = some (Value.int IntKind.i64 x0) ∧ w'.cell? ⟨B, off + i * 5 + 1, none⟩ = some (Value.int IntKind.i64 x1) ∧ w'.cell? ⟨B, off + i * 5 + 2, none⟩ = some (Value.int IntKind.i64 x2) ∧ w'.cell? ⟨B, off + i * 5 + 3, none⟩ = some (Value.int IntKind.i64 x3) ∧ w'.cell? ⟨B, off + i * 5 + 4, none⟩ = some (Value.int IntKind.i64 x4)) wB := ⟨Gro.cell kB HS0.out.1, Gro.cell kB HS0.out.2.1, Gro.cell kB HS0.out.2.2.1, Gro.cell kB HS0.out.2.2.2.1, Gro.cell kB HS0.out.2.2.2.2.1, Gro.cell kB HS0.out.2.2.2.2.2.1, Gro.cell kB HS0.out.2.2.2.2.2.2.1, Gro.cell kB HS0.out.2.2.2.2.2.2.2⟩
    clear hT
    obtain ⟨N, hN⟩ : ∃ N, N = wD.heap.size := ⟨_, rfl⟩
    have hzN : wD.heap.size ≤ N := by rw [hN]; exact Nat.le_refl _
    rw [← hN] at bN ⊢
    clear hN
    refine hK.out _ _ hS2 (fun hHeld => ?_)
    clear hK K hS2
    try refine nx ?_
    refine wpAnyH_ready (rs := [51]) (by kernel_rfl) (by simp) ?_
    refine AllReadyH.cons (i := 51) rfl (fun K hK => ?_) AllReadyH.nil
    obtain ⟨n0, n1, n2, n3, n4, n5, ln⟩ := cells6 bN
    have fN := blk_frozen bN
    have f0 := fN 0
    have f1 := fN 1
    have f2 := fN 2
    have f3 := fN 3
    have f4 := fN 4
    have f5 := fN 5
    clear fN
    obtain ⟨x, hx⟩ : ∃ x : Edg, x = ⟨IntKind.i64.wrap ((i : Int) + y4), u0, u1, z2 == 1, IntKind.i64.wrap (z3 - 3), z4⟩ := ⟨_, rfl⟩
    have HZ := yy (fun (W : World) (hW : W = ((((((wB.setCell ⟨N, 0, none⟩ (.int .i64 x.id)).setCell ⟨N, 1, none⟩ (.int .i64 x.src)).setCell ⟨N, 2, none⟩ (.int .i64 x.dst)).setCell ⟨N, 3, none⟩ (.bool x.dir)).setCell ⟨N, 4, none⟩ (.int .i64 x.weight)).setCell ⟨N, 5, none⟩ (.int .i64 x.cap))) => (by
     rw [hW]
     exact ⟨by simpa using blk_set (blk_set (blk_set (blk_set (blk_set (blk_set bN 0 (.int .i64 x.id)) 1 (.int .i64 x.src)) 2 (.int .i64 x.dst)) 3 (.bool x.dir)) 4 (.int .i64 x.weight)) 5 (.int .i64 x.cap), ((kept4 kB (T := N) (.inr hzN) _ _ _ _).setCell (p := ⟨N, 4, none⟩) (.inr hzN) _).setCell (p := ⟨N, 5, none⟩) (.inr hzN) _⟩ : W.heap[N]? = some (.cells #[.int .i64 x.id, .int .i64 x.src, .int .i64 x.dst, .bool x.dir, .int .i64 x.weight, .int .i64 x.cap] 69 (0, 0)) ∧ Gro wD W))
    have HXX := yy hx
    clear hx
    go_simp
    obtain ⟨wZ, hwZ⟩ : ∃ wZ, wZ = ((((((wB.setCell ⟨N, 0, none⟩ (.int .i64 (IntKind.i64.wrap ((i : Int) + y4)))).setCell ⟨N, 1, none⟩ (.int .i64 u0)).setCell ⟨N, 2, none⟩ (.int .i64 u1)).setCell ⟨N, 3, none⟩ (.bool (z2 == 1))).setCell ⟨N, 4, none⟩ (.int .i64 (IntKind.i64.wrap (z3 - 3)))).setCell ⟨N, 5, none⟩ (.int .i64 z4)) := ⟨_, rfl⟩
    rw [← hwZ]
    obtain ⟨hZb, hZk⟩ := HZ.out wZ (by rw [hwZ, HXX.out])
    clear hwZ HZ
    refine hK.out _ _ (show (fun w' => w'.cell? ⟨w.heap.size + 1, 0, none⟩ = some (.slice (some ⟨go, 0, none⟩) gn1 gc1) ∧ w'.cell? ⟨go, z0 * 2, none⟩ = some (Value.int IntKind.i64 u0) ∧ w'.cell? ⟨go, z1 * 2, none⟩ = some (Value.int IntKind.i64 u1) ∧ w'.cell? ⟨B, off + i * 5, none⟩ = some (Value.int IntKind.i64 x0) ∧ w'.cell? ⟨B, off + i * 5 + 1, none⟩ = some (Value.int IntKind.i64 x1) ∧ w'.cell? ⟨B, off + i * 5 + 2, none⟩ = some (Value.int IntKind.i64 x2) ∧ w'.cell? ⟨B, off + i * 5 + 3, none⟩ = some (Value.int IntKind.i64 x3) ∧ w'.cell? ⟨B, off + i * 5 + 4, none⟩ = some (Value.int IntKind.i64 x4)) wZ from ⟨Gro.cell hZk HS0.out.1, Gro.cell hZk HS0.out.2.1, Gro.cell hZk HS0.out.2.2.1, Gro.cell hZk HS0.out.2.2.2.1, Gro.cell hZk HS0.out.2.2.2.2.1, Gro.cell hZk HS0.out.2.2.2.2.2.1, Gro.cell hZk HS0.out.2.2.2.2.2.2.1, Gro.cell hZk HS0.out.2.2.2.2.2.2.2⟩) (fun _ => ?_)
    clear hK K
    refine wpAnyH_done (by kernel_rfl) ?_ _
    clear hHeld
    try refine nx ?_
    have HN := yy (RGN.make HR.out hZk hzN hZb)
    clear hZb hZk n0 n1 n2 n3 n4 n5 ln f0 f1 f2 f3 f4 f5
    go_wp2_with fail
    go_meet
    exact ⟨N, x, rfl, HN⟩
   case rest =>
   obtain ⟨N, x, rfl, HN⟩ := hcut
   clear HR g0 c0 c1 d0 d1 d2 d3 d4 hlg hlo hlB
   have d4 := HN.out.rg.gro.cell HD4.out
   have hlB := World.block_lt_of_cell? _ _ d4
   go_upto_if 122 with (go_at_call 50; refine (R5.out _).mono ?_; rintro _ wq ⟨rfl, rfl⟩)
   clear d4 hlB
   go_cut [] (fun wx => ∃ x : Edg, Hid (RGN w wx (.slice (some ⟨go, 0, none⟩) gn1 gc1) (.slice ga2 gn2 gc2) (.slice none 0 0) vs es [] N x))
   case first =>
    by_cases hz : z5 = 10
    ·have hzd : (z5 == 10) = true := by simpa using hz
     have d3 := HN.out.rg.gro.cell HD3.out
     have hlB := World.block_lt_of_cell? _ _ d3
     obtain ⟨n0, n1, n2, n3, n4, n5, ln⟩ := cells6 HN.out.nb
     have f4 := blk_frozen HN.out.nb 4
     have HP := yy (fun y => HN.out.put y)
     clear hz
     go_wp2_with (go_at_call 50; refine (R6.out _).mono ?_; rintro _ wq ⟨rfl, rfl⟩)
     go_meet
     exact ⟨_, yy (HP.out _)⟩
    have hzd : (z5 == 10) = false := by simpa using hz
    clear hz
    go_wp2_with fail
    go_meet
    exact ⟨x, HN⟩
   case rest =>
   obtain ⟨x, HN⟩ := hcut
   obtain ⟨n0, n1, n2, n3, n4, n5, ln⟩ := cells6 HN.out.nb
   have HR := yy HN.out.rg
   have hbz := HR.out.bz
   have cG := blk_cell HR.out.gb 1
   have fG := blk_frozen HR.out.gb 1
   simp only [lPa, lPb, lPc] at cG
   have hlG := blk_lt HR.out.gb
   have hk2 : es.length ≤ 900000000 := by omega
   clear HN
   go_wp2_with (at_builtin; refine wpList_app1 (α := Edg) x rfl _ _ rfl rfl HR.out.o2 rfl hk2 hbz ?_; intro v' w' g1 g2 g3; obtain ⟨a', c', e'⟩ := g1.form; generalize (es ++ [x]).length = nq at e'; subst e'; have hGb := g2.blk HR.out.gb (own_far HR.out.o2 HR.out.gb (by decide)); have cG2 := blk_cell hGb 1; have fG2 := blk_frozen hGb 1; simp only [lPa, lPb, lPc] at cG2; have hlG2 := blk_lt hGb; have H1 := yy (HR.out.put2 g1 g2); clear g1 g2 g3 hGb)
   go_roundw
   case rel => exact ⟨i + 1, _, _, by omega, by omega, by rw [List.length_append, HEL.out]; rfl, by go_num, H1⟩
   case measure => simp [intOf]; omega
  have hd20 := decide_eq_false (show ¬ (i : Int) < 20 by omega)
  have HEL := yy hgn2
  clear hgn2 hel
  go_wp2_with fail
  go_loopw [13] (fun t wr => ∃ (j : Nat) (v3 : Value) (ds : List Int), j ≤ 4 ∧ j ≤ many ∧ ds.length = j ∧ t = .int .i64 j ∧ Hid (RG w wr (.slice ga1 gn1 gc1) (.slice ga2 gn2 gc2) v3 vs es ds)) (fun t _ => 4 - (intOf t).toNat)
  case atStart => exact ⟨0, _, [], Nat.zero_le _, Nat.zero_le _, rfl, by go_num, HR⟩
  case round =>
  clear HR
  obtain ⟨j, v3, ds, hj4, hj1, hdl, rfl, HR⟩ := hrel
  obtain ⟨ga3, gc3, ge3⟩ := HR.out.o3.form
  generalize hgn3 : ds.length = gn3 at ge3
  subst ge3
  have hbz := HR.out.bz
  have hvl9 := HVL.out
  by_cases h5 : j < m5
  ·by_cases hm : j < many
   ·have hk2 : ds.length ≤ 900000000 := by omega
    have hjv : j < vs.length := by omega
    obtain ⟨go, co, eo, _, _⟩ := HR.out.o1.formI hjv
    injection eo with eo1 eo3 eo2
    subst eo1 eo2
    clear eo3
    have c0 : wr.cell? ⟨go, j * 2, none⟩ = some (.int .i64 vs[j].id) := HR.out.o1.cells (by have := flat_get vs j hjv 0 (by decide); exact this)
    generalize vs[j].id = u0 at c0
    have hlo := World.block_lt_of_cell? _ _ c0
    have HDL := yy hdl
    have hgj : j < gn1 := by omega
    clear hdl hgn3 hvl9 hjv
    go_wp2_with (go_at_call 50; refine (Q32.out _).mono ?_; rintro _ wq ⟨rfl, rfl⟩)
    have hS : (fun w' => w'.heap[w.heap.size + 1]? = some (.cells #[.slice (some ⟨go, 0, none⟩) gn1 gc1, .slice ga2 gn2 gc2, .slice ga3 gn3 gc3] 38 (0, 0)) ∧ w'.cell? ⟨go, j * 2, none⟩ = some (Value.int IntKind.i64 u0)) wq.drew := ⟨(Gro.refl wq).drew.blk HR.out.gb, (Gro.refl wq).drew.cell c0⟩
    refine anyL_begin 11 (fun w' => w'.heap[w.heap.size + 1]? = some (.cells #[.slice (some ⟨go, 0, none⟩) gn1 gc1, .slice ga2 gn2 gc2, .slice ga3 gn3 gc3] 38 (0, 0)) ∧ w'.cell? ⟨go, j * 2, none⟩ = some (Value.int IntKind.i64 u0)) (by kernel_rfl) ?_
    have HD := yy (HR.out.step (Gro.refl wq).drew)
    clear HR c0 hlo
    generalize wq.drew = wd at hS HD ⊢
    refine tkL 0 rfl lfR232 hS ?_
    refine nx ?_
    refine tkL 1 rfl lfR232 hS ?_
    refine nx ?_
    refine tkL 2 rfl lfR232 hS ?_
    refine nx ?_
    refine tkL 3 rfl lfR232 hS ?_
    refine nx ?_
    refine tkL 4 rfl lfR232 hS ?_
    refine nx ?_
    refine tkL 5 rfl lfR232 hS ?_
    refine nx ?_
    refine tkL 6 rfl lfR232 hS ?_
    refine nx ?_
    refine tkL 7 rfl lfR232 hS ?_
    refine nx ?_
    refine anyL_one (i := 8) (by kernel_rfl) rfl (fun K hK => ?_)
    go_simp
    obtain ⟨w1, hw1⟩ : ∃ w1, w1 = wd.alloc (Obj.cells #[.int .i64 u0] 3) := ⟨_, rfl⟩
    rw [← hw1]
    have k1 : Gro wd w1 := by rw [hw1]; exact (Gro.refl _).alloc _
    have b1 : w1.heap[wd.heap.size]? = some (.cells #[.int .i64 u0] 3 (0, 0)) := by rw [hw1]; exact blk_new _ _
    have hS1 : (fun w' => w'.heap[w.heap.size + 1]? = some (.cells #[.slice (some ⟨go, 0, none⟩) gn1 gc1, .slice ga2 gn2 gc2, .slice ga3 gn3 gc3] 38 (0, 0)) ∧ w'.cell? ⟨go, j * 2, none⟩ = some (Value.int IntKind.i64 u0)) w1 := ⟨k1.blk hS.1, k1.cell hS.2⟩
    clear hw1
    refine hK.out _ _ (fun _ => hS1) ?_
    clear hK K
    try refine nx ?_
    have HD1 := HD.out.step k1
    obtain ⟨v2', w2, hrun2, o2, k2, _⟩ := run_app (α := Int) HD1.o3 ⟨wd.heap.size, 0, none⟩ 1 1 [u0] rfl (fun j u hu => World.news_of_block b1 j u (by simpa [flat, Rec.cs] using hu)) (by omega) HD1.bz 33
    have hGb := k2.blk HD1.gb (own_far HD1.o3 HD1.gb (by decide))
    have HP := yy (HD1.put3 o2 k2)
    obtain ⟨a', c', e'⟩ := o2.form
    generalize (ds ++ [(u0 : Int)]).length = nq at e'
    subst e'
    have hfar : ¬ ownF (.slice ga3 gn3 gc3) go := fun h => own_far2 HD1.o3 HD1.o1 (by decide) go rfl h
    have hS2 : (fun w' => w'.heap[w.heap.size + 1]? = some (.cells #[.slice (some ⟨go, 0, none⟩) gn1 gc1, .slice ga2 gn2 gc2, .slice ga3 gn3 gc3] 38 (0, 0)) ∧ w'.cell? ⟨go, j * 2, none⟩ = some (Value.int IntKind.i64 u0)) w2 := ⟨hGb, k2.cell hfar hS1.2⟩
    refine anyL_one (i := 9) (by kernel_rfl) rfl (fun K hK => ?_)
    refine step_run rfl _ _ 33 rfl _ _ rfl rfl hrun2 ?_
    refine hK.out _ _ (fun _ => hS2) ?_
    clear hK K
    try refine nx ?_
    have hS := hS2
    refine tkL 10 rfl lfR232 hS ?_
    refine nx ?_
    have fz := blk_frozen hGb 2
    have ct := blk_cell hGb 2
    simp only [lPa, lPb, lPc] at ct
    have hlT := blk_lt hGb
    refine anyL_one (i := 11) (by kernel_rfl) rfl (fun K hK => ?_)
    go_simp
    refine hK.out _ _ (fun h => absurd rfl h) ?_
    clear hK K
    try refine nx ?_
    refine anyL_done (by kernel_rfl) ?_
    go_wp2_with fail
    go_roundw
    case rel => exact ⟨j + 1, _, _, by omega, by omega, by rw [List.length_append, HDL.out]; rfl, by go_num, HP⟩
    case measure => simp [intOf]; omega
   skip
   have cG := blk_cell HR.out.gb
   have u0 := cG 0
   have u1 := cG 1
   have u2 := cG 2
   have cT := blk_cell HR.out.tb
   have t0 := cT 0
   have t1 := cT 1
   have t2 := cT 2
   have fT := blk_frozen HR.out.tb
   have f0 := fT 0
   have f1 := fT 1
   have f2 := fT 2
   simp only [lPa, lPb, lPc] at u0 u1 u2 t0 t1 t2
   have hlG := blk_lt HR.out.gb
   have hlT := blk_lt HR.out.tb
   have B5 := yy (set3 HR.out.tb (.slice ga1 gn1 gc1) (.slice ga2 gn2 gc2) (.slice ga3 gn3 gc3))
   have K5 := yy (kept3 HR.out.gro (.inr (Nat.le_refl _)) (.slice ga1 gn1 gc1) (.slice ga2 gn2 gc2) (.slice ga3 gn3 gc3))
   have kk := kept3 (F := (· = w.heap.size)) (Kept.refl (· = w.heap.size) wr) (.inl rfl) (.slice ga1 gn1 gc1) (.slice ga2 gn2 gc2) (.slice ga3 gn3 gc3)
   have V1 := yy ((HR.out.o1.far kk HR.out.tb (by decide)).lv (by omega))
   have V2 := yy ((HR.out.o2.far kk HR.out.tb (by decide)).lv (by omega))
   have V3 := yy ((HR.out.o3.far kk HR.out.tb (by decide)).lv (by omega))
   have hbds : vs.length ≤ 24 ∧ es.length ≤ 40 ∧ ds.length ≤ 24 := ⟨by omega, by omega, by omega⟩
   clear cG cT fT kk
   clear hgn3 hdl hvl9
   go_wp2_with (go_at_call 50; refine (Q32.out _).mono ?_; rintro _ wq ⟨rfl, rfl⟩)
   refine bodyPost_ret (results_cell_row (p := 6) (ty := 38) rfl _ _ w.heap.size 38 _ (0, 0) _ rfl B5.out Tryz.underlying38 rfl (by kernel_rfl)) rfl ⟨_, ⟨vs, es, ds⟩, rfl, ⟨_, _, _, rfl, V1.out, V2.out, V3.out⟩, hbds, K5.out⟩
  skip
  have cG := blk_cell HR.out.gb
  have u0 := cG 0
  have u1 := cG 1
  have u2 := cG 2
  have cT := blk_cell HR.out.tb
  have t0 := cT 0
  have t1 := cT 1
  have t2 := cT 2
  have fT := blk_frozen HR.out.tb
  have f0 := fT 0
  have f1 := fT 1
  have f2 := fT 2
  simp only [lPa, lPb, lPc] at u0 u1 u2 t0 t1 t2
  have hlG := blk_lt HR.out.gb
  have hlT := blk_lt HR.out.tb
  have B5 := yy (set3 HR.out.tb (.slice ga1 gn1 gc1) (.slice ga2 gn2 gc2) (.slice ga3 gn3 gc3))
  have K5 := yy (kept3 HR.out.gro (.inr (Nat.le_refl _)) (.slice ga1 gn1 gc1) (.slice ga2 gn2 gc2) (.slice ga3 gn3 gc3))
  have kk := kept3 (F := (· = w.heap.size)) (Kept.refl (· = w.heap.size) wr) (.inl rfl) (.slice ga1 gn1 gc1) (.slice ga2 gn2 gc2) (.slice ga3 gn3 gc3)
  have V1 := yy ((HR.out.o1.far kk HR.out.tb (by decide)).lv (by omega))
  have V2 := yy ((HR.out.o2.far kk HR.out.tb (by decide)).lv (by omega))
  have V3 := yy ((HR.out.o3.far kk HR.out.tb (by decide)).lv (by omega))
  have hbds : vs.length ≤ 24 ∧ es.length ≤ 40 ∧ ds.length ≤ 24 := ⟨by omega, by omega, by omega⟩
  clear cG cT fT kk
  clear hgn3 hdl hvl9
  go_wp2_with (go_at_call 50; refine (Q32.out _).mono ?_; rintro _ wq ⟨rfl, rfl⟩)
  refine bodyPost_ret (results_cell_row (p := 6) (ty := 38) rfl _ _ w.heap.size 38 _ (0, 0) _ rfl B5.out Tryz.underlying38 rfl (by kernel_rfl)) rfl ⟨_, ⟨vs, es, ds⟩, rfl, ⟨_, _, _, rfl, V1.out, V2.out, V3.out⟩, hbds, K5.out⟩
 skip
 have HEL := yy hgn2
 clear hgn2 hel
 go_wp2_with fail
 go_loopw [13] (fun t wr => ∃ (j : Nat) (v3 : Value) (ds : List Int), j ≤ 4 ∧ j ≤ many ∧ ds.length = j ∧ t = .int .i64 j ∧ Hid (RG w wr (.slice ga1 gn1 gc1) (.slice ga2 gn2 gc2) v3 vs es ds)) (fun t _ => 4 - (intOf t).toNat)
 case atStart => exact ⟨0, _, [], Nat.zero_le _, Nat.zero_le _, rfl, by go_num, HR⟩
 case round =>
 clear HR
 obtain ⟨j, v3, ds, hj4, hj1, hdl, rfl, HR⟩ := hrel
 obtain ⟨ga3, gc3, ge3⟩ := HR.out.o3.form
 generalize hgn3 : ds.length = gn3 at ge3
 subst ge3
 have hbz := HR.out.bz
 have hvl9 := HVL.out
 by_cases h5 : j < m5
 ·by_cases hm : j < many
  ·have hk2 : ds.length ≤ 900000000 := by omega
   have hjv : j < vs.length := by omega
   obtain ⟨go, co, eo, _, _⟩ := HR.out.o1.formI hjv
   injection eo with eo1 eo3 eo2
   subst eo1 eo2
   clear eo3
   have c0 : wr.cell? ⟨go, j * 2, none⟩ = some (.int .i64 vs[j].id) := HR.out.o1.cells (by have := flat_get vs j hjv 0 (by decide); exact this)
   generalize vs[j].id = u0 at c0
   have hlo := World.block_lt_of_cell? _ _ c0
   have HDL := yy hdl
   have hgj : j < gn1 := by omega
   clear hdl hgn3 hvl9 hjv
   go_wp2_with (go_at_call 50; refine (Q32.out _).mono ?_; rintro _ wq ⟨rfl, rfl⟩)
   have hS : (fun w' => w'.heap[w.heap.size + 1]? = some (.cells #[.slice (some ⟨go, 0, none⟩) gn1 gc1, .slice ga2 gn2 gc2, .slice ga3 gn3 gc3] 38 (0, 0)) ∧ w'.cell? ⟨go, j * 2, none⟩ = some (Value.int IntKind.i64 u0)) wq.drew := ⟨(Gro.refl wq).drew.blk HR.out.gb, (Gro.refl wq).drew.cell c0⟩
   refine anyL_begin 11 (fun w' => w'.heap[w.heap.size + 1]? = some (.cells #[.slice (some ⟨go, 0, none⟩) gn1 gc1, .slice ga2 gn2 gc2, .slice ga3 gn3 gc3] 38 (0, 0)) ∧ w'.cell? ⟨go, j * 2, none⟩ = some (Value.int IntKind.i64 u0)) (by kernel_rfl) ?_
   have HD := yy (HR.out.step (Gro.refl wq).drew)
   clear HR c0 hlo
   generalize wq.drew = wd at hS HD ⊢
   refine tkL 0 rfl lfR232 hS ?_
   refine nx ?_
   refine tkL 1 rfl lfR232 hS ?_
   refine nx ?_
   refine tkL 2 rfl lfR232 hS ?_
   refine nx ?_
   refine tkL 3 rfl lfR232 hS ?_
   refine nx ?_
   refine tkL 4 rfl lfR232 hS ?_
   refine nx ?_
   refine tkL 5 rfl lfR232 hS ?_
   refine nx ?_
   refine tkL 6 rfl lfR232 hS ?_
   refine nx ?_
   refine tkL 7 rfl lfR232 hS ?_
   refine nx ?_
   refine anyL_one (i := 8) (by kernel_rfl) rfl (fun K hK => ?_)
   go_simp
   obtain ⟨w1, hw1⟩ : ∃ w1, w1 = wd.alloc (Obj.cells #[.int .i64 u0] 3) := ⟨_, rfl⟩
   rw [← hw1]
   have k1 : Gro wd w1 := by rw [hw1]; exact (Gro.refl _).alloc _
   have b1 : w1.heap[wd.heap.size]? = some (.cells #[.int .i64 u0] 3 (0, 0)) := by rw [hw1]; exact blk_new _ _
   have hS1 : (fun w' => w'.heap[w.heap.size + 1]? = some (.cells #[.slice (some ⟨go, 0, none⟩) gn1 gc1, .slice ga2 gn2 gc2, .slice ga3 gn3 gc3] 38 (0, 0)) ∧ w'.cell? ⟨go, j * 2, none⟩ = some (Value.int IntKind.i64 u0)) w1 := ⟨k1.blk hS.1, k1.cell hS.2⟩
   clear hw1
   refine hK.out _ _ (fun _ => hS1) ?_
   clear hK K
   try refine nx ?_
   have HD1 := HD.out.step k1
   obtain ⟨v2', w2, hrun2, o2, k2, _⟩ := run_app (α := Int) HD1.o3 ⟨wd.heap.size, 0, none⟩ 1 1 [u0] rfl (fun j u hu => World.news_of_block b1 j u (by simpa [flat, Rec.cs] using hu)) (by omega) HD1.bz 33
   have hGb := k2.blk HD1.gb (own_far HD1.o3 HD1.gb (by decide))
   have HP := yy (HD1.put3 o2 k2)
   obtain ⟨a', c', e'⟩ := o2.form
   generalize (ds ++ [(u0 : Int)]).length = nq at e'
   subst e'
   have hfar : ¬ ownF (.slice ga3 gn3 gc3) go := fun h => own_far2 HD1.o3 HD1.o1 (by decide) go rfl h
   have hS2 : (fun w' => w'.heap[w.heap.size + 1]? = some (.cells #[.slice (some ⟨go, 0, none⟩) gn1 gc1, .slice ga2 gn2 gc2, .slice ga3 gn3 gc3] 38 (0, 0)) ∧ w'.cell? ⟨go, j * 2, none⟩ = some (Value.int IntKind.i64 u0)) w2 := ⟨hGb, k2.cell hfar hS1.2⟩
   refine anyL_one (i := 9) (by kernel_rfl) rfl (fun K hK => ?_)
   refine step_run rfl _ _ 33 rfl _ _ rfl rfl hrun2 ?_
   refine hK.out _ _ (fun _ => hS2) ?_
   clear hK K
   try refine nx ?_
   have hS := hS2
   refine tkL 10 rfl lfR232 hS ?_
   refine nx ?_
   have fz := blk_frozen hGb 2
   have ct := blk_cell hGb 2
   simp only [lPa, lPb, lPc] at ct
   have hlT := blk_lt hGb
   refine anyL_one (i := 11) (by kernel_rfl) rfl (fun K hK => ?_)
   go_simp
   refine hK.out _ _ (fun h => absurd rfl h) ?_
   clear hK K
   try refine nx ?_
   refine anyL_done (by kernel_rfl) ?_
   go_wp2_with fail
   go_roundw
   case rel => exact ⟨j + 1, _, _, by omega, by omega, by rw [List.length_append, HDL.out]; rfl, by go_num, HP⟩
   case measure => simp [intOf]; omega
  skip
  have cG := blk_cell HR.out.gb
  have u0 := cG 0
  have u1 := cG 1
  have u2 := cG 2
  have cT := blk_cell HR.out.tb
  have t0 := cT 0
  have t1 := cT 1
  have t2 := cT 2
  have fT := blk_frozen HR.out.tb
  have f0 := fT 0
  have f1 := fT 1
  have f2 := fT 2
  simp only [lPa, lPb, lPc] at u0 u1 u2 t0 t1 t2
  have hlG := blk_lt HR.out.gb
  have hlT := blk_lt HR.out.tb
  have B5 := yy (set3 HR.out.tb (.slice ga1 gn1 gc1) (.slice ga2 gn2 gc2) (.slice ga3 gn3 gc3))
  have K5 := yy (kept3 HR.out.gro (.inr (Nat.le_refl _)) (.slice ga1 gn1 gc1) (.slice ga2 gn2 gc2) (.slice ga3 gn3 gc3))
  have kk := kept3 (F := (· = w.heap.size)) (Kept.refl (· = w.heap.size) wr) (.inl rfl) (.slice ga1 gn1 gc1) (.slice ga2 gn2 gc2) (.slice ga3 gn3 gc3)
  have V1 := yy ((HR.out.o1.far kk HR.out.tb (by decide)).lv (by omega))
  have V2 := yy ((HR.out.o2.far kk HR.out.tb (by decide)).lv (by omega))
  have V3 := yy ((HR.out.o3.far kk HR.out.tb (by decide)).lv (by omega))
  have hbds : vs.length ≤ 24 ∧ es.length ≤ 40 ∧ ds.length ≤ 24 := ⟨by omega, by omega, by omega⟩
  clear cG cT fT kk
  clear hgn3 hdl hvl9
  go_wp2_with (go_at_call 50; refine (Q32.out _).mono ?_; rintro _ wq ⟨rfl, rfl⟩)
  refine bodyPost_ret (results_cell_row (p := 6) (ty := 38) rfl _ _ w.heap.size 38 _ (0, 0) _ rfl B5.out Tryz.underlying38 rfl (by kernel_rfl)) rfl ⟨_, ⟨vs, es, ds⟩, rfl, ⟨_, _, _, rfl, V1.out, V2.out, V3.out⟩, hbds, K5.out⟩
 skip
 have cG := blk_cell HR.out.gb
 have u0 := cG 0
 have u1 := cG 1
 have u2 := cG 2
 have cT := blk_cell HR.out.tb
 have t0 := cT 0
 have t1 := cT 1
 have t2 := cT 2
 have fT := blk_frozen HR.out.tb
 have f0 := fT 0
 have f1 := fT 1
 have f2 := fT 2
 simp only [lPa, lPb, lPc] at u0 u1 u2 t0 t1 t2
 have hlG := blk_lt HR.out.gb
 have hlT := blk_lt HR.out.tb
 have B5 := yy (set3 HR.out.tb (.slice ga1 gn1 gc1) (.slice ga2 gn2 gc2) (.slice ga3 gn3 gc3))
 have K5 := yy (kept3 HR.out.gro (.inr (Nat.le_refl _)) (.slice ga1 gn1 gc1) (.slice ga2 gn2 gc2) (.slice ga3 gn3 gc3))
 have kk := kept3 (F := (· = w.heap.size)) (Kept.refl (· = w.heap.size) wr) (.inl rfl) (.slice ga1 gn1 gc1) (.slice ga2 gn2 gc2) (.slice ga3 gn3 gc3)
 have V1 := yy ((HR.out.o1.far kk HR.out.tb (by decide)).lv (by omega))
 have V2 := yy ((HR.out.o2.far kk HR.out.tb (by decide)).lv (by omega))
 have V3 := yy ((HR.out.o3.far kk HR.out.tb (by decide)).lv (by omega))
 have hbds : vs.length ≤ 24 ∧ es.length ≤ 40 ∧ ds.length ≤ 24 := ⟨by omega, by omega, by omega⟩
 clear cG cT fT kk
 clear hgn3 hdl hvl9
 go_wp2_with (go_at_call 50; refine (Q32.out _).mono ?_; rintro _ wq ⟨rfl, rfl⟩)
 refine bodyPost_ret (results_cell_row (p := 6) (ty := 38) rfl _ _ w.heap.size 38 _ (0, 0) _ rfl B5.out Tryz.underlying38 rfl (by kernel_rfl)) rfl ⟨_, ⟨vs, es, ds⟩, rfl, ⟨_, _, _, rfl, V1.out, V2.out, V3.out⟩, hbds, K5.out⟩
end Go.Proofs.YthfagcdjbmhhcaaGreat
