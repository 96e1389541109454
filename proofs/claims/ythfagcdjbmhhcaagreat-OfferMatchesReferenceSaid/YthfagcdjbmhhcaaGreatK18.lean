/- pick. the reference: Empty. the reference: Roads. a region that draws its order: as L0, but the condition S is owed only until the operation m is done. -/
import Derived.Test.YthfagcdjbmhhcaaGreatK10
import Derived.Test.YthfagcdjbmhhcaaGreatK12
import Derived.Test.YthfagcdjbmhhcaaGreatK13
import Derived.Test.YthfagcdjbmhhcaaGreatK17
import Derived.Test.YthfagcdjbmhhcaaGreatK01
set_option linter.unusedVariables false
set_option linter.unusedSimpArgs false
namespace Go.Proofs.YthfagcdjbmhhcaaGreat
open Go.RowKit
attribute [local irreducible] wpQuiet
/-- an arbitrary integer as an index below n -/
def pk (c n : Int) : Int := (if c < 0 then -(c + 1) else c).tmod n
theorem pk_range {c n : Int} (hn : 0 < n) : 0 ≤ pk c n ∧ pk c n < n := by
 unfold pk
 have h : 0 ≤ (if c < 0 then -(c + 1) else c) := by split <;> omega
 rw [Int.tmod_eq_emod_of_nonneg h]
 exact ⟨Int.emod_nonneg _ (by omega), Int.emod_lt_of_pos _ hn⟩
theorem pick48 {w : World} (c n : Int) (hc : -9223372036854775808 ≤ c ∧ c ≤ 9223372036854775807) (hn : 0 < n ∧ n ≤ 9223372036854775807) : Calls Tryz.prog 48 #[.int .i64 c, .int .i64 n] w fun e w' => e = .returned (.int .i64 (pk c n)) ∧ w' = w := by
 have hr := pk_range (c := c) hn.1
 have hn0 : ¬ n = 0 := by omega
 have hn0' : (n == 0) = false := by simpa using hn0
 by_cases h : c < 0
 ·have hp : pk c n = (-(c + 1)).tmod n := by unfold pk; rw [if_pos h]
  have w1 : IntKind.i64.wrap (c + 1) = c + 1 := by rw [IntKind.wrap_i64]; omega
  have w2 : IntKind.i64.wrap (-(c + 1)) = -(c + 1) := by rw [IntKind.wrap_i64]; omega
  rw [hp] at hr
  have w3 : IntKind.i64.wrap ((-(c + 1)).tmod n) = (-(c + 1)).tmod n := by rw [IntKind.wrap_i64]; omega
  have HP := yy hp
  clear hp hr
  go_enter Tryz.func48, Tryz.ntmps48
  go_wp2
  go_ret
  exact ⟨by rw [HP.out]; first | rfl | simp [w1, w2, w3], rfl⟩
 have hp : pk c n = c.tmod n := by unfold pk; rw [if_neg h]
 rw [hp] at hr
 have w3 : IntKind.i64.wrap (c.tmod n) = c.tmod n := by rw [IntKind.wrap_i64]; omega
 have HP := yy hp
 clear hp hr
 go_enter Tryz.func48, Tryz.ntmps48
 go_wp2
 go_ret
 exact ⟨by rw [HP.out]; first | rfl | (simp [w3]; done) | (simp [w3]; rw [Int.tmod_eq_emod_of_nonneg (by omega)]), rfl⟩
theorem pick36 {w : World} (c n : Int) (hc : -9223372036854775808 ≤ c ∧ c ≤ 9223372036854775807) (hn : 0 < n ∧ n ≤ 9223372036854775807) : Calls Tryz.prog 36 #[.int .i64 c, .int .i64 n] w fun e w' => e = .returned (.int .i64 (pk c n)) ∧ w' = w := by
 have hr := pk_range (c := c) hn.1
 have hn0 : ¬ n = 0 := by omega
 have hn0' : (n == 0) = false := by simpa using hn0
 by_cases h : c < 0
 ·have hp : pk c n = (-(c + 1)).tmod n := by unfold pk; rw [if_pos h]
  have w1 : IntKind.i64.wrap (c + 1) = c + 1 := by rw [IntKind.wrap_i64]; omega
  have w2 : IntKind.i64.wrap (-(c + 1)) = -(c + 1) := by rw [IntKind.wrap_i64]; omega
  rw [hp] at hr
  have w3 : IntKind.i64.wrap ((-(c + 1)).tmod n) = (-(c + 1)).tmod n := by rw [IntKind.wrap_i64]; omega
  have HP := yy hp
  clear hp hr
  go_enter Tryz.func36, Tryz.ntmps36
  go_wp2
  go_ret
  exact ⟨by rw [HP.out]; first | rfl | simp [w1, w2, w3], rfl⟩
 have hp : pk c n = c.tmod n := by unfold pk; rw [if_neg h]
 rw [hp] at hr
 have w3 : IntKind.i64.wrap (c.tmod n) = c.tmod n := by rw [IntKind.wrap_i64]; omega
 have HP := yy hp
 clear hp hr
 go_enter Tryz.func36, Tryz.ntmps36
 go_wp2
 go_ret
 exact ⟨by rw [HP.out]; first | rfl | (simp [w3]; done) | (simp [w3]; rw [Int.tmod_eq_emod_of_nonneg (by omega)]), rfl⟩
theorem pick50 {w : World} (c n : Int) (hc : -9223372036854775808 ≤ c ∧ c ≤ 9223372036854775807) (hn : 0 < n ∧ n ≤ 9223372036854775807) : Calls Tryz.prog 50 #[.int .i64 c, .int .i64 n] w fun e w' => e = .returned (.int .i64 (pk c n)) ∧ w' = w := by
 have hr := pk_range (c := c) hn.1
 have hn0 : ¬ n = 0 := by omega
 have hn0' : (n == 0) = false := by simpa using hn0
 by_cases h : c < 0
 ·have hp : pk c n = (-(c + 1)).tmod n := by unfold pk; rw [if_pos h]
  have w1 : IntKind.i64.wrap (c + 1) = c + 1 := by rw [IntKind.wrap_i64]; omega
  have w2 : IntKind.i64.wrap (-(c + 1)) = -(c + 1) := by rw [IntKind.wrap_i64]; omega
  rw [hp] at hr
  have w3 : IntKind.i64.wrap ((-(c + 1)).tmod n) = (-(c + 1)).tmod n := by rw [IntKind.wrap_i64]; omega
  have HP := yy hp
  clear hp hr
  go_enter Tryz.func50, Tryz.ntmps50
  go_wp2
  go_ret
  exact ⟨by rw [HP.out]; first | rfl | simp [w1, w2, w3], rfl⟩
 have hp : pk c n = c.tmod n := by unfold pk; rw [if_neg h]
 rw [hp] at hr
 have w3 : IntKind.i64.wrap (c.tmod n) = c.tmod n := by rw [IntKind.wrap_i64]; omega
 have HP := yy hp
 clear hp hr
 go_enter Tryz.func50, Tryz.ntmps50
 go_wp2
 go_ret
 exact ⟨by rw [HP.out]; first | rfl | (simp [w3]; done) | (simp [w3]; rw [Int.tmod_eq_emod_of_nonneg (by omega)]), rfl⟩
end Go.Proofs.YthfagcdjbmhhcaaGreat
namespace Go.Proofs.YthfagcdjbmhhcaaGreat
open Go.RowKit
attribute [local irreducible] wpQuiet
def emptyB (x y z : Int) : Bk := ⟨0, [⟨0, 50 + x⟩, ⟨2, 20 + y⟩, ⟨5, z⟩], [], []⟩
theorem emptyB_VB {g : Gr} {x y z : Int} (hg : VG g) (hn : ∀ v ∈ g.vs, v.side = 0) (hx : 0 ≤ x ∧ x < 200) (hy : 0 ≤ y ∧ y < 100) (hz : 0 ≤ z ∧ z < 60) : VB g (emptyB x y z) := by
 refine ⟨hg, hn, by simp [emptyB, inB], ?_, by simp [emptyB], by simp [emptyB], by simp [emptyB], ?_, by simp [emptyB], by simp [emptyB], by simp [emptyB]⟩
 ·intro p hp
  simp [emptyB] at hp
  rcases hp with rfl | rfl | rfl <;> simp [okP, inB] <;> omega
 intro p hp
 simp [emptyB] at hp
 rcases hp with rfl | rfl | rfl <;> simp [spent, emptyB] <;> omega
theorem tdiv_range {n : Int} (hn : -9223372036854775808 ≤ n ∧ n ≤ 9223372036854775807) :
  (-9223372036854775808 ≤ n.tdiv 7 ∧ n.tdiv 7 ≤ 9223372036854775807) ∧ (-9223372036854775808 ≤ n.tdiv 3 ∧ n.tdiv 3 ≤ 9223372036854775807) ∧ (-9223372036854775808 ≤ n.tdiv 5 ∧ n.tdiv 5 ≤ 9223372036854775807) := by
 rcases Int.le_total 0 n with h | h
 ·rw [Int.tdiv_eq_ediv_of_nonneg h, Int.tdiv_eq_ediv_of_nonneg h, Int.tdiv_eq_ediv_of_nonneg h]
  omega
 have e : ∀ k : Int, n.tdiv k = -((-n) / k) := fun k => by
  rw [← Int.tdiv_eq_ediv_of_nonneg (by omega : 0 ≤ -n), Int.neg_tdiv, Int.neg_neg]
 rw [e 7, e 3, e 5]
 omega
set_option maxHeartbeats 2000000 in
theorem empty49 {w : World} (n : Int) (hn : -9223372036854775808 ≤ n ∧ n ≤ 9223372036854775807) : Calls Tryz.prog 49 #[.int .i64 n] w fun e w' => ∃ x y z v, e = .returned v ∧ BkV w' v (emptyB x y z) ∧ Gro w w' ∧ (0 ≤ x ∧ x < 200) ∧ (0 ≤ y ∧ y < 100) ∧ (0 ≤ z ∧ z < 60) := by
 have hmix := mixed
 obtain ⟨t7, t3, _⟩ := tdiv_range hn
 have r1 := pk_range (c := n) (n := 200) (by omega)
 have r2 := pk_range (c := n.tdiv 7) (n := 100) (by omega)
 have r3 := pk_range (c := n.tdiv 3) (n := 60) (by omega)
 have C1 := yy (fun W => pick48 (w := W) n 200 hn (by omega))
 have C2 := yy (fun W => pick48 (w := W) (n.tdiv 7) 100 t7 (by omega))
 have C3 := yy (fun W => pick48 (w := W) (n.tdiv 3) 60 t3 (by omega))
 have q1 : IntKind.i64.wrap (n.tdiv 7) = n.tdiv 7 := by rw [IntKind.wrap_i64]; omega
 have q2 : IntKind.i64.wrap (n.tdiv 3) = n.tdiv 3 := by rw [IntKind.wrap_i64]; omega
 generalize pk n 200 = x at C1 r1
 generalize pk (n.tdiv 7) 100 = y at C2 r2
 generalize pk (n.tdiv 3) 60 = z at C3 r3
 have p1 : IntKind.i64.wrap (50 + x) = 50 + x := by rw [IntKind.wrap_i64]; omega
 have p2 : IntKind.i64.wrap (20 + y) = 20 + y := by rw [IntKind.wrap_i64]; omega
 go_enter Tryz.func49, Tryz.ntmps49
 go_wp2_with fail
 refine (C1.out _).mono ?_
 rintro e w1 ⟨rfl, rfl⟩
 go_wp2_with fail
 refine (C2.out _).mono ?_
 rintro e w1 ⟨rfl, rfl⟩
 go_wp2_with fail
 refine (C3.out _).mono ?_
 rintro e w1 ⟨rfl, rfl⟩
 go_wp2_with fail
 refine bodyPost_ret (results_cell_row (p := 2) (ty := 28) rfl _ _ w.heap.size 28 _ (0, 0) _ rfl (blk_alloc (blk_new _ _) _) Tryz.underlying28 rfl (by kernel_rfl)) rfl ⟨x, y, z, _, rfl, ⟨_, _, _, rfl, ?_, LV.nil _, LV.nil _⟩, ((Gro.refl _).alloc _).alloc _, r1, r2, r3⟩
 refine ⟨some ⟨w.heap.size + 1, 0, none⟩, 3, rfl, rfl, Nat.le_refl _, by simp [emptyB], .inr ⟨w.heap.size + 1, 0, rfl, by simp, fun i v hv => ?_⟩⟩
 have hb := blk_new (w.alloc (Obj.cells #[Value.int IntKind.i64 0, Value.slice (some { block := w.heap.size + 1, off := 0 }) 3 3, Value.slice none 0 0, Value.slice none 0 0] 28)) (Obj.cells #[Value.int IntKind.i64 0, Value.int IntKind.i64 (50 + x), Value.int IntKind.i64 2, Value.int IntKind.i64 (20 + y), Value.int IntKind.i64 5, Value.int IntKind.i64 z] 66)
 rw [asz] at hb
 rw [Nat.zero_add, blk_cell hb]
 simpa [flat, Rec.cs, emptyB] using hv
end Go.Proofs.YthfagcdjbmhhcaaGreat
namespace Go.Proofs.YthfagcdjbmhhcaaGreat
open Go.RowKit
attribute [local irreducible] wpQuiet
theorem lfR161 {P : Prop} (h : P := by (intro w0 hSw; obtain ⟨hSg, e0, e1, e2, e3, e4⟩ := hSw; have hlB := World.block_lt_of_cell? _ _ e0; have cb := blk_cell hSg; have cb1 := cb 1; simp only [lPa, lPb, lPc] at cb1; have cbl := blk_lt hSg; clear cb hSg; go_simp; try with_reducible rfl)) : P := h
structure A5 where
 a0 : Int
 a1 : Int
 a2 : Int
 a3 : Int
 a4 : Int
structure A6 where
 a0 : Int
 a1 : Int
 a2 : Int
 a3 : Int
 a4 : Int
 a5 : Int
instance : Rec A5 := ⟨87, 22, 5, fun x => [.int .i64 x.a0, .int .i64 x.a1, .int .i64 x.a2, .int .i64 x.a3, .int .i64 x.a4], fun _ => rfl, fun x v hv => by simp at hv; rcases hv with rfl | rfl | rfl | rfl | rfl <;> rfl⟩
instance : Rec A6 := ⟨63, 23, 6, fun x => [.int .i64 x.a0, .int .i64 x.a1, .int .i64 x.a2, .int .i64 x.a3, .int .i64 x.a4, .int .i64 x.a5], fun _ => rfl, fun x v hv => by simp at hv; rcases hv with rfl | rfl | rfl | rfl | rfl | rfl <;> rfl⟩
def I64 (n : Int) : Prop := -9223372036854775808 ≤ n ∧ n ≤ 9223372036854775807
def A5.ok (x : A5) : Prop := I64 x.a0 ∧ I64 x.a1 ∧ I64 x.a2 ∧ I64 x.a3 ∧ I64 x.a4
def A6.ok (x : A6) : Prop := I64 x.a0 ∧ I64 x.a1 ∧ I64 x.a2 ∧ I64 x.a3 ∧ I64 x.a4 ∧ I64 x.a5
theorem acells5 {w : World} {b off : Nat} {l : List A5} (h : ∀ i v, (flat l)[i]? = some v → w.cell? ⟨b, off + i, none⟩ = some v) {i : Nat} (hi : i < l.length) :
  w.cell? ⟨b, off + i * 5, none⟩ = some (.int .i64 l[i].a0) ∧ w.cell? ⟨b, off + i * 5 + 1, none⟩ = some (.int .i64 l[i].a1) ∧ w.cell? ⟨b, off + i * 5 + 2, none⟩ = some (.int .i64 l[i].a2) ∧ w.cell? ⟨b, off + i * 5 + 3, none⟩ = some (.int .i64 l[i].a3) ∧ w.cell? ⟨b, off + i * 5 + 4, none⟩ = some (.int .i64 l[i].a4) :=
 ⟨Lst.cell h hi 0 (by decide) rfl, Lst.cell h hi 1 (by decide) rfl, Lst.cell h hi 2 (by decide) rfl, Lst.cell h hi 3 (by decide) rfl, Lst.cell h hi 4 (by decide) rfl⟩
theorem acells6 {w : World} {b off : Nat} {l : List A6} (h : ∀ i v, (flat l)[i]? = some v → w.cell? ⟨b, off + i, none⟩ = some v) {i : Nat} (hi : i < l.length) :
  w.cell? ⟨b, off + i * 6, none⟩ = some (.int .i64 l[i].a0) ∧ w.cell? ⟨b, off + i * 6 + 1, none⟩ = some (.int .i64 l[i].a1) ∧ w.cell? ⟨b, off + i * 6 + 2, none⟩ = some (.int .i64 l[i].a2) ∧ w.cell? ⟨b, off + i * 6 + 3, none⟩ = some (.int .i64 l[i].a3) ∧ w.cell? ⟨b, off + i * 6 + 4, none⟩ = some (.int .i64 l[i].a4) ∧ w.cell? ⟨b, off + i * 6 + 5, none⟩ = some (.int .i64 l[i].a5) :=
 ⟨Lst.cell h hi 0 (by decide) rfl, Lst.cell h hi 1 (by decide) rfl, Lst.cell h hi 2 (by decide) rfl, Lst.cell h hi 3 (by decide) rfl, Lst.cell h hi 4 (by decide) rfl, Lst.cell h hi 5 (by decide) rfl⟩
/-! ### roads, in plain data -/
def vsR : Nat → List Vtx
 | 0 => []
 | k + 1 => vsR k ++ [⟨k, 0⟩]
def dsR : Nat → List Int
 | 0 => []
 | k + 1 => dsR k ++ [(k : Int)]
def esOk (many : Nat) (es : List Edg) : Prop := ∀ j (h : j < es.length), es[j].id = j ∧ (0 ≤ es[j].src ∧ es[j].src < many) ∧ (0 ≤ es[j].dst ∧ es[j].dst < many) ∧ (0 ≤ es[j].weight ∧ es[j].weight < 10) ∧ (0 ≤ es[j].cap ∧ es[j].cap < 4)
theorem esOk.app {many : Nat} {es : List Edg} (h : esOk many es) (x : Edg) (h0 : x.id = es.length) (h1 : 0 ≤ x.src ∧ x.src < many) (h2 : 0 ≤ x.dst ∧ x.dst < many) (h3 : 0 ≤ x.weight ∧ x.weight < 10) (h4 : 0 ≤ x.cap ∧ x.cap < 4) : esOk many (es ++ [x]) := by
 intro j hj
 by_cases e : j < es.length
 ·rw [List.getElem_append_left e]; exact h j e
 have : j = es.length := by simp at hj; omega
 subst this
 rw [List.getElem_append_right (Nat.le_refl _)]
 simp only [Nat.sub_self, List.getElem_cons_zero]
 exact ⟨h0, h1, h2, h3, h4⟩
theorem vsR_len : ∀ k, (vsR k).length = k
 | 0 => rfl
 | k + 1 => by simp [vsR, vsR_len k]
theorem dsR_len : ∀ k, (dsR k).length = k
 | 0 => rfl
 | k + 1 => by simp [dsR, dsR_len k]
theorem mem_vsR {v : Vtx} : ∀ {k : Nat}, v ∈ vsR k ↔ ∃ i : Nat, i < k ∧ v = ⟨i, 0⟩
 | 0 => by simp [vsR]
 | k + 1 => by
  rw [vsR, List.mem_append, mem_vsR (k := k), List.mem_singleton]
  constructor
  ·rintro (⟨i, hi, rfl⟩ | rfl)
   ·exact ⟨i, by omega, rfl⟩
   ·exact ⟨k, by omega, rfl⟩
  ·rintro ⟨i, hi, rfl⟩
   by_cases e : i = k
   ·subst e; exact .inr rfl
   ·exact .inl ⟨i, by omega, rfl⟩
theorem mem_dsR {d : Int} : ∀ {k : Nat}, d ∈ dsR k ↔ ∃ i : Nat, i < k ∧ d = i
 | 0 => by simp [dsR]
 | k + 1 => by
  rw [dsR, List.mem_append, mem_dsR (k := k), List.mem_singleton]
  constructor
  ·rintro (⟨i, hi, rfl⟩ | rfl)
   ·exact ⟨i, by omega, rfl⟩
   ·exact ⟨k, by omega, rfl⟩
  ·rintro ⟨i, hi, rfl⟩
   by_cases e : i = k
   ·subst e; exact .inr rfl
   ·exact .inl ⟨i, by omega, rfl⟩
theorem vsR_asc : ∀ k, ((vsR k).map Vtx.id).Pairwise (· < ·)
 | 0 => by simp [vsR]
 | k + 1 => by
  rw [vsR, List.map_append, List.pairwise_append]
  refine ⟨vsR_asc k, by simp, ?_⟩
  intro a ha b hb
  obtain ⟨v, hv, rfl⟩ := List.mem_map.1 ha
  obtain ⟨i, hi, rfl⟩ := mem_vsR.1 hv
  simp at hb
  subst hb
  simp only; omega
theorem dsR_asc : ∀ k, (dsR k).Pairwise (· < ·)
 | 0 => by simp [dsR]
 | k + 1 => by
  rw [dsR, List.pairwise_append]
  refine ⟨dsR_asc k, by simp, ?_⟩
  intro a ha b hb
  obtain ⟨i, hi, rfl⟩ := mem_dsR.1 ha
  simp at hb
  subst hb
  omega
theorem roads_VG {many d : Nat} {es : List Edg} (h1 : 1 ≤ many) (h5 : many ≤ 5) (he : esOk many es) (hl : es.length ≤ 8) (hd : d ≤ many) (hd3 : d ≤ 3) : VG ⟨vsR many, es, dsR d⟩ := by
 have hm : ∀ n : Int, 0 ≤ n → n < many → has ⟨vsR many, es, dsR d⟩ n = true := fun n a b => has_iff.2 ⟨⟨n.toNat, 0⟩, mem_vsR.2 ⟨n.toNat, by omega, rfl⟩, by simp only; omega⟩
 refine ⟨vsR_asc many, ?_, ?_, ?_, by rw [dsR_len]; exact hd3, dsR_asc d, ?_⟩
 ·rw [List.pairwise_iff_getElem]
  intro i j hi hj hij
  simp only [List.getElem_map]
  simp at hi hj
  have a := (he i hi).1
  have b := (he j hj).1
  rw [a, b]; omega
 ·intro v hv
  obtain ⟨i, hi, rfl⟩ := mem_vsR.1 hv
  simp [okV, inB]; omega
 ·intro e hm2
  obtain ⟨j, hj, rfl⟩ := List.getElem_of_mem hm2
  have hj : j < es.length := hj
  obtain ⟨a, b, c, q, r⟩ := he j hj
  refine ⟨?_, hm _ b.1 b.2, hm _ c.1 c.2⟩
  simp [okE, inB]; omega
 intro x hx
 obtain ⟨i, hi, rfl⟩ := mem_dsR.1 hx
 exact hm _ (by omega) (by omega)
/-- a graph that is being made: the result's block, and the variable's -/
structure RG (w wr : World) (v1 v2 v3 : Value) (vs : List Vtx) (es : List Edg) (ds : List Int) : Prop where
 tb : wr.heap[w.heap.size]? = some (.cells #[.slice none 0 0, .slice none 0 0, .slice none 0 0] 38 (0, 0))
 gb : wr.heap[w.heap.size + 1]? = some (.cells #[v1, v2, v3] 38 (0, 0))
 o1 : OwnL wr (w.heap.size + 2) v1 vs
 o2 : OwnL wr (w.heap.size + 2) v2 es
 o3 : OwnL wr (w.heap.size + 2) v3 ds
 gro : Gro w wr
theorem RG.bz {w wr : World} {v1 v2 v3 : Value} {vs : List Vtx} {es : List Edg} {ds : List Int} (h : RG w wr v1 v2 v3 vs es ds) : w.heap.size + 2 ≤ wr.heap.size := blk_lt h.gb
theorem RG.put1 {w wr w' : World} {v1 v2 v3 v : Value} {vs vs' : List Vtx} {es : List Edg} {ds : List Int} (h : RG w wr v1 v2 v3 vs es ds) (ho : OwnL w' (w.heap.size + 2) v vs') (k : Kept (ownF v1) wr w') : RG w (w'.setCell ⟨w.heap.size + 1, 0, none⟩ v) v v2 v3 vs' es ds := by
 have hb := k.blk h.gb (own_far h.o1 h.gb (by decide))
 have kk : Kept (· = w.heap.size + 1) w' (w'.setCell ⟨w.heap.size + 1, 0, none⟩ v) := (Kept.refl (· = w.heap.size + 1) w').setCell (p := ⟨w.heap.size + 1, 0, none⟩) (.inl rfl) v
 have hg : Gro w w' := Kept.trans' h.gro k (fun j hj => .inr (by have := (h.o1.block hj).1; omega))
 refine ⟨kk.blk (k.blk h.tb (own_far h.o1 h.tb (by decide))) (by omega), ?_, ho.far kk hb (by decide), (h.o2.kept k (own_far2 h.o1 h.o2 (by decide))).far kk hb (by decide), (h.o3.kept k (own_far2 h.o1 h.o3 (by decide))).far kk hb (by decide), Kept.setCell hg (.inr (Nat.le_succ _)) v⟩
 have := blk_set hb 0 v
 simpa using this
theorem RG.put2 {w wr w' : World} {v1 v2 v3 v : Value} {vs : List Vtx} {es es' : List Edg} {ds : List Int} (h : RG w wr v1 v2 v3 vs es ds) (ho : OwnL w' (w.heap.size + 2) v es') (k : Kept (ownF v2) wr w') : RG w (w'.setCell ⟨w.heap.size + 1, 1, none⟩ v) v1 v v3 vs es' ds := by
 have hb := k.blk h.gb (own_far h.o2 h.gb (by decide))
 have kk : Kept (· = w.heap.size + 1) w' (w'.setCell ⟨w.heap.size + 1, 1, none⟩ v) := (Kept.refl (· = w.heap.size + 1) w').setCell (p := ⟨w.heap.size + 1, 1, none⟩) (.inl rfl) v
 have hg : Gro w w' := Kept.trans' h.gro k (fun j hj => .inr (by have := (h.o2.block hj).1; omega))
 refine ⟨kk.blk (k.blk h.tb (own_far h.o2 h.tb (by decide))) (by omega), ?_, (h.o1.kept k (own_far2 h.o2 h.o1 (by decide))).far kk hb (by decide), ho.far kk hb (by decide), (h.o3.kept k (own_far2 h.o2 h.o3 (by decide))).far kk hb (by decide), Kept.setCell hg (.inr (Nat.le_succ _)) v⟩
 have := blk_set hb 1 v
 simpa using this
theorem RG.put3 {w wr w' : World} {v1 v2 v3 v : Value} {vs : List Vtx} {es : List Edg} {ds ds' : List Int} (h : RG w wr v1 v2 v3 vs es ds) (ho : OwnL w' (w.heap.size + 2) v ds') (k : Kept (ownF v3) wr w') : RG w (w'.setCell ⟨w.heap.size + 1, 2, none⟩ v) v1 v2 v vs es ds' := by
 have hb := k.blk h.gb (own_far h.o3 h.gb (by decide))
 have kk : Kept (· = w.heap.size + 1) w' (w'.setCell ⟨w.heap.size + 1, 2, none⟩ v) := (Kept.refl (· = w.heap.size + 1) w').setCell (p := ⟨w.heap.size + 1, 2, none⟩) (.inl rfl) v
 have hg : Gro w w' := Kept.trans' h.gro k (fun j hj => .inr (by have := (h.o3.block hj).1; omega))
 refine ⟨kk.blk (k.blk h.tb (own_far h.o3 h.tb (by decide))) (by omega), ?_, (h.o1.kept k (own_far2 h.o3 h.o1 (by decide))).far kk hb (by decide), (h.o2.kept k (own_far2 h.o3 h.o2 (by decide))).far kk hb (by decide), ho.far kk hb (by decide), Kept.setCell hg (.inr (Nat.le_succ _)) v⟩
 have := blk_set hb 2 v
 simpa using this
theorem RG.step {w wr w' : World} {v1 v2 v3 : Value} {vs : List Vtx} {es : List Edg} {ds : List Int} (h : RG w wr v1 v2 v3 vs es ds) (k : Gro wr w') : RG w w' v1 v2 v3 vs es ds := ⟨k.blk h.tb, k.blk h.gb, h.o1.gro k, h.o2.gro k, h.o3.gro k, h.gro.trans k⟩
/-- a cell, out of the block, by index -/
def RoadsPost (w : World) (e : Ending) (w' : World) : Prop := ∃ v g, e = .returned v ∧ GrV w' v g ∧ VG g ∧ (∀ x ∈ g.vs, x.side = 0) ∧ 0 < g.vs.length ∧ Gro w w'
set_option maxHeartbeats 16000000 in
set_option maxRecDepth 100000 in
theorem roads10 {w : World} (n : Int) (hn : I64 n) {lv : Value} {l : List A5} (hl : LV w lv l) (hok : ∀ x ∈ l, x.ok) : Calls Tryz.prog 10 #[.int .i64 n, lv] w (RoadsPost w) := by
 have hmix := mixed
 obtain ⟨al, cl, rfl, hll⟩ := hl
 have hbig := hll.big
 obtain ⟨_, _, t5⟩ := tdiv_range hn
 have q1 := pk_range (c := n) (n := 5) (by omega)
 have q2 := pk_range (c := n.tdiv 5) (n := 3) (by omega)
 have P1 := yy (fun W => pick48 (w := W) n 5 hn (by omega))
 have P2 := yy (fun W => pick48 (w := W) (n.tdiv 5) 3 t5 (by omega))
 have hw5 : IntKind.i64.wrap (n.tdiv 5) = n.tdiv 5 := by rw [IntKind.wrap_i64]; omega
 generalize pk n 5 = y1 at P1 q1
 generalize pk (n.tdiv 5) 3 = y2 at P2 q2
 obtain ⟨m1, rfl⟩ : ∃ m : Nat, y1 = m := ⟨y1.toNat, by omega⟩
 obtain ⟨m2, rfl⟩ : ∃ m : Nat, y2 = m := ⟨y2.toNat, by omega⟩
 obtain ⟨many, hmany⟩ : ∃ q, q = Nat.succ m1 := ⟨_, rfl⟩
 have hM1 : 1 ≤ many := by omega
 have hM5 : many ≤ 5 := by omega
 have hwm : IntKind.i64.wrap (1 + (m1 : Int)) = (many : Int) := by rw [IntKind.wrap_i64]; omega
 clear hmany q1
 have HL := yy hll
 have HOK := yy hok
 obtain ⟨wa, hwa⟩ : ∃ wa, wa = (w.alloc (Obj.cells #[Value.slice none 0 0, Value.slice none 0 0, Value.slice none 0 0] 38)).alloc (Obj.cells #[Value.slice none 0 0, Value.slice none 0 0, Value.slice none 0 0] 38) := ⟨_, rfl⟩
 have HR0 : Hid (RG w wa (.slice none 0 0) (.slice none 0 0) (.slice none 0 0) (vsR 0) [] (dsR 0)) := yy (by
  have hb := blk_new (w.alloc (Obj.cells #[Value.slice none 0 0, Value.slice none 0 0, Value.slice none 0 0] 38)) (Obj.cells #[Value.slice none 0 0, Value.slice none 0 0, Value.slice none 0 0] 38)
  rw [asz] at hb
  rw [hwa]
  exact ⟨blk_alloc (blk_new _ _) _, hb, OwnL.nil _ _, OwnL.nil _ _, OwnL.nil _ _, ((Gro.refl _).alloc _).alloc _⟩)
 have HWA := yy hwa
 clear hll hok hwa t5 hn
 go_enter Tryz.func10, Tryz.ntmps10
 go_wp2_with fail
 rw [← HWA.out]
 clear HWA
 refine (P1.out _).mono ?_
 rintro e w' ⟨rfl, rfl⟩
 clear P1
 go_wp2_with fail
 go_loopw [7] (fun t wr => ∃ (k : Nat) (v1 : Value), k ≤ many ∧ t = .int .i64 k ∧ Hid (RG w wr v1 (.slice none 0 0) (.slice none 0 0) (vsR k) [] (dsR 0))) (fun t _ => many - (intOf t).toNat)
 case atStart => exact ⟨0, _, Nat.zero_le _, by go_num, HR0⟩
 case round =>
 clear HR0
 obtain ⟨k, v1, hk, rfl, HR⟩ := hrel
 obtain ⟨ga1, gc1, ge1⟩ := HR.out.o1.form
 generalize hgn1 : (vsR k).length = gn1 at ge1
 subst ge1
 have hbz := HR.out.bz
 by_cases hlt : k < many
 ·have hk2 : (vsR k).length ≤ 900000000 := by rw [vsR_len]; omega
  have cG := blk_cell HR.out.gb 0
  have fG := blk_frozen HR.out.gb 0
  simp only [lPa, lPb, lPc] at cG
  have hlG := blk_lt HR.out.gb
  clear hgn1
  go_wp2_with (at_builtin; refine wpList_app1 (α := Vtx) ⟨(k : Int), 0⟩ rfl _ _ rfl rfl HR.out.o1 rfl hk2 hbz ?_; intro v' w' g1 g2 g3; obtain ⟨a', c', e'⟩ := g1.form; generalize (vsR k ++ [(⟨(k : Int), 0⟩ : Vtx)]).length = nq at e'; subst e'; have hGb := g2.blk HR.out.gb (own_far HR.out.o1 HR.out.gb (by decide)); have cG2 := blk_cell hGb 0; have fG2 := blk_frozen hGb 0; simp only [lPa, lPb, lPc] at cG2; have hlG2 := blk_lt hGb; have H1 := yy (HR.out.put1 g1 g2); clear g1 g2 g3 hGb)
  go_roundw
  case rel => first | exact ⟨k + 1, _, by omega, by go_num, H1⟩ | trace_state
  case measure => simp [intOf]; omega
 obtain rfl : many = k := by omega
 have HL1 := yy hgn1
 clear hgn1
 go_wp2_with fail
 go_loopw [8] (fun t wr => ∃ (i : Nat) (v2 : Value) (es : List Edg), i ≤ l.length ∧ i ≤ 8 ∧ es.length = i ∧ t = .int .i64 i ∧ Hid (esOk many es) ∧ Hid (RG w wr (.slice ga1 gn1 gc1) v2 (.slice none 0 0) (vsR many) es (dsR 0))) (fun t _ => l.length - (intOf t).toNat)
 case atStart => exact ⟨0, _, [], Nat.zero_le _, Nat.zero_le _, rfl, by go_num, yy (fun j h => by simp at h), HR⟩
 case round =>
 clear HR
 obtain ⟨i, v2, es, hi, hi8, hel, rfl, HES, HR⟩ := hrel
 obtain ⟨ga2, gc2, ge2⟩ := HR.out.o2.form
 generalize hgn2 : es.length = gn2 at ge2
 subst ge2
 have HEL := yy hel
 have hel9 : es.length ≤ 8 := by omega
 by_cases hlt : i < l.length ∧ i < 8
 ·obtain ⟨hlt1, hlt8⟩ := hlt
  have hd8 := decide_eq_true (show (i : Int) < 8 by omega)
  obtain ⟨B, off, rfl, hB, hc⟩ := HL.out.base hlt1
  have hgr := HR.out.gro
  obtain ⟨d0, d1, d2, d3, d4⟩ := acells5 hc hlt1
  have hx := HOK.out _ (List.getElem_mem hlt1)
  generalize l[i] = x at d0 d1 d2 d3 d4 hx
  obtain ⟨x0, x1, x2, x3, x4⟩ := x
  obtain ⟨rx0, rx1, rx2, rx3, rx4⟩ := hx
  simp only at d0 d1 d2 d3 d4 rx0 rx1 rx2 rx3 rx4
  have d0 := hgr.cell d0
  have d1 := hgr.cell d1
  have d2 := hgr.cell d2
  have d3 := hgr.cell d3
  have d4 := hgr.cell d4
  have hlB := World.block_lt_of_cell? _ _ d0
  have Q0 := yy (fun W => pick48 (w := W) x0 (many : Int) rx0 (by omega))
  have Q1 := yy (fun W => pick48 (w := W) x1 (many : Int) rx1 (by omega))
  have Q2 := yy (fun W => pick48 (w := W) x2 3 rx2 (by omega))
  have Q3 := yy (fun W => pick48 (w := W) x3 10 rx3 (by omega))
  have Q4 := yy (fun W => pick48 (w := W) x4 4 rx4 (by omega))
  have p0 := pk_range (c := x0) (n := (many : Int)) (by omega)
  have p1 := pk_range (c := x1) (n := (many : Int)) (by omega)
  have p3 := pk_range (c := x3) (n := 10) (by omega)
  have p4 := pk_range (c := x4) (n := 4) (by omega)
  generalize pk x0 (many : Int) = z0 at Q0 p0
  generalize pk x1 (many : Int) = z1 at Q1 p1
  generalize pk x2 3 = z2 at Q2
  generalize pk x3 10 = z3 at Q3 p3
  generalize pk x4 4 = z4 at Q4 p4
  have HES2 : Hid (esOk many (es ++ [⟨(i : Int), z0, z1, z2 == 0, z3, z4⟩])) := yy (HES.out.app _ (by simp only; omega) (by simp only; omega) (by simp only; omega) p3 p4)
  clear hgr hc rx0 rx1 rx2 rx3 rx4 hel hgn2
  go_wp2_with fail
  have hS : (fun w' => w'.heap[w.heap.size + 1]? = some (.cells #[.slice ga1 gn1 gc1, .slice ga2 gn2 gc2, .slice none 0 0] 38 (0, 0)) ∧ (w'.cell? ⟨B, off + i * 5, none⟩ = some (Value.int IntKind.i64 x0) ∧ w'.cell? ⟨B, off + i * 5 + 1, none⟩ = some (Value.int IntKind.i64 x1) ∧ w'.cell? ⟨B, off + i * 5 + 2, none⟩ = some (Value.int IntKind.i64 x2) ∧ w'.cell? ⟨B, off + i * 5 + 3, none⟩ = some (Value.int IntKind.i64 x3) ∧ w'.cell? ⟨B, off + i * 5 + 4, none⟩ = some (Value.int IntKind.i64 x4))) wr.drew := ⟨(Gro.refl wr).drew.blk HR.out.gb, (Gro.refl wr).drew.cell d0, (Gro.refl wr).drew.cell d1, (Gro.refl wr).drew.cell d2, (Gro.refl wr).drew.cell d3, (Gro.refl wr).drew.cell d4⟩
  refine anyL_begin 40 (fun w' => w'.heap[w.heap.size + 1]? = some (.cells #[.slice ga1 gn1 gc1, .slice ga2 gn2 gc2, .slice none 0 0] 38 (0, 0)) ∧ (w'.cell? ⟨B, off + i * 5, none⟩ = some (Value.int IntKind.i64 x0) ∧ w'.cell? ⟨B, off + i * 5 + 1, none⟩ = some (Value.int IntKind.i64 x1) ∧ w'.cell? ⟨B, off + i * 5 + 2, none⟩ = some (Value.int IntKind.i64 x2) ∧ w'.cell? ⟨B, off + i * 5 + 3, none⟩ = some (Value.int IntKind.i64 x3) ∧ w'.cell? ⟨B, off + i * 5 + 4, none⟩ = some (Value.int IntKind.i64 x4))) (by kernel_rfl) ?_
  have HD := yy (HR.out.step (Gro.refl wr).drew)
  clear d0 d1 d2 d3 d4 HR hlB
  generalize wr.drew = wd at hS HD ⊢
  refine tkL 0 rfl lfR161 hS ?_
  refine nx ?_
  refine tkL 1 rfl lfR161 hS ?_
  refine nx ?_
  refine tkL 2 rfl lfR161 hS ?_
  refine nx ?_
  refine tkL 3 rfl lfR161 hS ?_
  refine nx ?_
  refine tkL 4 rfl lfR161 hS ?_
  refine nx ?_
  refine tkL 5 rfl lfR161 hS ?_
  refine nx ?_
  refine tkL 6 rfl lfR161 hS ?_
  refine nx ?_
  refine tkL 7 rfl lfR161 hS ?_
  refine nx ?_
  refine tkL 8 rfl lfR161 hS ?_
  refine nx ?_
  refine tkL 10 rfl lfR161 hS ?_
  refine nx ?_
  refine tkL 11 rfl lfR161 hS ?_
  refine nx ?_
  refine tkL 12 rfl lfR161 hS ?_
  refine nx ?_
  refine tkL 13 rfl lfR161 hS ?_
  refine nx ?_
  refine tkL 14 rfl lfR161 hS ?_
  refine nx ?_
  refine tkL 15 rfl lfR161 hS ?_
  refine nx ?_
  refine tkL 17 rfl lfR161 hS ?_
  refine nx ?_
  refine tkL 18 rfl lfR161 hS ?_
  refine nx ?_
  refine tkL 19 rfl lfR161 hS ?_
  refine nx ?_
  refine tkL 20 rfl lfR161 hS ?_
  refine nx ?_
  refine tkL 21 rfl lfR161 hS ?_
  refine nx ?_
  refine tkL 24 rfl lfR161 hS ?_
  refine nx ?_
  refine tkL 25 rfl lfR161 hS ?_
  refine nx ?_
  refine tkL 26 rfl lfR161 hS ?_
  refine nx ?_
  refine tkL 27 rfl lfR161 hS ?_
  refine nx ?_
  refine tkL 28 rfl lfR161 hS ?_
  refine nx ?_
  refine tkL 30 rfl lfR161 hS ?_
  refine nx ?_
  refine tkL 31 rfl lfR161 hS ?_
  refine nx ?_
  refine tkL 32 rfl lfR161 hS ?_
  refine nx ?_
  refine tkL 33 rfl lfR161 hS ?_
  refine nx ?_
  refine tkL 34 rfl lfR161 hS ?_
  refine nx ?_
  refine anyL_one (i := 9) (by kernel_rfl) rfl (fun K hK => ?_)
  go_simp
  refine (Q0.out _).mono ?_
  rintro e w' ⟨rfl, rfl⟩
  refine hK.out _ _ (fun _ => hS) ?_
  clear hK K
  try refine nx ?_
  refine anyL_one (i := 16) (by kernel_rfl) rfl (fun K hK => ?_)
  go_simp
  refine (Q1.out _).mono ?_
  rintro e w' ⟨rfl, rfl⟩
  refine hK.out _ _ (fun _ => hS) ?_
  clear hK K
  try refine nx ?_
  refine anyL_one (i := 22) (by kernel_rfl) rfl (fun K hK => ?_)
  go_simp
  refine (Q2.out _).mono ?_
  rintro e w' ⟨rfl, rfl⟩
  refine hK.out _ _ (fun _ => hS) ?_
  clear hK K
  try refine nx ?_
  refine tkL 23 rfl lfR161 hS ?_
  refine nx ?_
  refine anyL_one (i := 29) (by kernel_rfl) rfl (fun K hK => ?_)
  go_simp
  refine (Q3.out _).mono ?_
  rintro e w' ⟨rfl, rfl⟩
  refine hK.out _ _ (fun _ => hS) ?_
  clear hK K
  try refine nx ?_
  refine anyL_one (i := 35) (by kernel_rfl) rfl (fun K hK => ?_)
  go_simp
  refine (Q4.out _).mono ?_
  rintro e w' ⟨rfl, rfl⟩
  refine hK.out _ _ (fun _ => hS) ?_
  clear hK K
  try refine nx ?_
  refine tkL 36 rfl lfR161 hS ?_
  refine nx ?_
  refine anyL_one (i := 37) (by kernel_rfl) rfl (fun K hK => ?_)
  go_simp
  obtain ⟨w1, hw1⟩ : ∃ w1, w1 = w'.alloc (Obj.cells #[.int .i64 (i : Int), .int .i64 z0, .int .i64 z1, .bool (z2 == 0), .int .i64 z3, .int .i64 z4] 69) := ⟨_, rfl⟩
  rw [← hw1]
  have k1 : Gro w' w1 := by rw [hw1]; exact (Gro.refl _).alloc _
  have b1 : w1.heap[w'.heap.size]? = some (.cells #[.int .i64 (i : Int), .int .i64 z0, .int .i64 z1, .bool (z2 == 0), .int .i64 z3, .int .i64 z4] 69 (0, 0)) := by rw [hw1]; exact blk_new _ _
  have hS1 : (fun w' => w'.heap[w.heap.size + 1]? = some (.cells #[.slice ga1 gn1 gc1, .slice ga2 gn2 gc2, .slice none 0 0] 38 (0, 0)) ∧ (w'.cell? ⟨B, off + i * 5, none⟩ = some (Value.int IntKind.i64 x0) ∧ w'.cell? ⟨B, off + i * 5 + 1, none⟩ = some (Value.int IntKind.i64 x1) ∧ w'.cell? ⟨B, off + i * 5 + 2, none⟩ = some (Value.int IntKind.i64 x2) ∧ w'.cell? ⟨B, off + i * 5 + 3, none⟩ = some (Value.int IntKind.i64 x3) ∧ w'.cell? ⟨B, off + i * 5 + 4, none⟩ = some (Value.int IntKind.i64 x4))) w1 := ⟨k1.blk hS.1, k1.cell hS.2.1, k1.cell hS.2.2.1, k1.cell hS.2.2.2.1, k1.cell hS.2.2.2.2.1, k1.cell hS.2.2.2.2.2⟩
  clear hw1
  refine hK.out _ _ (fun _ => hS1) ?_
  clear hK K
  try refine nx ?_
  have HD1 := HD.out.step k1
  obtain ⟨v2', w2, hrun2, o2, k2, _⟩ := run_app (α := Edg) HD1.o2 ⟨w'.heap.size, 0, none⟩ 1 1 [⟨(i : Int), z0, z1, z2 == 0, z3, z4⟩] rfl (fun j u hu => World.news_of_block b1 j u (by simpa [flat, Rec.cs] using hu)) (by omega) HD1.bz 36
  have hGb := k2.blk HD1.gb (own_far HD1.o2 HD1.gb (by decide))
  have HP := yy (HD1.put2 o2 k2)
  obtain ⟨a', c', e'⟩ := o2.form
  generalize (es ++ [(⟨(i : Int), z0, z1, z2 == 0, z3, z4⟩ : Edg)]).length = nq at e'
  subst e'
  have hfarB : ¬ ownF (.slice ga2 gn2 gc2) B := fun h => by have := (HD1.o2.block h).1; omega
  have k12 := k2
  have hS2 : (fun w' => w'.heap[w.heap.size + 1]? = some (.cells #[.slice ga1 gn1 gc1, .slice ga2 gn2 gc2, .slice none 0 0] 38 (0, 0)) ∧ (w'.cell? ⟨B, off + i * 5, none⟩ = some (Value.int IntKind.i64 x0) ∧ w'.cell? ⟨B, off + i * 5 + 1, none⟩ = some (Value.int IntKind.i64 x1) ∧ w'.cell? ⟨B, off + i * 5 + 2, none⟩ = some (Value.int IntKind.i64 x2) ∧ w'.cell? ⟨B, off + i * 5 + 3, none⟩ = some (Value.int IntKind.i64 x3) ∧ w'.cell? ⟨B, off + i * 5 + 4, none⟩ = some (Value.int IntKind.i64 x4))) w2 := ⟨hGb, k2.cell hfarB hS1.2.1, k2.cell hfarB hS1.2.2.1, k2.cell hfarB hS1.2.2.2.1, k2.cell hfarB hS1.2.2.2.2.1, k2.cell hfarB hS1.2.2.2.2.2⟩
  refine anyL_one (i := 38) (by kernel_rfl) rfl (fun K hK => ?_)
  refine step_run rfl _ _ 36 rfl _ _ rfl rfl hrun2 ?_
  refine hK.out _ _ (fun _ => hS2) ?_
  clear hK K
  try refine nx ?_
  have hS := hS2
  refine tkL 39 rfl lfR161 hS ?_
  refine nx ?_
  have fz := blk_frozen hGb 1
  have ct := blk_cell hGb 1
  simp only [lPa, lPb, lPc] at ct
  have hlT := blk_lt hGb
  refine anyL_one (i := 40) (by kernel_rfl) rfl (fun K hK => ?_)
  go_simp
  refine hK.out _ _ (fun h => absurd rfl h) ?_
  clear hK K
  try refine nx ?_
  refine anyL_done (by kernel_rfl) ?_
  go_wp2_with fail
  go_roundw
  case rel => first | exact ⟨i + 1, by omega, by omega, _, _, by rw [List.length_append, HEL.out]; rfl, by omega, HES2, HP⟩ | exact ⟨i + 1, _, _, by omega, by omega, by rw [List.length_append, HEL.out]; rfl, by go_num, HES2, HP⟩ | (refine ⟨_, _, _, _, _, _, _, _, _, _, _, _, _, _, _, _, _, _, _, _, _, _, _, _, _, _, _, _, _, _, _, _, _, _, _, _, _, _, _, _, _, _, _, _, ⟨i + 1, _, _, by omega, by omega, by rw [List.length_append, HEL.out]; rfl, by go_num, HES2, HP⟩, rfl⟩) | trace_state
  case measure => simp [intOf]; omega
 by_cases h1 : i < l.length
 ·have hd8 := decide_eq_false (show ¬ (i : Int) < 8 by omega)
  have HL2 := yy hgn2
  clear hgn2 hel
  go_wp2_with fail
  go_loopw [9] (fun t wr => ∃ (j : Nat) (v3 : Value), j ≤ m2 ∧ j ≤ many ∧ t = .int .i64 j ∧ Hid (RG w wr (.slice ga1 gn1 gc1) (.slice ga2 gn2 gc2) v3 (vsR many) es (dsR j))) (fun t _ => m2 - (intOf t).toNat)
  case atStart => exact ⟨0, _, Nat.zero_le _, Nat.zero_le _, by go_num, HR⟩
  case round =>
  clear HR
  obtain ⟨j, v3, hj2, hj1, rfl, HR⟩ := hrel
  obtain ⟨ga3, gc3, ge3⟩ := HR.out.o3.form
  generalize hgn3 : (dsR j).length = gn3 at ge3
  subst ge3
  have hbz := HR.out.bz
  by_cases hlt3 : j < m2 ∧ j < many
  ·obtain ⟨hlt3a, hlt3b⟩ := hlt3
   have hk2 : (dsR j).length ≤ 900000000 := by rw [dsR_len]; omega
   have cG := blk_cell HR.out.gb 2
   have fG := blk_frozen HR.out.gb 2
   simp only [lPa, lPb, lPc] at cG
   have hlG := blk_lt HR.out.gb
   clear hgn3
   go_wp2_with (first | (go_at_call 48; refine (P2.out _).mono ?_; rintro e wq ⟨rfl, rfl⟩) | (at_builtin; refine wpList_app1 (α := Int) (j : Int) rfl _ _ rfl rfl HR.out.o3 rfl hk2 hbz ?_; intro v' w' g1 g2 g3; obtain ⟨a', c', e'⟩ := g1.form; generalize (dsR j ++ [((j : Int) : Int)]).length = nq at e'; subst e'; have hGb := g2.blk HR.out.gb (own_far HR.out.o3 HR.out.gb (by decide)); have cG2 := blk_cell hGb 2; have fG2 := blk_frozen hGb 2; simp only [lPa, lPb, lPc] at cG2; have hlG2 := blk_lt hGb; have H1 := yy (HR.out.put3 g1 g2); clear g1 g2 g3 hGb))
   go_roundw
   case rel => first | exact ⟨j + 1, by omega, by omega, _, by omega, H1⟩ | exact ⟨j + 1, _, by omega, by omega, by go_num, H1⟩ | trace_state
   case measure => simp [intOf]; omega
  have cG := blk_cell HR.out.gb
  have u0 := cG 0
  have u1 := cG 1
  have u2 := cG 2
  have cT := blk_cell HR.out.tb
  have t0 := cT 0
  have t1 := cT 1
  have t2 := cT 2
  have fT := blk_frozen HR.out.tb
  have f0 := fT 0
  have f1 := fT 1
  have f2 := fT 2
  simp only [lPa, lPb, lPc] at u0 u1 u2 t0 t1 t2
  have hlG := blk_lt HR.out.gb
  have hlT := blk_lt HR.out.tb
  have B5 := yy (set3 HR.out.tb (.slice ga1 gn1 gc1) (.slice ga2 gn2 gc2) (.slice ga3 gn3 gc3))
  have K5 := yy (kept3 HR.out.gro (.inr (Nat.le_refl _)) (.slice ga1 gn1 gc1) (.slice ga2 gn2 gc2) (.slice ga3 gn3 gc3))
  have kk := kept3 (F := (· = w.heap.size)) (Kept.refl (· = w.heap.size) wr) (.inl rfl) (.slice ga1 gn1 gc1) (.slice ga2 gn2 gc2) (.slice ga3 gn3 gc3)
  have V1 := yy ((HR.out.o1.far kk HR.out.tb (by decide)).lv (by rw [vsR_len]; omega))
  have V2 := yy ((HR.out.o2.far kk HR.out.tb (by decide)).lv (by omega))
  have V3 := yy ((HR.out.o3.far kk HR.out.tb (by decide)).lv (by rw [dsR_len]; omega))
  have HVG := yy (roads_VG (many := many) (d := j) (by omega) (by omega) HES.out hel9 hj1 (by omega))
  clear cG cT fT kk
  by_cases h3a : j < m2
  ·have h3b : ¬ j < many := fun h => hlt3 ⟨h3a, h⟩
   go_wp2_with (go_at_call 48; refine (P2.out _).mono ?_; rintro e wq ⟨rfl, rfl⟩)
   refine bodyPost_ret (results_cell_row (p := 4) (ty := 38) rfl _ _ w.heap.size 38 _ (0, 0) _ rfl B5.out Tryz.underlying38 rfl (by kernel_rfl)) rfl ⟨_, ⟨vsR many, es, dsR j⟩, rfl, ⟨_, _, _, rfl, V1.out, V2.out, V3.out⟩, HVG.out, ?_, ?_, K5.out⟩
   ·intro x hx
    obtain ⟨_, _, rfl⟩ := mem_vsR.1 hx
    rfl
   show 0 < (vsR many).length
   rw [vsR_len]; omega
  go_wp2_with (go_at_call 48; refine (P2.out _).mono ?_; rintro e wq ⟨rfl, rfl⟩)
  refine bodyPost_ret (results_cell_row (p := 4) (ty := 38) rfl _ _ w.heap.size 38 _ (0, 0) _ rfl B5.out Tryz.underlying38 rfl (by kernel_rfl)) rfl ⟨_, ⟨vsR many, es, dsR j⟩, rfl, ⟨_, _, _, rfl, V1.out, V2.out, V3.out⟩, HVG.out, ?_, ?_, K5.out⟩
  ·intro x hx
   obtain ⟨_, _, rfl⟩ := mem_vsR.1 hx
   rfl
  show 0 < (vsR many).length
  rw [vsR_len]; omega
 skip
 have HL2 := yy hgn2
 clear hgn2 hel
 go_wp2_with fail
 go_loopw [9] (fun t wr => ∃ (j : Nat) (v3 : Value), j ≤ m2 ∧ j ≤ many ∧ t = .int .i64 j ∧ Hid (RG w wr (.slice ga1 gn1 gc1) (.slice ga2 gn2 gc2) v3 (vsR many) es (dsR j))) (fun t _ => m2 - (intOf t).toNat)
 case atStart => exact ⟨0, _, Nat.zero_le _, Nat.zero_le _, by go_num, HR⟩
 case round =>
 clear HR
 obtain ⟨j, v3, hj2, hj1, rfl, HR⟩ := hrel
 obtain ⟨ga3, gc3, ge3⟩ := HR.out.o3.form
 generalize hgn3 : (dsR j).length = gn3 at ge3
 subst ge3
 have hbz := HR.out.bz
 by_cases hlt3 : j < m2 ∧ j < many
 ·obtain ⟨hlt3a, hlt3b⟩ := hlt3
  have hk2 : (dsR j).length ≤ 900000000 := by rw [dsR_len]; omega
  have cG := blk_cell HR.out.gb 2
  have fG := blk_frozen HR.out.gb 2
  simp only [lPa, lPb, lPc] at cG
  have hlG := blk_lt HR.out.gb
  clear hgn3
  go_wp2_with (first | (go_at_call 48; refine (P2.out _).mono ?_; rintro e wq ⟨rfl, rfl⟩) | (at_builtin; refine wpList_app1 (α := Int) (j : Int) rfl _ _ rfl rfl HR.out.o3 rfl hk2 hbz ?_; intro v' w' g1 g2 g3; obtain ⟨a', c', e'⟩ := g1.form; generalize (dsR j ++ [((j : Int) : Int)]).length = nq at e'; subst e'; have hGb := g2.blk HR.out.gb (own_far HR.out.o3 HR.out.gb (by decide)); have cG2 := blk_cell hGb 2; have fG2 := blk_frozen hGb 2; simp only [lPa, lPb, lPc] at cG2; have hlG2 := blk_lt hGb; have H1 := yy (HR.out.put3 g1 g2); clear g1 g2 g3 hGb))
  go_roundw
  case rel => first | exact ⟨j + 1, by omega, by omega, _, by omega, H1⟩ | exact ⟨j + 1, _, by omega, by omega, by go_num, H1⟩ | trace_state
  case measure => simp [intOf]; omega
 have cG := blk_cell HR.out.gb
 have u0 := cG 0
 have u1 := cG 1
 have u2 := cG 2
 have cT := blk_cell HR.out.tb
 have t0 := cT 0
 have t1 := cT 1
 have t2 := cT 2
 have fT := blk_frozen HR.out.tb
 have f0 := fT 0
 have f1 := fT 1
 have f2 := fT 2
 simp only [lPa, lPb, lPc] at u0 u1 u2 t0 t1 t2
 have hlG := blk_lt HR.out.gb
 have hlT := blk_lt HR.out.tb
 have B5 := yy (set3 HR.out.tb (.slice ga1 gn1 gc1) (.slice ga2 gn2 gc2) (.slice ga3 gn3 gc3))
 have K5 := yy (kept3 HR.out.gro (.inr (Nat.le_refl _)) (.slice ga1 gn1 gc1) (.slice ga2 gn2 gc2) (.slice ga3 gn3 gc3))
 have kk := kept3 (F := (· = w.heap.size)) (Kept.refl (· = w.heap.size) wr) (.inl rfl) (.slice ga1 gn1 gc1) (.slice ga2 gn2 gc2) (.slice ga3 gn3 gc3)
 have V1 := yy ((HR.out.o1.far kk HR.out.tb (by decide)).lv (by rw [vsR_len]; omega))
 have V2 := yy ((HR.out.o2.far kk HR.out.tb (by decide)).lv (by omega))
 have V3 := yy ((HR.out.o3.far kk HR.out.tb (by decide)).lv (by rw [dsR_len]; omega))
 have HVG := yy (roads_VG (many := many) (d := j) (by omega) (by omega) HES.out hel9 hj1 (by omega))
 clear cG cT fT kk
 by_cases h3a : j < m2
 ·have h3b : ¬ j < many := fun h => hlt3 ⟨h3a, h⟩
  go_wp2_with (go_at_call 48; refine (P2.out _).mono ?_; rintro e wq ⟨rfl, rfl⟩)
  refine bodyPost_ret (results_cell_row (p := 4) (ty := 38) rfl _ _ w.heap.size 38 _ (0, 0) _ rfl B5.out Tryz.underlying38 rfl (by kernel_rfl)) rfl ⟨_, ⟨vsR many, es, dsR j⟩, rfl, ⟨_, _, _, rfl, V1.out, V2.out, V3.out⟩, HVG.out, ?_, ?_, K5.out⟩
  ·intro x hx
   obtain ⟨_, _, rfl⟩ := mem_vsR.1 hx
   rfl
  show 0 < (vsR many).length
  rw [vsR_len]; omega
 go_wp2_with (go_at_call 48; refine (P2.out _).mono ?_; rintro e wq ⟨rfl, rfl⟩)
 refine bodyPost_ret (results_cell_row (p := 4) (ty := 38) rfl _ _ w.heap.size 38 _ (0, 0) _ rfl B5.out Tryz.underlying38 rfl (by kernel_rfl)) rfl ⟨_, ⟨vsR many, es, dsR j⟩, rfl, ⟨_, _, _, rfl, V1.out, V2.out, V3.out⟩, HVG.out, ?_, ?_, K5.out⟩
 ·intro x hx
  obtain ⟨_, _, rfl⟩ := mem_vsR.1 hx
  rfl
 show 0 < (vsR many).length
 rw [vsR_len]; omega
end Go.Proofs.YthfagcdjbmhhcaaGreat
namespace Go.Proofs.YthfagcdjbmhhcaaGreat
open Go.RowKit
section
variable {P : Program} {ops : Array Oper} {Q : Exit → Act → World → Prop} {md : Region.Mode} {S : World → Prop} {m : Nat}
def anyM (P : Program) (md : Region.Mode) (ops : Array Oper) (Q : Exit → Act → World → Prop) (S : World → Prop) (m : Nat) : Nat → Array Bool → Act → World → Prop
 | 0, l, a, w => Region.ready md ops l = [] ∧ Q .normal a w
 | n + 1, l, a, w => (Region.ready md ops l = [] → Q .normal a w) ∧
   ∀ j ∈ Region.ready md ops l, wpOp P ops Q j (fun a' w' => (j ≠ m → l.getD m true = false → S w') ∧ anyM P md ops Q S m n (l.setIfInBounds j true) a' w') a w
theorem anyM_any : ∀ (n : Nat) (l : Array Bool) (a : Act) (w : World), anyM P md ops Q S m n l a w → wpAny P md ops Q n l a w
 | 0, _, _, _, h => h
 | n + 1, _, _, _, h => ⟨h.1, fun j hj => wpOp_mono (fun a' w' h' => anyM_any n _ a' w' h'.2) (h.2 j hj)⟩
theorem anyM_begin {id : Nat} {a : Act} {w : World} (m : Nat) (S : World → Prop) (hm : P.follows .mixedOrders = true) (h : anyM P .any ops Q S m ops.size (Array.replicate ops.size false) a w.drew) : (Code.region id ops true).wp P Q a w :=
 wp_region_any hm (anyM_any _ _ _ _ h)
theorem anyM_first {i : Nat} {oi : Oper} {v : Value} (hi : ops[i]? = some oi) (hsel : ∀ (j : Nat) (o : Oper) cs b, ops[j]? = some o → o.op ≠ .select cs b)
  (hQ : ∀ c a w, Q (.panic c) (a.put oi.dst v) w → Q (.panic c) a w) (hw : waits md ops m i = true) :
  ∀ (n : Nat) (l : Array Bool) (a : Act) (w : World), l.getD m true = false →
   (∀ j oj, ops[j]? = some oj → j ≠ i → l.getD j true = false → (∀ e ∈ oj.after, Region.binds md e = true → e.on ≠ i) → oi.apart ops oj = true) →
   i ∈ Region.ready md ops l → YieldsIf P ops S oi v a → S w → anyM P md ops Q S m n (l.setIfInBounds i true) (a.put oi.dst v) w → anyM P md ops Q S m (n + 1) l a w := by
 intro n
 induction n with
 | zero =>
  intro l a w _ _ hr hy hS H
  refine ⟨fun h => (by rw [h] at hr; cases hr), fun j hj => ?_⟩
  rcases Decidable.em (j = i) with e | e
  ·subst e
   exact hy.wpOp hi hS ⟨fun _ _ => hS, H⟩
  ·have := ready_mono hj e
   rw [H.1] at this
   cases this
 | succ n ih =>
  intro l a w hm0 hfree hr hy hS H
  refine ⟨fun h => (by rw [h] at hr; cases hr), fun j hj => ?_⟩
  rcases Decidable.em (j = i) with e | hji
  ·subst e
   exact hy.wpOp hi hS ⟨fun _ _ => hS, H⟩
  have hjm : j ≠ m := fun e => waits_not hw hr (e ▸ hj)
  have him : i ≠ m := fun e => waits_not hw hr (e ▸ hr)
  have hm1 : (l.setIfInBounds i true).getD m true = false := by rw [getD_set_ne true him]; exact hm0
  have hm2 : (l.setIfInBounds j true).getD m true = false := by rw [getD_set_ne true hjm]; exact hm0
  obtain ⟨hjun, oj, hoj, hall⟩ := mem_ready.1 hj
  have hnot : ∀ e ∈ oj.after, Region.binds md e = true → e.on ≠ i := by
   intro e he hb heq
   have h1 := hall e he hb
   have h0 := (mem_ready.1 hr).1
   rw [heq] at h1
   by_cases h' : i < l.size
   ·simp [h'] at h0 h1; rw [h0] at h1; cases h1
   ·simp [Array.getElem?_eq_none (Nat.le_of_not_lt h')] at h1
  have h2 := wpOp_putIf hoj (hfree j oj hoj hji hjun hnot) (fun cs b => hsel i oi cs b hi) (fun cs b => hsel j oj cs b hoj) hQ hy (H.2 j (ready_mono hj hji))
  refine wpOp_mono (fun a' w' h3 => ?_) h2
  have hri : i ∈ Region.ready md ops (l.setIfInBounds j true) := ready_mono hr (Ne.symm hji)
  exact ⟨fun a b => h3.2.1 a hm1, ih _ a' w' hm2 (fun k ok hk hki hun hno => hfree k ok hk hki (by
     rcases Decidable.em (j = k) with e | e
     ·subst e; exact hjun
     ·rw [getD_set_ne true e] at hun; exact hun) hno) hri h3.1 (h3.2.1 hjm hm1) (by rw [Array.setIfInBounds_comm _ _ hji]; exact h3.2.2)⟩
theorem anyM_firstY {i : Nat} {oi : Oper} {v : Value} (hi : ops[i]? = some oi) (hsel : ∀ (j : Nat) (o : Oper) cs b, ops[j]? = some o → o.op ≠ .select cs b)
  (hQ : ∀ c a w, Q (.panic c) (a.put oi.dst v) w → Q (.panic c) a w) (him : i ≠ m) (hms : m < ops.size) :
  ∀ (n : Nat) (l : Array Bool) (a : Act) (w : World), (l.getD m true = false → S w) →
   (∀ j oj, ops[j]? = some oj → j ≠ i → l.getD j true = false → (∀ e ∈ oj.after, Region.binds md e = true → e.on ≠ i) → oi.apart ops oj = true) →
   i ∈ Region.ready md ops l → YieldsIf P ops (fun _ => True) oi v a → anyM P md ops Q S m n (l.setIfInBounds i true) (a.put oi.dst v) w → anyM P md ops Q S m (n + 1) l a w := by
 intro n
 induction n with
 | zero =>
  intro l a w hS _ hr hy H
  refine ⟨fun h => (by rw [h] at hr; cases hr), fun j hj => ?_⟩
  rcases Decidable.em (j = i) with e | e
  ·subst e
   exact hy.wpOp hi trivial ⟨fun _ h => hS h, H⟩
  ·have := ready_mono hj e
   rw [H.1] at this
   cases this
 | succ n ih =>
  intro l a w hS hfree hr hy H
  refine ⟨fun h => (by rw [h] at hr; cases hr), fun j hj => ?_⟩
  rcases Decidable.em (j = i) with e | hji
  ·subst e
   exact hy.wpOp hi trivial ⟨fun _ h => hS h, H⟩
  have hmi : (l.setIfInBounds i true).getD m true = l.getD m true := getD_set_ne true him
  obtain ⟨hjun, oj, hoj, hall⟩ := mem_ready.1 hj
  have hnot : ∀ e ∈ oj.after, Region.binds md e = true → e.on ≠ i := by
   intro e he hb heq
   have h1 := hall e he hb
   have h0 := (mem_ready.1 hr).1
   rw [heq] at h1
   by_cases h' : i < l.size
   ·simp [h'] at h0 h1; rw [h0] at h1; cases h1
   ·simp [Array.getElem?_eq_none (Nat.le_of_not_lt h')] at h1
  have h2 := wpOp_putIf hoj (hfree j oj hoj hji hjun hnot) (fun cs b => hsel i oi cs b hi) (fun cs b => hsel j oj cs b hoj) hQ hy (H.2 j (ready_mono hj hji))
  refine wpOp_mono (fun a' w' h3 => ?_) h2
  have hri : i ∈ Region.ready md ops (l.setIfInBounds j true) := ready_mono hr (Ne.symm hji)
  refine ⟨fun a b => h3.2.1 a (by rw [hmi]; exact b), ih _ a' w' (fun hm2 => ?_) (fun k ok hk hki hun hno => hfree k ok hk hki (by
     rcases Decidable.em (j = k) with e | e
     ·subst e; exact hjun
     ·rw [getD_set_ne true e] at hun; exact hun) hno) hri h3.1 (by rw [Array.setIfInBounds_comm _ _ hji]; exact h3.2.2)⟩
  rcases Decidable.em (j = m) with e | hjm
  ·subst e
   exfalso
   by_cases h' : j < l.size
   ·simp [h'] at hm2
   ·simp [Array.getElem?_eq_none (Nat.le_of_not_lt h'), h'] at hm2
  ·rw [getD_set_ne true hjm] at hm2
   exact h3.2.1 hjm (by rw [hmi]; exact hm2)
/-- an operation whose value hangs on no world -/
theorem anyM_takeY {i : Nat} {oi : Oper} {v : Value} {n : Nat} {l : Array Bool} {a : Act} {w : World} (hi : ops[i]? = some oi) (hs : Region.noSelect ops = true) (hf : Region.free md ops l i = true) (hr : (Region.ready md ops l).contains i = true)
  (him : i ≠ m) (hms : m < ops.size) (hQ : ∀ c a w, Q (.panic c) (a.put oi.dst v) w → Q (.panic c) a w) (hy : YieldsIf P ops (fun _ => True) oi v a) (hS : S w)
  (h : anyM P md ops Q S m n (l.setIfInBounds i true) (a.put oi.dst v) w) : anyM P md ops Q S m (n + 1) l a w :=
 anyM_firstY hi (Region.noSelect_spec hs) hQ him hms n l a w (fun _ => hS) (Region.free_spec hi hf) (by simpa using hr) hy h
theorem anyM_take {i : Nat} {oi : Oper} {v : Value} {n : Nat} {l : Array Bool} {a : Act} {w : World} (hi : ops[i]? = some oi) (hs : Region.noSelect ops = true) (hf : Region.free md ops l i = true) (hr : (Region.ready md ops l).contains i = true)
  (hw : waits md ops m i = true) (hm : l.getD m true = false) (hQ : ∀ c a w, Q (.panic c) (a.put oi.dst v) w → Q (.panic c) a w) (hy : YieldsIf P ops S oi v a) (hS : S w)
  (h : anyM P md ops Q S m n (l.setIfInBounds i true) (a.put oi.dst v) w) : anyM P md ops Q S m (n + 1) l a w :=
 anyM_first hi (Region.noSelect_spec hs) hQ hw n l a w hm (Region.free_spec hi hf) (by simpa using hr) hy hS h
theorem anyM_one {i : Nat} {o : Oper} {n : Nat} {l : Array Bool} {a : Act} {w : World} (hr : Region.ready md ops l = [i]) (ho : ops[i]? = some o)
  (h : ∀ K : Act → World → Prop, Shut (∀ a w, (i ≠ m → l.getD m true = false → S w) → anyM P md ops Q S m n (l.setIfInBounds i true) a w → K a w) → if Region.wanted o (yielded ops a.tmps) = true then Oper.wp P o a w K Q else K (a.put o.dst undef) w) :
  anyM P md ops Q S m (n + 1) l a w := by
 refine ⟨fun h0 => (by rw [hr] at h0; cases h0), fun j hj => ?_⟩
 rw [hr, List.mem_singleton] at hj
 subst hj
 exact wpOp_step ho (fun K hK => h K (fun a w h1 h2 => hK a w ⟨h1, h2⟩))
theorem anyM_done {n : Nat} {l : Array Bool} {a : Act} {w : World} (hr : Region.ready md ops l = []) (h : Q .normal a w) : anyM P md ops Q S m n l a w := by
 cases n with
 | zero => exact ⟨hr, h⟩
 | succ n => exact ⟨fun _ => h, by rw [hr]; simp⟩
end
end Go.Proofs.YthfagcdjbmhhcaaGreat
