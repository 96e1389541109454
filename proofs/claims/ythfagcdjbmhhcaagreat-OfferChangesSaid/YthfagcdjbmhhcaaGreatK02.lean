/- Keys of elements, and whether they ascend. -/
import Derived.Test.YthfagcdjbmhhcaaGreatK01
set_option linter.unusedVariables false
set_option linter.unusedSimpArgs false
namespace Go.Proofs.YthfagcdjbmhhcaaGreat
open Go.RowKit
theorem pair_of_adj {l : List Int} (h : ∀ i (h : i + 1 < l.length), l[i] < l[i + 1]) : l.Pairwise (· < ·) := by
 induction l with
 | nil => exact List.Pairwise.nil
 | cons a l ih =>
  have h1 := ih (fun i hi => by
   have h2 := h (i + 1) (by simpa using hi)
   simpa only [List.getElem_cons_succ] using h2)
  refine List.pairwise_cons.2 ⟨fun b hb => ?_, h1⟩
  obtain ⟨j, hj, rfl⟩ := List.getElem_of_mem hb
  cases l with
  | nil => simp at hj
  | cons c l =>
   have h0 : a < c := by simpa using h 0 (by simp)
   cases j with
   | zero => exact h0
   | succ j =>
    have := (List.pairwise_cons.1 h1).1 _ (List.getElem_mem (by simpa using hj : j < l.length))
    simp only [List.getElem_cons_succ]
    omega
theorem adj_of_pair {l : List Int} (h : l.Pairwise (· < ·)) (i : Nat) (hi : i + 1 < l.length) : l[i] < l[i + 1] := List.pairwise_iff_getElem.1 h i (i + 1) (by omega) hi (by omega)
theorem mixed : Tryz.prog.follows .mixedOrders = true := by kernel_rfl
theorem key89 (x : Vtx) (w : World) : Calls Tryz.prog 89 #[.agg #[.int .i64 x.id, .int .i64 x.side]] w fun e w' => e = .returned (.int .i64 x.id) ∧ Gro w w' := by
 go_enter Tryz.func89, Tryz.ntmps89
 go_wp2
 go_ret
 exact ⟨rfl, (Kept.refl _ _).alloc _⟩
theorem key91 (x : Edg) (w : World) : Calls Tryz.prog 91 #[.agg #[.int .i64 x.id, .int .i64 x.src, .int .i64 x.dst, .bool x.dir, .int .i64 x.weight, .int .i64 x.cap]] w fun e w' => e = .returned (.int .i64 x.id) ∧ Gro w w' := by
 go_enter Tryz.func91, Tryz.ntmps91
 go_wp2
 go_ret
 exact ⟨rfl, (Kept.refl _ _).alloc _⟩
theorem key138 (x : Int) (w : World) : Calls Tryz.prog 138 #[.int .i64 x] w fun e w' => e = .returned (.int .i64 x) ∧ Gro w w' := by
 go_enter Tryz.func138, Tryz.ntmps138
 go_wp2
 go_ret
 exact ⟨rfl, Kept.refl _ _⟩
theorem key126 (x : Vtx) (w : World) : Calls Tryz.prog 126 #[.agg #[.int .i64 x.id, .int .i64 x.side]] w fun e w' => e = .returned (.int .i64 x.id) ∧ Gro w w' := by
 go_enter Tryz.func126, Tryz.ntmps126
 go_wp2
 go_ret
 exact ⟨rfl, (Kept.refl _ _).alloc _⟩
theorem key129 (x : Edg) (w : World) : Calls Tryz.prog 129 #[.agg #[.int .i64 x.id, .int .i64 x.src, .int .i64 x.dst, .bool x.dir, .int .i64 x.weight, .int .i64 x.cap]] w fun e w' => e = .returned (.int .i64 x.id) ∧ Gro w w' := by
 go_enter Tryz.func129, Tryz.ntmps129
 go_wp2
 go_ret
 exact ⟨rfl, (Kept.refl _ _).alloc _⟩
theorem key64 (x : Ofr) (w : World) : Calls Tryz.prog 64 #[.agg #[.int .i64 x.id, .int .i64 x.party, .int .i64 x.side, .int .i64 x.place, .int .i64 x.price, .int .i64 x.until_, .int .i64 x.state]] w fun e w' => e = .returned (.int .i64 x.id) ∧ Gro w w' := by
 go_enter Tryz.func64, Tryz.ntmps64
 go_wp2
 go_ret
 exact ⟨rfl, (Kept.refl _ _).alloc _⟩
theorem key154 (x : Pty) (w : World) : Calls Tryz.prog 154 #[.agg #[.int .i64 x.id, .int .i64 x.budget]] w fun e w' => e = .returned (.int .i64 x.id) ∧ Gro w w' := by
 go_enter Tryz.func154, Tryz.ntmps154
 go_wp2
 go_ret
 exact ⟨rfl, (Kept.refl _ _).alloc _⟩
theorem key75 (x : Wsh) (w : World) : Calls Tryz.prog 75 #[.agg #[.int .i64 x.edge, .int .i64 x.src, .int .i64 x.dst, .int .i64 x.weight]] w fun e w' => e = .returned (.int .i64 x.edge) ∧ Gro w w' := by
 go_enter Tryz.func75, Tryz.ntmps75
 go_wp2
 go_ret
 exact ⟨rfl, (Kept.refl _ _).alloc _⟩
theorem key82 (x : Int) (w : World) : Calls Tryz.prog 82 #[.int .i64 x] w fun e w' => e = .returned (.int .i64 x) ∧ Gro w w' := by
 go_enter Tryz.func82, Tryz.ntmps82
 go_wp2
 go_ret
 exact ⟨rfl, Kept.refl _ _⟩
set_option maxHeartbeats 1000000 in
theorem asc88 {w : World} {a : Option Addr} {n c : Nat} {l : List Vtx} (h : Lst w a n c l) (hfew : l.length ≤ 4611686018427387904) :
  Calls Tryz.prog 88 #[.slice a n c, .func (.func 89) #[] #[]] w fun e w' => e = .returned (.bool (asc (l.map Vtx.id))) ∧ Gro w w' := by
 obtain ⟨rfl, hcap, hbig, hat⟩ := h
 have HA := yy hat
 clear hat
 go_enter Tryz.func88, Tryz.ntmps88
 go_wp2
 go_loopw [5] (fun t wr => ∃ k : Nat, 1 ≤ k ∧ t = .int .i64 k ∧ Gro w wr ∧ ∀ i (h : i + 1 < l.length), i + 1 < k → l[i].id < l[i + 1].id) (fun t _ => l.length + 1 - (intOf t).toNat)
 case atStart => exact ⟨1, Nat.le_refl _, by go_num, Kept.refl _ _, fun i _ h => by omega⟩
 case round =>
 obtain ⟨k, hk, rfl, hg, hlt⟩ := hrel
 have HG := yy hg
 have HL := yy hlt
 clear hg hlt
 by_cases hkl : k < l.length
 ·obtain ⟨j, rfl⟩ : ∃ j, k = j + 1 := ⟨k - 1, by omega⟩
  have hjl : j < l.length := by omega
  obtain ⟨b, off, rfl, hb, hc⟩ := Lst.base ⟨rfl, hcap, hbig, HA.out⟩ hkl
  have hc' := fun i v hv => HG.out.cell (hc i v hv)
  obtain ⟨c0, c1⟩ := vcells hc' hjl
  obtain ⟨d0, d1⟩ := vcells hc' hkl
  have HC := yy hc
  clear hc hc'
  have e0 := gcell c0; have g0 := gcell d0
  have e1 := gcell c1; have g1 := gcell d1
  clear c0 c1 d0 d1
  generalize hp : l[j] = p at e0 e1
  generalize hq : l[j + 1] = q at g0 g1
  have HP := yy hp
  have HQ := yy hq
  clear hp hq
  have hwj : IntKind.i64.wrap (j : Int) = j := by rw [IntKind.wrap_i64]; omega
  have hj0 : (0 : Int) ≤ (j : Int) + 1 := by omega
  have hmix := mixed
  go_wp2_with fail
  go_quiet_grown (refine Calls.quiet_gro (key89 _ _))
  by_cases hd : p.id < q.id
  ·go_wp2
   go_roundw
   case rel => exact ⟨j + 2, by omega, by go_num, HG.out.trans (gro_of_grow _ _ _), fun i h hi => by
    by_cases e : i = j
    ·subst e; rw [HP.out, HQ.out]; exact hd
    exact HL.out i h (by omega)⟩
   case measure => simp [intOf]; omega
  have hf : asc (l.map Vtx.id) = false := by
   rw [← Bool.not_eq_true, asc_iff]
   intro hh
   have := adj_of_pair hh j (by simpa using hkl)
   simp only [List.getElem_map, HP.out, HQ.out] at this
   exact hd this
  have HF := yy hf
  clear hf
  go_wp2
  go_ret
  exact ⟨by rw [HF.out]; rfl, HG.out.trans (gro_of_grow _ _ _)⟩
 have ht : asc (l.map Vtx.id) = true := by
  rw [asc_iff]
  refine pair_of_adj fun i hi => ?_
  simp only [List.length_map] at hi
  simp only [List.getElem_map]
  exact HL.out i hi (by omega)
 have HT := yy ht
 clear ht
 go_wp2
 go_ret
 exact ⟨by rw [HT.out]; rfl, HG.out⟩
set_option maxHeartbeats 1000000 in
theorem asc90 {w : World} {a : Option Addr} {n c : Nat} {l : List Edg} (h : Lst w a n c l) (hfew : l.length ≤ 4611686018427387904) :
  Calls Tryz.prog 90 #[.slice a n c, .func (.func 91) #[] #[]] w fun e w' => e = .returned (.bool (asc (l.map Edg.id))) ∧ Gro w w' := by
 obtain ⟨rfl, hcap, hbig, hat⟩ := h
 have HA := yy hat
 clear hat
 go_enter Tryz.func90, Tryz.ntmps90
 go_wp2
 go_loopw [5] (fun t wr => ∃ k : Nat, 1 ≤ k ∧ t = .int .i64 k ∧ Gro w wr ∧ ∀ i (h : i + 1 < l.length), i + 1 < k → l[i].id < l[i + 1].id) (fun t _ => l.length + 1 - (intOf t).toNat)
 case atStart => exact ⟨1, Nat.le_refl _, by go_num, Kept.refl _ _, fun i _ h => by omega⟩
 case round =>
 obtain ⟨k, hk, rfl, hg, hlt⟩ := hrel
 have HG := yy hg
 have HL := yy hlt
 clear hg hlt
 by_cases hkl : k < l.length
 ·obtain ⟨j, rfl⟩ : ∃ j, k = j + 1 := ⟨k - 1, by omega⟩
  have hjl : j < l.length := by omega
  obtain ⟨b, off, rfl, hb, hc⟩ := Lst.base ⟨rfl, hcap, hbig, HA.out⟩ hkl
  have hc' := fun i v hv => HG.out.cell (hc i v hv)
  obtain ⟨c0, c1, c2, c3, c4, c5⟩ := ecells hc' hjl
  obtain ⟨d0, d1, d2, d3, d4, d5⟩ := ecells hc' hkl
  have HC := yy hc
  clear hc hc'
  have e0 := gcell c0; have g0 := gcell d0
  have e1 := gcell c1; have g1 := gcell d1
  have e2 := gcell c2; have g2 := gcell d2
  have e3 := gcell c3; have g3 := gcell d3
  have e4 := gcell c4; have g4 := gcell d4
  have e5 := gcell c5; have g5 := gcell d5
  clear c0 c1 c2 c3 c4 c5 d0 d1 d2 d3 d4 d5
  generalize hp : l[j] = p at e0 e1 e2 e3 e4 e5
  generalize hq : l[j + 1] = q at g0 g1 g2 g3 g4 g5
  have HP := yy hp
  have HQ := yy hq
  clear hp hq
  have hwj : IntKind.i64.wrap (j : Int) = j := by rw [IntKind.wrap_i64]; omega
  have hj0 : (0 : Int) ≤ (j : Int) + 1 := by omega
  have hmix := mixed
  go_wp2_with fail
  go_quiet_grown (refine Calls.quiet_gro (key91 _ _))
  by_cases hd : p.id < q.id
  ·go_wp2
   go_roundw
   case rel => exact ⟨j + 2, by omega, by go_num, HG.out.trans (gro_of_grow _ _ _), fun i h hi => by
    by_cases e : i = j
    ·subst e; rw [HP.out, HQ.out]; exact hd
    exact HL.out i h (by omega)⟩
   case measure => simp [intOf]; omega
  have hf : asc (l.map Edg.id) = false := by
   rw [← Bool.not_eq_true, asc_iff]
   intro hh
   have := adj_of_pair hh j (by simpa using hkl)
   simp only [List.getElem_map, HP.out, HQ.out] at this
   exact hd this
  have HF := yy hf
  clear hf
  go_wp2
  go_ret
  exact ⟨by rw [HF.out]; rfl, HG.out.trans (gro_of_grow _ _ _)⟩
 have ht : asc (l.map Edg.id) = true := by
  rw [asc_iff]
  refine pair_of_adj fun i hi => ?_
  simp only [List.length_map] at hi
  simp only [List.getElem_map]
  exact HL.out i hi (by omega)
 have HT := yy ht
 clear ht
 go_wp2
 go_ret
 exact ⟨by rw [HT.out]; rfl, HG.out⟩
set_option maxHeartbeats 1000000 in
theorem asc137 {w : World} {a : Option Addr} {n c : Nat} {l : List Int} (h : Lst w a n c l) (hfew : l.length ≤ 4611686018427387904) :
  Calls Tryz.prog 137 #[.slice a n c, .func (.func 138) #[] #[]] w fun e w' => e = .returned (.bool (asc (l))) ∧ Gro w w' := by
 obtain ⟨rfl, hcap, hbig, hat⟩ := h
 have HA := yy hat
 clear hat
 go_enter Tryz.func137, Tryz.ntmps137
 go_wp2
 go_loopw [5] (fun t wr => ∃ k : Nat, 1 ≤ k ∧ t = .int .i64 k ∧ Gro w wr ∧ ∀ i (h : i + 1 < l.length), i + 1 < k → l[i] < l[i + 1]) (fun t _ => l.length + 1 - (intOf t).toNat)
 case atStart => exact ⟨1, Nat.le_refl _, by go_num, Kept.refl _ _, fun i _ h => by omega⟩
 case round =>
 obtain ⟨k, hk, rfl, hg, hlt⟩ := hrel
 have HG := yy hg
 have HL := yy hlt
 clear hg hlt
 by_cases hkl : k < l.length
 ·obtain ⟨j, rfl⟩ : ∃ j, k = j + 1 := ⟨k - 1, by omega⟩
  have hjl : j < l.length := by omega
  obtain ⟨b, off, rfl, hb, hc⟩ := Lst.base ⟨rfl, hcap, hbig, HA.out⟩ hkl
  have hc' := fun i v hv => HG.out.cell (hc i v hv)
  obtain c0 := icells hc' hjl
  obtain d0 := icells hc' hkl
  have HC := yy hc
  clear hc hc'
  have e0 := gcell c0; have g0 := gcell d0
  clear c0 d0
  generalize hp : l[j] = p at e0
  generalize hq : l[j + 1] = q at g0
  have HP := yy hp
  have HQ := yy hq
  clear hp hq
  have hwj : IntKind.i64.wrap (j : Int) = j := by rw [IntKind.wrap_i64]; omega
  have hj0 : (0 : Int) ≤ (j : Int) + 1 := by omega
  have hmix := mixed
  go_wp2_with fail
  go_quiet_grown (refine Calls.quiet_gro (key138 _ _))
  by_cases hd : p < q
  ·go_wp2
   go_roundw
   case rel => exact ⟨j + 2, by omega, by go_num, HG.out.trans (gro_of_grow _ _ _), fun i h hi => by
    by_cases e : i = j
    ·subst e; rw [HP.out, HQ.out]; exact hd
    exact HL.out i h (by omega)⟩
   case measure => simp [intOf]; omega
  have hf : asc (l) = false := by
   rw [← Bool.not_eq_true, asc_iff]
   intro hh
   have := adj_of_pair hh j (by simpa using hkl)
   simp only [HP.out, HQ.out] at this
   exact hd this
  have HF := yy hf
  clear hf
  go_wp2
  go_ret
  exact ⟨by rw [HF.out]; rfl, HG.out.trans (gro_of_grow _ _ _)⟩
 have ht : asc (l) = true := by
  rw [asc_iff]
  refine pair_of_adj fun i hi => ?_
  skip
  skip
  exact HL.out i hi (by omega)
 have HT := yy ht
 clear ht
 go_wp2
 go_ret
 exact ⟨by rw [HT.out]; rfl, HG.out⟩
set_option maxHeartbeats 1000000 in
theorem asc81 {w : World} {a : Option Addr} {n c : Nat} {l : List Int} (h : Lst w a n c l) (hfew : l.length ≤ 4611686018427387904) :
  Calls Tryz.prog 81 #[.slice a n c, .func (.func 82) #[] #[]] w fun e w' => e = .returned (.bool (asc (l))) ∧ Gro w w' := by
 obtain ⟨rfl, hcap, hbig, hat⟩ := h
 have HA := yy hat
 clear hat
 go_enter Tryz.func81, Tryz.ntmps81
 go_wp2
 go_loopw [5] (fun t wr => ∃ k : Nat, 1 ≤ k ∧ t = .int .i64 k ∧ Gro w wr ∧ ∀ i (h : i + 1 < l.length), i + 1 < k → l[i] < l[i + 1]) (fun t _ => l.length + 1 - (intOf t).toNat)
 case atStart => exact ⟨1, Nat.le_refl _, by go_num, Kept.refl _ _, fun i _ h => by omega⟩
 case round =>
 obtain ⟨k, hk, rfl, hg, hlt⟩ := hrel
 have HG := yy hg
 have HL := yy hlt
 clear hg hlt
 by_cases hkl : k < l.length
 ·obtain ⟨j, rfl⟩ : ∃ j, k = j + 1 := ⟨k - 1, by omega⟩
  have hjl : j < l.length := by omega
  obtain ⟨b, off, rfl, hb, hc⟩ := Lst.base ⟨rfl, hcap, hbig, HA.out⟩ hkl
  have hc' := fun i v hv => HG.out.cell (hc i v hv)
  obtain c0 := icells hc' hjl
  obtain d0 := icells hc' hkl
  have HC := yy hc
  clear hc hc'
  have e0 := gcell c0; have g0 := gcell d0
  clear c0 d0
  generalize hp : l[j] = p at e0
  generalize hq : l[j + 1] = q at g0
  have HP := yy hp
  have HQ := yy hq
  clear hp hq
  have hwj : IntKind.i64.wrap (j : Int) = j := by rw [IntKind.wrap_i64]; omega
  have hj0 : (0 : Int) ≤ (j : Int) + 1 := by omega
  have hmix := mixed
  go_wp2_with fail
  go_quiet_grown (refine Calls.quiet_gro (key82 _ _))
  by_cases hd : p < q
  ·go_wp2
   go_roundw
   case rel => exact ⟨j + 2, by omega, by go_num, HG.out.trans (gro_of_grow _ _ _), fun i h hi => by
    by_cases e : i = j
    ·subst e; rw [HP.out, HQ.out]; exact hd
    exact HL.out i h (by omega)⟩
   case measure => simp [intOf]; omega
  have hf : asc (l) = false := by
   rw [← Bool.not_eq_true, asc_iff]
   intro hh
   have := adj_of_pair hh j (by simpa using hkl)
   simp only [HP.out, HQ.out] at this
   exact hd this
  have HF := yy hf
  clear hf
  go_wp2
  go_ret
  exact ⟨by rw [HF.out]; rfl, HG.out.trans (gro_of_grow _ _ _)⟩
 have ht : asc (l) = true := by
  rw [asc_iff]
  refine pair_of_adj fun i hi => ?_
  skip
  skip
  exact HL.out i hi (by omega)
 have HT := yy ht
 clear ht
 go_wp2
 go_ret
 exact ⟨by rw [HT.out]; rfl, HG.out⟩
set_option maxHeartbeats 1000000 in
theorem asc153 {w : World} {a : Option Addr} {n c : Nat} {l : List Pty} (h : Lst w a n c l) (hfew : l.length ≤ 4611686018427387904) :
  Calls Tryz.prog 153 #[.slice a n c, .func (.func 154) #[] #[]] w fun e w' => e = .returned (.bool (asc (l.map Pty.id))) ∧ Gro w w' := by
 obtain ⟨rfl, hcap, hbig, hat⟩ := h
 have HA := yy hat
 clear hat
 go_enter Tryz.func153, Tryz.ntmps153
 go_wp2
 go_loopw [5] (fun t wr => ∃ k : Nat, 1 ≤ k ∧ t = .int .i64 k ∧ Gro w wr ∧ ∀ i (h : i + 1 < l.length), i + 1 < k → l[i].id < l[i + 1].id) (fun t _ => l.length + 1 - (intOf t).toNat)
 case atStart => exact ⟨1, Nat.le_refl _, by go_num, Kept.refl _ _, fun i _ h => by omega⟩
 case round =>
 obtain ⟨k, hk, rfl, hg, hlt⟩ := hrel
 have HG := yy hg
 have HL := yy hlt
 clear hg hlt
 by_cases hkl : k < l.length
 ·obtain ⟨j, rfl⟩ : ∃ j, k = j + 1 := ⟨k - 1, by omega⟩
  have hjl : j < l.length := by omega
  obtain ⟨b, off, rfl, hb, hc⟩ := Lst.base ⟨rfl, hcap, hbig, HA.out⟩ hkl
  have hc' := fun i v hv => HG.out.cell (hc i v hv)
  obtain ⟨c0, c1⟩ := pcells hc' hjl
  obtain ⟨d0, d1⟩ := pcells hc' hkl
  have HC := yy hc
  clear hc hc'
  have e0 := gcell c0; have g0 := gcell d0
  have e1 := gcell c1; have g1 := gcell d1
  clear c0 c1 d0 d1
  generalize hp : l[j] = p at e0 e1
  generalize hq : l[j + 1] = q at g0 g1
  have HP := yy hp
  have HQ := yy hq
  clear hp hq
  have hwj : IntKind.i64.wrap (j : Int) = j := by rw [IntKind.wrap_i64]; omega
  have hj0 : (0 : Int) ≤ (j : Int) + 1 := by omega
  have hmix := mixed
  go_wp2_with fail
  go_quiet_grown (refine Calls.quiet_gro (key154 _ _))
  by_cases hd : p.id < q.id
  ·go_wp2
   go_roundw
   case rel => exact ⟨j + 2, by omega, by go_num, HG.out.trans (gro_of_grow _ _ _), fun i h hi => by
    by_cases e : i = j
    ·subst e; rw [HP.out, HQ.out]; exact hd
    exact HL.out i h (by omega)⟩
   case measure => simp [intOf]; omega
  have hf : asc (l.map Pty.id) = false := by
   rw [← Bool.not_eq_true, asc_iff]
   intro hh
   have := adj_of_pair hh j (by simpa using hkl)
   simp only [List.getElem_map, HP.out, HQ.out] at this
   exact hd this
  have HF := yy hf
  clear hf
  go_wp2
  go_ret
  exact ⟨by rw [HF.out]; rfl, HG.out.trans (gro_of_grow _ _ _)⟩
 have ht : asc (l.map Pty.id) = true := by
  rw [asc_iff]
  refine pair_of_adj fun i hi => ?_
  simp only [List.length_map] at hi
  simp only [List.getElem_map]
  exact HL.out i hi (by omega)
 have HT := yy ht
 clear ht
 go_wp2
 go_ret
 exact ⟨by rw [HT.out]; rfl, HG.out⟩
set_option maxHeartbeats 1000000 in
theorem asc156 {w : World} {a : Option Addr} {n c : Nat} {l : List Ofr} (h : Lst w a n c l) (hfew : l.length ≤ 4611686018427387904) :
  Calls Tryz.prog 156 #[.slice a n c, .func (.func 64) #[] #[]] w fun e w' => e = .returned (.bool (asc (l.map Ofr.id))) ∧ Gro w w' := by
 obtain ⟨rfl, hcap, hbig, hat⟩ := h
 have HA := yy hat
 clear hat
 go_enter Tryz.func156, Tryz.ntmps156
 go_wp2
 go_loopw [5] (fun t wr => ∃ k : Nat, 1 ≤ k ∧ t = .int .i64 k ∧ Gro w wr ∧ ∀ i (h : i + 1 < l.length), i + 1 < k → l[i].id < l[i + 1].id) (fun t _ => l.length + 1 - (intOf t).toNat)
 case atStart => exact ⟨1, Nat.le_refl _, by go_num, Kept.refl _ _, fun i _ h => by omega⟩
 case round =>
 obtain ⟨k, hk, rfl, hg, hlt⟩ := hrel
 have HG := yy hg
 have HL := yy hlt
 clear hg hlt
 by_cases hkl : k < l.length
 ·obtain ⟨j, rfl⟩ : ∃ j, k = j + 1 := ⟨k - 1, by omega⟩
  have hjl : j < l.length := by omega
  obtain ⟨b, off, rfl, hb, hc⟩ := Lst.base ⟨rfl, hcap, hbig, HA.out⟩ hkl
  have hc' := fun i v hv => HG.out.cell (hc i v hv)
  obtain ⟨c0, c1, c2, c3, c4, c5, c6⟩ := ocells hc' hjl
  obtain ⟨d0, d1, d2, d3, d4, d5, d6⟩ := ocells hc' hkl
  have HC := yy hc
  clear hc hc'
  have e0 := gcell c0; have g0 := gcell d0
  have e1 := gcell c1; have g1 := gcell d1
  have e2 := gcell c2; have g2 := gcell d2
  have e3 := gcell c3; have g3 := gcell d3
  have e4 := gcell c4; have g4 := gcell d4
  have e5 := gcell c5; have g5 := gcell d5
  have e6 := gcell c6; have g6 := gcell d6
  clear c0 c1 c2 c3 c4 c5 c6 d0 d1 d2 d3 d4 d5 d6
  generalize hp : l[j] = p at e0 e1 e2 e3 e4 e5 e6
  generalize hq : l[j + 1] = q at g0 g1 g2 g3 g4 g5 g6
  have HP := yy hp
  have HQ := yy hq
  clear hp hq
  have hwj : IntKind.i64.wrap (j : Int) = j := by rw [IntKind.wrap_i64]; omega
  have hj0 : (0 : Int) ≤ (j : Int) + 1 := by omega
  have hmix := mixed
  go_wp2_with fail
  go_quiet_grown (refine Calls.quiet_gro (key64 _ _))
  by_cases hd : p.id < q.id
  ·go_wp2
   go_roundw
   case rel => exact ⟨j + 2, by omega, by go_num, HG.out.trans (gro_of_grow _ _ _), fun i h hi => by
    by_cases e : i = j
    ·subst e; rw [HP.out, HQ.out]; exact hd
    exact HL.out i h (by omega)⟩
   case measure => simp [intOf]; omega
  have hf : asc (l.map Ofr.id) = false := by
   rw [← Bool.not_eq_true, asc_iff]
   intro hh
   have := adj_of_pair hh j (by simpa using hkl)
   simp only [List.getElem_map, HP.out, HQ.out] at this
   exact hd this
  have HF := yy hf
  clear hf
  go_wp2
  go_ret
  exact ⟨by rw [HF.out]; rfl, HG.out.trans (gro_of_grow _ _ _)⟩
 have ht : asc (l.map Ofr.id) = true := by
  rw [asc_iff]
  refine pair_of_adj fun i hi => ?_
  simp only [List.length_map] at hi
  simp only [List.getElem_map]
  exact HL.out i hi (by omega)
 have HT := yy ht
 clear ht
 go_wp2
 go_ret
 exact ⟨by rw [HT.out]; rfl, HG.out⟩
set_option maxHeartbeats 1000000 in
theorem asc163 {w : World} {a : Option Addr} {n c : Nat} {l : List Wsh} (h : Lst w a n c l) (hfew : l.length ≤ 4611686018427387904) :
  Calls Tryz.prog 163 #[.slice a n c, .func (.func 75) #[] #[]] w fun e w' => e = .returned (.bool (asc (l.map Wsh.edge))) ∧ Gro w w' := by
 obtain ⟨rfl, hcap, hbig, hat⟩ := h
 have HA := yy hat
 clear hat
 go_enter Tryz.func163, Tryz.ntmps163
 go_wp2
 go_loopw [5] (fun t wr => ∃ k : Nat, 1 ≤ k ∧ t = .int .i64 k ∧ Gro w wr ∧ ∀ i (h : i + 1 < l.length), i + 1 < k → l[i].edge < l[i + 1].edge) (fun t _ => l.length + 1 - (intOf t).toNat)
 case atStart => exact ⟨1, Nat.le_refl _, by go_num, Kept.refl _ _, fun i _ h => by omega⟩
 case round =>
 obtain ⟨k, hk, rfl, hg, hlt⟩ := hrel
 have HG := yy hg
 have HL := yy hlt
 clear hg hlt
 by_cases hkl : k < l.length
 ·obtain ⟨j, rfl⟩ : ∃ j, k = j + 1 := ⟨k - 1, by omega⟩
  have hjl : j < l.length := by omega
  obtain ⟨b, off, rfl, hb, hc⟩ := Lst.base ⟨rfl, hcap, hbig, HA.out⟩ hkl
  have hc' := fun i v hv => HG.out.cell (hc i v hv)
  obtain ⟨c0, c1, c2, c3⟩ := wcells hc' hjl
  obtain ⟨d0, d1, d2, d3⟩ := wcells hc' hkl
  have HC := yy hc
  clear hc hc'
  have e0 := gcell c0; have g0 := gcell d0
  have e1 := gcell c1; have g1 := gcell d1
  have e2 := gcell c2; have g2 := gcell d2
  have e3 := gcell c3; have g3 := gcell d3
  clear c0 c1 c2 c3 d0 d1 d2 d3
  generalize hp : l[j] = p at e0 e1 e2 e3
  generalize hq : l[j + 1] = q at g0 g1 g2 g3
  have HP := yy hp
  have HQ := yy hq
  clear hp hq
  have hwj : IntKind.i64.wrap (j : Int) = j := by rw [IntKind.wrap_i64]; omega
  have hj0 : (0 : Int) ≤ (j : Int) + 1 := by omega
  have hmix := mixed
  go_wp2_with fail
  go_quiet_grown (refine Calls.quiet_gro (key75 _ _))
  by_cases hd : p.edge < q.edge
  ·go_wp2
   go_roundw
   case rel => exact ⟨j + 2, by omega, by go_num, HG.out.trans (gro_of_grow _ _ _), fun i h hi => by
    by_cases e : i = j
    ·subst e; rw [HP.out, HQ.out]; exact hd
    exact HL.out i h (by omega)⟩
   case measure => simp [intOf]; omega
  have hf : asc (l.map Wsh.edge) = false := by
   rw [← Bool.not_eq_true, asc_iff]
   intro hh
   have := adj_of_pair hh j (by simpa using hkl)
   simp only [List.getElem_map, HP.out, HQ.out] at this
   exact hd this
  have HF := yy hf
  clear hf
  go_wp2
  go_ret
  exact ⟨by rw [HF.out]; rfl, HG.out.trans (gro_of_grow _ _ _)⟩
 have ht : asc (l.map Wsh.edge) = true := by
  rw [asc_iff]
  refine pair_of_adj fun i hi => ?_
  simp only [List.length_map] at hi
  simp only [List.getElem_map]
  exact HL.out i hi (by omega)
 have HT := yy ht
 clear ht
 go_wp2
 go_ret
 exact ⟨by rw [HT.out]; rfl, HG.out⟩
end Go.Proofs.YthfagcdjbmhhcaaGreat
