/- slices.Delete of one element, slices.DeleteFunc. -/
import Derived.Test.YthfagcdjbmhhcaaGreatK05
import Derived.Test.YthfagcdjbmhhcaaGreatK04
set_option linter.unusedVariables false
set_option linter.unusedSimpArgs false
namespace Go.Proofs.YthfagcdjbmhhcaaGreat
open Go.RowKit
theorem run_append_room_k {α : Type} [RecI α] (w : World) (ty : TypeId) (g n cap : Nat) (ad : Addr) (m c : Nat) (cur : Array Value) (t : TypeId) (xs : List α) (hg : w.heap[g]? = some (.cells cur t (0, 0)))
  (hn : xs.length = m) (hsrc : ∀ j v, (flat xs)[j]? = some v → w.cell? (ad.add j) = some v) (hroom : n + m ≤ cap) (hfit : n * Rec.k α + m * Rec.k α ≤ cur.size) :
  (Builtin.append_ #[Rec.sty α, Rec.sty α] ty #[.slice (some ⟨g, 0, none⟩) n cap, .slice (some ad) m c]).run Tryz.prog w = .ok (.slice (some ⟨g, 0, none⟩) (n + m) cap) (w.setRow g (splice cur.toList (n * Rec.k α) (flat xs)).toArray) := by
 obtain ⟨i, hi, hz, hs, hb⟩ := info_parts (RecI.info (α := α))
 have hl := run_loadCells_list (P := Tryz.prog) w ad (flat xs) hsrc
 have hst := run_storeCells_at Tryz.prog g (n * Rec.k α) t (flat xs) 0 cur w hg (by rw [flat_length, hn]; simpa using hfit) (flat_one xs)
 rw [flat_length, hn] at hl
 have hu := RecI.hu (α := α)
 have hadd : (⟨g, 0, none⟩ : Addr).add (n * Rec.k α) = ⟨g, n * Rec.k α, none⟩ := by unfold Addr.add; split <;> simp_all
 simp only [Nat.add_zero] at hst
 simp [Builtin.append_, run_underlying hu, Builtin.lenOf, Builtin.firstCells, sizeOf, typeInfo, hi, hs, hl, hst, splice, hroom, hadd]
theorem run_clear_at {P : Program} (w : World) (t e ty : TypeId) (z : Value) (ht : P.underlying t = some (.slice e)) (hv : ∀ w, (zeroValue e).run P w = .ok z w) (h1 : ∀ v ∈ z.cells.toList, v.oneCell' = true)
  (g o n c : Nat) (cur : Array Value) (hg : w.heap[g]? = some (.cells cur e (0, 0))) (hfit : o + n * z.cells.size ≤ cur.size) :
  ∃ cs : Array Value, cs.size = cur.size ∧ cs.toList.take o = cur.toList.take o ∧ (Builtin.clear_ #[t] ty #[.slice (some ⟨g, o, none⟩) n c]).run P w = .ok (.tuple #[]) (w.setRow g cs) := by
 rcases Nat.eq_zero_or_pos n with rfl | hn
 ·exact ⟨cur, rfl, rfl, by rw [setRow_self w g cur e (0, 0) hg]; simp [Builtin.clear_, run_underlying ht]⟩
 ·have hzl : (Builtin.zeroCells z.cells n).toList.length = n * z.cells.size := by rw [Array.length_toList, size_zeroCells]
  have hone : ∀ v ∈ (Builtin.zeroCells z.cells n).toList, v.oneCell' = true := by
   intro v hv'
   simp only [Builtin.zeroCells, Array.toList_map, List.mem_map] at hv'
   obtain ⟨i, hi, rfl⟩ := hv'
   have hpos : 0 < z.cells.size := by
    rcases Nat.eq_zero_or_pos z.cells.size with h | h
    ·simp [h] at hi
    ·exact h
   have hlt : i % z.cells.size < z.cells.size := Nat.mod_lt _ hpos
   rw [getElem!_pos z.cells _ hlt]
   exact h1 _ (by simp)
  have hst := run_storeCells_at P g o e (Builtin.zeroCells z.cells n).toList 0 cur w hg (by rw [hzl]; simpa using hfit) hone
  refine ⟨(cur.toList.take o ++ (Builtin.zeroCells z.cells n).toList ++ cur.toList.drop (o + n * z.cells.size)).toArray, ?_, ?_, ?_⟩
  ·rw [List.size_toArray, List.length_append, List.length_append, List.length_take, List.length_drop, hzl, Array.length_toList]
   omega
  ·rw [List.toList_toArray, List.append_assoc]
   rw [List.take_append_of_le_length (by rw [List.length_take, Array.length_toList]; omega), List.take_take, Nat.min_self]
  ·obtain ⟨m, rfl⟩ : ∃ m, n = m + 1 := ⟨n - 1, by omega⟩
   simp only [Nat.add_zero, Array.length_toList, size_zeroCells] at hst
   simp [Builtin.clear_, run_underlying ht, hv, hst]
theorem wpList_clear_at {P : Program} {w : World} {ops : Array Oper} {rest : List Oper} {o : Oper} {a : Act} {Q : Exit → Act → World → Prop} (hgd : o.guard = none) (d : Operand) (t e : TypeId)
  (ho : o.op = .call { callee := .builtin .clear, args := #[d], argTypes := #[t] }) (z : Value) (ht : P.underlying t = some (.slice e)) (hv : ∀ w, (zeroValue e).run P w = .ok z w) (h1 : ∀ v ∈ z.cells.toList, v.oneCell' = true)
  (g k n c : Nat) (hd : a.eval d = .slice (some ⟨g, k, none⟩) n c) (cur : Array Value) (hg : w.heap[g]? = some (.cells cur e (0, 0))) (hfit : k + n * z.cells.size ≤ cur.size)
  (h : ∀ w' (cs : Array Value), cs.size = cur.size → cs.toList.take k = cur.toList.take k → Hid (w'.heap[g]? = some (.cells cs e (0, 0))) → Kept (· = g) w w' → wpList P ops Q rest (a.put o.dst (.tuple #[])) w') : wpList P ops Q (o :: rest) a w := by
 refine wpList_plain hgd fun K hK => ?_
 obtain ⟨cs, hcs, hct, hrun⟩ := run_clear_at (P := P) w t e o.type z ht hv h1 g k n c cur hg hfit
 unfold Oper.wp
 simp [execOp, ho, resolve, invoke, builtin, hd, hrun, Result.andThen]
 exact hK _ _ (h _ cs hcs hct (setRow_heap w g _ _ _ _ hg) ((Kept.refl (· = g) w).setRow (.inl rfl) _))
theorem zero32 (w : World) : (zeroValue 32).run Tryz.prog w = .ok (.agg #[.int .i64 0, .int .i64 0, .int .i64 0, .int .i64 0]) w := by kernel_rfl
theorem z32_one : ∀ v ∈ (Value.agg #[.int .i64 0, .int .i64 0, .int .i64 0, .int .i64 0]).cells.toList, v.oneCell' = true := by
 intro v hv
 simp [Value.cells] at hv
 subst hv; rfl
def delAt {α : Type} (l : List α) (i : Nat) : List α := l.take i ++ l.drop (i + 1)
theorem delAt_length {α : Type} (l : List α) (i : Nat) (hi : i < l.length) : (delAt l i).length = l.length - 1 := by
 unfold delAt
 rw [List.length_append, List.length_take, List.length_drop]
 omega
set_option maxHeartbeats 2000000 in
set_option maxRecDepth 100000 in
theorem del78 {w : World} {base : Nat} {v : Value} {l : List Wsh} (hown : OwnL w base v l) (hfew : l.length ≤ 1000000) (i : Nat) (hi : i < l.length) :
  Calls Tryz.prog 78 #[v, .int .i64 i, .int .i64 ((i : Int) + 1)] w fun e w' => ∃ v', e = .returned v' ∧ OwnL w' base v' (delAt l i) ∧ Kept (ownF v) w w' ∧ v'.ownBlock = v.ownBlock := by
 have hmix := mixed
 rcases hown.2 with ⟨rfl, hz⟩ | ⟨g, cap, cur, rfl, hg1, hg, r1, r2, r3, r4⟩
 ·omega
 have r4' : cur.toList.take (l.length * 4) = flat l := r4
 have r3' : cur.size = cap * 4 := r3
 have hC : cur.toList.take (i * 4) = flat (l.take i) := by
  have := flat_take l i (by omega)
  rw [← this, ← r4', List.take_take]
  show _ = List.take (min (i * 4) (l.length * 4)) cur.toList
  rw [Nat.min_eq_left (by omega)]
 have hdl : (l.drop (i + 1)).length = l.length - (i + 1) := by rw [List.length_drop]
 have hsrc : ∀ (W : World), W.heap[g]? = some (.cells cur 32 (0, 0)) → ∀ j u, (flat (l.drop (i + 1)))[j]? = some u → W.cell? ((⟨g, (i + 1) * 4, none⟩ : Addr).add j) = some u := by
  intro W hW j u hj
  have hadd : (⟨g, (i + 1) * 4, none⟩ : Addr).add j = ⟨g, (i + 1) * 4 + j, none⟩ := by unfold Addr.add; split <;> simp_all
  rw [hadd, blk_cell hW, ← Array.getElem?_toList]
  have hfl : flat l = flat (l.take (i + 1)) ++ flat (l.drop (i + 1)) := by rw [← flat_append, List.take_append_drop]
  have hlen : (flat (l.take (i + 1))).length = (i + 1) * 4 := by
   rw [flat_length, List.length_take, Nat.min_eq_left (by omega)]
   rfl
  have h1 : (flat l)[(i + 1) * 4 + j]? = some u := by
   rw [hfl, List.getElem?_append_right (by omega), hlen, Nat.add_sub_cancel_left]
   exact hj
  rw [← r4', List.getElem?_take] at h1
  split at h1
  ·exact h1
  cases h1
 have hnm : i + (l.length - (i + 1)) = l.length - 1 := by omega
 obtain ⟨C1, hC1⟩ : ∃ C1, C1 = (splice cur.toList (i * 4) (flat (l.drop (i + 1)))).toArray := ⟨_, rfl⟩
 have hfl2 : (flat (l.drop (i + 1))).length = (l.length - (i + 1)) * 4 := by rw [flat_length, hdl]; rfl
 have hfit : i * 4 + (l.length - (i + 1)) * 4 ≤ cur.size := by rw [r3']; omega
 have hC1s : C1.size = cur.size := by
  rw [hC1, List.size_toArray, length_splice _ _ _ (by rw [hfl2, Array.length_toList]; exact hfit), Array.length_toList]
 have hC1t : C1.toList.take ((l.length - 1) * 4) = flat (delAt l i) := by
  rw [hC1, List.toList_toArray, splice, hC, ← List.append_assoc]
  unfold delAt
  rw [flat_append]
  refine take_of_app _ _ _ ?_
  rw [List.length_append, hfl2, flat_length, List.length_take, Nat.min_eq_left (by omega)]
  show i * 4 + _ = _
  omega
 have hap : ∀ (ad : Addr), (∀ (W : World), W.heap[g]? = some (.cells cur 32 (0, 0)) → ∀ j u, (flat (l.drop (i + 1)))[j]? = some u → W.cell? (ad.add j) = some u) → ∀ (W : World), W.heap[g]? = some (.cells cur 32 (0, 0)) → ∀ ty c, (Builtin.append_ #[26, 26] ty #[.slice (some ⟨g, 0, none⟩) i cap, .slice (some ad) (l.length - (i + 1)) c]).run Tryz.prog W = .ok (.slice (some ⟨g, 0, none⟩) (l.length - 1) cap) (W.setRow g C1) := fun ad had W hW ty c => by
  have := run_append_room_k (α := Wsh) W ty g i cap ad (l.length - (i + 1)) c cur 32 (l.drop (i + 1)) hW hdl (had W hW) (by omega) hfit
  rw [hnm] at this
  rw [hC1]
  exact this
 have hap1 : if cap = i + 1 then ∀ (W : World), W.heap[g]? = some (.cells cur 32 (0, 0)) → ∀ ty c, (Builtin.append_ #[26, 26] ty #[.slice (some ⟨g, 0, none⟩) i cap, .slice (some ⟨g, 0, none⟩) (l.length - (i + 1)) c]).run Tryz.prog W = .ok (.slice (some ⟨g, 0, none⟩) (l.length - 1) cap) (W.setRow g C1)
   else ∀ (W : World), W.heap[g]? = some (.cells cur 32 (0, 0)) → ∀ ty c, (Builtin.append_ #[26, 26] ty #[.slice (some ⟨g, 0, none⟩) i cap, .slice (some ⟨g, (i + 1) * 4, none⟩) (l.length - (i + 1)) c]).run Tryz.prog W = .ok (.slice (some ⟨g, 0, none⟩) (l.length - 1) cap) (W.setRow g C1) := by
  split
  ·rename_i hce
   refine hap _ (fun W _ j u hj => ?_)
   rw [List.drop_of_length_le (by omega)] at hj
   simp [flat] at hj
  ·exact hap _ hsrc
 have HG := yy hg
 have HC1 := yy hC1t
 have HS1 := yy hC1s
 have R3 := yy r3'
 have hfew' := hfew
 have hb1 : (i : Int) ≤ (i : Int) + 1 := by omega
 have hb2 : (i : Int) + 1 ≤ (l.length : Int) := by omega
 have hb3 : (l.length : Int) ≤ (cap : Int) := by omega
 have hb4 : ¬ ((i : Int) = (i : Int) + 1) := by omega
 have hb5 : (0 : Int) ≤ (i : Int) + 1 := by omega
 have htn : ((i : Int) + 1).toNat = i + 1 := by omega
 have hb6 : (i : Int) ≤ (cap : Int) := by omega
 have hb7 : ¬ (cap = i) := by omega
 have hb8 : ((l.length - 1 : Nat) : Int) ≤ (l.length : Int) := by omega
 clear hap hg hC1t hC1s r3 r3' r4 r4' hsrc hC hown hC1 hfl2 hfit
 have hcb : l.length * 4 ≤ cap * 4 := by omega
 have hfin : ∀ (cs : Array Value), cs.size = C1.size → cs.toList.take ((l.length - 1) * 4) = C1.toList.take ((l.length - 1) * 4) → ∀ (W : World), W.heap[g]? = some (.cells cs 32 (0, 0)) → OwnL W base (.slice (some ⟨g, 0, none⟩) (l.length - 1) cap) (delAt l i) := by
  intro cs h1 h2 W hW
  refine ⟨by rw [flat_length], .inr ⟨g, cap, cs, by rw [delAt_length l i hi], hg1, hW, by rw [delAt_length l i hi]; omega, r2, by rw [h1, HS1.out, R3.out]; rfl, ?_⟩⟩
  rw [delAt_length l i hi]
  exact h2.trans HC1.out
 have HF := yy hfin
 have hfz : (l.length - 1) * 4 + (l.length - (l.length - 1)) * 4 ≤ C1.size := by rw [HS1.out, R3.out]; omega
 have HFZ := yy hfz
 have hne1 : ¬ (cap = l.length - 1) := by omega
 have hli : ((l.length : Int) - 1) = ((l.length - 1 : Nat) : Int) := by omega
 clear hfin hfz hcb
 by_cases hce : cap = i + 1
 ·rw [if_pos hce] at hap1
  subst hce
  rw [show l.length - (i + 1) = 0 by omega] at hap1
  have HAP := yy hap1
  clear hap1
  go_enter Tryz.func78, Tryz.ntmps78
  go_wp2_with fail
  refine region_tail 6 hmix (by kernel_rfl) fun w2 dd => ?_
  have hg2 := yy (dd.blk HG.out)
  have K2 := yy (dd.kept (ownF (.slice (some ⟨g, 0, none⟩) l.length (i + 1))))
  clear dd HG
  simp only [List.take_succ_cons, List.take_zero, List.drop_succ_cons, List.drop_zero]
  repeat still_step
  refine wpStill_nil ?_
  refine Lib.wpList_append_run _ rfl (.tmp 22) (.tmp 25) 26 26 rfl (.slice (some ⟨g, 0, none⟩) i (i + 1)) (.slice (some ⟨g, 0, none⟩) 0 0) rfl rfl _ _ (HAP.out w2 hg2.out _ _) ?_
  have hg3 := yy (setRow_heap w2 g _ C1 _ _ hg2.out)
  have K3 := yy (K2.out.setRow (g := g) (.inl rfl) C1)
  clear hg2 K2 HAP
  generalize w2.setRow g C1 = w3 at hg3 K3 ⊢
  go_wp2_with (refine wpList_clear_at rfl (.tmp 31) 26 32 rfl _ Tryz.underlying26 zero32 z32_one g ((l.length - 1) * 4) (l.length - (l.length - 1)) (i + 1 - (l.length - 1)) rfl C1 hg3.out (by simpa [Value.cells] using HFZ.out) ?_; intro w4 cs hcs hct HP4 hk4; have HCS := yy hcs; have HCT := yy hct; have HK4 := yy hk4; clear hcs hct hk4)
  go_ret
  exact ⟨_, rfl, HF.out _ HCS.out HCT.out _ HP4.out, Kept.trans' K3.out HK4.out (fun j hj => .inl (by subst hj; rfl)), rfl⟩
 rw [if_neg hce] at hap1
 have HAP := yy hap1
 clear hap1
 go_enter Tryz.func78, Tryz.ntmps78
 go_wp2_with fail
 refine region_tail 6 hmix (by kernel_rfl) fun w2 dd => ?_
 have hg2 := yy (dd.blk HG.out)
 have K2 := yy (dd.kept (ownF (.slice (some ⟨g, 0, none⟩) l.length cap)))
 clear dd HG
 simp only [List.take_succ_cons, List.take_zero, List.drop_succ_cons, List.drop_zero]
 repeat still_step
 refine wpStill_nil ?_
 refine Lib.wpList_append_run _ rfl (.tmp 22) (.tmp 25) 26 26 rfl (.slice (some ⟨g, 0, none⟩) i cap) (.slice (some ⟨g, (i + 1) * 4, none⟩) (l.length - (i + 1)) (cap - (i + 1))) rfl rfl _ _ (HAP.out w2 hg2.out _ _) ?_
 have hg3 := yy (setRow_heap w2 g _ C1 _ _ hg2.out)
 have K3 := yy (K2.out.setRow (g := g) (.inl rfl) C1)
 clear hg2 K2 HAP
 generalize w2.setRow g C1 = w3 at hg3 K3 ⊢
 go_wp2_with (refine wpList_clear_at rfl (.tmp 31) 26 32 rfl _ Tryz.underlying26 zero32 z32_one g ((l.length - 1) * 4) (l.length - (l.length - 1)) (cap - (l.length - 1)) rfl C1 hg3.out (by simpa [Value.cells] using HFZ.out) ?_; intro w4 cs hcs hct HP4 hk4; have HCS := yy hcs; have HCT := yy hct; have HK4 := yy hk4; clear hcs hct hk4)
 go_ret
 exact ⟨_, rfl, HF.out _ HCS.out HCT.out _ HP4.out, Kept.trans' K3.out HK4.out (fun j hj => .inl (by subst hj; rfl)), rfl⟩
theorem flat_set : ∀ (ys : List Wsh) (i : Nat) (x : Wsh), i < ys.length → flat (ys.set i x) = ((((flat ys).set (i * 4) (.int .i64 x.edge)).set (i * 4 + 1) (.int .i64 x.src)).set (i * 4 + 2) (.int .i64 x.dst)).set (i * 4 + 3) (.int .i64 x.weight)
 | [], i, x, h => by simp at h
 | y :: ys, 0, x, _ => by simp [flat, Rec.cs]
 | y :: ys, i + 1, x, h => by
  have ih := flat_set ys i x (by simpa using h)
  have e : (i + 1) * 4 = i * 4 + 4 := by omega
  rw [List.set_cons_succ, flat_cons, ih, flat_cons, e]
  simp [Rec.cs]
/-- the row's block: its elements, and what is spare -/
def rowB (ys : List Wsh) (sp : List Value) : Array Value := (flat ys ++ sp).toArray
theorem rowB_set (ys : List Wsh) (sp : List Value) (i : Nat) (x : Wsh) (h : i < ys.length) :
  ((((rowB ys sp).setIfInBounds (i * 4) (.int .i64 x.edge)).setIfInBounds (i * 4 + 1) (.int .i64 x.src)).setIfInBounds (i * 4 + 2) (.int .i64 x.dst)).setIfInBounds (i * 4 + 3) (.int .i64 x.weight) = rowB (ys.set i x) sp := by
 have hl : (flat ys).length = ys.length * 4 := flat_length ys
 apply Array.ext'
 simp only [rowB, Array.toList_setIfInBounds, List.toList_toArray]
 rw [List.set_append_left _ _ (by omega), List.set_append_left _ _ (by simp; omega), List.set_append_left _ _ (by simp; omega), List.set_append_left _ _ (by simp; omega), flat_set ys i x h]
theorem rowB_size (ys : List Wsh) (sp : List Value) : (rowB ys sp).size = ys.length * 4 + sp.length := by
 rw [rowB, List.size_toArray, List.length_append, flat_length]; rfl
theorem rowB_cells {w : World} {g : Nat} {ys : List Wsh} {sp : List Value} (h : w.heap[g]? = some (.cells (rowB ys sp) 32 (0, 0))) {i : Nat} (hi : i < ys.length) :
  w.cell? ⟨g, i * 4, none⟩ = some (.int .i64 ys[i].edge) ∧ w.cell? ⟨g, i * 4 + 1, none⟩ = some (.int .i64 ys[i].src) ∧ w.cell? ⟨g, i * 4 + 2, none⟩ = some (.int .i64 ys[i].dst) ∧ w.cell? ⟨g, i * 4 + 3, none⟩ = some (.int .i64 ys[i].weight) := by
 have hh : ∀ t v, (flat ys)[t]? = some v → w.cell? ⟨g, 0 + t, none⟩ = some v := by
  intro t v hv
  rw [Nat.zero_add, blk_cell h, ← Array.getElem?_toList]
  rw [rowB, List.toList_toArray, List.getElem?_append_left (List.getElem?_eq_some_iff.1 hv).1]
  exact hv
 simpa only [Nat.zero_add] using wcells hh hi
structure DelAt (w : World) (p : Wsh → Bool) (g : Nat) (zs : List Wsh) (sp : List Value) (i j : Nat) (ys : List Wsh) (wr : World) : Prop where
 ij : i < j
 jn : j ≤ zs.length
 len : ys.length = zs.length
 got : ys.take i = (zs.take j).filter fun x => !p x
 ilen : ((zs.take j).filter fun x => !p x).length = i
 rest : ∀ k (h : k < zs.length) (h' : k < ys.length), j ≤ k → ys[k] = zs[k]
 blk : wr.heap[g]? = some (.cells (rowB ys sp) 32 (0, 0))
 kept : Kept (· = g) w wr
theorem take_snoc {α : Type} (l : List α) (k : Nat) (h : k < l.length) : l.take (k + 1) = l.take k ++ [l[k]] := by
 rw [List.take_succ_eq_append_getElem h]
theorem DelAt.skip {w : World} {p : Wsh → Bool} {g : Nat} {zs : List Wsh} {sp : List Value} {i j : Nat} {ys : List Wsh} {wr w' : World} (h : DelAt w p g zs sp i j ys wr) (k : Gro wr w') (hlt : j < zs.length) (hp : p zs[j] = true) : DelAt w p g zs sp i (j + 1) ys w' := by
 have e : (zs.take (j + 1)).filter (fun x => !p x) = (zs.take j).filter (fun x => !p x) := by
  rw [take_snoc zs j hlt, List.filter_append]; simp [hp]
 exact ⟨by have := h.ij; omega, by omega, h.len, by rw [e]; exact h.got, by rw [e]; exact h.ilen, fun k hk hk' hjk => h.rest k hk hk' (by omega), k.blk h.blk, h.kept.trans (k.kept _)⟩
theorem DelAt.keep {w : World} {p : Wsh → Bool} {g : Nat} {zs : List Wsh} {sp : List Value} {i j : Nat} {ys : List Wsh} {wr w' : World} (h : DelAt w p g zs sp i j ys wr) (k : Gro wr w') (hlt : j < zs.length) (hp : p zs[j] = false) (x : Wsh) (hx : zs[j] = x) :
  DelAt w p g zs sp (i + 1) (j + 1) (ys.set i x) ((((w'.setCell ⟨g, i * 4, none⟩ (.int .i64 x.edge)).setCell ⟨g, i * 4 + 1, none⟩ (.int .i64 x.src)).setCell ⟨g, i * 4 + 2, none⟩ (.int .i64 x.dst)).setCell ⟨g, i * 4 + 3, none⟩ (.int .i64 x.weight)) := by
 subst hx
 have hij := h.ij
 have hl := h.len
 have hiy : i < ys.length := by omega
 have e : (zs.take (j + 1)).filter (fun x => !p x) = (zs.take j).filter (fun x => !p x) ++ [zs[j]] := by
  rw [take_snoc zs j hlt, List.filter_append]; simp [hp]
 refine ⟨by omega, by omega, by simp; exact hl, ?_, by rw [e]; simp [h.ilen], fun k hk hk' hjk => ?_, ?_, ?_⟩
 ·rw [e, ← h.got, take_snoc _ i (by simpa using hiy)]
  simp [List.take_set_of_le]
 ·rw [List.getElem_set_ne (by omega)]; exact h.rest k hk (by omega) (by omega)
 ·rw [← rowB_set ys sp i zs[j] hiy]
  exact blk_set (blk_set (blk_set (blk_set (k.blk h.blk) _ _) _ _) _ _) _ _
 exact ((((h.kept.trans (k.kept _)).setCell (p := ⟨g, i * 4, none⟩) (.inl rfl) _).setCell (p := ⟨g, i * 4 + 1, none⟩) (.inl rfl) _).setCell (p := ⟨g, i * 4 + 2, none⟩) (.inl rfl) _).setCell (p := ⟨g, i * 4 + 3, none⟩) (.inl rfl) _
set_option maxHeartbeats 4000000 in
set_option maxRecDepth 100000 in
theorem delf119 {w : World} {base : Nat} {v : Value} {l : List Wsh} (hown : OwnL w base v l) (hfew : l.length ≤ 1000000) (p : Wsh → Bool) (fg : Nat) (cb : Array Value)
  (eg : ∀ args w, (callFunc fg args).run Tryz.prog w = .ok (.enter fg args) w)
  (hp : ∀ (W : World) (x : Wsh), Kept (ownF v) w W → Calls Tryz.prog fg (#[.agg #[.int .i64 x.edge, .int .i64 x.src, .int .i64 x.dst, .int .i64 x.weight]] ++ cb) W fun e w' => e = .returned (.bool (p x)) ∧ Gro W w') :
  Calls Tryz.prog 119 #[v, .func (.func fg) #[] cb] w fun e w' => ∃ v', e = .returned v' ∧ OwnL w' base v' (l.filter fun x => !p x) ∧ Kept (ownF v) w w' ∧ v'.ownBlock = v.ownBlock := by
 have hlv : LV w v l := hown.lv (by omega)
 obtain ⟨a0, c0, hv0, hl0⟩ := hlv
 have hidx := idx170 hl0 p fg cb eg (fun W x hW _ => hp W x (hW.kept _))
 rw [← hv0] at hidx
 clear hl0 hv0
 have HIX := yy hidx
 clear hidx
 cases hx : l.findIdx? p with
 | none =>
  have hall : ∀ x ∈ l, p x = false := List.findIdx?_eq_none_iff.1 hx
  have hix : idxOf p l = -1 := by simp [idxOf, hx]
  rw [hix] at HIX
  have hf : (l.filter fun x => !p x) = l := List.filter_eq_self.2 (fun x hx => by simp [hall x hx])
  have HF := yy hf
  have HO := yy hown
  clear hx hall hix hf hp hown
  go_enter Tryz.func119, Tryz.ntmps119
  go_wp2_with fail
  refine HIX.out.mono ?_
  rintro e w' ⟨rfl, k1⟩
  have K1 := yy k1
  clear k1
  go_wp2
  go_ret
  exact ⟨v, rfl, by rw [HF.out]; exact HO.out.gro K1.out, K1.out.kept _, rfl⟩
 | some i0 =>
  obtain ⟨hi0, hpi, hbef⟩ := List.findIdx?_eq_some_iff_getElem.1 hx
  have hix : idxOf p l = i0 := by simp [idxOf, hx]
  rw [hix] at HIX
  rcases hown.2 with ⟨rfl, hz⟩ | ⟨g, cap, cur, rfl, hg1, hg, r1, r2, r3, r4⟩
  ·omega
  ·have hcur : cur = rowB l (cur.toList.drop (l.length * 4)) := by
    apply Array.ext'
    rw [rowB, List.toList_toArray]
    have r4' : cur.toList.take (l.length * 4) = flat l := r4
    rw [← r4', List.take_append_drop]
   have hspl : (cur.toList.drop (l.length * 4)).length = (cap - l.length) * 4 := by
    have r3' : cur.size = cap * 4 := r3
    rw [List.length_drop, Array.length_toList, r3']; omega
   generalize cur.toList.drop (l.length * 4) = sp at hcur hspl
   rw [hcur] at hg
   have hst : DelAt w p g l sp i0 (i0 + 1) l w := by
    have e1 : (l.take i0).filter (fun x => !p x) = l.take i0 := List.filter_eq_self.2 (fun x hx => by
     obtain ⟨j, hj, rfl⟩ := List.getElem_of_mem hx
     have hj' : j < i0 := by simp at hj; omega
     rw [List.getElem_take]
     have := hbef j hj'
     simpa using this)
    have e2 : (l.take (i0 + 1)).filter (fun x => !p x) = l.take i0 := by
     rw [take_snoc l i0 hi0, List.filter_append, e1]; simp [hpi]
    exact ⟨by omega, by omega, rfl, e2.symm, by rw [e2]; simp; omega, fun _ _ _ _ => rfl, hg, Kept.refl _ _⟩
   have HST := yy hst
   have HSPL := yy hspl
   have hF : ∀ k, (k = g) = ownF (.slice (some ⟨g, 0, none⟩) l.length cap) k := fun k => by simp [ownF, Value.ownBlock, eq_comm]
   have hF' : (fun k => k = g) = ownF (.slice (some ⟨g, 0, none⟩) l.length cap) := funext hF
   rw [← hF'] at hp ⊢
   have HP := yy hp
   have hneg : ((i0 : Int) == -1) = false := by rw [beq_eq_false_iff_ne]; omega
   clear hx hix hst hpi hbef hp hcur r3 r4 hown hspl hF hF'
   go_enter Tryz.func119, Tryz.ntmps119
   go_wp2_with fail
   refine HIX.out.mono ?_
   rintro e w' ⟨rfl, k1⟩
   have HST2 : Hid (DelAt w p g l sp i0 (i0 + 1) l w') := yy { HST.out with blk := k1.blk HST.out.blk, kept := HST.out.kept.trans (k1.kept _) }
   clear k1 HST HIX
   go_wp2_with fail
   go_loopw [5, 6] (fun iv jv wr => ∃ (i j : Nat) (ys : List Wsh), iv = .int .i64 i ∧ jv = .int .i64 j ∧ DelAt w p g l sp i j ys wr) (fun _ jv _ => l.length - (intOf jv).toNat)
   case atStart => exact ⟨i0, i0 + 1, l, rfl, by go_num, HST2.out⟩
   case round =>
    obtain ⟨i, j, ys, rfl, rfl, hD⟩ := hrel
    have hij := hD.ij
    have hjn := hD.jn
    have HD := yy hD
    clear hD
    by_cases hlt : j < l.length
    ·have hly : j < ys.length := by rw [HD.out.len]; exact hlt
     have hiy : i < ys.length := by omega
     have hil : i < l.length := by omega
     obtain ⟨d0, d1, d2, d3⟩ := rowB_cells HD.out.blk hly
     rw [HD.out.rest j hlt hly (Nat.le_refl _)] at d0 d1 d2 d3
     have hgl := blk_lt HD.out.blk
     generalize hxx : l[j] = x at d0 d1 d2 d3
     have HX := yy hxx
     clear hxx
     have kA : Gro wr (wr.alloc (.cells #[.int .i64 x.edge, .int .i64 x.src, .int .i64 x.dst, .int .i64 x.weight] 32)) := (Gro.refl _).alloc _
     have bA := blk_new wr (.cells #[.int .i64 x.edge, .int .i64 x.src, .int .i64 x.dst, .int .i64 x.weight] 32)
     have hq := HP.out _ x (HD.out.kept.trans (kA.kept _))
     have HQ := yy hq
     have KA := yy kA
     have BA := yy bA
     clear hq kA bA
     cases hpk : p x with
     | true =>
      rw [hpk] at HQ
      have HPk := yy hpk
      clear hpk
      go_wp2_with (go_at_fn fg; refine HQ.out.mono ?_; rintro e w2 ⟨rfl, k2⟩; have K2 := yy k2; clear k2)
      go_roundw
      case rel => exact ⟨i, j + 1, ys, rfl, by go_num, HD.out.skip (KA.out.trans K2.out) hlt (by rw [HX.out]; exact HPk.out)⟩
      case measure => simp [intOf]; omega
     | false =>
      rw [hpk] at HQ
      have HPk := yy hpk
      clear hpk
      go_wp2_with (go_at_fn fg; refine HQ.out.mono ?_; rintro e w2 ⟨rfl, k2⟩; have K2 := yy k2; have hB2 := k2.blk BA.out; have f0 := blk_cell hB2 0; have f1 := blk_cell hB2 1; have f2 := blk_cell hB2 2; have f3 := blk_cell hB2 3; simp only [lPa, lPb, lPc] at f0 f1 f2 f3; have hlA := blk_lt hB2; have hG2 := k2.blk (KA.out.blk HD.out.blk); obtain ⟨g0, g1, g2, g3⟩ := rowB_cells hG2 hiy; have z0 := blk_frozen hG2 (i * 4); have z1 := blk_frozen hG2 (i * 4 + 1); have z2 := blk_frozen hG2 (i * 4 + 2); have z3 := blk_frozen hG2 (i * 4 + 3); have hlG := blk_lt hG2; clear k2 hB2 hG2)
      go_roundw
      case rel => exact ⟨i + 1, j + 1, ys.set i x, by go_num, by go_num, HD.out.keep (KA.out.trans K2.out) hlt (by rw [HX.out]; exact HPk.out) x HX.out⟩
      case measure => simp [intOf]; omega
    ·have hjl : j = l.length := by omega
     have HJ := yy hjl
     have hiz : i ≤ l.length := by omega
     have hizI : (i : Int) ≤ (l.length : Int) := by omega
     have hizc : i ≤ cap := by omega
     have hizcI : (i : Int) ≤ (cap : Int) := by omega
     have hic : ¬ cap = i := by omega
     clear hjl
     have hfit : i * 4 + (l.length - i) * 4 ≤ (rowB ys sp).size := by rw [rowB_size, HD.out.len]; omega
     have HFit := yy hfit
     clear hfit
     go_wp2_with (refine wpList_clear_at rfl (.tmp 38) 26 32 rfl _ Tryz.underlying26 zero32 z32_one g (i * 4) (l.length - i) (cap - i) rfl (rowB ys sp) HD.out.blk (by simpa [Value.cells] using HFit.out) ?_; intro w4 cs hcs hct HP4 hk4; have HCS := yy hcs; have HCT := yy hct; have HK4 := yy hk4; clear hcs hct hk4)
     go_ret
     have hz : l.take j = l := List.take_of_length_le (by rw [HJ.out]; exact Nat.le_refl _)
     have g1 := HD.out.got
     have g2 := HD.out.ilen
     rw [hz] at g1 g2
     have hlen : (rowB ys sp).size = cap * 4 := by rw [rowB_size, HD.out.len, HSPL.out]; omega
     refine ⟨_, rfl, ⟨by rw [flat_length], .inr ⟨g, cap, cs, by rw [g2]; rfl, hg1, HP4.out, by rw [g2]; exact hizc, r2, by rw [HCS.out, hlen]; rfl, ?_⟩⟩, HD.out.kept.trans HK4.out, rfl⟩
     rw [g2]
     refine (show cs.toList.take (i * 4) = _ from HCT.out).trans ?_
     rw [← g1, rowB, List.toList_toArray, List.take_append_of_le_length (by rw [flat_length, HD.out.len]; show i * 4 ≤ l.length * 4; omega)]
     exact flat_take ys i (by rw [HD.out.len]; exact hiz)
end Go.Proofs.YthfagcdjbmhhcaaGreat
