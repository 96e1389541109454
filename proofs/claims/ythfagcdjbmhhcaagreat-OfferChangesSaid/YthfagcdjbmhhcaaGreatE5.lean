/- slices.Delete of one element: edges, vertices. -/
import Derived.Test.YthfagcdjbmhhcaaGreatK07
set_option linter.unusedVariables false
set_option linter.unusedSimpArgs false
namespace Go.Proofs.YthfagcdjbmhhcaaGreat
open Go.RowKit
theorem zero69 (w : World) : (zeroValue 69).run Tryz.prog w = .ok (.agg #[.int .i64 0, .int .i64 0, .int .i64 0, .bool false, .int .i64 0, .int .i64 0]) w := by kernel_rfl
theorem z69_one : ∀ v ∈ (Value.agg #[.int .i64 0, .int .i64 0, .int .i64 0, .bool false, .int .i64 0, .int .i64 0]).cells.toList, v.oneCell' = true := by
 intro v hv
 simp [Value.cells] at hv
 rcases hv with rfl | rfl | rfl <;> rfl
theorem zero77 (w : World) : (zeroValue 77).run Tryz.prog w = .ok (.agg #[.int .i64 0, .int .i64 0]) w := by kernel_rfl
theorem z77_one : ∀ v ∈ (Value.agg #[.int .i64 0, .int .i64 0]).cells.toList, v.oneCell' = true := by
 intro v hv
 simp [Value.cells] at hv
 subst hv; rfl
set_option maxHeartbeats 2000000 in
set_option maxRecDepth 100000 in
theorem del192 {w : World} {base : Nat} {v : Value} {l : List Edg} (hown : OwnL w base v l) (hfew : l.length ≤ 1000000) (i : Nat) (hi : i < l.length) :
  Calls Tryz.prog 192 #[v, .int .i64 i, .int .i64 ((i : Int) + 1)] w fun e w' => ∃ v', e = .returned v' ∧ OwnL w' base v' (delAt l i) ∧ Kept (ownF v) w w' ∧ v'.ownBlock = v.ownBlock := by
 have hmix := mixed
 rcases hown.2 with ⟨rfl, hz⟩ | ⟨g, cap, cur, rfl, hg1, hg, r1, r2, r3, r4⟩
 ·omega
 have r4' : cur.toList.take (l.length * 6) = flat l := r4
 have r3' : cur.size = cap * 6 := r3
 have hC : cur.toList.take (i * 6) = flat (l.take i) := by
  have := flat_take l i (by omega)
  rw [← this, ← r4', List.take_take]
  show _ = List.take (min (i * 6) (l.length * 6)) cur.toList
  rw [Nat.min_eq_left (by omega)]
 have hdl : (l.drop (i + 1)).length = l.length - (i + 1) := by rw [List.length_drop]
 have hsrc : ∀ (W : World), W.heap[g]? = some (.cells cur 69 (0, 0)) → ∀ j u, (flat (l.drop (i + 1)))[j]? = some u → W.cell? ((⟨g, (i + 1) * 6, none⟩ : Addr).add j) = some u := by
  intro W hW j u hj
  have hadd : (⟨g, (i + 1) * 6, none⟩ : Addr).add j = ⟨g, (i + 1) * 6 + j, none⟩ := by unfold Addr.add; split <;> simp_all
  rw [hadd, blk_cell hW, ← Array.getElem?_toList]
  have hfl : flat l = flat (l.take (i + 1)) ++ flat (l.drop (i + 1)) := by rw [← flat_append, List.take_append_drop]
  have hlen : (flat (l.take (i + 1))).length = (i + 1) * 6 := by
   rw [flat_length, List.length_take, Nat.min_eq_left (by omega)]
   rfl
  have h1 : (flat l)[(i + 1) * 6 + j]? = some u := by
   rw [hfl, List.getElem?_append_right (by omega), hlen, Nat.add_sub_cancel_left]
   exact hj
  rw [← r4', List.getElem?_take] at h1
  split at h1
  ·exact h1
  cases h1
 have hnm : i + (l.length - (i + 1)) = l.length - 1 := by omega
 obtain ⟨C1, hC1⟩ : ∃ C1, C1 = (splice cur.toList (i * 6) (flat (l.drop (i + 1)))).toArray := ⟨_, rfl⟩
 have hfl2 : (flat (l.drop (i + 1))).length = (l.length - (i + 1)) * 6 := by rw [flat_length, hdl]; rfl
 have hfit : i * 6 + (l.length - (i + 1)) * 6 ≤ cur.size := by rw [r3']; omega
 have hC1s : C1.size = cur.size := by
  rw [hC1, List.size_toArray, length_splice _ _ _ (by rw [hfl2, Array.length_toList]; exact hfit), Array.length_toList]
 have hC1t : C1.toList.take ((l.length - 1) * 6) = flat (delAt l i) := by
  rw [hC1, List.toList_toArray, splice, hC, ← List.append_assoc]
  unfold delAt
  rw [flat_append]
  refine take_of_app _ _ _ ?_
  rw [List.length_append, hfl2, flat_length, List.length_take, Nat.min_eq_left (by omega)]
  show i * 6 + _ = _
  omega
 have hap : ∀ (ad : Addr), (∀ (W : World), W.heap[g]? = some (.cells cur 69 (0, 0)) → ∀ j u, (flat (l.drop (i + 1)))[j]? = some u → W.cell? (ad.add j) = some u) → ∀ (W : World), W.heap[g]? = some (.cells cur 69 (0, 0)) → ∀ ty c, (Builtin.append_ #[36, 36] ty #[.slice (some ⟨g, 0, none⟩) i cap, .slice (some ad) (l.length - (i + 1)) c]).run Tryz.prog W = .ok (.slice (some ⟨g, 0, none⟩) (l.length - 1) cap) (W.setRow g C1) := fun ad had W hW ty c => by
  have := run_append_room_k (α := Edg) W ty g i cap ad (l.length - (i + 1)) c cur 69 (l.drop (i + 1)) hW hdl (had W hW) (by omega) hfit
  rw [hnm] at this
  rw [hC1]
  exact this
 have hap1 : if cap = i + 1 then ∀ (W : World), W.heap[g]? = some (.cells cur 69 (0, 0)) → ∀ ty c, (Builtin.append_ #[36, 36] ty #[.slice (some ⟨g, 0, none⟩) i cap, .slice (some ⟨g, 0, none⟩) (l.length - (i + 1)) c]).run Tryz.prog W = .ok (.slice (some ⟨g, 0, none⟩) (l.length - 1) cap) (W.setRow g C1)
   else ∀ (W : World), W.heap[g]? = some (.cells cur 69 (0, 0)) → ∀ ty c, (Builtin.append_ #[36, 36] ty #[.slice (some ⟨g, 0, none⟩) i cap, .slice (some ⟨g, (i + 1) * 6, none⟩) (l.length - (i + 1)) c]).run Tryz.prog W = .ok (.slice (some ⟨g, 0, none⟩) (l.length - 1) cap) (W.setRow g C1) := by
  split
  ·rename_i hce
   refine hap _ (fun W _ j u hj => ?_)
   rw [List.drop_of_length_le (by omega)] at hj
   simp [flat] at hj
  ·exact hap _ hsrc
 have HG := yy hg
 have HC1 := yy hC1t
 have HS1 := yy hC1s
 have R3 := yy r3'
 have hfew' := hfew
 have hb1 : (i : Int) ≤ (i : Int) + 1 := by omega
 have hb2 : (i : Int) + 1 ≤ (l.length : Int) := by omega
 have hb3 : (l.length : Int) ≤ (cap : Int) := by omega
 have hb4 : ¬ ((i : Int) = (i : Int) + 1) := by omega
 have hb5 : (0 : Int) ≤ (i : Int) + 1 := by omega
 have htn : ((i : Int) + 1).toNat = i + 1 := by omega
 have hb6 : (i : Int) ≤ (cap : Int) := by omega
 have hb7 : ¬ (cap = i) := by omega
 have hb8 : ((l.length - 1 : Nat) : Int) ≤ (l.length : Int) := by omega
 clear hap hg hC1t hC1s r3 r3' r4 r4' hsrc hC hown hC1 hfl2 hfit
 have hcb : l.length * 6 ≤ cap * 6 := by omega
 have hfin : ∀ (cs : Array Value), cs.size = C1.size → cs.toList.take ((l.length - 1) * 6) = C1.toList.take ((l.length - 1) * 6) → ∀ (W : World), W.heap[g]? = some (.cells cs 69 (0, 0)) → OwnL W base (.slice (some ⟨g, 0, none⟩) (l.length - 1) cap) (delAt l i) := by
  intro cs h1 h2 W hW
  refine ⟨by rw [flat_length], .inr ⟨g, cap, cs, by rw [delAt_length l i hi], hg1, hW, by rw [delAt_length l i hi]; omega, r2, by rw [h1, HS1.out, R3.out]; rfl, ?_⟩⟩
  rw [delAt_length l i hi]
  exact h2.trans HC1.out
 have HF := yy hfin
 have hfz : (l.length - 1) * 6 + (l.length - (l.length - 1)) * 6 ≤ C1.size := by rw [HS1.out, R3.out]; omega
 have HFZ := yy hfz
 have hne1 : ¬ (cap = l.length - 1) := by omega
 have hli : ((l.length : Int) - 1) = ((l.length - 1 : Nat) : Int) := by omega
 clear hfin hfz hcb
 by_cases hce : cap = i + 1
 ·rw [if_pos hce] at hap1
  subst hce
  rw [show l.length - (i + 1) = 0 by omega] at hap1
  have HAP := yy hap1
  clear hap1
  go_enter Tryz.func192, Tryz.ntmps192
  go_wp2_with fail
  refine region_tail 6 hmix (by kernel_rfl) fun w2 dd => ?_
  have hg2 := yy (dd.blk HG.out)
  have K2 := yy (dd.kept (ownF (.slice (some ⟨g, 0, none⟩) l.length (i + 1))))
  clear dd HG
  simp only [List.take_succ_cons, List.take_zero, List.drop_succ_cons, List.drop_zero]
  repeat still_step
  refine wpStill_nil ?_
  refine Lib.wpList_append_run _ rfl (.tmp 22) (.tmp 25) 36 36 rfl (.slice (some ⟨g, 0, none⟩) i (i + 1)) (.slice (some ⟨g, 0, none⟩) 0 0) rfl rfl _ _ (HAP.out w2 hg2.out _ _) ?_
  have hg3 := yy (setRow_heap w2 g _ C1 _ _ hg2.out)
  have K3 := yy (K2.out.setRow (g := g) (.inl rfl) C1)
  clear hg2 K2 HAP
  generalize w2.setRow g C1 = w3 at hg3 K3 ⊢
  go_wp2_with (refine wpList_clear_at rfl (.tmp 31) 36 69 rfl _ Tryz.underlying36 zero69 z69_one g ((l.length - 1) * 6) (l.length - (l.length - 1)) (i + 1 - (l.length - 1)) rfl C1 hg3.out (by simpa [Value.cells] using HFZ.out) ?_; intro w4 cs hcs hct HP4 hk4; have HCS := yy hcs; have HCT := yy hct; have HK4 := yy hk4; clear hcs hct hk4)
  go_ret
  exact ⟨_, rfl, HF.out _ HCS.out HCT.out _ HP4.out, Kept.trans' K3.out HK4.out (fun j hj => .inl (by subst hj; rfl)), rfl⟩
 rw [if_neg hce] at hap1
 have HAP := yy hap1
 clear hap1
 go_enter Tryz.func192, Tryz.ntmps192
 go_wp2_with fail
 refine region_tail 6 hmix (by kernel_rfl) fun w2 dd => ?_
 have hg2 := yy (dd.blk HG.out)
 have K2 := yy (dd.kept (ownF (.slice (some ⟨g, 0, none⟩) l.length cap)))
 clear dd HG
 simp only [List.take_succ_cons, List.take_zero, List.drop_succ_cons, List.drop_zero]
 repeat still_step
 refine wpStill_nil ?_
 refine Lib.wpList_append_run _ rfl (.tmp 22) (.tmp 25) 36 36 rfl (.slice (some ⟨g, 0, none⟩) i cap) (.slice (some ⟨g, (i + 1) * 6, none⟩) (l.length - (i + 1)) (cap - (i + 1))) rfl rfl _ _ (HAP.out w2 hg2.out _ _) ?_
 have hg3 := yy (setRow_heap w2 g _ C1 _ _ hg2.out)
 have K3 := yy (K2.out.setRow (g := g) (.inl rfl) C1)
 clear hg2 K2 HAP
 generalize w2.setRow g C1 = w3 at hg3 K3 ⊢
 go_wp2_with (refine wpList_clear_at rfl (.tmp 31) 36 69 rfl _ Tryz.underlying36 zero69 z69_one g ((l.length - 1) * 6) (l.length - (l.length - 1)) (cap - (l.length - 1)) rfl C1 hg3.out (by simpa [Value.cells] using HFZ.out) ?_; intro w4 cs hcs hct HP4 hk4; have HCS := yy hcs; have HCT := yy hct; have HK4 := yy hk4; clear hcs hct hk4)
 go_ret
 exact ⟨_, rfl, HF.out _ HCS.out HCT.out _ HP4.out, Kept.trans' K3.out HK4.out (fun j hj => .inl (by subst hj; rfl)), rfl⟩
set_option maxHeartbeats 2000000 in
set_option maxRecDepth 100000 in
theorem del216 {w : World} {base : Nat} {v : Value} {l : List Vtx} (hown : OwnL w base v l) (hfew : l.length ≤ 1000000) (i : Nat) (hi : i < l.length) :
  Calls Tryz.prog 216 #[v, .int .i64 i, .int .i64 ((i : Int) + 1)] w fun e w' => ∃ v', e = .returned v' ∧ OwnL w' base v' (delAt l i) ∧ Kept (ownF v) w w' ∧ v'.ownBlock = v.ownBlock := by
 have hmix := mixed
 rcases hown.2 with ⟨rfl, hz⟩ | ⟨g, cap, cur, rfl, hg1, hg, r1, r2, r3, r4⟩
 ·omega
 have r4' : cur.toList.take (l.length * 2) = flat l := r4
 have r3' : cur.size = cap * 2 := r3
 have hC : cur.toList.take (i * 2) = flat (l.take i) := by
  have := flat_take l i (by omega)
  rw [← this, ← r4', List.take_take]
  show _ = List.take (min (i * 2) (l.length * 2)) cur.toList
  rw [Nat.min_eq_left (by omega)]
 have hdl : (l.drop (i + 1)).length = l.length - (i + 1) := by rw [List.length_drop]
 have hsrc : ∀ (W : World), W.heap[g]? = some (.cells cur 77 (0, 0)) → ∀ j u, (flat (l.drop (i + 1)))[j]? = some u → W.cell? ((⟨g, (i + 1) * 2, none⟩ : Addr).add j) = some u := by
  intro W hW j u hj
  have hadd : (⟨g, (i + 1) * 2, none⟩ : Addr).add j = ⟨g, (i + 1) * 2 + j, none⟩ := by unfold Addr.add; split <;> simp_all
  rw [hadd, blk_cell hW, ← Array.getElem?_toList]
  have hfl : flat l = flat (l.take (i + 1)) ++ flat (l.drop (i + 1)) := by rw [← flat_append, List.take_append_drop]
  have hlen : (flat (l.take (i + 1))).length = (i + 1) * 2 := by
   rw [flat_length, List.length_take, Nat.min_eq_left (by omega)]
   rfl
  have h1 : (flat l)[(i + 1) * 2 + j]? = some u := by
   rw [hfl, List.getElem?_append_right (by omega), hlen, Nat.add_sub_cancel_left]
   exact hj
  rw [← r4', List.getElem?_take] at h1
  split at h1
  ·exact h1
  cases h1
 have hnm : i + (l.length - (i + 1)) = l.length - 1 := by omega
 obtain ⟨C1, hC1⟩ : ∃ C1, C1 = (splice cur.toList (i * 2) (flat (l.drop (i + 1)))).toArray := ⟨_, rfl⟩
 have hfl2 : (flat (l.drop (i + 1))).length = (l.length - (i + 1)) * 2 := by rw [flat_length, hdl]; rfl
 have hfit : i * 2 + (l.length - (i + 1)) * 2 ≤ cur.size := by rw [r3']; omega
 have hC1s : C1.size = cur.size := by
  rw [hC1, List.size_toArray, length_splice _ _ _ (by rw [hfl2, Array.length_toList]; exact hfit), Array.length_toList]
 have hC1t : C1.toList.take ((l.length - 1) * 2) = flat (delAt l i) := by
  rw [hC1, List.toList_toArray, splice, hC, ← List.append_assoc]
  unfold delAt
  rw [flat_append]
  refine take_of_app _ _ _ ?_
  rw [List.length_append, hfl2, flat_length, List.length_take, Nat.min_eq_left (by omega)]
  show i * 2 + _ = _
  omega
 have hap : ∀ (ad : Addr), (∀ (W : World), W.heap[g]? = some (.cells cur 77 (0, 0)) → ∀ j u, (flat (l.drop (i + 1)))[j]? = some u → W.cell? (ad.add j) = some u) → ∀ (W : World), W.heap[g]? = some (.cells cur 77 (0, 0)) → ∀ ty c, (Builtin.append_ #[35, 35] ty #[.slice (some ⟨g, 0, none⟩) i cap, .slice (some ad) (l.length - (i + 1)) c]).run Tryz.prog W = .ok (.slice (some ⟨g, 0, none⟩) (l.length - 1) cap) (W.setRow g C1) := fun ad had W hW ty c => by
  have := run_append_room_k (α := Vtx) W ty g i cap ad (l.length - (i + 1)) c cur 77 (l.drop (i + 1)) hW hdl (had W hW) (by omega) hfit
  rw [hnm] at this
  rw [hC1]
  exact this
 have hap1 : if cap = i + 1 then ∀ (W : World), W.heap[g]? = some (.cells cur 77 (0, 0)) → ∀ ty c, (Builtin.append_ #[35, 35] ty #[.slice (some ⟨g, 0, none⟩) i cap, .slice (some ⟨g, 0, none⟩) (l.length - (i + 1)) c]).run Tryz.prog W = .ok (.slice (some ⟨g, 0, none⟩) (l.length - 1) cap) (W.setRow g C1)
   else ∀ (W : World), W.heap[g]? = some (.cells cur 77 (0, 0)) → ∀ ty c, (Builtin.append_ #[35, 35] ty #[.slice (some ⟨g, 0, none⟩) i cap, .slice (some ⟨g, (i + 1) * 2, none⟩) (l.length - (i + 1)) c]).run Tryz.prog W = .ok (.slice (some ⟨g, 0, none⟩) (l.length - 1) cap) (W.setRow g C1) := by
  split
  ·rename_i hce
   refine hap _ (fun W _ j u hj => ?_)
   rw [List.drop_of_length_le (by omega)] at hj
   simp [flat] at hj
  ·exact hap _ hsrc
 have HG := yy hg
 have HC1 := yy hC1t
 have HS1 := yy hC1s
 have R3 := yy r3'
 have hfew' := hfew
 have hb1 : (i : Int) ≤ (i : Int) + 1 := by omega
 have hb2 : (i : Int) + 1 ≤ (l.length : Int) := by omega
 have hb3 : (l.length : Int) ≤ (cap : Int) := by omega
 have hb4 : ¬ ((i : Int) = (i : Int) + 1) := by omega
 have hb5 : (0 : Int) ≤ (i : Int) + 1 := by omega
 have htn : ((i : Int) + 1).toNat = i + 1 := by omega
 have hb6 : (i : Int) ≤ (cap : Int) := by omega
 have hb7 : ¬ (cap = i) := by omega
 have hb8 : ((l.length - 1 : Nat) : Int) ≤ (l.length : Int) := by omega
 clear hap hg hC1t hC1s r3 r3' r4 r4' hsrc hC hown hC1 hfl2 hfit
 have hcb : l.length * 2 ≤ cap * 2 := by omega
 have hfin : ∀ (cs : Array Value), cs.size = C1.size → cs.toList.take ((l.length - 1) * 2) = C1.toList.take ((l.length - 1) * 2) → ∀ (W : World), W.heap[g]? = some (.cells cs 77 (0, 0)) → OwnL W base (.slice (some ⟨g, 0, none⟩) (l.length - 1) cap) (delAt l i) := by
  intro cs h1 h2 W hW
  refine ⟨by rw [flat_length], .inr ⟨g, cap, cs, by rw [delAt_length l i hi], hg1, hW, by rw [delAt_length l i hi]; omega, r2, by rw [h1, HS1.out, R3.out]; rfl, ?_⟩⟩
  rw [delAt_length l i hi]
  exact h2.trans HC1.out
 have HF := yy hfin
 have hfz : (l.length - 1) * 2 + (l.length - (l.length - 1)) * 2 ≤ C1.size := by rw [HS1.out, R3.out]; omega
 have HFZ := yy hfz
 have hne1 : ¬ (cap = l.length - 1) := by omega
 have hli : ((l.length : Int) - 1) = ((l.length - 1 : Nat) : Int) := by omega
 clear hfin hfz hcb
 by_cases hce : cap = i + 1
 ·rw [if_pos hce] at hap1
  subst hce
  rw [show l.length - (i + 1) = 0 by omega] at hap1
  have HAP := yy hap1
  clear hap1
  go_enter Tryz.func216, Tryz.ntmps216
  go_wp2_with fail
  refine region_tail 6 hmix (by kernel_rfl) fun w2 dd => ?_
  have hg2 := yy (dd.blk HG.out)
  have K2 := yy (dd.kept (ownF (.slice (some ⟨g, 0, none⟩) l.length (i + 1))))
  clear dd HG
  simp only [List.take_succ_cons, List.take_zero, List.drop_succ_cons, List.drop_zero]
  repeat still_step
  refine wpStill_nil ?_
  refine Lib.wpList_append_run _ rfl (.tmp 22) (.tmp 25) 35 35 rfl (.slice (some ⟨g, 0, none⟩) i (i + 1)) (.slice (some ⟨g, 0, none⟩) 0 0) rfl rfl _ _ (HAP.out w2 hg2.out _ _) ?_
  have hg3 := yy (setRow_heap w2 g _ C1 _ _ hg2.out)
  have K3 := yy (K2.out.setRow (g := g) (.inl rfl) C1)
  clear hg2 K2 HAP
  generalize w2.setRow g C1 = w3 at hg3 K3 ⊢
  go_wp2_with (refine wpList_clear_at rfl (.tmp 31) 35 77 rfl _ Tryz.underlying35 zero77 z77_one g ((l.length - 1) * 2) (l.length - (l.length - 1)) (i + 1 - (l.length - 1)) rfl C1 hg3.out (by simpa [Value.cells] using HFZ.out) ?_; intro w4 cs hcs hct HP4 hk4; have HCS := yy hcs; have HCT := yy hct; have HK4 := yy hk4; clear hcs hct hk4)
  go_ret
  exact ⟨_, rfl, HF.out _ HCS.out HCT.out _ HP4.out, Kept.trans' K3.out HK4.out (fun j hj => .inl (by subst hj; rfl)), rfl⟩
 rw [if_neg hce] at hap1
 have HAP := yy hap1
 clear hap1
 go_enter Tryz.func216, Tryz.ntmps216
 go_wp2_with fail
 refine region_tail 6 hmix (by kernel_rfl) fun w2 dd => ?_
 have hg2 := yy (dd.blk HG.out)
 have K2 := yy (dd.kept (ownF (.slice (some ⟨g, 0, none⟩) l.length cap)))
 clear dd HG
 simp only [List.take_succ_cons, List.take_zero, List.drop_succ_cons, List.drop_zero]
 repeat still_step
 refine wpStill_nil ?_
 refine Lib.wpList_append_run _ rfl (.tmp 22) (.tmp 25) 35 35 rfl (.slice (some ⟨g, 0, none⟩) i cap) (.slice (some ⟨g, (i + 1) * 2, none⟩) (l.length - (i + 1)) (cap - (i + 1))) rfl rfl _ _ (HAP.out w2 hg2.out _ _) ?_
 have hg3 := yy (setRow_heap w2 g _ C1 _ _ hg2.out)
 have K3 := yy (K2.out.setRow (g := g) (.inl rfl) C1)
 clear hg2 K2 HAP
 generalize w2.setRow g C1 = w3 at hg3 K3 ⊢
 go_wp2_with (refine wpList_clear_at rfl (.tmp 31) 35 77 rfl _ Tryz.underlying35 zero77 z77_one g ((l.length - 1) * 2) (l.length - (l.length - 1)) (cap - (l.length - 1)) rfl C1 hg3.out (by simpa [Value.cells] using HFZ.out) ?_; intro w4 cs hcs hct HP4 hk4; have HCS := yy hcs; have HCT := yy hct; have HK4 := yy hk4; clear hcs hct hk4)
 go_ret
 exact ⟨_, rfl, HF.out _ HCS.out HCT.out _ HP4.out, Kept.trans' K3.out HK4.out (fun j hj => .inl (by subst hj; rfl)), rfl⟩
end Go.Proofs.YthfagcdjbmhhcaaGreat
