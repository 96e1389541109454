/- slices.Insert of one element. -/
import Derived.Test.YthfagcdjbmhhcaaGreatK05
set_option linter.unusedVariables false
set_option linter.unusedSimpArgs false
namespace Go.Proofs.YthfagcdjbmhhcaaGreat
open Go.RowKit
attribute [local irreducible] wpQuiet
theorem ov174 (w : World) (B g off lb cb nA nB : Nat) (cA cB : Array Value) (hA : w.heap[B]? = some (.cells cA 77 (0, 0))) (hB : w.heap[g]? = some (.cells cB 77 (0, 0))) (hne : B ≠ g) (hk : cB.size ≠ 0) :
  (callFunc 174 #[.slice (some ⟨B, 0, none⟩) nA nB, .slice (some ⟨g, off, none⟩) lb cb]).run Tryz.prog w = .ok (.value (.bool false)) w := by
 rw [run_callFunc_extern Tryz.func174 (by kernel_rfl) (by kernel_rfl) (by kernel_rfl) (e := Extern.SlicesOverlaps.overlaps #[35, 35] #[4]) (by kernel_rfl),
  Lib.run_overlaps_apart w 35 4 77 Tryz.underlying35 2 (fun w => by kernel_rfl) ⟨B, 0, none⟩ ⟨g, off, none⟩ nA nB lb cb hne 77 77 cA.size cB.size (by simp [World.shape?, hA]) (by simp [World.shape?, hB]) hk (blk_frozen hA _) (blk_frozen hA _)]
 rfl
set_option maxHeartbeats 4000000 in
set_option maxRecDepth 100000 in
theorem ins127 {w : World} {base : Nat} {v : Value} {l : List Vtx} (hown : OwnL w base v l) (hbase : base ≤ w.heap.size) (hfew : l.length ≤ 1000000) (i : Nat) (hi : i ≤ l.length) (x : Vtx) (B : Nat)
  (hB : w.heap[B]? = some (.cells #[.int .i64 x.id, .int .i64 x.side] 77 (0, 0))) (hne : v.ownBlock ≠ some B) :
  Calls Tryz.prog 127 #[v, .int .i64 i, .slice (some ⟨B, 0, none⟩) 1 1] w fun e w' => ∃ v', e = .returned v' ∧ OwnL w' base v' (insAt l i x) ∧ Kept (ownF v) w w' ∧ (v'.ownBlock = v.ownBlock ∨ ∃ g, v'.ownBlock = some g ∧ w.heap.size ≤ g) := by
 have hnews : ∀ j u, (flat [x])[j]? = some u → w.cell? ((⟨B, 0, none⟩ : Addr).add j) = some u := fun j u hu => World.news_of_block hB j u (by simpa [flat, Rec.cs] using hu)
 have hmix := mixed
 rcases hown.2 with ⟨rfl, hz⟩ | ⟨g, cap, cur, rfl, hg1, hg, r1, r2, r3, r4⟩
 ·have hl : l = [] := List.eq_nil_of_length_eq_zero hz
  subst hl
  obtain rfl : i = 0 := by simpa using hi
  have HO := yy hown
  have HN := yy hnews
  clear hown hnews hB
  go_enter Tryz.func127, Tryz.ntmps127
  go_wp2_with (at_builtin; refine wpList_app (α := Vtx) rfl _ _ rfl rfl HO.out ⟨B, 0, none⟩ 1 1 [x] rfl rfl HN.out (by simp) hbase ?_; intro v' w' h1 h2 h3; have H1 := yy h1; have H2 := yy h2; have H3 := yy h3; clear h1 h2 h3)
  go_ret
  exact ⟨_, rfl, H1.out, H2.out, H3.out.imp id fun h => ⟨_, h, Nat.le_refl _⟩⟩
 ·have hne' : g ≠ B := fun e => hne (by rw [e]; rfl)
  by_cases hin : i = l.length
  ·subst hin
   have HO := yy hown
   have HN := yy hnews
   have hins : insAt l l.length x = l ++ [x] := by unfold insAt; simp
   have HI := yy hins
   clear hown hnews hB hins
   go_enter Tryz.func127, Tryz.ntmps127
   go_wp2_with (at_builtin; refine wpList_app (α := Vtx) rfl _ _ rfl (v := .slice (some ⟨g, 0, none⟩) l.length cap) rfl HO.out ⟨B, 0, none⟩ 1 1 [x] rfl rfl HN.out (by simp; omega) hbase ?_; intro v' w' h1 h2 h3; have H1 := yy h1; have H2 := yy h2; have H3 := yy h3; clear h1 h2 h3)
   all_goals
    go_ret
    exact ⟨_, rfl, by rw [HI.out]; exact H1.out, H2.out, H3.out.imp id fun h => ⟨_, h, Nat.le_refl _⟩⟩
  ·have hlt : i < l.length := by omega
   have hltI : (i : Int) < (l.length : Int) := by omega
   have hneI : ¬ ((i : Int) = (l.length : Int)) := by omega
   have hneN : ¬ (i = l.length) := hin
   have hin' : i ≤ l.length := hi
   have hC : cur.toList.take (i * 2) = flat (l.take i) := by
    rw [← flat_take l i hi]
    have r4' : cur.toList.take (l.length * Rec.k Vtx) = flat l := r4
    rw [← r4', List.take_take, Nat.min_eq_left (Nat.mul_le_mul_right _ hi)]
    rfl
   have hsrc : ∀ (W : World), W.heap[g]? = some (.cells cur 77 (0, 0)) → ∀ j u, (flat (l.drop i))[j]? = some u → W.cell? ((⟨g, i * 2, none⟩ : Addr).add j) = some u := by
    intro W hW j u hj
    have hadd : (⟨g, i * 2, none⟩ : Addr).add j = ⟨g, i * 2 + j, none⟩ := by unfold Addr.add; split <;> simp_all
    rw [hadd, blk_cell hW, ← Array.getElem?_toList]
    have hfl : flat l = flat (l.take i) ++ flat (l.drop i) := by rw [← flat_append, List.take_append_drop]
    have hlen : (flat (l.take i)).length = i * 2 := by
     rw [flat_length, List.length_take, Nat.min_eq_left hi]
     rfl
    have h1 : (flat l)[i * 2 + j]? = some u := by
     rw [hfl, List.getElem?_append_right (by omega), hlen, Nat.add_sub_cancel_left]
     exact hj
    have r4' : cur.toList.take (l.length * Rec.k Vtx) = flat l := r4
    rw [← r4', List.getElem?_take] at h1
    split at h1
    ·exact h1
    ·cases h1
   have r3' : cur.size = cap * 2 := r3
   have hdl : (l.drop i).length = l.length - i := by rw [List.length_drop]
   by_cases hroom : l.length + 1 ≤ cap
   ·have hcur0 : cur.size ≠ 0 := by omega
    have hov := fun lb cb => ov174 w B g ((i + 1) * 2) lb cb 1 1 _ _ hB hg (Ne.symm hne') hcur0
    have hfit1 : (i + 1) * 2 + (l.drop i).length * 2 ≤ cur.size := by rw [hdl, r3', ← Nat.add_mul]; exact Nat.mul_le_mul_right _ (by omega)
    have hcp1 : ∀ (W : World), W.heap[g]? = some (.cells cur 77 (0, 0)) → ∀ ty dc sc, (Builtin.copy_ #[35, 35] ty #[.slice (some ⟨g, (i + 1) * 2, none⟩) (l.length - i) dc, .slice (some ⟨g, i * 2, none⟩) (l.length + 1 - i) sc]).run Tryz.prog W = .ok (goInt (l.drop i).length) (W.setRow g (splice cur.toList ((i + 1) * 2) (flat (l.drop i))).toArray) := fun W hW ty dc sc =>
     run_copy_k (α := Vtx) W ty g ((i + 1) * 2) (l.length - i) dc ⟨g, i * 2, none⟩ (l.length + 1 - i) sc cur 77 (l.drop i) hW (by rw [hdl]; simp only [Nat.min_def]; split <;> omega) (hsrc W hW) hfit1
    obtain ⟨C1, hC1⟩ : ∃ C1, C1 = (splice cur.toList ((i + 1) * 2) (flat (l.drop i))).toArray := ⟨_, rfl⟩
    have hC1s : C1.size = cur.size := by
     rw [hC1, List.size_toArray, length_splice _ _ _ (by rw [flat_length, Array.length_toList]; exact hfit1), Array.length_toList]
    rw [← hC1] at hcp1
    have hcp2 : ∀ (W : World), W.heap[g]? = some (.cells C1 77 (0, 0)) → W.heap[B]? = some (.cells #[.int .i64 x.id, .int .i64 x.side] 77 (0, 0)) → ∀ ty dc, (Builtin.copy_ #[35, 35] ty #[.slice (some ⟨g, i * 2, none⟩) (l.length + 1 - i) dc, .slice (some ⟨B, 0, none⟩) 1 1]).run Tryz.prog W = .ok (goInt 1) (W.setRow g (splice C1.toList (i * 2) (flat [x])).toArray) := fun W hW hWB ty dc =>
     run_copy_k (α := Vtx) W ty g (i * 2) (l.length + 1 - i) dc ⟨B, 0, none⟩ 1 1 C1 77 [x] hW (by simp only [Nat.min_def]; split <;> simp <;> omega) (fun j u hu => World.news_of_block hWB j u (by simpa [flat, Rec.cs] using hu)) (by rw [hC1s, r3']; show i * 2 + 1 * 2 ≤ cap * 2; rw [← Nat.add_mul]; exact Nat.mul_le_mul_right _ (by omega))
    have hres : (splice C1.toList (i * 2) (flat [x])).take ((l.length + 1) * 2) = flat (insAt l i x) ∧ (splice C1.toList (i * 2) (flat [x])).length = cur.size := by
     have hx : (flat [x]).length = 2 := rfl
     have hb : i * 2 + 2 ≤ cur.toList.length := by
      rw [Array.length_toList, r3', show i * 2 + 2 = (i + 1) * 2 by omega]
      exact Nat.mul_le_mul_right _ (by omega)
     refine ⟨?_, ?_⟩
     ·rw [hC1, List.toList_toArray, show (i + 1) * 2 = i * 2 + 2 by omega, splice_in _ _ _ _ _ hx hb]
      exact row_ins cur.toList l i x hi hC _
     ·rw [length_splice _ _ _ (by rw [hx, Array.length_toList, hC1s, ← Array.length_toList]; exact hb), Array.length_toList, hC1s]
    have HR := yy hres
    have R3 := yy r3
    have HCP1 := yy hcp1
    have HCP2 := yy hcp2
    have HG := yy hg
    have HB := yy hB
    have hb1 : ¬ ((cap : Int) < (l.length : Int) + 1) := by omega
    have hw1 : IntKind.i64.wrap ((i : Int) + 1) = (i : Int) + 1 := by rw [IntKind.wrap_i64]; omega
    have hb7 : (i : Int) ≤ (l.length : Int) + 1 := by omega
    have hb2 : (0 : Int) ≤ (i : Int) + 1 := by omega
    have hb3 : (i : Int) + 1 ≤ (l.length : Int) + 1 := by omega
    have htn : ((i : Int) + 1).toNat = i + 1 := by omega
    have htl : ((l.length : Int) + 1).toNat = l.length + 1 := by omega
    have hb4 : ¬ (cap = i + 1) := by omega
    have hb5 : ¬ (cap = i) := by omega
    have hb6 : (l.length : Int) + 1 ≤ (cap : Int) := by omega
    clear hres hcp1 hcp2 hg hB hC hsrc hfit1 hC1 hC1s hcur0 hown hnews r4 r3 r3' hin
    go_enter Tryz.func127, Tryz.ntmps127
    go_wp2_with fail
    refine region_tail 8 hmix (by kernel_rfl) fun w2 dd => ?_
    have hg2 := yy (dd.blk HG.out)
    have hB2 := yy (dd.blk HB.out)
    have K2 := yy (dd.kept (ownF (.slice (some ⟨g, 0, none⟩) l.length cap)))
    clear dd HG HB
    simp only [List.take_succ_cons, List.take_zero, List.drop_succ_cons, List.drop_zero]
    repeat still_step
    refine wpStill_nil ?_
    refine wpList_copy_eq rfl (.tmp 73) (.tmp 76) 35 35 rfl (.slice (some ⟨g, (i + 1) * 2, none⟩) (l.length - i) (cap - (i + 1))) (.slice (some ⟨g, i * 2, none⟩) (l.length + 1 - i) (cap - i)) rfl rfl (HCP1.out w2 hg2.out _ _ _) ?_
    have hg3 := yy (setRow_heap w2 g _ C1 _ _ hg2.out)
    have hB3 := yy ((setRow_other w2 g B C1 (Ne.symm hne')).trans hB2.out)
    have K3 := yy (K2.out.setRow (g := g) (.inl rfl) C1)
    clear hg2 hB2 K2
    generalize w2.setRow g C1 = w3 at hg3 hB3 K3 ⊢
    have hq2 := HCP2.out w3 hg3.out hB3.out 3 (cap - i)
    go_wp2
    go_ret
    have hok : OwnL (w3.setRow g (splice C1.toList (i * 2) (flat [x])).toArray) base (.slice (some ⟨g, 0, none⟩) (l.length + 1) cap) (insAt l i x) := by
     refine ⟨by rw [flat_length], .inr ⟨g, cap, (splice C1.toList (i * 2) (flat [x])).toArray, ?_, hg1, setRow_heap w3 g _ _ _ _ hg3.out, by rw [insAt_length l i x hi]; exact hroom, r2, ?_, ?_⟩⟩
     ·rw [insAt_length l i x hi]
     ·rw [List.size_toArray, HR.out.2]; exact R3.out
     ·rw [insAt_length l i x hi]; exact HR.out.1
    exact ⟨_, rfl, hok, K3.out.setRow (g := g) (.inl rfl) _, .inl rfl⟩
   ·have hce : cap = l.length := by omega
    subst hce
    obtain ⟨inf, hinf, hz0, hz1, hz2⟩ := info_parts (RecI.info (α := Vtx))
    have hbp := RecI.bpos (α := Vtx)
    have hold : (Builtin.firstCells inf.size i (.slice (some ⟨g, 0, none⟩) i l.length)).run Tryz.prog w.drew = .ok (flat (l.take i)).toArray w.drew := by
     rw [hz1]
     have hlen : (flat (l.take i)).length = i * Rec.k Vtx := by rw [flat_length, List.length_take, Nat.min_eq_left hi]
     have := run_loadCells_list (P := Tryz.prog) w.drew ⟨g, 0, none⟩ (flat (l.take i)) (fun j u hj => by
      have hadd : (⟨g, 0, none⟩ : Addr).add j = ⟨g, j, none⟩ := by unfold Addr.add; split <;> simp_all
      rw [hadd, blk_cell (w := w.drew) (show w.drew.heap[g]? = _ from hg), ← Array.getElem?_toList]
      rw [← hC, List.getElem?_take] at hj
      split at hj
      ·exact hj
      ·cases hj)
     rw [hlen] at this
     exact this
    have hk1 : i + (l.length + 1 - i) = l.length + 1 := by omega
    have hap0 := fun ty => Lib.run_append_grow_zeros w 35 3 ty 77 inf _ .i64 .i64 Tryz.underlying35 Tryz.underlying3 hinf hz0 (some ⟨g, 0, none⟩) i l.length (flat (l.take i)) hold (l.length + 1 - i) (by omega) (by rw [hz1]; exact RecI.kpos) (by omega) (by omega)
     (by rw [hz2]; have : (l.length + 1 - i) * RecI.by_ Vtx ≤ 1000001 * 64 := Nat.mul_le_mul (by omega) hbp; omega)
     (by rw [hz2, hk1]; refine growslice_fits (by omega) ?_; have : (l.length + 1) * RecI.by_ Vtx ≤ 1000001 * 64 := Nat.mul_le_mul (by omega) hbp; omega)
    rw [hk1] at hap0
    have hGn : l.length + 1 ≤ grownCap w (l.length + 1) l.length 77 := grownCap_ge w _ _ _
    have hGm : grownCap w (l.length + 1) l.length 77 ≤ maxLen := grownCap_le_maxLen w (l.length + 1) l.length 77 (by unfold maxLen; omega)
    obtain ⟨G, hG⟩ : ∃ G, G = grownCap w (l.length + 1) l.length 77 := ⟨_, rfl⟩
    rw [← hG] at hap0 hGn hGm
    obtain ⟨ROW, hROW⟩ : ∃ ROW : Array Value, ROW = (flat (l.take i)).toArray ++ Builtin.zeroCells (RecI.z Vtx).cells (l.length + 1 - i) ++ Builtin.zeroCells (RecI.z Vtx).cells (G - (l.length + 1)) := ⟨_, rfl⟩
    rw [← hROW] at hap0
    have hlt0 : (flat (l.take i)).length = i * 2 := by rw [flat_length, List.length_take, Nat.min_eq_left hi]; rfl
    have hzs : (RecI.z Vtx).cells.size = 2 := RecI.zs
    have hRs : ROW.size = G * 2 := by
     rw [hROW, Array.size_append, Array.size_append, List.size_toArray, hlt0, size_zeroCells, size_zeroCells, hzs, ← Nat.add_mul, ← Nat.add_mul]
     congr 1
     omega
    have hRC : ROW.toList.take (i * 2) = flat (l.take i) := by
     rw [hROW, Array.toList_append, Array.toList_append, List.append_assoc, List.toList_toArray]
     exact take_of_app _ _ _ hlt0
    have hNI : ((l.length : Int) + 1 - (i : Int)) = ((l.length + 1 - i : Nat) : Int) := by omega
    obtain ⟨W1, hW1⟩ : ∃ W1, W1 = w.drew.alloc (.cells ROW 77) := ⟨_, rfl⟩
    have hgN : W1.heap[w.heap.size]? = some (.cells ROW 77 (0, 0)) := by rw [hW1]; exact blk_new w.drew _
    have kW1 : Gro w W1 := by rw [hW1]; exact ((Gro.refl w).drw (show Drw w w.drew from ⟨rfl, rfl, rfl, rfl, Nat.le_succ _⟩)).alloc _
    rw [← hW1] at hap0
    have hap : ∀ ty, (Builtin.append_ #[35, 3] ty #[.slice (some ⟨g, 0, none⟩) i l.length, .int .i64 ((l.length : Int) + 1 - (i : Int))]).run Tryz.prog w = .ok (.slice (some ⟨w.heap.size, 0, none⟩) (l.length + 1) G) W1 := fun ty => by rw [hNI]; exact hap0 ty
    have hx : (flat [x]).length = 2 := rfl
    have hfit1 : i * 2 + 2 ≤ ROW.size := by
     rw [hRs, show i * 2 + 2 = (i + 1) * 2 by omega]
     exact Nat.mul_le_mul_right _ (by omega)
    have hcp1 : (Builtin.copy_ #[35, 35] 3 #[.slice (some ⟨w.heap.size, i * 2, none⟩) (l.length + 1 - i) (G - i), .slice (some ⟨B, 0, none⟩) 1 1]).run Tryz.prog W1 = .ok (goInt 1) (W1.setRow w.heap.size (splice ROW.toList (i * 2) (flat [x])).toArray) :=
     run_copy_k (α := Vtx) W1 3 w.heap.size (i * 2) (l.length + 1 - i) (G - i) ⟨B, 0, none⟩ 1 1 ROW 77 [x] hgN (by simp only [Nat.min_def]; split <;> simp <;> omega) (fun j u hu => World.news_of_block (kW1.blk hB) j u (by simpa [flat, Rec.cs] using hu)) hfit1
    obtain ⟨C1, hC1⟩ : ∃ C1, C1 = (splice ROW.toList (i * 2) (flat [x])).toArray := ⟨_, rfl⟩
    have hC1s : C1.size = ROW.size := by
     rw [hC1, List.size_toArray, length_splice _ _ _ (by rw [hx, Array.length_toList]; exact hfit1), Array.length_toList]
    rw [← hC1] at hcp1
    obtain ⟨W2, hW2⟩ : ∃ W2, W2 = W1.setRow w.heap.size C1 := ⟨_, rfl⟩
    rw [← hW2] at hcp1
    have hgN2 : W2.heap[w.heap.size]? = some (.cells C1 77 (0, 0)) := by rw [hW2]; exact setRow_heap W1 _ _ _ _ _ hgN
    have hgl : g < w.heap.size := blk_lt hg
    have kW2 : Gro w W2 := by rw [hW2]; exact Kept.setRow kW1 (.inr (Nat.le_refl _)) C1
    have hg2 : W2.heap[g]? = some (.cells cur 77 (0, 0)) := kW2.blk hg
    have hfit2 : (i + 1) * 2 + (l.drop i).length * 2 ≤ C1.size := by rw [hdl, hC1s, hRs, ← Nat.add_mul]; exact Nat.mul_le_mul_right _ (by omega)
    have hcp2 : ∀ (W : World), W.heap[w.heap.size]? = some (.cells C1 77 (0, 0)) → W.heap[g]? = some (.cells cur 77 (0, 0)) → ∀ ty dc sc, (Builtin.copy_ #[35, 35] ty #[.slice (some ⟨w.heap.size, (i + 1) * 2, none⟩) (l.length - i) dc, .slice (some ⟨g, i * 2, none⟩) (l.length - i) sc]).run Tryz.prog W = .ok (goInt (l.drop i).length) (W.setRow w.heap.size (splice C1.toList ((i + 1) * 2) (flat (l.drop i))).toArray) := fun W hW hWg ty dc sc =>
     run_copy_k (α := Vtx) W ty w.heap.size ((i + 1) * 2) (l.length - i) dc ⟨g, i * 2, none⟩ (l.length - i) sc C1 77 (l.drop i) hW (by rw [hdl]; simp only [Nat.min_def]; split <;> omega) (hsrc W hWg) hfit2
    have hres : (splice C1.toList ((i + 1) * 2) (flat (l.drop i))).take ((l.length + 1) * 2) = flat (insAt l i x) ∧ (splice C1.toList ((i + 1) * 2) (flat (l.drop i))).length = G * 2 := by
     refine ⟨?_, ?_⟩
     ·rw [hC1, List.toList_toArray, show (i + 1) * 2 = i * 2 + 2 by omega, splice_on _ _ _ _ _ hx (by rw [Array.length_toList]; exact hfit1)]
      exact row_ins ROW.toList l i x hi hRC _
     ·rw [length_splice _ _ _ (by rw [flat_length, Array.length_toList]; exact hfit2), Array.length_toList, hC1s, hRs]
    have HR := yy hres
    have HCP2 := yy hcp2
    have HG2 := yy hg2
    have HN2 := yy hgN2
    have KW2 := yy kW2
    have GM := yy hGm
    have GN := yy hGn
    have GL := yy hgl
    have hb1 : ((l.length : Int) < (l.length : Int) + 1) := by omega
    have hw1 : IntKind.i64.wrap ((i : Int) + 1) = (i : Int) + 1 := by rw [IntKind.wrap_i64]; omega
    have hw2 : IntKind.i64.wrap ((l.length : Int) + 1 - (i : Int)) = (l.length : Int) + 1 - (i : Int) := by rw [IntKind.wrap_i64]; omega
    have hb7 : (i : Int) ≤ (l.length : Int) + 1 := by omega
    have hb2 : (0 : Int) ≤ (i : Int) + 1 := by omega
    have hb3 : (i : Int) + 1 ≤ (l.length : Int) + 1 := by omega
    have htn : ((i : Int) + 1).toNat = i + 1 := by omega
    have hb4 : ¬ (G = i + 1) := by omega
    have hb5 : ¬ (G = i) := by omega
    have hb8 : ¬ (l.length = i) := by omega
    have hb9 : (i : Int) ≤ (l.length : Int) := by omega
    clear hres hcp2 hg2 hgN2 kW2 hGm hg hB hC hsrc hfit1 hC1 hC1s hown hnews r4 r3 r3' hin hap0 hNI hold hz0 hz1 hz2 hinf hbp hROW hRs hRC hlt0 hzs hW1 hW2 hgN kW1 hfit2 hx hgl hk1 hG
    go_enter Tryz.func127, Tryz.ntmps127
    go_wp2_with (at_builtin; refine Lib.wpList_append_run _ rfl _ _ 35 3 rfl _ _ rfl rfl _ _ (hap _) ?_)
    refine region_tail 8 hmix (by kernel_rfl) fun w2 dd => ?_
    have hg2 := yy (dd.blk HG2.out)
    have hN2 := yy (dd.blk HN2.out)
    have K2 := yy (KW2.out.drw dd)
    clear dd HG2 HN2 KW2
    simp only [List.take_succ_cons, List.take_zero, List.drop_succ_cons, List.drop_zero]
    repeat still_step
    refine wpStill_nil ?_
    refine wpList_copy_eq rfl (.tmp 50) (.tmp 53) 35 35 rfl (.slice (some ⟨w.heap.size, (i + 1) * 2, none⟩) (l.length - i) (G - (i + 1))) (.slice (some ⟨g, i * 2, none⟩) (l.length - i) (l.length - i)) rfl rfl (HCP2.out w2 hN2.out hg2.out _ _ _) ?_
    have K3 : Gro w (w2.setRow w.heap.size (splice C1.toList ((i + 1) * 2) (flat (l.drop i))).toArray) := Kept.setRow K2.out (.inr (Nat.le_refl _)) _
    have hok : OwnL (w2.setRow w.heap.size (splice C1.toList ((i + 1) * 2) (flat (l.drop i))).toArray) base (.slice (some ⟨w.heap.size, 0, none⟩) (l.length + 1) G) (insAt l i x) := by
     refine ⟨by rw [flat_length], .inr ⟨w.heap.size, G, (splice C1.toList ((i + 1) * 2) (flat (l.drop i))).toArray, ?_, hbase, setRow_heap w2 _ _ _ _ _ hN2.out, by rw [insAt_length l i x hi]; exact GN.out, GM.out, ?_, ?_⟩⟩
     ·rw [insAt_length l i x hi]
     ·rw [List.size_toArray]; exact HR.out.2
     ·rw [insAt_length l i x hi]; exact HR.out.1
    have HOK := yy hok
    have HK3 := yy K3
    clear hok K3 HCP2 HR hN2 hg2 K2
    generalize w2.setRow w.heap.size (splice C1.toList ((i + 1) * 2) (flat (l.drop i))).toArray = w3 at HOK HK3 ⊢
    go_wp2
    go_ret
    exact ⟨_, rfl, HOK.out, HK3.out.kept _, .inr ⟨_, rfl, Nat.le_refl _⟩⟩
theorem ov178 (w : World) (B g off lb cb nA nB : Nat) (cA cB : Array Value) (hA : w.heap[B]? = some (.cells cA 69 (0, 0))) (hB : w.heap[g]? = some (.cells cB 69 (0, 0))) (hne : B ≠ g) (hk : cB.size ≠ 0) :
  (callFunc 178 #[.slice (some ⟨B, 0, none⟩) nA nB, .slice (some ⟨g, off, none⟩) lb cb]).run Tryz.prog w = .ok (.value (.bool false)) w := by
 rw [run_callFunc_extern Tryz.func178 (by kernel_rfl) (by kernel_rfl) (by kernel_rfl) (e := Extern.SlicesOverlaps.overlaps #[36, 36] #[4]) (by kernel_rfl),
  Lib.run_overlaps_apart w 36 4 69 Tryz.underlying36 6 (fun w => by kernel_rfl) ⟨B, 0, none⟩ ⟨g, off, none⟩ nA nB lb cb hne 69 69 cA.size cB.size (by simp [World.shape?, hA]) (by simp [World.shape?, hB]) hk (blk_frozen hA _) (blk_frozen hA _)]
 rfl
set_option maxHeartbeats 4000000 in
set_option maxRecDepth 100000 in
theorem ins130 {w : World} {base : Nat} {v : Value} {l : List Edg} (hown : OwnL w base v l) (hbase : base ≤ w.heap.size) (hfew : l.length ≤ 1000000) (i : Nat) (hi : i ≤ l.length) (x : Edg) (B : Nat)
  (hB : w.heap[B]? = some (.cells #[.int .i64 x.id, .int .i64 x.src, .int .i64 x.dst, .bool x.dir, .int .i64 x.weight, .int .i64 x.cap] 69 (0, 0))) (hne : v.ownBlock ≠ some B) :
  Calls Tryz.prog 130 #[v, .int .i64 i, .slice (some ⟨B, 0, none⟩) 1 1] w fun e w' => ∃ v', e = .returned v' ∧ OwnL w' base v' (insAt l i x) ∧ Kept (ownF v) w w' ∧ (v'.ownBlock = v.ownBlock ∨ ∃ g, v'.ownBlock = some g ∧ w.heap.size ≤ g) := by
 have hnews : ∀ j u, (flat [x])[j]? = some u → w.cell? ((⟨B, 0, none⟩ : Addr).add j) = some u := fun j u hu => World.news_of_block hB j u (by simpa [flat, Rec.cs] using hu)
 have hmix := mixed
 rcases hown.2 with ⟨rfl, hz⟩ | ⟨g, cap, cur, rfl, hg1, hg, r1, r2, r3, r4⟩
 ·have hl : l = [] := List.eq_nil_of_length_eq_zero hz
  subst hl
  obtain rfl : i = 0 := by simpa using hi
  have HO := yy hown
  have HN := yy hnews
  clear hown hnews hB
  go_enter Tryz.func130, Tryz.ntmps130
  go_wp2_with (at_builtin; refine wpList_app (α := Edg) rfl _ _ rfl rfl HO.out ⟨B, 0, none⟩ 1 1 [x] rfl rfl HN.out (by simp) hbase ?_; intro v' w' h1 h2 h3; have H1 := yy h1; have H2 := yy h2; have H3 := yy h3; clear h1 h2 h3)
  go_ret
  exact ⟨_, rfl, H1.out, H2.out, H3.out.imp id fun h => ⟨_, h, Nat.le_refl _⟩⟩
 ·have hne' : g ≠ B := fun e => hne (by rw [e]; rfl)
  by_cases hin : i = l.length
  ·subst hin
   have HO := yy hown
   have HN := yy hnews
   have hins : insAt l l.length x = l ++ [x] := by unfold insAt; simp
   have HI := yy hins
   clear hown hnews hB hins
   go_enter Tryz.func130, Tryz.ntmps130
   go_wp2_with (at_builtin; refine wpList_app (α := Edg) rfl _ _ rfl (v := .slice (some ⟨g, 0, none⟩) l.length cap) rfl HO.out ⟨B, 0, none⟩ 1 1 [x] rfl rfl HN.out (by simp; omega) hbase ?_; intro v' w' h1 h2 h3; have H1 := yy h1; have H2 := yy h2; have H3 := yy h3; clear h1 h2 h3)
   all_goals
    go_ret
    exact ⟨_, rfl, by rw [HI.out]; exact H1.out, H2.out, H3.out.imp id fun h => ⟨_, h, Nat.le_refl _⟩⟩
  ·have hlt : i < l.length := by omega
   have hltI : (i : Int) < (l.length : Int) := by omega
   have hneI : ¬ ((i : Int) = (l.length : Int)) := by omega
   have hneN : ¬ (i = l.length) := hin
   have hin' : i ≤ l.length := hi
   have hC : cur.toList.take (i * 6) = flat (l.take i) := by
    rw [← flat_take l i hi]
    have r4' : cur.toList.take (l.length * Rec.k Edg) = flat l := r4
    rw [← r4', List.take_take, Nat.min_eq_left (Nat.mul_le_mul_right _ hi)]
    rfl
   have hsrc : ∀ (W : World), W.heap[g]? = some (.cells cur 69 (0, 0)) → ∀ j u, (flat (l.drop i))[j]? = some u → W.cell? ((⟨g, i * 6, none⟩ : Addr).add j) = some u := by
    intro W hW j u hj
    have hadd : (⟨g, i * 6, none⟩ : Addr).add j = ⟨g, i * 6 + j, none⟩ := by unfold Addr.add; split <;> simp_all
    rw [hadd, blk_cell hW, ← Array.getElem?_toList]
    have hfl : flat l = flat (l.take i) ++ flat (l.drop i) := by rw [← flat_append, List.take_append_drop]
    have hlen : (flat (l.take i)).length = i * 6 := by
     rw [flat_length, List.length_take, Nat.min_eq_left hi]
     rfl
    have h1 : (flat l)[i * 6 + j]? = some u := by
     rw [hfl, List.getElem?_append_right (by omega), hlen, Nat.add_sub_cancel_left]
     exact hj
    have r4' : cur.toList.take (l.length * Rec.k Edg) = flat l := r4
    rw [← r4', List.getElem?_take] at h1
    split at h1
    ·exact h1
    ·cases h1
   have r3' : cur.size = cap * 6 := r3
   have hdl : (l.drop i).length = l.length - i := by rw [List.length_drop]
   by_cases hroom : l.length + 1 ≤ cap
   ·have hcur0 : cur.size ≠ 0 := by omega
    have hov := fun lb cb => ov178 w B g ((i + 1) * 6) lb cb 1 1 _ _ hB hg (Ne.symm hne') hcur0
    have hfit1 : (i + 1) * 6 + (l.drop i).length * 6 ≤ cur.size := by rw [hdl, r3', ← Nat.add_mul]; exact Nat.mul_le_mul_right _ (by omega)
    have hcp1 : ∀ (W : World), W.heap[g]? = some (.cells cur 69 (0, 0)) → ∀ ty dc sc, (Builtin.copy_ #[36, 36] ty #[.slice (some ⟨g, (i + 1) * 6, none⟩) (l.length - i) dc, .slice (some ⟨g, i * 6, none⟩) (l.length + 1 - i) sc]).run Tryz.prog W = .ok (goInt (l.drop i).length) (W.setRow g (splice cur.toList ((i + 1) * 6) (flat (l.drop i))).toArray) := fun W hW ty dc sc =>
     run_copy_k (α := Edg) W ty g ((i + 1) * 6) (l.length - i) dc ⟨g, i * 6, none⟩ (l.length + 1 - i) sc cur 69 (l.drop i) hW (by rw [hdl]; simp only [Nat.min_def]; split <;> omega) (hsrc W hW) hfit1
    obtain ⟨C1, hC1⟩ : ∃ C1, C1 = (splice cur.toList ((i + 1) * 6) (flat (l.drop i))).toArray := ⟨_, rfl⟩
    have hC1s : C1.size = cur.size := by
     rw [hC1, List.size_toArray, length_splice _ _ _ (by rw [flat_length, Array.length_toList]; exact hfit1), Array.length_toList]
    rw [← hC1] at hcp1
    have hcp2 : ∀ (W : World), W.heap[g]? = some (.cells C1 69 (0, 0)) → W.heap[B]? = some (.cells #[.int .i64 x.id, .int .i64 x.src, .int .i64 x.dst, .bool x.dir, .int .i64 x.weight, .int .i64 x.cap] 69 (0, 0)) → ∀ ty dc, (Builtin.copy_ #[36, 36] ty #[.slice (some ⟨g, i * 6, none⟩) (l.length + 1 - i) dc, .slice (some ⟨B, 0, none⟩) 1 1]).run Tryz.prog W = .ok (goInt 1) (W.setRow g (splice C1.toList (i * 6) (flat [x])).toArray) := fun W hW hWB ty dc =>
     run_copy_k (α := Edg) W ty g (i * 6) (l.length + 1 - i) dc ⟨B, 0, none⟩ 1 1 C1 69 [x] hW (by simp only [Nat.min_def]; split <;> simp <;> omega) (fun j u hu => World.news_of_block hWB j u (by simpa [flat, Rec.cs] using hu)) (by rw [hC1s, r3']; show i * 6 + 1 * 6 ≤ cap * 6; rw [← Nat.add_mul]; exact Nat.mul_le_mul_right _ (by omega))
    have hres : (splice C1.toList (i * 6) (flat [x])).take ((l.length + 1) * 6) = flat (insAt l i x) ∧ (splice C1.toList (i * 6) (flat [x])).length = cur.size := by
     have hx : (flat [x]).length = 6 := rfl
     have hb : i * 6 + 6 ≤ cur.toList.length := by
      rw [Array.length_toList, r3', show i * 6 + 6 = (i + 1) * 6 by omega]
      exact Nat.mul_le_mul_right _ (by omega)
     refine ⟨?_, ?_⟩
     ·rw [hC1, List.toList_toArray, show (i + 1) * 6 = i * 6 + 6 by omega, splice_in _ _ _ _ _ hx hb]
      exact row_ins cur.toList l i x hi hC _
     ·rw [length_splice _ _ _ (by rw [hx, Array.length_toList, hC1s, ← Array.length_toList]; exact hb), Array.length_toList, hC1s]
    have HR := yy hres
    have R3 := yy r3
    have HCP1 := yy hcp1
    have HCP2 := yy hcp2
    have HG := yy hg
    have HB := yy hB
    have hb1 : ¬ ((cap : Int) < (l.length : Int) + 1) := by omega
    have hw1 : IntKind.i64.wrap ((i : Int) + 1) = (i : Int) + 1 := by rw [IntKind.wrap_i64]; omega
    have hb7 : (i : Int) ≤ (l.length : Int) + 1 := by omega
    have hb2 : (0 : Int) ≤ (i : Int) + 1 := by omega
    have hb3 : (i : Int) + 1 ≤ (l.length : Int) + 1 := by omega
    have htn : ((i : Int) + 1).toNat = i + 1 := by omega
    have htl : ((l.length : Int) + 1).toNat = l.length + 1 := by omega
    have hb4 : ¬ (cap = i + 1) := by omega
    have hb5 : ¬ (cap = i) := by omega
    have hb6 : (l.length : Int) + 1 ≤ (cap : Int) := by omega
    clear hres hcp1 hcp2 hg hB hC hsrc hfit1 hC1 hC1s hcur0 hown hnews r4 r3 r3' hin
    go_enter Tryz.func130, Tryz.ntmps130
    go_wp2_with fail
    refine region_tail 8 hmix (by kernel_rfl) fun w2 dd => ?_
    have hg2 := yy (dd.blk HG.out)
    have hB2 := yy (dd.blk HB.out)
    have K2 := yy (dd.kept (ownF (.slice (some ⟨g, 0, none⟩) l.length cap)))
    clear dd HG HB
    simp only [List.take_succ_cons, List.take_zero, List.drop_succ_cons, List.drop_zero]
    repeat still_step
    refine wpStill_nil ?_
    refine wpList_copy_eq rfl (.tmp 73) (.tmp 76) 36 36 rfl (.slice (some ⟨g, (i + 1) * 6, none⟩) (l.length - i) (cap - (i + 1))) (.slice (some ⟨g, i * 6, none⟩) (l.length + 1 - i) (cap - i)) rfl rfl (HCP1.out w2 hg2.out _ _ _) ?_
    have hg3 := yy (setRow_heap w2 g _ C1 _ _ hg2.out)
    have hB3 := yy ((setRow_other w2 g B C1 (Ne.symm hne')).trans hB2.out)
    have K3 := yy (K2.out.setRow (g := g) (.inl rfl) C1)
    clear hg2 hB2 K2
    generalize w2.setRow g C1 = w3 at hg3 hB3 K3 ⊢
    have hq2 := HCP2.out w3 hg3.out hB3.out 3 (cap - i)
    go_wp2
    go_ret
    have hok : OwnL (w3.setRow g (splice C1.toList (i * 6) (flat [x])).toArray) base (.slice (some ⟨g, 0, none⟩) (l.length + 1) cap) (insAt l i x) := by
     refine ⟨by rw [flat_length], .inr ⟨g, cap, (splice C1.toList (i * 6) (flat [x])).toArray, ?_, hg1, setRow_heap w3 g _ _ _ _ hg3.out, by rw [insAt_length l i x hi]; exact hroom, r2, ?_, ?_⟩⟩
     ·rw [insAt_length l i x hi]
     ·rw [List.size_toArray, HR.out.2]; exact R3.out
     ·rw [insAt_length l i x hi]; exact HR.out.1
    exact ⟨_, rfl, hok, K3.out.setRow (g := g) (.inl rfl) _, .inl rfl⟩
   ·have hce : cap = l.length := by omega
    subst hce
    obtain ⟨inf, hinf, hz0, hz1, hz2⟩ := info_parts (RecI.info (α := Edg))
    have hbp := RecI.bpos (α := Edg)
    have hold : (Builtin.firstCells inf.size i (.slice (some ⟨g, 0, none⟩) i l.length)).run Tryz.prog w.drew = .ok (flat (l.take i)).toArray w.drew := by
     rw [hz1]
     have hlen : (flat (l.take i)).length = i * Rec.k Edg := by rw [flat_length, List.length_take, Nat.min_eq_left hi]
     have := run_loadCells_list (P := Tryz.prog) w.drew ⟨g, 0, none⟩ (flat (l.take i)) (fun j u hj => by
      have hadd : (⟨g, 0, none⟩ : Addr).add j = ⟨g, j, none⟩ := by unfold Addr.add; split <;> simp_all
      rw [hadd, blk_cell (w := w.drew) (show w.drew.heap[g]? = _ from hg), ← Array.getElem?_toList]
      rw [← hC, List.getElem?_take] at hj
      split at hj
      ·exact hj
      ·cases hj)
     rw [hlen] at this
     exact this
    have hk1 : i + (l.length + 1 - i) = l.length + 1 := by omega
    have hap0 := fun ty => Lib.run_append_grow_zeros w 36 3 ty 69 inf _ .i64 .i64 Tryz.underlying36 Tryz.underlying3 hinf hz0 (some ⟨g, 0, none⟩) i l.length (flat (l.take i)) hold (l.length + 1 - i) (by omega) (by rw [hz1]; exact RecI.kpos) (by omega) (by omega)
     (by rw [hz2]; have : (l.length + 1 - i) * RecI.by_ Edg ≤ 1000001 * 64 := Nat.mul_le_mul (by omega) hbp; omega)
     (by rw [hz2, hk1]; refine growslice_fits (by omega) ?_; have : (l.length + 1) * RecI.by_ Edg ≤ 1000001 * 64 := Nat.mul_le_mul (by omega) hbp; omega)
    rw [hk1] at hap0
    have hGn : l.length + 1 ≤ grownCap w (l.length + 1) l.length 69 := grownCap_ge w _ _ _
    have hGm : grownCap w (l.length + 1) l.length 69 ≤ maxLen := grownCap_le_maxLen w (l.length + 1) l.length 69 (by unfold maxLen; omega)
    obtain ⟨G, hG⟩ : ∃ G, G = grownCap w (l.length + 1) l.length 69 := ⟨_, rfl⟩
    rw [← hG] at hap0 hGn hGm
    obtain ⟨ROW, hROW⟩ : ∃ ROW : Array Value, ROW = (flat (l.take i)).toArray ++ Builtin.zeroCells (RecI.z Edg).cells (l.length + 1 - i) ++ Builtin.zeroCells (RecI.z Edg).cells (G - (l.length + 1)) := ⟨_, rfl⟩
    rw [← hROW] at hap0
    have hlt0 : (flat (l.take i)).length = i * 6 := by rw [flat_length, List.length_take, Nat.min_eq_left hi]; rfl
    have hzs : (RecI.z Edg).cells.size = 6 := RecI.zs
    have hRs : ROW.size = G * 6 := by
     rw [hROW, Array.size_append, Array.size_append, List.size_toArray, hlt0, size_zeroCells, size_zeroCells, hzs, ← Nat.add_mul, ← Nat.add_mul]
     congr 1
     omega
    have hRC : ROW.toList.take (i * 6) = flat (l.take i) := by
     rw [hROW, Array.toList_append, Array.toList_append, List.append_assoc, List.toList_toArray]
     exact take_of_app _ _ _ hlt0
    have hNI : ((l.length : Int) + 1 - (i : Int)) = ((l.length + 1 - i : Nat) : Int) := by omega
    obtain ⟨W1, hW1⟩ : ∃ W1, W1 = w.drew.alloc (.cells ROW 69) := ⟨_, rfl⟩
    have hgN : W1.heap[w.heap.size]? = some (.cells ROW 69 (0, 0)) := by rw [hW1]; exact blk_new w.drew _
    have kW1 : Gro w W1 := by rw [hW1]; exact ((Gro.refl w).drw (show Drw w w.drew from ⟨rfl, rfl, rfl, rfl, Nat.le_succ _⟩)).alloc _
    rw [← hW1] at hap0
    have hap : ∀ ty, (Builtin.append_ #[36, 3] ty #[.slice (some ⟨g, 0, none⟩) i l.length, .int .i64 ((l.length : Int) + 1 - (i : Int))]).run Tryz.prog w = .ok (.slice (some ⟨w.heap.size, 0, none⟩) (l.length + 1) G) W1 := fun ty => by rw [hNI]; exact hap0 ty
    have hx : (flat [x]).length = 6 := rfl
    have hfit1 : i * 6 + 6 ≤ ROW.size := by
     rw [hRs, show i * 6 + 6 = (i + 1) * 6 by omega]
     exact Nat.mul_le_mul_right _ (by omega)
    have hcp1 : (Builtin.copy_ #[36, 36] 3 #[.slice (some ⟨w.heap.size, i * 6, none⟩) (l.length + 1 - i) (G - i), .slice (some ⟨B, 0, none⟩) 1 1]).run Tryz.prog W1 = .ok (goInt 1) (W1.setRow w.heap.size (splice ROW.toList (i * 6) (flat [x])).toArray) :=
     run_copy_k (α := Edg) W1 3 w.heap.size (i * 6) (l.length + 1 - i) (G - i) ⟨B, 0, none⟩ 1 1 ROW 69 [x] hgN (by simp only [Nat.min_def]; split <;> simp <;> omega) (fun j u hu => World.news_of_block (kW1.blk hB) j u (by simpa [flat, Rec.cs] using hu)) hfit1
    obtain ⟨C1, hC1⟩ : ∃ C1, C1 = (splice ROW.toList (i * 6) (flat [x])).toArray := ⟨_, rfl⟩
    have hC1s : C1.size = ROW.size := by
     rw [hC1, List.size_toArray, length_splice _ _ _ (by rw [hx, Array.length_toList]; exact hfit1), Array.length_toList]
    rw [← hC1] at hcp1
    obtain ⟨W2, hW2⟩ : ∃ W2, W2 = W1.setRow w.heap.size C1 := ⟨_, rfl⟩
    rw [← hW2] at hcp1
    have hgN2 : W2.heap[w.heap.size]? = some (.cells C1 69 (0, 0)) := by rw [hW2]; exact setRow_heap W1 _ _ _ _ _ hgN
    have hgl : g < w.heap.size := blk_lt hg
    have kW2 : Gro w W2 := by rw [hW2]; exact Kept.setRow kW1 (.inr (Nat.le_refl _)) C1
    have hg2 : W2.heap[g]? = some (.cells cur 69 (0, 0)) := kW2.blk hg
    have hfit2 : (i + 1) * 6 + (l.drop i).length * 6 ≤ C1.size := by rw [hdl, hC1s, hRs, ← Nat.add_mul]; exact Nat.mul_le_mul_right _ (by omega)
    have hcp2 : ∀ (W : World), W.heap[w.heap.size]? = some (.cells C1 69 (0, 0)) → W.heap[g]? = some (.cells cur 69 (0, 0)) → ∀ ty dc sc, (Builtin.copy_ #[36, 36] ty #[.slice (some ⟨w.heap.size, (i + 1) * 6, none⟩) (l.length - i) dc, .slice (some ⟨g, i * 6, none⟩) (l.length - i) sc]).run Tryz.prog W = .ok (goInt (l.drop i).length) (W.setRow w.heap.size (splice C1.toList ((i + 1) * 6) (flat (l.drop i))).toArray) := fun W hW hWg ty dc sc =>
     run_copy_k (α := Edg) W ty w.heap.size ((i + 1) * 6) (l.length - i) dc ⟨g, i * 6, none⟩ (l.length - i) sc C1 69 (l.drop i) hW (by rw [hdl]; simp only [Nat.min_def]; split <;> omega) (hsrc W hWg) hfit2
    have hres : (splice C1.toList ((i + 1) * 6) (flat (l.drop i))).take ((l.length + 1) * 6) = flat (insAt l i x) ∧ (splice C1.toList ((i + 1) * 6) (flat (l.drop i))).length = G * 6 := by
     refine ⟨?_, ?_⟩
     ·rw [hC1, List.toList_toArray, show (i + 1) * 6 = i * 6 + 6 by omega, splice_on _ _ _ _ _ hx (by rw [Array.length_toList]; exact hfit1)]
      exact row_ins ROW.toList l i x hi hRC _
     ·rw [length_splice _ _ _ (by rw [flat_length, Array.length_toList]; exact hfit2), Array.length_toList, hC1s, hRs]
    have HR := yy hres
    have HCP2 := yy hcp2
    have HG2 := yy hg2
    have HN2 := yy hgN2
    have KW2 := yy kW2
    have GM := yy hGm
    have GN := yy hGn
    have GL := yy hgl
    have hb1 : ((l.length : Int) < (l.length : Int) + 1) := by omega
    have hw1 : IntKind.i64.wrap ((i : Int) + 1) = (i : Int) + 1 := by rw [IntKind.wrap_i64]; omega
    have hw2 : IntKind.i64.wrap ((l.length : Int) + 1 - (i : Int)) = (l.length : Int) + 1 - (i : Int) := by rw [IntKind.wrap_i64]; omega
    have hb7 : (i : Int) ≤ (l.length : Int) + 1 := by omega
    have hb2 : (0 : Int) ≤ (i : Int) + 1 := by omega
    have hb3 : (i : Int) + 1 ≤ (l.length : Int) + 1 := by omega
    have htn : ((i : Int) + 1).toNat = i + 1 := by omega
    have hb4 : ¬ (G = i + 1) := by omega
    have hb5 : ¬ (G = i) := by omega
    have hb8 : ¬ (l.length = i) := by omega
    have hb9 : (i : Int) ≤ (l.length : Int) := by omega
    clear hres hcp2 hg2 hgN2 kW2 hGm hg hB hC hsrc hfit1 hC1 hC1s hown hnews r4 r3 r3' hin hap0 hNI hold hz0 hz1 hz2 hinf hbp hROW hRs hRC hlt0 hzs hW1 hW2 hgN kW1 hfit2 hx hgl hk1 hG
    go_enter Tryz.func130, Tryz.ntmps130
    go_wp2_with (at_builtin; refine Lib.wpList_append_run _ rfl _ _ 36 3 rfl _ _ rfl rfl _ _ (hap _) ?_)
    refine region_tail 8 hmix (by kernel_rfl) fun w2 dd => ?_
    have hg2 := yy (dd.blk HG2.out)
    have hN2 := yy (dd.blk HN2.out)
    have K2 := yy (KW2.out.drw dd)
    clear dd HG2 HN2 KW2
    simp only [List.take_succ_cons, List.take_zero, List.drop_succ_cons, List.drop_zero]
    repeat still_step
    refine wpStill_nil ?_
    refine wpList_copy_eq rfl (.tmp 50) (.tmp 53) 36 36 rfl (.slice (some ⟨w.heap.size, (i + 1) * 6, none⟩) (l.length - i) (G - (i + 1))) (.slice (some ⟨g, i * 6, none⟩) (l.length - i) (l.length - i)) rfl rfl (HCP2.out w2 hN2.out hg2.out _ _ _) ?_
    have K3 : Gro w (w2.setRow w.heap.size (splice C1.toList ((i + 1) * 6) (flat (l.drop i))).toArray) := Kept.setRow K2.out (.inr (Nat.le_refl _)) _
    have hok : OwnL (w2.setRow w.heap.size (splice C1.toList ((i + 1) * 6) (flat (l.drop i))).toArray) base (.slice (some ⟨w.heap.size, 0, none⟩) (l.length + 1) G) (insAt l i x) := by
     refine ⟨by rw [flat_length], .inr ⟨w.heap.size, G, (splice C1.toList ((i + 1) * 6) (flat (l.drop i))).toArray, ?_, hbase, setRow_heap w2 _ _ _ _ _ hN2.out, by rw [insAt_length l i x hi]; exact GN.out, GM.out, ?_, ?_⟩⟩
     ·rw [insAt_length l i x hi]
     ·rw [List.size_toArray]; exact HR.out.2
     ·rw [insAt_length l i x hi]; exact HR.out.1
    have HOK := yy hok
    have HK3 := yy K3
    clear hok K3 HCP2 HR hN2 hg2 K2
    generalize w2.setRow w.heap.size (splice C1.toList ((i + 1) * 6) (flat (l.drop i))).toArray = w3 at HOK HK3 ⊢
    go_wp2
    go_ret
    exact ⟨_, rfl, HOK.out, HK3.out.kept _, .inr ⟨_, rfl, Nat.le_refl _⟩⟩
theorem ov117 (w : World) (B g off lb cb nA nB : Nat) (cA cB : Array Value) (hA : w.heap[B]? = some (.cells cA 30 (0, 0))) (hB : w.heap[g]? = some (.cells cB 30 (0, 0))) (hne : B ≠ g) (hk : cB.size ≠ 0) :
  (callFunc 117 #[.slice (some ⟨B, 0, none⟩) nA nB, .slice (some ⟨g, off, none⟩) lb cb]).run Tryz.prog w = .ok (.value (.bool false)) w := by
 rw [run_callFunc_extern Tryz.func117 (by kernel_rfl) (by kernel_rfl) (by kernel_rfl) (e := Extern.SlicesOverlaps.overlaps #[25, 25] #[4]) (by kernel_rfl),
  Lib.run_overlaps_apart w 25 4 30 Tryz.underlying25 7 (fun w => by kernel_rfl) ⟨B, 0, none⟩ ⟨g, off, none⟩ nA nB lb cb hne 30 30 cA.size cB.size (by simp [World.shape?, hA]) (by simp [World.shape?, hB]) hk (blk_frozen hA _) (blk_frozen hA _)]
 rfl
set_option maxHeartbeats 4000000 in
set_option maxRecDepth 100000 in
theorem ins65 {w : World} {base : Nat} {v : Value} {l : List Ofr} (hown : OwnL w base v l) (hbase : base ≤ w.heap.size) (hfew : l.length ≤ 1000000) (i : Nat) (hi : i ≤ l.length) (x : Ofr) (B : Nat)
  (hB : w.heap[B]? = some (.cells #[.int .i64 x.id, .int .i64 x.party, .int .i64 x.side, .int .i64 x.place, .int .i64 x.price, .int .i64 x.until_, .int .i64 x.state] 30 (0, 0))) (hne : v.ownBlock ≠ some B) :
  Calls Tryz.prog 65 #[v, .int .i64 i, .slice (some ⟨B, 0, none⟩) 1 1] w fun e w' => ∃ v', e = .returned v' ∧ OwnL w' base v' (insAt l i x) ∧ Kept (ownF v) w w' ∧ (v'.ownBlock = v.ownBlock ∨ ∃ g, v'.ownBlock = some g ∧ w.heap.size ≤ g) := by
 have hnews : ∀ j u, (flat [x])[j]? = some u → w.cell? ((⟨B, 0, none⟩ : Addr).add j) = some u := fun j u hu => World.news_of_block hB j u (by simpa [flat, Rec.cs] using hu)
 have hmix := mixed
 rcases hown.2 with ⟨rfl, hz⟩ | ⟨g, cap, cur, rfl, hg1, hg, r1, r2, r3, r4⟩
 ·have hl : l = [] := List.eq_nil_of_length_eq_zero hz
  subst hl
  obtain rfl : i = 0 := by simpa using hi
  have HO := yy hown
  have HN := yy hnews
  clear hown hnews hB
  go_enter Tryz.func65, Tryz.ntmps65
  go_wp2_with (at_builtin; refine wpList_app (α := Ofr) rfl _ _ rfl rfl HO.out ⟨B, 0, none⟩ 1 1 [x] rfl rfl HN.out (by simp) hbase ?_; intro v' w' h1 h2 h3; have H1 := yy h1; have H2 := yy h2; have H3 := yy h3; clear h1 h2 h3)
  go_ret
  exact ⟨_, rfl, H1.out, H2.out, H3.out.imp id fun h => ⟨_, h, Nat.le_refl _⟩⟩
 ·have hne' : g ≠ B := fun e => hne (by rw [e]; rfl)
  by_cases hin : i = l.length
  ·subst hin
   have HO := yy hown
   have HN := yy hnews
   have hins : insAt l l.length x = l ++ [x] := by unfold insAt; simp
   have HI := yy hins
   clear hown hnews hB hins
   go_enter Tryz.func65, Tryz.ntmps65
   go_wp2_with (at_builtin; refine wpList_app (α := Ofr) rfl _ _ rfl (v := .slice (some ⟨g, 0, none⟩) l.length cap) rfl HO.out ⟨B, 0, none⟩ 1 1 [x] rfl rfl HN.out (by simp; omega) hbase ?_; intro v' w' h1 h2 h3; have H1 := yy h1; have H2 := yy h2; have H3 := yy h3; clear h1 h2 h3)
   all_goals
    go_ret
    exact ⟨_, rfl, by rw [HI.out]; exact H1.out, H2.out, H3.out.imp id fun h => ⟨_, h, Nat.le_refl _⟩⟩
  ·have hlt : i < l.length := by omega
   have hltI : (i : Int) < (l.length : Int) := by omega
   have hneI : ¬ ((i : Int) = (l.length : Int)) := by omega
   have hneN : ¬ (i = l.length) := hin
   have hin' : i ≤ l.length := hi
   have hC : cur.toList.take (i * 7) = flat (l.take i) := by
    rw [← flat_take l i hi]
    have r4' : cur.toList.take (l.length * Rec.k Ofr) = flat l := r4
    rw [← r4', List.take_take, Nat.min_eq_left (Nat.mul_le_mul_right _ hi)]
    rfl
   have hsrc : ∀ (W : World), W.heap[g]? = some (.cells cur 30 (0, 0)) → ∀ j u, (flat (l.drop i))[j]? = some u → W.cell? ((⟨g, i * 7, none⟩ : Addr).add j) = some u := by
    intro W hW j u hj
    have hadd : (⟨g, i * 7, none⟩ : Addr).add j = ⟨g, i * 7 + j, none⟩ := by unfold Addr.add; split <;> simp_all
    rw [hadd, blk_cell hW, ← Array.getElem?_toList]
    have hfl : flat l = flat (l.take i) ++ flat (l.drop i) := by rw [← flat_append, List.take_append_drop]
    have hlen : (flat (l.take i)).length = i * 7 := by
     rw [flat_length, List.length_take, Nat.min_eq_left hi]
     rfl
    have h1 : (flat l)[i * 7 + j]? = some u := by
     rw [hfl, List.getElem?_append_right (by omega), hlen, Nat.add_sub_cancel_left]
     exact hj
    have r4' : cur.toList.take (l.length * Rec.k Ofr) = flat l := r4
    rw [← r4', List.getElem?_take] at h1
    split at h1
    ·exact h1
    ·cases h1
   have r3' : cur.size = cap * 7 := r3
   have hdl : (l.drop i).length = l.length - i := by rw [List.length_drop]
   by_cases hroom : l.length + 1 ≤ cap
   ·have hcur0 : cur.size ≠ 0 := by omega
    have hov := fun lb cb => ov117 w B g ((i + 1) * 7) lb cb 1 1 _ _ hB hg (Ne.symm hne') hcur0
    have hfit1 : (i + 1) * 7 + (l.drop i).length * 7 ≤ cur.size := by rw [hdl, r3', ← Nat.add_mul]; exact Nat.mul_le_mul_right _ (by omega)
    have hcp1 : ∀ (W : World), W.heap[g]? = some (.cells cur 30 (0, 0)) → ∀ ty dc sc, (Builtin.copy_ #[25, 25] ty #[.slice (some ⟨g, (i + 1) * 7, none⟩) (l.length - i) dc, .slice (some ⟨g, i * 7, none⟩) (l.length + 1 - i) sc]).run Tryz.prog W = .ok (goInt (l.drop i).length) (W.setRow g (splice cur.toList ((i + 1) * 7) (flat (l.drop i))).toArray) := fun W hW ty dc sc =>
     run_copy_k (α := Ofr) W ty g ((i + 1) * 7) (l.length - i) dc ⟨g, i * 7, none⟩ (l.length + 1 - i) sc cur 30 (l.drop i) hW (by rw [hdl]; simp only [Nat.min_def]; split <;> omega) (hsrc W hW) hfit1
    obtain ⟨C1, hC1⟩ : ∃ C1, C1 = (splice cur.toList ((i + 1) * 7) (flat (l.drop i))).toArray := ⟨_, rfl⟩
    have hC1s : C1.size = cur.size := by
     rw [hC1, List.size_toArray, length_splice _ _ _ (by rw [flat_length, Array.length_toList]; exact hfit1), Array.length_toList]
    rw [← hC1] at hcp1
    have hcp2 : ∀ (W : World), W.heap[g]? = some (.cells C1 30 (0, 0)) → W.heap[B]? = some (.cells #[.int .i64 x.id, .int .i64 x.party, .int .i64 x.side, .int .i64 x.place, .int .i64 x.price, .int .i64 x.until_, .int .i64 x.state] 30 (0, 0)) → ∀ ty dc, (Builtin.copy_ #[25, 25] ty #[.slice (some ⟨g, i * 7, none⟩) (l.length + 1 - i) dc, .slice (some ⟨B, 0, none⟩) 1 1]).run Tryz.prog W = .ok (goInt 1) (W.setRow g (splice C1.toList (i * 7) (flat [x])).toArray) := fun W hW hWB ty dc =>
     run_copy_k (α := Ofr) W ty g (i * 7) (l.length + 1 - i) dc ⟨B, 0, none⟩ 1 1 C1 30 [x] hW (by simp only [Nat.min_def]; split <;> simp <;> omega) (fun j u hu => World.news_of_block hWB j u (by simpa [flat, Rec.cs] using hu)) (by rw [hC1s, r3']; show i * 7 + 1 * 7 ≤ cap * 7; rw [← Nat.add_mul]; exact Nat.mul_le_mul_right _ (by omega))
    have hres : (splice C1.toList (i * 7) (flat [x])).take ((l.length + 1) * 7) = flat (insAt l i x) ∧ (splice C1.toList (i * 7) (flat [x])).length = cur.size := by
     have hx : (flat [x]).length = 7 := rfl
     have hb : i * 7 + 7 ≤ cur.toList.length := by
      rw [Array.length_toList, r3', show i * 7 + 7 = (i + 1) * 7 by omega]
      exact Nat.mul_le_mul_right _ (by omega)
     refine ⟨?_, ?_⟩
     ·rw [hC1, List.toList_toArray, show (i + 1) * 7 = i * 7 + 7 by omega, splice_in _ _ _ _ _ hx hb]
      exact row_ins cur.toList l i x hi hC _
     ·rw [length_splice _ _ _ (by rw [hx, Array.length_toList, hC1s, ← Array.length_toList]; exact hb), Array.length_toList, hC1s]
    have HR := yy hres
    have R3 := yy r3
    have HCP1 := yy hcp1
    have HCP2 := yy hcp2
    have HG := yy hg
    have HB := yy hB
    have hb1 : ¬ ((cap : Int) < (l.length : Int) + 1) := by omega
    have hw1 : IntKind.i64.wrap ((i : Int) + 1) = (i : Int) + 1 := by rw [IntKind.wrap_i64]; omega
    have hb7 : (i : Int) ≤ (l.length : Int) + 1 := by omega
    have hb2 : (0 : Int) ≤ (i : Int) + 1 := by omega
    have hb3 : (i : Int) + 1 ≤ (l.length : Int) + 1 := by omega
    have htn : ((i : Int) + 1).toNat = i + 1 := by omega
    have htl : ((l.length : Int) + 1).toNat = l.length + 1 := by omega
    have hb4 : ¬ (cap = i + 1) := by omega
    have hb5 : ¬ (cap = i) := by omega
    have hb6 : (l.length : Int) + 1 ≤ (cap : Int) := by omega
    clear hres hcp1 hcp2 hg hB hC hsrc hfit1 hC1 hC1s hcur0 hown hnews r4 r3 r3' hin
    go_enter Tryz.func65, Tryz.ntmps65
    go_wp2_with fail
    refine region_tail 8 hmix (by kernel_rfl) fun w2 dd => ?_
    have hg2 := yy (dd.blk HG.out)
    have hB2 := yy (dd.blk HB.out)
    have K2 := yy (dd.kept (ownF (.slice (some ⟨g, 0, none⟩) l.length cap)))
    clear dd HG HB
    simp only [List.take_succ_cons, List.take_zero, List.drop_succ_cons, List.drop_zero]
    repeat still_step
    refine wpStill_nil ?_
    refine wpList_copy_eq rfl (.tmp 73) (.tmp 76) 25 25 rfl (.slice (some ⟨g, (i + 1) * 7, none⟩) (l.length - i) (cap - (i + 1))) (.slice (some ⟨g, i * 7, none⟩) (l.length + 1 - i) (cap - i)) rfl rfl (HCP1.out w2 hg2.out _ _ _) ?_
    have hg3 := yy (setRow_heap w2 g _ C1 _ _ hg2.out)
    have hB3 := yy ((setRow_other w2 g B C1 (Ne.symm hne')).trans hB2.out)
    have K3 := yy (K2.out.setRow (g := g) (.inl rfl) C1)
    clear hg2 hB2 K2
    generalize w2.setRow g C1 = w3 at hg3 hB3 K3 ⊢
    have hq2 := HCP2.out w3 hg3.out hB3.out 3 (cap - i)
    go_wp2
    go_ret
    have hok : OwnL (w3.setRow g (splice C1.toList (i * 7) (flat [x])).toArray) base (.slice (some ⟨g, 0, none⟩) (l.length + 1) cap) (insAt l i x) := by
     refine ⟨by rw [flat_length], .inr ⟨g, cap, (splice C1.toList (i * 7) (flat [x])).toArray, ?_, hg1, setRow_heap w3 g _ _ _ _ hg3.out, by rw [insAt_length l i x hi]; exact hroom, r2, ?_, ?_⟩⟩
     ·rw [insAt_length l i x hi]
     ·rw [List.size_toArray, HR.out.2]; exact R3.out
     ·rw [insAt_length l i x hi]; exact HR.out.1
    exact ⟨_, rfl, hok, K3.out.setRow (g := g) (.inl rfl) _, .inl rfl⟩
   ·have hce : cap = l.length := by omega
    subst hce
    obtain ⟨inf, hinf, hz0, hz1, hz2⟩ := info_parts (RecI.info (α := Ofr))
    have hbp := RecI.bpos (α := Ofr)
    have hold : (Builtin.firstCells inf.size i (.slice (some ⟨g, 0, none⟩) i l.length)).run Tryz.prog w.drew = .ok (flat (l.take i)).toArray w.drew := by
     rw [hz1]
     have hlen : (flat (l.take i)).length = i * Rec.k Ofr := by rw [flat_length, List.length_take, Nat.min_eq_left hi]
     have := run_loadCells_list (P := Tryz.prog) w.drew ⟨g, 0, none⟩ (flat (l.take i)) (fun j u hj => by
      have hadd : (⟨g, 0, none⟩ : Addr).add j = ⟨g, j, none⟩ := by unfold Addr.add; split <;> simp_all
      rw [hadd, blk_cell (w := w.drew) (show w.drew.heap[g]? = _ from hg), ← Array.getElem?_toList]
      rw [← hC, List.getElem?_take] at hj
      split at hj
      ·exact hj
      ·cases hj)
     rw [hlen] at this
     exact this
    have hk1 : i + (l.length + 1 - i) = l.length + 1 := by omega
    have hap0 := fun ty => Lib.run_append_grow_zeros w 25 3 ty 30 inf _ .i64 .i64 Tryz.underlying25 Tryz.underlying3 hinf hz0 (some ⟨g, 0, none⟩) i l.length (flat (l.take i)) hold (l.length + 1 - i) (by omega) (by rw [hz1]; exact RecI.kpos) (by omega) (by omega)
     (by rw [hz2]; have : (l.length + 1 - i) * RecI.by_ Ofr ≤ 1000001 * 64 := Nat.mul_le_mul (by omega) hbp; omega)
     (by rw [hz2, hk1]; refine growslice_fits (by omega) ?_; have : (l.length + 1) * RecI.by_ Ofr ≤ 1000001 * 64 := Nat.mul_le_mul (by omega) hbp; omega)
    rw [hk1] at hap0
    have hGn : l.length + 1 ≤ grownCap w (l.length + 1) l.length 30 := grownCap_ge w _ _ _
    have hGm : grownCap w (l.length + 1) l.length 30 ≤ maxLen := grownCap_le_maxLen w (l.length + 1) l.length 30 (by unfold maxLen; omega)
    obtain ⟨G, hG⟩ : ∃ G, G = grownCap w (l.length + 1) l.length 30 := ⟨_, rfl⟩
    rw [← hG] at hap0 hGn hGm
    obtain ⟨ROW, hROW⟩ : ∃ ROW : Array Value, ROW = (flat (l.take i)).toArray ++ Builtin.zeroCells (RecI.z Ofr).cells (l.length + 1 - i) ++ Builtin.zeroCells (RecI.z Ofr).cells (G - (l.length + 1)) := ⟨_, rfl⟩
    rw [← hROW] at hap0
    have hlt0 : (flat (l.take i)).length = i * 7 := by rw [flat_length, List.length_take, Nat.min_eq_left hi]; rfl
    have hzs : (RecI.z Ofr).cells.size = 7 := RecI.zs
    have hRs : ROW.size = G * 7 := by
     rw [hROW, Array.size_append, Array.size_append, List.size_toArray, hlt0, size_zeroCells, size_zeroCells, hzs, ← Nat.add_mul, ← Nat.add_mul]
     congr 1
     omega
    have hRC : ROW.toList.take (i * 7) = flat (l.take i) := by
     rw [hROW, Array.toList_append, Array.toList_append, List.append_assoc, List.toList_toArray]
     exact take_of_app _ _ _ hlt0
    have hNI : ((l.length : Int) + 1 - (i : Int)) = ((l.length + 1 - i : Nat) : Int) := by omega
    obtain ⟨W1, hW1⟩ : ∃ W1, W1 = w.drew.alloc (.cells ROW 30) := ⟨_, rfl⟩
    have hgN : W1.heap[w.heap.size]? = some (.cells ROW 30 (0, 0)) := by rw [hW1]; exact blk_new w.drew _
    have kW1 : Gro w W1 := by rw [hW1]; exact ((Gro.refl w).drw (show Drw w w.drew from ⟨rfl, rfl, rfl, rfl, Nat.le_succ _⟩)).alloc _
    rw [← hW1] at hap0
    have hap : ∀ ty, (Builtin.append_ #[25, 3] ty #[.slice (some ⟨g, 0, none⟩) i l.length, .int .i64 ((l.length : Int) + 1 - (i : Int))]).run Tryz.prog w = .ok (.slice (some ⟨w.heap.size, 0, none⟩) (l.length + 1) G) W1 := fun ty => by rw [hNI]; exact hap0 ty
    have hx : (flat [x]).length = 7 := rfl
    have hfit1 : i * 7 + 7 ≤ ROW.size := by
     rw [hRs, show i * 7 + 7 = (i + 1) * 7 by omega]
     exact Nat.mul_le_mul_right _ (by omega)
    have hcp1 : (Builtin.copy_ #[25, 25] 3 #[.slice (some ⟨w.heap.size, i * 7, none⟩) (l.length + 1 - i) (G - i), .slice (some ⟨B, 0, none⟩) 1 1]).run Tryz.prog W1 = .ok (goInt 1) (W1.setRow w.heap.size (splice ROW.toList (i * 7) (flat [x])).toArray) :=
     run_copy_k (α := Ofr) W1 3 w.heap.size (i * 7) (l.length + 1 - i) (G - i) ⟨B, 0, none⟩ 1 1 ROW 30 [x] hgN (by simp only [Nat.min_def]; split <;> simp <;> omega) (fun j u hu => World.news_of_block (kW1.blk hB) j u (by simpa [flat, Rec.cs] using hu)) hfit1
    obtain ⟨C1, hC1⟩ : ∃ C1, C1 = (splice ROW.toList (i * 7) (flat [x])).toArray := ⟨_, rfl⟩
    have hC1s : C1.size = ROW.size := by
     rw [hC1, List.size_toArray, length_splice _ _ _ (by rw [hx, Array.length_toList]; exact hfit1), Array.length_toList]
    rw [← hC1] at hcp1
    obtain ⟨W2, hW2⟩ : ∃ W2, W2 = W1.setRow w.heap.size C1 := ⟨_, rfl⟩
    rw [← hW2] at hcp1
    have hgN2 : W2.heap[w.heap.size]? = some (.cells C1 30 (0, 0)) := by rw [hW2]; exact setRow_heap W1 _ _ _ _ _ hgN
    have hgl : g < w.heap.size := blk_lt hg
    have kW2 : Gro w W2 := by rw [hW2]; exact Kept.setRow kW1 (.inr (Nat.le_refl _)) C1
    have hg2 : W2.heap[g]? = some (.cells cur 30 (0, 0)) := kW2.blk hg
    have hfit2 : (i + 1) * 7 + (l.drop i).length * 7 ≤ C1.size := by rw [hdl, hC1s, hRs, ← Nat.add_mul]; exact Nat.mul_le_mul_right _ (by omega)
    have hcp2 : ∀ (W : World), W.heap[w.heap.size]? = some (.cells C1 30 (0, 0)) → W.heap[g]? = some (.cells cur 30 (0, 0)) → ∀ ty dc sc, (Builtin.copy_ #[25, 25] ty #[.slice (some ⟨w.heap.size, (i + 1) * 7, none⟩) (l.length - i) dc, .slice (some ⟨g, i * 7, none⟩) (l.length - i) sc]).run Tryz.prog W = .ok (goInt (l.drop i).length) (W.setRow w.heap.size (splice C1.toList ((i + 1) * 7) (flat (l.drop i))).toArray) := fun W hW hWg ty dc sc =>
     run_copy_k (α := Ofr) W ty w.heap.size ((i + 1) * 7) (l.length - i) dc ⟨g, i * 7, none⟩ (l.length - i) sc C1 30 (l.drop i) hW (by rw [hdl]; simp only [Nat.min_def]; split <;> omega) (hsrc W hWg) hfit2
    have hres : (splice C1.toList ((i + 1) * 7) (flat (l.drop i))).take ((l.length + 1) * 7) = flat (insAt l i x) ∧ (splice C1.toList ((i + 1) * 7) (flat (l.drop i))).length = G * 7 := by
     refine ⟨?_, ?_⟩
     ·rw [hC1, List.toList_toArray, show (i + 1) * 7 = i * 7 + 7 by omega, splice_on _ _ _ _ _ hx (by rw [Array.length_toList]; exact hfit1)]
      exact row_ins ROW.toList l i x hi hRC _
     ·rw [length_splice _ _ _ (by rw [flat_length, Array.length_toList]; exact hfit2), Array.length_toList, hC1s, hRs]
    have HR := yy hres
    have HCP2 := yy hcp2
    have HG2 := yy hg2
    have HN2 := yy hgN2
    have KW2 := yy kW2
    have GM := yy hGm
    have GN := yy hGn
    have GL := yy hgl
    have hb1 : ((l.length : Int) < (l.length : Int) + 1) := by omega
    have hw1 : IntKind.i64.wrap ((i : Int) + 1) = (i : Int) + 1 := by rw [IntKind.wrap_i64]; omega
    have hw2 : IntKind.i64.wrap ((l.length : Int) + 1 - (i : Int)) = (l.length : Int) + 1 - (i : Int) := by rw [IntKind.wrap_i64]; omega
    have hb7 : (i : Int) ≤ (l.length : Int) + 1 := by omega
    have hb2 : (0 : Int) ≤ (i : Int) + 1 := by omega
    have hb3 : (i : Int) + 1 ≤ (l.length : Int) + 1 := by omega
    have htn : ((i : Int) + 1).toNat = i + 1 := by omega
    have hb4 : ¬ (G = i + 1) := by omega
    have hb5 : ¬ (G = i) := by omega
    have hb8 : ¬ (l.length = i) := by omega
    have hb9 : (i : Int) ≤ (l.length : Int) := by omega
    clear hres hcp2 hg2 hgN2 kW2 hGm hg hB hC hsrc hfit1 hC1 hC1s hown hnews r4 r3 r3' hin hap0 hNI hold hz0 hz1 hz2 hinf hbp hROW hRs hRC hlt0 hzs hW1 hW2 hgN kW1 hfit2 hx hgl hk1 hG
    go_enter Tryz.func65, Tryz.ntmps65
    go_wp2_with (at_builtin; refine Lib.wpList_append_run _ rfl _ _ 25 3 rfl _ _ rfl rfl _ _ (hap _) ?_)
    refine region_tail 8 hmix (by kernel_rfl) fun w2 dd => ?_
    have hg2 := yy (dd.blk HG2.out)
    have hN2 := yy (dd.blk HN2.out)
    have K2 := yy (KW2.out.drw dd)
    clear dd HG2 HN2 KW2
    simp only [List.take_succ_cons, List.take_zero, List.drop_succ_cons, List.drop_zero]
    repeat still_step
    refine wpStill_nil ?_
    refine wpList_copy_eq rfl (.tmp 50) (.tmp 53) 25 25 rfl (.slice (some ⟨w.heap.size, (i + 1) * 7, none⟩) (l.length - i) (G - (i + 1))) (.slice (some ⟨g, i * 7, none⟩) (l.length - i) (l.length - i)) rfl rfl (HCP2.out w2 hN2.out hg2.out _ _ _) ?_
    have K3 : Gro w (w2.setRow w.heap.size (splice C1.toList ((i + 1) * 7) (flat (l.drop i))).toArray) := Kept.setRow K2.out (.inr (Nat.le_refl _)) _
    have hok : OwnL (w2.setRow w.heap.size (splice C1.toList ((i + 1) * 7) (flat (l.drop i))).toArray) base (.slice (some ⟨w.heap.size, 0, none⟩) (l.length + 1) G) (insAt l i x) := by
     refine ⟨by rw [flat_length], .inr ⟨w.heap.size, G, (splice C1.toList ((i + 1) * 7) (flat (l.drop i))).toArray, ?_, hbase, setRow_heap w2 _ _ _ _ _ hN2.out, by rw [insAt_length l i x hi]; exact GN.out, GM.out, ?_, ?_⟩⟩
     ·rw [insAt_length l i x hi]
     ·rw [List.size_toArray]; exact HR.out.2
     ·rw [insAt_length l i x hi]; exact HR.out.1
    have HOK := yy hok
    have HK3 := yy K3
    clear hok K3 HCP2 HR hN2 hg2 K2
    generalize w2.setRow w.heap.size (splice C1.toList ((i + 1) * 7) (flat (l.drop i))).toArray = w3 at HOK HK3 ⊢
    go_wp2
    go_ret
    exact ⟨_, rfl, HOK.out, HK3.out.kept _, .inr ⟨_, rfl, Nat.le_refl _⟩⟩
theorem ov123 (w : World) (B g off lb cb nA nB : Nat) (cA cB : Array Value) (hA : w.heap[B]? = some (.cells cA 32 (0, 0))) (hB : w.heap[g]? = some (.cells cB 32 (0, 0))) (hne : B ≠ g) (hk : cB.size ≠ 0) :
  (callFunc 123 #[.slice (some ⟨B, 0, none⟩) nA nB, .slice (some ⟨g, off, none⟩) lb cb]).run Tryz.prog w = .ok (.value (.bool false)) w := by
 rw [run_callFunc_extern Tryz.func123 (by kernel_rfl) (by kernel_rfl) (by kernel_rfl) (e := Extern.SlicesOverlaps.overlaps #[26, 26] #[4]) (by kernel_rfl),
  Lib.run_overlaps_apart w 26 4 32 Tryz.underlying26 4 (fun w => by kernel_rfl) ⟨B, 0, none⟩ ⟨g, off, none⟩ nA nB lb cb hne 32 32 cA.size cB.size (by simp [World.shape?, hA]) (by simp [World.shape?, hB]) hk (blk_frozen hA _) (blk_frozen hA _)]
 rfl
set_option maxHeartbeats 4000000 in
set_option maxRecDepth 100000 in
theorem ins76 {w : World} {base : Nat} {v : Value} {l : List Wsh} (hown : OwnL w base v l) (hbase : base ≤ w.heap.size) (hfew : l.length ≤ 1000000) (i : Nat) (hi : i ≤ l.length) (x : Wsh) (B : Nat)
  (hB : w.heap[B]? = some (.cells #[.int .i64 x.edge, .int .i64 x.src, .int .i64 x.dst, .int .i64 x.weight] 32 (0, 0))) (hne : v.ownBlock ≠ some B) :
  Calls Tryz.prog 76 #[v, .int .i64 i, .slice (some ⟨B, 0, none⟩) 1 1] w fun e w' => ∃ v', e = .returned v' ∧ OwnL w' base v' (insAt l i x) ∧ Kept (ownF v) w w' ∧ (v'.ownBlock = v.ownBlock ∨ ∃ g, v'.ownBlock = some g ∧ w.heap.size ≤ g) := by
 have hnews : ∀ j u, (flat [x])[j]? = some u → w.cell? ((⟨B, 0, none⟩ : Addr).add j) = some u := fun j u hu => World.news_of_block hB j u (by simpa [flat, Rec.cs] using hu)
 have hmix := mixed
 rcases hown.2 with ⟨rfl, hz⟩ | ⟨g, cap, cur, rfl, hg1, hg, r1, r2, r3, r4⟩
 ·have hl : l = [] := List.eq_nil_of_length_eq_zero hz
  subst hl
  obtain rfl : i = 0 := by simpa using hi
  have HO := yy hown
  have HN := yy hnews
  clear hown hnews hB
  go_enter Tryz.func76, Tryz.ntmps76
  go_wp2_with (at_builtin; refine wpList_app (α := Wsh) rfl _ _ rfl rfl HO.out ⟨B, 0, none⟩ 1 1 [x] rfl rfl HN.out (by simp) hbase ?_; intro v' w' h1 h2 h3; have H1 := yy h1; have H2 := yy h2; have H3 := yy h3; clear h1 h2 h3)
  go_ret
  exact ⟨_, rfl, H1.out, H2.out, H3.out.imp id fun h => ⟨_, h, Nat.le_refl _⟩⟩
 ·have hne' : g ≠ B := fun e => hne (by rw [e]; rfl)
  by_cases hin : i = l.length
  ·subst hin
   have HO := yy hown
   have HN := yy hnews
   have hins : insAt l l.length x = l ++ [x] := by unfold insAt; simp
   have HI := yy hins
   clear hown hnews hB hins
   go_enter Tryz.func76, Tryz.ntmps76
   go_wp2_with (at_builtin; refine wpList_app (α := Wsh) rfl _ _ rfl (v := .slice (some ⟨g, 0, none⟩) l.length cap) rfl HO.out ⟨B, 0, none⟩ 1 1 [x] rfl rfl HN.out (by simp; omega) hbase ?_; intro v' w' h1 h2 h3; have H1 := yy h1; have H2 := yy h2; have H3 := yy h3; clear h1 h2 h3)
   all_goals
    go_ret
    exact ⟨_, rfl, by rw [HI.out]; exact H1.out, H2.out, H3.out.imp id fun h => ⟨_, h, Nat.le_refl _⟩⟩
  ·have hlt : i < l.length := by omega
   have hltI : (i : Int) < (l.length : Int) := by omega
   have hneI : ¬ ((i : Int) = (l.length : Int)) := by omega
   have hneN : ¬ (i = l.length) := hin
   have hin' : i ≤ l.length := hi
   have hC : cur.toList.take (i * 4) = flat (l.take i) := by
    rw [← flat_take l i hi]
    have r4' : cur.toList.take (l.length * Rec.k Wsh) = flat l := r4
    rw [← r4', List.take_take, Nat.min_eq_left (Nat.mul_le_mul_right _ hi)]
    rfl
   have hsrc : ∀ (W : World), W.heap[g]? = some (.cells cur 32 (0, 0)) → ∀ j u, (flat (l.drop i))[j]? = some u → W.cell? ((⟨g, i * 4, none⟩ : Addr).add j) = some u := by
    intro W hW j u hj
    have hadd : (⟨g, i * 4, none⟩ : Addr).add j = ⟨g, i * 4 + j, none⟩ := by unfold Addr.add; split <;> simp_all
    rw [hadd, blk_cell hW, ← Array.getElem?_toList]
    have hfl : flat l = flat (l.take i) ++ flat (l.drop i) := by rw [← flat_append, List.take_append_drop]
    have hlen : (flat (l.take i)).length = i * 4 := by
     rw [flat_length, List.length_take, Nat.min_eq_left hi]
     rfl
    have h1 : (flat l)[i * 4 + j]? = some u := by
     rw [hfl, List.getElem?_append_right (by omega), hlen, Nat.add_sub_cancel_left]
     exact hj
    have r4' : cur.toList.take (l.length * Rec.k Wsh) = flat l := r4
    rw [← r4', List.getElem?_take] at h1
    split at h1
    ·exact h1
    ·cases h1
   have r3' : cur.size = cap * 4 := r3
   have hdl : (l.drop i).length = l.length - i := by rw [List.length_drop]
   by_cases hroom : l.length + 1 ≤ cap
   ·have hcur0 : cur.size ≠ 0 := by omega
    have hov := fun lb cb => ov123 w B g ((i + 1) * 4) lb cb 1 1 _ _ hB hg (Ne.symm hne') hcur0
    have hfit1 : (i + 1) * 4 + (l.drop i).length * 4 ≤ cur.size := by rw [hdl, r3', ← Nat.add_mul]; exact Nat.mul_le_mul_right _ (by omega)
    have hcp1 : ∀ (W : World), W.heap[g]? = some (.cells cur 32 (0, 0)) → ∀ ty dc sc, (Builtin.copy_ #[26, 26] ty #[.slice (some ⟨g, (i + 1) * 4, none⟩) (l.length - i) dc, .slice (some ⟨g, i * 4, none⟩) (l.length + 1 - i) sc]).run Tryz.prog W = .ok (goInt (l.drop i).length) (W.setRow g (splice cur.toList ((i + 1) * 4) (flat (l.drop i))).toArray) := fun W hW ty dc sc =>
     run_copy_k (α := Wsh) W ty g ((i + 1) * 4) (l.length - i) dc ⟨g, i * 4, none⟩ (l.length + 1 - i) sc cur 32 (l.drop i) hW (by rw [hdl]; simp only [Nat.min_def]; split <;> omega) (hsrc W hW) hfit1
    obtain ⟨C1, hC1⟩ : ∃ C1, C1 = (splice cur.toList ((i + 1) * 4) (flat (l.drop i))).toArray := ⟨_, rfl⟩
    have hC1s : C1.size = cur.size := by
     rw [hC1, List.size_toArray, length_splice _ _ _ (by rw [flat_length, Array.length_toList]; exact hfit1), Array.length_toList]
    rw [← hC1] at hcp1
    have hcp2 : ∀ (W : World), W.heap[g]? = some (.cells C1 32 (0, 0)) → W.heap[B]? = some (.cells #[.int .i64 x.edge, .int .i64 x.src, .int .i64 x.dst, .int .i64 x.weight] 32 (0, 0)) → ∀ ty dc, (Builtin.copy_ #[26, 26] ty #[.slice (some ⟨g, i * 4, none⟩) (l.length + 1 - i) dc, .slice (some ⟨B, 0, none⟩) 1 1]).run Tryz.prog W = .ok (goInt 1) (W.setRow g (splice C1.toList (i * 4) (flat [x])).toArray) := fun W hW hWB ty dc =>
     run_copy_k (α := Wsh) W ty g (i * 4) (l.length + 1 - i) dc ⟨B, 0, none⟩ 1 1 C1 32 [x] hW (by simp only [Nat.min_def]; split <;> simp <;> omega) (fun j u hu => World.news_of_block hWB j u (by simpa [flat, Rec.cs] using hu)) (by rw [hC1s, r3']; show i * 4 + 1 * 4 ≤ cap * 4; rw [← Nat.add_mul]; exact Nat.mul_le_mul_right _ (by omega))
    have hres : (splice C1.toList (i * 4) (flat [x])).take ((l.length + 1) * 4) = flat (insAt l i x) ∧ (splice C1.toList (i * 4) (flat [x])).length = cur.size := by
     have hx : (flat [x]).length = 4 := rfl
     have hb : i * 4 + 4 ≤ cur.toList.length := by
      rw [Array.length_toList, r3', show i * 4 + 4 = (i + 1) * 4 by omega]
      exact Nat.mul_le_mul_right _ (by omega)
     refine ⟨?_, ?_⟩
     ·rw [hC1, List.toList_toArray, show (i + 1) * 4 = i * 4 + 4 by omega, splice_in _ _ _ _ _ hx hb]
      exact row_ins cur.toList l i x hi hC _
     ·rw [length_splice _ _ _ (by rw [hx, Array.length_toList, hC1s, ← Array.length_toList]; exact hb), Array.length_toList, hC1s]
    have HR := yy hres
    have R3 := yy r3
    have HCP1 := yy hcp1
    have HCP2 := yy hcp2
    have HG := yy hg
    have HB := yy hB
    have hb1 : ¬ ((cap : Int) < (l.length : Int) + 1) := by omega
    have hw1 : IntKind.i64.wrap ((i : Int) + 1) = (i : Int) + 1 := by rw [IntKind.wrap_i64]; omega
    have hb7 : (i : Int) ≤ (l.length : Int) + 1 := by omega
    have hb2 : (0 : Int) ≤ (i : Int) + 1 := by omega
    have hb3 : (i : Int) + 1 ≤ (l.length : Int) + 1 := by omega
    have htn : ((i : Int) + 1).toNat = i + 1 := by omega
    have htl : ((l.length : Int) + 1).toNat = l.length + 1 := by omega
    have hb4 : ¬ (cap = i + 1) := by omega
    have hb5 : ¬ (cap = i) := by omega
    have hb6 : (l.length : Int) + 1 ≤ (cap : Int) := by omega
    clear hres hcp1 hcp2 hg hB hC hsrc hfit1 hC1 hC1s hcur0 hown hnews r4 r3 r3' hin
    go_enter Tryz.func76, Tryz.ntmps76
    go_wp2_with fail
    refine region_tail 8 hmix (by kernel_rfl) fun w2 dd => ?_
    have hg2 := yy (dd.blk HG.out)
    have hB2 := yy (dd.blk HB.out)
    have K2 := yy (dd.kept (ownF (.slice (some ⟨g, 0, none⟩) l.length cap)))
    clear dd HG HB
    simp only [List.take_succ_cons, List.take_zero, List.drop_succ_cons, List.drop_zero]
    repeat still_step
    refine wpStill_nil ?_
    refine wpList_copy_eq rfl (.tmp 73) (.tmp 76) 26 26 rfl (.slice (some ⟨g, (i + 1) * 4, none⟩) (l.length - i) (cap - (i + 1))) (.slice (some ⟨g, i * 4, none⟩) (l.length + 1 - i) (cap - i)) rfl rfl (HCP1.out w2 hg2.out _ _ _) ?_
    have hg3 := yy (setRow_heap w2 g _ C1 _ _ hg2.out)
    have hB3 := yy ((setRow_other w2 g B C1 (Ne.symm hne')).trans hB2.out)
    have K3 := yy (K2.out.setRow (g := g) (.inl rfl) C1)
    clear hg2 hB2 K2
    generalize w2.setRow g C1 = w3 at hg3 hB3 K3 ⊢
    have hq2 := HCP2.out w3 hg3.out hB3.out 3 (cap - i)
    go_wp2
    go_ret
    have hok : OwnL (w3.setRow g (splice C1.toList (i * 4) (flat [x])).toArray) base (.slice (some ⟨g, 0, none⟩) (l.length + 1) cap) (insAt l i x) := by
     refine ⟨by rw [flat_length], .inr ⟨g, cap, (splice C1.toList (i * 4) (flat [x])).toArray, ?_, hg1, setRow_heap w3 g _ _ _ _ hg3.out, by rw [insAt_length l i x hi]; exact hroom, r2, ?_, ?_⟩⟩
     ·rw [insAt_length l i x hi]
     ·rw [List.size_toArray, HR.out.2]; exact R3.out
     ·rw [insAt_length l i x hi]; exact HR.out.1
    exact ⟨_, rfl, hok, K3.out.setRow (g := g) (.inl rfl) _, .inl rfl⟩
   ·have hce : cap = l.length := by omega
    subst hce
    obtain ⟨inf, hinf, hz0, hz1, hz2⟩ := info_parts (RecI.info (α := Wsh))
    have hbp := RecI.bpos (α := Wsh)
    have hold : (Builtin.firstCells inf.size i (.slice (some ⟨g, 0, none⟩) i l.length)).run Tryz.prog w.drew = .ok (flat (l.take i)).toArray w.drew := by
     rw [hz1]
     have hlen : (flat (l.take i)).length = i * Rec.k Wsh := by rw [flat_length, List.length_take, Nat.min_eq_left hi]
     have := run_loadCells_list (P := Tryz.prog) w.drew ⟨g, 0, none⟩ (flat (l.take i)) (fun j u hj => by
      have hadd : (⟨g, 0, none⟩ : Addr).add j = ⟨g, j, none⟩ := by unfold Addr.add; split <;> simp_all
      rw [hadd, blk_cell (w := w.drew) (show w.drew.heap[g]? = _ from hg), ← Array.getElem?_toList]
      rw [← hC, List.getElem?_take] at hj
      split at hj
      ·exact hj
      ·cases hj)
     rw [hlen] at this
     exact this
    have hk1 : i + (l.length + 1 - i) = l.length + 1 := by omega
    have hap0 := fun ty => Lib.run_append_grow_zeros w 26 3 ty 32 inf _ .i64 .i64 Tryz.underlying26 Tryz.underlying3 hinf hz0 (some ⟨g, 0, none⟩) i l.length (flat (l.take i)) hold (l.length + 1 - i) (by omega) (by rw [hz1]; exact RecI.kpos) (by omega) (by omega)
     (by rw [hz2]; have : (l.length + 1 - i) * RecI.by_ Wsh ≤ 1000001 * 64 := Nat.mul_le_mul (by omega) hbp; omega)
     (by rw [hz2, hk1]; refine growslice_fits (by omega) ?_; have : (l.length + 1) * RecI.by_ Wsh ≤ 1000001 * 64 := Nat.mul_le_mul (by omega) hbp; omega)
    rw [hk1] at hap0
    have hGn : l.length + 1 ≤ grownCap w (l.length + 1) l.length 32 := grownCap_ge w _ _ _
    have hGm : grownCap w (l.length + 1) l.length 32 ≤ maxLen := grownCap_le_maxLen w (l.length + 1) l.length 32 (by unfold maxLen; omega)
    obtain ⟨G, hG⟩ : ∃ G, G = grownCap w (l.length + 1) l.length 32 := ⟨_, rfl⟩
    rw [← hG] at hap0 hGn hGm
    obtain ⟨ROW, hROW⟩ : ∃ ROW : Array Value, ROW = (flat (l.take i)).toArray ++ Builtin.zeroCells (RecI.z Wsh).cells (l.length + 1 - i) ++ Builtin.zeroCells (RecI.z Wsh).cells (G - (l.length + 1)) := ⟨_, rfl⟩
    rw [← hROW] at hap0
    have hlt0 : (flat (l.take i)).length = i * 4 := by rw [flat_length, List.length_take, Nat.min_eq_left hi]; rfl
    have hzs : (RecI.z Wsh).cells.size = 4 := RecI.zs
    have hRs : ROW.size = G * 4 := by
     rw [hROW, Array.size_append, Array.size_append, List.size_toArray, hlt0, size_zeroCells, size_zeroCells, hzs, ← Nat.add_mul, ← Nat.add_mul]
     congr 1
     omega
    have hRC : ROW.toList.take (i * 4) = flat (l.take i) := by
     rw [hROW, Array.toList_append, Array.toList_append, List.append_assoc, List.toList_toArray]
     exact take_of_app _ _ _ hlt0
    have hNI : ((l.length : Int) + 1 - (i : Int)) = ((l.length + 1 - i : Nat) : Int) := by omega
    obtain ⟨W1, hW1⟩ : ∃ W1, W1 = w.drew.alloc (.cells ROW 32) := ⟨_, rfl⟩
    have hgN : W1.heap[w.heap.size]? = some (.cells ROW 32 (0, 0)) := by rw [hW1]; exact blk_new w.drew _
    have kW1 : Gro w W1 := by rw [hW1]; exact ((Gro.refl w).drw (show Drw w w.drew from ⟨rfl, rfl, rfl, rfl, Nat.le_succ _⟩)).alloc _
    rw [← hW1] at hap0
    have hap : ∀ ty, (Builtin.append_ #[26, 3] ty #[.slice (some ⟨g, 0, none⟩) i l.length, .int .i64 ((l.length : Int) + 1 - (i : Int))]).run Tryz.prog w = .ok (.slice (some ⟨w.heap.size, 0, none⟩) (l.length + 1) G) W1 := fun ty => by rw [hNI]; exact hap0 ty
    have hx : (flat [x]).length = 4 := rfl
    have hfit1 : i * 4 + 4 ≤ ROW.size := by
     rw [hRs, show i * 4 + 4 = (i + 1) * 4 by omega]
     exact Nat.mul_le_mul_right _ (by omega)
    have hcp1 : (Builtin.copy_ #[26, 26] 3 #[.slice (some ⟨w.heap.size, i * 4, none⟩) (l.length + 1 - i) (G - i), .slice (some ⟨B, 0, none⟩) 1 1]).run Tryz.prog W1 = .ok (goInt 1) (W1.setRow w.heap.size (splice ROW.toList (i * 4) (flat [x])).toArray) :=
     run_copy_k (α := Wsh) W1 3 w.heap.size (i * 4) (l.length + 1 - i) (G - i) ⟨B, 0, none⟩ 1 1 ROW 32 [x] hgN (by simp only [Nat.min_def]; split <;> simp <;> omega) (fun j u hu => World.news_of_block (kW1.blk hB) j u (by simpa [flat, Rec.cs] using hu)) hfit1
    obtain ⟨C1, hC1⟩ : ∃ C1, C1 = (splice ROW.toList (i * 4) (flat [x])).toArray := ⟨_, rfl⟩
    have hC1s : C1.size = ROW.size := by
     rw [hC1, List.size_toArray, length_splice _ _ _ (by rw [hx, Array.length_toList]; exact hfit1), Array.length_toList]
    rw [← hC1] at hcp1
    obtain ⟨W2, hW2⟩ : ∃ W2, W2 = W1.setRow w.heap.size C1 := ⟨_, rfl⟩
    rw [← hW2] at hcp1
    have hgN2 : W2.heap[w.heap.size]? = some (.cells C1 32 (0, 0)) := by rw [hW2]; exact setRow_heap W1 _ _ _ _ _ hgN
    have hgl : g < w.heap.size := blk_lt hg
    have kW2 : Gro w W2 := by rw [hW2]; exact Kept.setRow kW1 (.inr (Nat.le_refl _)) C1
    have hg2 : W2.heap[g]? = some (.cells cur 32 (0, 0)) := kW2.blk hg
    have hfit2 : (i + 1) * 4 + (l.drop i).length * 4 ≤ C1.size := by rw [hdl, hC1s, hRs, ← Nat.add_mul]; exact Nat.mul_le_mul_right _ (by omega)
    have hcp2 : ∀ (W : World), W.heap[w.heap.size]? = some (.cells C1 32 (0, 0)) → W.heap[g]? = some (.cells cur 32 (0, 0)) → ∀ ty dc sc, (Builtin.copy_ #[26, 26] ty #[.slice (some ⟨w.heap.size, (i + 1) * 4, none⟩) (l.length - i) dc, .slice (some ⟨g, i * 4, none⟩) (l.length - i) sc]).run Tryz.prog W = .ok (goInt (l.drop i).length) (W.setRow w.heap.size (splice C1.toList ((i + 1) * 4) (flat (l.drop i))).toArray) := fun W hW hWg ty dc sc =>
     run_copy_k (α := Wsh) W ty w.heap.size ((i + 1) * 4) (l.length - i) dc ⟨g, i * 4, none⟩ (l.length - i) sc C1 32 (l.drop i) hW (by rw [hdl]; simp only [Nat.min_def]; split <;> omega) (hsrc W hWg) hfit2
    have hres : (splice C1.toList ((i + 1) * 4) (flat (l.drop i))).take ((l.length + 1) * 4) = flat (insAt l i x) ∧ (splice C1.toList ((i + 1) * 4) (flat (l.drop i))).length = G * 4 := by
     refine ⟨?_, ?_⟩
     ·rw [hC1, List.toList_toArray, show (i + 1) * 4 = i * 4 + 4 by omega, splice_on _ _ _ _ _ hx (by rw [Array.length_toList]; exact hfit1)]
      exact row_ins ROW.toList l i x hi hRC _
     ·rw [length_splice _ _ _ (by rw [flat_length, Array.length_toList]; exact hfit2), Array.length_toList, hC1s, hRs]
    have HR := yy hres
    have HCP2 := yy hcp2
    have HG2 := yy hg2
    have HN2 := yy hgN2
    have KW2 := yy kW2
    have GM := yy hGm
    have GN := yy hGn
    have GL := yy hgl
    have hb1 : ((l.length : Int) < (l.length : Int) + 1) := by omega
    have hw1 : IntKind.i64.wrap ((i : Int) + 1) = (i : Int) + 1 := by rw [IntKind.wrap_i64]; omega
    have hw2 : IntKind.i64.wrap ((l.length : Int) + 1 - (i : Int)) = (l.length : Int) + 1 - (i : Int) := by rw [IntKind.wrap_i64]; omega
    have hb7 : (i : Int) ≤ (l.length : Int) + 1 := by omega
    have hb2 : (0 : Int) ≤ (i : Int) + 1 := by omega
    have hb3 : (i : Int) + 1 ≤ (l.length : Int) + 1 := by omega
    have htn : ((i : Int) + 1).toNat = i + 1 := by omega
    have hb4 : ¬ (G = i + 1) := by omega
    have hb5 : ¬ (G = i) := by omega
    have hb8 : ¬ (l.length = i) := by omega
    have hb9 : (i : Int) ≤ (l.length : Int) := by omega
    clear hres hcp2 hg2 hgN2 kW2 hGm hg hB hC hsrc hfit1 hC1 hC1s hown hnews r4 r3 r3' hin hap0 hNI hold hz0 hz1 hz2 hinf hbp hROW hRs hRC hlt0 hzs hW1 hW2 hgN kW1 hfit2 hx hgl hk1 hG
    go_enter Tryz.func76, Tryz.ntmps76
    go_wp2_with (at_builtin; refine Lib.wpList_append_run _ rfl _ _ 26 3 rfl _ _ rfl rfl _ _ (hap _) ?_)
    refine region_tail 8 hmix (by kernel_rfl) fun w2 dd => ?_
    have hg2 := yy (dd.blk HG2.out)
    have hN2 := yy (dd.blk HN2.out)
    have K2 := yy (KW2.out.drw dd)
    clear dd HG2 HN2 KW2
    simp only [List.take_succ_cons, List.take_zero, List.drop_succ_cons, List.drop_zero]
    repeat still_step
    refine wpStill_nil ?_
    refine wpList_copy_eq rfl (.tmp 50) (.tmp 53) 26 26 rfl (.slice (some ⟨w.heap.size, (i + 1) * 4, none⟩) (l.length - i) (G - (i + 1))) (.slice (some ⟨g, i * 4, none⟩) (l.length - i) (l.length - i)) rfl rfl (HCP2.out w2 hN2.out hg2.out _ _ _) ?_
    have K3 : Gro w (w2.setRow w.heap.size (splice C1.toList ((i + 1) * 4) (flat (l.drop i))).toArray) := Kept.setRow K2.out (.inr (Nat.le_refl _)) _
    have hok : OwnL (w2.setRow w.heap.size (splice C1.toList ((i + 1) * 4) (flat (l.drop i))).toArray) base (.slice (some ⟨w.heap.size, 0, none⟩) (l.length + 1) G) (insAt l i x) := by
     refine ⟨by rw [flat_length], .inr ⟨w.heap.size, G, (splice C1.toList ((i + 1) * 4) (flat (l.drop i))).toArray, ?_, hbase, setRow_heap w2 _ _ _ _ _ hN2.out, by rw [insAt_length l i x hi]; exact GN.out, GM.out, ?_, ?_⟩⟩
     ·rw [insAt_length l i x hi]
     ·rw [List.size_toArray]; exact HR.out.2
     ·rw [insAt_length l i x hi]; exact HR.out.1
    have HOK := yy hok
    have HK3 := yy K3
    clear hok K3 HCP2 HR hN2 hg2 K2
    generalize w2.setRow w.heap.size (splice C1.toList ((i + 1) * 4) (flat (l.drop i))).toArray = w3 at HOK HK3 ⊢
    go_wp2
    go_ret
    exact ⟨_, rfl, HOK.out, HK3.out.kept _, .inr ⟨_, rfl, Nat.le_refl _⟩⟩
end Go.Proofs.YthfagcdjbmhhcaaGreat
