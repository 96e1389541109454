/- the law's own: few. -/
import Derived.Test.YthfagcdjbmhhcaaGreatK27
set_option linter.unusedVariables false
set_option linter.unusedSimpArgs false
namespace Go.Proofs.YthfagcdjbmhhcaaGreat
open Go.RowKit
attribute [local irreducible] wpQuiet
theorem lfR241 {P : Prop} (h : P := by (intro W9 hSw; obtain ⟨b0, b1, b2, b3⟩ := hSw; have hlb := World.block_lt_of_cell? _ _ b0; go_simp; first | done | with_reducible rfl | exact HM1.out | exact HM2.out | exact HM3.out)) : P := h
def fewB (b : Bk) : Bk := ⟨b.round, b.ps.take 6, b.os.take 8, b.ws.take 8⟩
theorem lst_few {α : Type} [Rec α] {w : World} {a : Option Addr} {n c : Nat} {l : List α} (h : Lst w a n c l) {m : Nat} (hm : m ≤ l.length) : LV w (.slice a m c) (l.take m) := by
 have h1 := h.len
 have h2 := h.cap
 have h3 := h.big
 have hl : (l.take m).length = m := by rw [List.length_take]; omega
 refine ⟨a, c, by rw [hl], hl.symm ▸ rfl, by omega, by omega, ?_⟩
 rcases h.at_ with rfl | ⟨b, off, rfl, hb, hc⟩
 ·left; simp
 right
 refine ⟨b, off, rfl, hb, fun i v hv => hc i v ?_⟩
 have : flat l = flat (l.take m) ++ flat (l.drop m) := by rw [← flat_append, List.take_append_drop]
 rw [this, List.getElem?_append_left (List.getElem?_eq_some_iff.1 hv).1]
 exact hv
theorem minN (n k : Nat) : ∃ m : Nat, m ≤ n ∧ m ≤ k ∧ (if (k : Int) < (n : Int) then (k : Int) else (n : Int)) = m ∧ (∀ {α : Type} (l : List α), l.length = n → l.take m = l.take k) := by
 by_cases h : k < n
 ·exact ⟨k, by omega, Nat.le_refl _, by rw [if_pos (by omega)], fun _ _ => rfl⟩
 exact ⟨n, Nat.le_refl _, by omega, by rw [if_neg (by omega)], fun l hl => by rw [← hl, List.take_length, List.take_of_length_le (by omega)]⟩
set_option maxHeartbeats 8000000 in
set_option maxRecDepth 100000 in
theorem few12 {w : World} {vb : Value} {b : Bk} (hB : BkV w vb b) : Calls Tryz.prog 12 #[vb] w fun e w' => ∃ v, e = .returned v ∧ BkV w' v (fewB b) ∧ Gro w w' := by
 have hmix := mixed
 obtain ⟨a1, c1, a2, c2, a3, c3, rfl⟩ := hB.open
 obtain ⟨_, l1, l2, l3⟩ := hB.lists
 obtain ⟨wa, hwa⟩ : ∃ wa, wa = (w.alloc (.cells #[Value.int IntKind.i64 b.round, Value.slice a1 b.ps.length c1, Value.slice a2 b.os.length c2, Value.slice a3 b.ws.length c3] 28)).alloc (.cells #[Value.int IntKind.i64 0, Value.slice none 0 0, Value.slice none 0 0, Value.slice none 0 0] 28) := ⟨_, rfl⟩
 have k0 : Gro w wa := by rw [hwa]; exact ((Gro.refl _).alloc _).alloc _
 have BB' := yy (show wa.heap[w.heap.size]? = some (.cells #[Value.int IntKind.i64 b.round, Value.slice a1 b.ps.length c1, Value.slice a2 b.os.length c2, Value.slice a3 b.ws.length c3] 28 (0, 0)) from by rw [hwa]; exact blk_alloc (blk_new _ _) _)
 have BT := yy (show wa.heap[w.heap.size + 1]? = some (.cells #[Value.int IntKind.i64 0, Value.slice none 0 0, Value.slice none 0 0, Value.slice none 0 0] 28 (0, 0)) from by rw [hwa]; simpa using blk_new (w.alloc (.cells #[Value.int IntKind.i64 b.round, Value.slice a1 b.ps.length c1, Value.slice a2 b.os.length c2, Value.slice a3 b.ws.length c3] 28)) (.cells #[Value.int IntKind.i64 0, Value.slice none 0 0, Value.slice none 0 0, Value.slice none 0 0] 28))
 have HL1 := yy (fun W (hW : Gro wa W) => l1.gro (k0.trans hW))
 have HL2 := yy (fun W (hW : Gro wa W) => l2.gro (k0.trans hW))
 have HL3 := yy (fun W (hW : Gro wa W) => l3.gro (k0.trans hW))
 have hcp1 := l1.cap
 have hcp2 := l2.cap
 have hcp3 := l3.cap
 obtain ⟨m1, hle1, _, hm1, ht1⟩ := minN b.ps.length 6
 obtain ⟨m2, hle2, _, hm2, ht2⟩ := minN b.os.length 8
 obtain ⟨m3, hle3, _, hm3, ht3⟩ := minN b.ws.length 8
 have HFB := yy (show fewB b = ⟨b.round, b.ps.take m1, b.os.take m2, b.ws.take m3⟩ from by unfold fewB; rw [ht1 _ rfl, ht2 _ rfl, ht3 _ rfl])
 have HM1 := yy hm1
 have HM2 := yy hm2
 have HM3 := yy hm3
 have hx1 : m1 ≤ c1 := by omega
 have hx2 : m2 ≤ c2 := by omega
 have hx3 : m3 ≤ c3 := by omega
 have K0 := yy k0
 have HWA := yy hwa
 clear l1 l2 l3 k0 hwa hm1 hm2 hm3 ht1 ht2 ht3 hB
 go_enter Tryz.func12, Tryz.ntmps12
 go_upto_region 1 with fail
 rw [← HWA.out]
 clear HWA
 obtain ⟨b0, b1, b2, b3, hlb⟩ := cells4 BB'.out
 have hne : ¬ (w.heap.size = w.heap.size + 1) := by omega
 have hxt : w.heap.size ≤ w.heap.size + 1 := by omega
 obtain ⟨XT, hXT⟩ : ∃ XT, XT = w.heap.size + 1 := ⟨_, rfl⟩
 rw [← hXT] at BT hne hxt ⊢
 clear hXT
 obtain ⟨XB, hXB⟩ : ∃ XB, XB = w.heap.size := ⟨_, rfl⟩
 rw [← hXB] at BB' b0 b1 b2 b3 hlb hne ⊢
 clear hXB
 refine wp_region_held_drew (S := (fun w' => w'.cell? ⟨XB, 0, none⟩ = some (Value.int IntKind.i64 b.round) ∧ w'.cell? ⟨XB, 1, none⟩ = some (Value.slice a1 b.ps.length c1) ∧ w'.cell? ⟨XB, 2, none⟩ = some (Value.slice a2 b.os.length c2) ∧ w'.cell? ⟨XB, 3, none⟩ = some (Value.slice a3 b.ws.length c3))) (by kernel_rfl) ⟨(Gro.refl wa).drew.cell b0, (Gro.refl wa).drew.cell b1, (Gro.refl wa).drew.cell b2, (Gro.refl wa).drew.cell b3⟩ (fun hHeld => ?_)
 have KD := yy (Gro.refl wa).drew
 clear b0 b1 b2 b3 hlb
 generalize wa.drew = wD at hHeld KD ⊢
 have HS0 := yy hHeld
 refine tkH 0 rfl lfR241 hHeld ?_
 refine nx ?_
 refine tkH 1 rfl lfR241 hHeld ?_
 refine nx ?_
 refine tkH 2 rfl lfR241 hHeld ?_
 refine nx ?_
 refine tkH 3 rfl lfR241 hHeld ?_
 refine nx ?_
 refine tkH 4 rfl lfR241 hHeld ?_
 refine nx ?_
 refine tkH 5 rfl lfR241 hHeld ?_
 refine nx ?_
 refine tkH 6 rfl lfR241 hHeld ?_
 refine nx ?_
 refine tkH 7 (v := .int .i64 m1) rfl lfR241 hHeld ?_
 refine nx ?_
 refine tkH 8 (v := .slice a1 m1 c1) rfl lfR241 hHeld ?_
 refine nx ?_
 refine tkH 9 rfl lfR241 hHeld ?_
 refine nx ?_
 refine tkH 10 rfl lfR241 hHeld ?_
 refine nx ?_
 refine tkH 11 rfl lfR241 hHeld ?_
 refine nx ?_
 refine tkH 12 rfl lfR241 hHeld ?_
 refine nx ?_
 refine tkH 13 rfl lfR241 hHeld ?_
 refine nx ?_
 refine tkH 14 (v := .int .i64 m2) rfl lfR241 hHeld ?_
 refine nx ?_
 refine tkH 15 (v := .slice a2 m2 c2) rfl lfR241 hHeld ?_
 refine nx ?_
 refine tkH 16 rfl lfR241 hHeld ?_
 refine nx ?_
 refine tkH 17 rfl lfR241 hHeld ?_
 refine nx ?_
 refine tkH 18 rfl lfR241 hHeld ?_
 refine nx ?_
 refine tkH 19 rfl lfR241 hHeld ?_
 refine nx ?_
 refine tkH 20 rfl lfR241 hHeld ?_
 refine nx ?_
 refine tkH 21 (v := .int .i64 m3) rfl lfR241 hHeld ?_
 refine nx ?_
 refine tkH 22 (v := .slice a3 m3 c3) rfl lfR241 hHeld ?_
 refine nx ?_
 refine tkH 23 rfl lfR241 hHeld ?_
 refine nx ?_
 refine wpAnyH_ready (rs := [24]) (by kernel_rfl) (by simp) ?_
 refine AllReadyH.cons (i := 24) rfl (fun K hK => ?_) AllReadyH.nil
 have hTb := KD.out.blk BT.out
 obtain ⟨t0, t1, t2, t3, hlt⟩ := cells4 hTb
 have fT := blk_frozen hTb
 have f0 := fT 0
 have f1 := fT 1
 have f2 := fT 2
 have f3 := fT 3
 clear fT
 have HZ := yy (set4 hTb (.int .i64 b.round) (.slice a1 m1 c1) (.slice a2 m2 c2) (.slice a3 m3 c3))
 have KZ := yy (kept4 (Kept.refl (· = XT) wD) (.inl rfl) (.int .i64 b.round) (.slice a1 m1 c1) (.slice a2 m2 c2) (.slice a3 m3 c3))
 have HTB := yy hTb
 clear hTb
 go_simp
 have hZ := HZ.out
 have hK2 := KZ.out
 clear HZ KZ
 generalize ((((wD.setCell ⟨XT, 0, none⟩ (.int .i64 b.round)).setCell ⟨XT, 1, none⟩ (.slice a1 m1 c1)).setCell ⟨XT, 2, none⟩ (.slice a2 m2 c2)).setCell ⟨XT, 3, none⟩ (.slice a3 m3 c3)) = wZ at hZ hK2 ⊢
 refine hK.out _ _ (show (fun w' => w'.cell? ⟨XB, 0, none⟩ = some (Value.int IntKind.i64 b.round) ∧ w'.cell? ⟨XB, 1, none⟩ = some (Value.slice a1 b.ps.length c1) ∧ w'.cell? ⟨XB, 2, none⟩ = some (Value.slice a2 b.os.length c2) ∧ w'.cell? ⟨XB, 3, none⟩ = some (Value.slice a3 b.ws.length c3)) wZ from ⟨Kept.cell hK2 hne HS0.out.1, Kept.cell hK2 hne HS0.out.2.1, Kept.cell hK2 hne HS0.out.2.2.1, Kept.cell hK2 hne HS0.out.2.2.2⟩) (fun _ => ?_)
 clear hK K
 refine wpAnyH_done (by kernel_rfl) ?_ _
 clear hHeld
 try refine nx ?_
 have B6 := yy hZ
 have K6 := yy (Kept.trans' (K0.out.trans KD.out) hK2 (fun j (hj : j = XT) => .inr (by omega)))
 have hbig1 := (HL1.out _ KD.out).big
 have hbig2 := (HL2.out _ KD.out).big
 have hbig3 := (HL3.out _ KD.out).big
 have V1 := yy ((lst_few (HL1.out _ KD.out) (m := m1) hle1).farB hK2 HTB.out (by decide) (fun x => ⟨x.id, x.budget, rfl, rfl⟩))
 have V2 := yy ((lst_few (HL2.out _ KD.out) (m := m2) hle2).farB hK2 HTB.out (by decide) (fun x => ⟨x.id, x.party, rfl, rfl⟩))
 have V3 := yy ((lst_few (HL3.out _ KD.out) (m := m3) hle3).farB hK2 HTB.out (by decide) (fun x => ⟨x.edge, x.src, rfl, rfl⟩))
 clear hZ hK2 t0 t1 t2 t3 hlt f0 f1 f2 f3 hbig1 hbig2 hbig3
 go_wp2_with fail
 refine bodyPost_ret (results_cell_row (p := 2) (ty := 28) rfl _ _ XT 28 _ (0, 0) _ rfl B6.out Tryz.underlying28 rfl (by kernel_rfl)) rfl ⟨_, rfl, ?_, K6.out⟩
 rw [HFB.out]
 exact ⟨_, _, _, rfl, V1.out, V2.out, V3.out⟩
end Go.Proofs.YthfagcdjbmhhcaaGreat
