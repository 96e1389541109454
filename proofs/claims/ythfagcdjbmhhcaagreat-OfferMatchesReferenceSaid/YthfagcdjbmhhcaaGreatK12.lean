/- the change of Add. Plain laws of package offer: what keeps a book valid. the change of Next. the change of Take. -/
import Derived.Test.YthfagcdjbmhhcaaGreatK11
set_option linter.unusedVariables false
set_option linter.unusedSimpArgs false
namespace Go.Proofs.YthfagcdjbmhhcaaGreat
open Go.RowKit
attribute [local irreducible] wpQuiet
theorem lfG91 {P : Prop} (h : P := by (intro w hSw; go_simp; try with_reducible rfl)) : P := h
set_option maxHeartbeats 8000000 in
set_option maxRecDepth 100000 in
theorem do62 {w : World} {C : Nat} {x : Ofr} {v1 v2 v3 : Value} {g : Gr} {b : Bk} (hC : w.heap[C]? = some (.cells #[.int .i64 x.id, .int .i64 x.party, .int .i64 x.side, .int .i64 x.place, .int .i64 x.price, .int .i64 x.until_, .int .i64 x.state] 30 (0, 0))) (hf : Fits g b) (hv : VB g b) :
  Does w 62 #[.pointer (some ⟨C, 0, none⟩)] v1 v2 v3 g b (doAdd b x) := by
 obtain ⟨xid, xparty, xside, xplace, xprice, xuntil_, xstate⟩ := x
 intro w0 w1 X p o q k0 hx
 have hmix := mixed
 have hb1 := hx.blkw k0 hC
 have hClow : C < w0.heap.size := Nat.lt_of_lt_of_le (blk_lt hC) k0.size
 clear hC k0
 have e1 := blk_cell hb1 0
 simp only [lPa, lPb, lPc] at e1
 have e1 := gcell e1
 have hl1 := blk_lt hb1
 have hfo := hf.bfew.os
 obtain ⟨ao, co, hlv, hlo⟩ := (hx.at_ hf.bfew).os
 subst hlv
 have HP : Hid (∀ W, Gro w1 W → Calls Tryz.prog 63 #[.slice ao b.os.length co, .int .i64 xid, .func (.func 64) #[] #[]] W fun e w' => e = .returned (.tuple #[.int .i64 (posI (b.os.map Ofr.id) xid), .bool (decide (xid ∈ b.os.map Ofr.id))]) ∧ Gro W w') := yy fun W hW => placeF63 (hlo.gro hW) (by omega) xid hv.ao
 have hp := posI_is hv.ao xid
 generalize posI (b.os.map Ofr.id) xid = i at HP hp
 obtain ⟨_, _, x2, _, _, _, _⟩ := (hx.at_ hf.bfew).cells
 have e2 := gcell x2
 have hlX := World.block_lt_of_cell? w1 _ x2
 have HX := yy hx
 have HF := yy hf
 have HA := yy hv.ao
 have HPO := yy hp
 have HB1 := yy hb1
 obtain ⟨hb, hbe⟩ : ∃ hb, hb = decide (xid ∈ b.os.map Ofr.id) := ⟨_, rfl⟩
 rw [← hbe] at HP
 have HBE := yy hbe
 clear hb1 hx x2 hlo hp hf hv hbe
 go_enter Tryz.func62, Tryz.ntmps62
 go_wp2_with fail
 go_quiet_grown ((go_at_call 63; exact Calls.quiet_gro (HP.out _ (gro_of_grow _ _ _))))
 have hx3 := HX.out.gro (gro_of_grow w1 nq osq)
 have bc := (gro_of_grow w1 nq osq).blk HB1.out
 dsimp only at hx3 bc ⊢
 clear HX e1 e2 hlX hl1 HP HB1
 generalize Go.Sort.grow (w1.drewN nq) osq = w3 at hx3 bc ⊢
 have HX3 := yy hx3
 have BC := yy bc
 have c6 := blk_cell bc 6
 simp only [lPa, lPb, lPc] at c6
 have hlC := blk_lt bc
 clear hx3 bc
 by_cases hs : xstate = 1
 ·subst hs
  cases hb with
  | true =>
   have hm : xid ∈ b.os.map Ofr.id := by have := HBE.out; simpa using this
   obtain ⟨hi, he, hop, _⟩ := found_at HA.out HPO.out hm
   obtain ⟨go, co', e1, hgo, _⟩ := HX3.out.os.formI hi
   injection e1 with e1 _ e2
   subst e1 e2
   clear hm
   have hst : w3.cell? ⟨go, i * 7 + 6, none⟩ = some (.int .i64 b.os[i].state) := HX3.out.os.cells (by have := flat_get b.os i hi 6 (by decide); exact this)
   obtain ⟨_, _, x2, _, _, _, _⟩ := (HX3.out.at_ HF.out.bfew).cells
   have hlX := blk_lt HX3.out.blk
   have hlo := World.block_lt_of_cell? w3 _ hst
   by_cases ho : b.os[i].state = 1
   ·have hr : doAdd b ⟨xid, xparty, xside, xplace, xprice, xuntil_, 1⟩ = none := by
     unfold doAdd
     rw [if_pos (.inr (by rw [hop]; simpa using ho))]
    have HR := yy hr
    clear hr he hop
    have ho' : (b.os[i].state == 1) = true := by simpa using ho
    go_wp2_with fail
    go_ret
    exact .inl ⟨HR.out, rfl, HX3.out.kept⟩
   have hr : doAdd b ⟨xid, xparty, xside, xplace, xprice, xuntil_, 1⟩ = some { b with os := b.os.set i ⟨xid, xparty, xside, xplace, xprice, xuntil_, 1⟩ } := by
    unfold doAdd
    have h2 : opn b xid = false := by rw [hop]; simpa using ho
    rw [if_neg (by simp [h2])]
    rw [putO_at HA.out hi _ he]
   have HR := yy hr
   clear hr he hop
   have ho' : (b.os[i].state == 1) = false := by simpa using ho
   have HST := yy hst
   go_wp2_with fail
   have hS0 : w3.heap[C]? = some (.cells #[.int .i64 xid, .int .i64 xparty, .int .i64 xside, .int .i64 xplace, .int .i64 xprice, .int .i64 xuntil_, .int .i64 1] 30 (0, 0)) ∧ w3.heap[X]? = some (.cells #[.int .i64 b.round, p, .slice (some ⟨go, 0, none⟩) b.os.length co, q, v1, v2, v3] 103 (0, 0)) := ⟨BC.out, HX3.out.blk⟩
   clear hst x2 c6 hlX hlo hlC HPO HBE ho ho'
   refine wp_region_held_drew (S := (fun w' => w'.heap[C]? = some (.cells #[.int .i64 xid, .int .i64 xparty, .int .i64 xside, .int .i64 xplace, .int .i64 xprice, .int .i64 xuntil_, .int .i64 1] 30 (0, 0)) ∧ w'.heap[X]? = some (.cells #[.int .i64 b.round, p, .slice (some ⟨go, 0, none⟩) b.os.length co, q, v1, v2, v3] 103 (0, 0)))) (by kernel_rfl) hS0 (fun hHeld => ?_)
   have hxd := HX3.out.gro ((Gro.refl w3).drew)
   clear HX3 BC hS0 HST
   generalize w3.drew = wd at hxd hHeld ⊢
   have HXD := yy hxd
   have s0 := hxd.os.cells (i := i * 7 + 0) (by have := flat_get b.os i hi 0 (by decide); exact this)
   have f0 := hxd.os.froz (i * 7 + 0)
   have s1 := hxd.os.cells (i := i * 7 + 1) (by have := flat_get b.os i hi 1 (by decide); exact this)
   have f1 := hxd.os.froz (i * 7 + 1)
   have s2 := hxd.os.cells (i := i * 7 + 2) (by have := flat_get b.os i hi 2 (by decide); exact this)
   have f2 := hxd.os.froz (i * 7 + 2)
   have s3 := hxd.os.cells (i := i * 7 + 3) (by have := flat_get b.os i hi 3 (by decide); exact this)
   have f3 := hxd.os.froz (i * 7 + 3)
   have s4 := hxd.os.cells (i := i * 7 + 4) (by have := flat_get b.os i hi 4 (by decide); exact this)
   have f4 := hxd.os.froz (i * 7 + 4)
   have s5 := hxd.os.cells (i := i * 7 + 5) (by have := flat_get b.os i hi 5 (by decide); exact this)
   have f5 := hxd.os.froz (i * 7 + 5)
   have s6 := hxd.os.cells (i := i * 7 + 6) (by have := flat_get b.os i hi 6 (by decide); exact this)
   have f6 := hxd.os.froz (i * 7 + 6)
   simp only [Nat.add_zero] at s0 f0
   have hlo := World.block_lt_of_cell? wd _ s6
   clear hxd
   refine tkH 0 rfl lfG91 hHeld ?_
   refine nx ?_
   refine tkH 1 rfl lfG91 hHeld ?_
   refine nx ?_
   refine tkH 2 rfl lfG91 hHeld ?_
   refine nx ?_
   refine tkH 3 rfl lfG91 hHeld ?_
   refine nx ?_
   refine tkH 4 rfl (by intro w hSw; have cb := blk_cell hSw.2 2; simp only [lPa, lPb, lPc] at cb; have cbl := blk_lt hSw.2; clear hSw; go_simp; try with_reducible rfl) hHeld ?_
   refine nx ?_
   refine tkH 5 rfl lfG91 hHeld ?_
   refine nx ?_
   refine tkH 6 rfl (by intro w hSw; have cb := blk_cell hSw.1; have cb0 := cb 0; have cb1 := cb 1; have cb2 := cb 2; have cb3 := cb 3; have cb4 := cb 4; have cb5 := cb 5; have cb6 := cb 6; simp only [lPa, lPb, lPc] at cb0 cb1 cb2 cb3 cb4 cb5 cb6; have cbl := blk_lt hSw.1; clear cb hSw; go_simp; try with_reducible rfl) hHeld ?_
   refine nx ?_
   refine tkH 7 rfl lfG91 hHeld ?_
   refine nx ?_
   refine wpAnyH_ready (rs := [8]) (by kernel_rfl) (by simp) ?_
   refine AllReadyH.cons (i := 8) rfl (fun K hK => ?_) AllReadyH.nil
   have hfin := HXD.out.put7 i hi ⟨xid, xparty, xside, xplace, xprice, xuntil_, 1⟩
   have hCo : C ≠ go := by omega
   have hCf : (put7 wd go i ⟨xid, xparty, xside, xplace, xprice, xuntil_, 1⟩).heap[C]? = some (.cells #[.int .i64 xid, .int .i64 xparty, .int .i64 xside, .int .i64 xplace, .int .i64 xprice, .int .i64 xuntil_, .int .i64 1] 30 (0, 0)) := by unfold put7; exact blk_far (blk_far (blk_far (blk_far (blk_far (blk_far (blk_far hHeld.1 hCo _) hCo _) hCo _) hCo _) hCo _) hCo _) hCo _
   have HFI := yy hfin
   have HCF := yy hCf
   clear hfin hCf HXD
   unfold put7 at HFI HCF
   simp only at HFI HCF
   go_simp
   refine hK.out _ _ ⟨HCF.out, HFI.out.blk⟩ (fun hHeld => ?_)
   clear hK K
   try refine nx ?_
   refine wpAnyH_done (by kernel_rfl) ?_ _
   clear hHeld HCF s0 s1 s2 s3 s4 s5 s6 f0 f1 f2 f3 f4 f5 f6 hlo
   go_wp2_with fail
   go_ret
   exact .inr ⟨_, _, _, _, HR.out, rfl, HFI.out⟩
  | false =>
  have hm : xid ∉ b.os.map Ofr.id := by have := HBE.out; simpa using this
  have hr : doAdd b ⟨xid, xparty, xside, xplace, xprice, xuntil_, 1⟩ = some { b with os := insAt b.os i ⟨xid, xparty, xside, xplace, xprice, xuntil_, 1⟩ } := by
   unfold doAdd
   rw [if_neg (by simp [(not_found hm).1])]
   rw [putO_new _ hm, ← insAt_ins Ofr.id _ _ _ HPO.out]
  have HR := yy hr
  clear hr hm
  have hi : i ≤ b.os.length := by simpa using HPO.out.le
  go_wp2_with fail
  clear c6
  refine wp_region_held_drew (S := (fun w' => w'.heap[C]? = some (.cells #[.int .i64 xid, .int .i64 xparty, .int .i64 xside, .int .i64 xplace, .int .i64 xprice, .int .i64 xuntil_, .int .i64 1] 30 (0, 0)))) (by kernel_rfl) BC.out (fun hHeld => ?_)
  have hxd := HX3.out.gro ((Gro.refl w3).drew)
  have BD := yy (show w3.drew.heap[C]? = some (.cells #[.int .i64 xid, .int .i64 xparty, .int .i64 xside, .int .i64 xplace, .int .i64 xprice, .int .i64 xuntil_, .int .i64 1] 30 (0, 0)) from BC.out)
  clear HX3 BC
  generalize w3.drew = wd at hxd BD hHeld ⊢
  have hCd := hHeld
  obtain ⟨WE, hWE⟩ : ∃ WE, WE = wd.alloc (.cells #[.int .i64 xid, .int .i64 xparty, .int .i64 xside, .int .i64 xplace, .int .i64 xprice, .int .i64 xuntil_, .int .i64 1] 30) := ⟨_, rfl⟩
  have kE : Gro wd WE := by rw [hWE]; exact (Gro.refl _).alloc _
  have bE : WE.heap[wd.heap.size]? = some (.cells #[.int .i64 xid, .int .i64 xparty, .int .i64 xside, .int .i64 xplace, .int .i64 xprice, .int .i64 xuntil_, .int .i64 1] 30 (0, 0)) := by rw [hWE]; exact blk_new _ _
  have hxE := hxd.gro kE
  have hSE : WE.heap[C]? = some (.cells #[.int .i64 xid, .int .i64 xparty, .int .i64 xside, .int .i64 xplace, .int .i64 xprice, .int .i64 xuntil_, .int .i64 1] 30 (0, 0)) := kE.blk hCd
  have hbase : w0.heap.size ≤ WE.heap.size := Nat.le_trans hxE.lo (Nat.le_of_lt (blk_lt hxE.blk))
  have hIN := ins65 (hxE.os) hbase (by have := HF.out.bfew.os; omega) i hi ⟨xid, xparty, xside, xplace, xprice, xuntil_, 1⟩ wd.heap.size bE (by intro e; have := (hxd.os.block e).2.1; omega)
  obtain ⟨x0, x1, x2, x3, _, _, _⟩ := (hxd.at_ HF.out.bfew).cells
  have hlX := blk_lt hxd.blk
  obtain ⟨_, _, y2, y3, _, _, _⟩ := (hxE.at_ HF.out.bfew).cells
  have hlXE := blk_lt hxE.blk
  have hlC := blk_lt hCd
  have HIN := yy hIN
  have HXE := yy hxE
  have HWE := yy hWE
  have hszE : WE.heap.size = wd.heap.size + 1 := by rw [hWE]; exact asz _ _
  have hcd := blk_cell hCd
  have hce := blk_cell hSE
  have cd0 := hcd 0
  have ce0 := hce 0
  have cd1 := hcd 1
  have ce1 := hce 1
  have cd2 := hcd 2
  have ce2 := hce 2
  have cd3 := hcd 3
  have ce3 := hce 3
  have cd4 := hcd 4
  have ce4 := hce 4
  have cd5 := hcd 5
  have ce5 := hce 5
  have cd6 := hcd 6
  have ce6 := hce 6
  simp only [lPa, lPb, lPc] at cd0 ce0 cd1 ce1 cd2 ce2 cd3 ce3 cd4 ce4 cd5 ce5 cd6 ce6
  clear hcd hce hIN hWE kE bE hxd hxE hbase BD
  refine tkH 0 rfl lfG91 hHeld ?_
  refine nx ?_
  refine tkH 1 rfl lfG91 hHeld ?_
  refine nx ?_
  refine tkH 2 rfl lfG91 hHeld ?_
  refine nx ?_
  refine tkH 3 rfl lfG91 hHeld ?_
  refine nx ?_
  refine tkH 4 rfl lfG91 hHeld ?_
  refine nx ?_
  refine tkH 6 rfl lfG91 hHeld ?_
  refine nx ?_
  refine tkH 7 rfl (by intro w hSw; have cb := blk_cell hSw; have cb0 := cb 0; have cb1 := cb 1; have cb2 := cb 2; have cb3 := cb 3; have cb4 := cb 4; have cb5 := cb 5; have cb6 := cb 6; simp only [lPa, lPb, lPc] at cb0 cb1 cb2 cb3 cb4 cb5 cb6; have cbl := blk_lt hSw; clear cb hSw; go_simp; try with_reducible rfl) hHeld ?_
  refine nx ?_
  refine wpAnyH_ready (rs := [5, 8]) (by kernel_rfl) (by simp) ?_
  refine AllReadyH.cons (i := 5) rfl (fun K hK => ?_) (AllReadyH.cons (i := 8) rfl (fun K hK => ?_) AllReadyH.nil)
  ·go_simp
   refine hK.out _ _ hCd (fun hHeld => ?_)
   clear hK K
   try refine nx ?_
   refine wpAnyH_ready (rs := [8]) (by kernel_rfl) (by simp) ?_
   refine AllReadyH.cons (i := 8) rfl (fun K hK => ?_) AllReadyH.nil
   go_simp
   rw [← HWE.out]
   refine hK.out _ _ hSE (fun hHeld => ?_)
   clear hK K
   try refine nx ?_
   refine wpAnyH_ready (rs := [9]) (by kernel_rfl) (by simp) ?_
   refine AllReadyH.cons (i := 9) rfl (fun K hK => ?_) AllReadyH.nil
   go_simp
   refine HIN.out.mono ?_
   rintro e w5 ⟨v', rfl, hown, hk, _⟩
   have hS5 : w5.heap[C]? = some (.cells #[.int .i64 xid, .int .i64 xparty, .int .i64 xside, .int .i64 xplace, .int .i64 xprice, .int .i64 xuntil_, .int .i64 1] 30 (0, 0)) := hk.blk hSE (by intro e; have h1 := (HXE.out.os.block e).1; have h2 := hClow; omega)
   have hX5 := hk.blk HXE.out.blk (own_far HXE.out.os HXE.out.blk (by decide))
   have d5 := blk_cell hX5 2
   have z5 := blk_frozen hX5 2
   have hl5 := blk_lt hX5
   simp only [lPa, lPb, lPc] at d5
   obtain ⟨s5, c5, hs5⟩ := hown.form
   generalize (insAt _ i _).length = n5 at hs5
   subst hs5
   have HFI := yy (XM.setOs HXE.out hown hk)
   clear hown hk hX5
   refine hK.out _ _ hS5 (fun hHeld => ?_)
   clear hK K
   try refine nx ?_
   refine tkH 10 rfl lfG91 hHeld ?_
   refine nx ?_
   refine tkH 11 rfl lfG91 hHeld ?_
   refine nx ?_
   refine tkH 12 rfl lfG91 hHeld ?_
   refine nx ?_
   refine wpAnyH_ready (rs := [13]) (by kernel_rfl) (by simp) ?_
   refine AllReadyH.cons (i := 13) rfl (fun K hK => ?_) AllReadyH.nil
   go_simp
   refine hK.out _ _ (blk_far hS5 (by intro e; have h2 := hClow; have h3 := HXE.out.lo; simp only at e; omega) _) (fun hHeld => ?_)
   clear hK K
   try refine nx ?_
   refine wpAnyH_done (by kernel_rfl) ?_ _
   clear HXE HIN HWE hS5 hSE hCd z5 d5 hl5
   go_wp2_with fail
   go_ret
   exact .inr ⟨_, _, _, _, HR.out, rfl, HFI.out⟩
  go_simp
  rw [← HWE.out]
  refine hK.out _ _ hSE (fun hHeld => ?_)
  clear hK K
  try refine nx ?_
  refine wpAnyH_ready (rs := [5]) (by kernel_rfl) (by simp) ?_
  refine AllReadyH.cons (i := 5) rfl (fun K hK => ?_) AllReadyH.nil
  go_simp
  refine hK.out _ _ hSE (fun hHeld => ?_)
  clear hK K
  try refine nx ?_
  refine wpAnyH_ready (rs := [9]) (by kernel_rfl) (by simp) ?_
  refine AllReadyH.cons (i := 9) rfl (fun K hK => ?_) AllReadyH.nil
  go_simp
  refine HIN.out.mono ?_
  rintro e w5 ⟨v', rfl, hown, hk, _⟩
  have hS5 : w5.heap[C]? = some (.cells #[.int .i64 xid, .int .i64 xparty, .int .i64 xside, .int .i64 xplace, .int .i64 xprice, .int .i64 xuntil_, .int .i64 1] 30 (0, 0)) := hk.blk hSE (by intro e; have h1 := (HXE.out.os.block e).1; have h2 := hClow; omega)
  have hX5 := hk.blk HXE.out.blk (own_far HXE.out.os HXE.out.blk (by decide))
  have d5 := blk_cell hX5 2
  have z5 := blk_frozen hX5 2
  have hl5 := blk_lt hX5
  simp only [lPa, lPb, lPc] at d5
  obtain ⟨s5, c5, hs5⟩ := hown.form
  generalize (insAt _ i _).length = n5 at hs5
  subst hs5
  have HFI := yy (XM.setOs HXE.out hown hk)
  clear hown hk hX5
  refine hK.out _ _ hS5 (fun hHeld => ?_)
  clear hK K
  try refine nx ?_
  refine tkH 10 rfl lfG91 hHeld ?_
  refine nx ?_
  refine tkH 11 rfl lfG91 hHeld ?_
  refine nx ?_
  refine tkH 12 rfl lfG91 hHeld ?_
  refine nx ?_
  refine wpAnyH_ready (rs := [13]) (by kernel_rfl) (by simp) ?_
  refine AllReadyH.cons (i := 13) rfl (fun K hK => ?_) AllReadyH.nil
  go_simp
  refine hK.out _ _ (blk_far hS5 (by intro e; have h2 := hClow; have h3 := HXE.out.lo; simp only at e; omega) _) (fun hHeld => ?_)
  clear hK K
  try refine nx ?_
  refine wpAnyH_done (by kernel_rfl) ?_ _
  clear HXE HIN HWE hS5 hSE hCd z5 d5 hl5
  go_wp2_with fail
  go_ret
  exact .inr ⟨_, _, _, _, HR.out, rfl, HFI.out⟩
 have hr : doAdd b ⟨xid, xparty, xside, xplace, xprice, xuntil_, xstate⟩ = none := by
  unfold doAdd
  rw [if_pos (.inl hs)]
 have HR := yy hr
 clear hr
 have hs' : (xstate != 1) = true := by simpa using hs
 go_wp2_with fail
 go_ret
 exact .inl ⟨HR.out, rfl, HX3.out.kept⟩
end Go.Proofs.YthfagcdjbmhhcaaGreat
namespace Go.Proofs.YthfagcdjbmhhcaaGreat
theorem asc_len : ∀ (l : List Int) (lo hi : Int), lo ≤ hi + 1 → l.Pairwise (· < ·) → (∀ x ∈ l, lo ≤ x ∧ x ≤ hi) → (l.length : Int) ≤ hi + 1 - lo
 | [], lo, hi, h, _, _ => by simp; omega
 | y :: l, lo, hi, h, hp, hx => by
  rw [List.pairwise_cons] at hp
  have hy := hx y (by simp)
  have := asc_len l (y + 1) hi (by omega) hp.2 (fun x hm => ⟨by have := hp.1 x hm; omega, (hx x (by simp [hm])).2⟩)
  simp only [List.length_cons]; omega
theorem VG.lens {g : Gr} (h : VG g) : g.vs.length ≤ 24 ∧ g.es.length ≤ 40 ∧ g.ds.length ≤ 3 := by
 refine ⟨?_, ?_, h.dl⟩
 ·have := asc_len (g.vs.map Vtx.id) 0 23 (by omega) h.av (fun x hx => by
   obtain ⟨v, hv, rfl⟩ := List.mem_map.1 hx
   have := h.okv v hv
   simp [okV, inB_iff] at this
   omega)
  simp at this; omega
 have := asc_len (g.es.map Edg.id) 0 39 (by omega) h.ae (fun x hx => by
  obtain ⟨v, hv, rfl⟩ := List.mem_map.1 hx
  have := (h.oke v hv).1
  simp [okE, inB_iff] at this
  omega)
 simp at this; omega
theorem VB.lens {g : Gr} {b : Bk} (h : VB g b) : b.ps.length ≤ 10 ∧ b.os.length ≤ 24 ∧ b.ws.length ≤ 40 := by
 refine ⟨?_, ?_, ?_⟩
 ·have := asc_len (b.ps.map Pty.id) 0 9 (by omega) h.ap (fun x hx => by
   obtain ⟨v, hv, rfl⟩ := List.mem_map.1 hx
   have := h.okp v hv
   simp [okP, inB_iff] at this
   omega)
  simp at this; omega
 ·have := asc_len (b.os.map Ofr.id) 0 23 (by omega) h.ao (fun x hx => by
   obtain ⟨v, hv, rfl⟩ := List.mem_map.1 hx
   have := (okO_inv (h.oko v hv)).2.1
   omega)
  simp at this; omega
 have := asc_len (b.ws.map Wsh.edge) 0 39 (by omega) h.aw (fun x hx => by
  obtain ⟨v, hv, rfl⟩ := List.mem_map.1 hx
  have := h.new v hv
  simp [newE, inB_iff] at this
  omega)
 simp at this; omega
theorem VB.fits {g : Gr} {b : Bk} (h : VB g b) : Fits g b := by
 have h1 := h.vg.lens
 have h2 := h.lens
 exact ⟨⟨by omega, by omega, by omega⟩, ⟨by omega, by omega, by omega⟩, by omega, by omega⟩
/-- the offers that P names are closed -/
def shutP (P : Ofr → Bool) (st : Int) (o : Ofr) : Ofr := if P o = true then { o with state := st } else o
theorem shutP_id (P : Ofr → Bool) (st : Int) (o : Ofr) : (shutP P st o).id = o.id := by unfold shutP; split <;> rfl
theorem fnd_map {b : Bk} {f : Ofr → Ofr} (hf : ∀ o, (f o).id = o.id) (r : Int) (ws : List Wsh) (id : Int) : fnd ⟨r, b.ps, b.os.map f, ws⟩ id = (fnd b id).map f := by
 unfold fnd
 simp only
 rw [List.find?_map]
 congr 2
 funext o
 simp [hf]
theorem load_le {f : Ofr → Ofr} (p : Int) : ∀ (os : List Ofr), (∀ o ∈ os, 0 ≤ o.price ∧ (isLoad p (f o) = true → isLoad p o = true ∧ (f o).price = o.price)) →
  (((os.map f).filter (isLoad p)).map Ofr.price).sum ≤ ((os.filter (isLoad p)).map Ofr.price).sum ∧ 0 ≤ ((os.filter (isLoad p)).map Ofr.price).sum
 | [], _ => by simp
 | o :: os, h => by
  have ih := load_le p os (fun o ho => h o (by simp [ho]))
  have h0 := h o (by simp)
  simp only [List.map_cons, List.filter_cons]
  by_cases h1 : isLoad p (f o) = true
  ·have h2 := h0.2 h1
   rw [if_pos h1, if_pos h2.1]
   simp only [List.map_cons, List.sum_cons, h2.2]
   omega
  ·rw [if_neg h1]
   by_cases h3 : isLoad p o = true
   ·rw [if_pos h3]; simp only [List.map_cons, List.sum_cons]; omega
   ·rw [if_neg h3]; exact ih
theorem VB.shutP {g : Gr} {b : Bk} (h : VB g b) (P : Ofr → Bool) (st r : Int) (hst : 2 ≤ st ∧ st ≤ 4) (hr : 0 ≤ r ∧ r ≤ 30) (hl : ∀ o ∈ b.os, P o = false → o.state = 1 → r ≤ o.until_) :
  VB g ⟨r, b.ps, b.os.map (shutP P st), b.ws.filter fun w => b.os.all fun o => !P o || offW o.id w⟩ := by
 refine ⟨h.vg, h.none_, inB_iff.2 hr, h.okp, h.ap, ?_, ?_, ?_, ?_, ?_, ?_⟩
 ·have : (b.os.map (Go.Proofs.YthfagcdjbmhhcaaGreat.shutP P st)).map Ofr.id = b.os.map Ofr.id := by
   rw [List.map_map]
   exact List.map_congr_left fun o _ => shutP_id P st o
  simp only [this]
  exact h.ao
 ·intro o' ho'
  obtain ⟨o, ho, rfl⟩ := List.mem_map.1 ho'
  have hok := h.oko o ho
  have hinv := okO_inv hok
  have hl' := hl o ho
  unfold Go.Proofs.YthfagcdjbmhhcaaGreat.shutP
  split
  ·simp only [okO, hasP, Bool.and_eq_true, inB_iff, Bool.not_eq_true', Bool.or_eq_true, bne_iff_ne, decide_eq_true_eq]
   have h1 := hinv.1
   unfold hasP at h1
   refine ⟨⟨⟨⟨⟨⟨⟨⟨h1, hinv.2.1⟩, hinv.2.2.1⟩, hinv.2.2.2.1⟩, hinv.2.2.2.2.1⟩, hinv.2.2.2.2.2.1⟩, hinv.2.2.2.2.2.2.1⟩, by omega⟩, .inl (by omega)⟩
  rename_i hP
  simp only [okO, hasP, Bool.and_eq_true, inB_iff, Bool.not_eq_true', Bool.or_eq_true, bne_iff_ne, decide_eq_true_eq]
  have h1 := hinv.1
  unfold hasP at h1
  refine ⟨⟨⟨⟨⟨⟨⟨⟨h1, hinv.2.1⟩, hinv.2.2.1⟩, hinv.2.2.2.1⟩, hinv.2.2.2.2.1⟩, hinv.2.2.2.2.2.1⟩, hinv.2.2.2.2.2.2.1⟩, hinv.2.2.2.2.2.2.2.1⟩, ?_⟩
  by_cases hs : o.state = 1
  ·exact .inr (hl' (by simpa using hP) hs)
  exact .inl hs
 ·intro p hp
  refine Int.le_trans ?_ (h.bud p hp)
  refine (load_le p.id b.os (fun o ho => ?_)).1
  refine ⟨(okO_inv (h.oko o ho)).2.2.2.2.2.1.1, ?_⟩
  unfold Go.Proofs.YthfagcdjbmhhcaaGreat.shutP
  split
  ·simp only [isLoad, Bool.and_eq_true, beq_iff_eq]; omega
  exact fun h => ⟨h, rfl⟩
 ·exact List.Pairwise.sublist (List.Sublist.map _ List.filter_sublist) h.aw
 ·exact fun w hw => h.new w (List.mem_filter.1 hw).1
 intro w hw
 obtain ⟨hw, hof⟩ := List.mem_filter.1 hw
 obtain ⟨x, y, hx, hy, sx, sy, hne, hj⟩ := okW_inv (h.okw w hw)
 rw [List.all_eq_true] at hof
 have kx : Go.Proofs.YthfagcdjbmhhcaaGreat.shutP P st x = x := by
  have h1 := hof x (fnd_some hx).1
  unfold Go.Proofs.YthfagcdjbmhhcaaGreat.shutP
  split
  ·rename_i hP
   simp [hP, offW, (fnd_some hx).2] at h1
  rfl
 have ky : Go.Proofs.YthfagcdjbmhhcaaGreat.shutP P st y = y := by
  have h1 := hof y (fnd_some hy).1
  unfold Go.Proofs.YthfagcdjbmhhcaaGreat.shutP
  split
  ·rename_i hP
   simp [hP, offW, (fnd_some hy).2] at h1
  rfl
 unfold okW
 rw [fnd_map (shutP_id P st), fnd_map (shutP_id P st), hx, hy]
 simp [kx, ky, sx, sy, hne, hj]
theorem VB.closeId {g : Gr} {b : Bk} (h : VB g b) (id st : Int) (hst : 2 ≤ st ∧ st ≤ 4) : VB g (closeId b id st) := by
 have h1 := h.shutP (fun o => o.id == id) st b.round hst (inB_iff.1 h.rd) (fun o ho _ hs => (okO_inv (h.oko o ho)).2.2.2.2.2.2.2.2 hs)
 have e : Go.Proofs.YthfagcdjbmhhcaaGreat.closeId b id st = ⟨b.round, b.ps, b.os.map (Go.Proofs.YthfagcdjbmhhcaaGreat.shutP (fun o => o.id == id) st), b.ws.filter fun w => b.os.all fun o => !(o.id == id) || offW o.id w⟩ := by
  unfold Go.Proofs.YthfagcdjbmhhcaaGreat.closeId
  congr 1
  ·refine List.map_congr_left fun o _ => ?_
   unfold shut Go.Proofs.YthfagcdjbmhhcaaGreat.shutP
   by_cases e : o.id = id <;> simp [e]
  refine List.filter_congr fun w hw => ?_
  rw [Bool.eq_iff_iff, List.all_eq_true]
  constructor
  ·intro h2 o ho
   by_cases e : o.id = id
   ·simp [e, h2]
   simp [e]
  intro h2
  obtain ⟨x, y, hx, hy, sx, sy, hne, hj⟩ := okW_inv (h.okw w hw)
  have g1 := h2 x (fnd_some hx).1
  have g2 := h2 y (fnd_some hy).1
  rw [(fnd_some hx).2] at g1
  rw [(fnd_some hy).2] at g2
  simp [offW] at g1 g2 ⊢
  constructor
  ·intro e; simp [e] at g1
  intro e; simp [e] at g2
 rw [e]; exact h1
theorem VB.doW {g : Gr} {b b' : Bk} (h : VB g b) {party id : Int} (e : doW b party id = some b') : VB g b' := by
 unfold Go.Proofs.YthfagcdjbmhhcaaGreat.doW at e
 split at e
 ·injection e with e; rw [← e]; exact h.closeId id 2 (by omega)
 cases e
theorem VB.takeAll {g : Gr} : ∀ (ids : List Int) {b b' : Bk}, VB g b → takeAll b ids = some b' → VB g b'
 | [], b, b', h, e => by injection e with e; rw [← e]; exact h
 | id :: ids, b, b', h, e => by
  unfold Go.Proofs.YthfagcdjbmhhcaaGreat.takeAll at e
  split at e
  ·exact VB.takeAll ids (h.closeId id 3 (by omega)) e
  ·cases e
theorem VB.doTake {g : Gr} {b b' : Bk} (h : VB g b) {ids : List Int} (e : doTake b ids = some b') : VB g b' := by
 unfold Go.Proofs.YthfagcdjbmhhcaaGreat.doTake at e
 rcases ht : Go.Proofs.YthfagcdjbmhhcaaGreat.takeAll b ids with _ | c
 ·simp [ht] at e
 simp [ht] at e
 rw [← e.2]; exact VB.takeAll ids h ht
theorem VB.doDrop {g : Gr} {b b' : Bk} (h : VB g b) {id : Int} (e : doDrop b id = some b') : VB g b' := by
 unfold Go.Proofs.YthfagcdjbmhhcaaGreat.doDrop at e
 split at e
 ·injection e with e; rw [← e]
  exact ⟨h.vg, h.none_, h.rd, h.okp, h.ap, h.ao, h.oko, h.bud, List.Pairwise.sublist (List.Sublist.map _ List.filter_sublist) h.aw, fun w hw => h.new w (List.mem_filter.1 hw).1, fun w hw => h.okw w (List.mem_filter.1 hw).1⟩
 cases e
theorem VB.nextB {g : Gr} {b : Bk} (h : VB g b) (hr : b.round + 1 ≤ 30) : VB g (nextB b b.os.length) := by
 have h1 := h.shutP (old (b.round + 1)) 4 (b.round + 1) (by omega) (by have := inB_iff.1 h.rd; omega) (fun o ho hP hs => by
  simp [old, hs] at hP; omega)
 have e : Go.Proofs.YthfagcdjbmhhcaaGreat.nextB b b.os.length = ⟨b.round + 1, b.ps, b.os.map (Go.Proofs.YthfagcdjbmhhcaaGreat.shutP (old (b.round + 1)) 4), b.ws.filter fun w => b.os.all fun o => !old (b.round + 1) o || offW o.id w⟩ := by
  unfold Go.Proofs.YthfagcdjbmhhcaaGreat.nextB
  simp only [List.take_length, List.drop_length, List.append_nil]
  rfl
 rw [e]; exact h1
theorem VB.doNext {g : Gr} {b b' : Bk} (h : VB g b) (e : doNext b = some b') : VB g b' := by
 unfold Go.Proofs.YthfagcdjbmhhcaaGreat.doNext at e
 split at e
 ·injection e with e; rw [← e]; exact h.nextB (by assumption)
 cases e
theorem chk_keep {g : Gr} {b : Bk} {r : Option Bk} (h : VB g b → ∀ b', r = some b' → VB g b') : chk g b r = if validB g b = true then r else none := by
 unfold chk
 split
 ·rename_i hv
  rcases r with _ | b'
  ·rfl
  have := (h (validB_iff.1 hv) b' rfl).true
  simp [this]
 rfl
end Go.Proofs.YthfagcdjbmhhcaaGreat
namespace Go.Proofs.YthfagcdjbmhhcaaGreat
open Go.RowKit
attribute [local irreducible] wpQuiet
theorem XM.setRound {w0 w : World} {X : Nat} {p o q v1 v2 v3 : Value} {g : Gr} {b : Bk} (h : XM w0 w X p o q v1 v2 v3 g b) (r : Int) :
  XM w0 (w.setCell ⟨X, 0, none⟩ (.int .i64 r)) X p o q v1 v2 v3 g { b with round := r } := by
 have hX := h.blk
 have kk : Kept (· = X) w (w.setCell ⟨X, 0, none⟩ (.int .i64 r)) := (Kept.refl (· = X) w).setCell (p := ⟨X, 0, none⟩) (.inl rfl) _
 have far : ∀ {β : Type} [Rec β] {v : Value} {l : List β}, OwnL w w0.heap.size v l → 103 ≠ Rec.ty β → ∀ j, v.ownBlock = some j → ¬ (j = X) := by
  intro β _ v l hh hn j hj e
  subst e
  obtain ⟨_, _, cur, hc⟩ := hh.block hj
  exact blk_ne hX hc hn rfl
 refine ⟨?_, h.ps.kept kk (far h.ps (by decide)), h.os.kept kk (far h.os (by decide)), h.ws.kept kk (far h.ws (by decide)), h.lo, ?_, h.gr⟩
 ·have := blk_set hX 0 (.int .i64 r)
  simpa using this
 exact h.kept.trans' kk (fun i hi => .inl (by subst hi; exact h.lo))
theorem nextB_len (b : Bk) (k : Nat) : (nextB b k).os.length = b.os.length := by simp [nextB]; omega
theorem nextB_get (b : Bk) (k : Nat) (hk : k < b.os.length) : (nextB b k).os[k]'(by rw [nextB_len]; exact hk) = b.os[k] := by
 have e : ((b.os.take k).map (expire (b.round + 1))).length = k := by simp; omega
 simp only [nextB]
 rw [List.getElem_append_right (by omega)]
 simp only [e, List.getElem_drop]
 congr 1; omega
theorem nextB_few {b : Bk} (h : b.few) (k : Nat) : (nextB b k).few :=
 ⟨h.ps, by rw [nextB_len]; exact h.os, Nat.le_trans (List.length_filter_le _ _) h.ws⟩
theorem nextB_zero (b : Bk) : nextB b 0 = { b with round := b.round + 1 } := by
 simp [nextB]
theorem nextB_skip {b : Bk} {k : Nat} (hk : k < b.os.length) (h : old (b.round + 1) b.os[k] = false) : nextB b (k + 1) = nextB b k := by
 have e : b.os.take (k + 1) = b.os.take k ++ [b.os[k]] := List.take_succ_eq_append_getElem hk
 unfold nextB
 congr 1
 ·rw [e, List.map_append, List.append_assoc]
  congr 1
  rw [List.drop_eq_getElem_cons hk]
  simp [expire, h]
 refine List.filter_congr fun w _ => ?_
 rw [e, List.all_append]
 simp [h]
theorem nextB_close {b : Bk} {k : Nat} (hk : k < b.os.length) (h : old (b.round + 1) b.os[k] = true) : nextB b (k + 1) = closeAt (nextB b k) k (by rw [nextB_len]; exact hk) 4 := by
 have e : b.os.take (k + 1) = b.os.take k ++ [b.os[k]] := List.take_succ_eq_append_getElem hk
 have hg := nextB_get b k hk
 have e1 : ((b.os.take k).map (expire (b.round + 1))).length = k := by simp; omega
 unfold closeAt
 rw [hg]
 show _ = Bk.mk (b.round + 1) b.ps _ _
 unfold nextB
 congr 1
 ·simp only
  rw [List.set_append_right _ _ (by omega), e1, Nat.sub_self, e, List.map_append, List.append_assoc, List.drop_eq_getElem_cons hk]
  simp only [List.map_cons, List.map_nil, List.singleton_append, List.set_cons_zero, expire, h, if_true]
 simp only
 rw [List.filter_filter, e]
 refine List.filter_congr fun w _ => ?_
 rw [List.all_append]
 simp [h, offW, Bool.and_comm]
set_option maxHeartbeats 4000000 in
set_option maxRecDepth 100000 in
theorem do79 {w : World} {v1 v2 v3 : Value} {g : Gr} {b : Bk} (hf : Fits g b) (hv : VB g b) :
  Does w 79 #[] v1 v2 v3 g b (doNext b) := by
 intro w0 w1 X p o q k0 hx
 have hmix := mixed
 have hfo := hf.bfew.os
 have hrd := inB_iff.1 hv.rd
 obtain ⟨ao, co, hlv⟩ := hx.os.form
 subst hlv
 have hxr := hx.setRound (b.round + 1)
 rw [← nextB_zero] at hxr
 obtain ⟨x0, _, x2, _, _, _, _⟩ := (hx.at_ hf.bfew).cells
 have hfz := blk_frozen hx.blk 0
 have hlX := blk_lt hx.blk
 have HX := yy hxr
 have HF := yy hf
 have HN : Hid (∀ b2, doNext b = some b2 → b.round + 1 ≤ 30 → b2 = nextB b b.os.length) := yy fun b2 h hr => by
  unfold doNext at h; rw [if_pos hr] at h; injection h with h; exact h.symm
 have hr1 : doNext b = if b.round + 1 ≤ 30 then some (nextB b b.os.length) else none := rfl
 have HR := yy hr1
 have hwr : IntKind.i64.wrap (b.round + 1) = b.round + 1 := by rw [IntKind.wrap_i64]; omega
 clear hx hxr hf hv hr1 HN k0
 go_enter Tryz.func79, Tryz.ntmps79
 go_wp2_with fail
 go_loopw [20] (fun t wr => ∃ (k : Nat) (q' : Value), k ≤ b.os.length ∧ t = .int .i64 k ∧ XM w0 wr X p (.slice ao b.os.length co) q' v1 v2 v3 g (nextB b k)) (fun t _ => b.os.length - (intOf t).toNat)
 case atStart => exact ⟨0, q, Nat.zero_le _, by go_num, HX.out⟩
 case round =>
 obtain ⟨k, q', hk, rfl, hx⟩ := hrel
 have HXr := yy hx
 clear x0 x2 hfz hlX HX
 by_cases hlt : k < b.os.length
 ·have hlt' : k < (nextB b k).os.length := by rw [nextB_len]; exact hlt
  have hsl := hx.os.formI hlt'
  rw [nextB_len] at hsl
  obtain ⟨go, co', e1, hgo, _⟩ := hsl
  injection e1 with e1 _ e2
  subst e1 e2
  have hg := nextB_get b k hlt
  have hfw := nextB_few HF.out.bfew k
  have sk := nextB_skip hlt
  have cl := nextB_close hlt
  have cc : ∀ j, j < 7 → ∀ v, (Rec.cs b.os[k])[j]? = some v → wr.cell? ⟨go, k * 7 + j, none⟩ = some v := by
   intro j hj v hv
   refine hx.os.cells ?_
   have := flat_get (nextB b k).os k hlt' j hj
   rw [hg] at this
   rw [← hv]; exact this
  generalize b.os[k] = x at cc sk cl
  obtain ⟨xid, xparty, xside, xplace, xprice, xuntil, xstate⟩ := x
  have s0 := cc 0 (by decide) _ rfl
  have s1 := cc 1 (by decide) _ rfl
  have s2 := cc 2 (by decide) _ rfl
  have s3 := cc 3 (by decide) _ rfl
  have s4 := cc 4 (by decide) _ rfl
  have s5 := cc 5 (by decide) _ rfl
  have s6 := cc 6 (by decide) _ rfl
  simp only [Nat.add_zero] at s0
  have SK := yy sk
  have CL := yy cl
  clear cc sk cl hg
  obtain ⟨WA, hWA⟩ : ∃ WA, WA = wr.alloc (.cells #[.int .i64 xid, .int .i64 xparty, .int .i64 xside, .int .i64 xplace, .int .i64 xprice, .int .i64 xuntil, .int .i64 xstate] 30) := ⟨_, rfl⟩
  have kA : Gro wr WA := by rw [hWA]; exact (Gro.refl _).alloc _
  have bA : WA.heap[wr.heap.size]? = some (.cells #[.int .i64 xid, .int .i64 xparty, .int .i64 xside, .int .i64 xplace, .int .i64 xprice, .int .i64 xuntil, .int .i64 xstate] 30 (0, 0)) := by rw [hWA]; exact blk_new _ _
  have hxA := hx.gro kA
  have HWA := yy hWA
  have HXA := yy hxA
  have cA := blk_cell bA
  have a5 := cA 5
  have a6 := cA 6
  simp only [lPa, lPb, lPc] at a5 a6
  have a5 := gcell a5
  have a6 := gcell a6
  have ax : WA.cell? ⟨X, 0, none⟩ = some (.int .i64 (b.round + 1)) := by rw [blk_cell hxA.blk]; rfl
  have ax := gcell ax
  have hlA := blk_lt bA
  have hlXA := blk_lt hxA.blk
  have hlo := World.block_lt_of_cell? wr _ s6
  clear hWA kA bA hxA cA hx HXr
  go_wp2_with fail
  rw [← HWA.out]
  by_cases hs : xstate = 1
  ·subst hs
   clear s0 s1 s2 s3 s4 s5 s6 hlo HWA
   by_cases hu : xuntil < b.round + 1
   ·go_quiet_grown (fail)
    have hx3 := HXA.out.gro (gro_of_grow WA nq osq)
    dsimp only at hx3 ⊢
    clear HXA a5 a6 ax hlA hlXA
    generalize Go.Sort.grow (WA.drewN nq) osq = w3 at hx3 ⊢
    have HC := yy (close71 hx3 hfw k hlt' 4)
    clear hx3
    go_wp2_with fail
    refine HC.out.mono ?_
    rintro e w4 ⟨rfl, q2, hx4⟩
    rw [← CL.out (by simp [old, hu])] at hx4
    have HX4 := yy hx4
    clear hx4 HC
    go_wp2_with fail
    go_roundw
    case rel => exact ⟨k + 1, q2, by omega, by go_num, HX4.out⟩
    case measure => simp [intOf]; omega
   go_quiet_grown (fail)
   have hx3 := HXA.out.gro (gro_of_grow WA nq osq)
   dsimp only at hx3 ⊢
   clear HXA a5 a6 ax hlA hlXA
   generalize Go.Sort.grow (WA.drewN nq) osq = w3 at hx3 ⊢
   rw [← SK.out (by simp [old, hu])] at hx3
   have HX4 := yy hx3
   clear hx3
   go_wp2_with fail
   go_roundw
   case rel => exact ⟨k + 1, q', by omega, by go_num, HX4.out⟩
   case measure => simp [intOf]; omega
  have hs' : (xstate == 1) = false := by simpa using hs
  clear s0 s1 s2 s3 s4 s5 s6 hlo HWA
  go_quiet_grown (fail)
  have hx3 := HXA.out.gro (gro_of_grow WA nq osq)
  dsimp only at hx3 ⊢
  clear HXA a5 a6 ax hlA hlXA
  generalize Go.Sort.grow (WA.drewN nq) osq = w3 at hx3 ⊢
  rw [← SK.out (by simp [old, hs])] at hx3
  have HX4 := yy hx3
  clear hx3
  go_wp2_with fail
  go_roundw
  case rel => exact ⟨k + 1, q', by omega, by go_num, HX4.out⟩
  case measure => simp [intOf]; omega
 obtain rfl : k = b.os.length := by omega
 have c0 : wr.cell? ⟨X, 0, none⟩ = some (.int .i64 (b.round + 1)) := by rw [blk_cell hx.blk]; rfl
 have hlX := blk_lt hx.blk
 clear hx
 by_cases h30 : b.round + 1 ≤ 30
 ·have hr := HR.out
  rw [if_pos h30] at hr
  have HR2 := yy hr
  clear hr HR
  go_wp2_with fail
  go_ret
  exact .inr ⟨_, _, _, _, HR2.out, by simp [h30], HXr.out⟩
 have hr := HR.out
 rw [if_neg h30] at hr
 have HR2 := yy hr
 clear hr HR
 go_wp2_with fail
 go_ret
 exact .inl ⟨HR2.out, by simp [h30], HXr.out.kept⟩
end Go.Proofs.YthfagcdjbmhhcaaGreat
namespace Go.Proofs.YthfagcdjbmhhcaaGreat
open Go.RowKit
attribute [local irreducible] wpQuiet
set_option maxHeartbeats 4000000 in
set_option maxRecDepth 100000 in
theorem do80 {w : World} {C : Nat} {ids : List Int} {iv : Value} {v1 v2 v3 : Value} {g : Gr} {b : Bk} (hC : w.heap[C]? = some (.cells #[iv] 33 (0, 0))) (hi : LV w iv ids) (hfi : ids.length ≤ 1000000) (hv : VB g b) :
  Does w 80 #[.pointer (some ⟨C, 0, none⟩)] v1 v2 v3 g b (doTake b ids) := by
 intro w0 w1 X p o q k0 hx
 have hmix := mixed
 obtain ⟨ai, ci, rfl, hli⟩ := hi
 have hC0 := k0.blk hC
 have hli0 : LV w0 (.slice ai ids.length ci) ids := ⟨_, _, rfl, hli.gro k0⟩
 have hcc := box_cell (hx.blkw k0 hC)
 have hClow : C < w0.heap.size := blk_lt hC0
 have hl1 := World.block_lt_of_cell? w1 _ hcc
 have HX := yy hx
 have HC0 := yy hC0
 have HL0 := yy hli0
 have HV := yy hv
 clear hx hC hli hC0 hli0 hv k0
 go_enter Tryz.func80, Tryz.ntmps80
 go_wp2_with fail
 go_loopw [10] (fun t wr => ∃ (k : Nat) (c : Bk) (q' : Value), k ≤ ids.length ∧ t = .int .i64 k ∧ XM w0 wr X p o q' v1 v2 v3 g c ∧ VB g c ∧ takeAll b ids = takeAll c (ids.drop k)) (fun t _ => ids.length - (intOf t).toNat)
 case atStart => exact ⟨0, b, q, Nat.zero_le _, by go_num, HX.out, HV.out, rfl⟩
 case round =>
 obtain ⟨k, c, q', hk, rfl, hx, hvc, hta⟩ := hrel
 have HXr := yy hx
 have HVC := yy hvc
 have HTA := yy hta
 have hfc := hvc.fits.bfew
 have hCr : wr.heap[C]? = some (.cells #[.slice ai ids.length ci] 33 (0, 0)) := hx.kept.blk HC0.out (by show ¬ (w0.heap.size ≤ C); omega)
 have hlir := HL0.out.old hx.kept
 clear hcc hl1 HX
 by_cases hlt : k < ids.length
 ·obtain ⟨a2, c2, e0, hl2⟩ := hlir
  injection e0 with e1 _ e2
  subst e1 e2
  obtain ⟨B, off, rfl, hb, hc⟩ := hl2.base hlt
  have i0 := icells hc hlt
  have hdr : ids.drop k = ids[k] :: ids.drop (k + 1) := List.drop_eq_getElem_cons hlt
  generalize ids[k] = id at i0 hdr
  have ho := openF70 (hx.at_ hfc) hfc hvc.ao id
  have hp := posI_is hvc.ao id
  generalize posI (c.os.map Ofr.id) id = i at ho hp
  have HO := yy ho
  have HP := yy hp
  have HD := yy hdr
  have hlB := World.block_lt_of_cell? wr _ i0
  clear ho hp hx hvc hta hCr hl2 hc hdr
  obtain ⟨ob, hob⟩ : ∃ ob, ob = opn c id := ⟨_, rfl⟩
  rw [← hob] at HO
  have HOB := yy hob
  clear hob
  cases ob with
  | true =>
   go_wp2_with fail
   refine HO.out.mono ?_
   rintro e w2 ⟨rfl, k2⟩
   have hm : id ∈ c.os.map Ofr.id := by
    by_cases hm : id ∈ c.os.map Ofr.id
    ·exact hm
    have h1 := (not_found hm).1
    rw [← HOB.out] at h1
    cases h1
   obtain ⟨hi, he, _, _⟩ := found_at HVC.out.ao HP.out hm
   have hcl := closeAt_eq HVC.out.ao i hi 3
   rw [he] at hcl
   have hx2 := HXr.out.gro k2
   have HCL := yy (close71 hx2 hfc i hi 3)
   rw [hcl] at HCL
   have hta2 : takeAll b ids = takeAll (closeId c id 3) (ids.drop (k + 1)) := by
    rw [HTA.out, HD.out, takeAll, if_pos HOB.out.symm]
   have HT2 := yy hta2
   clear hta2 hcl he hm hx2 HO i0 hlB k2
   go_wp2_with fail
   refine HCL.out.mono ?_
   rintro e w4 ⟨rfl, q2, hx4⟩
   have HX4 := yy hx4
   clear hx4 HCL
   go_wp2_with fail
   go_roundw
   case rel => exact ⟨k + 1, _, q2, by omega, by go_num, HX4.out, HVC.out.closeId id 3 (by omega), HT2.out⟩
   case measure => simp [intOf]; omega
  | false =>
  go_wp2_with fail
  refine HO.out.mono ?_
  rintro e w2 ⟨rfl, k2⟩
  have hx2 := HXr.out.gro k2
  have hr : doTake b ids = none := by
   unfold doTake
   rw [HTA.out, HD.out, takeAll, if_neg (by rw [← HOB.out]; decide)]
   rfl
  have HR := yy hr
  have HX2 := yy hx2
  clear hr hx2 k2 HO i0 hlB
  go_wp2_with fail
  go_ret
  exact .inl ⟨HR.out, rfl, HX2.out.kept⟩
 obtain rfl : k = ids.length := by omega
 obtain ⟨a2, c2, e0, hl2⟩ := hlir
 injection e0 with e1 _ e2
 subst e1 e2
 have hA := yy (asc81 hl2 (by omega))
 have hcc := box_cell hCr
 have hl1 := World.block_lt_of_cell? wr _ hcc
 have hr : doTake b ids = if asc ids = true then some c else none := by
  unfold doTake
  rw [HTA.out, List.drop_length, takeAll]
  rfl
 have HR := yy hr
 clear hx hvc hta hCr hl2 hr
 go_wp2_with fail
 refine hA.out.mono ?_
 rintro e w2 ⟨rfl, k2⟩
 have hx2 := HXr.out.gro k2
 have HX2 := yy hx2
 clear hx2 k2 hA
 by_cases ha : asc ids = true
 ·have hr := HR.out
  rw [if_pos ha] at hr
  have HR2 := yy hr
  clear hr HR
  go_wp2_with fail
  go_ret
  exact .inr ⟨_, _, _, _, HR2.out, rfl, HX2.out⟩
 have hr := HR.out
 rw [if_neg ha] at hr
 have HR2 := yy hr
 clear hr HR
 go_wp2_with fail
 go_ret
 exact .inl ⟨HR2.out, rfl, HX2.out.kept⟩
end Go.Proofs.YthfagcdjbmhhcaaGreat
