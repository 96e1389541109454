/- the reference: graph.Valid. the reference: roads, open. the reference: offer, joins, Spent. the reference: joins. plain: what Add comes to. -/
import Derived.Test.YthfagcdjbmhhcaaGreatK14
import Derived.Test.YthfagcdjbmhhcaaGreatK12
import Derived.Test.YthfagcdjbmhhcaaGreatK11
set_option linter.unusedVariables false
set_option linter.unusedSimpArgs false
namespace Go.Proofs.YthfagcdjbmhhcaaGreat
open Go.RowKit
attribute [local irreducible] wpQuiet
set_option maxHeartbeats 2000000 in
theorem okV111 (x : Vtx) (w : World) : Calls Tryz.prog 111 #[.agg #[.int .i64 x.id, .int .i64 x.side]] w fun e w' => e = .returned (.bool (okV x)) ∧ Gro w w' := by
 cases h0 : inB x.id 0 23 with
 | false =>
  have hr : okV x = false := by simp [okV, h0]
  have HR := yy hr
  clear hr
  go_enter Tryz.func111, Tryz.ntmps111
  go_wp2_with (go_at_call 167; refine (in167 _ _ _ _).mono ?_; rintro e w' ⟨rfl, rfl⟩)
  go_ret
  exact ⟨by rw [HR.out]; rfl, (Kept.refl _ _).alloc _⟩
 | true =>
 cases h1 : inB x.side 0 3 with
 | false =>
  have hr : okV x = false := by simp [okV, h0, h1]
  have HR := yy hr
  clear hr
  go_enter Tryz.func111, Tryz.ntmps111
  go_wp2_with (go_at_call 167; refine (in167 _ _ _ _).mono ?_; rintro e w' ⟨rfl, rfl⟩)
  go_ret
  exact ⟨by rw [HR.out]; rfl, (Kept.refl _ _).alloc _⟩
 | true =>
 have hr : okV x = true := by simp [okV, h0, h1]
 have HR := yy hr
 clear hr
 go_enter Tryz.func111, Tryz.ntmps111
 go_wp2_with (go_at_call 167; refine (in167 _ _ _ _).mono ?_; rintro e w' ⟨rfl, rfl⟩)
 go_ret
 exact ⟨by rw [HR.out]; rfl, (Kept.refl _ _).alloc _⟩
set_option maxHeartbeats 2000000 in
theorem okE112 (x : Edg) (w : World) : Calls Tryz.prog 112 #[.agg #[.int .i64 x.id, .int .i64 x.src, .int .i64 x.dst, .bool x.dir, .int .i64 x.weight, .int .i64 x.cap]] w fun e w' => e = .returned (.bool (okE x)) ∧ Gro w w' := by
 cases h0 : inB x.id 0 39 with
 | false =>
  have hr : okE x = false := by simp [okE, h0]
  have HR := yy hr
  clear hr
  go_enter Tryz.func112, Tryz.ntmps112
  go_wp2_with (go_at_call 167; refine (in167 _ _ _ _).mono ?_; rintro e w' ⟨rfl, rfl⟩)
  go_ret
  exact ⟨by rw [HR.out]; rfl, (Kept.refl _ _).alloc _⟩
 | true =>
 cases h1 : inB x.src 0 23 with
 | false =>
  have hr : okE x = false := by simp [okE, h0, h1]
  have HR := yy hr
  clear hr
  go_enter Tryz.func112, Tryz.ntmps112
  go_wp2_with (go_at_call 167; refine (in167 _ _ _ _).mono ?_; rintro e w' ⟨rfl, rfl⟩)
  go_ret
  exact ⟨by rw [HR.out]; rfl, (Kept.refl _ _).alloc _⟩
 | true =>
 cases h2 : inB x.dst 0 23 with
 | false =>
  have hr : okE x = false := by simp [okE, h0, h1, h2]
  have HR := yy hr
  clear hr
  go_enter Tryz.func112, Tryz.ntmps112
  go_wp2_with (go_at_call 167; refine (in167 _ _ _ _).mono ?_; rintro e w' ⟨rfl, rfl⟩)
  go_ret
  exact ⟨by rw [HR.out]; rfl, (Kept.refl _ _).alloc _⟩
 | true =>
 cases h3 : inB x.weight (-1000) 1000 with
 | false =>
  have hr : okE x = false := by simp [okE, h0, h1, h2, h3]
  have HR := yy hr
  clear hr
  go_enter Tryz.func112, Tryz.ntmps112
  go_wp2_with (go_at_call 167; refine (in167 _ _ _ _).mono ?_; rintro e w' ⟨rfl, rfl⟩)
  go_ret
  exact ⟨by rw [HR.out]; rfl, (Kept.refl _ _).alloc _⟩
 | true =>
 cases h4 : inB x.cap 0 1000 with
 | false =>
  have hr : okE x = false := by simp [okE, h0, h1, h2, h3, h4]
  have HR := yy hr
  clear hr
  go_enter Tryz.func112, Tryz.ntmps112
  go_wp2_with (go_at_call 167; refine (in167 _ _ _ _).mono ?_; rintro e w' ⟨rfl, rfl⟩)
  go_ret
  exact ⟨by rw [HR.out]; rfl, (Kept.refl _ _).alloc _⟩
 | true =>
 have hr : okE x = true := by simp [okE, h0, h1, h2, h3, h4]
 have HR := yy hr
 clear hr
 go_enter Tryz.func112, Tryz.ntmps112
 go_wp2_with (go_at_call 167; refine (in167 _ _ _ _).mono ?_; rintro e w' ⟨rfl, rfl⟩)
 go_ret
 exact ⟨by rw [HR.out]; rfl, (Kept.refl _ _).alloc _⟩
theorem has_fidx {g : Gr} {id : Int} : fidx (g.vs.map Vtx.id) id < 0 ↔ has g id = false := by
 rw [fidx_neg, ← mem_has]; simp
theorem asc_take_succ {ks : List Int} {j : Nat} (h : (ks.take (j + 1)).Pairwise (· < ·)) (hj : j + 1 < ks.length) (hlt : ks[j] < ks[j + 1]) : (ks.take (j + 2)).Pairwise (· < ·) := by
 rw [List.take_succ_eq_append_getElem hj, List.pairwise_append]
 refine ⟨h, List.pairwise_singleton _ _, fun x hx y hy => ?_⟩
 rw [List.mem_singleton] at hy
 subst hy
 obtain ⟨i, hi, rfl⟩ := List.getElem_of_mem hx
 rw [List.length_take] at hi
 rw [List.getElem_take]
 by_cases e : i = j
 ·subst e; exact hlt
 have hl : j < (ks.take (j + 1)).length := by rw [List.length_take]; omega
 have := lt_of_pair h (i := i) (j := j) (by rw [List.length_take]; omega) hl (by omega)
 rw [List.getElem_take, List.getElem_take] at this
 omega
theorem not_asc {ks : List Int} {j : Nat} (hj : j + 1 < ks.length) (hle : ks[j + 1] ≤ ks[j]) : ¬ ks.Pairwise (· < ·) := by
 intro h
 have := lt_of_pair h (i := j) (j := j + 1) (by omega) hj (by omega)
 omega
set_option maxHeartbeats 60000000 in
set_option maxRecDepth 100000 in
theorem valid56 {w : World} {vg : Value} {g : Gr} (hG : GrV w vg g) (hf : g.few) : Calls Tryz.prog 56 #[vg] w fun e w' => e = .returned (.bool (validG g)) ∧ Gro w w' := by
 have hmix := mixed
 obtain ⟨v1, v2, v3, rfl, hg⟩ := hG
 obtain ⟨a1, n1, rfl, l1⟩ := hg.vs
 obtain ⟨a2, n2, rfl, l2⟩ := hg.es
 obtain ⟨a3, n3, rfl, l3⟩ := hg.ds
 have fv := hf.vs
 have fe := hf.es
 have fd := hf.ds
 obtain ⟨wa, hwa⟩ : ∃ wa, wa = w.alloc (.cells #[Value.slice a1 g.vs.length n1, Value.slice a2 g.es.length n2, Value.slice a3 g.ds.length n3] 38) := ⟨_, rfl⟩
 have k0 : Gro w wa := by rw [hwa]; exact (Gro.refl _).alloc _
 have bA : wa.heap[w.heap.size]? = some (.cells #[Value.slice a1 g.vs.length n1, Value.slice a2 g.es.length n2, Value.slice a3 g.ds.length n3] 38 (0, 0)) := by rw [hwa]; exact blk_new _ _
 obtain ⟨ks, hks⟩ : ∃ ks, ks = g.vs.map Vtx.id := ⟨_, rfl⟩
 have CP : Hid (∀ W, Gro wa W → ∀ id, Calls Tryz.prog 39 #[.agg #[Value.slice a1 g.vs.length n1, Value.slice a2 g.es.length n2, Value.slice a3 g.ds.length n3], .int .i64 id] W fun e w' => e = .returned (.int .i64 (fidx ks id)) ∧ Gro W w') :=
  yy fun W hW id => by rw [hks]; exact place39 ⟨_, _, _, rfl, hg.gro (k0.trans hW)⟩ hf id
 have HFX : Hid (∀ id, fidx ks id < 0 ↔ has g id = false) := yy fun id => by rw [hks]; exact has_fidx
 have K0 := yy k0
 have BA := yy bA
 have HW := yy hwa
 have L1 := yy (l1.gro k0)
 have L2 := yy (l2.gro k0)
 have L3 := yy (l3.gro k0)
 have hr : validG g = (asc (g.vs.map Vtx.id) && asc (g.es.map Edg.id) && g.vs.all okV && g.es.all (fun e => okE e && has g e.src && has g e.dst) && decide (g.ds.length ≤ 3) && asc g.ds && g.ds.all (has g)) := rfl
 have HR := yy hr
 clear hg l1 l2 l3 k0 bA hwa hf hr hks
 go_enter Tryz.func56, Tryz.ntmps56
 go_wp2_with fail
 rw [← HW.out]
 clear HW
 go_loopw [3] (fun t wr => ∃ k : Nat, k ≤ g.vs.length ∧ t = .int .i64 k ∧ Hid (Gro wa wr) ∧ Hid ((∀ i (h : i < g.vs.length), i < k → okV g.vs[i] = true) ∧ ((g.vs.map Vtx.id).take k).Pairwise (· < ·))) (fun t _ => g.vs.length - (intOf t).toNat)
 case atStart => exact ⟨0, Nat.zero_le _, by go_num, yy (Gro.refl _), yy ⟨fun i h hi => by omega, by simp⟩⟩
 case round =>
 obtain ⟨k, hk, rfl, HG, HN⟩ := hrel
 have cq := blk_cell ((HG.out).blk BA.out)
 have q0 := cq 0
 simp only [lPa, lPb, lPc] at q0
 have hlA := blk_lt ((HG.out).blk BA.out)
 clear cq
 by_cases hlt : k < g.vs.length
 ·obtain ⟨B, off, rfl, hb, hc⟩ := (L1.out.gro HG.out).base hlt
  obtain ⟨d0, d1⟩ := vcells hc hlt
  have hlB := World.block_lt_of_cell? _ _ d0
  have HC := yy hc
  have q0 := gcell q0
  have d0 := gcell d0
  have d1 := gcell d1
  have CV := yy (okV111 g.vs[k])
  obtain ⟨ok, hok⟩ : ∃ ok, ok = okV g.vs[k] := ⟨_, rfl⟩
  rw [← hok] at CV
  have HOK := yy hok
  obtain ⟨x, hx⟩ : ∃ x, x = g.vs[k] := ⟨_, rfl⟩
  rw [← hx] at CV d0 d1
  have HX := yy hx
  clear hok hx hc
  cases ok with
  | false =>
   go_wp2_with fail
   go_quiet_grown ((go_at_call 111; exact Calls.quiet_gro (CV.out _)))
   have kq := gro_of_grow wr nq osq
   dsimp only at kq ⊢
   clear q0 d0 d1
   generalize Go.Sort.grow (wr.drewN nq) osq = w3 at kq ⊢
   have KQ := yy (K0.out.trans (HG.out.trans kq))
   clear kq
   have hr : validG g = false := by
    rw [← Bool.not_eq_true, validG_iff]
    intro hv
    have := hv.okv _ (List.getElem_mem hlt); rw [← HOK.out] at this; cases this
   have HF := yy hr
   clear hr
   go_wp2
   go_ret
   exact ⟨by rw [HF.out]; rfl, KQ.out⟩
  | true =>
  have hall : ∀ i (h : i < g.vs.length), i < k + 1 → okV g.vs[i] = true := by
   intro i h hi
   by_cases e : i = k
   ·subst e; exact HOK.out.symm
   exact HN.out.1 i h (by omega)
  have HALL := yy hall
  clear hall
  rcases k with _ | j
  ·simp only [Nat.zero_mul, Nat.add_zero] at d0 d1
   go_wp2_with fail
   go_quiet_grown ((go_at_call 111; exact Calls.quiet_gro (CV.out _)))
   have kq := gro_of_grow wr nq osq
   dsimp only at kq ⊢
   clear q0 d0 d1
   generalize Go.Sort.grow (wr.drewN nq) osq = w3 at kq ⊢
   have KQ := yy (HG.out.trans kq)
   clear kq
   have hp : ((g.vs.map Vtx.id).take 1).Pairwise (· < ·) := by
    rw [List.take_one]
    cases (g.vs.map Vtx.id).head? <;> simp
   have HP := yy hp
   clear hp
   go_wp2
   go_roundw
   case rel => exact ⟨1, by omega, by go_num, KQ, yy ⟨HALL.out, HP.out⟩⟩
   case measure => simp [intOf]; omega
  have hjl : j < g.vs.length := by omega
  obtain ⟨p0, p1⟩ := vcells HC.out hjl
  have p0 := gcell p0
  have hwj : IntKind.i64.wrap (j : Int) = j := by rw [IntKind.wrap_i64]; omega
  have hwj2 : ((j + 1 : Nat) : Int) - 1 = j := by omega
  have hj0 : (0 : Int) < (j : Int) + 1 := by omega
  have hj1 : (0 : Int) ≤ (j : Int) + 1 := by omega
  have hjI : (j : Int) + 1 < (g.vs.length : Int) := by omega
  obtain ⟨y, hy⟩ : ∃ y, y = g.vs[j].id := ⟨_, rfl⟩
  rw [← hy] at p0
  have HY := yy hy
  clear hy
  by_cases hle : x.id ≤ y
  ·go_wp2_with fail
   go_quiet_grown ((go_at_call 111; exact Calls.quiet_gro (CV.out _)))
   have kq := gro_of_grow wr nq osq
   dsimp only at kq ⊢
   clear q0 d0 d1 p0
   generalize Go.Sort.grow (wr.drewN nq) osq = w3 at kq ⊢
   have KQ := yy (K0.out.trans (HG.out.trans kq))
   clear kq
   have hr : validG g = false := by
    rw [← Bool.not_eq_true, validG_iff]
    intro hv
    exact not_asc (ks := g.vs.map Vtx.id) (j := j) (by simpa using hlt) (by simp only [List.getElem_map]; rw [← HY.out, ← HX.out]; exact hle) hv.av
   have HF := yy hr
   clear hr
   go_wp2
   go_ret
   exact ⟨by rw [HF.out]; rfl, KQ.out⟩
  have hp := asc_take_succ HN.out.2 (j := j) (by simpa using hlt) (by simp only [List.getElem_map]; rw [← HY.out, ← HX.out]; omega)
  have HP := yy hp
  clear hp
  go_wp2_with fail
  go_quiet_grown ((go_at_call 111; exact Calls.quiet_gro (CV.out _)))
  have kq := gro_of_grow wr nq osq
  dsimp only at kq ⊢
  clear q0 d0 d1 p0
  generalize Go.Sort.grow (wr.drewN nq) osq = w3 at kq ⊢
  have KQ := yy (HG.out.trans kq)
  clear kq
  go_wp2
  go_roundw
  case rel => exact ⟨j + 2, by omega, by go_num, KQ, yy ⟨HALL.out, HP.out⟩⟩
  case measure => simp [intOf]; omega
 obtain rfl : k = g.vs.length := by omega
 have hV : (g.vs.map Vtx.id).Pairwise (· < ·) ∧ g.vs.all okV = true := by
  refine ⟨by have := HN.out.2; rwa [List.take_of_length_le (by simp)] at this, ?_⟩
  rw [List.all_eq_true]
  intro v hv
  obtain ⟨i, hi, rfl⟩ := List.getElem_of_mem hv
  exact HN.out.1 i hi hi
 have HV := yy hV
 clear hV HN
 go_wp2_with fail
 clear q0 hlA
 go_loopw [4] (fun t wr => ∃ k : Nat, k ≤ g.es.length ∧ t = .int .i64 k ∧ Hid (Gro wa wr) ∧ Hid ((∀ i (h : i < g.es.length), i < k → (okE g.es[i] && has g g.es[i].src && has g g.es[i].dst) = true) ∧ ((g.es.map Edg.id).take k).Pairwise (· < ·))) (fun t _ => g.es.length - (intOf t).toNat)
 case atStart => exact ⟨0, Nat.zero_le _, by go_num, HG, yy ⟨fun i h hi => by omega, by simp⟩⟩
 case round =>
 clear HG
 obtain ⟨k, hk, rfl, HG, HN⟩ := hrel
 have cq := blk_cell ((HG.out).blk BA.out)
 have q0 := cq 0
 have q1 := cq 1
 have q2 := cq 2
 simp only [lPa, lPb, lPc] at q0 q1 q2
 have hlA := blk_lt ((HG.out).blk BA.out)
 clear cq
 by_cases hlt : k < g.es.length
 ·obtain ⟨B, off, rfl, hb, hc⟩ := (L2.out.gro HG.out).base hlt
  obtain ⟨d0, d1, d2, d3, d4, d5⟩ := ecells hc hlt
  have hlB := World.block_lt_of_cell? _ _ d0
  have HC := yy hc
  have CE := yy (okE112 g.es[k])
  obtain ⟨ok, hok⟩ : ∃ ok, ok = okE g.es[k] := ⟨_, rfl⟩
  rw [← hok] at CE
  have HOK := yy hok
  obtain ⟨x, hx⟩ : ∃ x, x = g.es[k] := ⟨_, rfl⟩
  rw [← hx] at CE d0 d1 d2 d3 d4 d5
  have HX := yy hx
  have HS := yy (HFX.out x.src)
  have HD := yy (HFX.out x.dst)
  obtain ⟨WA, hWA⟩ : ∃ WA, WA = wr.alloc (.cells #[.int .i64 x.id, .int .i64 x.src, .int .i64 x.dst, .bool x.dir, .int .i64 x.weight, .int .i64 x.cap] 69) := ⟨_, rfl⟩
  have kA : Gro wr WA := by rw [hWA]; exact (Gro.refl _).alloc _
  have bX : WA.heap[wr.heap.size]? = some (.cells #[.int .i64 x.id, .int .i64 x.src, .int .i64 x.dst, .bool x.dir, .int .i64 x.weight, .int .i64 x.cap] 69 (0, 0)) := by rw [hWA]; exact blk_new _ _
  have HWA := yy hWA
  have HGA := yy (HG.out.trans kA)
  have KA := yy kA
  have BX := yy bX
  clear hok hx hc hWA kA bX
  go_wp2_with fail
  rw [← HWA.out]
  clear HWA d0 d1 d2 d3 d4 d5 q0 q1 q2 hlA hlB
  have cq := blk_cell ((HGA.out).blk BA.out)
  have q0 := cq 0
  have q1 := cq 1
  have q2 := cq 2
  simp only [lPa, lPb, lPc] at q0 q1 q2
  have hlA := blk_lt ((HGA.out).blk BA.out)
  clear cq
  have q0 := gcell q0
  have q1 := gcell q1
  have q2 := gcell q2
  have cx := blk_cell BX.out
  have x0 := cx 0
  have x1 := cx 1
  have x2 := cx 2
  have x3 := cx 3
  have x4 := cx 4
  have x5 := cx 5
  simp only [lPa, lPb, lPc] at x0 x1 x2 x3 x4 x5
  have x0 := gcell x0
  have x1 := gcell x1
  have x2 := gcell x2
  have x3 := gcell x3
  have x4 := gcell x4
  have x5 := gcell x5
  have hlX := blk_lt BX.out
  clear cx
  cases ok with
  | false =>
   go_quiet_grown ((first | (go_at_call 112; exact Calls.quiet_gro (CE.out _)) | (go_at_call 39; exact Calls.quiet_gro (CP.out _ (HGA.out.trans (gro_of_grow _ _ _)) _))))
   have kq := gro_of_grow WA nq osq
   dsimp only at kq ⊢
   clear q0 q1 q2 x0 x1 x2 x3 x4 x5
   generalize Go.Sort.grow (WA.drewN nq) osq = w3 at kq ⊢
   have KQ := yy (K0.out.trans (HGA.out.trans kq))
   clear kq
   have hr : validG g = false := by
    rw [← Bool.not_eq_true, validG_iff]
    intro hv
    have hm := hv.oke _ (List.getElem_mem hlt); rw [← HX.out] at hm; rw [HX.out] at hm; rw [← HOK.out] at hm; exact absurd hm.1 (by decide)
   have HF := yy hr
   clear hr
   go_wp2
   go_ret
   exact ⟨by rw [HF.out]; rfl, KQ.out⟩
  | true =>
  rcases k with _ | j
  ·have hp : ((g.es.map Edg.id).take 1).Pairwise (· < ·) := by
    rw [List.take_one]
    cases (g.es.map Edg.id).head? <;> simp
   by_cases hps : fidx ks x.src < 0
   ·have hpsd := decide_eq_true hps
    go_quiet_grown ((first | (go_at_call 112; exact Calls.quiet_gro (CE.out _)) | (go_at_call 39; exact Calls.quiet_gro (CP.out _ (HGA.out.trans (gro_of_grow _ _ _)) _))))
    have kq := gro_of_grow WA nq osq
    dsimp only at kq ⊢
    clear q0 q1 q2 x0 x1 x2 x3 x4 x5
    generalize Go.Sort.grow (WA.drewN nq) osq = w3 at kq ⊢
    have KQ := yy (K0.out.trans (HGA.out.trans kq))
    clear kq
    have hr : validG g = false := by
     rw [← Bool.not_eq_true, validG_iff]
     intro hv
     have hm := hv.oke _ (List.getElem_mem hlt); rw [← HX.out] at hm; rw [HS.out.1 hps] at hm; exact absurd hm.2.1 (by decide)
    have HF := yy hr
    clear hr
    go_wp2
    go_ret
    exact ⟨by rw [HF.out]; rfl, KQ.out⟩
   have hpsd := decide_eq_false hps
   by_cases hpd : fidx ks x.dst < 0
   ·have hpdd := decide_eq_true hpd
    go_quiet_grown ((first | (go_at_call 112; exact Calls.quiet_gro (CE.out _)) | (go_at_call 39; exact Calls.quiet_gro (CP.out _ (HGA.out.trans (gro_of_grow _ _ _)) _))))
    have kq := gro_of_grow WA nq osq
    dsimp only at kq ⊢
    clear q0 q1 q2 x0 x1 x2 x3 x4 x5
    generalize Go.Sort.grow (WA.drewN nq) osq = w3 at kq ⊢
    have KQ := yy (K0.out.trans (HGA.out.trans kq))
    clear kq
    have hr : validG g = false := by
     rw [← Bool.not_eq_true, validG_iff]
     intro hv
     have hm := hv.oke _ (List.getElem_mem hlt); rw [← HX.out] at hm; rw [HD.out.1 hpd] at hm; exact absurd hm.2.2 (by decide)
    have HF := yy hr
    clear hr
    go_wp2
    go_ret
    exact ⟨by rw [HF.out]; rfl, KQ.out⟩
   have hpdd := decide_eq_false hpd
   have hs1 : has g x.src = true := by
    by_cases h : has g x.src = true
    ·exact h
    exact absurd (HS.out.2 (by simpa using h)) hps
   have hd1 : has g x.dst = true := by
    by_cases h : has g x.dst = true
    ·exact h
    exact absurd (HD.out.2 (by simpa using h)) hpd
   have hall : ∀ i (h : i < g.es.length), i < 0 + 1 → (okE g.es[i] && has g g.es[i].src && has g g.es[i].dst) = true := by
    intro i h hi
    by_cases e : i = 0
    ·subst e
     have h1 := HOK.out
     have h2 := HX.out
     rw [← h2] at h1 ⊢
     simp [← h1, hs1, hd1]
    exact HN.out.1 i h (by omega)
   have HALL := yy hall
   have HP := yy (hp)
   clear hall hs1 hd1
   go_quiet_grown ((first | (go_at_call 112; exact Calls.quiet_gro (CE.out _)) | (go_at_call 39; exact Calls.quiet_gro (CP.out _ (HGA.out.trans (gro_of_grow _ _ _)) _))))
   have kq := gro_of_grow WA nq osq
   dsimp only at kq ⊢
   clear q0 q1 q2 x0 x1 x2 x3 x4 x5
   generalize Go.Sort.grow (WA.drewN nq) osq = w3 at kq ⊢
   have KQ := yy (HGA.out.trans kq)
   clear kq
   go_wp2
   go_roundw
   case rel => exact ⟨0 + 1, by omega, by go_num, KQ, yy ⟨HALL.out, HP.out⟩⟩
   case measure => simp [intOf]; omega
  have hjl : j < g.es.length := by omega
  obtain ⟨p0, _, _, _, _, _⟩ := ecells HC.out hjl
  have p0 := gcell (KA.out.cell p0)
  have hlB := hb
  have hlB2 : B < WA.heap.size := Nat.lt_of_lt_of_le hb KA.out.size
  have hwj : IntKind.i64.wrap (j : Int) = j := by rw [IntKind.wrap_i64]; omega
  have hwj2 : ((j + 1 : Nat) : Int) - 1 = j := by omega
  have hj0 : (0 : Int) < (j : Int) + 1 := by omega
  have hj1 : (0 : Int) ≤ (j : Int) + 1 := by omega
  have hjI : (j : Int) + 1 < (g.es.length : Int) := by omega
  obtain ⟨y, hy⟩ : ∃ y, y = g.es[j].id := ⟨_, rfl⟩
  rw [← hy] at p0
  have HY := yy hy
  clear hy
  by_cases hle : x.id ≤ y
  ·have hled := decide_eq_true hle
   go_quiet_grown ((first | (go_at_call 112; exact Calls.quiet_gro (CE.out _)) | (go_at_call 39; exact Calls.quiet_gro (CP.out _ (HGA.out.trans (gro_of_grow _ _ _)) _))))
   have kq := gro_of_grow WA nq osq
   dsimp only at kq ⊢
   clear q0 q1 q2 x0 x1 x2 x3 x4 x5 p0
   generalize Go.Sort.grow (WA.drewN nq) osq = w3 at kq ⊢
   have KQ := yy (K0.out.trans (HGA.out.trans kq))
   clear kq
   have hr : validG g = false := by
    rw [← Bool.not_eq_true, validG_iff]
    intro hv
    exact not_asc (ks := g.es.map Edg.id) (j := j) (by simpa using hlt) (by simp only [List.getElem_map]; rw [← HY.out, ← HX.out]; exact hle) hv.ae
   have HF := yy hr
   clear hr
   go_wp2
   go_ret
   exact ⟨by rw [HF.out]; rfl, KQ.out⟩
  have hled := decide_eq_false hle
  have hp := asc_take_succ HN.out.2 (j := j) (by simpa using hlt) (by simp only [List.getElem_map]; rw [← HY.out, ← HX.out]; omega)
  by_cases hps : fidx ks x.src < 0
  ·have hpsd := decide_eq_true hps
   go_quiet_grown ((first | (go_at_call 112; exact Calls.quiet_gro (CE.out _)) | (go_at_call 39; exact Calls.quiet_gro (CP.out _ (HGA.out.trans (gro_of_grow _ _ _)) _))))
   have kq := gro_of_grow WA nq osq
   dsimp only at kq ⊢
   clear q0 q1 q2 x0 x1 x2 x3 x4 x5 p0
   generalize Go.Sort.grow (WA.drewN nq) osq = w3 at kq ⊢
   have KQ := yy (K0.out.trans (HGA.out.trans kq))
   clear kq
   have hr : validG g = false := by
    rw [← Bool.not_eq_true, validG_iff]
    intro hv
    have hm := hv.oke _ (List.getElem_mem hlt); rw [← HX.out] at hm; rw [HS.out.1 hps] at hm; exact absurd hm.2.1 (by decide)
   have HF := yy hr
   clear hr
   go_wp2
   go_ret
   exact ⟨by rw [HF.out]; rfl, KQ.out⟩
  have hpsd := decide_eq_false hps
  by_cases hpd : fidx ks x.dst < 0
  ·have hpdd := decide_eq_true hpd
   go_quiet_grown ((first | (go_at_call 112; exact Calls.quiet_gro (CE.out _)) | (go_at_call 39; exact Calls.quiet_gro (CP.out _ (HGA.out.trans (gro_of_grow _ _ _)) _))))
   have kq := gro_of_grow WA nq osq
   dsimp only at kq ⊢
   clear q0 q1 q2 x0 x1 x2 x3 x4 x5 p0
   generalize Go.Sort.grow (WA.drewN nq) osq = w3 at kq ⊢
   have KQ := yy (K0.out.trans (HGA.out.trans kq))
   clear kq
   have hr : validG g = false := by
    rw [← Bool.not_eq_true, validG_iff]
    intro hv
    have hm := hv.oke _ (List.getElem_mem hlt); rw [← HX.out] at hm; rw [HD.out.1 hpd] at hm; exact absurd hm.2.2 (by decide)
   have HF := yy hr
   clear hr
   go_wp2
   go_ret
   exact ⟨by rw [HF.out]; rfl, KQ.out⟩
  have hpdd := decide_eq_false hpd
  have hs1 : has g x.src = true := by
   by_cases h : has g x.src = true
   ·exact h
   exact absurd (HS.out.2 (by simpa using h)) hps
  have hd1 : has g x.dst = true := by
   by_cases h : has g x.dst = true
   ·exact h
   exact absurd (HD.out.2 (by simpa using h)) hpd
  have hall : ∀ i (h : i < g.es.length), i < j + 2 → (okE g.es[i] && has g g.es[i].src && has g g.es[i].dst) = true := by
   intro i h hi
   by_cases e : i = j + 1
   ·subst e
    have h1 := HOK.out
    have h2 := HX.out
    rw [← h2] at h1 ⊢
    simp [← h1, hs1, hd1]
   exact HN.out.1 i h (by omega)
  have HALL := yy hall
  have HP := yy (hp)
  clear hall hs1 hd1
  go_quiet_grown ((first | (go_at_call 112; exact Calls.quiet_gro (CE.out _)) | (go_at_call 39; exact Calls.quiet_gro (CP.out _ (HGA.out.trans (gro_of_grow _ _ _)) _))))
  have kq := gro_of_grow WA nq osq
  dsimp only at kq ⊢
  clear q0 q1 q2 x0 x1 x2 x3 x4 x5 p0
  generalize Go.Sort.grow (WA.drewN nq) osq = w3 at kq ⊢
  have KQ := yy (HGA.out.trans kq)
  clear kq
  go_wp2
  go_roundw
  case rel => exact ⟨j + 2, by omega, by go_num, KQ, yy ⟨HALL.out, HP.out⟩⟩
  case measure => simp [intOf]; omega
 obtain rfl : k = g.es.length := by omega
 have hE : (g.es.map Edg.id).Pairwise (· < ·) ∧ g.es.all (fun e => okE e && has g e.src && has g e.dst) = true := by
  refine ⟨by have := HN.out.2; rwa [List.take_of_length_le (by simp)] at this, ?_⟩
  rw [List.all_eq_true]
  intro v hv
  obtain ⟨i, hi, rfl⟩ := List.getElem_of_mem hv
  exact HN.out.1 i hi hi
 have HE := yy hE
 clear hE HN
 go_wp2_with fail
 clear q0 q1 q2 hlA
 go_loopw [6] (fun t wr => ∃ k : Nat, k ≤ g.ds.length ∧ t = .int .i64 k ∧ Hid (Gro wa wr) ∧ Hid ((∀ i (h : i < g.ds.length), i < k → has g g.ds[i] = true) ∧ (g.ds.take k).Pairwise (· < ·))) (fun t _ => g.ds.length - (intOf t).toNat)
 case atStart => exact ⟨0, Nat.zero_le _, by go_num, HG, yy ⟨fun i h hi => by omega, by simp⟩⟩
 case round =>
 clear HG
 obtain ⟨k, hk, rfl, HG, HN⟩ := hrel
 have cq := blk_cell ((HG.out).blk BA.out)
 have q0 := cq 0
 have q1 := cq 1
 have q2 := cq 2
 simp only [lPa, lPb, lPc] at q0 q1 q2
 have hlA := blk_lt ((HG.out).blk BA.out)
 clear cq
 by_cases hlt : k < g.ds.length
 ·obtain ⟨B, off, rfl, hb, hc⟩ := (L3.out.gro HG.out).base hlt
  have d0 := icells hc hlt
  have HC := yy hc
  have q0 := gcell q0
  have q1 := gcell q1
  have q2 := gcell q2
  have d0 := gcell d0
  obtain ⟨x, hx⟩ : ∃ x, x = g.ds[k] := ⟨_, rfl⟩
  rw [← hx] at d0
  have HX := yy hx
  have HS := yy (HFX.out x)
  clear hx hc
  by_cases hps : fidx ks x < 0
  ·have hpsd := decide_eq_true hps
   go_wp2_with fail
   go_quiet_grown ((go_at_call 39; exact Calls.quiet_gro (CP.out _ (HG.out.trans (gro_of_grow _ _ _)) _)))
   have kq := gro_of_grow wr nq osq
   dsimp only at kq ⊢
   clear q0 q1 q2 d0
   generalize Go.Sort.grow (wr.drewN nq) osq = w3 at kq ⊢
   have KQ := yy (K0.out.trans (HG.out.trans kq))
   clear kq
   have hr : validG g = false := by
    rw [← Bool.not_eq_true, validG_iff]
    intro hv
    have hm := hv.okd _ (List.getElem_mem hlt); rw [← HX.out, HS.out.1 hps] at hm; cases hm
   have HF := yy hr
   clear hr
   go_wp2
   go_ret
   exact ⟨by rw [HF.out]; rfl, KQ.out⟩
  have hpsd := decide_eq_false hps
  have hs1 : has g x = true := by
   by_cases h : has g x = true
   ·exact h
   exact absurd (HS.out.2 (by simpa using h)) hps
  have hall : ∀ i (h : i < g.ds.length), i < k + 1 → has g g.ds[i] = true := by
   intro i h hi
   by_cases e : i = k
   ·subst e; rw [← HX.out]; exact hs1
   exact HN.out.1 i h (by omega)
  have HALL := yy hall
  clear hall hs1
  rcases k with _ | j
  ·simp only [Nat.zero_mul, Nat.add_zero] at d0
   have hp : (g.ds.take 1).Pairwise (· < ·) := by
    rw [List.take_one]
    cases g.ds.head? <;> simp
   have HP := yy hp
   clear hp
   go_wp2_with fail
   go_quiet_grown ((go_at_call 39; exact Calls.quiet_gro (CP.out _ (HG.out.trans (gro_of_grow _ _ _)) _)))
   have kq := gro_of_grow wr nq osq
   dsimp only at kq ⊢
   clear q0 q1 q2 d0
   generalize Go.Sort.grow (wr.drewN nq) osq = w3 at kq ⊢
   have KQ := yy (HG.out.trans kq)
   clear kq
   go_wp2
   go_roundw
   case rel => exact ⟨1, by omega, by go_num, KQ, yy ⟨HALL.out, HP.out⟩⟩
   case measure => simp [intOf]; omega
  have hjl : j < g.ds.length := by omega
  have p0 := icells HC.out hjl
  have p0 := gcell p0
  have hwj : IntKind.i64.wrap (j : Int) = j := by rw [IntKind.wrap_i64]; omega
  have hwj2 : ((j + 1 : Nat) : Int) - 1 = j := by omega
  have hj0 : (0 : Int) < (j : Int) + 1 := by omega
  have hj1 : (0 : Int) ≤ (j : Int) + 1 := by omega
  have hjI : (j : Int) + 1 < (g.ds.length : Int) := by omega
  obtain ⟨y, hy⟩ : ∃ y, y = g.ds[j] := ⟨_, rfl⟩
  rw [← hy] at p0
  have HY := yy hy
  clear hy
  by_cases hle : x ≤ y
  ·go_wp2_with fail
   go_quiet_grown ((go_at_call 39; exact Calls.quiet_gro (CP.out _ (HG.out.trans (gro_of_grow _ _ _)) _)))
   have kq := gro_of_grow wr nq osq
   dsimp only at kq ⊢
   clear q0 q1 q2 d0 p0
   generalize Go.Sort.grow (wr.drewN nq) osq = w3 at kq ⊢
   have KQ := yy (K0.out.trans (HG.out.trans kq))
   clear kq
   have hr : validG g = false := by
    rw [← Bool.not_eq_true, validG_iff]
    intro hv
    exact not_asc (ks := g.ds) (j := j) hlt (by rw [← HY.out, ← HX.out]; exact hle) hv.ad
   have HF := yy hr
   clear hr
   go_wp2
   go_ret
   exact ⟨by rw [HF.out]; rfl, KQ.out⟩
  have hp := asc_take_succ (ks := g.ds) HN.out.2 (j := j) hlt (by rw [← HY.out, ← HX.out]; omega)
  have HP := yy hp
  clear hp
  go_wp2_with fail
  go_quiet_grown ((go_at_call 39; exact Calls.quiet_gro (CP.out _ (HG.out.trans (gro_of_grow _ _ _)) _)))
  have kq := gro_of_grow wr nq osq
  dsimp only at kq ⊢
  clear q0 q1 q2 d0 p0
  generalize Go.Sort.grow (wr.drewN nq) osq = w3 at kq ⊢
  have KQ := yy (HG.out.trans kq)
  clear kq
  go_wp2
  go_roundw
  case rel => exact ⟨j + 2, by omega, by go_num, KQ, yy ⟨HALL.out, HP.out⟩⟩
  case measure => simp [intOf]; omega
 obtain rfl : k = g.ds.length := by omega
 have hr : validG g = decide (g.ds.length ≤ 3) := by
  have h1 : asc g.ds = true := by rw [asc_iff]; have := HN.out.2; rwa [List.take_length] at this
  have h2 : g.ds.all (has g) = true := by
   rw [List.all_eq_true]
   intro v hv
   obtain ⟨i, hi, rfl⟩ := List.getElem_of_mem hv
   exact HN.out.1 i hi hi
  rw [HR.out, asc_iff.2 HV.out.1, asc_iff.2 HE.out.1, HV.out.2, HE.out.2, h1, h2]
  simp
 have HF := yy hr
 have KQ := yy (K0.out.trans HG.out)
 clear hr
 by_cases h3 : g.ds.length ≤ 3
 ·have h3' : (g.ds.length : Int) ≤ 3 := by omega
  go_wp2
  go_ret
  exact ⟨by rw [HF.out, decide_eq_true h3]; rfl, KQ.out⟩
 have h3' : ¬ (g.ds.length : Int) ≤ 3 := by omega
 go_wp2
 go_ret
 exact ⟨by rw [HF.out, decide_eq_false h3]; rfl, KQ.out⟩
end Go.Proofs.YthfagcdjbmhhcaaGreat
namespace Go.Proofs.YthfagcdjbmhhcaaGreat
open Go.RowKit
attribute [local irreducible] wpQuiet
def roadsB (g : Gr) : Bool := validG g && g.vs.all fun v => v.side == 0
theorem all_take_succ {α : Type} (p : α → Bool) (l : List α) (k : Nat) (h : k < l.length) : (l.take (k + 1)).all p = ((l.take k).all p && p l[k]) := by
 rw [take_snoc l k h, List.all_append]; simp
set_option maxHeartbeats 2000000 in
theorem roads52 {w : World} {vg : Value} {g : Gr} (hG : GrV w vg g) (hf : g.few) : Calls Tryz.prog 52 #[vg] w fun e w' => e = .returned (.bool (roadsB g)) ∧ Gro w w' := by
 have hmix := mixed
 obtain ⟨v1, v2, v3, rfl, hg⟩ := hG
 obtain ⟨a1, n1, rfl, l1⟩ := hg.vs
 obtain ⟨a2, n2, rfl, l2⟩ := hg.es
 obtain ⟨a3, n3, rfl, l3⟩ := hg.ds
 have fv := hf.vs
 have k0 : Gro w (w.alloc (.cells #[Value.slice a1 g.vs.length n1, Value.slice a2 g.es.length n2, Value.slice a3 g.ds.length n3] 38)) := (Gro.refl _).alloc _
 have HC := yy (valid56 (w := w.alloc (.cells #[Value.slice a1 g.vs.length n1, Value.slice a2 g.es.length n2, Value.slice a3 g.ds.length n3] 38)) ⟨_, _, _, rfl, hg.gro k0⟩ hf)
 have K0 := yy k0
 have BA := yy (blk_new w (.cells #[Value.slice a1 g.vs.length n1, Value.slice a2 g.es.length n2, Value.slice a3 g.ds.length n3] 38))
 have L1 := yy (l1.gro k0)
 have hr : roadsB g = (validG g && g.vs.all fun v => v.side == 0) := rfl
 have HR := yy hr
 generalize validG g = vv at HC HR
 clear hg l1 l2 l3 k0 hf hr
 go_enter Tryz.func52, Tryz.ntmps52
 go_wp2_with fail
 refine HC.out.mono ?_
 rintro e wb ⟨rfl, kb⟩
 have KB := yy (K0.out.trans kb)
 have BB := yy (kb.blk BA.out)
 have LB := yy (L1.out.gro kb)
 clear kb HC
 have q0 := blk_cell BB.out 0
 simp only [lPa, lPb, lPc] at q0
 have hlA := blk_lt BB.out
 go_wp2_with fail
 go_loopw [4, 3] (fun t u wr => ∃ (k : Nat) (r : Bool), k ≤ g.vs.length ∧ t = .int .i64 k ∧ u = .bool r ∧ wr = wb ∧ r = (vv && (g.vs.take k).all fun v => v.side == 0)) (fun t _ _ => g.vs.length - (intOf t).toNat)
 case atStart => exact ⟨0, vv, Nat.zero_le _, by go_num, rfl, rfl, by simp⟩
 case round =>
 obtain ⟨k, r, hk, rfl, rfl, rfl, hr⟩ := hrel
 have HK := yy hr
 clear hr
 by_cases hlt : k < g.vs.length
 ·obtain ⟨B, off, rfl, hb, hc⟩ := LB.out.base hlt
  obtain ⟨d0, d1⟩ := vcells hc hlt
  have hlB := World.block_lt_of_cell? _ _ d0
  have hs := all_take_succ (fun v : Vtx => v.side == 0) g.vs k hlt
  obtain ⟨y, hy⟩ : ∃ y, y = g.vs[k].side := ⟨_, rfl⟩
  rw [← hy] at d1 hs
  have HS := yy hs
  clear hs hy hc d0
  cases r with
  | false =>
   go_wp2_with fail
   go_roundw
   case rel => exact ⟨k + 1, false, by omega, by go_num, rfl, by first | rfl | trivial, by rw [HS.out, ← Bool.and_assoc, ← HK.out]; rfl⟩
   case measure => simp [intOf]; omega
  | true =>
  by_cases h0 : y = 0
  ·have h0' : (y == 0) = true := by simpa using h0
   go_wp2_with fail
   go_roundw
   case rel => exact ⟨k + 1, true, by omega, by go_num, by simp [h0], by first | rfl | trivial, by rw [HS.out, ← Bool.and_assoc, ← HK.out]; simp [h0]⟩
   case measure => simp [intOf]; omega
  have h0' : (y == 0) = false := by simpa using h0
  go_wp2_with fail
  go_roundw
  case rel => exact ⟨k + 1, false, by omega, by go_num, by simp [h0], by first | rfl | trivial, by rw [HS.out, ← Bool.and_assoc, ← HK.out]; simp [h0]⟩
  case measure => simp [intOf]; omega
 obtain rfl : k = g.vs.length := by omega
 have h1 := HK.out
 rw [List.take_length] at h1
 have HF := yy h1
 clear h1
 go_wp2_with fail
 go_ret
 exact ⟨by rw [HR.out, ← HF.out]; rfl, KB.out⟩
/-- is the first with this number open -/
def opn' (b : Bk) (id : Int) : Bool := match fnd b id with | some x => x.state == 1 | none => false
theorem fidx_fnd {b : Bk} {id : Int} : (fnd b id = none ∧ fidx (b.os.map Ofr.id) id = -1 ∧ opn' b id = false) ∨ ∃ i : Nat, ∃ h : i < b.os.length, fnd b id = some b.os[i] ∧ fidx (b.os.map Ofr.id) id = i ∧ b.os[i].id = id := by
 rcases fidx_cases (b.os.map Ofr.id) id with ⟨h, hm⟩ | ⟨i, h, he, hi, hl⟩
 ·have hn : fnd b id = none := by
   unfold fnd
   rw [List.find?_eq_none]
   intro x hx
   simp only [beq_iff_eq]
   exact fun e => hm (List.mem_map.2 ⟨x, hx, e⟩)
  exact .inl ⟨hn, h, by unfold opn'; rw [hn]⟩
 have hi' : i < b.os.length := by simpa using h
 simp only [List.getElem_map] at hi
 refine .inr ⟨i, hi', ?_, he, hi⟩
 unfold fnd
 rw [List.find?_eq_some_iff_getElem]
 refine ⟨by simp [hi], i, hi', rfl, fun j hj => ?_⟩
 have := hl j (by simp; omega) hj
 simp only [List.getElem_map] at this
 simpa using this
set_option maxHeartbeats 2000000 in
theorem open66 {w : World} {vb : Value} {b : Bk} (hB : BkV w vb b) (hf : b.few) (id : Int) :
  Calls Tryz.prog 66 #[vb, .int .i64 id] w fun e w' => e = .returned (.tuple #[.int .i64 (fidx (b.os.map Ofr.id) id), .bool (opn' b id)]) ∧ Gro w w' := by
 have hmix := mixed
 obtain ⟨p, o, q, rfl, hp, ho, hq⟩ := hB
 obtain ⟨ap, np, rfl, lp⟩ := hp
 obtain ⟨ao, no, rfl, lo⟩ := ho
 obtain ⟨aq, nq, rfl, lq⟩ := hq
 have fo := hf.os
 have k0 : Gro w (w.alloc (.cells #[Value.int IntKind.i64 b.round, Value.slice ap b.ps.length np, Value.slice ao b.os.length no, Value.slice aq b.ws.length nq] 28)) := (Gro.refl _).alloc _
 have HC := yy (find40 (w := w.alloc (.cells #[Value.int IntKind.i64 b.round, Value.slice ap b.ps.length np, Value.slice ao b.os.length no, Value.slice aq b.ws.length nq] 28)) (b := b) ⟨_, _, _, rfl, ⟨_, _, rfl, lp.gro k0⟩, ⟨_, _, rfl, lo.gro k0⟩, ⟨_, _, rfl, lq.gro k0⟩⟩ hf id)
 have K0 := yy k0
 have BA := yy (blk_new w (.cells #[Value.int IntKind.i64 b.round, Value.slice ap b.ps.length np, Value.slice ao b.os.length no, Value.slice aq b.ws.length nq] 28))
 have LO := yy (lo.gro k0)
 clear lp lo lq hf k0
 rcases fidx_fnd (b := b) (id := id) with ⟨_, he, hr⟩ | ⟨i, hi, hfn, he, hid⟩
 ·rw [he] at HC ⊢
  have HR := yy hr
  clear hr he
  go_enter Tryz.func66, Tryz.ntmps66
  go_wp2_with fail
  refine HC.out.mono ?_
  rintro e wb ⟨rfl, kb⟩
  have KB := yy (K0.out.trans kb)
  clear kb HC
  go_wp2_with fail
  go_ret2
  exact ⟨by rw [HR.out]; rfl, KB.out⟩
 have hr : opn' b id = (b.os[i].state == 1) := by unfold opn'; rw [hfn]
 rw [he] at HC ⊢
 go_enter Tryz.func66, Tryz.ntmps66
 go_wp2_with fail
 refine HC.out.mono ?_
 rintro e wb ⟨rfl, kb⟩
 have KB := yy (K0.out.trans kb)
 have q2 := blk_cell (kb.blk BA.out) 2
 simp only [lPa, lPb, lPc] at q2
 have hlA := blk_lt (kb.blk BA.out)
 obtain ⟨B, off, rfl, hb, hc⟩ := (LO.out.gro kb).base hi
 obtain ⟨_, _, _, _, _, _, d6⟩ := ocells hc hi
 have hlB := World.block_lt_of_cell? _ _ d6
 obtain ⟨y, hy⟩ : ∃ y, y = b.os[i].state := ⟨_, rfl⟩
 rw [← hy] at d6 hr
 have HR := yy hr
 have q2 := gcell q2
 have d6 := gcell d6
 have hneg : ¬ ((i : Int) < 0) := by omega
 clear kb HC hc hy hr he hid hfn
 go_wp2_with fail
 go_quiet_grown (fail)
 have kq := gro_of_grow wb nq osq
 dsimp only at kq ⊢
 clear q2 d6
 generalize Go.Sort.grow (wb.drewN nq) osq = w3 at kq ⊢
 have KQ := yy (KB.out.trans kq)
 clear kq
 go_wp2_with fail
 go_ret2
 exact ⟨by rw [HR.out]; rfl, KQ.out⟩
end Go.Proofs.YthfagcdjbmhhcaaGreat
namespace Go.Proofs.YthfagcdjbmhhcaaGreat
open Go.RowKit
attribute [local irreducible] wpQuiet
/-- what the reference asks of an offer by itself -/
def offB (g : Gr) (o : Ofr) : Bool := inB o.id 0 23 && !has g o.id && has g o.place && inB o.party 0 9 && inB o.side 1 3 && inB o.price 0 1000 && inB o.until_ 0 30 && inB o.state 1 4
set_option maxHeartbeats 4000000 in
theorem offer54 {w : World} {vg : Value} {g : Gr} (hG : GrV w vg g) (hf : g.few) (x : Ofr) : Calls Tryz.prog 54 #[vg, .agg #[.int .i64 x.id, .int .i64 x.party, .int .i64 x.side, .int .i64 x.place, .int .i64 x.price, .int .i64 x.until_, .int .i64 x.state]] w fun e w' => e = .returned (.bool (offB g x)) ∧ Gro w w' := by
 have hmix := mixed
 obtain ⟨v1, v2, v3, rfl, hg⟩ := hG
 obtain ⟨a1, n1, rfl, l1⟩ := hg.vs
 obtain ⟨a2, n2, rfl, l2⟩ := hg.es
 obtain ⟨a3, n3, rfl, l3⟩ := hg.ds
 obtain ⟨wa, hwa⟩ : ∃ wa, wa = (w.alloc (.cells #[Value.slice a1 g.vs.length n1, Value.slice a2 g.es.length n2, Value.slice a3 g.ds.length n3] 38)).alloc (.cells #[.int .i64 x.id, .int .i64 x.party, .int .i64 x.side, .int .i64 x.place, .int .i64 x.price, .int .i64 x.until_, .int .i64 x.state] 30) := ⟨_, rfl⟩
 have k0 : Gro w wa := by rw [hwa]; exact ((Gro.refl _).alloc _).alloc _
 have bA : wa.heap[w.heap.size]? = some (.cells #[Value.slice a1 g.vs.length n1, Value.slice a2 g.es.length n2, Value.slice a3 g.ds.length n3] 38 (0, 0)) := by rw [hwa]; exact blk_alloc (blk_new _ _) _
 have bX : wa.heap[w.heap.size + 1]? = some (.cells #[.int .i64 x.id, .int .i64 x.party, .int .i64 x.side, .int .i64 x.place, .int .i64 x.price, .int .i64 x.until_, .int .i64 x.state] 30 (0, 0)) := by
  rw [hwa]
  have := blk_new (w.alloc (.cells #[Value.slice a1 g.vs.length n1, Value.slice a2 g.es.length n2, Value.slice a3 g.ds.length n3] 38)) (.cells #[.int .i64 x.id, .int .i64 x.party, .int .i64 x.side, .int .i64 x.place, .int .i64 x.price, .int .i64 x.until_, .int .i64 x.state] 30)
  rw [asz] at this
  exact this
 obtain ⟨ks, hks⟩ : ∃ ks, ks = g.vs.map Vtx.id := ⟨_, rfl⟩
 have CP : Hid (∀ W, Gro wa W → ∀ id, Calls Tryz.prog 39 #[.agg #[Value.slice a1 g.vs.length n1, Value.slice a2 g.es.length n2, Value.slice a3 g.ds.length n3], .int .i64 id] W fun e w' => e = .returned (.int .i64 (fidx ks id)) ∧ Gro W w') :=
  yy fun W hW id => by rw [hks]; exact place39 ⟨_, _, _, rfl, hg.gro (k0.trans hW)⟩ hf id
 have HFX : Hid (∀ id, fidx ks id < 0 ↔ has g id = false) := yy fun id => by rw [hks]; exact has_fidx
 have hr : offB g x = (inB x.id 0 23 && !has g x.id && has g x.place && inB x.party 0 9 && inB x.side 1 3 && inB x.price 0 1000 && inB x.until_ 0 30 && inB x.state 1 4) := rfl
 have HR := yy hr
 have K0 := yy k0
 have BA := yy bA
 have BX := yy bX
 have HW := yy hwa
 clear hg l1 l2 l3 hf k0 bA bX hwa hks hr
 cases h0 : inB x.id 0 23 with
 | false =>
  have hr := HR.out
  simp only [h0, Bool.false_and] at hr
  have HF := yy hr
  clear hr HR
  go_enter Tryz.func54, Tryz.ntmps54
  go_wp2_with (go_at_call 53; refine (in53 _ _ _ _).mono ?_; rintro e w' ⟨rfl, rfl⟩)
  go_ret
  exact ⟨by rw [HF.out]; rfl, ((Gro.refl _).alloc _).alloc _⟩
 | true =>
 go_enter Tryz.func54, Tryz.ntmps54
 go_wp2_with (go_at_call 53; refine (in53 _ _ _ _).mono ?_; rintro e w' ⟨rfl, rfl⟩)
 rw [← HW.out]
 refine (CP.out _ (Gro.refl _) _).mono ?_
 rintro e w1 ⟨rfl, k1⟩
 have cc := blk_cell (k1.blk BA.out)
 have q0 := cc 0
 have q1 := cc 1
 have q2 := cc 2
 simp only [lPa, lPb, lPc] at q0 q1 q2
 have hlq := blk_lt (k1.blk BA.out)
 clear cc
 have cc := blk_cell (k1.blk BX.out)
 have d0 := cc 0
 have d1 := cc 1
 have d2 := cc 2
 have d3 := cc 3
 have d4 := cc 4
 have d5 := cc 5
 have d6 := cc 6
 simp only [lPa, lPb, lPc] at d0 d1 d2 d3 d4 d5 d6
 have hld := blk_lt (k1.blk BX.out)
 clear cc
 have K1 := yy k1
 clear k1 HW
 by_cases hp : 0 ≤ fidx ks x.id
 ·have hh : has g x.id = true := by
   by_cases h : has g x.id = true
   ·exact h
   have := (HFX.out x.id).2 (by simpa using h); omega
  have hr := HR.out
  simp only [hh, Bool.not_true, Bool.and_false, Bool.false_and] at hr
  have HF := yy hr
  clear hr HR hh
  go_wp2_with fail
  go_ret
  exact ⟨by rw [HF.out]; rfl, K0.out.trans K1.out⟩
 have hh : has g x.id = false := (HFX.out x.id).1 (by omega)
 have HH := yy hh
 clear hh
 go_wp2_with fail
 refine (CP.out _ K1.out _).mono ?_
 rintro e w2 ⟨rfl, k2⟩
 clear q0 q1 q2 d0 d1 d2 d3 d4 d5 d6 hlq hld
 have cc := blk_cell ((K1.out.trans k2).blk BX.out)
 have d0 := cc 0
 have d1 := cc 1
 have d2 := cc 2
 have d3 := cc 3
 have d4 := cc 4
 have d5 := cc 5
 have d6 := cc 6
 simp only [lPa, lPb, lPc] at d0 d1 d2 d3 d4 d5 d6
 have hld := blk_lt ((K1.out.trans k2).blk BX.out)
 clear cc
 have K2 := yy ((K0.out.trans K1.out).trans k2)
 clear k2 K1
 by_cases hp2 : fidx ks x.place < 0
 ·have hh := (HFX.out x.place).1 hp2
  have hr := HR.out
  simp only [hh, Bool.and_false, Bool.false_and] at hr
  have HF := yy hr
  clear hr HR hh
  go_wp2_with fail
  go_ret
  exact ⟨by rw [HF.out]; rfl, K2.out⟩
 have hh : has g x.place = true := by
  by_cases h : has g x.place = true
  ·exact h
  exact absurd ((HFX.out x.place).2 (by simpa using h)) hp2
 have hr := HR.out
 simp only [h0, HH.out, hh, Bool.not_false, Bool.true_and] at hr
 have HF := yy hr
 clear hr HR hh HH
 cases h1 : inB x.party 0 9 with
 | false =>
  have hr := HF.out
  simp only [h1, Bool.false_and, Bool.and_false, Bool.true_and] at hr
  have HF2 := yy hr
  clear hr HF
  go_wp2_with (go_at_call 53; refine (in53 _ _ _ _).mono ?_; rintro e w' ⟨rfl, rfl⟩)
  go_ret
  exact ⟨by rw [HF2.out]; rfl, K2.out⟩
 | true =>
 cases h2 : inB x.side 1 3 with
 | false =>
  have hr := HF.out
  simp only [h1, h2, Bool.false_and, Bool.and_false, Bool.true_and] at hr
  have HF2 := yy hr
  clear hr HF
  go_wp2_with (go_at_call 53; refine (in53 _ _ _ _).mono ?_; rintro e w' ⟨rfl, rfl⟩)
  go_ret
  exact ⟨by rw [HF2.out]; rfl, K2.out⟩
 | true =>
 cases h3 : inB x.price 0 1000 with
 | false =>
  have hr := HF.out
  simp only [h1, h2, h3, Bool.false_and, Bool.and_false, Bool.true_and] at hr
  have HF2 := yy hr
  clear hr HF
  go_wp2_with (go_at_call 53; refine (in53 _ _ _ _).mono ?_; rintro e w' ⟨rfl, rfl⟩)
  go_ret
  exact ⟨by rw [HF2.out]; rfl, K2.out⟩
 | true =>
 cases h4 : inB x.until_ 0 30 with
 | false =>
  have hr := HF.out
  simp only [h1, h2, h3, h4, Bool.false_and, Bool.and_false, Bool.true_and] at hr
  have HF2 := yy hr
  clear hr HF
  go_wp2_with (go_at_call 53; refine (in53 _ _ _ _).mono ?_; rintro e w' ⟨rfl, rfl⟩)
  go_ret
  exact ⟨by rw [HF2.out]; rfl, K2.out⟩
 | true =>
 cases h5 : inB x.state 1 4 with
 | false =>
  have hr := HF.out
  simp only [h1, h2, h3, h4, h5, Bool.false_and, Bool.and_false, Bool.true_and] at hr
  have HF2 := yy hr
  clear hr HF
  go_wp2_with (go_at_call 53; refine (in53 _ _ _ _).mono ?_; rintro e w' ⟨rfl, rfl⟩)
  go_ret
  exact ⟨by rw [HF2.out]; rfl, K2.out⟩
 | true =>
 have hr := HF.out
 simp only [h1, h2, h3, h4, h5, Bool.true_and] at hr
 have HF2 := yy hr
 clear hr HF
 go_wp2_with (go_at_call 53; refine (in53 _ _ _ _).mono ?_; rintro e w' ⟨rfl, rfl⟩)
 go_ret
 exact ⟨by rw [HF2.out]; rfl, K2.out⟩
def sumL (p : Int) (l : List Ofr) : Int := ((l.filter (isLoad p)).map Ofr.price).sum
theorem sumL_succ (p : Int) (l : List Ofr) (k : Nat) (h : k < l.length) : sumL p (l.take (k + 1)) = sumL p (l.take k) + if isLoad p l[k] = true then l[k].price else 0 := by
 unfold sumL
 rw [take_snoc l k h, List.filter_append, List.map_append, List.sum_append]
 congr 1
 by_cases hp : isLoad p l[k] = true <;> simp [hp]
theorem sumL_bound (p : Int) : ∀ (l : List Ofr), (∀ o ∈ l, 0 ≤ o.price ∧ o.price ≤ 1000) → 0 ≤ sumL p l ∧ sumL p l ≤ l.length * 1000
 | [], _ => by simp [sumL]
 | x :: l, h => by
  have ih := sumL_bound p l (fun o ho => h o (by simp [ho]))
  have hx := h x (by simp)
  unfold sumL at ih ⊢
  rw [List.filter_cons]
  split
  ·simp only [List.map_cons, List.sum_cons, List.length_cons]; omega
  ·simp only [List.length_cons]; omega
set_option maxHeartbeats 4000000 in
theorem spent37 {w : World} {vb : Value} {b : Bk} (hB : BkV w vb b) (hf : b.few) (hpr : ∀ o ∈ b.os, 0 ≤ o.price ∧ o.price ≤ 1000) (party : Int) :
  Calls Tryz.prog 37 #[vb, .int .i64 party] w fun e w' => e = .returned (.int .i64 (spent b party)) ∧ Gro w w' := by
 have hmix := mixed
 obtain ⟨p, o, q, rfl, hp, ho, hq⟩ := hB
 obtain ⟨ap, np, rfl, lp⟩ := hp
 obtain ⟨ao, no, rfl, lo⟩ := ho
 obtain ⟨aq, nq, rfl, lq⟩ := hq
 have fo := hf.os
 obtain ⟨wa, hwa⟩ : ∃ wa, wa = w.alloc (.cells #[Value.int IntKind.i64 b.round, Value.slice ap b.ps.length np, Value.slice ao b.os.length no, Value.slice aq b.ws.length nq] 28) := ⟨_, rfl⟩
 have k0 : Gro w wa := by rw [hwa]; exact (Gro.refl _).alloc _
 have bA : wa.heap[w.heap.size]? = some (.cells #[Value.int IntKind.i64 b.round, Value.slice ap b.ps.length np, Value.slice ao b.os.length no, Value.slice aq b.ws.length nq] 28 (0, 0)) := by rw [hwa]; exact blk_new _ _
 have HW := yy hwa
 have K0 := yy k0
 have BA := yy bA
 have LO := yy (lo.gro k0)
 have HPR := yy hpr
 have hr : spent b party = sumL party b.os := rfl
 have HR := yy hr
 clear lp lo lq hf k0 bA hwa hpr hr
 go_enter Tryz.func37, Tryz.ntmps37
 go_wp2_with fail
 rw [← HW.out]
 clear HW
 go_loopw [6, 5] (fun t u wr => ∃ k : Nat, k ≤ b.os.length ∧ t = .int .i64 k ∧ u = .int .i64 (sumL party (b.os.take k)) ∧ Hid (Gro wa wr)) (fun t _ _ => b.os.length - (intOf t).toNat)
 case atStart => exact ⟨0, Nat.zero_le _, by go_num, by simp [sumL], yy (Gro.refl _)⟩
 case round =>
 obtain ⟨k, hk, rfl, rfl, HG⟩ := hrel
 have q2 := blk_cell (HG.out.blk BA.out) 2
 simp only [lPa, lPb, lPc] at q2
 have hlA := blk_lt (HG.out.blk BA.out)
 by_cases hlt : k < b.os.length
 ·obtain ⟨B, off, rfl, hb, hc⟩ := (LO.out.gro HG.out).base hlt
  obtain ⟨d0, d1, d2, d3, d4, d5, d6⟩ := ocells hc hlt
  have hlB := World.block_lt_of_cell? _ _ d0
  have hs := sumL_succ party b.os k hlt
  have hbd := sumL_bound party (b.os.take k) (fun o ho => HPR.out o (List.mem_of_mem_take ho))
  have hpx := HPR.out _ (List.getElem_mem hlt)
  rw [List.length_take] at hbd
  have hbd2 : sumL party (b.os.take k) ≤ 1000000000 := by omega
  generalize b.os[k] = x at d0 d1 d2 d3 d4 d5 d6 hs hpx
  generalize sumL party (b.os.take k) = s at hs hbd hbd2
  obtain ⟨xid, xparty, xside, xplace, xprice, xuntil, xstate⟩ := x
  simp only at d0 d1 d2 d3 d4 d5 d6 hpx
  have hw : IntKind.i64.wrap (s + xprice) = s + xprice := by rw [IntKind.wrap_i64]; omega
  have HG2 := yy (HG.out.alloc (Obj.cells #[.int .i64 xid, .int .i64 xparty, .int .i64 xside, .int .i64 xplace, .int .i64 xprice, .int .i64 xuntil, .int .i64 xstate] 30))
  have hl : isLoad party ⟨xid, xparty, xside, xplace, xprice, xuntil, xstate⟩ = (xparty == party && xside == 1 && xstate == 1) := rfl
  rw [hl] at hs
  have HS := yy hs
  clear hs hc hl hpx hbd
  by_cases h1 : xparty = party
  ·subst h1
   by_cases h2 : xside = 1
   ·subst h2
    by_cases h3 : xstate = 1
    ·subst h3
     go_wp2_with fail
     go_roundw
     case rel => exact ⟨k + 1, by omega, by go_num, by rw [HS.out]; simp [hw], HG2⟩
     case measure => simp [intOf]; omega
    have h3' : (xstate == 1) = false := by simpa using h3
    go_wp2_with fail
    go_roundw
    case rel => exact ⟨k + 1, by omega, by go_num, by rw [HS.out]; simp [h3], HG2⟩
    case measure => simp [intOf]; omega
   have h2' : (xside == 1) = false := by simpa using h2
   go_wp2_with fail
   go_roundw
   case rel => exact ⟨k + 1, by omega, by go_num, by rw [HS.out]; simp [h2], HG2⟩
   case measure => simp [intOf]; omega
  have h1' : (xparty == party) = false := by simpa using h1
  go_wp2_with fail
  go_roundw
  case rel => exact ⟨k + 1, by omega, by go_num, by rw [HS.out]; simp [h1], HG2⟩
  case measure => simp [intOf]; omega
 obtain rfl : k = b.os.length := by omega
 rw [List.take_length]
 go_wp2_with fail
 go_ret
 exact ⟨by rw [HR.out]; rfl, K0.out.trans HG.out⟩
end Go.Proofs.YthfagcdjbmhhcaaGreat
namespace Go.Proofs.YthfagcdjbmhhcaaGreat
open Go.RowKit
attribute [local irreducible] wpQuiet
set_option maxHeartbeats 8000000 in
set_option maxRecDepth 100000 in
theorem joins55 {w : World} {vb : Value} {b : Bk} (hB : BkV w vb b) (hf : b.few) (hpr : ∀ o ∈ b.os, 0 ≤ o.price ∧ o.price ≤ 1000) (x : Wsh) :
  Calls Tryz.prog 55 #[vb, .agg #[.int .i64 x.edge, .int .i64 x.src, .int .i64 x.dst, .int .i64 x.weight]] w fun e w' => e = .returned (.bool (okW b x)) ∧ Gro w w' := by
 have hmix := mixed
 obtain ⟨p, o, q, rfl, hp, ho, hq⟩ := hB
 obtain ⟨ap, np, rfl, lp⟩ := hp
 obtain ⟨ao, no, rfl, lo⟩ := ho
 obtain ⟨aq, nq, rfl, lq⟩ := hq
 have fo := hf.os
 obtain ⟨wa, hwa⟩ : ∃ wa, wa = (w.alloc (.cells #[Value.int IntKind.i64 b.round, Value.slice ap b.ps.length np, Value.slice ao b.os.length no, Value.slice aq b.ws.length nq] 28)).alloc (.cells #[.int .i64 x.edge, .int .i64 x.src, .int .i64 x.dst, .int .i64 x.weight] 32) := ⟨_, rfl⟩
 have k0 : Gro w wa := by rw [hwa]; exact ((Gro.refl _).alloc _).alloc _
 have bA : wa.heap[w.heap.size]? = some (.cells #[Value.int IntKind.i64 b.round, Value.slice ap b.ps.length np, Value.slice ao b.os.length no, Value.slice aq b.ws.length nq] 28 (0, 0)) := by rw [hwa]; exact blk_alloc (blk_new _ _) _
 have bX : wa.heap[w.heap.size + 1]? = some (.cells #[.int .i64 x.edge, .int .i64 x.src, .int .i64 x.dst, .int .i64 x.weight] 32 (0, 0)) := by
  rw [hwa]
  have := blk_new (w.alloc (.cells #[Value.int IntKind.i64 b.round, Value.slice ap b.ps.length np, Value.slice ao b.os.length no, Value.slice aq b.ws.length nq] 28)) (.cells #[.int .i64 x.edge, .int .i64 x.src, .int .i64 x.dst, .int .i64 x.weight] 32)
  rw [asz] at this
  exact this
 have CO : Hid (∀ W, Gro wa W → ∀ id, Calls Tryz.prog 66 #[.agg #[Value.int IntKind.i64 b.round, Value.slice ap b.ps.length np, Value.slice ao b.os.length no, Value.slice aq b.ws.length nq], .int .i64 id] W fun e w' => e = .returned (.tuple #[.int .i64 (fidx (b.os.map Ofr.id) id), .bool (opn' b id)]) ∧ Gro W w') :=
  yy fun W hW id => open66 ⟨_, _, _, rfl, ⟨_, _, rfl, (lp.gro k0).gro hW⟩, ⟨_, _, rfl, (lo.gro k0).gro hW⟩, ⟨_, _, rfl, (lq.gro k0).gro hW⟩⟩ hf id
 have K0 := yy k0
 have BA := yy bA
 have BX := yy bX
 have HW := yy hwa
 have LO := yy (lo.gro k0)
 have HPR := yy hpr
 have hs := fidx_fnd (b := b) (id := x.src)
 have hd := fidx_fnd (b := b) (id := x.dst)
 obtain ⟨fs, hfs⟩ : ∃ fs, fs = fidx (b.os.map Ofr.id) x.src := ⟨_, rfl⟩
 obtain ⟨fd, hfd⟩ : ∃ fd, fd = fidx (b.os.map Ofr.id) x.dst := ⟨_, rfl⟩
 rw [← hfs] at hs
 rw [← hfd] at hd
 obtain ⟨os1, ho1⟩ : ∃ o, o = opn' b x.src := ⟨_, rfl⟩
 obtain ⟨os2, ho2⟩ : ∃ o, o = opn' b x.dst := ⟨_, rfl⟩
 have CS := yy (fun W hW => CO.out W hW x.src)
 have CD := yy (fun W hW => CO.out W hW x.dst)
 rw [← hfs, ← ho1] at CS
 rw [← hfd, ← ho2] at CD
 have HS := yy hs
 have HD := yy hd
 have HO1 := yy ho1
 have HO2 := yy ho2
 have hfe : x.src = x.dst → fs = fd := fun e => by rw [hfs, hfd, e]
 have HFE := yy hfe
 clear lp lo lq hf k0 bA bX hwa hpr hs hd hfs hfd ho1 ho2 CO hfe
 have OPN : Hid (∀ id, opn' b id = true → ∃ X, fnd b id = some X ∧ X.state = 1) := yy (by
  intro id h
  unfold opn' at h
  split at h
  ·exact ⟨_, by assumption, by simpa using h⟩
  cases h)
 have OKF : Hid (opn' b x.src = false ∨ opn' b x.dst = false → okW b x = false) := yy (by
  intro h
  rw [← Bool.not_eq_true]
  intro hk
  obtain ⟨X, Y, hX, hY, sX, sY, _, _⟩ := okW_inv hk
  unfold opn' at h
  rw [hX, hY] at h
  simp [sX, sY] at h)
 go_enter Tryz.func55, Tryz.ntmps55
 go_wp2_with fail
 rw [← HW.out]
 clear HW
 refine (CS.out _ (Gro.refl _)).mono ?_
 rintro e w1 ⟨rfl, k1⟩
 have cc := blk_cell (k1.blk BA.out)
 have q0 := cc 0
 have q1 := cc 1
 have q2 := cc 2
 have q3 := cc 3
 simp only [lPa, lPb, lPc] at q0 q1 q2 q3
 have hlq := blk_lt (k1.blk BA.out)
 clear cc
 have cc := blk_cell (k1.blk BX.out)
 have d0 := cc 0
 have d1 := cc 1
 have d2 := cc 2
 have d3 := cc 3
 simp only [lPa, lPb, lPc] at d0 d1 d2 d3
 have hld := blk_lt (k1.blk BX.out)
 clear cc
 have K1 := yy k1
 clear k1 CS
 go_wp2_with fail
 refine (CD.out _ K1.out).mono ?_
 rintro e w2 ⟨rfl, k2⟩
 clear q0 q1 q2 q3 hlq d0 d1 d2 d3 hld
 have cc := blk_cell ((K1.out.trans k2).blk BA.out)
 have q0 := cc 0
 have q1 := cc 1
 have q2 := cc 2
 have q3 := cc 3
 simp only [lPa, lPb, lPc] at q0 q1 q2 q3
 have hlq := blk_lt ((K1.out.trans k2).blk BA.out)
 clear cc
 have cc := blk_cell ((K1.out.trans k2).blk BX.out)
 have d0 := cc 0
 have d1 := cc 1
 have d2 := cc 2
 have d3 := cc 3
 simp only [lPa, lPb, lPc] at d0 d1 d2 d3
 have hld := blk_lt ((K1.out.trans k2).blk BX.out)
 clear cc
 have LO2 := yy ((LO.out.gro K1.out).gro k2)
 have K2 := yy ((K0.out.trans K1.out).trans k2)
 clear k2 CD K1
 cases os1 with
 | false =>
  have HF := yy (OKF.out (.inl HO1.out.symm))
  go_wp2_with fail
  go_ret
  exact ⟨by rw [HF.out]; rfl, K2.out⟩
 | true =>
 cases os2 with
 | false =>
  have HF := yy (OKF.out (.inr HO2.out.symm))
  go_wp2_with fail
  go_ret
  exact ⟨by rw [HF.out]; rfl, K2.out⟩
 | true =>
 obtain ⟨X, hX, sX⟩ := OPN.out _ HO1.out.symm
 obtain ⟨Y, hY, sY⟩ := OPN.out _ HO2.out.symm
 rcases HS.out with ⟨hn, _⟩ | ⟨i, hi, hfi, rfl, hii⟩
 ·rw [hn] at hX; cases hX
 rcases HD.out with ⟨hn, _⟩ | ⟨j, hj, hfj, rfl, hjj⟩
 ·rw [hn] at hY; cases hY
 rw [hfi] at hX
 rw [hfj] at hY
 injection hX with hX
 injection hY with hY
 have hok : okW b x = (x.src != x.dst && joinsO X Y x.weight) := by
  unfold okW
  rw [hfi, hfj, hX, hY]
  simp [sX, sY]
 have px := HPR.out _ (List.getElem_mem hi)
 have py := HPR.out _ (List.getElem_mem hj)
 rw [hX] at px
 rw [hY] at py
 obtain ⟨B1, off, rfl, hb, hc⟩ := LO2.out.base hi
 obtain ⟨s0, s1, s2, s3, s4, s5, s6⟩ := ocells hc hi
 obtain ⟨t0, t1, t2, t3, t4, t5, t6⟩ := ocells hc hj
 have hlB := World.block_lt_of_cell? _ _ s0
 rw [hX] at s0 s1 s2 s3 s4 s5 s6
 rw [hY] at t0 t1 t2 t3 t4 t5 t6
 have HE : Hid (i = j → x.src = x.dst) := yy (fun e => by subst e; rw [← hii, ← hjj])
 clear HS HD HO1 HO2 hX hY hfi hfj hii hjj hc OPN OKF LO LO2 HPR sX sY
 by_cases he : x.src = x.dst
 ·have hij := HFE.out he
  obtain rfl : i = j := by omega
  have hf : okW b x = false := by rw [hok, he]; simp
  have HF := yy hf
  clear hf hok he
  go_wp2_with fail
  go_ret
  exact ⟨by rw [HF.out]; rfl, K2.out⟩
 have hne : ((i : Int) == (j : Int)) = false := by
  have : i ≠ j := fun e => he (by subst e; exact HE.out rfl)
  simp; omega
 obtain ⟨xid, xparty, xside, xplace, xprice, xuntil, xstate⟩ := X
 obtain ⟨yid, yparty, yside, yplace, yprice, yuntil, ystate⟩ := Y
 simp only at px py s0 s1 s2 s3 s4 s5 s6 t0 t1 t2 t3 t4 t5 t6
 have hb1 : (x.src != x.dst) = true := by simpa using he
 rw [hb1, Bool.true_and] at hok
 have HOK := yy hok
 have hw : IntKind.i64.wrap (xprice - yprice) = xprice - yprice := by rw [IntKind.wrap_i64]; omega
 clear hb1 he hok
 have KK : ∀ o1 o2, Gro w ((w2.alloc o1).alloc o2) := fun o1 o2 => (K2.out.alloc o1).alloc o2
 have KH := yy KK
 clear KK
 by_cases h1 : xside = 1
 ·subst h1
  by_cases h2 : yside = 2
  ·subst h2
   by_cases h3 : yprice ≤ xprice
   ·by_cases h4 : x.weight = xprice - yprice
    ·have hf : okW b x = true := by rw [HOK.out]; simp [joinsO, h3, h4]
     have HF := yy hf
     have h4' : (x.weight == xprice - yprice) = true := by simpa using h4
     clear hf HOK
     go_wp2_with fail
     go_ret
     exact ⟨by rw [HF.out]; rfl, KH.out _ _⟩
    have hf : okW b x = false := by rw [HOK.out]; simp [joinsO, h4]
    have HF := yy hf
    have h4' : (x.weight == xprice - yprice) = false := by simpa using h4
    clear hf HOK
    go_wp2_with fail
    go_ret
    exact ⟨by rw [HF.out]; rfl, KH.out _ _⟩
   have hf : okW b x = false := by rw [HOK.out]; simp [joinsO, h3]
   have HF := yy hf
   clear hf HOK
   go_wp2_with fail
   go_ret
   exact ⟨by rw [HF.out]; rfl, KH.out _ _⟩
  have h2' : (yside == 2) = false := by simpa using h2
  have hf : okW b x = false := by rw [HOK.out]; simp [joinsO, h2]
  have HF := yy hf
  clear hf HOK
  go_wp2_with fail
  go_ret
  exact ⟨by rw [HF.out]; rfl, KH.out _ _⟩
 have h1' : (xside == 1) = false := by simpa using h1
 by_cases h3 : xside = 3
 ·subst h3
  by_cases h4 : yside = 3
  ·subst h4
   have hf : okW b x = inB x.weight 0 1000 := by rw [HOK.out]; simp [joinsO]
   have HF := yy hf
   clear hf HOK
   go_wp2_with (go_at_call 53; refine (in53 _ _ _ _).mono ?_; rintro e w' ⟨rfl, rfl⟩)
   go_ret
   exact ⟨by rw [HF.out]; rfl, KH.out _ _⟩
  have h4' : (yside == 3) = false := by simpa using h4
  have hf : okW b x = false := by rw [HOK.out]; simp [joinsO, h4]
  have HF := yy hf
  clear hf HOK
  go_wp2_with fail
  go_ret
  exact ⟨by rw [HF.out]; rfl, KH.out _ _⟩
 have h3' : (xside == 3) = false := by simpa using h3
 have hf : okW b x = false := by rw [HOK.out]; simp [joinsO, h1, h3]
 have HF := yy hf
 clear hf HOK
 go_wp2_with fail
 go_ret
 exact ⟨by rw [HF.out]; rfl, KH.out _ _⟩
end Go.Proofs.YthfagcdjbmhhcaaGreat
namespace Go.Proofs.YthfagcdjbmhhcaaGreat
theorem opn_first {b : Bk} (ha : (b.os.map Ofr.id).Pairwise (· < ·)) (id : Int) : opn b id = opn' b id := by
 rcases fidx_fnd (b := b) (id := id) with ⟨hn, _, ho⟩ | ⟨i, hi, hf, _, hid⟩
 ·have hm : id ∉ b.os.map Ofr.id := fun hm => by
   obtain ⟨o, ho, e⟩ := List.mem_map.1 hm
   unfold fnd at hn
   rw [List.find?_eq_none] at hn
   exact hn o ho (by simp [e])
  rw [ho]
  exact any_none hm (fun o => o.state == 1)
 have h1 := any_at ha hi hid (fun o => o.state == 1)
 unfold opn'
 rw [hf]
 exact h1
theorem chk_add {g : Gr} {b : Bk} {x : Ofr} (hv : validB g b = true) : chk g b (doAdd b x) = if x.state ≠ 1 ∨ opn' b x.id = true then none else (if validB g { b with os := putO x b.os } = true then some { b with os := putO x b.os } else none) := by
 unfold chk doAdd
 rw [if_pos hv, opn_first (validB_iff.1 hv).ao]
 split <;> rfl
end Go.Proofs.YthfagcdjbmhhcaaGreat
