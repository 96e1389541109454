/- the reference: Valid. -/
import Derived.Test.YthfagcdjbmhhcaaGreatK16
import Derived.Test.YthfagcdjbmhhcaaGreatK12
import Derived.Deep.CutBlock
import Derived.Deep.DeepCutAuto
set_option linter.unusedVariables false
set_option linter.unusedSimpArgs false
namespace Go.Proofs.YthfagcdjbmhhcaaGreat
open Go.RowKit
attribute [local irreducible] wpQuiet
theorem in53g (n lo hi : Int) (w : World) : Calls Tryz.prog 53 #[.int .i64 n, .int .i64 lo, .int .i64 hi] w fun e w' => e = .returned (.bool (inB n lo hi)) ∧ Gro w w' :=
 (in53 n lo hi w).mono fun e w' h => ⟨h.1, by rw [h.2]; exact Gro.refl _⟩
theorem roadsB_iff {g : Gr} : roadsB g = true ↔ VG g ∧ ∀ v ∈ g.vs, v.side = 0 := by
 unfold roadsB
 rw [Bool.and_eq_true, validG_iff, List.all_eq_true]
 simp only [beq_iff_eq]
/-- a list whose first k are good, and ascend -/
def upK {α : Type} (key : α → Int) (good : α → Bool) (l : List α) (k : Nat) : Prop := (∀ i (h : i < l.length), i < k → good l[i] = true) ∧ ((l.map key).take k).Pairwise (· < ·)
theorem upK_zero {α : Type} (key : α → Int) (good : α → Bool) (l : List α) : upK key good l 0 := ⟨fun i h hi => by omega, by simp⟩
theorem upK_one {α : Type} {key : α → Int} {good : α → Bool} {l : List α} (h : 0 < l.length) (hg : good l[0] = true) : upK key good l 1 := by
 refine ⟨fun i hi h1 => ?_, ?_⟩
 ·obtain rfl : i = 0 := by omega
  exact hg
 rw [List.take_one]
 cases (l.map key).head? <;> simp
theorem upK_succ {α : Type} {key : α → Int} {good : α → Bool} {l : List α} {j : Nat} (h : upK key good l (j + 1)) (hj : j + 1 < l.length) (hg : good l[j + 1] = true) (hlt : key l[j] < key l[j + 1]) : upK key good l (j + 2) := by
 refine ⟨fun i hi h1 => ?_, asc_take_succ h.2 (by simpa using hj) (by simpa using hlt)⟩
 by_cases e : i = j + 1
 ·subst e; exact hg
 exact h.1 i hi (by omega)
theorem upK_end {α : Type} {key : α → Int} {good : α → Bool} {l : List α} (h : upK key good l l.length) : (∀ x ∈ l, good x = true) ∧ (l.map key).Pairwise (· < ·) := by
 refine ⟨fun x hx => ?_, by have := h.2; rwa [List.take_of_length_le (by simp)] at this⟩
 obtain ⟨i, hi, rfl⟩ := List.getElem_of_mem hx
 exact h.1 i hi hi
theorem not_up {α : Type} {key : α → Int} {l : List α} {j : Nat} (hj : j + 1 < l.length) (hle : key l[j + 1] ≤ key l[j]) : ¬ (l.map key).Pairwise (· < ·) :=
 not_asc (ks := l.map key) (j := j) (by simpa using hj) (by simpa using hle)
theorem hasP_iff {b : Bk} {id : Int} : hasP b id = true ↔ ∃ p ∈ b.ps, p.id = id := by simp [hasP]
/-- given good parties, the reference asks the same of an offer -/
def offOk (g : Gr) (b : Bk) (o : Ofr) : Bool := offB g o && hasP b o.party && (o.state != 1 || decide (b.round ≤ o.until_))
theorem offOk_eq {g : Gr} {b : Bk} (h : ∀ p ∈ b.ps, okP p = true) (o : Ofr) : offOk g b o = okO g b o := by
 unfold offOk okO offB
 by_cases hp : hasP b o.party = true
 ·obtain ⟨p, hm, he⟩ := hasP_iff.1 hp
  have := h p hm
  simp only [okP, Bool.and_eq_true] at this
  rw [he] at this
  rw [hp, this.1]
  simp [Bool.and_assoc]
 rw [Bool.not_eq_true] at hp
 simp [hp]
def wshOk (g : Gr) (b : Bk) (x : Wsh) : Bool := newE g x && okW b x
set_option maxHeartbeats 40000000 in
set_option maxRecDepth 100000 in
theorem valid15 {w : World} {vg vb : Value} {g : Gr} {b : Bk} (hG : GrV w vg g) (hB : BkV w vb b) (hf : Fits g b) : Calls Tryz.prog 15 #[vg, vb] w fun e w' => e = .returned (.bool (validB g b)) ∧ Gro w w' := by
 have hmix := mixed
 obtain ⟨v1, v2, v3, rfl, hg0⟩ := hG
 obtain ⟨a1, n1, rfl, l1⟩ := hg0.vs
 obtain ⟨a2, n2, rfl, l2⟩ := hg0.es
 obtain ⟨a3, n3, rfl, l3⟩ := hg0.ds
 obtain ⟨p, o, q, rfl, hp, ho, hq⟩ := hB
 obtain ⟨ap, np, rfl, lp⟩ := hp
 obtain ⟨ao, no, rfl, lo⟩ := ho
 obtain ⟨aq, mq, rfl, lq⟩ := hq
 have fp := hf.bfew.ps
 have fo := hf.bfew.os
 have fw := hf.bfew.ws
 obtain ⟨wa, hwa⟩ : ∃ wa, wa = (w.alloc (.cells #[Value.slice a1 g.vs.length n1, Value.slice a2 g.es.length n2, Value.slice a3 g.ds.length n3] 38)).alloc (.cells #[Value.int IntKind.i64 b.round, Value.slice ap b.ps.length np, Value.slice ao b.os.length no, Value.slice aq b.ws.length mq] 28) := ⟨_, rfl⟩
 have k0 : Gro w wa := by rw [hwa]; exact ((Gro.refl _).alloc _).alloc _
 have bG : wa.heap[w.heap.size]? = some (.cells #[Value.slice a1 g.vs.length n1, Value.slice a2 g.es.length n2, Value.slice a3 g.ds.length n3] 38 (0, 0)) := by rw [hwa]; exact blk_alloc (blk_new _ _) _
 have bB : wa.heap[w.heap.size + 1]? = some (.cells #[Value.int IntKind.i64 b.round, Value.slice ap b.ps.length np, Value.slice ao b.os.length no, Value.slice aq b.ws.length mq] 28 (0, 0)) := by
  rw [hwa]
  have := blk_new (w.alloc (.cells #[Value.slice a1 g.vs.length n1, Value.slice a2 g.es.length n2, Value.slice a3 g.ds.length n3] 38)) (.cells #[Value.int IntKind.i64 b.round, Value.slice ap b.ps.length np, Value.slice ao b.os.length no, Value.slice aq b.ws.length mq] 28)
  rw [asz] at this
  exact this
 have GV : ∀ W, Gro wa W → GrV W (.agg #[Value.slice a1 g.vs.length n1, Value.slice a2 g.es.length n2, Value.slice a3 g.ds.length n3]) g := fun W hW => ⟨_, _, _, rfl, hg0.gro (k0.trans hW)⟩
 have BV : ∀ W, Gro wa W → BkV W (.agg #[Value.int IntKind.i64 b.round, Value.slice ap b.ps.length np, Value.slice ao b.os.length no, Value.slice aq b.ws.length mq]) b := fun W hW => ⟨_, _, _, rfl, ⟨_, _, rfl, lp.gro (k0.trans hW)⟩, ⟨_, _, rfl, lo.gro (k0.trans hW)⟩, ⟨_, _, rfl, lq.gro (k0.trans hW)⟩⟩
 have C52 := yy (fun W hW => roads52 (GV W hW) hf.gfew)
 have C54 := yy (fun W hW x => offer54 (GV W hW) hf.gfew x)
 have C37 := yy (fun W hW hpr id => spent37 (BV W hW) hf.bfew hpr id)
 have C43 := yy (fun W hW id => find43 (GV W hW) hf.gfew id)
 have C55 := yy (fun W hW hpr x => joins55 (BV W hW) hf.bfew hpr x)
 have C57 := yy (fun W hW => build57 (GV W hW) (BV W hW) hf.gfew hf.bfew hf.v hf.e)
 have HF := yy hf
 have HW := yy hwa
 have K0 := yy k0
 have BA := yy bG
 have BX := yy bB
 have LP := yy (lp.gro k0)
 have LO := yy (lo.gro k0)
 have LQ := yy (lq.gro k0)
 have NO : Hid (¬ VB g b → validB g b = false) := yy (fun h => by rw [← Bool.not_eq_true, validB_iff]; exact h)
 clear hg0 l1 l2 l3 lp lo lq hf k0 bG bB hwa GV BV
 go_enter Tryz.func15, Tryz.ntmps15
 go_wp2_with fail
 rw [← HW.out]
 clear HW
 refine (C52.out _ (Gro.refl _)).mono ?_
 rintro e w1 ⟨rfl, k1⟩
 have q0 := blk_cell (k1.blk BX.out) 0
 simp only [lPa, lPb, lPc] at q0
 have hlX := blk_lt (k1.blk BX.out)
 have K1 := yy k1
 clear k1 C52
 cases hrd : roadsB g with
 | false =>
  have HR := yy (NO.out (fun h => by
   have := roadsB_iff.2 ⟨h.vg, h.none_⟩
   rw [hrd] at this; cases this))
  go_wp2_with fail
  go_ret
  exact ⟨by rw [HR.out]; rfl, K0.out.trans K1.out⟩
 | true =>
 have HRD := yy (roadsB_iff.1 hrd)
 clear hrd
 cases hrn : inB b.round 0 30 with
 | false =>
  have HR := yy (NO.out (fun h => by rw [h.rd] at hrn; cases hrn))
  go_wp2_with (go_at_call 53; refine (in53 _ _ _ _).mono ?_; rintro e w' ⟨rfl, rfl⟩)
  go_ret
  exact ⟨by rw [HR.out]; rfl, K0.out.trans K1.out⟩
 | true =>
 have HRN := yy hrn
 go_wp2_with (go_at_call 53; refine (in53 _ _ _ _).mono ?_; rintro e w' ⟨rfl, rfl⟩)
 clear q0 hlX hrn
 go_loopw [5] (fun t wr => ∃ k : Nat, k ≤ b.ps.length ∧ t = .int .i64 k ∧ Hid (Gro wa wr) ∧ Hid (upK Pty.id okP b.ps k)) (fun t _ => b.ps.length - (intOf t).toNat)
 case atStart => exact ⟨0, Nat.zero_le _, by go_num, K1, yy (upK_zero _ _ _)⟩
 case round =>
 refine nameGoal fun auxP auxH _ => ?_
 letI auxN : Nonempty auxP := ⟨by
  refine auxH ?_
  clear K1
  obtain ⟨k, hk, rfl, HG, HN⟩ := hrel
  have cqq := blk_cell ((HG.out).blk BX.out)
  have q1 := cqq 1
  simp only [lPa, lPb, lPc] at q1
  have hlq := blk_lt ((HG.out).blk BX.out)
  clear cqq
  by_cases hlt : k < b.ps.length
  ·obtain ⟨B, off, rfl, hb, hc⟩ := (LP.out.gro HG.out).base hlt
   obtain ⟨d0, d1⟩ := pcells hc hlt
   have hlB := World.block_lt_of_cell? _ _ d0
   have HC := yy hc
   obtain ⟨x, hx⟩ : ∃ x, x = b.ps[k] := ⟨_, rfl⟩
   rw [← hx] at d0 d1
   have HX := yy hx
   clear hx hc
   go_upto_region 6 with fail
   go_cut [67] (fun t wx => ∃ r : Bool, t = .bool r ∧ Hid (Gro wa wx) ∧ Hid (r = true → ¬ VB g b) ∧ Hid (r = false → upK Pty.id okP b.ps (k + 1)))
   case first =>
    refine nameGoal fun auxP auxH _ => ?_
    letI auxN : Nonempty auxP := ⟨by
     refine auxH ?_
     have q1 := gcell q1
     have d0 := gcell d0
     have d1 := gcell d1
     have hk0 : x.id = b.ps[k].id := by rw [HX.out]
     clear hk0
     cases i1 : inB x.id 0 9 with
     | false =>
      go_quiet_grown ((go_at_call 53; exact Calls.quiet_gro (in53g _ _ _ _)))
      have kq := gro_of_grow wr nq osq
      dsimp only at kq ⊢
      clear q1 d0 d1
      generalize Go.Sort.grow (wr.drewN nq) osq = w3 at kq ⊢
      have HG3 := yy (HG.out.trans kq)
      clear kq
      go_wp2_with fail
      go_meet
      exact ⟨true, by first | rfl | simp [*], HG3, yy (fun _ hv => by have h2 := hv.okp _ (List.getElem_mem hlt); rw [← HX.out] at h2; simp [okP, i1] at h2), yy (fun h => by cases h)⟩
     | true =>
     cases i2 : inB x.budget 0 10000 with
     | false =>
      go_quiet_grown ((go_at_call 53; exact Calls.quiet_gro (in53g _ _ _ _)))
      have kq := gro_of_grow wr nq osq
      dsimp only at kq ⊢
      clear q1 d0 d1
      generalize Go.Sort.grow (wr.drewN nq) osq = w3 at kq ⊢
      have HG3 := yy (HG.out.trans kq)
      clear kq
      go_wp2_with fail
      go_meet
      exact ⟨true, by first | rfl | simp [*], HG3, yy (fun _ hv => by have h2 := hv.okp _ (List.getElem_mem hlt); rw [← HX.out] at h2; simp [okP, i2] at h2), yy (fun h => by cases h)⟩
     | true =>
     have HOK : Hid (okP b.ps[k] = true) := yy (by rw [← HX.out]; simp [okP, i1, i2])
     rcases k with _ | j
     ·simp only [Nat.zero_mul, Nat.add_zero] at d0 d1
      go_quiet_grown ((go_at_call 53; exact Calls.quiet_gro (in53g _ _ _ _)))
      have kq := gro_of_grow wr nq osq
      dsimp only at kq ⊢
      clear q1 d0 d1
      generalize Go.Sort.grow (wr.drewN nq) osq = w3 at kq ⊢
      have HG3 := yy (HG.out.trans kq)
      clear kq
      go_wp2_with fail
      go_meet
      exact ⟨false, by first | rfl | simp [*], HG3, yy (fun h => by cases h), yy (fun _ => upK_one hlt HOK.out)⟩
     have hjl : j < b.ps.length := by omega
     obtain ⟨p0, _⟩ := pcells HC.out hjl
     have p0 := gcell p0
     obtain ⟨y, hy⟩ : ∃ y, y = b.ps[j].id := ⟨_, rfl⟩
     rw [← hy] at p0
     have HY := yy hy
     clear hy
     have hwj : IntKind.i64.wrap (j : Int) = j := by rw [IntKind.wrap_i64]; omega
     have hwj2 : ((j + 1 : Nat) : Int) - 1 = j := by omega
     have hj0 : (0 : Int) < (j : Int) + 1 := by omega
     have hj0d := decide_eq_true hj0
     have hj1 : (0 : Int) ≤ (j : Int) + 1 := by omega
     have hjI : (j : Int) + 1 < (b.ps.length : Int) := by omega
     by_cases hle : x.id ≤ y
     ·have hled := decide_eq_true hle
      go_quiet_grown ((go_at_call 53; exact Calls.quiet_gro (in53g _ _ _ _)))
      have kq := gro_of_grow wr nq osq
      dsimp only at kq ⊢
      clear q1 d0 d1 p0
      generalize Go.Sort.grow (wr.drewN nq) osq = w3 at kq ⊢
      have HG3 := yy (HG.out.trans kq)
      clear kq
      go_wp2_with fail
      go_meet
      exact ⟨true, by first | rfl | simp [*], HG3, yy (fun _ hv => not_up (key := Pty.id) (j := j) hlt (by rw [← HY.out, ← HX.out]; exact hle) hv.ap), yy (fun h => by cases h)⟩
     have hled := decide_eq_false hle
     go_quiet_grown ((go_at_call 53; exact Calls.quiet_gro (in53g _ _ _ _)))
     have kq := gro_of_grow wr nq osq
     dsimp only at kq ⊢
     clear q1 d0 d1 p0
     generalize Go.Sort.grow (wr.drewN nq) osq = w3 at kq ⊢
     have HG3 := yy (HG.out.trans kq)
     clear kq
     go_wp2_with fail
     go_meet
     exact ⟨false, by first | rfl | simp [*], HG3, yy (fun h => by cases h), yy (fun _ => upK_succ HN.out hlt HOK.out (by rw [← HY.out, ← HX.out]; omega))⟩⟩
    exact (show Nonempty auxP from inferInstanceAs (Nonempty auxP)).elim id
   case rest =>
   refine nameGoal fun auxP auxH _ => ?_
   letI auxN : Nonempty auxP := ⟨by
    refine auxH ?_
    obtain ⟨r, rfl, HG3, HBD, HGD⟩ := hcut
    cases r with
    | true =>
     have HBAD := HBD.out rfl
     have HR := yy (NO.out HBAD)
     go_wp2_with fail
     go_ret
     exact ⟨by rw [HR.out]; rfl, K0.out.trans HG3.out⟩
    | false =>
    have HN2 := yy (HGD.out rfl)
    go_wp2_with fail
    go_roundw
    case rel => first | exact ⟨k + 1, by omega, by go_num, HG3, HN2⟩ | ((repeat apply Exists.intro); exact ⟨⟨by omega, by go_num, HG3, HN2⟩, rfl⟩)
    case measure => simp [intOf]; omega⟩
   exact (show Nonempty auxP from inferInstanceAs (Nonempty auxP)).elim id
  obtain rfl : k = b.ps.length := by omega
  have HP := yy (upK_end HN.out)
  clear HN
  go_wp2_with fail
  clear q1 hlq
  go_loopw [6] (fun t wr => ∃ k : Nat, k ≤ b.os.length ∧ t = .int .i64 k ∧ Hid (Gro wa wr) ∧ Hid (upK Ofr.id (offOk g b) b.os k)) (fun t _ => b.os.length - (intOf t).toNat)
  case atStart => exact ⟨0, Nat.zero_le _, by go_num, HG, yy (upK_zero _ _ _)⟩
  case round =>
  refine nameGoal fun auxP auxH _ => ?_
  letI auxN : Nonempty auxP := ⟨by
   refine auxH ?_
   clear HG
   obtain ⟨k, hk, rfl, HG, HN⟩ := hrel
   have cqq := blk_cell ((HG.out).blk BX.out)
   have q2 := cqq 2
   simp only [lPa, lPb, lPc] at q2
   have hlq := blk_lt ((HG.out).blk BX.out)
   clear cqq
   by_cases hlt : k < b.os.length
   ·obtain ⟨B, off, rfl, hb, hc⟩ := (LO.out.gro HG.out).base hlt
    obtain ⟨d0, d1, d2, d3, d4, d5, d6⟩ := ocells hc hlt
    have hlB := World.block_lt_of_cell? _ _ d0
    have HC := yy hc
    obtain ⟨x, hx⟩ : ∃ x, x = b.os[k] := ⟨_, rfl⟩
    rw [← hx] at d0 d1 d2 d3 d4 d5 d6
    have HX := yy hx
    obtain ⟨WA, hWA⟩ : ∃ WA, WA = wr.alloc (Obj.cells #[.int .i64 x.id, .int .i64 x.party, .int .i64 x.side, .int .i64 x.place, .int .i64 x.price, .int .i64 x.until_, .int .i64 x.state] 30) := ⟨_, rfl⟩
    have kA : Gro wr WA := by rw [hWA]; exact (Gro.refl _).alloc _
    have b7 : WA.heap[wr.heap.size]? = some (.cells #[.int .i64 x.id, .int .i64 x.party, .int .i64 x.side, .int .i64 x.place, .int .i64 x.price, .int .i64 x.until_, .int .i64 x.state] 30 (0, 0)) := by rw [hWA]; exact blk_new _ _
    have HWA := yy hWA
    have KA := yy kA
    have HGA := yy (HG.out.trans kA)
    have B7 := yy b7
    clear hx hc hWA kA b7
    go_wp2_with fail
    rw [← HWA.out]
    generalize wr.heap.size = E7 at B7 ⊢
    clear HWA q2 hlq d0 d1 d2 d3 d4 d5 d6 hlB
    go_loopw [9, 8] (fun t u wx => ∃ (j : Nat) (r : Bool), j ≤ b.ps.length ∧ t = .int .i64 j ∧ u = .bool r ∧ Hid (Gro WA wx) ∧ Hid (r = (b.ps.take j).any fun p => p.id == x.party)) (fun t _ _ => b.ps.length - (intOf t).toNat)
    case atStart => exact ⟨0, false, Nat.zero_le _, by go_num, rfl, yy (Gro.refl _), yy (by simp)⟩
    case round =>
    refine nameGoal fun auxP auxH _ => ?_
    letI auxN : Nonempty auxP := ⟨by
     refine auxH ?_
     obtain ⟨j, r, hj, rfl, rfl, HGj, HRj⟩ := hrel
     have cqq := blk_cell (((HGA.out.trans HGj.out)).blk BX.out)
     have q1 := cqq 1
     simp only [lPa, lPb, lPc] at q1
     have hlq := blk_lt (((HGA.out.trans HGj.out)).blk BX.out)
     clear cqq
     by_cases hjl : j < b.ps.length
     ·have hany : (b.ps.take (j + 1)).any (fun p => p.id == x.party) = ((b.ps.take j).any (fun p => p.id == x.party) || b.ps[j].id == x.party) := by rw [take_snoc b.ps j hjl, List.any_append]; simp
      cases r with
      | true =>
       have q1 := gcell q1
       go_wp2_with fail
       go_quiet_grown (fail)
       have kq := gro_of_grow wr nq osq
       dsimp only at kq ⊢
       clear q1
       generalize Go.Sort.grow (wr.drewN nq) osq = w3 at kq ⊢
       have HG3 := yy (HGj.out.trans kq)
       clear kq
       go_wp2_with fail
       go_roundw
       case rel => exact ⟨j + 1, true, by omega, by go_num, rfl, HG3, yy (by rw [hany, ← HRj.out]; rfl)⟩
       case measure => simp [intOf]; omega
      | false =>
      obtain ⟨Bp, offp, rfl, hbp, hcp⟩ := (LP.out.gro (HGA.out.trans HGj.out)).base hjl
      obtain ⟨e0, _⟩ := pcells hcp hjl
      have hlBp := World.block_lt_of_cell? _ _ e0
      have z1 := blk_cell (HGj.out.blk B7.out) 1
      simp only [lPa, lPb, lPc] at z1
      have hlz := blk_lt (HGj.out.blk B7.out)
      obtain ⟨y, hy⟩ : ∃ y, y = b.ps[j].id := ⟨_, rfl⟩
      rw [← hy] at e0 hany
      have HANY := yy hany
      have q1 := gcell q1
      have e0 := gcell e0
      have z1 := gcell z1
      clear hy hcp hany
      go_wp2_with fail
      go_quiet_grown (fail)
      have kq := gro_of_grow wr nq osq
      dsimp only at kq ⊢
      clear q1 e0 z1
      generalize Go.Sort.grow (wr.drewN nq) osq = w3 at kq ⊢
      have HG3 := yy (HGj.out.trans kq)
      clear kq
      go_wp2_with fail
      go_roundw
      case rel => exact ⟨j + 1, (y == x.party), by omega, by go_num, rfl, HG3, yy (by rw [HANY.out, ← HRj.out]; rfl)⟩
      case measure => simp [intOf]; omega
     obtain rfl : j = b.ps.length := by omega
     have HR1 : Hid (r = hasP b x.party) := yy (by have := HRj.out; rw [List.take_length] at this; exact this)
     go_wp2_with fail
     clear HRj
     have HGw := yy (HGA.out.trans HGj.out)
     have cqq := blk_cell ((HGw.out).blk BX.out)
     have q0 := cqq 0
     have q2 := cqq 2
     simp only [lPa, lPb, lPc] at q0 q2
     have hlq := blk_lt ((HGw.out).blk BX.out)
     clear cqq
     have cqg := blk_cell ((HGw.out).blk BA.out)
     have g0 := cqg 0
     have g1 := cqg 1
     have g2 := cqg 2
     simp only [lPa, lPb, lPc] at g0 g1 g2
     have hlg := blk_lt ((HGw.out).blk BA.out)
     clear cqg
     have cqz := blk_cell ((HGj.out).blk B7.out)
     have z0 := cqz 0
     have z1 := cqz 1
     have z2 := cqz 2
     have z3 := cqz 3
     have z4 := cqz 4
     have z5 := cqz 5
     have z6 := cqz 6
     simp only [lPa, lPb, lPc] at z0 z1 z2 z3 z4 z5 z6
     have hlz := blk_lt ((HGj.out).blk B7.out)
     clear cqz
     obtain ⟨xst, hxs⟩ : ∃ s, s = x.state := ⟨_, rfl⟩
     have CX := yy (fun W hW => C54.out W hW x)
     rw [← hxs] at z6 CX
     have HXS := yy hxs
     clear hxs
     go_cut [134] (fun t wx => ∃ r : Bool, t = .bool r ∧ Hid (Gro wa wx) ∧ Hid (r = true → ¬ VB g b) ∧ Hid (r = false → upK Ofr.id (offOk g b) b.os (k + 1)))
     case first =>
      refine nameGoal fun auxP auxH _ => ?_
      letI auxN : Nonempty auxP := ⟨by
       refine auxH ?_
       have z0 := gcell z0
       have z1 := gcell z1
       have z2 := gcell z2
       have z3 := gcell z3
       have z4 := gcell z4
       have z5 := gcell z5
       have z6 := gcell z6
       have q0 := gcell q0
       have q2 := gcell q2
       have g0 := gcell g0
       have g1 := gcell g1
       have g2 := gcell g2
       have OKV : Hid (VB g b → offOk g b x = true) := yy (fun hv => by rw [offOk_eq hv.okp, HX.out]; exact hv.oko _ (List.getElem_mem hlt))
       cases o1 : offB g x with
       | false =>
        go_quiet_grown ((go_at_call 54; exact Calls.quiet_gro (CX.out _ (HGw.out.trans (gro_of_grow _ _ _)))))
        have kq := gro_of_grow wr nq osq
        dsimp only at kq ⊢
        clear z0 z1 z2 z3 z4 z5 z6 q0 q2 g0 g1 g2
        generalize Go.Sort.grow (wr.drewN nq) osq = w3 at kq ⊢
        have HG3 := yy (HGw.out.trans kq)
        clear kq
        go_wp2_with fail
        go_meet
        exact ⟨true, by first | rfl | simp [*], HG3, yy (fun _ hv => by have := OKV.out hv; simp [offOk, o1] at this), yy (fun h => by cases h)⟩
       | true =>
       cases r with
       | false =>
        go_quiet_grown ((go_at_call 54; exact Calls.quiet_gro (CX.out _ (HGw.out.trans (gro_of_grow _ _ _)))))
        have kq := gro_of_grow wr nq osq
        dsimp only at kq ⊢
        clear z0 z1 z2 z3 z4 z5 z6 q0 q2 g0 g1 g2
        generalize Go.Sort.grow (wr.drewN nq) osq = w3 at kq ⊢
        have HG3 := yy (HGw.out.trans kq)
        clear kq
        go_wp2_with fail
        go_meet
        exact ⟨true, by first | rfl | simp [*], HG3, yy (fun _ hv => by have h1 := OKV.out hv; have h2 := HR1.out; simp [offOk, ← h2] at h1), yy (fun h => by cases h)⟩
       | true =>
       rcases k with _ | j
       ·skip
        by_cases hs : xst = 1
        ·subst hs
         by_cases hu : x.until_ < b.round
         ·have hud := decide_eq_true hu
          go_quiet_grown ((go_at_call 54; exact Calls.quiet_gro (CX.out _ (HGw.out.trans (gro_of_grow _ _ _)))))
          have kq := gro_of_grow wr nq osq
          dsimp only at kq ⊢
          clear z0 z1 z2 z3 z4 z5 z6 q0 q2 g0 g1 g2
          generalize Go.Sort.grow (wr.drewN nq) osq = w3 at kq ⊢
          have HG3 := yy (HGw.out.trans kq)
          clear kq
          go_wp2_with fail
          go_meet
          exact ⟨true, by first | rfl | simp [*], HG3, yy (fun _ hv => by have h1 := OKV.out hv; have hs := HXS.out.symm; simp [offOk, hs] at h1; omega), yy (fun h => by cases h)⟩
         have hud := decide_eq_false hu
         go_quiet_grown ((go_at_call 54; exact Calls.quiet_gro (CX.out _ (HGw.out.trans (gro_of_grow _ _ _)))))
         have kq := gro_of_grow wr nq osq
         dsimp only at kq ⊢
         clear z0 z1 z2 z3 z4 z5 z6 q0 q2 g0 g1 g2
         generalize Go.Sort.grow (wr.drewN nq) osq = w3 at kq ⊢
         have HG3 := yy (HGw.out.trans kq)
         clear kq
         go_wp2_with fail
         go_meet
         exact ⟨false, by first | rfl | simp [*], HG3, yy (fun h => by cases h), yy (fun _ => upK_one hlt (by have h2 := HR1.out; have hs := HXS.out.symm; rw [← HX.out]; simp [offOk, o1, ← h2, hs]; omega))⟩
        have hsd : (xst == 1) = false := by simpa using hs
        go_quiet_grown ((go_at_call 54; exact Calls.quiet_gro (CX.out _ (HGw.out.trans (gro_of_grow _ _ _)))))
        have kq := gro_of_grow wr nq osq
        dsimp only at kq ⊢
        clear z0 z1 z2 z3 z4 z5 z6 q0 q2 g0 g1 g2
        generalize Go.Sort.grow (wr.drewN nq) osq = w3 at kq ⊢
        have HG3 := yy (HGw.out.trans kq)
        clear kq
        go_wp2_with fail
        go_meet
        exact ⟨false, by first | rfl | simp [*], HG3, yy (fun h => by cases h), yy (fun _ => upK_one hlt (by have h2 := HR1.out; rw [HXS.out] at hs; rw [← HX.out]; simp [offOk, o1, ← h2, hs]))⟩
       have hjl : j < b.os.length := by omega
       obtain ⟨Bo, offo, eo, hbo, hco⟩ := (LO.out.gro HGw.out).base hlt
       injection eo with eo
       injection eo with eo1 eo2 _
       subst eo1 eo2
       obtain ⟨p0, _, _, _, _, _, _⟩ := ocells hco hjl
       have p0 := gcell p0
       obtain ⟨y, hy⟩ : ∃ y, y = b.os[j].id := ⟨_, rfl⟩
       rw [← hy] at p0
       have HY := yy hy
       clear hy hco
       have hwj : IntKind.i64.wrap (j : Int) = j := by rw [IntKind.wrap_i64]; omega
       have hwj2 : ((j + 1 : Nat) : Int) - 1 = j := by omega
       have hj0 : (0 : Int) < (j : Int) + 1 := by omega
       have hj0d := decide_eq_true hj0
       have hj1 : (0 : Int) ≤ (j : Int) + 1 := by omega
       have hjI : (j : Int) + 1 < (b.os.length : Int) := by omega
       by_cases hle : x.id ≤ y
       ·have hled := decide_eq_true hle
        go_quiet_grown ((go_at_call 54; exact Calls.quiet_gro (CX.out _ (HGw.out.trans (gro_of_grow _ _ _)))))
        have kq := gro_of_grow wr nq osq
        dsimp only at kq ⊢
        clear z0 z1 z2 z3 z4 z5 z6 q0 q2 g0 g1 g2 p0
        generalize Go.Sort.grow (wr.drewN nq) osq = w3 at kq ⊢
        have HG3 := yy (HGw.out.trans kq)
        clear kq
        go_wp2_with fail
        go_meet
        exact ⟨true, by first | rfl | simp [*], HG3, yy (fun _ hv => not_up (key := Ofr.id) (j := j) hlt (by rw [← HY.out, ← HX.out]; exact hle) hv.ao), yy (fun h => by cases h)⟩
       have hled := decide_eq_false hle
       have HLT2 : Hid (b.os[j].id < b.os[j + 1].id) := yy (by rw [← HY.out, ← HX.out]; omega)
       by_cases hs : xst = 1
       ·subst hs
        by_cases hu : x.until_ < b.round
        ·have hud := decide_eq_true hu
         go_quiet_grown ((go_at_call 54; exact Calls.quiet_gro (CX.out _ (HGw.out.trans (gro_of_grow _ _ _)))))
         have kq := gro_of_grow wr nq osq
         dsimp only at kq ⊢
         clear z0 z1 z2 z3 z4 z5 z6 q0 q2 g0 g1 g2 p0
         generalize Go.Sort.grow (wr.drewN nq) osq = w3 at kq ⊢
         have HG3 := yy (HGw.out.trans kq)
         clear kq
         go_wp2_with fail
         go_meet
         exact ⟨true, by first | rfl | simp [*], HG3, yy (fun _ hv => by have h1 := OKV.out hv; have hs := HXS.out.symm; simp [offOk, hs] at h1; omega), yy (fun h => by cases h)⟩
        have hud := decide_eq_false hu
        go_quiet_grown ((go_at_call 54; exact Calls.quiet_gro (CX.out _ (HGw.out.trans (gro_of_grow _ _ _)))))
        have kq := gro_of_grow wr nq osq
        dsimp only at kq ⊢
        clear z0 z1 z2 z3 z4 z5 z6 q0 q2 g0 g1 g2 p0
        generalize Go.Sort.grow (wr.drewN nq) osq = w3 at kq ⊢
        have HG3 := yy (HGw.out.trans kq)
        clear kq
        go_wp2_with fail
        go_meet
        exact ⟨false, by first | rfl | simp [*], HG3, yy (fun h => by cases h), yy (fun _ => upK_succ HN.out hlt (by have h2 := HR1.out; have hs := HXS.out.symm; rw [← HX.out]; simp [offOk, o1, ← h2, hs]; omega) HLT2.out)⟩
       have hsd : (xst == 1) = false := by simpa using hs
       go_quiet_grown ((go_at_call 54; exact Calls.quiet_gro (CX.out _ (HGw.out.trans (gro_of_grow _ _ _)))))
       have kq := gro_of_grow wr nq osq
       dsimp only at kq ⊢
       clear z0 z1 z2 z3 z4 z5 z6 q0 q2 g0 g1 g2 p0
       generalize Go.Sort.grow (wr.drewN nq) osq = w3 at kq ⊢
       have HG3 := yy (HGw.out.trans kq)
       clear kq
       go_wp2_with fail
       go_meet
       exact ⟨false, by first | rfl | simp [*], HG3, yy (fun h => by cases h), yy (fun _ => upK_succ HN.out hlt (by have h2 := HR1.out; rw [HXS.out] at hs; rw [← HX.out]; simp [offOk, o1, ← h2, hs]) HLT2.out)⟩⟩
      exact (show Nonempty auxP from inferInstanceAs (Nonempty auxP)).elim id
     case rest =>
     refine nameGoal fun auxP auxH _ => ?_
     letI auxN : Nonempty auxP := ⟨by
      refine auxH ?_
      obtain ⟨r, rfl, HG3, HBD, HGD⟩ := hcut
      cases r with
      | true =>
       have HBAD := HBD.out rfl
       have HR := yy (NO.out HBAD)
       go_wp2_with fail
       go_ret
       exact ⟨by rw [HR.out]; rfl, K0.out.trans HG3.out⟩
      | false =>
      have HN2 := yy (HGD.out rfl)
      go_wp2_with fail
      go_roundw
      case rel => first | exact ⟨k + 1, by omega, by go_num, HG3, HN2⟩ | ((repeat apply Exists.intro); exact ⟨⟨by omega, by go_num, HG3, HN2⟩, rfl⟩)
      case measure => simp [intOf]; omega⟩
     exact (show Nonempty auxP from inferInstanceAs (Nonempty auxP)).elim id⟩
    exact (show Nonempty auxP from inferInstanceAs (Nonempty auxP)).elim id
   obtain rfl : k = b.os.length := by omega
   have HO : Hid ((∀ o ∈ b.os, okO g b o = true) ∧ (b.os.map Ofr.id).Pairwise (· < ·)) := yy (by
    obtain ⟨h1, h2⟩ := upK_end HN.out
    exact ⟨fun o ho => by rw [← offOk_eq HP.out.1]; exact h1 o ho, h2⟩)
   have HPR : Hid (∀ o ∈ b.os, 0 ≤ o.price ∧ o.price ≤ 1000) := yy (fun o ho => (okO_inv (HO.out.1 o ho)).2.2.2.2.2.1)
   clear HN
   go_wp2_with fail
   clear q2 hlq
   go_loopw [10] (fun t wr => ∃ k : Nat, k ≤ b.ps.length ∧ t = .int .i64 k ∧ Hid (Gro wa wr) ∧ Hid (∀ i (h : i < b.ps.length), i < k → spent b b.ps[i].id ≤ b.ps[i].budget)) (fun t _ => b.ps.length - (intOf t).toNat)
   case atStart => exact ⟨0, Nat.zero_le _, by go_num, HG, yy (fun i h hi => by omega)⟩
   case round =>
   refine nameGoal fun auxP auxH _ => ?_
   letI auxN : Nonempty auxP := ⟨by
    refine auxH ?_
    clear HG
    obtain ⟨k, hk, rfl, HG, HN⟩ := hrel
    have cqq := blk_cell ((HG.out).blk BX.out)
    have q0 := cqq 0
    have q1 := cqq 1
    have q2 := cqq 2
    have q3 := cqq 3
    simp only [lPa, lPb, lPc] at q0 q1 q2 q3
    have hlq := blk_lt ((HG.out).blk BX.out)
    clear cqq
    by_cases hlt : k < b.ps.length
    ·obtain ⟨B, off, rfl, hb, hc⟩ := (LP.out.gro HG.out).base hlt
     obtain ⟨d0, d1⟩ := pcells hc hlt
     have hlB := World.block_lt_of_cell? _ _ d0
     obtain ⟨x, hx⟩ : ∃ x, x = b.ps[k] := ⟨_, rfl⟩
     rw [← hx] at d0 d1
     have HX := yy hx
     have q0 := gcell q0
     have q1 := gcell q1
     have q2 := gcell q2
     have q3 := gcell q3
     have d0 := gcell d0
     have d1 := gcell d1
     have CS := yy (fun W hW => C37.out W hW HPR.out x.id)
     obtain ⟨sp, hsp⟩ : ∃ sp, sp = spent b x.id := ⟨_, rfl⟩
     rw [← hsp] at CS
     have HSP := yy hsp
     clear hx hc hsp
     by_cases hle : sp ≤ x.budget
     ·go_wp2_with fail
      go_quiet_grown ((go_at_call 37; exact Calls.quiet_gro (CS.out _ (HG.out.trans (gro_of_grow _ _ _)))))
      have kq := gro_of_grow wr nq osq
      dsimp only at kq ⊢
      clear q0 q1 q2 q3 d0 d1
      generalize Go.Sort.grow (wr.drewN nq) osq = w3 at kq ⊢
      have HG3 := yy (HG.out.trans kq)
      clear kq
      have HN2 : Hid (∀ i (h : i < b.ps.length), i < k + 1 → spent b b.ps[i].id ≤ b.ps[i].budget) := yy (fun i h hi => by
       by_cases e : i = k
       ·subst e; rw [← HX.out, ← HSP.out]; exact hle
       exact HN.out i h (by omega))
      go_wp2_with fail
      go_roundw
      case rel => exact ⟨k + 1, by omega, by go_num, HG3, HN2⟩
      case measure => simp [intOf]; omega
     go_wp2_with fail
     go_quiet_grown ((go_at_call 37; exact Calls.quiet_gro (CS.out _ (HG.out.trans (gro_of_grow _ _ _)))))
     have kq := gro_of_grow wr nq osq
     dsimp only at kq ⊢
     clear q0 q1 q2 q3 d0 d1
     generalize Go.Sort.grow (wr.drewN nq) osq = w3 at kq ⊢
     have HG3 := yy (HG.out.trans kq)
     clear kq
     have HBAD : ¬ VB g b := fun hv => by
      have := hv.bud _ (List.getElem_mem hlt)
      rw [← HX.out, ← HSP.out] at this
      omega
     have HR := yy (NO.out HBAD)
     go_wp2_with fail
     go_ret
     exact ⟨by rw [HR.out]; rfl, K0.out.trans HG3.out⟩
    obtain rfl : k = b.ps.length := by omega
    have HS : Hid (∀ p ∈ b.ps, spent b p.id ≤ p.budget) := yy (fun p hp => by
     obtain ⟨i, hi, rfl⟩ := List.getElem_of_mem hp
     exact HN.out i hi hi)
    clear HN
    go_wp2_with fail
    clear q0 q1 q2 q3 hlq
    go_loopw [11] (fun t wr => ∃ k : Nat, k ≤ b.ws.length ∧ t = .int .i64 k ∧ Hid (Gro wa wr) ∧ Hid (upK Wsh.edge (wshOk g b) b.ws k)) (fun t _ => b.ws.length - (intOf t).toNat)
    case atStart => exact ⟨0, Nat.zero_le _, by go_num, HG, yy (upK_zero _ _ _)⟩
    case round =>
    refine nameGoal fun auxP auxH _ => ?_
    letI auxN : Nonempty auxP := ⟨by
     refine auxH ?_
     clear HG
     obtain ⟨k, hk, rfl, HG, HN⟩ := hrel
     have cqq := blk_cell ((HG.out).blk BX.out)
     have q0 := cqq 0
     have q1 := cqq 1
     have q2 := cqq 2
     have q3 := cqq 3
     simp only [lPa, lPb, lPc] at q0 q1 q2 q3
     have hlq := blk_lt ((HG.out).blk BX.out)
     clear cqq
     by_cases hlt : k < b.ws.length
     ·obtain ⟨B, off, rfl, hb, hc⟩ := (LQ.out.gro HG.out).base hlt
      obtain ⟨d0, d1, d2, d3⟩ := wcells hc hlt
      have hlB := World.block_lt_of_cell? _ _ d0
      have HC := yy hc
      obtain ⟨x, hx⟩ : ∃ x, x = b.ws[k] := ⟨_, rfl⟩
      rw [← hx] at d0 d1 d2 d3
      have HX := yy hx
      obtain ⟨WA, hWA⟩ : ∃ WA, WA = wr.alloc (Obj.cells #[.int .i64 x.edge, .int .i64 x.src, .int .i64 x.dst, .int .i64 x.weight] 32) := ⟨_, rfl⟩
      have kA : Gro wr WA := by rw [hWA]; exact (Gro.refl _).alloc _
      have b7 : WA.heap[wr.heap.size]? = some (.cells #[.int .i64 x.edge, .int .i64 x.src, .int .i64 x.dst, .int .i64 x.weight] 32 (0, 0)) := by rw [hWA]; exact blk_new _ _
      have HWA := yy hWA
      have HGA := yy (HG.out.trans kA)
      have KA := yy kA
      have B7 := yy b7
      clear hx hc hWA kA b7
      go_wp2_with fail
      rw [← HWA.out]
      clear HWA q0 q1 q2 q3 hlq d0 d1 d2 d3
      have hE7 : wr.heap.size < WA.heap.size := blk_lt B7.out
      generalize wr.heap.size = E7 at B7 hE7 ⊢
      have cqq := blk_cell ((HGA.out).blk BX.out)
      have q0 := cqq 0
      have q1 := cqq 1
      have q2 := cqq 2
      have q3 := cqq 3
      simp only [lPa, lPb, lPc] at q0 q1 q2 q3
      have hlq := blk_lt ((HGA.out).blk BX.out)
      clear cqq
      have cqg := blk_cell ((HGA.out).blk BA.out)
      have g0 := cqg 0
      have g1 := cqg 1
      have g2 := cqg 2
      simp only [lPa, lPb, lPc] at g0 g1 g2
      have hlg := blk_lt ((HGA.out).blk BA.out)
      clear cqg
      have hlBA : B < WA.heap.size := Nat.lt_of_lt_of_le hb KA.out.size
      have cz := blk_cell B7.out
      have z0 := cz 0
      have z1 := cz 1
      have z2 := cz 2
      have z3 := cz 3
      simp only [lPa, lPb, lPc] at z0 z1 z2 z3
      clear cz
      go_cut [201] (fun t wx => ∃ r : Bool, t = .bool r ∧ Hid (Gro wa wx) ∧ Hid (r = true → ¬ VB g b) ∧ Hid (r = false → upK Wsh.edge (wshOk g b) b.ws (k + 1)))
      case first =>
       refine nameGoal fun auxP auxH _ => ?_
       letI auxN : Nonempty auxP := ⟨by
        refine auxH ?_
        have z0 := gcell z0
        have z1 := gcell z1
        have z2 := gcell z2
        have z3 := gcell z3
        have q0 := gcell q0
        have q1 := gcell q1
        have q2 := gcell q2
        have q3 := gcell q3
        have g0 := gcell g0
        have g1 := gcell g1
        have g2 := gcell g2
        have CE := yy (fun W hW => C43.out W hW x.edge)
        have CJ := yy (fun W hW => C55.out W hW HPR.out x)
        have hee : 0 ≤ fidx (g.es.map Edg.id) x.edge ↔ hasE g x.edge = true := by rw [fidx_nonneg, ← mem_hasE]; simp
        generalize fidx (g.es.map Edg.id) x.edge = fe at CE hee
        obtain ⟨jo, hjo⟩ : ∃ jo, jo = okW b x := ⟨_, rfl⟩
        rw [← hjo] at CJ
        have HJO := yy hjo
        have HEE := yy hee
        have NEW : Hid (VB g b → newE g x = true ∧ okW b x = true) := yy (fun hv => by rw [HX.out]; exact ⟨hv.new _ (List.getElem_mem hlt), hv.okw _ (List.getElem_mem hlt)⟩)
        clear hjo hee
        cases i1 : inB x.edge 0 39 with
        | false =>
         go_quiet_grown ((first | (go_at_call 53; exact Calls.quiet_gro (in53g _ _ _ _)) | (go_at_call 43; exact Calls.quiet_gro (CE.out _ (HGA.out.trans (gro_of_grow _ _ _)))) | (go_at_call 55; exact Calls.quiet_gro (CJ.out _ (HGA.out.trans (gro_of_grow _ _ _))))))
         have kq := gro_of_grow WA nq osq
         dsimp only at kq ⊢
         clear z0 z1 z2 z3 q0 q1 q2 q3 g0 g1 g2
         generalize Go.Sort.grow (WA.drewN nq) osq = w3 at kq ⊢
         have HG3 := yy (HGA.out.trans kq)
         clear kq
         go_wp2_with fail
         go_meet
         exact ⟨true, by first | rfl | simp [*], HG3, yy (fun _ hv => by have h1 := (NEW.out hv).1; simp [newE, i1] at h1), yy (fun h => by cases h)⟩
        | true =>
        by_cases hfe : 0 ≤ fe
        ·have hfed := decide_eq_true hfe
         go_quiet_grown ((first | (go_at_call 53; exact Calls.quiet_gro (in53g _ _ _ _)) | (go_at_call 43; exact Calls.quiet_gro (CE.out _ (HGA.out.trans (gro_of_grow _ _ _)))) | (go_at_call 55; exact Calls.quiet_gro (CJ.out _ (HGA.out.trans (gro_of_grow _ _ _))))))
         have kq := gro_of_grow WA nq osq
         dsimp only at kq ⊢
         clear z0 z1 z2 z3 q0 q1 q2 q3 g0 g1 g2
         generalize Go.Sort.grow (WA.drewN nq) osq = w3 at kq ⊢
         have HG3 := yy (HGA.out.trans kq)
         clear kq
         go_wp2_with fail
         go_meet
         exact ⟨true, by first | rfl | simp [*], HG3, yy (fun _ hv => by have h1 := (NEW.out hv).1; simp [newE, HEE.out.1 hfe] at h1), yy (fun h => by cases h)⟩
        have hfed := decide_eq_false hfe
        have HNE : Hid (hasE g x.edge = false) := yy (by
         rw [← Bool.not_eq_true]
         exact fun h => hfe (HEE.out.2 h))
        rcases k with _ | j
        ·skip
         cases jo with
         | false =>
          go_quiet_grown ((first | (go_at_call 53; exact Calls.quiet_gro (in53g _ _ _ _)) | (go_at_call 43; exact Calls.quiet_gro (CE.out _ (HGA.out.trans (gro_of_grow _ _ _)))) | (go_at_call 55; exact Calls.quiet_gro (CJ.out _ (HGA.out.trans (gro_of_grow _ _ _))))))
          have kq := gro_of_grow WA nq osq
          dsimp only at kq ⊢
          clear z0 z1 z2 z3 q0 q1 q2 q3 g0 g1 g2
          generalize Go.Sort.grow (WA.drewN nq) osq = w3 at kq ⊢
          have HG3 := yy (HGA.out.trans kq)
          clear kq
          go_wp2_with fail
          go_meet
          exact ⟨true, by first | rfl | simp [*], HG3, yy (fun _ hv => by have h1 := (NEW.out hv).2; rw [← HJO.out] at h1; cases h1), yy (fun h => by cases h)⟩
         | true =>
         go_quiet_grown ((first | (go_at_call 53; exact Calls.quiet_gro (in53g _ _ _ _)) | (go_at_call 43; exact Calls.quiet_gro (CE.out _ (HGA.out.trans (gro_of_grow _ _ _)))) | (go_at_call 55; exact Calls.quiet_gro (CJ.out _ (HGA.out.trans (gro_of_grow _ _ _))))))
         have kq := gro_of_grow WA nq osq
         dsimp only at kq ⊢
         clear z0 z1 z2 z3 q0 q1 q2 q3 g0 g1 g2
         generalize Go.Sort.grow (WA.drewN nq) osq = w3 at kq ⊢
         have HG3 := yy (HGA.out.trans kq)
         clear kq
         go_wp2_with fail
         go_meet
         exact ⟨false, by first | rfl | simp [*], HG3, yy (fun h => by cases h), yy (fun _ => upK_one hlt (by rw [← HX.out]; simp [wshOk, newE, i1, HNE.out, ← HJO.out]))⟩
        have hjl : j < b.ws.length := by omega
        obtain ⟨p0, _, _, _⟩ := wcells HC.out hjl
        have p0 := gcell (KA.out.cell p0)
        obtain ⟨y, hy⟩ : ∃ y, y = b.ws[j].edge := ⟨_, rfl⟩
        rw [← hy] at p0
        have HY := yy hy
        clear hy
        have hwj : IntKind.i64.wrap (j : Int) = j := by rw [IntKind.wrap_i64]; omega
        have hwj2 : ((j + 1 : Nat) : Int) - 1 = j := by omega
        have hj0 : (0 : Int) < (j : Int) + 1 := by omega
        have hj0d := decide_eq_true hj0
        have hj1 : (0 : Int) ≤ (j : Int) + 1 := by omega
        have hjI : (j : Int) + 1 < (b.ws.length : Int) := by omega
        by_cases hle : x.edge ≤ y
        ·have hled := decide_eq_true hle
         go_quiet_grown ((first | (go_at_call 53; exact Calls.quiet_gro (in53g _ _ _ _)) | (go_at_call 43; exact Calls.quiet_gro (CE.out _ (HGA.out.trans (gro_of_grow _ _ _)))) | (go_at_call 55; exact Calls.quiet_gro (CJ.out _ (HGA.out.trans (gro_of_grow _ _ _))))))
         have kq := gro_of_grow WA nq osq
         dsimp only at kq ⊢
         clear z0 z1 z2 z3 q0 q1 q2 q3 g0 g1 g2 p0
         generalize Go.Sort.grow (WA.drewN nq) osq = w3 at kq ⊢
         have HG3 := yy (HGA.out.trans kq)
         clear kq
         go_wp2_with fail
         go_meet
         exact ⟨true, by first | rfl | simp [*], HG3, yy (fun _ hv => not_up (key := Wsh.edge) (j := j) hlt (by rw [← HY.out, ← HX.out]; exact hle) hv.aw), yy (fun h => by cases h)⟩
        have hled := decide_eq_false hle
        have HLT2 : Hid (b.ws[j].edge < b.ws[j + 1].edge) := yy (by rw [← HY.out, ← HX.out]; omega)
        cases jo with
        | false =>
         go_quiet_grown ((first | (go_at_call 53; exact Calls.quiet_gro (in53g _ _ _ _)) | (go_at_call 43; exact Calls.quiet_gro (CE.out _ (HGA.out.trans (gro_of_grow _ _ _)))) | (go_at_call 55; exact Calls.quiet_gro (CJ.out _ (HGA.out.trans (gro_of_grow _ _ _))))))
         have kq := gro_of_grow WA nq osq
         dsimp only at kq ⊢
         clear z0 z1 z2 z3 q0 q1 q2 q3 g0 g1 g2 p0
         generalize Go.Sort.grow (WA.drewN nq) osq = w3 at kq ⊢
         have HG3 := yy (HGA.out.trans kq)
         clear kq
         go_wp2_with fail
         go_meet
         exact ⟨true, by first | rfl | simp [*], HG3, yy (fun _ hv => by have h1 := (NEW.out hv).2; rw [← HJO.out] at h1; cases h1), yy (fun h => by cases h)⟩
        | true =>
        go_quiet_grown ((first | (go_at_call 53; exact Calls.quiet_gro (in53g _ _ _ _)) | (go_at_call 43; exact Calls.quiet_gro (CE.out _ (HGA.out.trans (gro_of_grow _ _ _)))) | (go_at_call 55; exact Calls.quiet_gro (CJ.out _ (HGA.out.trans (gro_of_grow _ _ _))))))
        have kq := gro_of_grow WA nq osq
        dsimp only at kq ⊢
        clear z0 z1 z2 z3 q0 q1 q2 q3 g0 g1 g2 p0
        generalize Go.Sort.grow (WA.drewN nq) osq = w3 at kq ⊢
        have HG3 := yy (HGA.out.trans kq)
        clear kq
        go_wp2_with fail
        go_meet
        exact ⟨false, by first | rfl | simp [*], HG3, yy (fun h => by cases h), yy (fun _ => upK_succ HN.out hlt (by rw [← HX.out]; simp [wshOk, newE, i1, HNE.out, ← HJO.out]) HLT2.out)⟩⟩
       exact (show Nonempty auxP from inferInstanceAs (Nonempty auxP)).elim id
      case rest =>
      refine nameGoal fun auxP auxH _ => ?_
      letI auxN : Nonempty auxP := ⟨by
       refine auxH ?_
       obtain ⟨r, rfl, HG3, HBD, HGD⟩ := hcut
       cases r with
       | true =>
        have HBAD := HBD.out rfl
        have HR := yy (NO.out HBAD)
        go_wp2_with fail
        go_ret
        exact ⟨by rw [HR.out]; rfl, K0.out.trans HG3.out⟩
       | false =>
       have HN2 := yy (HGD.out rfl)
       go_wp2_with fail
       go_roundw
       case rel => first | exact ⟨k + 1, by omega, by go_num, HG3, HN2⟩ | ((repeat apply Exists.intro); exact ⟨⟨by omega, by go_num, HG3, HN2⟩, rfl⟩)
       case measure => simp [intOf]; omega⟩
      exact (show Nonempty auxP from inferInstanceAs (Nonempty auxP)).elim id
     obtain rfl : k = b.ws.length := by omega
     have HVB : Hid (VB g b) := yy (by
      obtain ⟨h1, h2⟩ := upK_end HN.out
      refine ⟨HRD.out.1, HRD.out.2, HRN.out, HP.out.1, HP.out.2, HO.out.2, HO.out.1, HS.out, h2, fun w hw => ?_, fun w hw => ?_⟩
      ·have := h1 w hw; simp only [wshOk, Bool.and_eq_true] at this; exact this.1
      have := h1 w hw; simp only [wshOk, Bool.and_eq_true] at this; exact this.2)
     clear HN
     have cqg := blk_cell ((HG.out).blk BA.out)
     have g0 := cqg 0
     have g1 := cqg 1
     have g2 := cqg 2
     simp only [lPa, lPb, lPc] at g0 g1 g2
     have hlg := blk_lt ((HG.out).blk BA.out)
     clear cqg
     go_wp2_with fail
     refine (C57.out _ HG.out).mono ?_
     rintro e w5 ⟨r1, r2, r3, rfl, hg5, k5⟩
     have hvg := valid_build HVB.out
     have HC6 := yy (valid56 (w := w5) (g := build g b) ⟨_, _, _, rfl, hg5⟩ ⟨by have := hvg.lens; omega, by have := hvg.lens; omega, by have := hvg.lens; omega⟩)
     rw [validG_iff.2 hvg] at HC6
     have K5 := yy (HG.out.trans k5)
     have HTR := yy HVB.out.true
     obtain ⟨s1, m1, rfl, _⟩ := hg5.vs
     obtain ⟨s2, m2, rfl, _⟩ := hg5.es
     obtain ⟨s3, m3, rfl, _⟩ := hg5.ds
     clear hg5 k5 hvg
     go_wp2_with fail
     refine HC6.out.mono ?_
     rintro e w6 ⟨rfl, k6⟩
     have K6 := yy (K5.out.trans k6)
     clear k6 HC6
     go_wp2_with fail
     go_ret
     exact ⟨by rw [HTR.out]; rfl, K0.out.trans K6.out⟩⟩
    exact (show Nonempty auxP from inferInstanceAs (Nonempty auxP)).elim id⟩
   exact (show Nonempty auxP from inferInstanceAs (Nonempty auxP)).elim id⟩
  exact (show Nonempty auxP from inferInstanceAs (Nonempty auxP)).elim id⟩
 exact (show Nonempty auxP from inferInstanceAs (Nonempty auxP)).elim id
end Go.Proofs.YthfagcdjbmhhcaaGreat
