/- the reference: SameEdges, Ints. -/
import Derived.Test.YthfagcdjbmhhcaaGreatK10
set_option linter.unusedVariables false
set_option linter.unusedSimpArgs false
namespace Go.Proofs.YthfagcdjbmhhcaaGreat
open Go.RowKit
attribute [local irreducible] wpQuiet
set_option maxHeartbeats 2000000 in
set_option maxRecDepth 100000 in
theorem edges38 {w : World} {v1 v2 : Value} {xs ys : List Edg} (h1 : LV w v1 xs) (h2 : LV w v2 ys) : Calls Tryz.prog 38 #[v1, v2] w fun e w' => e = .returned (.bool (decide (xs = ys))) ∧ Gro w w' := by
 obtain ⟨a, n, rfl, hl⟩ := h1
 obtain ⟨a', n', rfl, hl'⟩ := h2
 have hbig := hl.big
 have HA := yy hl
 have HB := yy hl'
 clear hl hl'
 by_cases hlen : xs.length = ys.length
 ·have hlenI : (xs.length : Int) = (ys.length : Int) := by omega
  have HLen := yy hlen
  clear hlen
  have hne : ¬ ((xs.length : Int) ≠ (ys.length : Int)) := by omega
  rw [← HLen.out]
  clear hlenI hne
  go_enter Tryz.func38, Tryz.ntmps38
  go_wp2
  go_loopw [5] (fun t wr => ∃ k : Nat, k ≤ xs.length ∧ t = .int .i64 k ∧ Gro w wr ∧ ∀ j (h : j < xs.length) (h' : j < ys.length), j < k → xs[j] = ys[j]) (fun t _ => xs.length - (intOf t).toNat)
  case atStart => exact ⟨0, Nat.zero_le _, by go_num, Gro.refl _, fun j _ _ h => by omega⟩
  case round =>
  obtain ⟨k, hk, rfl, hg, hall⟩ := hrel
  have HG := yy hg
  have HL := yy hall
  clear hg hall
  by_cases hlt : k < xs.length
  ·have hlt' : k < ys.length := by have := HLen.out; omega
   obtain ⟨b, off, rfl, hb, hc⟩ := (HA.out.gro HG.out).base hlt
   obtain ⟨c0, c1, c2, c3, c4, c5⟩ := ecells hc hlt
   obtain ⟨b', off', rfl, hb', hc'⟩ := (HB.out.gro HG.out).base hlt'
   obtain ⟨d0, d1, d2, d3, d4, d5⟩ := ecells hc' hlt'
   have e0 := gcell c0; have g0 := gcell d0
   have e1 := gcell c1; have g1 := gcell d1
   have e2 := gcell c2; have g2 := gcell d2
   have e3 := gcell c3; have g3 := gcell d3
   have e4 := gcell c4; have g4 := gcell d4
   have e5 := gcell c5; have g5 := gcell d5
   clear c0 c1 c2 c3 c4 c5 d0 d1 d2 d3 d4 d5 hc hc'
   have heq := eqin69 xs[k] ys[k]
   have hX : Hid (decide (xs[k] = ys[k]) = decide (xs[k] = ys[k])) := yy rfl
   generalize hx : xs[k] = x at e0 e1 e2 e3 e4 e5 heq
   generalize hy : ys[k] = y at g0 g1 g2 g3 g4 g5 heq
   have HX := yy hx
   have HY := yy hy
   clear hx hy hX
   have hmix := mixed
   have hgd : Tryz.prog.eqGuardType Tryz.prog.depth 69 = false := by kernel_rfl
   by_cases hxy : x = y
   ·rw [decide_eq_true hxy] at heq
    have HXY := yy hxy
    clear hxy
    go_wp2_with fail
    go_quiet_grown (fail)
    go_wp2
    go_roundw
    case rel => exact ⟨k + 1, by omega, by go_num, HG.out.trans (gro_of_grow _ _ _), fun j h h' hj => by
     by_cases e : j = k
     ·subst e; rw [HX.out, HY.out]; exact HXY.out
     exact HL.out j h h' (by omega)⟩
    case measure => simp [intOf]; omega
   rw [decide_eq_false hxy] at heq
   have hr : decide (xs = ys) = false := decide_eq_false fun h => by
    subst h
    exact hxy (by rw [← HX.out, ← HY.out])
   have HR := yy hr
   clear hxy hr
   go_wp2_with fail
   go_quiet_grown (fail)
   go_wp2
   go_ret
   exact ⟨by rw [HR.out]; rfl, HG.out.trans (gro_of_grow _ _ _)⟩
  have hr : decide (xs = ys) = true := decide_eq_true (List.ext_getElem HLen.out (fun j h h' => HL.out j h h' (by omega)))
  have HR := yy hr
  clear hr
  go_wp2
  go_ret
  exact ⟨by rw [HR.out]; rfl, HG.out⟩
 have hlenI : ¬ ((xs.length : Int) = (ys.length : Int)) := by omega
 have hr : decide (xs = ys) = false := decide_eq_false fun h => hlen (by rw [h])
 have HR := yy hr
 clear hr
 go_enter Tryz.func38, Tryz.ntmps38
 go_wp2
 go_ret
 exact ⟨by rw [HR.out]; rfl, Gro.refl _⟩
set_option maxHeartbeats 2000000 in
set_option maxRecDepth 100000 in
theorem ints42 {w : World} {v1 v2 : Value} {xs ys : List Int} (h1 : LV w v1 xs) (h2 : LV w v2 ys) : Calls Tryz.prog 42 #[v1, v2] w fun e w' => e = .returned (.bool (decide (xs = ys))) ∧ Gro w w' := by
 obtain ⟨a, n, rfl, hl⟩ := h1
 obtain ⟨a', n', rfl, hl'⟩ := h2
 have hbig := hl.big
 have HA := yy hl
 have HB := yy hl'
 clear hl hl'
 by_cases hlen : xs.length = ys.length
 ·have hlenI : (xs.length : Int) = (ys.length : Int) := by omega
  have HLen := yy hlen
  clear hlen
  have hne : ¬ ((xs.length : Int) ≠ (ys.length : Int)) := by omega
  rw [← HLen.out]
  clear hlenI hne
  go_enter Tryz.func42, Tryz.ntmps42
  go_wp2
  go_loopw [5] (fun t wr => ∃ k : Nat, k ≤ xs.length ∧ t = .int .i64 k ∧ Gro w wr ∧ ∀ j (h : j < xs.length) (h' : j < ys.length), j < k → xs[j] = ys[j]) (fun t _ => xs.length - (intOf t).toNat)
  case atStart => exact ⟨0, Nat.zero_le _, by go_num, Gro.refl _, fun j _ _ h => by omega⟩
  case round =>
  obtain ⟨k, hk, rfl, hg, hall⟩ := hrel
  have HG := yy hg
  have HL := yy hall
  clear hg hall
  by_cases hlt : k < xs.length
  ·have hlt' : k < ys.length := by have := HLen.out; omega
   obtain ⟨b, off, rfl, hb, hc⟩ := (HA.out.gro HG.out).base hlt
   have c0 := icells hc hlt
   obtain ⟨b', off', rfl, hb', hc'⟩ := (HB.out.gro HG.out).base hlt'
   have d0 := icells hc' hlt'
   have e0 := gcell c0; have g0 := gcell d0
   clear c0 d0 hc hc'
   have hX : Hid (decide (xs[k] = ys[k]) = decide (xs[k] = ys[k])) := yy rfl
   generalize hx : xs[k] = x at e0
   generalize hy : ys[k] = y at g0
   have HX := yy hx
   have HY := yy hy
   clear hx hy hX
   have hmix := mixed
   by_cases hxy : x = y
   ·have HXY := yy hxy
    have hn : (x != y) = false := by simpa using hxy
    clear hxy
    go_wp2_with fail
    go_quiet_grown (fail)
    go_wp2
    go_roundw
    case rel => exact ⟨k + 1, by omega, by go_num, HG.out.trans (gro_of_grow _ _ _), fun j h h' hj => by
     by_cases e : j = k
     ·subst e; rw [HX.out, HY.out]; exact HXY.out
     exact HL.out j h h' (by omega)⟩
    case measure => simp [intOf]; omega
   have hn : (x != y) = true := by simpa using hxy
   have hr : decide (xs = ys) = false := decide_eq_false fun h => by
    subst h
    exact hxy (by rw [← HX.out, ← HY.out])
   have HR := yy hr
   clear hxy hr
   go_wp2_with fail
   go_quiet_grown (fail)
   go_wp2
   go_ret
   exact ⟨by rw [HR.out]; rfl, HG.out.trans (gro_of_grow _ _ _)⟩
  have hr : decide (xs = ys) = true := decide_eq_true (List.ext_getElem HLen.out (fun j h h' => HL.out j h h' (by omega)))
  have HR := yy hr
  clear hr
  go_wp2
  go_ret
  exact ⟨by rw [HR.out]; rfl, HG.out⟩
 have hlenI : ¬ ((xs.length : Int) = (ys.length : Int)) := by omega
 have hr : decide (xs = ys) = false := decide_eq_false fun h => hlen (by rw [h])
 have HR := yy hr
 clear hr
 go_enter Tryz.func42, Tryz.ntmps42
 go_wp2
 go_ret
 exact ⟨by rw [HR.out]; rfl, Gro.refl _⟩
end Go.Proofs.YthfagcdjbmhhcaaGreat
