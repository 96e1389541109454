/- slices.IndexFunc, slices.ContainsFunc, and whether something is true of all elements. graph.Valid. Rows that are owned: append, and copies of several cells an element. -/
import Derived.Test.YthfagcdjbmhhcaaGreatK03
import Derived.Test.YthfagcdjbmhhcaaGreatK01
import Derived.Laws.CopyRow
import Derived.Lib.AppendZeros
import Derived.Lib.Overlaps
set_option linter.unusedVariables false
set_option linter.unusedSimpArgs false
namespace Go.Proofs.YthfagcdjbmhhcaaGreat
open Go.RowKit
attribute [local irreducible] wpQuiet
def idxOf {α : Type} (p : α → Bool) (zs : List α) : Int := match zs.findIdx? p with | none => -1 | some i => (i : Int)
theorem idxOf_hit {α : Type} (p : α → Bool) (zs : List α) (k : Nat) (h : k < zs.length) (hp : p zs[k] = true) (hn : ∀ j (h : j < zs.length), j < k → p zs[j] = false) : idxOf p zs = k := by
 have : zs.findIdx? p = some k := by
  rw [List.findIdx?_eq_some_iff_getElem]
  exact ⟨h, hp, fun j hj => by rw [hn j (by omega) hj]; simp⟩
 simp [idxOf, this]
theorem idxOf_none {α : Type} (p : α → Bool) (zs : List α) (hn : ∀ j (h : j < zs.length), p zs[j] = false) : idxOf p zs = -1 := by
 have : zs.findIdx? p = none := by
  rw [List.findIdx?_eq_none_iff]
  intro x hx
  obtain ⟨j, hj, rfl⟩ := List.getElem_of_mem hx
  exact hn j hj
 simp [idxOf, this]
theorem idxOf_any {α : Type} (p : α → Bool) (zs : List α) : decide (0 ≤ idxOf p zs) = zs.any p := by
 unfold idxOf
 cases h : zs.findIdx? p with
 | none =>
  have := List.findIdx?_eq_none_iff.1 h
  have h2 : zs.any p = false := by rw [List.any_eq_false]; intro x hx; rw [this x hx]; simp
  rw [h2]; rfl
 | some i =>
 obtain ⟨h1, h2, _⟩ := List.findIdx?_eq_some_iff_getElem.1 h
 have h3 : zs.any p = true := List.any_eq_true.2 ⟨_, List.getElem_mem h1, h2⟩
 rw [h3]; simp
set_option maxHeartbeats 2000000 in
theorem idx135 {w : World} {a : Option Addr} {n c : Nat} {l : List Vtx} (h : Lst w a n c l) (p : Vtx → Bool) (g : Nat) (cb : Array Value)
  (eg : ∀ args w, (callFunc g args).run Tryz.prog w = .ok (.enter g args) w)
  (hp : ∀ (W : World) (x : Vtx), Gro w W → x ∈ l → Calls Tryz.prog g (#[.agg #[.int .i64 x.id, .int .i64 x.side]] ++ cb) W fun e w' => e = .returned (.bool (p x)) ∧ Gro W w') :
  Calls Tryz.prog 135 #[.slice a n c, .func (.func g) #[] cb] w fun e w' => e = .returned (.int .i64 (idxOf p l)) ∧ Gro w w' := by
 obtain ⟨rfl, hcap, hbig, hat⟩ := h
 have HA := yy hat
 have HP := yy hp
 clear hat hp
 go_enter Tryz.func135, Tryz.ntmps135
 go_wp2
 go_loopw [8] (fun t wr => ∃ k : Nat, k ≤ l.length ∧ t = .int .i64 k ∧ Gro w wr ∧ ∀ j (h : j < l.length), j < k → p l[j] = false) (fun t _ => l.length - (intOf t).toNat)
 case atStart => exact ⟨0, Nat.zero_le _, by go_num, Kept.refl _ _, fun j _ h => by omega⟩
 case round =>
  obtain ⟨k, hk, rfl, hg, hno⟩ := hrel
  have HG := yy hg
  have HN := yy hno
  clear hg hno
  by_cases hlt : k < l.length
  ·obtain ⟨b, off, rfl, hb, hc⟩ := Lst.base ⟨rfl, hcap, hbig, HA.out⟩ hlt
   have hc' := fun i v hv => HG.out.cell (hc i v hv)
   obtain ⟨c0, c1⟩ := vcells hc' hlt
   have HC := yy hc
   clear hc hc'
   generalize hy : l[k] = y at c0 c1
   have HY := yy hy
   clear hy
   have hq := HP.out wr y HG.out (by rw [← HY.out]; exact List.getElem_mem hlt)
   have HQ := yy hq
   clear hq
   cases hpk : p y with
   | true =>
    have hi : idxOf p l = k := idxOf_hit p l k hlt (by rw [HY.out]; exact hpk) HN.out
    have HI := yy hi
    rw [hpk] at HQ
    clear hi hpk
    go_wp2_with (go_at_fn g; refine HQ.out.mono ?_; rintro e w' ⟨rfl, hgw⟩; have HGW := yy hgw; clear hgw)
    go_ret
    exact ⟨by rw [HI.out]; rfl, HG.out.trans HGW.out⟩
   | false =>
    rw [hpk] at HQ
    have HPk := yy hpk
    clear hpk
    go_wp2_with (go_at_fn g; refine HQ.out.mono ?_; rintro e w' ⟨rfl, hgw⟩; have HGW := yy hgw; clear hgw)
    go_roundw
    case rel => exact ⟨k + 1, by omega, by go_num, HG.out.trans HGW.out, fun j h hj => by
     by_cases e : j = k
     ·subst e; rw [HY.out]; exact HPk.out
     ·exact HN.out j h (by omega)⟩
    case measure => simp [intOf]; omega
  ·have hi : idxOf p l = -1 := idxOf_none p l (fun j h => HN.out j h (by omega))
   have HI := yy hi
   clear hi
   go_wp2
   go_ret
   exact ⟨by rw [HI.out]; rfl, HG.out⟩
set_option maxHeartbeats 2000000 in
theorem idx136 {w : World} {a : Option Addr} {n c : Nat} {l : List Edg} (h : Lst w a n c l) (p : Edg → Bool) (g : Nat) (cb : Array Value)
  (eg : ∀ args w, (callFunc g args).run Tryz.prog w = .ok (.enter g args) w)
  (hp : ∀ (W : World) (x : Edg), Gro w W → x ∈ l → Calls Tryz.prog g (#[.agg #[.int .i64 x.id, .int .i64 x.src, .int .i64 x.dst, .bool x.dir, .int .i64 x.weight, .int .i64 x.cap]] ++ cb) W fun e w' => e = .returned (.bool (p x)) ∧ Gro W w') :
  Calls Tryz.prog 136 #[.slice a n c, .func (.func g) #[] cb] w fun e w' => e = .returned (.int .i64 (idxOf p l)) ∧ Gro w w' := by
 obtain ⟨rfl, hcap, hbig, hat⟩ := h
 have HA := yy hat
 have HP := yy hp
 clear hat hp
 go_enter Tryz.func136, Tryz.ntmps136
 go_wp2
 go_loopw [8] (fun t wr => ∃ k : Nat, k ≤ l.length ∧ t = .int .i64 k ∧ Gro w wr ∧ ∀ j (h : j < l.length), j < k → p l[j] = false) (fun t _ => l.length - (intOf t).toNat)
 case atStart => exact ⟨0, Nat.zero_le _, by go_num, Kept.refl _ _, fun j _ h => by omega⟩
 case round =>
  obtain ⟨k, hk, rfl, hg, hno⟩ := hrel
  have HG := yy hg
  have HN := yy hno
  clear hg hno
  by_cases hlt : k < l.length
  ·obtain ⟨b, off, rfl, hb, hc⟩ := Lst.base ⟨rfl, hcap, hbig, HA.out⟩ hlt
   have hc' := fun i v hv => HG.out.cell (hc i v hv)
   obtain ⟨c0, c1, c2, c3, c4, c5⟩ := ecells hc' hlt
   have HC := yy hc
   clear hc hc'
   generalize hy : l[k] = y at c0 c1 c2 c3 c4 c5
   have HY := yy hy
   clear hy
   have hq := HP.out wr y HG.out (by rw [← HY.out]; exact List.getElem_mem hlt)
   have HQ := yy hq
   clear hq
   cases hpk : p y with
   | true =>
    have hi : idxOf p l = k := idxOf_hit p l k hlt (by rw [HY.out]; exact hpk) HN.out
    have HI := yy hi
    rw [hpk] at HQ
    clear hi hpk
    go_wp2_with (go_at_fn g; refine HQ.out.mono ?_; rintro e w' ⟨rfl, hgw⟩; have HGW := yy hgw; clear hgw)
    go_ret
    exact ⟨by rw [HI.out]; rfl, HG.out.trans HGW.out⟩
   | false =>
    rw [hpk] at HQ
    have HPk := yy hpk
    clear hpk
    go_wp2_with (go_at_fn g; refine HQ.out.mono ?_; rintro e w' ⟨rfl, hgw⟩; have HGW := yy hgw; clear hgw)
    go_roundw
    case rel => exact ⟨k + 1, by omega, by go_num, HG.out.trans HGW.out, fun j h hj => by
     by_cases e : j = k
     ·subst e; rw [HY.out]; exact HPk.out
     ·exact HN.out j h (by omega)⟩
    case measure => simp [intOf]; omega
  ·have hi : idxOf p l = -1 := idxOf_none p l (fun j h => HN.out j h (by omega))
   have HI := yy hi
   clear hi
   go_wp2
   go_ret
   exact ⟨by rw [HI.out]; rfl, HG.out⟩
set_option maxHeartbeats 2000000 in
theorem idx181 {w : World} {a : Option Addr} {n c : Nat} {l : List Int} (h : Lst w a n c l) (p : Int → Bool) (g : Nat) (cb : Array Value)
  (eg : ∀ args w, (callFunc g args).run Tryz.prog w = .ok (.enter g args) w)
  (hp : ∀ (W : World) (x : Int), Gro w W → x ∈ l → Calls Tryz.prog g (#[.int .i64 x] ++ cb) W fun e w' => e = .returned (.bool (p x)) ∧ Gro W w') :
  Calls Tryz.prog 181 #[.slice a n c, .func (.func g) #[] cb] w fun e w' => e = .returned (.int .i64 (idxOf p l)) ∧ Gro w w' := by
 obtain ⟨rfl, hcap, hbig, hat⟩ := h
 have HA := yy hat
 have HP := yy hp
 clear hat hp
 go_enter Tryz.func181, Tryz.ntmps181
 go_wp2
 go_loopw [8] (fun t wr => ∃ k : Nat, k ≤ l.length ∧ t = .int .i64 k ∧ Gro w wr ∧ ∀ j (h : j < l.length), j < k → p l[j] = false) (fun t _ => l.length - (intOf t).toNat)
 case atStart => exact ⟨0, Nat.zero_le _, by go_num, Kept.refl _ _, fun j _ h => by omega⟩
 case round =>
  obtain ⟨k, hk, rfl, hg, hno⟩ := hrel
  have HG := yy hg
  have HN := yy hno
  clear hg hno
  by_cases hlt : k < l.length
  ·obtain ⟨b, off, rfl, hb, hc⟩ := Lst.base ⟨rfl, hcap, hbig, HA.out⟩ hlt
   have hc' := fun i v hv => HG.out.cell (hc i v hv)
   obtain c0 := icells hc' hlt
   have HC := yy hc
   clear hc hc'
   generalize hy : l[k] = y at c0
   have HY := yy hy
   clear hy
   have hq := HP.out wr y HG.out (by rw [← HY.out]; exact List.getElem_mem hlt)
   have HQ := yy hq
   clear hq
   cases hpk : p y with
   | true =>
    have hi : idxOf p l = k := idxOf_hit p l k hlt (by rw [HY.out]; exact hpk) HN.out
    have HI := yy hi
    rw [hpk] at HQ
    clear hi hpk
    go_wp2_with (go_at_fn g; refine HQ.out.mono ?_; rintro e w' ⟨rfl, hgw⟩; have HGW := yy hgw; clear hgw)
    go_ret
    exact ⟨by rw [HI.out]; rfl, HG.out.trans HGW.out⟩
   | false =>
    rw [hpk] at HQ
    have HPk := yy hpk
    clear hpk
    go_wp2_with (go_at_fn g; refine HQ.out.mono ?_; rintro e w' ⟨rfl, hgw⟩; have HGW := yy hgw; clear hgw)
    go_roundw
    case rel => exact ⟨k + 1, by omega, by go_num, HG.out.trans HGW.out, fun j h hj => by
     by_cases e : j = k
     ·subst e; rw [HY.out]; exact HPk.out
     ·exact HN.out j h (by omega)⟩
    case measure => simp [intOf]; omega
  ·have hi : idxOf p l = -1 := idxOf_none p l (fun j h => HN.out j h (by omega))
   have HI := yy hi
   clear hi
   go_wp2
   go_ret
   exact ⟨by rw [HI.out]; rfl, HG.out⟩
set_option maxHeartbeats 2000000 in
theorem idx170 {w : World} {a : Option Addr} {n c : Nat} {l : List Wsh} (h : Lst w a n c l) (p : Wsh → Bool) (g : Nat) (cb : Array Value)
  (eg : ∀ args w, (callFunc g args).run Tryz.prog w = .ok (.enter g args) w)
  (hp : ∀ (W : World) (x : Wsh), Gro w W → x ∈ l → Calls Tryz.prog g (#[.agg #[.int .i64 x.edge, .int .i64 x.src, .int .i64 x.dst, .int .i64 x.weight]] ++ cb) W fun e w' => e = .returned (.bool (p x)) ∧ Gro W w') :
  Calls Tryz.prog 170 #[.slice a n c, .func (.func g) #[] cb] w fun e w' => e = .returned (.int .i64 (idxOf p l)) ∧ Gro w w' := by
 obtain ⟨rfl, hcap, hbig, hat⟩ := h
 have HA := yy hat
 have HP := yy hp
 clear hat hp
 go_enter Tryz.func170, Tryz.ntmps170
 go_wp2
 go_loopw [8] (fun t wr => ∃ k : Nat, k ≤ l.length ∧ t = .int .i64 k ∧ Gro w wr ∧ ∀ j (h : j < l.length), j < k → p l[j] = false) (fun t _ => l.length - (intOf t).toNat)
 case atStart => exact ⟨0, Nat.zero_le _, by go_num, Kept.refl _ _, fun j _ h => by omega⟩
 case round =>
  obtain ⟨k, hk, rfl, hg, hno⟩ := hrel
  have HG := yy hg
  have HN := yy hno
  clear hg hno
  by_cases hlt : k < l.length
  ·obtain ⟨b, off, rfl, hb, hc⟩ := Lst.base ⟨rfl, hcap, hbig, HA.out⟩ hlt
   have hc' := fun i v hv => HG.out.cell (hc i v hv)
   obtain ⟨c0, c1, c2, c3⟩ := wcells hc' hlt
   have HC := yy hc
   clear hc hc'
   generalize hy : l[k] = y at c0 c1 c2 c3
   have HY := yy hy
   clear hy
   have hq := HP.out wr y HG.out (by rw [← HY.out]; exact List.getElem_mem hlt)
   have HQ := yy hq
   clear hq
   cases hpk : p y with
   | true =>
    have hi : idxOf p l = k := idxOf_hit p l k hlt (by rw [HY.out]; exact hpk) HN.out
    have HI := yy hi
    rw [hpk] at HQ
    clear hi hpk
    go_wp2_with (go_at_fn g; refine HQ.out.mono ?_; rintro e w' ⟨rfl, hgw⟩; have HGW := yy hgw; clear hgw)
    go_ret
    exact ⟨by rw [HI.out]; rfl, HG.out.trans HGW.out⟩
   | false =>
    rw [hpk] at HQ
    have HPk := yy hpk
    clear hpk
    go_wp2_with (go_at_fn g; refine HQ.out.mono ?_; rintro e w' ⟨rfl, hgw⟩; have HGW := yy hgw; clear hgw)
    go_roundw
    case rel => exact ⟨k + 1, by omega, by go_num, HG.out.trans HGW.out, fun j h hj => by
     by_cases e : j = k
     ·subst e; rw [HY.out]; exact HPk.out
     ·exact HN.out j h (by omega)⟩
    case measure => simp [intOf]; omega
  ·have hi : idxOf p l = -1 := idxOf_none p l (fun j h => HN.out j h (by omega))
   have HI := yy hi
   clear hi
   go_wp2
   go_ret
   exact ⟨by rw [HI.out]; rfl, HG.out⟩
set_option maxHeartbeats 2000000 in
theorem idx218 {w : World} {a : Option Addr} {n c : Nat} {l : List Pty} (h : Lst w a n c l) (p : Pty → Bool) (g : Nat) (cb : Array Value)
  (eg : ∀ args w, (callFunc g args).run Tryz.prog w = .ok (.enter g args) w)
  (hp : ∀ (W : World) (x : Pty), Gro w W → x ∈ l → Calls Tryz.prog g (#[.agg #[.int .i64 x.id, .int .i64 x.budget]] ++ cb) W fun e w' => e = .returned (.bool (p x)) ∧ Gro W w') :
  Calls Tryz.prog 218 #[.slice a n c, .func (.func g) #[] cb] w fun e w' => e = .returned (.int .i64 (idxOf p l)) ∧ Gro w w' := by
 obtain ⟨rfl, hcap, hbig, hat⟩ := h
 have HA := yy hat
 have HP := yy hp
 clear hat hp
 go_enter Tryz.func218, Tryz.ntmps218
 go_wp2
 go_loopw [8] (fun t wr => ∃ k : Nat, k ≤ l.length ∧ t = .int .i64 k ∧ Gro w wr ∧ ∀ j (h : j < l.length), j < k → p l[j] = false) (fun t _ => l.length - (intOf t).toNat)
 case atStart => exact ⟨0, Nat.zero_le _, by go_num, Kept.refl _ _, fun j _ h => by omega⟩
 case round =>
  obtain ⟨k, hk, rfl, hg, hno⟩ := hrel
  have HG := yy hg
  have HN := yy hno
  clear hg hno
  by_cases hlt : k < l.length
  ·obtain ⟨b, off, rfl, hb, hc⟩ := Lst.base ⟨rfl, hcap, hbig, HA.out⟩ hlt
   have hc' := fun i v hv => HG.out.cell (hc i v hv)
   obtain ⟨c0, c1⟩ := pcells hc' hlt
   have HC := yy hc
   clear hc hc'
   generalize hy : l[k] = y at c0 c1
   have HY := yy hy
   clear hy
   have hq := HP.out wr y HG.out (by rw [← HY.out]; exact List.getElem_mem hlt)
   have HQ := yy hq
   clear hq
   cases hpk : p y with
   | true =>
    have hi : idxOf p l = k := idxOf_hit p l k hlt (by rw [HY.out]; exact hpk) HN.out
    have HI := yy hi
    rw [hpk] at HQ
    clear hi hpk
    go_wp2_with (go_at_fn g; refine HQ.out.mono ?_; rintro e w' ⟨rfl, hgw⟩; have HGW := yy hgw; clear hgw)
    go_ret
    exact ⟨by rw [HI.out]; rfl, HG.out.trans HGW.out⟩
   | false =>
    rw [hpk] at HQ
    have HPk := yy hpk
    clear hpk
    go_wp2_with (go_at_fn g; refine HQ.out.mono ?_; rintro e w' ⟨rfl, hgw⟩; have HGW := yy hgw; clear hgw)
    go_roundw
    case rel => exact ⟨k + 1, by omega, by go_num, HG.out.trans HGW.out, fun j h hj => by
     by_cases e : j = k
     ·subst e; rw [HY.out]; exact HPk.out
     ·exact HN.out j h (by omega)⟩
    case measure => simp [intOf]; omega
  ·have hi : idxOf p l = -1 := idxOf_none p l (fun j h => HN.out j h (by omega))
   have HI := yy hi
   clear hi
   go_wp2
   go_ret
   exact ⟨by rw [HI.out]; rfl, HG.out⟩
set_option maxHeartbeats 2000000 in
theorem idx219 {w : World} {a : Option Addr} {n c : Nat} {l : List Ofr} (h : Lst w a n c l) (p : Ofr → Bool) (g : Nat) (cb : Array Value)
  (eg : ∀ args w, (callFunc g args).run Tryz.prog w = .ok (.enter g args) w)
  (hp : ∀ (W : World) (x : Ofr), Gro w W → x ∈ l → Calls Tryz.prog g (#[.agg #[.int .i64 x.id, .int .i64 x.party, .int .i64 x.side, .int .i64 x.place, .int .i64 x.price, .int .i64 x.until_, .int .i64 x.state]] ++ cb) W fun e w' => e = .returned (.bool (p x)) ∧ Gro W w') :
  Calls Tryz.prog 219 #[.slice a n c, .func (.func g) #[] cb] w fun e w' => e = .returned (.int .i64 (idxOf p l)) ∧ Gro w w' := by
 obtain ⟨rfl, hcap, hbig, hat⟩ := h
 have HA := yy hat
 have HP := yy hp
 clear hat hp
 go_enter Tryz.func219, Tryz.ntmps219
 go_wp2
 go_loopw [8] (fun t wr => ∃ k : Nat, k ≤ l.length ∧ t = .int .i64 k ∧ Gro w wr ∧ ∀ j (h : j < l.length), j < k → p l[j] = false) (fun t _ => l.length - (intOf t).toNat)
 case atStart => exact ⟨0, Nat.zero_le _, by go_num, Kept.refl _ _, fun j _ h => by omega⟩
 case round =>
  obtain ⟨k, hk, rfl, hg, hno⟩ := hrel
  have HG := yy hg
  have HN := yy hno
  clear hg hno
  by_cases hlt : k < l.length
  ·obtain ⟨b, off, rfl, hb, hc⟩ := Lst.base ⟨rfl, hcap, hbig, HA.out⟩ hlt
   have hc' := fun i v hv => HG.out.cell (hc i v hv)
   obtain ⟨c0, c1, c2, c3, c4, c5, c6⟩ := ocells hc' hlt
   have HC := yy hc
   clear hc hc'
   generalize hy : l[k] = y at c0 c1 c2 c3 c4 c5 c6
   have HY := yy hy
   clear hy
   have hq := HP.out wr y HG.out (by rw [← HY.out]; exact List.getElem_mem hlt)
   have HQ := yy hq
   clear hq
   cases hpk : p y with
   | true =>
    have hi : idxOf p l = k := idxOf_hit p l k hlt (by rw [HY.out]; exact hpk) HN.out
    have HI := yy hi
    rw [hpk] at HQ
    clear hi hpk
    go_wp2_with (go_at_fn g; refine HQ.out.mono ?_; rintro e w' ⟨rfl, hgw⟩; have HGW := yy hgw; clear hgw)
    go_ret
    exact ⟨by rw [HI.out]; rfl, HG.out.trans HGW.out⟩
   | false =>
    rw [hpk] at HQ
    have HPk := yy hpk
    clear hpk
    go_wp2_with (go_at_fn g; refine HQ.out.mono ?_; rintro e w' ⟨rfl, hgw⟩; have HGW := yy hgw; clear hgw)
    go_roundw
    case rel => exact ⟨k + 1, by omega, by go_num, HG.out.trans HGW.out, fun j h hj => by
     by_cases e : j = k
     ·subst e; rw [HY.out]; exact HPk.out
     ·exact HN.out j h (by omega)⟩
    case measure => simp [intOf]; omega
  ·have hi : idxOf p l = -1 := idxOf_none p l (fun j h => HN.out j h (by omega))
   have HI := yy hi
   clear hi
   go_wp2
   go_ret
   exact ⟨by rw [HI.out]; rfl, HG.out⟩
theorem con95 {w : World} {a : Option Addr} {n c : Nat} {l : List Vtx} (h : Lst w a n c l) (p : Vtx → Bool) (g : Nat) (cb : Array Value)
  (eg : ∀ args w, (callFunc g args).run Tryz.prog w = .ok (.enter g args) w)
  (hp : ∀ (W : World) (x : Vtx), Gro w W → x ∈ l → Calls Tryz.prog g (#[.agg #[.int .i64 x.id, .int .i64 x.side]] ++ cb) W fun e w' => e = .returned (.bool (p x)) ∧ Gro W w') :
  Calls Tryz.prog 95 #[.slice a n c, .func (.func g) #[] cb] w fun e w' => e = .returned (.bool (l.any p)) ∧ Gro w w' := by
 have HQ := yy (idx135 h p g cb eg hp)
 clear h hp eg
 generalize hi : idxOf p l = i at HQ
 have HI := yy hi
 clear hi
 go_enter Tryz.func95, Tryz.ntmps95
 go_wp2_with fail
 refine HQ.out.mono ?_
 rintro e w' ⟨rfl, hg⟩
 have HG := yy hg
 clear hg
 go_wp2
 go_ret
 exact ⟨by rw [← idxOf_any p l, HI.out]; rfl, HG.out⟩
theorem con98 {w : World} {a : Option Addr} {n c : Nat} {l : List Edg} (h : Lst w a n c l) (p : Edg → Bool) (g : Nat) (cb : Array Value)
  (eg : ∀ args w, (callFunc g args).run Tryz.prog w = .ok (.enter g args) w)
  (hp : ∀ (W : World) (x : Edg), Gro w W → x ∈ l → Calls Tryz.prog g (#[.agg #[.int .i64 x.id, .int .i64 x.src, .int .i64 x.dst, .bool x.dir, .int .i64 x.weight, .int .i64 x.cap]] ++ cb) W fun e w' => e = .returned (.bool (p x)) ∧ Gro W w') :
  Calls Tryz.prog 98 #[.slice a n c, .func (.func g) #[] cb] w fun e w' => e = .returned (.bool (l.any p)) ∧ Gro w w' := by
 have HQ := yy (idx136 h p g cb eg hp)
 clear h hp eg
 generalize hi : idxOf p l = i at HQ
 have HI := yy hi
 clear hi
 go_enter Tryz.func98, Tryz.ntmps98
 go_wp2_with fail
 refine HQ.out.mono ?_
 rintro e w' ⟨rfl, hg⟩
 have HG := yy hg
 clear hg
 go_wp2
 go_ret
 exact ⟨by rw [← idxOf_any p l, HI.out]; rfl, HG.out⟩
theorem con139 {w : World} {a : Option Addr} {n c : Nat} {l : List Int} (h : Lst w a n c l) (p : Int → Bool) (g : Nat) (cb : Array Value)
  (eg : ∀ args w, (callFunc g args).run Tryz.prog w = .ok (.enter g args) w)
  (hp : ∀ (W : World) (x : Int), Gro w W → x ∈ l → Calls Tryz.prog g (#[.int .i64 x] ++ cb) W fun e w' => e = .returned (.bool (p x)) ∧ Gro W w') :
  Calls Tryz.prog 139 #[.slice a n c, .func (.func g) #[] cb] w fun e w' => e = .returned (.bool (l.any p)) ∧ Gro w w' := by
 have HQ := yy (idx181 h p g cb eg hp)
 clear h hp eg
 generalize hi : idxOf p l = i at HQ
 have HI := yy hi
 clear hi
 go_enter Tryz.func139, Tryz.ntmps139
 go_wp2_with fail
 refine HQ.out.mono ?_
 rintro e w' ⟨rfl, hg⟩
 have HG := yy hg
 clear hg
 go_wp2
 go_ret
 exact ⟨by rw [← idxOf_any p l, HI.out]; rfl, HG.out⟩
theorem con202 {w : World} {a : Option Addr} {n c : Nat} {l : List Pty} (h : Lst w a n c l) (p : Pty → Bool) (g : Nat) (cb : Array Value)
  (eg : ∀ args w, (callFunc g args).run Tryz.prog w = .ok (.enter g args) w)
  (hp : ∀ (W : World) (x : Pty), Gro w W → x ∈ l → Calls Tryz.prog g (#[.agg #[.int .i64 x.id, .int .i64 x.budget]] ++ cb) W fun e w' => e = .returned (.bool (p x)) ∧ Gro W w') :
  Calls Tryz.prog 202 #[.slice a n c, .func (.func g) #[] cb] w fun e w' => e = .returned (.bool (l.any p)) ∧ Gro w w' := by
 have HQ := yy (idx218 h p g cb eg hp)
 clear h hp eg
 generalize hi : idxOf p l = i at HQ
 have HI := yy hi
 clear hi
 go_enter Tryz.func202, Tryz.ntmps202
 go_wp2_with fail
 refine HQ.out.mono ?_
 rintro e w' ⟨rfl, hg⟩
 have HG := yy hg
 clear hg
 go_wp2
 go_ret
 exact ⟨by rw [← idxOf_any p l, HI.out]; rfl, HG.out⟩
theorem con204 {w : World} {a : Option Addr} {n c : Nat} {l : List Ofr} (h : Lst w a n c l) (p : Ofr → Bool) (g : Nat) (cb : Array Value)
  (eg : ∀ args w, (callFunc g args).run Tryz.prog w = .ok (.enter g args) w)
  (hp : ∀ (W : World) (x : Ofr), Gro w W → x ∈ l → Calls Tryz.prog g (#[.agg #[.int .i64 x.id, .int .i64 x.party, .int .i64 x.side, .int .i64 x.place, .int .i64 x.price, .int .i64 x.until_, .int .i64 x.state]] ++ cb) W fun e w' => e = .returned (.bool (p x)) ∧ Gro W w') :
  Calls Tryz.prog 204 #[.slice a n c, .func (.func g) #[] cb] w fun e w' => e = .returned (.bool (l.any p)) ∧ Gro w w' := by
 have HQ := yy (idx219 h p g cb eg hp)
 clear h hp eg
 generalize hi : idxOf p l = i at HQ
 have HI := yy hi
 clear hi
 go_enter Tryz.func204, Tryz.ntmps204
 go_wp2_with fail
 refine HQ.out.mono ?_
 rintro e w' ⟨rfl, hg⟩
 have HG := yy hg
 clear hg
 go_wp2
 go_ret
 exact ⟨by rw [← idxOf_any p l, HI.out]; rfl, HG.out⟩
theorem con208 {w : World} {a : Option Addr} {n c : Nat} {l : List Wsh} (h : Lst w a n c l) (p : Wsh → Bool) (g : Nat) (cb : Array Value)
  (eg : ∀ args w, (callFunc g args).run Tryz.prog w = .ok (.enter g args) w)
  (hp : ∀ (W : World) (x : Wsh), Gro w W → x ∈ l → Calls Tryz.prog g (#[.agg #[.int .i64 x.edge, .int .i64 x.src, .int .i64 x.dst, .int .i64 x.weight]] ++ cb) W fun e w' => e = .returned (.bool (p x)) ∧ Gro W w') :
  Calls Tryz.prog 208 #[.slice a n c, .func (.func g) #[] cb] w fun e w' => e = .returned (.bool (l.any p)) ∧ Gro w w' := by
 have HQ := yy (idx170 h p g cb eg hp)
 clear h hp eg
 generalize hi : idxOf p l = i at HQ
 have HI := yy hi
 clear hi
 go_enter Tryz.func208, Tryz.ntmps208
 go_wp2_with fail
 refine HQ.out.mono ?_
 rintro e w' ⟨rfl, hg⟩
 have HG := yy hg
 clear hg
 go_wp2
 go_ret
 exact ⟨by rw [← idxOf_any p l, HI.out]; rfl, HG.out⟩
set_option maxRecDepth 100000 in
theorem clo201 {W : World} {B g : Nat} {bd cb : Array Value} (eg : ∀ args w, (callFunc g args).run Tryz.prog w = .ok (.enter g args) w) (hB : W.heap[B]? = some (.cells #[.func (.func g) bd cb] 132 (0, 0))) (x : Vtx) (r : Bool)
  (hp : ∀ W', Gro W W' → Calls Tryz.prog g (bd ++ #[.agg #[.int .i64 x.id, .int .i64 x.side]] ++ cb) W' fun e w' => e = .returned (.bool r) ∧ Gro W' w') :
  Calls Tryz.prog 201 #[.agg #[.int .i64 x.id, .int .i64 x.side], .pointer (some ⟨B, 0, none⟩)] W fun e w' => e = .returned (.bool (!r)) ∧ Gro W w' := by
 have c0 := blk_cell hB 0
 simp only [List.getElem?_toArray, List.getElem?_cons_zero] at c0
 have HB := yy hB
 clear hB
 have hlt : B < W.heap.size := World.block_lt_of_cell? W _ c0
 have HP := yy hp
 clear hp
 go_enter Tryz.func201, Tryz.ntmps201
 go_wp2_with (go_at_fn g; refine (HP.out _ ((Kept.refl _ _).alloc _)).mono ?_; rintro e w1 ⟨rfl, h1⟩; have H1 := yy h1; clear h1)
 go_ret
 exact ⟨rfl, ((Kept.refl _ _).alloc _).trans H1.out⟩
theorem eg201 : ∀ args w, (callFunc 201 args).run Tryz.prog w = .ok (.enter 201 args) w := enters_of Tryz.func201 (by kernel_rfl) rfl
set_option maxRecDepth 100000 in
theorem all150 {w : World} {a : Option Addr} {n c : Nat} {l : List Vtx} (h : Lst w a n c l) (p : Vtx → Bool) (g : Nat) (bd cb : Array Value)
  (eg : ∀ args w, (callFunc g args).run Tryz.prog w = .ok (.enter g args) w)
  (hp : ∀ (W : World) (x : Vtx), Gro w W → x ∈ l → Calls Tryz.prog g (bd ++ #[.agg #[.int .i64 x.id, .int .i64 x.side]] ++ cb) W fun e w' => e = .returned (.bool (p x)) ∧ Gro W w') :
  Calls Tryz.prog 150 #[.slice a n c, .func (.func g) bd cb] w fun e w' => e = .returned (.bool (l.all p)) ∧ Gro w w' := by
 have hk : Gro w (w.alloc (.cells #[.func (.func g) bd cb] 132)) := (Kept.refl _ _).alloc _
 have hb := con95 (h.gro hk) (fun x => !p x) 201 #[.pointer (some ⟨w.heap.size, 0, none⟩)] eg201 (fun W x hW hm => clo201 eg (hW.blk (blk_new _ _)) x (p x) (fun W' hW' => hp W' x ((hk.trans hW).trans hW') hm))
 have HB := yy hb
 have HK := yy hk
 clear h hp eg hb hk
 go_enter Tryz.func150, Tryz.ntmps150
 go_wp2_with fail
 generalize hr : (l.any fun x => !p x) = r at HB
 have HR := yy hr
 clear hr
 refine HB.out.mono ?_
 rintro e w1 ⟨rfl, h1⟩
 have H1 := yy h1
 clear h1
 go_wp2
 go_ret
 refine ⟨?_, HK.out.trans H1.out⟩
 have : l.all p = !r := by rw [← HR.out, List.all_eq_not_any_not]
 rw [this]
 rfl
set_option maxRecDepth 100000 in
theorem clo203 {W : World} {B g : Nat} {bd cb : Array Value} (eg : ∀ args w, (callFunc g args).run Tryz.prog w = .ok (.enter g args) w) (hB : W.heap[B]? = some (.cells #[.func (.func g) bd cb] 168 (0, 0))) (x : Pty) (r : Bool)
  (hp : ∀ W', Gro W W' → Calls Tryz.prog g (bd ++ #[.agg #[.int .i64 x.id, .int .i64 x.budget]] ++ cb) W' fun e w' => e = .returned (.bool r) ∧ Gro W' w') :
  Calls Tryz.prog 203 #[.agg #[.int .i64 x.id, .int .i64 x.budget], .pointer (some ⟨B, 0, none⟩)] W fun e w' => e = .returned (.bool (!r)) ∧ Gro W w' := by
 have c0 := blk_cell hB 0
 simp only [List.getElem?_toArray, List.getElem?_cons_zero] at c0
 have HB := yy hB
 clear hB
 have hlt : B < W.heap.size := World.block_lt_of_cell? W _ c0
 have HP := yy hp
 clear hp
 go_enter Tryz.func203, Tryz.ntmps203
 go_wp2_with (go_at_fn g; refine (HP.out _ ((Kept.refl _ _).alloc _)).mono ?_; rintro e w1 ⟨rfl, h1⟩; have H1 := yy h1; clear h1)
 go_ret
 exact ⟨rfl, ((Kept.refl _ _).alloc _).trans H1.out⟩
theorem eg203 : ∀ args w, (callFunc 203 args).run Tryz.prog w = .ok (.enter 203 args) w := enters_of Tryz.func203 (by kernel_rfl) rfl
set_option maxRecDepth 100000 in
theorem all152 {w : World} {a : Option Addr} {n c : Nat} {l : List Pty} (h : Lst w a n c l) (p : Pty → Bool) (g : Nat) (bd cb : Array Value)
  (eg : ∀ args w, (callFunc g args).run Tryz.prog w = .ok (.enter g args) w)
  (hp : ∀ (W : World) (x : Pty), Gro w W → x ∈ l → Calls Tryz.prog g (bd ++ #[.agg #[.int .i64 x.id, .int .i64 x.budget]] ++ cb) W fun e w' => e = .returned (.bool (p x)) ∧ Gro W w') :
  Calls Tryz.prog 152 #[.slice a n c, .func (.func g) bd cb] w fun e w' => e = .returned (.bool (l.all p)) ∧ Gro w w' := by
 have hk : Gro w (w.alloc (.cells #[.func (.func g) bd cb] 168)) := (Kept.refl _ _).alloc _
 have hb := con202 (h.gro hk) (fun x => !p x) 203 #[.pointer (some ⟨w.heap.size, 0, none⟩)] eg203 (fun W x hW hm => clo203 eg (hW.blk (blk_new _ _)) x (p x) (fun W' hW' => hp W' x ((hk.trans hW).trans hW') hm))
 have HB := yy hb
 have HK := yy hk
 clear h hp eg hb hk
 go_enter Tryz.func152, Tryz.ntmps152
 go_wp2_with fail
 generalize hr : (l.any fun x => !p x) = r at HB
 have HR := yy hr
 clear hr
 refine HB.out.mono ?_
 rintro e w1 ⟨rfl, h1⟩
 have H1 := yy h1
 clear h1
 go_wp2
 go_ret
 refine ⟨?_, HK.out.trans H1.out⟩
 have : l.all p = !r := by rw [← HR.out, List.all_eq_not_any_not]
 rw [this]
 rfl
set_option maxRecDepth 100000 in
theorem clo205 {W : World} {B g : Nat} {bd cb : Array Value} (eg : ∀ args w, (callFunc g args).run Tryz.prog w = .ok (.enter g args) w) (hB : W.heap[B]? = some (.cells #[.func (.func g) bd cb] 174 (0, 0))) (x : Ofr) (r : Bool)
  (hp : ∀ W', Gro W W' → Calls Tryz.prog g (bd ++ #[.agg #[.int .i64 x.id, .int .i64 x.party, .int .i64 x.side, .int .i64 x.place, .int .i64 x.price, .int .i64 x.until_, .int .i64 x.state]] ++ cb) W' fun e w' => e = .returned (.bool r) ∧ Gro W' w') :
  Calls Tryz.prog 205 #[.agg #[.int .i64 x.id, .int .i64 x.party, .int .i64 x.side, .int .i64 x.place, .int .i64 x.price, .int .i64 x.until_, .int .i64 x.state], .pointer (some ⟨B, 0, none⟩)] W fun e w' => e = .returned (.bool (!r)) ∧ Gro W w' := by
 have c0 := blk_cell hB 0
 simp only [List.getElem?_toArray, List.getElem?_cons_zero] at c0
 have HB := yy hB
 clear hB
 have hlt : B < W.heap.size := World.block_lt_of_cell? W _ c0
 have HP := yy hp
 clear hp
 go_enter Tryz.func205, Tryz.ntmps205
 go_wp2_with (go_at_fn g; refine (HP.out _ ((Kept.refl _ _).alloc _)).mono ?_; rintro e w1 ⟨rfl, h1⟩; have H1 := yy h1; clear h1)
 go_ret
 exact ⟨rfl, ((Kept.refl _ _).alloc _).trans H1.out⟩
theorem eg205 : ∀ args w, (callFunc 205 args).run Tryz.prog w = .ok (.enter 205 args) w := enters_of Tryz.func205 (by kernel_rfl) rfl
set_option maxRecDepth 100000 in
theorem all157 {w : World} {a : Option Addr} {n c : Nat} {l : List Ofr} (h : Lst w a n c l) (p : Ofr → Bool) (g : Nat) (bd cb : Array Value)
  (eg : ∀ args w, (callFunc g args).run Tryz.prog w = .ok (.enter g args) w)
  (hp : ∀ (W : World) (x : Ofr), Gro w W → x ∈ l → Calls Tryz.prog g (bd ++ #[.agg #[.int .i64 x.id, .int .i64 x.party, .int .i64 x.side, .int .i64 x.place, .int .i64 x.price, .int .i64 x.until_, .int .i64 x.state]] ++ cb) W fun e w' => e = .returned (.bool (p x)) ∧ Gro W w') :
  Calls Tryz.prog 157 #[.slice a n c, .func (.func g) bd cb] w fun e w' => e = .returned (.bool (l.all p)) ∧ Gro w w' := by
 have hk : Gro w (w.alloc (.cells #[.func (.func g) bd cb] 174)) := (Kept.refl _ _).alloc _
 have hb := con204 (h.gro hk) (fun x => !p x) 205 #[.pointer (some ⟨w.heap.size, 0, none⟩)] eg205 (fun W x hW hm => clo205 eg (hW.blk (blk_new _ _)) x (p x) (fun W' hW' => hp W' x ((hk.trans hW).trans hW') hm))
 have HB := yy hb
 have HK := yy hk
 clear h hp eg hb hk
 go_enter Tryz.func157, Tryz.ntmps157
 go_wp2_with fail
 generalize hr : (l.any fun x => !p x) = r at HB
 have HR := yy hr
 clear hr
 refine HB.out.mono ?_
 rintro e w1 ⟨rfl, h1⟩
 have H1 := yy h1
 clear h1
 go_wp2
 go_ret
 refine ⟨?_, HK.out.trans H1.out⟩
 have : l.all p = !r := by rw [← HR.out, List.all_eq_not_any_not]
 rw [this]
 rfl
set_option maxRecDepth 100000 in
theorem clo209 {W : World} {B g : Nat} {bd cb : Array Value} (eg : ∀ args w, (callFunc g args).run Tryz.prog w = .ok (.enter g args) w) (hB : W.heap[B]? = some (.cells #[.func (.func g) bd cb] 152 (0, 0))) (x : Wsh) (r : Bool)
  (hp : ∀ W', Gro W W' → Calls Tryz.prog g (bd ++ #[.agg #[.int .i64 x.edge, .int .i64 x.src, .int .i64 x.dst, .int .i64 x.weight]] ++ cb) W' fun e w' => e = .returned (.bool r) ∧ Gro W' w') :
  Calls Tryz.prog 209 #[.agg #[.int .i64 x.edge, .int .i64 x.src, .int .i64 x.dst, .int .i64 x.weight], .pointer (some ⟨B, 0, none⟩)] W fun e w' => e = .returned (.bool (!r)) ∧ Gro W w' := by
 have c0 := blk_cell hB 0
 simp only [List.getElem?_toArray, List.getElem?_cons_zero] at c0
 have HB := yy hB
 clear hB
 have hlt : B < W.heap.size := World.block_lt_of_cell? W _ c0
 have HP := yy hp
 clear hp
 go_enter Tryz.func209, Tryz.ntmps209
 go_wp2_with (go_at_fn g; refine (HP.out _ ((Kept.refl _ _).alloc _)).mono ?_; rintro e w1 ⟨rfl, h1⟩; have H1 := yy h1; clear h1)
 go_ret
 exact ⟨rfl, ((Kept.refl _ _).alloc _).trans H1.out⟩
theorem eg209 : ∀ args w, (callFunc 209 args).run Tryz.prog w = .ok (.enter 209 args) w := enters_of Tryz.func209 (by kernel_rfl) rfl
set_option maxRecDepth 100000 in
theorem all164 {w : World} {a : Option Addr} {n c : Nat} {l : List Wsh} (h : Lst w a n c l) (p : Wsh → Bool) (g : Nat) (bd cb : Array Value)
  (eg : ∀ args w, (callFunc g args).run Tryz.prog w = .ok (.enter g args) w)
  (hp : ∀ (W : World) (x : Wsh), Gro w W → x ∈ l → Calls Tryz.prog g (bd ++ #[.agg #[.int .i64 x.edge, .int .i64 x.src, .int .i64 x.dst, .int .i64 x.weight]] ++ cb) W fun e w' => e = .returned (.bool (p x)) ∧ Gro W w') :
  Calls Tryz.prog 164 #[.slice a n c, .func (.func g) bd cb] w fun e w' => e = .returned (.bool (l.all p)) ∧ Gro w w' := by
 have hk : Gro w (w.alloc (.cells #[.func (.func g) bd cb] 152)) := (Kept.refl _ _).alloc _
 have hb := con208 (h.gro hk) (fun x => !p x) 209 #[.pointer (some ⟨w.heap.size, 0, none⟩)] eg209 (fun W x hW hm => clo209 eg (hW.blk (blk_new _ _)) x (p x) (fun W' hW' => hp W' x ((hk.trans hW).trans hW') hm))
 have HB := yy hb
 have HK := yy hk
 clear h hp eg hb hk
 go_enter Tryz.func164, Tryz.ntmps164
 go_wp2_with fail
 generalize hr : (l.any fun x => !p x) = r at HB
 have HR := yy hr
 clear hr
 refine HB.out.mono ?_
 rintro e w1 ⟨rfl, h1⟩
 have H1 := yy h1
 clear h1
 go_wp2
 go_ret
 refine ⟨?_, HK.out.trans H1.out⟩
 have : l.all p = !r := by rw [← HR.out, List.all_eq_not_any_not]
 rw [this]
 rfl
end Go.Proofs.YthfagcdjbmhhcaaGreat
namespace Go.Proofs.YthfagcdjbmhhcaaGreat
open Go.RowKit
theorem Gro.refl (w : World) : Gro w w := Kept.refl _ w
theorem Gro.trans {a b c : World} (h : Gro a b) (k : Gro b c) : Gro a c := Kept.trans h k
theorem Gro.alloc {a b : World} (h : Gro a b) (o : Obj) : Gro a (b.alloc o) := Kept.alloc h o
theorem Gro.drw {a b c : World} (h : Gro a b) (d : Drw b c) : Gro a c := Kept.drw h d
structure GAt (w : World) (v1 v2 v3 : Value) (g : Gr) : Prop where
 vs : LV w v1 g.vs
 es : LV w v2 g.es
 ds : LV w v3 g.ds
theorem GAt.gro {w w' : World} {v1 v2 v3 : Value} {g : Gr} (h : GAt w v1 v2 v3 g) (k : Gro w w') : GAt w' v1 v2 v3 g := ⟨h.vs.gro k, h.es.gro k, h.ds.gro k⟩
structure Gr.few (g : Gr) : Prop where
 vs : g.vs.length ≤ 1000000
 es : g.es.length ≤ 1000000
 ds : g.ds.length ≤ 1000000
theorem mem_has (g : Gr) (id : Int) : decide (id ∈ g.vs.map Vtx.id) = has g id := by
 unfold has
 rw [Bool.eq_iff_iff]
 simp
theorem mem_hasE (g : Gr) (id : Int) : decide (id ∈ g.es.map Edg.id) = hasE g id := by
 unfold hasE
 rw [Bool.eq_iff_iff]
 simp
theorem in133 (n lo hi : Int) (w : World) : Calls Tryz.prog 133 #[.int .i64 n, .int .i64 lo, .int .i64 hi] w fun e w' => e = .returned (.bool (inB n lo hi)) ∧ w = w' := by
 by_cases h1 : lo ≤ n
 ·by_cases h2 : n ≤ hi
  ·have hr : inB n lo hi = true := by simp [inB, h1, h2]
   have HR := yy hr
   clear hr
   go_enter Tryz.func133, Tryz.ntmps133
   go_wp2
   go_ret
   exact ⟨by rw [HR.out]; rfl, rfl⟩
  have hr : inB n lo hi = false := by simp [inB, h1, h2]
  have HR := yy hr
  clear hr
  go_enter Tryz.func133, Tryz.ntmps133
  go_wp2
  go_ret
  exact ⟨by rw [HR.out]; rfl, rfl⟩
 have hr : inB n lo hi = false := by simp [inB, h1]
 have HR := yy hr
 clear hr
 go_enter Tryz.func133, Tryz.ntmps133
 go_wp2
 go_ret
 exact ⟨by rw [HR.out]; rfl, rfl⟩
theorem in147 (n lo hi : Int) (w : World) : Calls Tryz.prog 147 #[.int .i64 n, .int .i64 lo, .int .i64 hi] w fun e w' => e = .returned (.bool (inB n lo hi)) ∧ w = w' := by
 by_cases h1 : lo ≤ n
 ·by_cases h2 : n ≤ hi
  ·have hr : inB n lo hi = true := by simp [inB, h1, h2]
   have HR := yy hr
   clear hr
   go_enter Tryz.func147, Tryz.ntmps147
   go_wp2
   go_ret
   exact ⟨by rw [HR.out]; rfl, rfl⟩
  have hr : inB n lo hi = false := by simp [inB, h1, h2]
  have HR := yy hr
  clear hr
  go_enter Tryz.func147, Tryz.ntmps147
  go_wp2
  go_ret
  exact ⟨by rw [HR.out]; rfl, rfl⟩
 have hr : inB n lo hi = false := by simp [inB, h1]
 have HR := yy hr
 clear hr
 go_enter Tryz.func147, Tryz.ntmps147
 go_wp2
 go_ret
 exact ⟨by rw [HR.out]; rfl, rfl⟩
theorem in53 (n lo hi : Int) (w : World) : Calls Tryz.prog 53 #[.int .i64 n, .int .i64 lo, .int .i64 hi] w fun e w' => e = .returned (.bool (inB n lo hi)) ∧ w = w' := by
 by_cases h1 : lo ≤ n
 ·by_cases h2 : n ≤ hi
  ·have hr : inB n lo hi = true := by simp [inB, h1, h2]
   have HR := yy hr
   clear hr
   go_enter Tryz.func53, Tryz.ntmps53
   go_wp2
   go_ret
   exact ⟨by rw [HR.out]; rfl, rfl⟩
  have hr : inB n lo hi = false := by simp [inB, h1, h2]
  have HR := yy hr
  clear hr
  go_enter Tryz.func53, Tryz.ntmps53
  go_wp2
  go_ret
  exact ⟨by rw [HR.out]; rfl, rfl⟩
 have hr : inB n lo hi = false := by simp [inB, h1]
 have HR := yy hr
 clear hr
 go_enter Tryz.func53, Tryz.ntmps53
 go_wp2
 go_ret
 exact ⟨by rw [HR.out]; rfl, rfl⟩
theorem in167 (n lo hi : Int) (w : World) : Calls Tryz.prog 167 #[.int .i64 n, .int .i64 lo, .int .i64 hi] w fun e w' => e = .returned (.bool (inB n lo hi)) ∧ w = w' := by
 by_cases h1 : lo ≤ n
 ·by_cases h2 : n ≤ hi
  ·have hr : inB n lo hi = true := by simp [inB, h1, h2]
   have HR := yy hr
   clear hr
   go_enter Tryz.func167, Tryz.ntmps167
   go_wp2
   go_ret
   exact ⟨by rw [HR.out]; rfl, rfl⟩
  have hr : inB n lo hi = false := by simp [inB, h1, h2]
  have HR := yy hr
  clear hr
  go_enter Tryz.func167, Tryz.ntmps167
  go_wp2
  go_ret
  exact ⟨by rw [HR.out]; rfl, rfl⟩
 have hr : inB n lo hi = false := by simp [inB, h1]
 have HR := yy hr
 clear hr
 go_enter Tryz.func167, Tryz.ntmps167
 go_wp2
 go_ret
 exact ⟨by rw [HR.out]; rfl, rfl⟩
set_option maxHeartbeats 2000000 in
theorem okV97 (x : Vtx) (w : World) : Calls Tryz.prog 97 #[.agg #[.int .i64 x.id, .int .i64 x.side]] w fun e w' => e = .returned (.bool (okV x)) ∧ Gro w w' := by
 cases h0 : inB x.id 0 23 with
 | false =>
  have hr : okV x = false := by simp [okV, h0]
  have HR := yy hr
  clear hr
  go_enter Tryz.func97, Tryz.ntmps97
  go_wp2_with (go_at_call 133; refine (in133 _ _ _ _).mono ?_; rintro e w' ⟨rfl, rfl⟩)
  go_ret
  exact ⟨by rw [HR.out]; rfl, (Kept.refl _ _).alloc _⟩
 | true =>
 cases h1 : inB x.side 0 3 with
 | false =>
  have hr : okV x = false := by simp [okV, h0, h1]
  have HR := yy hr
  clear hr
  go_enter Tryz.func97, Tryz.ntmps97
  go_wp2_with (go_at_call 133; refine (in133 _ _ _ _).mono ?_; rintro e w' ⟨rfl, rfl⟩)
  go_ret
  exact ⟨by rw [HR.out]; rfl, (Kept.refl _ _).alloc _⟩
 | true =>
 have hr : okV x = true := by simp [okV, h0, h1]
 have HR := yy hr
 clear hr
 go_enter Tryz.func97, Tryz.ntmps97
 go_wp2_with (go_at_call 133; refine (in133 _ _ _ _).mono ?_; rintro e w' ⟨rfl, rfl⟩)
 go_ret
 exact ⟨by rw [HR.out]; rfl, (Kept.refl _ _).alloc _⟩
set_option maxHeartbeats 2000000 in
theorem okE93 (x : Edg) (w : World) : Calls Tryz.prog 93 #[.agg #[.int .i64 x.id, .int .i64 x.src, .int .i64 x.dst, .bool x.dir, .int .i64 x.weight, .int .i64 x.cap]] w fun e w' => e = .returned (.bool (okE x)) ∧ Gro w w' := by
 cases h0 : inB x.id 0 39 with
 | false =>
  have hr : okE x = false := by simp [okE, h0]
  have HR := yy hr
  clear hr
  go_enter Tryz.func93, Tryz.ntmps93
  go_wp2_with (go_at_call 133; refine (in133 _ _ _ _).mono ?_; rintro e w' ⟨rfl, rfl⟩)
  go_ret
  exact ⟨by rw [HR.out]; rfl, (Kept.refl _ _).alloc _⟩
 | true =>
 cases h1 : inB x.src 0 23 with
 | false =>
  have hr : okE x = false := by simp [okE, h0, h1]
  have HR := yy hr
  clear hr
  go_enter Tryz.func93, Tryz.ntmps93
  go_wp2_with (go_at_call 133; refine (in133 _ _ _ _).mono ?_; rintro e w' ⟨rfl, rfl⟩)
  go_ret
  exact ⟨by rw [HR.out]; rfl, (Kept.refl _ _).alloc _⟩
 | true =>
 cases h2 : inB x.dst 0 23 with
 | false =>
  have hr : okE x = false := by simp [okE, h0, h1, h2]
  have HR := yy hr
  clear hr
  go_enter Tryz.func93, Tryz.ntmps93
  go_wp2_with (go_at_call 133; refine (in133 _ _ _ _).mono ?_; rintro e w' ⟨rfl, rfl⟩)
  go_ret
  exact ⟨by rw [HR.out]; rfl, (Kept.refl _ _).alloc _⟩
 | true =>
 cases h3 : inB x.weight (-1000) 1000 with
 | false =>
  have hr : okE x = false := by simp [okE, h0, h1, h2, h3]
  have HR := yy hr
  clear hr
  go_enter Tryz.func93, Tryz.ntmps93
  go_wp2_with (go_at_call 133; refine (in133 _ _ _ _).mono ?_; rintro e w' ⟨rfl, rfl⟩)
  go_ret
  exact ⟨by rw [HR.out]; rfl, (Kept.refl _ _).alloc _⟩
 | true =>
 cases h4 : inB x.cap 0 1000 with
 | false =>
  have hr : okE x = false := by simp [okE, h0, h1, h2, h3, h4]
  have HR := yy hr
  clear hr
  go_enter Tryz.func93, Tryz.ntmps93
  go_wp2_with (go_at_call 133; refine (in133 _ _ _ _).mono ?_; rintro e w' ⟨rfl, rfl⟩)
  go_ret
  exact ⟨by rw [HR.out]; rfl, (Kept.refl _ _).alloc _⟩
 | true =>
 have hr : okE x = true := by simp [okE, h0, h1, h2, h3, h4]
 have HR := yy hr
 clear hr
 go_enter Tryz.func93, Tryz.ntmps93
 go_wp2_with (go_at_call 133; refine (in133 _ _ _ _).mono ?_; rintro e w' ⟨rfl, rfl⟩)
 go_ret
 exact ⟨by rw [HR.out]; rfl, (Kept.refl _ _).alloc _⟩
theorem clo180 (x : Vtx) (id : Int) (w : World) : Calls Tryz.prog 180 #[.agg #[.int .i64 x.id, .int .i64 x.side], .int .i64 id] w fun e w' => e = .returned (.int .i64 (cmpI x.id id)) ∧ Gro w w' := by
 go_enter Tryz.func180, Tryz.ntmps180
 go_wp2_with (go_at_call 116; refine (cmp116 _ _ _).mono ?_; rintro e w' ⟨rfl, rfl⟩)
 go_ret
 exact ⟨rfl, (Kept.refl _ _).alloc _⟩
theorem eg180 : ∀ args w, (callFunc 180 args).run Tryz.prog w = .ok (.enter 180 args) w := enters_of Tryz.func180 (by kernel_rfl) rfl
/-- a graph that is being looked at: its block -/
def ChAt (w : World) (B : Nat) (v1 v2 v3 : Value) : Prop := w.heap[B]? = some (.cells #[v1, v2, v3] 128 (0, 0))
theorem ChAt.cells {w : World} {B : Nat} {v1 v2 v3 : Value} (h : ChAt w B v1 v2 v3) : w.cell? ⟨B, 0, none⟩ = some v1 ∧ w.cell? ⟨B, 1, none⟩ = some v2 ∧ w.cell? ⟨B, 2, none⟩ = some v3 :=
 ⟨by rw [blk_cell h]; rfl, by rw [blk_cell h]; rfl, by rw [blk_cell h]; rfl⟩
set_option maxRecDepth 100000 in
theorem vertex134 {w : World} {B : Nat} {v1 v2 v3 : Value} {g : Gr} (hB : ChAt w B v1 v2 v3) (h : LV w v1 g.vs) (hfew : g.vs.length ≤ 1000000) (ha : (g.vs.map Vtx.id).Pairwise (· < ·)) (id : Int) :
  Calls Tryz.prog 134 #[.pointer (some ⟨B, 0, none⟩), .int .i64 id] w fun e w' => ∃ i : Nat, e = .returned (.tuple #[.int .i64 i, .bool (has g id)]) ∧ IsPos (g.vs.map Vtx.id) id i ∧ Gro w w' := by
 obtain ⟨a, c, rfl, hl⟩ := h
 obtain ⟨c0, c1, c2⟩ := hB.cells
 have hlt := World.block_lt_of_cell? w _ c0
 have hb := bs172 hl (by omega) id ha 180 #[] eg180 (fun W x _ => clo180 x id W)
 rw [mem_has] at hb
 have HB := yy hb
 clear hb hB hl ha
 generalize hq : has g id = q at HB
 have HQ := yy hq
 clear hq
 go_enter Tryz.func134, Tryz.ntmps134
 go_wp2_with fail
 refine HB.out.mono ?_
 rintro e w1 ⟨i, rfl, h1, h2⟩
 have H1 := yy h1
 have H2 := yy h2
 clear h1 h2
 go_wp2
 go_ret2
 exact ⟨i, by first | rfl | (rw [HQ.out]; rfl), H1.out, H2.out⟩
theorem has94 {w : World} {B : Nat} {v1 v2 v3 : Value} {g : Gr} (hB : ChAt w B v1 v2 v3) (h : LV w v1 g.vs) (hfew : g.vs.length ≤ 1000000) (ha : (g.vs.map Vtx.id).Pairwise (· < ·)) (id : Int) :
  Calls Tryz.prog 94 #[.pointer (some ⟨B, 0, none⟩), .int .i64 id] w fun e w' => e = .returned (.bool (has g id)) ∧ Gro w w' := by
 have HV := yy (vertex134 hB h hfew ha id)
 clear hB h ha
 go_enter Tryz.func94, Tryz.ntmps94
 go_wp2_with fail
 refine HV.out.mono ?_
 rintro e w1 ⟨i, rfl, h1, h2⟩
 have H2 := yy h2
 clear h1 h2
 go_wp2
 go_ret
 exact ⟨rfl, H2.out⟩
def badE (g : Gr) (e : Edg) : Bool := !(okE e && has g e.src && has g e.dst)
set_option maxHeartbeats 4000000 in
theorem clo92 {w : World} {B C : Nat} {v1 v2 v3 : Value} {g : Gr} (hC : w.heap[C]? = some (.cells #[.pointer (some ⟨B, 0, none⟩)] 126 (0, 0))) (hB : ChAt w B v1 v2 v3) (h : LV w v1 g.vs) (hfew : g.vs.length ≤ 1000000) (ha : (g.vs.map Vtx.id).Pairwise (· < ·)) (x : Edg) :
  Calls Tryz.prog 92 #[.agg #[.int .i64 x.id, .int .i64 x.src, .int .i64 x.dst, .bool x.dir, .int .i64 x.weight, .int .i64 x.cap], .pointer (some ⟨C, 0, none⟩)] w fun e w' => e = .returned (.bool (badE g x)) ∧ Gro w w' := by
 have cc := blk_cell hC 0
 simp only [List.getElem?_toArray, List.getElem?_cons_zero] at cc
 have hlt := World.block_lt_of_cell? w _ cc
 have HC := yy hC
 have HV : Hid (∀ W, Gro w W → ∀ id, Calls Tryz.prog 94 #[.pointer (some ⟨B, 0, none⟩), .int .i64 id] W fun e w' => e = .returned (.bool (has g id)) ∧ Gro W w') :=
  yy fun W hW id => has94 (hW.blk hB) (h.gro hW) hfew ha id
 clear hC hB h ha
 obtain ⟨w0, hw0⟩ : ∃ w0, w0 = w.alloc (.cells #[.int .i64 x.id, .int .i64 x.src, .int .i64 x.dst, .bool x.dir, .int .i64 x.weight, .int .i64 x.cap] 69) := ⟨_, rfl⟩
 have k0 : Gro w w0 := by rw [hw0]; exact (Kept.refl _ _).alloc _
 have b0 : w0.heap[w.heap.size]? = some (.cells #[.int .i64 x.id, .int .i64 x.src, .int .i64 x.dst, .bool x.dir, .int .i64 x.weight, .int .i64 x.cap] 69) := by rw [hw0]; exact blk_new _ _
 have K0 := yy k0
 have B0 := yy b0
 clear k0 b0
 generalize h0 : okE x = q0
 generalize h1 : has g x.src = q1
 generalize h2 : has g x.dst = q2
 have hr : badE g x = !(q0 && q1 && q2) := by simp only [badE, h0, h1, h2]
 have HR := yy hr
 have H0 := yy h0
 have H1 := yy h1
 have H2 := yy h2
 clear h0 h1 h2 hr
 go_enter Tryz.func92, Tryz.ntmps92
 go_wp2_with fail
 rw [← hw0]
 refine (okE93 x _).mono ?_
 rintro e w1 ⟨rfl, k1⟩
 rw [H0.out]
 have B1 := yy (k1.blk B0.out)
 have K1 := yy (K0.out.trans k1)
 clear k1 hw0 K0 B0 H0
 have hcc := K1.out.cell cc
 have e1 := blk_cell B1.out 1
 have e2 := blk_cell B1.out 2
 simp only [lPa, lPb, lPc] at e1 e2
 have hlt1 := World.block_lt_of_cell? w1 _ e1
 clear cc hlt
 cases q0 with
 | false =>
  clear H1 H2
  go_wp2
  go_ret
  exact ⟨by rw [HR.out]; rfl, K1.out⟩
 | true =>
 go_wp2_with fail
 refine (HV.out _ K1.out x.src).mono ?_
 rintro e w2 ⟨rfl, k2⟩
 rw [H1.out]
 have K2 := yy (K1.out.trans k2)
 have hcc2 := k2.cell hcc
 have e22 := k2.cell e2
 have hlt2 := World.block_lt_of_cell? w2 _ e22
 clear hcc e1 e2 hlt1 k2 K1 H1
 cases q1 with
 | false =>
  clear H2
  go_wp2
  go_ret
  exact ⟨by rw [HR.out]; rfl, K2.out⟩
 | true =>
 go_wp2_with fail
 refine (HV.out _ K2.out x.dst).mono ?_
 rintro e w3 ⟨rfl, k3⟩
 rw [H2.out]
 have K3 := yy (K2.out.trans k3)
 clear k3 K2 H2
 go_wp2
 go_ret
 exact ⟨by rw [HR.out]; cases q2 <;> rfl, K3.out⟩
theorem eg92 : ∀ args w, (callFunc 92 args).run Tryz.prog w = .ok (.enter 92 args) w := enters_of Tryz.func92 (by kernel_rfl) rfl
theorem clo96 (x : Vtx) (w : World) : Calls Tryz.prog 96 #[.agg #[.int .i64 x.id, .int .i64 x.side]] w fun e w' => e = .returned (.bool (!okV x)) ∧ Gro w w' := by
 generalize h0 : okV x = q0
 have H0 := yy h0
 clear h0
 go_enter Tryz.func96, Tryz.ntmps96
 go_wp2_with (go_at_call 97; refine (okV97 x _).mono ?_; rintro e w1 ⟨rfl, k1⟩; rw [H0.out]; have K1 := yy k1; clear k1)
 go_ret
 exact ⟨rfl, ((Kept.refl _ _).alloc _).trans K1.out⟩
theorem eg96 : ∀ args w, (callFunc 96 args).run Tryz.prog w = .ok (.enter 96 args) w := enters_of Tryz.func96 (by kernel_rfl) rfl
theorem clo140 {w : World} {B C : Nat} {v1 v2 v3 : Value} {g : Gr} (hC : w.heap[C]? = some (.cells #[.pointer (some ⟨B, 0, none⟩)] 126 (0, 0))) (hB : ChAt w B v1 v2 v3) (h : LV w v1 g.vs) (hfew : g.vs.length ≤ 1000000) (ha : (g.vs.map Vtx.id).Pairwise (· < ·)) (x : Int) :
  Calls Tryz.prog 140 #[.int .i64 x, .pointer (some ⟨C, 0, none⟩)] w fun e w' => e = .returned (.bool (!has g x)) ∧ Gro w w' := by
 have cc := blk_cell hC 0
 simp only [List.getElem?_toArray, List.getElem?_cons_zero] at cc
 have hlt := World.block_lt_of_cell? w _ cc
 have HC := yy hC
 have HV := yy (has94 hB h hfew ha x)
 clear hC hB h ha
 generalize h0 : has g x = q0 at HV
 have H0 := yy h0
 clear h0
 go_enter Tryz.func140, Tryz.ntmps140
 go_wp2_with (go_at_call 94; refine HV.out.mono ?_; rintro e w1 ⟨rfl, k1⟩; have K1 := yy k1; clear k1)
 go_ret
 exact ⟨rfl, K1.out⟩
theorem eg140 : ∀ args w, (callFunc 140 args).run Tryz.prog w = .ok (.enter 140 args) w := enters_of Tryz.func140 (by kernel_rfl) rfl
end Go.Proofs.YthfagcdjbmhhcaaGreat
namespace Go.Proofs.YthfagcdjbmhhcaaGreat
open Go.RowKit
theorem Kept.of_run {α : Type} {P : Program} {s : Sem α} {w w' : World} {v : α} {row : Option Nat} (hr : s.run P w = .ok v w') (hg : w.grownBy w' row) : Kept (fun k => row = some k) w w' :=
 ⟨hg.os, hg.tape, hg.output, run_drawn _ _ _ _ _ hr, hg.size, fun i hi hf => hg.block i hi (fun e => hf e.symm)⟩
/-- what the program says of an element's type -/
class RecI (α : Type) extends Rec α where
 z : Value
 by_ : Nat
 info : (Tryz.prog.info? ty).map (fun i => (i.zero, i.size, i.bytes)) = some (some z, k, by_)
 hu : Tryz.prog.underlying sty = some (.slice ty)
 zs : z.cells.size = k
 kpos : 0 < k
 bpos : by_ ≤ 64
instance : RecI Int := ⟨.int .i64 0, 8, by kernel_rfl, by kernel_rfl, by kernel_rfl, by decide, by decide⟩
instance : RecI Vtx := ⟨.agg #[.int .i64 0, .int .i64 0], 16, by kernel_rfl, by kernel_rfl, by kernel_rfl, by decide, by decide⟩
instance : RecI Edg := ⟨.agg #[.int .i64 0, .int .i64 0, .int .i64 0, .bool false, .int .i64 0, .int .i64 0], 48, by kernel_rfl, by kernel_rfl, by kernel_rfl, by decide, by decide⟩
instance : RecI Pty := ⟨.agg #[.int .i64 0, .int .i64 0], 16, by kernel_rfl, by kernel_rfl, by kernel_rfl, by decide, by decide⟩
instance : RecI Ofr := ⟨.agg #[.int .i64 0, .int .i64 0, .int .i64 0, .int .i64 0, .int .i64 0, .int .i64 0, .int .i64 0], 56, by kernel_rfl, by kernel_rfl, by kernel_rfl, by decide, by decide⟩
instance : RecI Wsh := ⟨.agg #[.int .i64 0, .int .i64 0, .int .i64 0, .int .i64 0], 32, by kernel_rfl, by kernel_rfl, by kernel_rfl, by decide, by decide⟩
/-- v owns the list l, in a block of base or behind -/
def OwnL {α : Type} [Rec α] (w : World) (base : Nat) (v : Value) (l : List α) : Prop := w.ownsRow base (Rec.ty α) (Rec.k α) v l.length (flat l)
/-- the blocks of a value's own -/
def ownF (v : Value) : Nat → Prop := fun k => v.ownBlock = some k
theorem OwnL.lv {α : Type} [Rec α] {w : World} {base : Nat} {v : Value} {l : List α} (h : OwnL w base v l) (hb : l.length ≤ 4611686018427387903) : LV w v l := LV.own h rfl hb
theorem OwnL.nil {α : Type} [Rec α] (w : World) (base : Nat) : OwnL w base (.slice none 0 0) ([] : List α) := ⟨by simp [flat], .inl ⟨rfl, rfl⟩⟩
theorem OwnL.kept {α : Type} [Rec α] {w w' : World} {F : Nat → Prop} {base : Nat} {v : Value} {l : List α} (h : OwnL w base v l) (k : Kept F w w') (hF : ∀ b, v.ownBlock = some b → ¬ F b) : OwnL w' base v l := by
 obtain ⟨h1, h2⟩ := h
 refine ⟨h1, h2.imp id ?_⟩
 rintro ⟨g, cap, cur, rfl, a1, a2, a3⟩
 exact ⟨g, cap, cur, rfl, a1, k.blk a2 (hF g rfl), a3⟩
theorem OwnL.gro {α : Type} [Rec α] {w w' : World} {base : Nat} {v : Value} {l : List α} (h : OwnL w base v l) (k : Gro w w') : OwnL w' base v l := h.kept k (fun _ _ h => h)
theorem OwnL.le {α : Type} [Rec α] {w : World} {base base' : Nat} {v : Value} {l : List α} (h : OwnL w base v l) (hb : base' ≤ base) : OwnL w base' v l := by
 obtain ⟨h1, h2⟩ := h
 refine ⟨h1, h2.imp id ?_⟩
 rintro ⟨g, cap, cur, rfl, a1, a2⟩
 exact ⟨g, cap, cur, rfl, Nat.le_trans hb a1, a2⟩
theorem OwnL.block {α : Type} [Rec α] {w : World} {base : Nat} {v : Value} {l : List α} (h : OwnL w base v l) {k : Nat} (hk : v.ownBlock = some k) : base ≤ k ∧ k < w.heap.size ∧ ∃ cur, w.heap[k]? = some (.cells cur (Rec.ty α) (0, 0)) := by
 obtain ⟨_, ⟨rfl, _⟩ | ⟨g, cap, cur, rfl, a1, a2, _⟩⟩ := h
 ·cases hk
 simp only [Value.ownBlock, Option.some.injEq] at hk
 subst hk
 exact ⟨a1, blk_lt a2, cur, a2⟩
theorem run_app {α : Type} [RecI α] {w : World} {base : Nat} {v : Value} {l : List α} (hown : OwnL w base v l) (ad : Addr) (m c : Nat) (xs : List α) (hm : xs.length = m)
  (hnews : ∀ j u, (flat xs)[j]? = some u → w.cell? (ad.add j) = some u) (hfew : l.length + m ≤ 1000000000) (hbase : base ≤ w.heap.size) (ty : TypeId) :
  ∃ v' w', (Builtin.append_ #[Rec.sty α, Rec.sty α] ty #[v, .slice (some ad) m c]).run Tryz.prog w = .ok v' w' ∧ OwnL w' base v' (l ++ xs) ∧ Kept (ownF v) w w' ∧ (v'.ownBlock = v.ownBlock ∨ v'.ownBlock = some w.heap.size) := by
 obtain ⟨i, hi, hz, hs, hb⟩ := info_parts (RecI.info (α := α))
 have hbp := RecI.bpos (α := α)
 obtain ⟨v', w', hr, h2, h3, _, h5⟩ := run_append_own_at (P := Tryz.prog) w base (Rec.sty α) ty (Rec.ty α) i (RecI.z α) (Rec.k α) (RecI.by_ α) RecI.hu hi hz hs hb RecI.zs RecI.kpos v l.length (flat l) hown ad m c (flat xs)
  (by rw [flat_length, hm]) hnews (flat_one xs) (by unfold maxLen; omega) (by
   have : (l.length + m) * RecI.by_ α ≤ 1000000000 * 64 := Nat.mul_le_mul hfew hbp
   omega) hbase
 refine ⟨v', w', hr, ?_, Kept.of_run hr h3, h5⟩
 show w'.ownsRow _ _ _ _ _ _
 rw [List.length_append, hm, flat_append]
 exact h2
theorem wpList_app {α : Type} [RecI α] {w : World} {ops : Array Oper} {rest : List Oper} {o : Oper} {a : Act} {Q : Exit → Act → World → Prop} (hgd : o.guard = none) (s x : Operand)
  (ho : o.op = .call { callee := .builtin .append, args := #[s, x], argTypes := #[Rec.sty α, Rec.sty α] }) {base : Nat} {v : Value} {l : List α} (hs : a.eval s = v) (hown : OwnL w base v l) (ad : Addr) (m c : Nat) (xs : List α) (hx : a.eval x = .slice (some ad) m c) (hm : xs.length = m)
  (hnews : ∀ j u, (flat xs)[j]? = some u → w.cell? (ad.add j) = some u) (hfew : l.length + m ≤ 1000000000) (hbase : base ≤ w.heap.size)
  (h : ∀ v' w', OwnL w' base v' (l ++ xs) → Kept (ownF v) w w' → (v'.ownBlock = v.ownBlock ∨ v'.ownBlock = some w.heap.size) → wpList Tryz.prog ops Q rest (a.put o.dst v') w') : wpList Tryz.prog ops Q (o :: rest) a w := by
 refine wpList_plain hgd fun K hK => ?_
 obtain ⟨v', w', hr, h1, h2, h3⟩ := run_app hown ad m c xs hm hnews hfew hbase o.type
 unfold Oper.wp
 simp only [execOp, ho, resolve, invoke, builtin, Sem.run_bind, Sem.run_pure, Result.andThen_ok, List.map_toArray, List.map_cons, List.map_nil, hs, hx, hr]
 exact hK _ _ (h v' w' h1 h2 h3)
end Go.Proofs.YthfagcdjbmhhcaaGreat
