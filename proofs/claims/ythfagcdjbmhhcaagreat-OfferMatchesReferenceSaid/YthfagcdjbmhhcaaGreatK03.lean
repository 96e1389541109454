/- Binary search by keys in a list that ascends. -/
import Derived.Test.YthfagcdjbmhhcaaGreatK02
set_option linter.unusedVariables false
set_option linter.unusedSimpArgs false
namespace Go.Proofs.YthfagcdjbmhhcaaGreat
open Go.RowKit
def cmpI (a b : Int) : Int := if a < b then -1 else if b < a then 1 else 0
theorem cmpI_nlt {a b : Int} (h : ¬ a < b) : ¬ cmpI a b < 0 := by
 unfold cmpI
 rw [if_neg h]
 split <;> omega
theorem cmpI_ne {a b : Int} (h : ¬ a = b) : ¬ cmpI a b = 0 := by
 unfold cmpI
 split
 ·omega
 rw [if_pos (by omega)]
 omega
theorem nan168 (x : Int) (w : World) : Calls Tryz.prog 168 #[.int .i64 x] w fun e w' => e = .returned (.bool false) ∧ w = w' := by
 go_enter Tryz.func168, Tryz.ntmps168
 go_wp2
 go_ret
 exact ⟨rfl, rfl⟩
theorem cmp116 (x y : Int) (w : World) : Calls Tryz.prog 116 #[.int .i64 x, .int .i64 y] w fun e w' => e = .returned (.int .i64 (cmpI x y)) ∧ w = w' := by
 by_cases h1 : x < y
 ·have hc : cmpI x y = -1 := by simp [cmpI, h1]
  have HC := yy hc
  clear hc
  go_enter Tryz.func116, Tryz.ntmps116
  go_wp2_with (go_at_call 168; refine (nan168 _ _).mono ?_; rintro e w' ⟨rfl, rfl⟩)
  go_ret
  exact ⟨by rw [HC.out]; rfl, rfl⟩
 by_cases h2 : y < x
 ·have hc : cmpI x y = 1 := by simp [cmpI, h1, h2]
  have HC := yy hc
  clear hc
  go_enter Tryz.func116, Tryz.ntmps116
  go_wp2_with (go_at_call 168; refine (nan168 _ _).mono ?_; rintro e w' ⟨rfl, rfl⟩)
  go_ret
  exact ⟨by rw [HC.out]; rfl, rfl⟩
 have hc : cmpI x y = 0 := by simp [cmpI, h1, h2]
 have HC := yy hc
 clear hc
 go_enter Tryz.func116, Tryz.ntmps116
 go_wp2_with (go_at_call 168; refine (nan168 _ _).mono ?_; rintro e w' ⟨rfl, rfl⟩)
 go_ret
 exact ⟨by rw [HC.out]; rfl, rfl⟩
structure IsPos (ks : List Int) (id : Int) (i : Nat) : Prop where
 le : i ≤ ks.length
 lo : ∀ j (h : j < ks.length), j < i → ks[j] < id
 hi : ∀ j (h : j < ks.length), i ≤ j → id ≤ ks[j]
theorem lt_of_pair {ks : List Int} (h : ks.Pairwise (· < ·)) {i j : Nat} (hi : i < ks.length) (hj : j < ks.length) (hij : i < j) : ks[i] < ks[j] := List.pairwise_iff_getElem.1 h i j hi hj hij
theorem IsPos.found {ks : List Int} (ha : ks.Pairwise (· < ·)) {id : Int} {i : Nat} (h : IsPos ks id i) : id ∈ ks ↔ ∃ hi : i < ks.length, ks[i] = id := by
 constructor
 ·intro hm
  obtain ⟨j, hj, rfl⟩ := List.getElem_of_mem hm
  by_cases h1 : j < i
  ·have := h.lo j hj h1; omega
  by_cases h2 : i = j
  ·subst h2; exact ⟨hj, rfl⟩
  have h3 := h.hi i (by omega) (Nat.le_refl _)
  have h4 := lt_of_pair ha (by omega) hj (by omega : i < j)
  omega
 rintro ⟨hi, rfl⟩
 exact List.getElem_mem hi
set_option maxHeartbeats 2000000 in
theorem bs114 {w : World} {a : Option Addr} {n c : Nat} {l : List Ofr} (h : Lst w a n c l) (hfew : l.length ≤ 4611686018427387903) (id : Int) (ha : (l.map Ofr.id).Pairwise (· < ·)) (g : Nat) (cb : Array Value)
  (eg : ∀ args w, (callFunc g args).run Tryz.prog w = .ok (.enter g args) w)
  (hp : ∀ (W : World) (x : Ofr), Gro w W → Calls Tryz.prog g (#[.agg #[.int .i64 x.id, .int .i64 x.party, .int .i64 x.side, .int .i64 x.place, .int .i64 x.price, .int .i64 x.until_, .int .i64 x.state], .int .i64 id] ++ cb) W fun e w' => e = .returned (.int .i64 (cmpI x.id id)) ∧ Gro W w') :
  Calls Tryz.prog 114 #[.slice a n c, .int .i64 id, .func (.func g) #[] cb] w fun e w' => ∃ i : Nat, e = .returned (.tuple #[.int .i64 i, .bool (decide (id ∈ l.map Ofr.id))]) ∧ IsPos (l.map Ofr.id) id i ∧ Gro w w' := by
 obtain ⟨rfl, hcap, hbig, hat⟩ := h
 have HA := yy hat
 have HP := yy hp
 have AS := yy ha
 clear hat hp ha
 go_enter Tryz.func114, Tryz.ntmps114
 go_wp2
 go_loopw [9, 10] (fun s t wr => ∃ lo hi : Nat, s = .int .i64 lo ∧ t = .int .i64 hi ∧ lo ≤ hi ∧ hi ≤ l.length ∧ Gro w wr ∧ (∀ j (h : j < l.length), j < lo → l[j].id < id) ∧ (∀ j (h : j < l.length), hi ≤ j → id ≤ l[j].id)) (fun s t _ => (intOf t).toNat - (intOf s).toNat)
 case atStart => exact ⟨0, l.length, by go_num, rfl, Nat.zero_le _, Nat.le_refl _, Kept.refl _ _, fun j _ h => by omega, fun j h h' => by omega⟩
 case round =>
  obtain ⟨lo, hi, rfl, rfl, hlh, hin, hg, hlo, hhi⟩ := hrel
  have HG := yy hg
  have HL := yy hlo
  have HH := yy hhi
  clear hg hlo hhi
  by_cases hlt : lo < hi
  ·obtain ⟨m, hm⟩ : ∃ m, m = (lo + hi) / 2 := ⟨_, rfl⟩
   have hml : m < l.length := by omega
   have hm1 : lo ≤ m := by omega
   have hm2 : m < hi := by omega
   obtain ⟨b, off, rfl, hb, hc⟩ := Lst.base ⟨rfl, hcap, hbig, HA.out⟩ hml
   have hc' := fun i v hv => HG.out.cell (hc i v hv)
   obtain ⟨c0, c1, c2, c3, c4, c5, c6⟩ := ocells hc' hml
   have HC := yy hc
   clear hc hc'
   generalize hy : l[m] = y at c0 c1 c2 c3 c4 c5 c6
   have HY := yy hy
   clear hy
   have hq := HP.out wr y HG.out
   have HQ := yy hq
   clear hq
   have hdm : ((lo : Int) + (hi : Int)) / 2 = (m : Int) := by omega
   have hmm := yy hm
   clear hm
   by_cases hd : y.id < id
   ·have hcv : cmpI y.id id = -1 := by simp [cmpI, hd]
    rw [hcv] at HQ
    clear hcv
    go_wp2_with (go_at_fn g; refine HQ.out.mono ?_; rintro e w' ⟨rfl, hgw⟩; have HGW := yy hgw; clear hgw)
    go_roundw
    case rel => exact ⟨m + 1, hi, by go_num, rfl, by omega, hin, HG.out.trans HGW.out, fun j hj hjm => by
      by_cases e : j = m
      ·subst e; rw [HY.out]; exact hd
      ·have := lt_of_pair AS.out (by simpa using hj) (by simpa using hml) (by omega : j < m)
       simp only [List.getElem_map, HY.out] at this
       omega, HH.out⟩
    case measure => simp [intOf]; omega
   ·have hcv : ¬ cmpI y.id id < 0 := cmpI_nlt hd
    have hcv0 : (cmpI y.id id < 0) = False := eq_false hcv
    generalize cmpI y.id id = cv at hcv hcv0 HQ
    go_wp2_with (go_at_fn g; refine HQ.out.mono ?_; rintro e w' ⟨rfl, hgw⟩; have HGW := yy hgw; clear hgw)
    go_roundw
    case rel => exact ⟨lo, m, rfl, by go_num, by omega, by omega, HG.out.trans HGW.out, HL.out, fun j hj hjm => by
      by_cases e : j = m
      ·subst e; rw [HY.out]; omega
      ·have := lt_of_pair AS.out (by simpa using hml) (by simpa using hj) (by omega : m < j)
       simp only [List.getElem_map, HY.out] at this
       omega⟩
    case measure => simp [intOf]; omega
  ·obtain rfl : hi = lo := by omega
   have hpos : IsPos (l.map Ofr.id) id hi := ⟨by simpa using hin, fun j hj hji => by simpa using HL.out j (by simpa using hj) hji, fun j hj hji => by simpa using HH.out j (by simpa using hj) hji⟩
   have HPOS := yy hpos
   clear hpos
   by_cases hn : hi < l.length
   ·obtain ⟨b, off, rfl, hb, hc⟩ := Lst.base ⟨rfl, hcap, hbig, HA.out⟩ hn
    have hc' := fun i v hv => HG.out.cell (hc i v hv)
    obtain ⟨c0, c1, c2, c3, c4, c5, c6⟩ := ocells hc' hn
    have HC := yy hc
    clear hc hc'
    generalize hy : l[hi] = y at c0 c1 c2 c3 c4 c5 c6
    have HY := yy hy
    clear hy
    have hq := HP.out wr y HG.out
    have HQ := yy hq
    clear hq
    by_cases hd : y.id = id
    ·have hcv : cmpI y.id id = 0 := by simp [cmpI, hd]
     rw [hcv] at HQ
     clear hcv
     have hres : decide (id ∈ l.map Ofr.id) = true := decide_eq_true ((HPOS.out.found AS.out).2 ⟨by simpa using hn, by simpa [HY.out] using hd⟩)
     have HR := yy hres
     clear hres hd
     go_wp2_with (go_at_fn g; refine HQ.out.mono ?_; rintro e w' ⟨rfl, hgw⟩; have HGW := yy hgw; clear hgw)
     go_ret2
     exact ⟨hi, by rw [HR.out]; rfl, HPOS.out, HG.out.trans HGW.out⟩
    ·have hcv : ¬ cmpI y.id id = 0 := cmpI_ne hd
     have hcv0 : (cmpI y.id id == 0) = false := by simpa using hcv
     generalize cmpI y.id id = cv at hcv hcv0 HQ
     have hres : decide (id ∈ l.map Ofr.id) = false := decide_eq_false fun hh => by
      obtain ⟨h1, h2⟩ := (HPOS.out.found AS.out).1 hh
      exact hd (by simpa [HY.out] using h2)
     have HR := yy hres
     clear hres hd
     go_wp2_with (go_at_fn g; refine HQ.out.mono ?_; rintro e w' ⟨rfl, hgw⟩; have HGW := yy hgw; clear hgw)
     go_ret2
     exact ⟨hi, by rw [HR.out]; rfl, HPOS.out, HG.out.trans HGW.out⟩
   ·have hres : decide (id ∈ l.map Ofr.id) = false := decide_eq_false fun hh => by
     obtain ⟨h1, h2⟩ := (HPOS.out.found AS.out).1 hh
     exact hn (by simpa using h1)
    have HR := yy hres
    clear hres
    go_wp2
    go_ret2
    exact ⟨hi, by rw [HR.out]; rfl, HPOS.out, HG.out⟩
set_option maxHeartbeats 2000000 in
theorem bs121 {w : World} {a : Option Addr} {n c : Nat} {l : List Wsh} (h : Lst w a n c l) (hfew : l.length ≤ 4611686018427387903) (id : Int) (ha : (l.map Wsh.edge).Pairwise (· < ·)) (g : Nat) (cb : Array Value)
  (eg : ∀ args w, (callFunc g args).run Tryz.prog w = .ok (.enter g args) w)
  (hp : ∀ (W : World) (x : Wsh), Gro w W → Calls Tryz.prog g (#[.agg #[.int .i64 x.edge, .int .i64 x.src, .int .i64 x.dst, .int .i64 x.weight], .int .i64 id] ++ cb) W fun e w' => e = .returned (.int .i64 (cmpI x.edge id)) ∧ Gro W w') :
  Calls Tryz.prog 121 #[.slice a n c, .int .i64 id, .func (.func g) #[] cb] w fun e w' => ∃ i : Nat, e = .returned (.tuple #[.int .i64 i, .bool (decide (id ∈ l.map Wsh.edge))]) ∧ IsPos (l.map Wsh.edge) id i ∧ Gro w w' := by
 obtain ⟨rfl, hcap, hbig, hat⟩ := h
 have HA := yy hat
 have HP := yy hp
 have AS := yy ha
 clear hat hp ha
 go_enter Tryz.func121, Tryz.ntmps121
 go_wp2
 go_loopw [9, 10] (fun s t wr => ∃ lo hi : Nat, s = .int .i64 lo ∧ t = .int .i64 hi ∧ lo ≤ hi ∧ hi ≤ l.length ∧ Gro w wr ∧ (∀ j (h : j < l.length), j < lo → l[j].edge < id) ∧ (∀ j (h : j < l.length), hi ≤ j → id ≤ l[j].edge)) (fun s t _ => (intOf t).toNat - (intOf s).toNat)
 case atStart => exact ⟨0, l.length, by go_num, rfl, Nat.zero_le _, Nat.le_refl _, Kept.refl _ _, fun j _ h => by omega, fun j h h' => by omega⟩
 case round =>
  obtain ⟨lo, hi, rfl, rfl, hlh, hin, hg, hlo, hhi⟩ := hrel
  have HG := yy hg
  have HL := yy hlo
  have HH := yy hhi
  clear hg hlo hhi
  by_cases hlt : lo < hi
  ·obtain ⟨m, hm⟩ : ∃ m, m = (lo + hi) / 2 := ⟨_, rfl⟩
   have hml : m < l.length := by omega
   have hm1 : lo ≤ m := by omega
   have hm2 : m < hi := by omega
   obtain ⟨b, off, rfl, hb, hc⟩ := Lst.base ⟨rfl, hcap, hbig, HA.out⟩ hml
   have hc' := fun i v hv => HG.out.cell (hc i v hv)
   obtain ⟨c0, c1, c2, c3⟩ := wcells hc' hml
   have HC := yy hc
   clear hc hc'
   generalize hy : l[m] = y at c0 c1 c2 c3
   have HY := yy hy
   clear hy
   have hq := HP.out wr y HG.out
   have HQ := yy hq
   clear hq
   have hdm : ((lo : Int) + (hi : Int)) / 2 = (m : Int) := by omega
   have hmm := yy hm
   clear hm
   by_cases hd : y.edge < id
   ·have hcv : cmpI y.edge id = -1 := by simp [cmpI, hd]
    rw [hcv] at HQ
    clear hcv
    go_wp2_with (go_at_fn g; refine HQ.out.mono ?_; rintro e w' ⟨rfl, hgw⟩; have HGW := yy hgw; clear hgw)
    go_roundw
    case rel => exact ⟨m + 1, hi, by go_num, rfl, by omega, hin, HG.out.trans HGW.out, fun j hj hjm => by
      by_cases e : j = m
      ·subst e; rw [HY.out]; exact hd
      ·have := lt_of_pair AS.out (by simpa using hj) (by simpa using hml) (by omega : j < m)
       simp only [List.getElem_map, HY.out] at this
       omega, HH.out⟩
    case measure => simp [intOf]; omega
   ·have hcv : ¬ cmpI y.edge id < 0 := cmpI_nlt hd
    have hcv0 : (cmpI y.edge id < 0) = False := eq_false hcv
    generalize cmpI y.edge id = cv at hcv hcv0 HQ
    go_wp2_with (go_at_fn g; refine HQ.out.mono ?_; rintro e w' ⟨rfl, hgw⟩; have HGW := yy hgw; clear hgw)
    go_roundw
    case rel => exact ⟨lo, m, rfl, by go_num, by omega, by omega, HG.out.trans HGW.out, HL.out, fun j hj hjm => by
      by_cases e : j = m
      ·subst e; rw [HY.out]; omega
      ·have := lt_of_pair AS.out (by simpa using hml) (by simpa using hj) (by omega : m < j)
       simp only [List.getElem_map, HY.out] at this
       omega⟩
    case measure => simp [intOf]; omega
  ·obtain rfl : hi = lo := by omega
   have hpos : IsPos (l.map Wsh.edge) id hi := ⟨by simpa using hin, fun j hj hji => by simpa using HL.out j (by simpa using hj) hji, fun j hj hji => by simpa using HH.out j (by simpa using hj) hji⟩
   have HPOS := yy hpos
   clear hpos
   by_cases hn : hi < l.length
   ·obtain ⟨b, off, rfl, hb, hc⟩ := Lst.base ⟨rfl, hcap, hbig, HA.out⟩ hn
    have hc' := fun i v hv => HG.out.cell (hc i v hv)
    obtain ⟨c0, c1, c2, c3⟩ := wcells hc' hn
    have HC := yy hc
    clear hc hc'
    generalize hy : l[hi] = y at c0 c1 c2 c3
    have HY := yy hy
    clear hy
    have hq := HP.out wr y HG.out
    have HQ := yy hq
    clear hq
    by_cases hd : y.edge = id
    ·have hcv : cmpI y.edge id = 0 := by simp [cmpI, hd]
     rw [hcv] at HQ
     clear hcv
     have hres : decide (id ∈ l.map Wsh.edge) = true := decide_eq_true ((HPOS.out.found AS.out).2 ⟨by simpa using hn, by simpa [HY.out] using hd⟩)
     have HR := yy hres
     clear hres hd
     go_wp2_with (go_at_fn g; refine HQ.out.mono ?_; rintro e w' ⟨rfl, hgw⟩; have HGW := yy hgw; clear hgw)
     go_ret2
     exact ⟨hi, by rw [HR.out]; rfl, HPOS.out, HG.out.trans HGW.out⟩
    ·have hcv : ¬ cmpI y.edge id = 0 := cmpI_ne hd
     have hcv0 : (cmpI y.edge id == 0) = false := by simpa using hcv
     generalize cmpI y.edge id = cv at hcv hcv0 HQ
     have hres : decide (id ∈ l.map Wsh.edge) = false := decide_eq_false fun hh => by
      obtain ⟨h1, h2⟩ := (HPOS.out.found AS.out).1 hh
      exact hd (by simpa [HY.out] using h2)
     have HR := yy hres
     clear hres hd
     go_wp2_with (go_at_fn g; refine HQ.out.mono ?_; rintro e w' ⟨rfl, hgw⟩; have HGW := yy hgw; clear hgw)
     go_ret2
     exact ⟨hi, by rw [HR.out]; rfl, HPOS.out, HG.out.trans HGW.out⟩
   ·have hres : decide (id ∈ l.map Wsh.edge) = false := decide_eq_false fun hh => by
     obtain ⟨h1, h2⟩ := (HPOS.out.found AS.out).1 hh
     exact hn (by simpa using h1)
    have HR := yy hres
    clear hres
    go_wp2
    go_ret2
    exact ⟨hi, by rw [HR.out]; rfl, HPOS.out, HG.out⟩
set_option maxHeartbeats 2000000 in
theorem bs172 {w : World} {a : Option Addr} {n c : Nat} {l : List Vtx} (h : Lst w a n c l) (hfew : l.length ≤ 4611686018427387903) (id : Int) (ha : (l.map Vtx.id).Pairwise (· < ·)) (g : Nat) (cb : Array Value)
  (eg : ∀ args w, (callFunc g args).run Tryz.prog w = .ok (.enter g args) w)
  (hp : ∀ (W : World) (x : Vtx), Gro w W → Calls Tryz.prog g (#[.agg #[.int .i64 x.id, .int .i64 x.side], .int .i64 id] ++ cb) W fun e w' => e = .returned (.int .i64 (cmpI x.id id)) ∧ Gro W w') :
  Calls Tryz.prog 172 #[.slice a n c, .int .i64 id, .func (.func g) #[] cb] w fun e w' => ∃ i : Nat, e = .returned (.tuple #[.int .i64 i, .bool (decide (id ∈ l.map Vtx.id))]) ∧ IsPos (l.map Vtx.id) id i ∧ Gro w w' := by
 obtain ⟨rfl, hcap, hbig, hat⟩ := h
 have HA := yy hat
 have HP := yy hp
 have AS := yy ha
 clear hat hp ha
 go_enter Tryz.func172, Tryz.ntmps172
 go_wp2
 go_loopw [9, 10] (fun s t wr => ∃ lo hi : Nat, s = .int .i64 lo ∧ t = .int .i64 hi ∧ lo ≤ hi ∧ hi ≤ l.length ∧ Gro w wr ∧ (∀ j (h : j < l.length), j < lo → l[j].id < id) ∧ (∀ j (h : j < l.length), hi ≤ j → id ≤ l[j].id)) (fun s t _ => (intOf t).toNat - (intOf s).toNat)
 case atStart => exact ⟨0, l.length, by go_num, rfl, Nat.zero_le _, Nat.le_refl _, Kept.refl _ _, fun j _ h => by omega, fun j h h' => by omega⟩
 case round =>
  obtain ⟨lo, hi, rfl, rfl, hlh, hin, hg, hlo, hhi⟩ := hrel
  have HG := yy hg
  have HL := yy hlo
  have HH := yy hhi
  clear hg hlo hhi
  by_cases hlt : lo < hi
  ·obtain ⟨m, hm⟩ : ∃ m, m = (lo + hi) / 2 := ⟨_, rfl⟩
   have hml : m < l.length := by omega
   have hm1 : lo ≤ m := by omega
   have hm2 : m < hi := by omega
   obtain ⟨b, off, rfl, hb, hc⟩ := Lst.base ⟨rfl, hcap, hbig, HA.out⟩ hml
   have hc' := fun i v hv => HG.out.cell (hc i v hv)
   obtain ⟨c0, c1⟩ := vcells hc' hml
   have HC := yy hc
   clear hc hc'
   generalize hy : l[m] = y at c0 c1
   have HY := yy hy
   clear hy
   have hq := HP.out wr y HG.out
   have HQ := yy hq
   clear hq
   have hdm : ((lo : Int) + (hi : Int)) / 2 = (m : Int) := by omega
   have hmm := yy hm
   clear hm
   by_cases hd : y.id < id
   ·have hcv : cmpI y.id id = -1 := by simp [cmpI, hd]
    rw [hcv] at HQ
    clear hcv
    go_wp2_with (go_at_fn g; refine HQ.out.mono ?_; rintro e w' ⟨rfl, hgw⟩; have HGW := yy hgw; clear hgw)
    go_roundw
    case rel => exact ⟨m + 1, hi, by go_num, rfl, by omega, hin, HG.out.trans HGW.out, fun j hj hjm => by
      by_cases e : j = m
      ·subst e; rw [HY.out]; exact hd
      ·have := lt_of_pair AS.out (by simpa using hj) (by simpa using hml) (by omega : j < m)
       simp only [List.getElem_map, HY.out] at this
       omega, HH.out⟩
    case measure => simp [intOf]; omega
   ·have hcv : ¬ cmpI y.id id < 0 := cmpI_nlt hd
    have hcv0 : (cmpI y.id id < 0) = False := eq_false hcv
    generalize cmpI y.id id = cv at hcv hcv0 HQ
    go_wp2_with (go_at_fn g; refine HQ.out.mono ?_; rintro e w' ⟨rfl, hgw⟩; have HGW := yy hgw; clear hgw)
    go_roundw
    case rel => exact ⟨lo, m, rfl, by go_num, by omega, by omega, HG.out.trans HGW.out, HL.out, fun j hj hjm => by
      by_cases e : j = m
      ·subst e; rw [HY.out]; omega
      ·have := lt_of_pair AS.out (by simpa using hml) (by simpa using hj) (by omega : m < j)
       simp only [List.getElem_map, HY.out] at this
       omega⟩
    case measure => simp [intOf]; omega
  ·obtain rfl : hi = lo := by omega
   have hpos : IsPos (l.map Vtx.id) id hi := ⟨by simpa using hin, fun j hj hji => by simpa using HL.out j (by simpa using hj) hji, fun j hj hji => by simpa using HH.out j (by simpa using hj) hji⟩
   have HPOS := yy hpos
   clear hpos
   by_cases hn : hi < l.length
   ·obtain ⟨b, off, rfl, hb, hc⟩ := Lst.base ⟨rfl, hcap, hbig, HA.out⟩ hn
    have hc' := fun i v hv => HG.out.cell (hc i v hv)
    obtain ⟨c0, c1⟩ := vcells hc' hn
    have HC := yy hc
    clear hc hc'
    generalize hy : l[hi] = y at c0 c1
    have HY := yy hy
    clear hy
    have hq := HP.out wr y HG.out
    have HQ := yy hq
    clear hq
    by_cases hd : y.id = id
    ·have hcv : cmpI y.id id = 0 := by simp [cmpI, hd]
     rw [hcv] at HQ
     clear hcv
     have hres : decide (id ∈ l.map Vtx.id) = true := decide_eq_true ((HPOS.out.found AS.out).2 ⟨by simpa using hn, by simpa [HY.out] using hd⟩)
     have HR := yy hres
     clear hres hd
     go_wp2_with (go_at_fn g; refine HQ.out.mono ?_; rintro e w' ⟨rfl, hgw⟩; have HGW := yy hgw; clear hgw)
     go_ret2
     exact ⟨hi, by rw [HR.out]; rfl, HPOS.out, HG.out.trans HGW.out⟩
    ·have hcv : ¬ cmpI y.id id = 0 := cmpI_ne hd
     have hcv0 : (cmpI y.id id == 0) = false := by simpa using hcv
     generalize cmpI y.id id = cv at hcv hcv0 HQ
     have hres : decide (id ∈ l.map Vtx.id) = false := decide_eq_false fun hh => by
      obtain ⟨h1, h2⟩ := (HPOS.out.found AS.out).1 hh
      exact hd (by simpa [HY.out] using h2)
     have HR := yy hres
     clear hres hd
     go_wp2_with (go_at_fn g; refine HQ.out.mono ?_; rintro e w' ⟨rfl, hgw⟩; have HGW := yy hgw; clear hgw)
     go_ret2
     exact ⟨hi, by rw [HR.out]; rfl, HPOS.out, HG.out.trans HGW.out⟩
   ·have hres : decide (id ∈ l.map Vtx.id) = false := decide_eq_false fun hh => by
     obtain ⟨h1, h2⟩ := (HPOS.out.found AS.out).1 hh
     exact hn (by simpa using h1)
    have HR := yy hres
    clear hres
    go_wp2
    go_ret2
    exact ⟨hi, by rw [HR.out]; rfl, HPOS.out, HG.out⟩
set_option maxHeartbeats 2000000 in
theorem bs176 {w : World} {a : Option Addr} {n c : Nat} {l : List Edg} (h : Lst w a n c l) (hfew : l.length ≤ 4611686018427387903) (id : Int) (ha : (l.map Edg.id).Pairwise (· < ·)) (g : Nat) (cb : Array Value)
  (eg : ∀ args w, (callFunc g args).run Tryz.prog w = .ok (.enter g args) w)
  (hp : ∀ (W : World) (x : Edg), Gro w W → Calls Tryz.prog g (#[.agg #[.int .i64 x.id, .int .i64 x.src, .int .i64 x.dst, .bool x.dir, .int .i64 x.weight, .int .i64 x.cap], .int .i64 id] ++ cb) W fun e w' => e = .returned (.int .i64 (cmpI x.id id)) ∧ Gro W w') :
  Calls Tryz.prog 176 #[.slice a n c, .int .i64 id, .func (.func g) #[] cb] w fun e w' => ∃ i : Nat, e = .returned (.tuple #[.int .i64 i, .bool (decide (id ∈ l.map Edg.id))]) ∧ IsPos (l.map Edg.id) id i ∧ Gro w w' := by
 obtain ⟨rfl, hcap, hbig, hat⟩ := h
 have HA := yy hat
 have HP := yy hp
 have AS := yy ha
 clear hat hp ha
 go_enter Tryz.func176, Tryz.ntmps176
 go_wp2
 go_loopw [9, 10] (fun s t wr => ∃ lo hi : Nat, s = .int .i64 lo ∧ t = .int .i64 hi ∧ lo ≤ hi ∧ hi ≤ l.length ∧ Gro w wr ∧ (∀ j (h : j < l.length), j < lo → l[j].id < id) ∧ (∀ j (h : j < l.length), hi ≤ j → id ≤ l[j].id)) (fun s t _ => (intOf t).toNat - (intOf s).toNat)
 case atStart => exact ⟨0, l.length, by go_num, rfl, Nat.zero_le _, Nat.le_refl _, Kept.refl _ _, fun j _ h => by omega, fun j h h' => by omega⟩
 case round =>
  obtain ⟨lo, hi, rfl, rfl, hlh, hin, hg, hlo, hhi⟩ := hrel
  have HG := yy hg
  have HL := yy hlo
  have HH := yy hhi
  clear hg hlo hhi
  by_cases hlt : lo < hi
  ·obtain ⟨m, hm⟩ : ∃ m, m = (lo + hi) / 2 := ⟨_, rfl⟩
   have hml : m < l.length := by omega
   have hm1 : lo ≤ m := by omega
   have hm2 : m < hi := by omega
   obtain ⟨b, off, rfl, hb, hc⟩ := Lst.base ⟨rfl, hcap, hbig, HA.out⟩ hml
   have hc' := fun i v hv => HG.out.cell (hc i v hv)
   obtain ⟨c0, c1, c2, c3, c4, c5⟩ := ecells hc' hml
   have HC := yy hc
   clear hc hc'
   generalize hy : l[m] = y at c0 c1 c2 c3 c4 c5
   have HY := yy hy
   clear hy
   have hq := HP.out wr y HG.out
   have HQ := yy hq
   clear hq
   have hdm : ((lo : Int) + (hi : Int)) / 2 = (m : Int) := by omega
   have hmm := yy hm
   clear hm
   by_cases hd : y.id < id
   ·have hcv : cmpI y.id id = -1 := by simp [cmpI, hd]
    rw [hcv] at HQ
    clear hcv
    go_wp2_with (go_at_fn g; refine HQ.out.mono ?_; rintro e w' ⟨rfl, hgw⟩; have HGW := yy hgw; clear hgw)
    go_roundw
    case rel => exact ⟨m + 1, hi, by go_num, rfl, by omega, hin, HG.out.trans HGW.out, fun j hj hjm => by
      by_cases e : j = m
      ·subst e; rw [HY.out]; exact hd
      ·have := lt_of_pair AS.out (by simpa using hj) (by simpa using hml) (by omega : j < m)
       simp only [List.getElem_map, HY.out] at this
       omega, HH.out⟩
    case measure => simp [intOf]; omega
   ·have hcv : ¬ cmpI y.id id < 0 := cmpI_nlt hd
    have hcv0 : (cmpI y.id id < 0) = False := eq_false hcv
    generalize cmpI y.id id = cv at hcv hcv0 HQ
    go_wp2_with (go_at_fn g; refine HQ.out.mono ?_; rintro e w' ⟨rfl, hgw⟩; have HGW := yy hgw; clear hgw)
    go_roundw
    case rel => exact ⟨lo, m, rfl, by go_num, by omega, by omega, HG.out.trans HGW.out, HL.out, fun j hj hjm => by
      by_cases e : j = m
      ·subst e; rw [HY.out]; omega
      ·have := lt_of_pair AS.out (by simpa using hml) (by simpa using hj) (by omega : m < j)
       simp only [List.getElem_map, HY.out] at this
       omega⟩
    case measure => simp [intOf]; omega
  ·obtain rfl : hi = lo := by omega
   have hpos : IsPos (l.map Edg.id) id hi := ⟨by simpa using hin, fun j hj hji => by simpa using HL.out j (by simpa using hj) hji, fun j hj hji => by simpa using HH.out j (by simpa using hj) hji⟩
   have HPOS := yy hpos
   clear hpos
   by_cases hn : hi < l.length
   ·obtain ⟨b, off, rfl, hb, hc⟩ := Lst.base ⟨rfl, hcap, hbig, HA.out⟩ hn
    have hc' := fun i v hv => HG.out.cell (hc i v hv)
    obtain ⟨c0, c1, c2, c3, c4, c5⟩ := ecells hc' hn
    have HC := yy hc
    clear hc hc'
    generalize hy : l[hi] = y at c0 c1 c2 c3 c4 c5
    have HY := yy hy
    clear hy
    have hq := HP.out wr y HG.out
    have HQ := yy hq
    clear hq
    by_cases hd : y.id = id
    ·have hcv : cmpI y.id id = 0 := by simp [cmpI, hd]
     rw [hcv] at HQ
     clear hcv
     have hres : decide (id ∈ l.map Edg.id) = true := decide_eq_true ((HPOS.out.found AS.out).2 ⟨by simpa using hn, by simpa [HY.out] using hd⟩)
     have HR := yy hres
     clear hres hd
     go_wp2_with (go_at_fn g; refine HQ.out.mono ?_; rintro e w' ⟨rfl, hgw⟩; have HGW := yy hgw; clear hgw)
     go_ret2
     exact ⟨hi, by rw [HR.out]; rfl, HPOS.out, HG.out.trans HGW.out⟩
    ·have hcv : ¬ cmpI y.id id = 0 := cmpI_ne hd
     have hcv0 : (cmpI y.id id == 0) = false := by simpa using hcv
     generalize cmpI y.id id = cv at hcv hcv0 HQ
     have hres : decide (id ∈ l.map Edg.id) = false := decide_eq_false fun hh => by
      obtain ⟨h1, h2⟩ := (HPOS.out.found AS.out).1 hh
      exact hd (by simpa [HY.out] using h2)
     have HR := yy hres
     clear hres hd
     go_wp2_with (go_at_fn g; refine HQ.out.mono ?_; rintro e w' ⟨rfl, hgw⟩; have HGW := yy hgw; clear hgw)
     go_ret2
     exact ⟨hi, by rw [HR.out]; rfl, HPOS.out, HG.out.trans HGW.out⟩
   ·have hres : decide (id ∈ l.map Edg.id) = false := decide_eq_false fun hh => by
     obtain ⟨h1, h2⟩ := (HPOS.out.found AS.out).1 hh
     exact hn (by simpa using h1)
    have HR := yy hres
    clear hres
    go_wp2
    go_ret2
    exact ⟨hi, by rw [HR.out]; rfl, HPOS.out, HG.out⟩
set_option maxHeartbeats 2000000 in
theorem bs220 {w : World} {a : Option Addr} {n c : Nat} {l : List Pty} (h : Lst w a n c l) (hfew : l.length ≤ 4611686018427387903) (id : Int) (ha : (l.map Pty.id).Pairwise (· < ·)) (g : Nat) (cb : Array Value)
  (eg : ∀ args w, (callFunc g args).run Tryz.prog w = .ok (.enter g args) w)
  (hp : ∀ (W : World) (x : Pty), Gro w W → Calls Tryz.prog g (#[.agg #[.int .i64 x.id, .int .i64 x.budget], .int .i64 id] ++ cb) W fun e w' => e = .returned (.int .i64 (cmpI x.id id)) ∧ Gro W w') :
  Calls Tryz.prog 220 #[.slice a n c, .int .i64 id, .func (.func g) #[] cb] w fun e w' => ∃ i : Nat, e = .returned (.tuple #[.int .i64 i, .bool (decide (id ∈ l.map Pty.id))]) ∧ IsPos (l.map Pty.id) id i ∧ Gro w w' := by
 obtain ⟨rfl, hcap, hbig, hat⟩ := h
 have HA := yy hat
 have HP := yy hp
 have AS := yy ha
 clear hat hp ha
 go_enter Tryz.func220, Tryz.ntmps220
 go_wp2
 go_loopw [9, 10] (fun s t wr => ∃ lo hi : Nat, s = .int .i64 lo ∧ t = .int .i64 hi ∧ lo ≤ hi ∧ hi ≤ l.length ∧ Gro w wr ∧ (∀ j (h : j < l.length), j < lo → l[j].id < id) ∧ (∀ j (h : j < l.length), hi ≤ j → id ≤ l[j].id)) (fun s t _ => (intOf t).toNat - (intOf s).toNat)
 case atStart => exact ⟨0, l.length, by go_num, rfl, Nat.zero_le _, Nat.le_refl _, Kept.refl _ _, fun j _ h => by omega, fun j h h' => by omega⟩
 case round =>
  obtain ⟨lo, hi, rfl, rfl, hlh, hin, hg, hlo, hhi⟩ := hrel
  have HG := yy hg
  have HL := yy hlo
  have HH := yy hhi
  clear hg hlo hhi
  by_cases hlt : lo < hi
  ·obtain ⟨m, hm⟩ : ∃ m, m = (lo + hi) / 2 := ⟨_, rfl⟩
   have hml : m < l.length := by omega
   have hm1 : lo ≤ m := by omega
   have hm2 : m < hi := by omega
   obtain ⟨b, off, rfl, hb, hc⟩ := Lst.base ⟨rfl, hcap, hbig, HA.out⟩ hml
   have hc' := fun i v hv => HG.out.cell (hc i v hv)
   obtain ⟨c0, c1⟩ := pcells hc' hml
   have HC := yy hc
   clear hc hc'
   generalize hy : l[m] = y at c0 c1
   have HY := yy hy
   clear hy
   have hq := HP.out wr y HG.out
   have HQ := yy hq
   clear hq
   have hdm : ((lo : Int) + (hi : Int)) / 2 = (m : Int) := by omega
   have hmm := yy hm
   clear hm
   by_cases hd : y.id < id
   ·have hcv : cmpI y.id id = -1 := by simp [cmpI, hd]
    rw [hcv] at HQ
    clear hcv
    go_wp2_with (go_at_fn g; refine HQ.out.mono ?_; rintro e w' ⟨rfl, hgw⟩; have HGW := yy hgw; clear hgw)
    go_roundw
    case rel => exact ⟨m + 1, hi, by go_num, rfl, by omega, hin, HG.out.trans HGW.out, fun j hj hjm => by
      by_cases e : j = m
      ·subst e; rw [HY.out]; exact hd
      ·have := lt_of_pair AS.out (by simpa using hj) (by simpa using hml) (by omega : j < m)
       simp only [List.getElem_map, HY.out] at this
       omega, HH.out⟩
    case measure => simp [intOf]; omega
   ·have hcv : ¬ cmpI y.id id < 0 := cmpI_nlt hd
    have hcv0 : (cmpI y.id id < 0) = False := eq_false hcv
    generalize cmpI y.id id = cv at hcv hcv0 HQ
    go_wp2_with (go_at_fn g; refine HQ.out.mono ?_; rintro e w' ⟨rfl, hgw⟩; have HGW := yy hgw; clear hgw)
    go_roundw
    case rel => exact ⟨lo, m, rfl, by go_num, by omega, by omega, HG.out.trans HGW.out, HL.out, fun j hj hjm => by
      by_cases e : j = m
      ·subst e; rw [HY.out]; omega
      ·have := lt_of_pair AS.out (by simpa using hml) (by simpa using hj) (by omega : m < j)
       simp only [List.getElem_map, HY.out] at this
       omega⟩
    case measure => simp [intOf]; omega
  ·obtain rfl : hi = lo := by omega
   have hpos : IsPos (l.map Pty.id) id hi := ⟨by simpa using hin, fun j hj hji => by simpa using HL.out j (by simpa using hj) hji, fun j hj hji => by simpa using HH.out j (by simpa using hj) hji⟩
   have HPOS := yy hpos
   clear hpos
   by_cases hn : hi < l.length
   ·obtain ⟨b, off, rfl, hb, hc⟩ := Lst.base ⟨rfl, hcap, hbig, HA.out⟩ hn
    have hc' := fun i v hv => HG.out.cell (hc i v hv)
    obtain ⟨c0, c1⟩ := pcells hc' hn
    have HC := yy hc
    clear hc hc'
    generalize hy : l[hi] = y at c0 c1
    have HY := yy hy
    clear hy
    have hq := HP.out wr y HG.out
    have HQ := yy hq
    clear hq
    by_cases hd : y.id = id
    ·have hcv : cmpI y.id id = 0 := by simp [cmpI, hd]
     rw [hcv] at HQ
     clear hcv
     have hres : decide (id ∈ l.map Pty.id) = true := decide_eq_true ((HPOS.out.found AS.out).2 ⟨by simpa using hn, by simpa [HY.out] using hd⟩)
     have HR := yy hres
     clear hres hd
     go_wp2_with (go_at_fn g; refine HQ.out.mono ?_; rintro e w' ⟨rfl, hgw⟩; have HGW := yy hgw; clear hgw)
     go_ret2
     exact ⟨hi, by rw [HR.out]; rfl, HPOS.out, HG.out.trans HGW.out⟩
    ·have hcv : ¬ cmpI y.id id = 0 := cmpI_ne hd
     have hcv0 : (cmpI y.id id == 0) = false := by simpa using hcv
     generalize cmpI y.id id = cv at hcv hcv0 HQ
     have hres : decide (id ∈ l.map Pty.id) = false := decide_eq_false fun hh => by
      obtain ⟨h1, h2⟩ := (HPOS.out.found AS.out).1 hh
      exact hd (by simpa [HY.out] using h2)
     have HR := yy hres
     clear hres hd
     go_wp2_with (go_at_fn g; refine HQ.out.mono ?_; rintro e w' ⟨rfl, hgw⟩; have HGW := yy hgw; clear hgw)
     go_ret2
     exact ⟨hi, by rw [HR.out]; rfl, HPOS.out, HG.out.trans HGW.out⟩
   ·have hres : decide (id ∈ l.map Pty.id) = false := decide_eq_false fun hh => by
     obtain ⟨h1, h2⟩ := (HPOS.out.found AS.out).1 hh
     exact hn (by simpa using h1)
    have HR := yy hres
    clear hres
    go_wp2
    go_ret2
    exact ⟨hi, by rw [HR.out]; rfl, HPOS.out, HG.out⟩
set_option maxRecDepth 100000 in
theorem clo115 {W : World} {B : Nat} (hB : W.heap[B]? = some (.cells #[.func (.func 64) #[] #[]] 104 (0, 0))) (x : Ofr) (id : Int) :
  Calls Tryz.prog 115 #[.agg #[.int .i64 x.id, .int .i64 x.party, .int .i64 x.side, .int .i64 x.place, .int .i64 x.price, .int .i64 x.until_, .int .i64 x.state], .int .i64 id, .pointer (some ⟨B, 0, none⟩)] W fun e w' => e = .returned (.int .i64 (cmpI x.id id)) ∧ Gro W w' := by
 have c0 := blk_cell hB 0
 simp only [List.getElem?_toArray, List.getElem?_cons_zero] at c0
 have HB := yy hB
 clear hB
 have hlt : B < W.heap.size := World.block_lt_of_cell? W _ c0
 go_enter Tryz.func115, Tryz.ntmps115
 go_wp2_with fail
 refine (key64 x _).mono ?_
 rintro e w1 ⟨rfl, h1⟩
 go_wp2_with fail
 refine (cmp116 _ id _).mono ?_
 rintro e w2 ⟨rfl, rfl⟩
 go_wp2
 go_ret
 exact ⟨rfl, ((Kept.refl _ _).alloc _).trans h1⟩
theorem eg115 : ∀ args w, (callFunc 115 args).run Tryz.prog w = .ok (.enter 115 args) w := enters_of Tryz.func115 (by kernel_rfl) rfl
set_option maxRecDepth 100000 in
theorem place63 {w : World} {a : Option Addr} {n c : Nat} {l : List Ofr} (h : Lst w a n c l) (hfew : l.length ≤ 4611686018427387903) (id : Int) (ha : (l.map Ofr.id).Pairwise (· < ·)) :
  Calls Tryz.prog 63 #[.slice a n c, .int .i64 id, .func (.func 64) #[] #[]] w fun e w' => ∃ i : Nat, e = .returned (.tuple #[.int .i64 i, .bool (decide (id ∈ l.map Ofr.id))]) ∧ IsPos (l.map Ofr.id) id i ∧ Gro w w' := by
 have H := yy h
 have AS := yy ha
 clear h ha
 go_enter Tryz.func63, Tryz.ntmps63
 go_wp2_with fail
 have hk : Gro w (w.alloc (.cells #[.func (.func 64) #[] #[]] 104)) := (Kept.refl _ _).alloc _
 have hb := bs114 (H.out.gro hk) hfew id AS.out 115 #[.pointer (some ⟨w.heap.size, 0, none⟩)] eg115 (fun W x hW => clo115 (hW.blk (blk_new _ _)) x id)
 refine hb.mono ?_
 rintro e w1 ⟨i, rfl, h1, h2⟩
 have H1 := yy h1
 have HR := yy h2
 clear h1 h2 hb
 generalize hq : decide (id ∈ l.map Ofr.id) = q
 have HQ := yy hq
 clear hq
 go_wp2
 go_ret2
 exact ⟨i, by rw [HQ.out]; rfl, H1.out, hk.trans HR.out⟩
set_option maxRecDepth 100000 in
theorem clo122 {W : World} {B : Nat} (hB : W.heap[B]? = some (.cells #[.func (.func 75) #[] #[]] 112 (0, 0))) (x : Wsh) (id : Int) :
  Calls Tryz.prog 122 #[.agg #[.int .i64 x.edge, .int .i64 x.src, .int .i64 x.dst, .int .i64 x.weight], .int .i64 id, .pointer (some ⟨B, 0, none⟩)] W fun e w' => e = .returned (.int .i64 (cmpI x.edge id)) ∧ Gro W w' := by
 have c0 := blk_cell hB 0
 simp only [List.getElem?_toArray, List.getElem?_cons_zero] at c0
 have HB := yy hB
 clear hB
 have hlt : B < W.heap.size := World.block_lt_of_cell? W _ c0
 go_enter Tryz.func122, Tryz.ntmps122
 go_wp2_with fail
 refine (key75 x _).mono ?_
 rintro e w1 ⟨rfl, h1⟩
 go_wp2_with fail
 refine (cmp116 _ id _).mono ?_
 rintro e w2 ⟨rfl, rfl⟩
 go_wp2
 go_ret
 exact ⟨rfl, ((Kept.refl _ _).alloc _).trans h1⟩
theorem eg122 : ∀ args w, (callFunc 122 args).run Tryz.prog w = .ok (.enter 122 args) w := enters_of Tryz.func122 (by kernel_rfl) rfl
set_option maxRecDepth 100000 in
theorem place74 {w : World} {a : Option Addr} {n c : Nat} {l : List Wsh} (h : Lst w a n c l) (hfew : l.length ≤ 4611686018427387903) (id : Int) (ha : (l.map Wsh.edge).Pairwise (· < ·)) :
  Calls Tryz.prog 74 #[.slice a n c, .int .i64 id, .func (.func 75) #[] #[]] w fun e w' => ∃ i : Nat, e = .returned (.tuple #[.int .i64 i, .bool (decide (id ∈ l.map Wsh.edge))]) ∧ IsPos (l.map Wsh.edge) id i ∧ Gro w w' := by
 have H := yy h
 have AS := yy ha
 clear h ha
 go_enter Tryz.func74, Tryz.ntmps74
 go_wp2_with fail
 have hk : Gro w (w.alloc (.cells #[.func (.func 75) #[] #[]] 112)) := (Kept.refl _ _).alloc _
 have hb := bs121 (H.out.gro hk) hfew id AS.out 122 #[.pointer (some ⟨w.heap.size, 0, none⟩)] eg122 (fun W x hW => clo122 (hW.blk (blk_new _ _)) x id)
 refine hb.mono ?_
 rintro e w1 ⟨i, rfl, h1, h2⟩
 have H1 := yy h1
 have HR := yy h2
 clear h1 h2 hb
 generalize hq : decide (id ∈ l.map Wsh.edge) = q
 have HQ := yy hq
 clear hq
 go_wp2
 go_ret2
 exact ⟨i, by rw [HQ.out]; rfl, H1.out, hk.trans HR.out⟩
set_option maxRecDepth 100000 in
theorem clo173 {W : World} {B : Nat} (hB : W.heap[B]? = some (.cells #[.func (.func 126) #[] #[]] 124 (0, 0))) (x : Vtx) (id : Int) :
  Calls Tryz.prog 173 #[.agg #[.int .i64 x.id, .int .i64 x.side], .int .i64 id, .pointer (some ⟨B, 0, none⟩)] W fun e w' => e = .returned (.int .i64 (cmpI x.id id)) ∧ Gro W w' := by
 have c0 := blk_cell hB 0
 simp only [List.getElem?_toArray, List.getElem?_cons_zero] at c0
 have HB := yy hB
 clear hB
 have hlt : B < W.heap.size := World.block_lt_of_cell? W _ c0
 go_enter Tryz.func173, Tryz.ntmps173
 go_wp2_with fail
 refine (key126 x _).mono ?_
 rintro e w1 ⟨rfl, h1⟩
 go_wp2_with fail
 refine (cmp116 _ id _).mono ?_
 rintro e w2 ⟨rfl, rfl⟩
 go_wp2
 go_ret
 exact ⟨rfl, ((Kept.refl _ _).alloc _).trans h1⟩
theorem eg173 : ∀ args w, (callFunc 173 args).run Tryz.prog w = .ok (.enter 173 args) w := enters_of Tryz.func173 (by kernel_rfl) rfl
set_option maxRecDepth 100000 in
theorem place125 {w : World} {a : Option Addr} {n c : Nat} {l : List Vtx} (h : Lst w a n c l) (hfew : l.length ≤ 4611686018427387903) (id : Int) (ha : (l.map Vtx.id).Pairwise (· < ·)) :
  Calls Tryz.prog 125 #[.slice a n c, .int .i64 id, .func (.func 126) #[] #[]] w fun e w' => ∃ i : Nat, e = .returned (.tuple #[.int .i64 i, .bool (decide (id ∈ l.map Vtx.id))]) ∧ IsPos (l.map Vtx.id) id i ∧ Gro w w' := by
 have H := yy h
 have AS := yy ha
 clear h ha
 go_enter Tryz.func125, Tryz.ntmps125
 go_wp2_with fail
 have hk : Gro w (w.alloc (.cells #[.func (.func 126) #[] #[]] 124)) := (Kept.refl _ _).alloc _
 have hb := bs172 (H.out.gro hk) hfew id AS.out 173 #[.pointer (some ⟨w.heap.size, 0, none⟩)] eg173 (fun W x hW => clo173 (hW.blk (blk_new _ _)) x id)
 refine hb.mono ?_
 rintro e w1 ⟨i, rfl, h1, h2⟩
 have H1 := yy h1
 have HR := yy h2
 clear h1 h2 hb
 generalize hq : decide (id ∈ l.map Vtx.id) = q
 have HQ := yy hq
 clear hq
 go_wp2
 go_ret2
 exact ⟨i, by rw [HQ.out]; rfl, H1.out, hk.trans HR.out⟩
set_option maxRecDepth 100000 in
theorem clo177 {W : World} {B : Nat} (hB : W.heap[B]? = some (.cells #[.func (.func 129) #[] #[]] 78 (0, 0))) (x : Edg) (id : Int) :
  Calls Tryz.prog 177 #[.agg #[.int .i64 x.id, .int .i64 x.src, .int .i64 x.dst, .bool x.dir, .int .i64 x.weight, .int .i64 x.cap], .int .i64 id, .pointer (some ⟨B, 0, none⟩)] W fun e w' => e = .returned (.int .i64 (cmpI x.id id)) ∧ Gro W w' := by
 have c0 := blk_cell hB 0
 simp only [List.getElem?_toArray, List.getElem?_cons_zero] at c0
 have HB := yy hB
 clear hB
 have hlt : B < W.heap.size := World.block_lt_of_cell? W _ c0
 go_enter Tryz.func177, Tryz.ntmps177
 go_wp2_with fail
 refine (key129 x _).mono ?_
 rintro e w1 ⟨rfl, h1⟩
 go_wp2_with fail
 refine (cmp116 _ id _).mono ?_
 rintro e w2 ⟨rfl, rfl⟩
 go_wp2
 go_ret
 exact ⟨rfl, ((Kept.refl _ _).alloc _).trans h1⟩
theorem eg177 : ∀ args w, (callFunc 177 args).run Tryz.prog w = .ok (.enter 177 args) w := enters_of Tryz.func177 (by kernel_rfl) rfl
set_option maxRecDepth 100000 in
theorem place128 {w : World} {a : Option Addr} {n c : Nat} {l : List Edg} (h : Lst w a n c l) (hfew : l.length ≤ 4611686018427387903) (id : Int) (ha : (l.map Edg.id).Pairwise (· < ·)) :
  Calls Tryz.prog 128 #[.slice a n c, .int .i64 id, .func (.func 129) #[] #[]] w fun e w' => ∃ i : Nat, e = .returned (.tuple #[.int .i64 i, .bool (decide (id ∈ l.map Edg.id))]) ∧ IsPos (l.map Edg.id) id i ∧ Gro w w' := by
 have H := yy h
 have AS := yy ha
 clear h ha
 go_enter Tryz.func128, Tryz.ntmps128
 go_wp2_with fail
 have hk : Gro w (w.alloc (.cells #[.func (.func 129) #[] #[]] 78)) := (Kept.refl _ _).alloc _
 have hb := bs176 (H.out.gro hk) hfew id AS.out 177 #[.pointer (some ⟨w.heap.size, 0, none⟩)] eg177 (fun W x hW => clo177 (hW.blk (blk_new _ _)) x id)
 refine hb.mono ?_
 rintro e w1 ⟨i, rfl, h1, h2⟩
 have H1 := yy h1
 have HR := yy h2
 clear h1 h2 hb
 generalize hq : decide (id ∈ l.map Edg.id) = q
 have HQ := yy hq
 clear hq
 go_wp2
 go_ret2
 exact ⟨i, by rw [HQ.out]; rfl, H1.out, hk.trans HR.out⟩
set_option maxRecDepth 100000 in
theorem clo221 {W : World} {B : Nat} (hB : W.heap[B]? = some (.cells #[.func (.func 154) #[] #[]] 171 (0, 0))) (x : Pty) (id : Int) :
  Calls Tryz.prog 221 #[.agg #[.int .i64 x.id, .int .i64 x.budget], .int .i64 id, .pointer (some ⟨B, 0, none⟩)] W fun e w' => e = .returned (.int .i64 (cmpI x.id id)) ∧ Gro W w' := by
 have c0 := blk_cell hB 0
 simp only [List.getElem?_toArray, List.getElem?_cons_zero] at c0
 have HB := yy hB
 clear hB
 have hlt : B < W.heap.size := World.block_lt_of_cell? W _ c0
 go_enter Tryz.func221, Tryz.ntmps221
 go_wp2_with fail
 refine (key154 x _).mono ?_
 rintro e w1 ⟨rfl, h1⟩
 go_wp2_with fail
 refine (cmp116 _ id _).mono ?_
 rintro e w2 ⟨rfl, rfl⟩
 go_wp2
 go_ret
 exact ⟨rfl, ((Kept.refl _ _).alloc _).trans h1⟩
theorem eg221 : ∀ args w, (callFunc 221 args).run Tryz.prog w = .ok (.enter 221 args) w := enters_of Tryz.func221 (by kernel_rfl) rfl
set_option maxRecDepth 100000 in
theorem place206 {w : World} {a : Option Addr} {n c : Nat} {l : List Pty} (h : Lst w a n c l) (hfew : l.length ≤ 4611686018427387903) (id : Int) (ha : (l.map Pty.id).Pairwise (· < ·)) :
  Calls Tryz.prog 206 #[.slice a n c, .int .i64 id, .func (.func 154) #[] #[]] w fun e w' => ∃ i : Nat, e = .returned (.tuple #[.int .i64 i, .bool (decide (id ∈ l.map Pty.id))]) ∧ IsPos (l.map Pty.id) id i ∧ Gro w w' := by
 have H := yy h
 have AS := yy ha
 clear h ha
 go_enter Tryz.func206, Tryz.ntmps206
 go_wp2_with fail
 have hk : Gro w (w.alloc (.cells #[.func (.func 154) #[] #[]] 171)) := (Kept.refl _ _).alloc _
 have hb := bs220 (H.out.gro hk) hfew id AS.out 221 #[.pointer (some ⟨w.heap.size, 0, none⟩)] eg221 (fun W x hW => clo221 (hW.blk (blk_new _ _)) x id)
 refine hb.mono ?_
 rintro e w1 ⟨i, rfl, h1, h2⟩
 have H1 := yy h1
 have HR := yy h2
 clear h1 h2 hb
 generalize hq : decide (id ∈ l.map Pty.id) = q
 have HQ := yy hq
 clear hq
 go_wp2
 go_ret2
 exact ⟨i, by rw [HQ.out]; rfl, H1.out, hk.trans HR.out⟩
end Go.Proofs.YthfagcdjbmhhcaaGreat
