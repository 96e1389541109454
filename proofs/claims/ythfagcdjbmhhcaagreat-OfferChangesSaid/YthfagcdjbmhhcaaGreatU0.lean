/- the small functions behind graph.Apply: edge, want, slices.Contains, At, isChange, where they succeed. -/
import Derived.Test.YthfagcdjbmhhcaaGreatK17
set_option linter.unusedVariables false
set_option linter.unusedSimpArgs false
namespace Go.Proofs.YthfagcdjbmhhcaaGreat
open Go.RowKit
attribute [local irreducible] wpQuiet
theorem clo217 (x : Edg) (id : Int) (w : World) : Calls Tryz.prog 217 #[.agg #[.int .i64 x.id, .int .i64 x.src, .int .i64 x.dst, .bool x.dir, .int .i64 x.weight, .int .i64 x.cap], .int .i64 id] w fun e w' => e = .returned (.int .i64 (cmpI x.id id)) ∧ Gro w w' := by
 go_enter Tryz.func217, Tryz.ntmps217
 go_wp2_with (go_at_call 116; refine (cmp116 _ _ _).mono ?_; rintro e w' ⟨rfl, rfl⟩)
 go_ret
 exact ⟨rfl, (Kept.refl _ _).alloc _⟩
theorem eg217 : ∀ args w, (callFunc 217 args).run Tryz.prog w = .ok (.enter 217 args) w := enters_of Tryz.func217 (by kernel_rfl) rfl
set_option maxRecDepth 100000 in
theorem edge190 {w : World} {B : Nat} {v1 v2 v3 : Value} {g : Gr} (hB : ChAt w B v1 v2 v3) (h : LV w v2 g.es) (hfew : g.es.length ≤ 1000000) (ha : (g.es.map Edg.id).Pairwise (· < ·)) (id : Int) :
  Calls Tryz.prog 190 #[.pointer (some ⟨B, 0, none⟩), .int .i64 id] w fun e w' => ∃ i : Nat, e = .returned (.tuple #[.int .i64 i, .bool (decide (id ∈ g.es.map Edg.id))]) ∧ IsPos (g.es.map Edg.id) id i ∧ Gro w w' := by
 obtain ⟨a, c, rfl, hl⟩ := h
 obtain ⟨c0, c1, c2⟩ := hB.cells
 have hlt := World.block_lt_of_cell? w _ c0
 have hb := bs176 hl (by omega) id ha 217 #[] eg217 (fun W x _ => clo217 x id W)
 have HB := yy hb
 clear hb hB hl ha
 generalize hq : decide (id ∈ g.es.map Edg.id) = q at HB
 have HQ := yy hq
 clear hq
 go_enter Tryz.func190, Tryz.ntmps190
 go_wp2_with fail
 refine HB.out.mono ?_
 rintro e w1 ⟨i, rfl, h1, h2⟩
 have H1 := yy h1
 have H2 := yy h2
 clear h1 h2
 go_wp2
 go_ret2
 exact ⟨i, by first | rfl | (rw [HQ.out]; rfl), H1.out, H2.out⟩
theorem want186 (w : World) : Calls Tryz.prog 186 #[.bool true] w fun e w' => e = .returned (.tuple #[]) ∧ w = w' := by
 go_enter Tryz.func186, Tryz.ntmps186
 go_wp2
 go_end0
 exact ⟨rfl, rfl⟩
set_option maxHeartbeats 2000000 in
theorem idx225 {w : World} {v : Value} {l : List Int} (h : LV w v l) (id : Int) (hn : id ∉ l) :
  Calls Tryz.prog 225 #[v, .int .i64 id] w fun e w' => e = .returned (.int .i64 (-1)) ∧ Gro w w' := by
 obtain ⟨a, c, rfl, _, hcap, hbig, hat⟩ := h
 have HA := yy hat
 have HN := yy hn
 clear hat hn
 go_enter Tryz.func225, Tryz.ntmps225
 go_wp2
 go_loopw [8] (fun t wr => ∃ k : Nat, k ≤ l.length ∧ t = .int .i64 k ∧ Gro w wr) (fun t _ => l.length - (intOf t).toNat)
 case atStart => exact ⟨0, Nat.zero_le _, by go_num, Kept.refl _ _⟩
 case round =>
 obtain ⟨k, hk, rfl, hg⟩ := hrel
 have HG := yy hg
 clear hg
 by_cases hlt : k < l.length
 ·obtain ⟨b, off, rfl, hb, hc⟩ := Lst.base ⟨rfl, hcap, hbig, HA.out⟩ hlt
  have hc' := fun i v hv => HG.out.cell (hc i v hv)
  obtain c0 := icells hc' hlt
  have hne : ¬ (id = l[k]) := fun e => HN.out (e ▸ List.getElem_mem hlt)
  clear hc hc'
  generalize l[k] = y at c0 hne
  go_wp2
  go_roundw
  case rel => exact ⟨k + 1, by omega, by go_num, HG.out⟩
  case measure => simp [intOf]; omega
 go_wp2
 go_ret
 exact ⟨rfl, HG.out⟩
theorem con215 {w : World} {v : Value} {l : List Int} (h : LV w v l) (id : Int) (hn : id ∉ l) :
  Calls Tryz.prog 215 #[v, .int .i64 id] w fun e w' => e = .returned (.bool false) ∧ Gro w w' := by
 have HQ := yy (idx225 h id hn)
 clear h hn
 go_enter Tryz.func215, Tryz.ntmps215
 go_wp2_with fail
 refine HQ.out.mono ?_
 rintro e w' ⟨rfl, hg⟩
 have HG := yy hg
 clear hg
 go_wp2
 go_ret
 exact ⟨rfl, HG.out⟩
set_option maxHeartbeats 2000000 in
theorem at187 {w : World} {v1 v2 v3 : Value} {l : List Edg} (h : LV w v2 l) (id : Int) (hn : ∀ e ∈ l, e.src ≠ id ∧ e.dst ≠ id) :
  Calls Tryz.prog 187 #[.agg #[v1, v2, v3], .int .i64 id] w fun e w' => e = .returned (.slice none 0 0) ∧ Gro w w' := by
 obtain ⟨a, c, rfl, _, hcap, hbig, hat⟩ := h
 have HA := yy hat
 have HN := yy hn
 clear hat hn
 go_enter Tryz.func187, Tryz.ntmps187
 go_wp2
 go_loopw [4, 10] (fun o t wr => ∃ k : Nat, k ≤ l.length ∧ o = .slice none 0 0 ∧ t = .int .i64 k ∧ Gro w wr) (fun _ t _ => l.length - (intOf t).toNat)
 case atStart => exact ⟨0, Nat.zero_le _, rfl, by go_num, (Kept.refl _ _).alloc _⟩
 case round =>
 obtain ⟨k, hk, rfl, rfl, hg⟩ := hrel
 have HG := yy hg
 clear hg
 by_cases hlt : k < l.length
 ·obtain ⟨b, off, rfl, hb, hc⟩ := Lst.base ⟨rfl, hcap, hbig, HA.out⟩ hlt
  have hc' := fun i v hv => HG.out.cell (hc i v hv)
  obtain ⟨c0, c1, c2, c3, c4, c5⟩ := ecells hc' hlt
  obtain ⟨n1, n2⟩ := HN.out l[k] (List.getElem_mem hlt)
  clear hc hc'
  generalize l[k] = y at c0 c1 c2 c3 c4 c5 n1 n2
  have m1 : ¬ (y.src = id) := n1
  have m2 : ¬ (y.dst = id) := n2
  have m3 : (y.src == id) = false := by simp [m1]
  have m4 : (y.dst == id) = false := by simp [m2]
  clear n1 n2
  go_wp2
  go_roundw
  case rel => exact ⟨k + 1, by omega, rfl, by go_num, HG.out.alloc _⟩
  case measure => simp [intOf]; omega
 go_wp2
 go_ret
 exact ⟨rfl, HG.out⟩
end Go.Proofs.YthfagcdjbmhhcaaGreat
