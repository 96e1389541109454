/- arguments that are books, offers, wishes, lists of numbers. -/
import Derived.Test.YthfagcdjbmhhcaaGreatOpR
set_option linter.unusedVariables false
set_option linter.unusedSimpArgs false
namespace Go.Proofs.YthfagcdjbmhhcaaGreat
open Go.RowKit Go.ChangeShapes Go.WideShapes Go.ChangeAt
instance : Inhabited Pty := ⟨⟨0, 0⟩⟩
instance : Inhabited Wsh := ⟨⟨0, 0, 0, 0⟩⟩
instance : Inhabited Ofr := ⟨⟨0, 0, 0, 0, 0, 0, 0⟩⟩
theorem len2_of {α : Type} {l : List α} (h : l.length = 2) : ∃ a b, l = [a, b] := by
 match l, h with
 | [a, b], _ => exact ⟨a, b, rfl⟩
theorem len4_of {α : Type} {l : List α} (h : l.length = 4) : ∃ a b c d, l = [a, b, c, d] := by
 match l, h with
 | [a, b, c, d], _ => exact ⟨a, b, c, d, rfl⟩
theorem len7_of {α : Type} {l : List α} (h : l.length = 7) : ∃ a b c d e f g, l = [a, b, c, d, e, f, g] := by
 match l, h with
 | [a, b, c, d, e, f, g], _ => exact ⟨a, b, c, d, e, f, g, rfl⟩
section
variable {H : Type} {enc : TypeId × Value → H} {w : World} {base : Nat} {spare : Nat → Bool} {held : Bool}
theorem recs_of {α : Type} [Rec α] [Inhabited α] {sty ety : TypeId} (hu : Tryz.prog.underlying sty = some (.slice ety)) (hc : Tryz.prog.cellsOf ety = Rec.k α) (hk : 0 < Rec.k α)
  (elem : ∀ {cs : List Value} {fuel : Nat} {x : DataW H × List MemPlace}, DataW.trod enc Tryz.prog w base spare held fuel ety cs = some x → ∃ x : α, cs = Rec.cs x)
  {cs0 : List Value} {fuel : Nat} {x : DataW H × List MemPlace} (hf : DataW.trod enc Tryz.prog w base spare held fuel sty cs0 = some x)
  (hb : 0 < Tryz.prog.bytesOf ety) (hs : ∀ els sp, x.1 = .slice els sp → (els.length + sp.length) * Tryz.prog.bytesOf ety ≤ reachBytes) : ∃ (a : Option Addr) (c : Nat) (l : List α), cs0 = [.slice a l.length c] ∧ Lst w a l.length c l := by
 rcases DataW.trod_slice hu hf with ⟨hcs, _⟩ | ⟨ad, len', cap', elems, rest, n, _, hcs, hx, _, hl, hm, hlen, hel, _⟩
 ·exact ⟨none, 0, [], hcs, ⟨rfl, Nat.zero_le _, by simp, .inl rfl⟩⟩
 ·have hbig : len' ≤ 4611686018427387903 := by
   have h1 := hs _ _ (by rw [hx])
   rw [List.length_map, List.length_map, hlen] at h1
   have h2 := reachBytes_lt
   have h3 : len' * 1 ≤ (len' + rest.length) * Tryz.prog.bytesOf ety := Nat.mul_le_mul (by omega) hb
   omega
  have key : ∀ i, i < len' → ∃ x : α, ∀ j v, (Rec.cs x)[j]? = some v → w.cell? ((ad.add (i * Rec.k α)).add j) = some v := by
   intro i hi
   have h1 := hel i hi
   rw [List.getElem?_eq_getElem (by omega)] at h1
   obtain ⟨cs, hcc, ht⟩ := Option.bind_eq_some_iff.1 h1
   obtain ⟨_, hcl, hat⟩ := World.cells?_some hcc
   rw [hc] at hat hcl
   obtain ⟨x, rfl⟩ := elem ht
   refine ⟨x, fun j v hv => ?_⟩
   have hj : j < Rec.k α := by
    have := (List.getElem?_eq_some_iff.1 hv).1
    rwa [Rec.len] at this
   rw [hat j hj, hv]
  obtain ⟨f, hf'⟩ := Go.Deep.choose_lt key
  refine ⟨some ad, cap', (List.range len').map f, by simpa using hcs, by simp, by simpa using hl, by simpa using hbig, ?_⟩
  rcases Nat.eq_zero_or_pos len' with h0 | h0
  ·left; rw [h0]; rfl
  ·right
   have h00 : ∃ v, w.cell? ad = some v := by
    have h1 : 0 < (Rec.cs (f 0)).length := by rw [Rec.len]; exact hk
    have h2 := hf' 0 h0 0 _ (List.getElem?_eq_getElem h1)
    simp [Addr.add] at h2
    exact ⟨_, h2⟩
   obtain ⟨v0, h00⟩ := h00
   obtain ⟨b, off, sp⟩ := ad
   have hs : sp = none := spot_of_cell h00
   subst hs
   refine ⟨b, off, rfl, World.block_lt_of_cell? w _ h00, fun i v hv => ?_⟩
   obtain ⟨q, r, hq, hr, hqr, hrow⟩ := flat_split hv
   simp only [List.length_map, List.length_range] at hq
   have h9 := hf' q hq r v (by simpa using hrow)
   rw [add_at, add_at] at h9
   rw [hqr, ← Nat.add_assoc]
   exact h9
theorem int_of {cs : List Value} {fuel : Nat} {x : DataW H × List MemPlace} (ht : DataW.trod enc Tryz.prog w base spare held fuel 3 cs = some x) : ∃ n : Int, cs = [.int .i64 n] := by
 obtain ⟨n, h, _⟩ := DataW.trod_int Tryz.underlying3 ht
 exact ⟨n, h⟩
theorem pty_of {cs : List Value} {fuel : Nat} {x : DataW H × List MemPlace} (ht : DataW.trod enc Tryz.prog w base spare held fuel 66 cs = some x) : ∃ x : Pty, cs = Rec.cs x := by
 obtain ⟨xs, m, _, _, hcl, hxl, hfs⟩ := DataW.trod_struct Tryz.underlying66 ht
 have hc : Tryz.prog.cellsOf 66 = 2 := by kernel_rfl
 have e3 : Tryz.prog.cellsOf 3 = 1 := by kernel_rfl
 rw [hc] at hcl
 obtain ⟨v0, v1, rfl⟩ := len2_of hcl
 obtain ⟨y0, y1, rfl⟩ := len2_of hxl
 have g0 := hfs 0 _ rfl
 have g1 := hfs 1 _ rfl
 simp [e3] at g0 g1
 obtain ⟨n0, h0⟩ := int_of g0
 obtain ⟨n1, h1⟩ := int_of g1
 simp at h0 h1
 subst h0 h1
 exact ⟨⟨n0, n1⟩, rfl⟩
theorem wsh_of {cs : List Value} {fuel : Nat} {x : DataW H × List MemPlace} (ht : DataW.trod enc Tryz.prog w base spare held fuel 32 cs = some x) : ∃ x : Wsh, cs = Rec.cs x := by
 obtain ⟨xs, m, _, _, hcl, hxl, hfs⟩ := DataW.trod_struct Tryz.underlying32 ht
 have hc : Tryz.prog.cellsOf 32 = 4 := by kernel_rfl
 have e3 : Tryz.prog.cellsOf 3 = 1 := by kernel_rfl
 rw [hc] at hcl
 obtain ⟨v0, v1, v2, v3, rfl⟩ := len4_of hcl
 obtain ⟨y0, y1, y2, y3, rfl⟩ := len4_of hxl
 have g0 := hfs 0 _ rfl
 have g1 := hfs 1 _ rfl
 have g2 := hfs 2 _ rfl
 have g3 := hfs 3 _ rfl
 simp [e3] at g0 g1 g2 g3
 obtain ⟨n0, h0⟩ := int_of g0
 obtain ⟨n1, h1⟩ := int_of g1
 obtain ⟨n2, h2⟩ := int_of g2
 obtain ⟨n3, h3⟩ := int_of g3
 simp at h0 h1 h2 h3
 subst h0 h1 h2 h3
 exact ⟨⟨n0, n1, n2, n3⟩, rfl⟩
theorem ofr_of {cs : List Value} {fuel : Nat} {x : DataW H × List MemPlace} (ht : DataW.trod enc Tryz.prog w base spare held fuel 30 cs = some x) : ∃ x : Ofr, cs = Rec.cs x := by
 obtain ⟨xs, m, _, _, hcl, hxl, hfs⟩ := DataW.trod_struct Tryz.underlying30 ht
 have hc : Tryz.prog.cellsOf 30 = 7 := by kernel_rfl
 have e3 : Tryz.prog.cellsOf 3 = 1 := by kernel_rfl
 rw [hc] at hcl
 obtain ⟨v0, v1, v2, v3, v4, v5, v6, rfl⟩ := len7_of hcl
 obtain ⟨y0, y1, y2, y3, y4, y5, y6, rfl⟩ := len7_of hxl
 have g0 := hfs 0 _ rfl
 have g1 := hfs 1 _ rfl
 have g2 := hfs 2 _ rfl
 have g3 := hfs 3 _ rfl
 have g4 := hfs 4 _ rfl
 have g5 := hfs 5 _ rfl
 have g6 := hfs 6 _ rfl
 simp [e3] at g0 g1 g2 g3 g4 g5 g6
 obtain ⟨n0, h0⟩ := int_of g0
 obtain ⟨n1, h1⟩ := int_of g1
 obtain ⟨n2, h2⟩ := int_of g2
 obtain ⟨n3, h3⟩ := int_of g3
 obtain ⟨n4, h4⟩ := int_of g4
 obtain ⟨n5, h5⟩ := int_of g5
 obtain ⟨n6, h6⟩ := int_of g6
 simp at h0 h1 h2 h3 h4 h5 h6
 subst h0 h1 h2 h3 h4 h5 h6
 exact ⟨⟨n0, n1, n2, n3, n4, n5, n6⟩, rfl⟩
theorem ofr_arg {v : Value} {d : DataW H} {ps : List MemPlace} (h : DataW.Trod enc Tryz.prog w base spare held 30 v d ps) (ho : ∃ cs, v = .agg cs) : ∃ x : Ofr, v = .agg #[.int .i64 x.id, .int .i64 x.party, .int .i64 x.side, .int .i64 x.place, .int .i64 x.price, .int .i64 x.until_, .int .i64 x.state] := by
 obtain ⟨cs, rfl⟩ := ho
 obtain ⟨fuel, hf⟩ := h
 obtain ⟨x, hx⟩ := ofr_of hf
 refine ⟨x, ?_⟩
 have : cs = (Rec.cs x).toArray := by
  apply Array.toList_inj.1
  simpa [Value.cells] using hx
 rw [this]
 rfl
theorem wsh_arg {v : Value} {d : DataW H} {ps : List MemPlace} (h : DataW.Trod enc Tryz.prog w base spare held 32 v d ps) (ho : ∃ cs, v = .agg cs) : ∃ x : Wsh, v = .agg #[.int .i64 x.edge, .int .i64 x.src, .int .i64 x.dst, .int .i64 x.weight] := by
 obtain ⟨cs, rfl⟩ := ho
 obtain ⟨fuel, hf⟩ := h
 obtain ⟨x, hx⟩ := wsh_of hf
 refine ⟨x, ?_⟩
 have : cs = (Rec.cs x).toArray := by
  apply Array.toList_inj.1
  simpa [Value.cells] using hx
 rw [this]
 rfl
theorem ints_arg {a : Option Addr} {len cap : Nat} {d : DataW H} {ps : List MemPlace} (h : DataW.Trod enc Tryz.prog w base spare held 33 (.slice a len cap) d ps)
  (hs : ∀ els sp, d = .slice els sp → (els.length + sp.length) * Tryz.prog.bytesOf 3 ≤ reachBytes) : ∃ l : List Int, LV w (.slice a len cap) l := by
 obtain ⟨fuel, hf⟩ := h
 obtain ⟨a', c', l, e, hl⟩ := recs_of (α := Int) (sty := 33) (ety := 3) Tryz.underlying33 (by kernel_rfl) (by decide) int_of hf (of_decide_eq_true (by kernel_rfl)) hs
 simp [Value.cells] at e
 obtain ⟨rfl, rfl, rfl⟩ := e
 exact ⟨l, _, _, rfl, hl⟩
theorem book_arg {v : Value} {d : DataW H} {ps : List MemPlace} (h : DataW.Trod enc Tryz.prog w base spare held 28 v d ps) (ho : ∃ cs, v = .agg cs) (hs : ∀ n ∈ d.weights Tryz.prog 28, n ≤ reachBytes) : ∃ b : Bk, BkV w v b := by
 obtain ⟨cs, rfl⟩ := ho
 obtain ⟨fuel, hf⟩ := h
 obtain ⟨xs, m, _, hx, hcl, hxl, hfs⟩ := DataW.trod_struct Tryz.underlying28 hf
 have hc : Tryz.prog.cellsOf 28 = 4 := by kernel_rfl
 have e3 : Tryz.prog.cellsOf 3 = 1 := by kernel_rfl
 have e24 : Tryz.prog.cellsOf 24 = 1 := by kernel_rfl
 have e25 : Tryz.prog.cellsOf 25 = 1 := by kernel_rfl
 have e26 : Tryz.prog.cellsOf 26 = 1 := by kernel_rfl
 rw [hc] at hcl
 obtain ⟨v0, v1, v2, v3, hcs⟩ := len4_of hcl
 obtain ⟨y0, y1, y2, y3, rfl⟩ := len4_of hxl
 have g0 := hfs 0 _ rfl
 have g1 := hfs 1 _ rfl
 have g2 := hfs 2 _ rfl
 have g3 := hfs 3 _ rfl
 rw [hcs] at g0 g1 g2 g3
 simp [e3, e24, e25, e26] at g0 g1 g2 g3
 injection hx with hd _
 subst hd
 have hw : ∀ n, (n ∈ y1.1.weights Tryz.prog 24 ∨ n ∈ y2.1.weights Tryz.prog 25 ∨ n ∈ y3.1.weights Tryz.prog 26) → n ≤ reachBytes := by
  intro n hn
  refine hs n ?_
  simp only [DataW.weights, Tryz.underlying28, DataW.weightsEach, List.map_cons, List.map_nil, List.mem_append]
  rcases hn with h | h | h
  ·exact .inr (.inl h)
  ·exact .inr (.inr (.inl h))
  exact .inr (.inr (.inr (.inl h)))
 obtain ⟨r, hr⟩ := int_of g0
 obtain ⟨a1, c1, l1, h1, hl1⟩ := recs_of (α := Pty) (sty := 24) (ety := 66) Tryz.underlying24 (by kernel_rfl) (by decide) pty_of g1 (of_decide_eq_true (by kernel_rfl)) (fun els sp e => hw _ (.inl (by rw [e]; simp [DataW.weights, Tryz.underlying24])))
 obtain ⟨a2, c2, l2, h2, hl2⟩ := recs_of (α := Ofr) (sty := 25) (ety := 30) Tryz.underlying25 (by kernel_rfl) (by decide) ofr_of g2 (of_decide_eq_true (by kernel_rfl)) (fun els sp e => hw _ (.inr (.inl (by rw [e]; simp [DataW.weights, Tryz.underlying25]))))
 obtain ⟨a3, c3, l3, h3, hl3⟩ := recs_of (α := Wsh) (sty := 26) (ety := 32) Tryz.underlying26 (by kernel_rfl) (by decide) wsh_of g3 (of_decide_eq_true (by kernel_rfl)) (fun els sp e => hw _ (.inr (.inr (by rw [e]; simp [DataW.weights, Tryz.underlying26]))))
 simp at hr h1 h2 h3
 subst hr h1 h2 h3
 have : cs = #[.int .i64 r, .slice a1 l1.length c1, .slice a2 l2.length c2, .slice a3 l3.length c3] := by
  apply Array.toList_inj.1
  simpa [Value.cells] using hcs
 subst this
 exact ⟨⟨r, l1, l2, l3⟩, _, _, _, rfl, ⟨_, _, rfl, hl1⟩, ⟨_, _, rfl, hl2⟩, ⟨_, _, rfl, hl3⟩⟩
theorem okWide_agg {P : Program} {w : World} {r : Reach} {base : Nat} {t : TypeId} {v : Value} {fs : Array Field} (ht : P.underlying t = some (.struct fs)) (h : Value.okWide P w r base t v) : ∃ cs, v = .agg cs := by
 obtain ⟨cs, h1, _⟩ := okWide_struct ht h
 exact ⟨cs, h1⟩
end
end Go.Proofs.YthfagcdjbmhhcaaGreat
