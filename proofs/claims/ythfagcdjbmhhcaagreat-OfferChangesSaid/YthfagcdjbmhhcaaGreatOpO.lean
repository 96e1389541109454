/- what the laws' arguments read as. -/
import Derived.Test.YthfagcdjbmhhcaaGreatK18
import Derived.ProofKit
import Derived.Deep.Slices
import Derived.OpenShut
import Derived.SizedLaws
set_option linter.unusedVariables false
set_option linter.unusedSimpArgs false
namespace Go.Proofs.YthfagcdjbmhhcaaGreat
open Go.RowKit Go.ChangeShapes Go.WideShapes Go.ChangeAt
theorem spot_of_cell {w : World} {a : Addr} {v : Value} (h : w.cell? a = some v) : a.spot = none := by
 unfold World.cell? at h
 split at h
 ·split at h
  ·cases h
  rename_i hs; simpa using hs
 cases h
theorem add_at (b off n : Nat) : (⟨b, off, none⟩ : Addr).add n = ⟨b, off + n, none⟩ := by unfold Addr.add; split <;> simp_all
theorem gro_below {w w' : World} (h : Gro w w') : Below w.heap.size w w' := ⟨h.os, h.tape, h.output, h.size, fun k hk => h.block k hk (fun hf => hf)⟩
theorem flat_split {α : Type} [Rec α] {l : List α} {i : Nat} {v : Value} (h : (flat l)[i]? = some v) : ∃ q r : Nat, ∃ hq : q < l.length, r < Rec.k α ∧ i = q * Rec.k α + r ∧ (Rec.cs l[q])[r]? = some v := by
 have hi := (List.getElem?_eq_some_iff.1 h).1
 rw [flat_length] at hi
 have hk : 0 < Rec.k α := by
  rcases Nat.eq_zero_or_pos (Rec.k α) with h0 | h0
  ·rw [h0, Nat.mul_zero] at hi; omega
  exact h0
 have hq : i / Rec.k α < l.length := Nat.div_lt_of_lt_mul (by rw [Nat.mul_comm]; exact hi)
 have e : i = i / Rec.k α * Rec.k α + i % Rec.k α := by rw [Nat.mul_comm]; exact (Nat.div_add_mod _ _).symm
 refine ⟨_, _, hq, Nat.mod_lt _ hk, e, ?_⟩
 rw [← flat_get l _ hq _ (Nat.mod_lt _ hk), ← e]
 exact h
instance : Inhabited A5 := ⟨⟨0, 0, 0, 0, 0⟩⟩
instance : Inhabited A6 := ⟨⟨0, 0, 0, 0, 0, 0⟩⟩
section
variable {H : Type} {enc : TypeId × Value → H} {w : World} {base : Nat} {spare : Nat → Bool} {held : Bool}
theorem len5_of {α : Type} {l : List α} (h : l.length = 5) : ∃ a b c d e, l = [a, b, c, d, e] := by
 match l, h with
 | [a, b, c, d, e], _ => exact ⟨a, b, c, d, e, rfl⟩
theorem a5_of {cs : List Value} {fuel : Nat} {x : DataW H × List MemPlace} (ht : DataW.trod enc Tryz.prog w base spare held fuel 87 cs = some x) : ∃ x : A5, cs = Rec.cs x ∧ x.ok := by
 obtain ⟨xs, m, _, _, hcl, hxl, hfs⟩ := DataW.trod_array Tryz.underlying87 ht
 have hc : Tryz.prog.cellsOf 87 = 5 := by kernel_rfl
 rw [hc] at hcl
 obtain ⟨v0, v1, v2, v3, v4, rfl⟩ := len5_of hcl
 obtain ⟨y0, y1, y2, y3, y4, rfl⟩ := len5_of hxl
 have e3 : Tryz.prog.cellsOf 3 = 1 := by kernel_rfl
 have g0 := hfs 0 (by omega)
 have g1 := hfs 1 (by omega)
 have g2 := hfs 2 (by omega)
 have g3 := hfs 3 (by omega)
 have g4 := hfs 4 (by omega)
 simp [e3] at g0 g1 g2 g3 g4
 obtain ⟨o0, ho0, _, wo0⟩ := DataW.trod_int Tryz.underlying3 g0
 simp at ho0
 subst ho0
 have b0 := bounds_i64 wo0
 obtain ⟨o1, ho1, _, wo1⟩ := DataW.trod_int Tryz.underlying3 g1
 simp at ho1
 subst ho1
 have b1 := bounds_i64 wo1
 obtain ⟨o2, ho2, _, wo2⟩ := DataW.trod_int Tryz.underlying3 g2
 simp at ho2
 subst ho2
 have b2 := bounds_i64 wo2
 obtain ⟨o3, ho3, _, wo3⟩ := DataW.trod_int Tryz.underlying3 g3
 simp at ho3
 subst ho3
 have b3 := bounds_i64 wo3
 obtain ⟨o4, ho4, _, wo4⟩ := DataW.trod_int Tryz.underlying3 g4
 simp at ho4
 subst ho4
 have b4 := bounds_i64 wo4
 exact ⟨⟨o0, o1, o2, o3, o4⟩, rfl, b0, b1, b2, b3, b4⟩
theorem a5s_of {a : Option Addr} {len cap : Nat} {d : DataW H} {ps : List MemPlace} (h : DataW.Trod enc Tryz.prog w base spare held 22 (.slice a len cap) d ps)
  (hs : ∀ els sp, d = .slice els sp → (els.length + sp.length) * Tryz.prog.bytesOf 87 ≤ reachBytes) : ∃ l : List A5, LV w (.slice a len cap) l ∧ ∀ x ∈ l, x.ok := by
 obtain ⟨fuel, hf⟩ := h
 rcases DataW.trod_slice Tryz.underlying22 hf with ⟨hcs, _⟩ | ⟨ad, len', cap', elems, rest, n, _, hcs, hx, _, hl, hm, hlen, hel, _⟩
 ·simp [Value.cells] at hcs
  obtain ⟨rfl, rfl, rfl⟩ := hcs
  exact ⟨[], ⟨none, 0, rfl, rfl, Nat.zero_le _, by simp, .inl rfl⟩, fun x hx => (by cases hx)⟩
 simp [Value.cells] at hcs
 obtain ⟨rfl, rfl, rfl⟩ := hcs
 have hbig : len ≤ 4611686018427387903 := by
  injection hx with hx _
  have h1 := hs _ _ hx
  have hb : Tryz.prog.bytesOf 87 = 40 := by kernel_rfl
  rw [hb, List.length_map, List.length_map, hlen] at h1
  have h2 := reachBytes_lt
  omega
 have hc : Tryz.prog.cellsOf 87 = 5 := by kernel_rfl
 have key : ∀ i, i < len → ∃ x : A5, (∀ j v, (Rec.cs x)[j]? = some v → w.cell? ((ad.add (i * 5)).add j) = some v) ∧ x.ok := by
  intro i hi
  have h1 := hel i hi
  rw [List.getElem?_eq_getElem (by omega)] at h1
  obtain ⟨cs, hcc, ht⟩ := Option.bind_eq_some_iff.1 h1
  obtain ⟨_, hcl, hat⟩ := World.cells?_some hcc
  rw [hc] at hat hcl
  obtain ⟨x, rfl, hok⟩ := a5_of ht
  refine ⟨x, fun j v hv => ?_, hok⟩
  have hj : j < 5 := by
   have := (List.getElem?_eq_some_iff.1 hv).1
   simpa [Rec.cs] using this
  rw [hat j hj, hv]
 obtain ⟨f, hf'⟩ := Go.Deep.choose_lt key
 refine ⟨(List.range len).map f, ⟨some ad, cap, by simp, by simp, by simpa using hl, by simpa using hbig, ?_⟩, fun x hx => ?_⟩
 ·rcases Nat.eq_zero_or_pos len with h0 | h0
  ·left; rw [h0]; rfl
  right
  have h00 := (hf' 0 h0).1 0 _ rfl
  simp [Addr.add] at h00
  obtain ⟨b, off, sp⟩ := ad
  have hs : sp = none := spot_of_cell h00
  subst hs
  refine ⟨b, off, rfl, World.block_lt_of_cell? w _ h00, fun i v hv => ?_⟩
  obtain ⟨q, r, hq, hr, hqr, hrow⟩ := flat_split hv
  simp only [List.length_map, List.length_range] at hq
  have h9 := (hf' q hq).1 r v (by simpa using hrow)
  rw [add_at, add_at] at h9
  rw [hqr, ← Nat.add_assoc]
  exact h9
 obtain ⟨i, hi, rfl⟩ := List.mem_map.1 hx
 exact (hf' i (List.mem_range.1 hi)).2
theorem len6_of {α : Type} {l : List α} (h : l.length = 6) : ∃ a b c d e f, l = [a, b, c, d, e, f] := by
 match l, h with
 | [a, b, c, d, e, f], _ => exact ⟨a, b, c, d, e, f, rfl⟩
theorem a6_of {cs : List Value} {fuel : Nat} {x : DataW H × List MemPlace} (ht : DataW.trod enc Tryz.prog w base spare held fuel 63 cs = some x) : ∃ x : A6, cs = Rec.cs x ∧ x.ok := by
 obtain ⟨xs, m, _, _, hcl, hxl, hfs⟩ := DataW.trod_array Tryz.underlying63 ht
 have hc : Tryz.prog.cellsOf 63 = 6 := by kernel_rfl
 rw [hc] at hcl
 obtain ⟨v0, v1, v2, v3, v4, v5, rfl⟩ := len6_of hcl
 obtain ⟨y0, y1, y2, y3, y4, y5, rfl⟩ := len6_of hxl
 have e3 : Tryz.prog.cellsOf 3 = 1 := by kernel_rfl
 have g0 := hfs 0 (by omega)
 have g1 := hfs 1 (by omega)
 have g2 := hfs 2 (by omega)
 have g3 := hfs 3 (by omega)
 have g4 := hfs 4 (by omega)
 have g5 := hfs 5 (by omega)
 simp [e3] at g0 g1 g2 g3 g4 g5
 obtain ⟨o0, ho0, _, wo0⟩ := DataW.trod_int Tryz.underlying3 g0
 simp at ho0
 subst ho0
 have b0 := bounds_i64 wo0
 obtain ⟨o1, ho1, _, wo1⟩ := DataW.trod_int Tryz.underlying3 g1
 simp at ho1
 subst ho1
 have b1 := bounds_i64 wo1
 obtain ⟨o2, ho2, _, wo2⟩ := DataW.trod_int Tryz.underlying3 g2
 simp at ho2
 subst ho2
 have b2 := bounds_i64 wo2
 obtain ⟨o3, ho3, _, wo3⟩ := DataW.trod_int Tryz.underlying3 g3
 simp at ho3
 subst ho3
 have b3 := bounds_i64 wo3
 obtain ⟨o4, ho4, _, wo4⟩ := DataW.trod_int Tryz.underlying3 g4
 simp at ho4
 subst ho4
 have b4 := bounds_i64 wo4
 obtain ⟨o5, ho5, _, wo5⟩ := DataW.trod_int Tryz.underlying3 g5
 simp at ho5
 subst ho5
 have b5 := bounds_i64 wo5
 exact ⟨⟨o0, o1, o2, o3, o4, o5⟩, rfl, b0, b1, b2, b3, b4, b5⟩
theorem a6s_of {a : Option Addr} {len cap : Nat} {d : DataW H} {ps : List MemPlace} (h : DataW.Trod enc Tryz.prog w base spare held 23 (.slice a len cap) d ps)
  (hs : ∀ els sp, d = .slice els sp → (els.length + sp.length) * Tryz.prog.bytesOf 63 ≤ reachBytes) : ∃ l : List A6, LV w (.slice a len cap) l ∧ ∀ x ∈ l, x.ok := by
 obtain ⟨fuel, hf⟩ := h
 rcases DataW.trod_slice Tryz.underlying23 hf with ⟨hcs, _⟩ | ⟨ad, len', cap', elems, rest, n, _, hcs, hx, _, hl, hm, hlen, hel, _⟩
 ·simp [Value.cells] at hcs
  obtain ⟨rfl, rfl, rfl⟩ := hcs
  exact ⟨[], ⟨none, 0, rfl, rfl, Nat.zero_le _, by simp, .inl rfl⟩, fun x hx => (by cases hx)⟩
 simp [Value.cells] at hcs
 obtain ⟨rfl, rfl, rfl⟩ := hcs
 have hbig : len ≤ 4611686018427387903 := by
  injection hx with hx _
  have h1 := hs _ _ hx
  have hb : Tryz.prog.bytesOf 63 = 48 := by kernel_rfl
  rw [hb, List.length_map, List.length_map, hlen] at h1
  have h2 := reachBytes_lt
  omega
 have hc : Tryz.prog.cellsOf 63 = 6 := by kernel_rfl
 have key : ∀ i, i < len → ∃ x : A6, (∀ j v, (Rec.cs x)[j]? = some v → w.cell? ((ad.add (i * 6)).add j) = some v) ∧ x.ok := by
  intro i hi
  have h1 := hel i hi
  rw [List.getElem?_eq_getElem (by omega)] at h1
  obtain ⟨cs, hcc, ht⟩ := Option.bind_eq_some_iff.1 h1
  obtain ⟨_, hcl, hat⟩ := World.cells?_some hcc
  rw [hc] at hat hcl
  obtain ⟨x, rfl, hok⟩ := a6_of ht
  refine ⟨x, fun j v hv => ?_, hok⟩
  have hj : j < 6 := by
   have := (List.getElem?_eq_some_iff.1 hv).1
   simpa [Rec.cs] using this
  rw [hat j hj, hv]
 obtain ⟨f, hf'⟩ := Go.Deep.choose_lt key
 refine ⟨(List.range len).map f, ⟨some ad, cap, by simp, by simp, by simpa using hl, by simpa using hbig, ?_⟩, fun x hx => ?_⟩
 ·rcases Nat.eq_zero_or_pos len with h0 | h0
  ·left; rw [h0]; rfl
  right
  have h00 := (hf' 0 h0).1 0 _ rfl
  simp [Addr.add] at h00
  obtain ⟨b, off, sp⟩ := ad
  have hs : sp = none := spot_of_cell h00
  subst hs
  refine ⟨b, off, rfl, World.block_lt_of_cell? w _ h00, fun i v hv => ?_⟩
  obtain ⟨q, r, hq, hr, hqr, hrow⟩ := flat_split hv
  simp only [List.length_map, List.length_range] at hq
  have h9 := (hf' q hq).1 r v (by simpa using hrow)
  rw [add_at, add_at] at h9
  rw [hqr, ← Nat.add_assoc]
  exact h9
 obtain ⟨i, hi, rfl⟩ := List.mem_map.1 hx
 exact (hf' i (List.mem_range.1 hi)).2
end
end Go.Proofs.YthfagcdjbmhhcaaGreat
