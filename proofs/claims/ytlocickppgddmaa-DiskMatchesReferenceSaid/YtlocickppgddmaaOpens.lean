import Derived.Test.YtlocickppgddmaaRBLaw
import Derived.ProofKit
import Derived.Deep.Slices
import Derived.OpenShut
namespace Go.Proofs.Ytlocickppgddmaa
open Go.RowKit Go.ChangeShapes Go.WideShapes Go.ChangeAt

theorem spot_of_cell {w : World} {a : Addr} {v : Value} (h : w.cell? a = some v) : a.spot = none := by
  unfold World.cell? at h
  split at h
  · split at h
    · cases h
    · rename_i hs; simpa using hs
  · cases h
theorem add_at (b off n : Nat) : (⟨b, off, none⟩ : Addr).add n = ⟨b, off + n, none⟩ := by unfold Addr.add; split <;> simp_all

theorem len3 {α : Type} {l : List α} (h : l.length = 3) : ∃ a b c, l = [a, b, c] := by
  match l, h with
  | [a, b, c], _ => exact ⟨a, b, c, rfl⟩

section
variable {H : Type} {enc : TypeId × Value → H} {w : World} {base : Nat} {spare : Nat → Bool} {held : Bool}

theorem wps_of {a : Option Addr} {len cap : Nat} {d : DataW H} {ps : List MemPlace} (h : DataW.Trod enc Try.prog w base spare held 51 (.slice a len cap) d ps) : ∃ l, WPs w a len cap l := by
  obtain ⟨fuel, hf⟩ := h
  rcases DataW.trod_slice Try.underlying51 hf with ⟨hcs, _⟩ | ⟨ad, len', cap', elems, rest, n, _, hcs, _, _, hl, hm, hlen, hel, _⟩
  · simp [Value.cells] at hcs
    obtain ⟨rfl, rfl, rfl⟩ := hcs
    exact ⟨[], rfl, Nat.le_refl _, Nat.zero_le _, fun x hx => (by cases hx), .inl rfl⟩
  · simp [Value.cells] at hcs
    obtain ⟨rfl, rfl, rfl⟩ := hcs
    have key : ∀ i, i < len → ∃ x : Int × ByteArray × Bool, (w.cell? (ad.add (i * 3)) = some (.int .i64 x.1) ∧ w.cell? ((ad.add (i * 3)).add 1) = some (.string x.2.1) ∧ w.cell? ((ad.add (i * 3)).add 2) = some (.bool x.2.2)) ∧
        -9223372036854775808 ≤ x.1 ∧ x.1 ≤ 9223372036854775807 ∧ x.2.1.size ≤ 9223372036854775807 := by
      intro i hi
      have h1 := hel i hi
      rw [List.getElem?_eq_getElem (by omega)] at h1
      obtain ⟨cs, hc, ht⟩ := Option.bind_eq_some_iff.1 h1
      obtain ⟨_, hcl, hat⟩ := World.cells?_some hc
      have hc53 : Try.prog.cellsOf 53 = 3 := by kernel_rfl
      rw [hc53] at hat hcl
      obtain ⟨xs, m, _, _, _, hxl, hfs⟩ := DataW.trod_struct Try.underlying53 ht
      have c0 := hat 0 (by omega)
      have c1 := hat 1 (by omega)
      have c2 := hat 2 (by omega)
      obtain ⟨v0, v1, v2, rfl⟩ := len3 hcl
      obtain ⟨y0, y1, y2, rfl⟩ := len3 (show xs.length = 3 from hxl)
      · · have g0 := hfs 0 _ rfl
          have g1 := hfs 1 _ rfl
          have g2 := hfs 2 _ rfl
          have e3 : Try.prog.cellsOf 3 = 1 := by kernel_rfl
          have e9 : Try.prog.cellsOf 9 = 1 := by kernel_rfl
          have e4 : Try.prog.cellsOf 4 = 1 := by kernel_rfl
          simp [e3, e9, e4] at g0 g1 g2
          obtain ⟨o, ho, _, wo⟩ := DataW.trod_int Try.underlying3 g0
          obtain ⟨b, hb, _, wb⟩ := DataW.trod_string Try.underlying9 g1
          obtain ⟨t, ht', _⟩ := DataW.trod_bool Try.underlying4 g2
          simp at ho hb ht'
          subst ho hb ht'
          have bo := bounds_i64 wo
          exact ⟨(o, b, t), ⟨by simpa [Addr.add] using c0, by simpa using c1, by simpa using c2⟩, bo.1, bo.2, by unfold maxLen at wb; omega⟩
    obtain ⟨f, hf'⟩ := Go.Deep.choose_lt key
    refine ⟨(List.range len).map f, by simp, hl, by unfold maxLen at hm; omega, fun x hx => ?_, ?_⟩
    · obtain ⟨i, hi, rfl⟩ := List.mem_map.1 hx
      exact (hf' i (List.mem_range.1 hi)).2
    · rcases Nat.eq_zero_or_pos len with h0 | h0
      · exact .inl h0
      · right
        have h00 := (hf' 0 h0).1.1
        simp [Addr.add] at h00
        obtain ⟨b, off, sp⟩ := ad
        have hs : sp = none := spot_of_cell h00
        subst hs
        refine ⟨b, off, rfl, World.block_lt_of_cell? w _ h00, fun i hi => ?_⟩
        have hi' : i < len := by simpa using hi
        have := (hf' i hi').1
        rw [add_at, add_at, add_at] at this
        simpa using this

/-- what a []int reads as -/
structure IPs (w : World) (a : Option Addr) (len cap : Nat) (l : List Int) : Prop where
  llen : l.length = len
  lcap : len ≤ cap
  big : cap ≤ 9223372036854775807
  ok : ∀ x ∈ l, -9223372036854775808 ≤ x ∧ x ≤ 9223372036854775807
  at_ : len = 0 ∨ ∃ b off, a = some ⟨b, off, none⟩ ∧ b < w.heap.size ∧ ∀ i (h : i < l.length), w.cell? ⟨b, off + i, none⟩ = some (.int .i64 l[i])

theorem ips_trod {fuel : Nat} {a : Option Addr} {len cap : Nat} {x : DataW H × List MemPlace} (hf : DataW.trod enc Try.prog w base spare held fuel 37 [.slice a len cap] = some x) : ∃ l, IPs w a len cap l := by
  rcases DataW.trod_slice Try.underlying37 hf with ⟨hcs, _⟩ | ⟨ad, len', cap', elems, rest, n, _, hcs, _, _, hl, hm, hlen, hel, _⟩
  · simp at hcs
    obtain ⟨rfl, rfl, rfl⟩ := hcs
    exact ⟨[], rfl, Nat.le_refl _, Nat.zero_le _, fun x hx => (by cases hx), .inl rfl⟩
  · simp at hcs
    obtain ⟨rfl, rfl, rfl⟩ := hcs
    have key : ∀ i, i < len → ∃ x : Int, w.cell? (ad.add i) = some (.int .i64 x) ∧ -9223372036854775808 ≤ x ∧ x ≤ 9223372036854775807 := by
      intro i hi
      have h1 := hel i hi
      rw [List.getElem?_eq_getElem (by omega)] at h1
      obtain ⟨cs, hc, ht⟩ := Option.bind_eq_some_iff.1 h1
      obtain ⟨_, hcl, hat⟩ := World.cells?_some hc
      have hc3 : Try.prog.cellsOf 3 = 1 := by kernel_rfl
      rw [hc3] at hat hcl
      obtain ⟨o, ho, _, wo⟩ := DataW.trod_int Try.underlying3 ht
      have c0 := hat 0 (by omega)
      rw [ho] at c0
      have bo := bounds_i64 wo
      exact ⟨o, by simpa [Addr.add] using c0, bo.1, bo.2⟩
    obtain ⟨f, hf'⟩ := Go.Deep.choose_lt key
    refine ⟨(List.range len).map f, by simp, hl, by unfold maxLen at hm; omega, fun x hx => ?_, ?_⟩
    · obtain ⟨i, hi, rfl⟩ := List.mem_map.1 hx
      exact (hf' i (List.mem_range.1 hi)).2
    · rcases Nat.eq_zero_or_pos len with h0 | h0
      · exact .inl h0
      · right
        have h00 := (hf' 0 h0).1
        simp [Addr.add] at h00
        obtain ⟨b, off, sp⟩ := ad
        have hs : sp = none := spot_of_cell h00
        subst hs
        refine ⟨b, off, rfl, World.block_lt_of_cell? w _ h00, fun i hi => ?_⟩
        have hi' : i < len := by simpa using hi
        have := (hf' i hi').1
        rw [add_at] at this
        simpa using this
theorem ips_of {a : Option Addr} {len cap : Nat} {d : DataW H} {ps : List MemPlace} (h : DataW.Trod enc Try.prog w base spare held 37 (.slice a len cap) d ps) : ∃ l, IPs w a len cap l := by
  obtain ⟨fuel, hf⟩ := h
  exact ips_trod (by simpa [Value.cells] using hf)

/-- what a []bool reads as -/
structure BPs (w : World) (a : Option Addr) (len cap : Nat) (l : List Bool) : Prop where
  llen : l.length = len
  lcap : len ≤ cap
  big : cap ≤ 9223372036854775807
  at_ : len = 0 ∨ ∃ b off, a = some ⟨b, off, none⟩ ∧ b < w.heap.size ∧ ∀ i (h : i < l.length), w.cell? ⟨b, off + i, none⟩ = some (.bool l[i])
theorem bps_of {a : Option Addr} {len cap : Nat} {d : DataW H} {ps : List MemPlace} (h : DataW.Trod enc Try.prog w base spare held 58 (.slice a len cap) d ps) : ∃ l, BPs w a len cap l := by
  obtain ⟨fuel, hf⟩ := h
  rcases DataW.trod_slice Try.underlying58 hf with ⟨hcs, _⟩ | ⟨ad, len', cap', elems, rest, n, _, hcs, _, _, hl, hm, hlen, hel, _⟩
  · simp [Value.cells] at hcs
    obtain ⟨rfl, rfl, rfl⟩ := hcs
    exact ⟨[], rfl, Nat.le_refl _, Nat.zero_le _, .inl rfl⟩
  · simp [Value.cells] at hcs
    obtain ⟨rfl, rfl, rfl⟩ := hcs
    have key : ∀ i, i < len → ∃ x : Bool, w.cell? (ad.add i) = some (.bool x) := by
      intro i hi
      have h1 := hel i hi
      rw [List.getElem?_eq_getElem (by omega)] at h1
      obtain ⟨cs, hc, ht⟩ := Option.bind_eq_some_iff.1 h1
      obtain ⟨_, hcl, hat⟩ := World.cells?_some hc
      have hc3 : Try.prog.cellsOf 4 = 1 := by kernel_rfl
      rw [hc3] at hat hcl
      obtain ⟨o, ho, _⟩ := DataW.trod_bool Try.underlying4 ht
      have c0 := hat 0 (by omega)
      rw [ho] at c0
      exact ⟨o, by simpa [Addr.add] using c0⟩
    obtain ⟨f, hf'⟩ := Go.Deep.choose_lt key
    refine ⟨(List.range len).map f, by simp, hl, by unfold maxLen at hm; omega, ?_⟩
    rcases Nat.eq_zero_or_pos len with h0 | h0
    · exact .inl h0
    · right
      have h00 := hf' 0 h0
      simp [Addr.add] at h00
      obtain ⟨b, off, sp⟩ := ad
      have hs : sp = none := spot_of_cell h00
      subst hs
      refine ⟨b, off, rfl, World.block_lt_of_cell? w _ h00, fun i hi => ?_⟩
      have hi' : i < len := by simpa using hi
      have := hf' i hi'
      rw [add_at] at this
      simpa using this

theorem len5 {α : Type} {l : List α} (h : l.length = 5) : ∃ a b c d e, l = [a, b, c, d, e] := by
  match l, h with
  | [a, b, c, d, e], _ => exact ⟨a, b, c, d, e, rfl⟩

/-- a call of DiskMatchesReference: the kind, the offset, the number, the bytes, the list with its address and its length -/
structure StepV where
  call : Int
  off : Int
  n : Int
  s : ByteArray
  ka : Option Addr
  kl : Nat
  kc : Nat
  keep : List Int
instance : Inhabited StepV := ⟨⟨0, 0, 0, ⟨#[]⟩, none, 0, 0, []⟩⟩

def inI (x : Int) : Prop := -9223372036854775808 ≤ x ∧ x ≤ 9223372036854775807

/-- what a []StepParams reads as -/
structure SPs (w : World) (a : Option Addr) (len cap : Nat) (l : List StepV) : Prop where
  llen : l.length = len
  lcap : len ≤ cap
  big : cap ≤ 9223372036854775807
  ok : ∀ x ∈ l, inI x.call ∧ inI x.off ∧ inI x.n ∧ x.s.size ≤ 9223372036854775807 ∧ IPs w x.ka x.kl x.kc x.keep
  at_ : len = 0 ∨ ∃ b off, a = some ⟨b, off, none⟩ ∧ b < w.heap.size ∧ ∀ i (h : i < l.length), w.cell? ⟨b, off + i * 5, none⟩ = some (.int .i64 l[i].call) ∧ w.cell? ⟨b, off + i * 5 + 1, none⟩ = some (.int .i64 l[i].off) ∧
    w.cell? ⟨b, off + i * 5 + 2, none⟩ = some (.int .i64 l[i].n) ∧ w.cell? ⟨b, off + i * 5 + 3, none⟩ = some (.string l[i].s) ∧ w.cell? ⟨b, off + i * 5 + 4, none⟩ = some (.slice l[i].ka l[i].kl l[i].kc)

theorem sps_of {a : Option Addr} {len cap : Nat} {d : DataW H} {ps : List MemPlace} (h : DataW.Trod enc Try.prog w base spare held 32 (.slice a len cap) d ps) : ∃ l, SPs w a len cap l := by
  obtain ⟨fuel, hf⟩ := h
  rcases DataW.trod_slice Try.underlying32 hf with ⟨hcs, _⟩ | ⟨ad, len', cap', elems, rest, n, _, hcs, _, _, hl, hm, hlen, hel, _⟩
  · simp [Value.cells] at hcs
    obtain ⟨rfl, rfl, rfl⟩ := hcs
    exact ⟨[], rfl, Nat.le_refl _, Nat.zero_le _, fun x hx => (by cases hx), .inl rfl⟩
  · simp [Value.cells] at hcs
    obtain ⟨rfl, rfl, rfl⟩ := hcs
    have key : ∀ i, i < len → ∃ x : StepV, (w.cell? (ad.add (i * 5)) = some (.int .i64 x.call) ∧ w.cell? ((ad.add (i * 5)).add 1) = some (.int .i64 x.off) ∧ w.cell? ((ad.add (i * 5)).add 2) = some (.int .i64 x.n) ∧ w.cell? ((ad.add (i * 5)).add 3) = some (.string x.s) ∧ w.cell? ((ad.add (i * 5)).add 4) = some (.slice x.ka x.kl x.kc)) ∧
        inI x.call ∧ inI x.off ∧ inI x.n ∧ x.s.size ≤ 9223372036854775807 ∧ IPs w x.ka x.kl x.kc x.keep := by
      intro i hi
      have h1 := hel i hi
      rw [List.getElem?_eq_getElem (by omega)] at h1
      obtain ⟨cs, hc, ht⟩ := Option.bind_eq_some_iff.1 h1
      obtain ⟨_, hcl, hat⟩ := World.cells?_some hc
      have hc39 : Try.prog.cellsOf 39 = 5 := by kernel_rfl
      rw [hc39] at hat hcl
      obtain ⟨xs, m, _, _, _, hxl, hfs⟩ := DataW.trod_struct Try.underlying39 ht
      have c0 := hat 0 (by omega)
      have c1 := hat 1 (by omega)
      have c2 := hat 2 (by omega)
      have c3 := hat 3 (by omega)
      have c4 := hat 4 (by omega)
      obtain ⟨v0, v1, v2, v3, v4, rfl⟩ := len5 hcl
      obtain ⟨y0, y1, y2, y3, y4, rfl⟩ := len5 (show xs.length = 5 from hxl)
      have g0 := hfs 0 _ rfl
      have g1 := hfs 1 _ rfl
      have g2 := hfs 2 _ rfl
      have g3 := hfs 3 _ rfl
      have g4 := hfs 4 _ rfl
      have e3 : Try.prog.cellsOf 3 = 1 := by kernel_rfl
      have e9 : Try.prog.cellsOf 9 = 1 := by kernel_rfl
      have e37 : Try.prog.cellsOf 37 = 1 := by kernel_rfl
      simp [e3, e9, e37] at g0 g1 g2 g3 g4
      obtain ⟨o0, h0, _, w0⟩ := DataW.trod_int Try.underlying3 g0
      obtain ⟨o1, h1', _, w1⟩ := DataW.trod_int Try.underlying3 g1
      obtain ⟨o2, h2, _, w2⟩ := DataW.trod_int Try.underlying3 g2
      obtain ⟨b, hb, _, wb⟩ := DataW.trod_string Try.underlying9 g3
      simp at h0 h1' h2 hb
      subst h0 h1' h2 hb
      have h37 : ∃ a l c, v4 = .slice a l c := by
        rcases DataW.trod_slice Try.underlying37 g4 with ⟨e, _⟩ | ⟨q, ql, qc, _, _, _, _, e, _⟩
        · exact ⟨_, _, _, by simpa using e⟩
        · exact ⟨_, _, _, by simpa using e⟩
      obtain ⟨ka, kl, kc, rfl⟩ := h37
      obtain ⟨zs, hz⟩ := ips_trod g4
      exact ⟨⟨o0, o1, o2, b, ka, kl, kc, zs⟩, ⟨by simpa [Addr.add] using c0, by simpa using c1, by simpa using c2, by simpa using c3, by simpa using c4⟩, bounds_i64 w0, bounds_i64 w1, bounds_i64 w2, by unfold maxLen at wb; omega, hz⟩
    obtain ⟨f, hf'⟩ := Go.Deep.choose_lt key
    refine ⟨(List.range len).map f, by simp, hl, by unfold maxLen at hm; omega, fun x hx => ?_, ?_⟩
    · obtain ⟨i, hi, rfl⟩ := List.mem_map.1 hx
      exact (hf' i (List.mem_range.1 hi)).2
    · rcases Nat.eq_zero_or_pos len with h0 | h0
      · exact .inl h0
      · right
        have h00 := (hf' 0 h0).1.1
        simp [Addr.add] at h00
        obtain ⟨b, off, sp⟩ := ad
        have hs : sp = none := spot_of_cell h00
        subst hs
        refine ⟨b, off, rfl, World.block_lt_of_cell? w _ h00, fun i hi => ?_⟩
        have hi' : i < len := by simpa using hi
        have := (hf' i hi').1
        rw [add_at, add_at, add_at, add_at, add_at] at this
        simpa using this
end
end Go.Proofs.Ytlocickppgddmaa
