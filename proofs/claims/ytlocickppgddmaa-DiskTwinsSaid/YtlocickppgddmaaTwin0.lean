import Derived.Test.YtlocickppgddmaaCutLaw
namespace Go.Proofs.Ytlocickppgddmaa
open Go.RowKit

def DA (w : World) (F : Nat → Prop) (g : Nat) (s : DS) : Prop := ∃ bd bv pv, DAt w F g bd bv pv s
/-- three disks that share no block, and none with A -/
structure T3 (A : Nat → Prop) (w : World) (g1 g2 g3 : Nat) (s1 s2 s3 : DS) (wr : World) : Prop where
  ex : ∃ F1 F2 F3 : Nat → Prop, DA wr F1 g1 s1 ∧ DA wr F2 g2 s2 ∧ DA wr F3 g3 s3 ∧ (∀ k, F1 k → ¬ F2 k) ∧ (∀ k, F1 k → ¬ F3 k) ∧ (∀ k, F2 k → ¬ F3 k) ∧ (∀ k, F1 k ∨ F2 k ∨ F3 k → w.heap.size ≤ k ∧ k < wr.heap.size ∧ ¬ A k)
  bel : Below w.heap.size w wr
  low : ∀ k, A k → k < wr.heap.size
variable {A : Nat → Prop} {w wr w' : World} {g1 g2 g3 : Nat} {s1 s2 s3 s' : DS} {r : Int}
theorem T3.rot (h : T3 A w g1 g2 g3 s1 s2 s3 wr) : T3 A w g2 g3 g1 s2 s3 s1 wr := by
  obtain ⟨F1, F2, F3, h1, h2, h3, h4, h5, h6, h7⟩ := h.ex
  exact ⟨⟨F2, F3, F1, h2, h3, h1, h6, fun k a b => h4 k b a, fun k a b => h5 k b a, fun k hk => h7 k (by rcases hk with a | a | a <;> simp [a])⟩, h.bel, h.low⟩
theorem T3.kept (h : T3 A w g1 g2 g3 s1 s2 s3 wr) (hk : Kept (fun _ => False) wr w') : T3 A w g1 g2 g3 s1 s2 s3 w' := by
  obtain ⟨F1, F2, F3, ⟨_, _, _, h1⟩, ⟨_, _, _, h2⟩, ⟨_, _, _, h3⟩, h4, h5, h6, h7⟩ := h.ex
  exact ⟨⟨F1, F2, F3, ⟨_, _, _, h1.kept hk (fun _ _ h => h)⟩, ⟨_, _, _, h2.kept hk (fun _ _ h => h)⟩, ⟨_, _, _, h3.kept hk (fun _ _ h => h)⟩, h4, h5, h6, fun k hk' => ⟨(h7 k hk').1, Nat.lt_of_lt_of_le (h7 k hk').2.1 hk.size, (h7 k hk').2.2⟩⟩,
    h.bel.trans (hk.below h.bel.size (fun _ h => h.elim)), fun k hk' => Nat.lt_of_lt_of_le (h.low k hk') hk.size⟩
theorem T3.alloc {A : Nat → Prop} (h : T3 A w g1 g2 g3 s1 s2 s3 wr) (o : Obj) : T3 (fun k => k = wr.heap.size) w g1 g2 g3 s1 s2 s3 (wr.alloc o) := by
  have hk : Kept (fun _ => False) wr (wr.alloc o) := (Kept.refl _ wr).alloc o
  obtain ⟨F1, F2, F3, ⟨_, _, _, h1⟩, ⟨_, _, _, h2⟩, ⟨_, _, _, h3⟩, h4, h5, h6, h7⟩ := h.ex
  exact ⟨⟨F1, F2, F3, ⟨_, _, _, h1.kept hk (fun _ _ h => h)⟩, ⟨_, _, _, h2.kept hk (fun _ _ h => h)⟩, ⟨_, _, _, h3.kept hk (fun _ _ h => h)⟩, h4, h5, h6, fun k hk' => ⟨(h7 k hk').1, Nat.lt_of_lt_of_le (h7 k hk').2.1 hk.size, fun e => by have := (h7 k hk').2.1; omega⟩⟩,
    h.bel.trans (hk.below h.bel.size (fun _ h => h.elim)), fun k hk' => by simp; omega⟩
theorem T3.drop {A : Nat → Prop} (h : T3 A w g1 g2 g3 s1 s2 s3 wr) : T3 (fun _ => False) w g1 g2 g3 s1 s2 s3 wr := by
  obtain ⟨F1, F2, F3, h1, h2, h3, h4, h5, h6, h7⟩ := h.ex
  exact ⟨⟨F1, F2, F3, h1, h2, h3, h4, h5, h6, fun k hk => ⟨(h7 k hk).1, (h7 k hk).2.1, fun h => h⟩⟩, h.bel, fun _ h => h.elim⟩
def T3Post (A : Nat → Prop) (w wr : World) (g1 g2 g3 : Nat) (s1 s2 s3 : DS) (r : Int) (e : Ending) (w' : World) : Prop :=
  e = .returned (.int .i64 r) ∧ T3 A w g1 g2 g3 s1 s2 s3 w' ∧ Kept (fun k => ¬ A k) wr w'
theorem T3.op (h : T3 A w g1 g2 g3 s1 s2 s3 wr) {n : Nat} {vs : Array Value} (hc : ∀ F bd bv pv, DAt wr F g1 bd bv pv s1 → Calls Try.prog n vs wr (OpPost wr F g1 bd bv s' r)) :
    Calls Try.prog n vs wr (T3Post A w wr g1 g2 g3 s' s2 s3 r) := by
  obtain ⟨F1, F2, F3, ⟨bd, bv, pv, h1⟩, ⟨_, _, _, h2⟩, ⟨_, _, _, h3⟩, h4, h5, h6, h7⟩ := h.ex
  refine (hc F1 bd bv pv h1).mono ?_
  rintro e w' ⟨he, ⟨pv', hd⟩, hk⟩
  refine ⟨he, ⟨⟨fun k => (F1 k ∨ wr.heap.size ≤ k) ∧ k < w'.heap.size, F2, F3, ⟨_, _, _, hd.foot.mono fun k hk' => ⟨hd.foot_F k hk', hd.foot_lt k hk'⟩⟩, ⟨_, _, _, h2.kept hk (fun k a b => h4 k b a)⟩, ⟨_, _, _, h3.kept hk (fun k a b => h5 k b a)⟩, ?_, ?_, h6, ?_⟩, ?_, ?_⟩, ?_⟩
  · rintro k ⟨a | a, _⟩ b
    · exact h4 k a b
    · have := (h7 k (.inr (.inl b))).2.1; omega
  · rintro k ⟨a | a, _⟩ b
    · exact h5 k a b
    · have := (h7 k (.inr (.inr b))).2.1; omega
  · rintro k (⟨a | a, b⟩ | a | a)
    · exact ⟨(h7 k (.inl a)).1, b, (h7 k (.inl a)).2.2⟩
    · exact ⟨Nat.le_trans h.bel.size a, b, fun c => by have := h.low k c; omega⟩
    · exact ⟨(h7 k (.inr (.inl a))).1, Nat.lt_of_lt_of_le (h7 k (.inr (.inl a))).2.1 hk.size, (h7 k (.inr (.inl a))).2.2⟩
    · exact ⟨(h7 k (.inr (.inr a))).1, Nat.lt_of_lt_of_le (h7 k (.inr (.inr a))).2.1 hk.size, (h7 k (.inr (.inr a))).2.2⟩
  · exact h.bel.trans (hk.below h.bel.size (fun k a => (h7 k (.inl a)).1))
  · exact fun k a => Nat.lt_of_lt_of_le (h.low k a) hk.size
  · exact hk.mono fun k a => .inl (h7 k (.inl a)).2.2
theorem T3.write (h : T3 A w g1 g2 g3 s1 s2 s3 wr) (hfew : s1.pend.length < 1000) (off : Int) (b : ByteArray) (hs : s1.write off b = (s', r)) :
    Calls Try.prog 21 #[.pointer (some ⟨g1, 0, none⟩), .int .i64 off, .string b] wr (T3Post A w wr g1 g2 g3 s' s2 s3 r) :=
  h.op fun F bd bv pv hd => by have := write_any hd hfew off b; rwa [hs] at this
theorem T3.sync (h : T3 A w g1 g2 g3 s1 s2 s3 wr) (hs : s1.sync = (s', r)) : Calls Try.prog 23 #[.pointer (some ⟨g1, 0, none⟩)] wr (T3Post A w wr g1 g2 g3 s' s2 s3 r) :=
  h.op fun F bd bv pv hd => by have := sync_any hd; rwa [hs] at this
theorem T3.crash (h : T3 A w g1 g2 g3 s1 s2 s3 wr) (torn : Int) (hs : s1.crash [] torn = s') : Calls Try.prog 25 #[.pointer (some ⟨g1, 0, none⟩), .slice none 0 0, .int .i64 torn] wr (T3Post A w wr g1 g2 g3 s' s2 s3 0) :=
  h.op fun F bd bv pv hd => by have := crash_any hd none 0 [] (by simp) (.inl ⟨rfl, rfl⟩) torn; rwa [hs] at this
theorem T3.read (h : T3 A w g1 g2 g3 s1 s2 s3 wr) (off n : Int) {x : ByteArray} (hs : s1.read off n = (x, r)) : Calls Try.prog 14 #[.pointer (some ⟨g1, 0, none⟩), .int .i64 off, .int .i64 n] wr fun e w' => e = .returned (.tuple #[.string x, .int .i64 r]) ∧ wr = w' := by
  obtain ⟨F1, _, _, ⟨_, _, _, h1⟩, _⟩ := h.ex
  have := read_any h1 off n
  rwa [hs] at this
theorem T3.pending (h : T3 A w g1 g2 g3 s1 s2 s3 wr) : Calls Try.prog 17 #[.pointer (some ⟨g1, 0, none⟩)] wr fun e w' => e = .returned (.int .i64 (s1.pend.length : Int)) ∧ wr = w' := by
  obtain ⟨F1, _, _, ⟨_, _, _, h1⟩, _⟩ := h.ex
  exact pending_any h1
/-- three new disks -/
theorem t3_new {wa wb wc wd : World} {s1 s2 s3 : DS} (hB : Below w.heap.size w wa) (h1 : DK (fun k => wa.heap.size ≤ k) wb g1 s1) (k1 : Kept (fun k => wa.heap.size ≤ k) wa wb) (h2 : DK (fun k => wb.heap.size ≤ k) wc g2 s2) (k2 : Kept (fun k => wb.heap.size ≤ k) wb wc)
    (h3 : DK (fun k => wc.heap.size ≤ k) wd g3 s3) (k3 : Kept (fun k => wc.heap.size ≤ k) wc wd) : T3 (fun _ => False) w g1 g2 g3 s1 s2 s3 wd := by
  obtain ⟨_, _, _, h1⟩ := h1.ex
  obtain ⟨_, _, _, h2⟩ := h2.ex
  obtain ⟨_, _, _, h3⟩ := h3.ex
  have e1 := k1.size; have e2 := k2.size; have e3 := k3.size; have e0 := hB.size
  have a1 := (h1.foot.mono (G := fun k => wa.heap.size ≤ k ∧ k < wb.heap.size) fun k hk => ⟨h1.foot_F k hk, h1.foot_lt k hk⟩).kept (k2.trans' k3 (fun k h => .inr (by omega))) (fun k a b => by omega)
  have a2 := (h2.foot.mono (G := fun k => wb.heap.size ≤ k ∧ k < wc.heap.size) fun k hk => ⟨h2.foot_F k hk, h2.foot_lt k hk⟩).kept k3 (fun k a b => by omega)
  have a3 := h3.foot.mono (G := fun k => wc.heap.size ≤ k ∧ k < wd.heap.size) fun k hk => ⟨h3.foot_F k hk, h3.foot_lt k hk⟩
  exact ⟨⟨_, _, _, ⟨_, _, _, a1⟩, ⟨_, _, _, a2⟩, ⟨_, _, _, a3⟩, fun k a b => by omega, fun k a b => by omega, fun k a b => by omega, fun k hk => by refine ⟨?_, ?_, fun h => h⟩ <;> omega⟩,
    hB.trans ((k1.below e0 (fun k h => by omega)).trans ((k2.below (by omega) (fun k h => by omega)).trans (k3.below (by omega) (fun k h => by omega)))), fun _ h => h.elim⟩
end Go.Proofs.Ytlocickppgddmaa
