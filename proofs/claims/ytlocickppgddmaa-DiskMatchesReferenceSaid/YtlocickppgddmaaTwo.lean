import Derived.Test.YtlocickppgddmaaR7
namespace Go.Proofs.Ytlocickppgddmaa
open Go.RowKit

def RA (w : World) (F : Nat → Prop) (g : Nat) (s : DS) : Prop := ∃ sb scap lv, RAt w F g sb scap lv s
def DA2 (w : World) (F : Nat → Prop) (g : Nat) (s : DS) : Prop := ∃ bd bv pv, DAt w F g bd bv pv s
theorem RAt.lt {w : World} {F : Nat → Prop} {g sb scap : Nat} {lv : Value} {s : DS} (h : RAt w F g sb scap lv s) : RAt w (fun k => F k ∧ k < w.heap.size) g sb scap lv s := by
  obtain ⟨cur, q1, _⟩ := h.sure
  exact ⟨h.blk, h.sure, h.pend, ⟨h.fg, blk_lt h.blk⟩, ⟨h.fs, blk_lt q1⟩, fun k hk => ⟨h.fp k hk, (h.pend.lt k hk).2⟩, h.wf, h.vis, h.cap_, h.pos⟩
/-- the disk and the reference's disk: no block in common, none with A -/
structure T2 (A : Nat → Prop) (w : World) (gd gx : Nat) (sd sx : DS) (wr : World) : Prop where
  ex : ∃ F1 F2 : Nat → Prop, DA2 wr F1 gd sd ∧ RA wr F2 gx sx ∧ (∀ k, F1 k → ¬ F2 k) ∧ (∀ k, F1 k ∨ F2 k → w.heap.size ≤ k ∧ k < wr.heap.size ∧ ¬ A k)
  bel : Below w.heap.size w wr
  low : ∀ k, A k → k < wr.heap.size
variable {A : Nat → Prop} {w wr w' : World} {gd gx : Nat} {sd sx s' : DS} {r : Int}
theorem T2.kept (h : T2 A w gd gx sd sx wr) (hk : Kept (fun _ => False) wr w') : T2 A w gd gx sd sx w' := by
  obtain ⟨F1, F2, ⟨_, _, _, h1⟩, ⟨_, _, _, h2⟩, h4, h7⟩ := h.ex
  exact ⟨⟨F1, F2, ⟨_, _, _, h1.kept hk (fun _ _ h => h)⟩, ⟨_, _, _, h2.kept hk (fun _ _ h => h)⟩, h4, fun k hk' => ⟨(h7 k hk').1, Nat.lt_of_lt_of_le (h7 k hk').2.1 hk.size, (h7 k hk').2.2⟩⟩,
    h.bel.trans (hk.below h.bel.size (fun _ h => h.elim)), fun k hk' => Nat.lt_of_lt_of_le (h.low k hk') hk.size⟩
theorem T2.alloc {A : Nat → Prop} (h : T2 A w gd gx sd sx wr) (o : Obj) : T2 (fun k => k = wr.heap.size) w gd gx sd sx (wr.alloc o) := by
  have hk : Kept (fun _ => False) wr (wr.alloc o) := (Kept.refl _ wr).alloc o
  obtain ⟨F1, F2, ⟨_, _, _, h1⟩, ⟨_, _, _, h2⟩, h4, h7⟩ := h.ex
  exact ⟨⟨F1, F2, ⟨_, _, _, h1.kept hk (fun _ _ h => h)⟩, ⟨_, _, _, h2.kept hk (fun _ _ h => h)⟩, h4, fun k hk' => ⟨(h7 k hk').1, Nat.lt_of_lt_of_le (h7 k hk').2.1 hk.size, fun e => by have := (h7 k hk').2.1; omega⟩⟩,
    h.bel.trans (hk.below h.bel.size (fun _ h => h.elim)), fun k hk' => by simp; omega⟩
theorem T2.drop {A : Nat → Prop} (h : T2 A w gd gx sd sx wr) : T2 (fun _ => False) w gd gx sd sx wr := by
  obtain ⟨F1, F2, h1, h2, h4, h7⟩ := h.ex
  exact ⟨⟨F1, F2, h1, h2, h4, fun k hk => ⟨(h7 k hk).1, (h7 k hk).2.1, fun h => h⟩⟩, h.bel, fun _ h => h.elim⟩
def T2Post (A : Nat → Prop) (w wr : World) (gd gx : Nat) (sd sx : DS) (v : Value) (e : Ending) (w' : World) : Prop :=
  e = .returned v ∧ T2 A w gd gx sd sx w' ∧ Kept (fun k => ¬ A k) wr w'
theorem T2.dop (h : T2 A w gd gx sd sx wr) {n : Nat} {vs : Array Value} (hc : ∀ F bd bv pv, DAt wr F gd bd bv pv sd → Calls Try.prog n vs wr (OpPost wr F gd bd bv s' r)) :
    Calls Try.prog n vs wr (T2Post A w wr gd gx s' sx (.int .i64 r)) := by
  obtain ⟨F1, F2, ⟨bd, bv, pv, h1⟩, ⟨_, _, _, h2⟩, h4, h7⟩ := h.ex
  refine (hc F1 bd bv pv h1).mono ?_
  rintro e w' ⟨he, ⟨pv', hd⟩, hk⟩
  refine ⟨he, ⟨⟨fun k => (F1 k ∨ wr.heap.size ≤ k) ∧ k < w'.heap.size, F2, ⟨_, _, _, hd.foot.mono fun k hk' => ⟨hd.foot_F k hk', hd.foot_lt k hk'⟩⟩, ⟨_, _, _, h2.kept hk (fun k a b => h4 k b a)⟩, ?_, ?_⟩, ?_, ?_⟩, ?_⟩
  · rintro k ⟨a | a, _⟩ b
    · exact h4 k a b
    · have := (h7 k (.inr b)).2.1; omega
  · rintro k (⟨a | a, b⟩ | a)
    · exact ⟨(h7 k (.inl a)).1, b, (h7 k (.inl a)).2.2⟩
    · exact ⟨Nat.le_trans h.bel.size a, b, fun c => by have := h.low k c; omega⟩
    · exact ⟨(h7 k (.inr a)).1, Nat.lt_of_lt_of_le (h7 k (.inr a)).2.1 hk.size, (h7 k (.inr a)).2.2⟩
  · exact h.bel.trans (hk.below h.bel.size (fun k a => (h7 k (.inl a)).1))
  · exact fun k a => Nat.lt_of_lt_of_le (h.low k a) hk.size
  · exact hk.mono fun k a => .inl (h7 k (.inl a)).2.2
theorem T2.xop (h : T2 A w gd gx sd sx wr) {n : Nat} {vs : Array Value} {v : Value} (hc : ∀ F sb scap lv, RAt wr F gx sb scap lv sx → Calls Try.prog n vs wr fun e w' => e = .returned v ∧ (∃ sb scap lv, RAt w' (fun k => F k ∨ wr.heap.size ≤ k) gx sb scap lv s') ∧ Kept F wr w') :
    Calls Try.prog n vs wr (T2Post A w wr gd gx sd s' v) := by
  obtain ⟨F1, F2, ⟨_, _, _, h1⟩, ⟨sb, scap, lv, h2⟩, h4, h7⟩ := h.ex
  refine (hc F2 sb scap lv h2).mono ?_
  rintro e w' ⟨he, ⟨sb', scap', lv', hd⟩, hk⟩
  refine ⟨he, ⟨⟨F1, fun k => (F2 k ∨ wr.heap.size ≤ k) ∧ k < w'.heap.size, ⟨_, _, _, h1.kept hk h4⟩, ⟨_, _, _, hd.lt⟩, ?_, ?_⟩, ?_, ?_⟩, ?_⟩
  · rintro k b ⟨a | a, _⟩
    · exact h4 k b a
    · have := (h7 k (.inl b)).2.1; omega
  · rintro k (a | ⟨a | a, b⟩)
    · exact ⟨(h7 k (.inl a)).1, Nat.lt_of_lt_of_le (h7 k (.inl a)).2.1 hk.size, (h7 k (.inl a)).2.2⟩
    · exact ⟨(h7 k (.inr a)).1, b, (h7 k (.inr a)).2.2⟩
    · exact ⟨Nat.le_trans h.bel.size a, b, fun c => by have := h.low k c; omega⟩
  · exact h.bel.trans (hk.below h.bel.size (fun k a => (h7 k (.inr a)).1))
  · exact fun k a => Nat.lt_of_lt_of_le (h.low k a) hk.size
  · exact hk.mono fun k a => .inl (h7 k (.inr a)).2.2
theorem T2.write (h : T2 A w gd gx sd sx wr) (hfew : sd.pend.length < 1000) (off : Int) (b : ByteArray) : Calls Try.prog 21 #[.pointer (some ⟨gd, 0, none⟩), .int .i64 off, .string b] wr (T2Post A w wr gd gx (sd.write off b).1 sx (.int .i64 (sd.write off b).2)) :=
  h.dop fun _ _ _ _ hd => write_any hd hfew off b
theorem T2.xwrite (h : T2 A w gd gx sd sx wr) (hfew : sx.pend.length < 1000) (off : Int) (b : ByteArray) (hb : b.size ≤ 9223372036854775807) : Calls Try.prog 30 #[.pointer (some ⟨gx, 0, none⟩), .int .i64 off, .string b] wr (T2Post A w wr gd gx sd (sx.write off b).1 (.int .i64 (sx.write off b).2)) :=
  h.xop fun _ _ _ _ hd => rwrite_any hd hfew off b hb
theorem T2.sync (h : T2 A w gd gx sd sx wr) : Calls Try.prog 23 #[.pointer (some ⟨gd, 0, none⟩)] wr (T2Post A w wr gd gx sd.sync.1 sx (.int .i64 sd.sync.2)) :=
  h.dop fun _ _ _ _ hd => sync_any hd
theorem T2.xsync (h : T2 A w gd gx sd sx wr) : Calls Try.prog 31 #[.pointer (some ⟨gx, 0, none⟩)] wr (T2Post A w wr gd gx sd sx.sync.1 (.int .i64 sx.sync.2)) :=
  h.xop fun _ _ _ _ hd => rsync_any hd
theorem T2.cut (h : T2 A w gd gx sd sx wr) (n : Int) (hn : n ≤ 9223372036854775807) : Calls Try.prog 24 #[.pointer (some ⟨gd, 0, none⟩), .int .i64 n] wr (T2Post A w wr gd gx (sd.cut n).1 sx (.int .i64 (sd.cut n).2)) :=
  h.dop fun _ _ _ _ hd => (cut_any hd n hn).mono fun e w' ⟨h1, h2, h3⟩ => ⟨h1, ⟨_, h2.mono fun k hk => .inl hk⟩, h3⟩
theorem T2.xcut (h : T2 A w gd gx sd sx wr) (n : Int) (hn : n ≤ 9223372036854775807) : Calls Try.prog 32 #[.pointer (some ⟨gx, 0, none⟩), .int .i64 n] wr (T2Post A w wr gd gx sd (sx.cut n).1 (.int .i64 (sx.cut n).2)) :=
  h.xop fun _ _ _ _ hd => rcut_any hd n hn
theorem T2.crash (h : T2 A w gd gx sd sx wr) (a : Option Addr) (c : Nat) (keep : List Int) (hkeep : keep.length ≤ 1000) (hI : sv_Ints wr.heap.size wr (.slice a keep.length c) keep) (torn : Int) : Calls Try.prog 25 #[.pointer (some ⟨gd, 0, none⟩), .slice a keep.length c, .int .i64 torn] wr (T2Post A w wr gd gx (sd.crash keep torn) sx (.int .i64 0)) :=
  h.dop fun _ _ _ _ hd => crash_any hd a c keep hkeep hI torn
theorem T2.xcrash (h : T2 A w gd gx sd sx wr) (a : Option Addr) (c : Nat) (keep : List Int) (hK : KAt wr a keep) (hkc : keep.length ≤ c) (hcc : c ≤ 9223372036854775807) (torn : Int) : Calls Try.prog 33 #[.pointer (some ⟨gx, 0, none⟩), .slice a keep.length c, .int .i64 torn] wr (T2Post A w wr gd gx sd (sx.crash keep torn) (.tuple #[])) :=
  h.xop fun _ _ _ _ hd => rcrash_any hd a c keep hK hkc hcc torn
theorem T2.read (h : T2 A w gd gx sd sx wr) (off n : Int) : Calls Try.prog 14 #[.pointer (some ⟨gd, 0, none⟩), .int .i64 off, .int .i64 n] wr fun e w' => e = .returned (.tuple #[.string (sd.read off n).1, .int .i64 (sd.read off n).2]) ∧ wr = w' := by
  obtain ⟨_, _, ⟨_, _, _, h1⟩, _⟩ := h.ex
  exact read_any h1 off n
theorem T2.pending (h : T2 A w gd gx sd sx wr) : Calls Try.prog 17 #[.pointer (some ⟨gd, 0, none⟩)] wr fun e w' => e = .returned (.int .i64 (sd.pend.length : Int)) ∧ wr = w' := by
  obtain ⟨_, _, ⟨_, _, _, h1⟩, _⟩ := h.ex
  exact pending_any h1
theorem T2.size (h : T2 A w gd gx sd sx wr) : Calls Try.prog 16 #[.pointer (some ⟨gd, 0, none⟩)] wr fun e w' => e = .returned (.int .i64 (sd.dur.length : Int)) ∧ wr = w' := by
  obtain ⟨_, _, ⟨_, _, _, h1⟩, _⟩ := h.ex
  exact size_any h1
theorem T2.xread (h : T2 A w gd gx sd sx wr) (off n : Int) : Calls Try.prog 20 #[.pointer (some ⟨gx, 0, none⟩), .int .i64 off, .int .i64 n] wr (RdPost wr (sx.read off n).1 (sx.read off n).2) := by
  obtain ⟨_, _, _, ⟨_, _, _, h1⟩, _⟩ := h.ex
  exact rread_any h1 off n
theorem T2.xl (h : T2 A w gd gx sd sx wr) : ∃ a c, wr.cell? ⟨gx, 1, none⟩ = some (.slice a sx.pend.length c) := by
  obtain ⟨_, _, _, ⟨_, _, _, h1⟩, _⟩ := h.ex
  obtain ⟨a, c, e, _⟩ := own_form h1.pend
  exact ⟨a, c, by rw [blk_cell h1.blk, e]; rfl⟩
theorem T2.wf (h : T2 A w gd gx sd sx wr) : sd.wf := by
  obtain ⟨_, _, ⟨_, _, _, h1⟩, _⟩ := h.ex
  exact h1.wf
end Go.Proofs.Ytlocickppgddmaa
