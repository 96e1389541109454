import Derived.Test.YtlocickppgddmaaD9
namespace Go.Proofs.Ytlocickppgddmaa
open Go.RowKit

/-- a disk all of whose blocks F names; F names all new ones, too -/
structure DK (F : Nat → Prop) (w : World) (g : Nat) (s : DS) : Prop where
  ex : ∃ bd bv pv, DAt w F g bd bv pv s
  up : ∀ k, w.heap.size ≤ k → F k

def DKPost (F : Nat → Prop) (w : World) (g : Nat) (s : DS) (r : Int) (e : Ending) (w' : World) : Prop :=
  e = .returned (.int .i64 r) ∧ DK F w' g s ∧ Kept F w w'

theorem OpPost.dk {F : Nat → Prop} {w : World} {g bd bv : Nat} {s : DS} {r : Int} {e : Ending} {w' : World} (hF : ∀ k, w.heap.size ≤ k → F k) (h : OpPost w F g bd bv s r e w') : DKPost F w g s r e w' := by
  obtain ⟨h1, ⟨pv, h2⟩, h3⟩ := h
  exact ⟨h1, ⟨⟨bd, bv, pv, h2.mono fun k hk => hk.elim id (hF k)⟩, fun k hk => hF k (Nat.le_trans h3.size hk)⟩, h3⟩

variable {F : Nat → Prop}
theorem write_dk {w : World} {g : Nat} {s s' : DS} {r : Int} (h : DK F w g s) (hfew : s.pend.length < 1000) (off : Int) (b : ByteArray) (hs : s.write off b = (s', r)) : Calls Try.prog 21 #[.pointer (some ⟨g, 0, none⟩), .int .i64 off, .string b] w (DKPost F w g s' r) := by
  obtain ⟨bd, bv, pv, hd⟩ := h.ex
  have := (write_any hd hfew off b).mono fun e w' => OpPost.dk h.up
  rwa [hs] at this
theorem sync_dk {w : World} {g : Nat} {s s' : DS} {r : Int} (h : DK F w g s) (hs : s.sync = (s', r)) : Calls Try.prog 23 #[.pointer (some ⟨g, 0, none⟩)] w (DKPost F w g s' r) := by
  obtain ⟨bd, bv, pv, hd⟩ := h.ex
  have := (sync_any hd).mono fun e w' => OpPost.dk h.up
  rwa [hs] at this
theorem cut_dk {w : World} {g : Nat} {s s' : DS} {r : Int} (h : DK F w g s) (n : Int) (hn : n ≤ 9223372036854775807) (hs : s.cut n = (s', r)) : Calls Try.prog 24 #[.pointer (some ⟨g, 0, none⟩), .int .i64 n] w (DKPost F w g s' r) := by
  obtain ⟨bd, bv, pv, hd⟩ := h.ex
  have := (cut_any hd n hn).mono (R' := DKPost F w g (s.cut n).1 (s.cut n).2) fun e w' ⟨h1, h2, h3⟩ => ⟨h1, ⟨⟨bd, bv, pv, h2⟩, fun k hk => h.up k (Nat.le_trans h3.size hk)⟩, h3⟩
  rwa [hs] at this
theorem read_dk {w : World} {g : Nat} {s : DS} (h : DK F w g s) (off n : Int) {x : ByteArray} {r : Int} (hs : s.read off n = (x, r)) : Calls Try.prog 14 #[.pointer (some ⟨g, 0, none⟩), .int .i64 off, .int .i64 n] w fun e w' => e = .returned (.tuple #[.string x, .int .i64 r]) ∧ w = w' := by
  obtain ⟨bd, bv, pv, hd⟩ := h.ex
  have := read_any hd off n
  rwa [hs] at this
theorem size_dk {w : World} {g : Nat} {s : DS} (h : DK F w g s) : Calls Try.prog 16 #[.pointer (some ⟨g, 0, none⟩)] w fun e w' => e = .returned (.int .i64 (s.dur.length : Int)) ∧ w = w' := by
  obtain ⟨bd, bv, pv, hd⟩ := h.ex
  exact size_any hd
theorem pending_dk {w : World} {g : Nat} {s : DS} (h : DK F w g s) : Calls Try.prog 17 #[.pointer (some ⟨g, 0, none⟩)] w fun e w' => e = .returned (.int .i64 (s.pend.length : Int)) ∧ w = w' := by
  obtain ⟨bd, bv, pv, hd⟩ := h.ex
  exact pending_any hd
theorem crash_dk {w : World} {g : Nat} {s s' : DS} (h : DK F w g s) (a : Option Addr) (c : Nat) (keep : List Int) (hkeep : keep.length ≤ 1000) (hI : sv_Ints w.heap.size w (.slice a keep.length c) keep) (torn : Int) (hs : s.crash keep torn = s') :
    Calls Try.prog 25 #[.pointer (some ⟨g, 0, none⟩), .slice a keep.length c, .int .i64 torn] w (DKPost F w g s' 0) := by
  obtain ⟨bd, bv, pv, hd⟩ := h.ex
  have := (crash_any hd a c keep hkeep hI torn).mono fun e w' => OpPost.dk h.up
  rwa [hs] at this
theorem new_dk (w : World) (n : Nat) (h : 1 ≤ n) (h4 : n ≤ 4194304) (hF : ∀ k, w.heap.size ≤ k → F k) : Calls Try.prog 13 #[.int .i64 n] w fun e w' => ∃ g, e = .returned (.tuple #[.pointer (some ⟨g, 0, none⟩), .int .i64 0]) ∧ DK F w' g (New0 n) ∧ Kept F w w' :=
  (new_ok w n h h4).mono fun e w' ⟨g, bd, bv, h1, h2, h3⟩ => ⟨g, h1, ⟨⟨bd, bv, _, h2.mono fun k hk => hF k hk⟩, fun k hk => hF k (Nat.le_trans h3.size hk)⟩, h3.mono fun k hk => hk.elim⟩
/-- what is kept of other blocks leaves the disk as it is -/
theorem DK.kept {w w' : World} {G : Nat → Prop} {g : Nat} {s : DS} (h : DK F w g s) (hk : Kept G w w') (hG : ∀ k, k < w.heap.size → F k → ¬ G k) : DK F w' g s := by
  obtain ⟨bd, bv, pv, hd⟩ := h.ex
  refine ⟨⟨bd, bv, pv, ?_⟩, fun k hk' => h.up k (Nat.le_trans hk.size hk')⟩
  exact (hd.foot.kept hk (fun k hk' => hG k (hd.foot_lt k hk') (hd.foot_F k hk'))).mono (fun k hk => hd.foot_F k hk)
theorem DK.mono {G : Nat → Prop} {w : World} {g : Nat} {s : DS} (h : DK F w g s) (hG : ∀ k, F k → G k) : DK G w g s := by
  obtain ⟨bd, bv, pv, hd⟩ := h.ex
  exact ⟨⟨bd, bv, pv, hd.mono hG⟩, fun k hk => hG k (h.up k hk)⟩

def ab : ByteArray := ⟨#[97, 98]⟩
def xy : ByteArray := ⟨#[120, 121]⟩
def zz : ByteArray := ⟨#[122, 122]⟩
def qq : ByteArray := ⟨#[113]⟩
def sv1 : DS := ⟨false, 0, [0, 0, 0, 0], [97, 98, 0, 0], [(0, ab)]⟩
def sv2 : DS := ⟨false, 0, [0, 0, 0, 0], [97, 120, 121, 0], [(0, ab), (1, xy)]⟩
def sv3 : DS := ⟨false, 0, [97, 120, 0, 0], [97, 120, 0, 0], []⟩
def sv4 : DS := ⟨false, 1, [97, 120, 0, 0], [97, 120, 0, 0], []⟩
def sv5 : DS := ⟨true, 0, [97, 120, 0, 0], [97, 120, 0, 113], [(3, qq)]⟩
theorem e1 : (New0 4).write 0 ab = (sv1, 0) := by rfl
theorem e2 : sv1.write 1 xy = (sv2, 0) := by rfl
theorem e3 : sv2.write 3 zz = (sv2, 280) := by rfl
theorem e4 : sv2.read 0 4 = (⟨#[97, 120, 121, 0]⟩, 0) := by rfl
theorem e5o : ordOf [1, 0] 2 = [0, 1] := by
  have : sorted [1, 0] = [0, 1] := by simp [sorted, List.mergeSort]
  unfold ordOf; rw [this]; rfl
theorem e5 : sv2.crash [1, 0] 1 = sv3 := by
  have h : ordOf [1, 0] sv2.pend.length = [0, 1] := e5o
  unfold DS.crash; rw [h]; rfl
theorem e6 : sv3.read 0 4 = (⟨#[97, 120, 0, 0]⟩, 0) := by rfl
theorem e7 : sv3.cut 1 = (sv4, 0) := by rfl
theorem e8 : sv4.write 3 qq = (sv5, 0) := by rfl
theorem e9 : sv5.sync = (sv5, 281) := by rfl

def SanePost (w : World) (e : Ending) (w' : World) : Prop := e = .returned (.bool true) ∧ Below w.heap.size w w'

set_option maxHeartbeats 4000000 in
set_option maxRecDepth 100000 in
theorem sane_any (w : World) : Calls Try.prog 12 #[] w (SanePost w) := by
  go_enter Try.func12, Try.ntmps12
  go_wp2_with fail
  refine (new_dk (F := fun k => w.heap.size ≤ k) w 4 (by omega) (by omega) (fun _ h => h)).mono ?_
  rintro e w1 ⟨g, rfl, hd1, hb1⟩
  go_wp2_with fail
  refine (new_bad w1 0 (by omega)).mono ?_
  rintro e w2 ⟨rfl, rfl⟩
  go_wp2_with fail
  refine (write_dk hd1 (by simp [New0]) 0 ab e1).mono ?_
  rintro e w3 ⟨rfl, hd3, hb3⟩
  have hB3 := hb1.trans hb3
  clear hd1 hb1 hb3
  go_wp2_with fail
  refine (write_dk hd3 (by simp [sv1]) 1 xy e2).mono ?_
  rintro e w4 ⟨rfl, hd4, hb4⟩
  have hB4 := hB3.trans hb4
  clear hd3 hb4 hB3
  go_wp2_with fail
  refine (write_dk hd4 (by simp [sv2]) 3 zz e3).mono ?_
  rintro e w5 ⟨rfl, hd5, hb5⟩
  have hB5 := hB4.trans hb5
  clear hd4 hb5 hB4
  go_wp2_with fail
  refine (read_dk hd5 0 4 e4).mono ?_
  rintro e w5' ⟨rfl, rfl⟩
  go_wp2_with fail
  refine (pending_dk hd5).mono ?_
  rintro e w5' ⟨rfl, rfl⟩
  have hpl : (sv2.pend.length : Int) = 2 := rfl
  rw [hpl]
  go_wp2_with fail
  have hnb := blk_new w5 (.cells #[.int .i64 1, .int .i64 0] 3)
  have hal : Kept (fun k => w.heap.size ≤ k) w5 (w5.alloc (.cells #[.int .i64 1, .int .i64 0] 3)) := (Kept.refl _ _).alloc _
  have hd6 : DK (fun k => w.heap.size ≤ k) (w5.alloc (.cells #[.int .i64 1, .int .i64 0] 3)) g sv2 := hd5.kept ((Kept.refl (fun _ => False) w5).alloc _) (fun _ _ _ h => h)
  have hI6 : sv_Ints (w5.alloc (.cells #[.int .i64 1, .int .i64 0] 3)).heap.size (w5.alloc (.cells #[.int .i64 1, .int .i64 0] 3)) (.slice (some ⟨w5.heap.size, 0, none⟩) 2 2) [1, 0] :=
    .inr ⟨w5.heap.size, 0, 2, rfl, by simp, fun j hj => by
      rw [Nat.zero_add, blk_cell hnb]
      match j, hj with
      | 0, _ => rfl
      | 1, _ => rfl⟩
  have hB6 := hB5.trans hal
  generalize w5.alloc (.cells #[.int .i64 1, .int .i64 0] 3) = W6 at hd6 hI6 hB6 ⊢
  clear hd5 hB5 hal hnb
  refine (crash_dk hd6 _ 2 [1, 0] (by simp) hI6 1 e5).mono ?_
  rintro e w7 ⟨rfl, hd7, hb7⟩
  have hB7 := hB6.trans hb7
  clear hd6 hb7 hB6 hI6
  go_wp2_with fail
  refine (read_dk hd7 0 4 e6).mono ?_
  rintro e w7' ⟨rfl, rfl⟩
  go_wp2_with fail
  refine (cut_dk hd7 1 (by omega) e7).mono ?_
  rintro e w8 ⟨rfl, hd8, hb8⟩
  have hB8 := hB7.trans hb8
  clear hd7 hb8 hB7
  go_wp2_with fail
  refine (write_dk hd8 (by simp [sv4]) 3 qq e8).mono ?_
  rintro e w9 ⟨rfl, hd9, hb9⟩
  have hB9 := hB8.trans hb9
  clear hd8 hb9 hB8
  go_wp2_with fail
  refine (sync_dk hd9 e9).mono ?_
  rintro e w10 ⟨rfl, hd10, hb10⟩
  have hB10 := hB9.trans hb10
  clear hd9 hb10 hB9
  go_wp2_with fail
  refine (size_dk hd10).mono ?_
  rintro e w10' ⟨rfl, rfl⟩
  have hdl : (sv5.dur.length : Int) = 4 := rfl
  rw [hdl]
  go_wp2_with fail
  go_ret
  exact ⟨rfl, hB10.below (Nat.le_refl _) (fun _ h => h)⟩
end Go.Proofs.Ytlocickppgddmaa
