import Derived.Test.YtlocickppgddmaaA
import Derived.Deep.AppendLies
import Derived.Deep.RegionHeld3
import Derived.Lib.SliceRun
namespace Go.Proofs.Ytlocickppgddmaa
open Go.RowKit

theorem splice_nil {α : Type} (l : List α) (o : Nat) : splice l o [] = l := by simp [splice]

structure DS where
  off : Bool
  left : Nat
  dur : List UInt8
  vis : List UInt8
  pend : List (Nat × ByteArray)

def pcells (l : List (Nat × ByteArray)) : List Value := l.flatMap fun p => [.int .i64 (p.1 : Int), .string p.2]
theorem pcells_length (l : List (Nat × ByteArray)) : (pcells l).length = l.length * 2 := by
  induction l with
  | nil => rfl
  | cons a l ih => simp [pcells] at ih ⊢; omega
theorem pcells_snoc (l : List (Nat × ByteArray)) (p : Nat × ByteArray) : pcells (l ++ [p]) = pcells l ++ [.int .i64 (p.1 : Int), .string p.2] := by simp [pcells]

def DCells (s : DS) (bd bv : Nat) (pv : Value) : Array Value :=
  #[.bool s.off, .int .i64 (s.left : Int), .slice (some ⟨bd, 0, none⟩) s.dur.length s.dur.length, .slice (some ⟨bv, 0, none⟩) s.dur.length s.dur.length, pv]

structure DS.wf (s : DS) : Prop where
  len : s.vis.length = s.dur.length
  big : s.dur.length ≤ 4194304
  left : s.left ≤ 9223372036854775807
  few : s.pend.length ≤ 1000
  ins : ∀ p ∈ s.pend, p.1 + p.2.size ≤ s.dur.length

structure DAt (w : World) (F : Nat → Prop) (g bd bv : Nat) (pv : Value) (s : DS) : Prop where
  blk : w.heap[g]? = some (.cells (DCells s bd bv pv) 65 (0, 0))
  dur : w.heap[bd]? = some (.cells (bs s.dur).toArray 5 (0, 0))
  vis : w.heap[bv]? = some (.cells (bs s.vis).toArray 5 (0, 0))
  pend : w.ownsRow 0 69 2 pv s.pend.length (pcells s.pend)
  ne : bd ≠ bv
  fg : F g
  fd : F bd
  fv : F bv
  fp : ∀ k, pv.ownBlock = some k → F k
  wf : s.wf

theorem own_blk_ne {w : World} {base : Nat} {e t : TypeId} {size n g : Nat} {v : Value} {xs : List Value} {cs : Array Value} {fr : Nat × Nat} (h : w.ownsRow base e size v n xs) (hg : w.heap[g]? = some (.cells cs t fr)) (hne : e ≠ t) :
    v.ownBlock ≠ some g := by
  intro hk
  rcases h.2 with ⟨rfl, _⟩ | ⟨g', cap, cur, rfl, _, hgg, _⟩
  · simp [Value.ownBlock] at hk
  · simp [Value.ownBlock] at hk
    subst hk
    rw [hg] at hgg
    injection hgg with hgg; injection hgg with _ h2 _; exact hne h2.symm

theorem own_kept {F : Nat → Prop} {w w' : World} {base : Nat} {e : TypeId} {size n : Nat} {v : Value} {xs : List Value} (h : w.ownsRow base e size v n xs) (hk : Kept F w w') (hf : ∀ k, v.ownBlock = some k → ¬ F k) : w'.ownsRow base e size v n xs := by
  refine ⟨h.1, ?_⟩
  rcases h.2 with hn | ⟨g, cap, cur, rfl, hb, hgg, rest⟩
  · exact .inl hn
  · exact .inr ⟨g, cap, cur, rfl, hb, hk.blk hgg (hf _ rfl), rest⟩

theorem DAt.kept {w w' : World} {F G : Nat → Prop} {g bd bv : Nat} {pv : Value} {s : DS} (h : DAt w F g bd bv pv s) (hk : Kept G w w') (hG : ∀ k, F k → ¬ G k) : DAt w' F g bd bv pv s :=
  ⟨hk.blk h.blk (hG _ h.fg), hk.blk h.dur (hG _ h.fd), hk.blk h.vis (hG _ h.fv), own_kept h.pend hk (fun k hk' => hG k (h.fp k hk')), h.ne, h.fg, h.fd, h.fv, h.fp, h.wf⟩
theorem DAt.mono {w : World} {F G : Nat → Prop} {g bd bv : Nat} {pv : Value} {s : DS} (h : DAt w F g bd bv pv s) (hG : ∀ k, F k → G k) : DAt w G g bd bv pv s :=
  ⟨h.blk, h.dur, h.vis, h.pend, h.ne, hG _ h.fg, hG _ h.fd, hG _ h.fv, fun k hk => hG _ (h.fp k hk), h.wf⟩
theorem DAt.cell {w : World} {F : Nat → Prop} {g bd bv : Nat} {pv : Value} {s : DS} (h : DAt w F g bd bv pv s) : ∀ i, w.cell? ⟨g, i, none⟩ = (DCells s bd bv pv)[i]? := blk_cell h.blk

set_option maxHeartbeats 400000 in
theorem check_nil (w : World) : Calls Try.prog 28 #[.pointer none] w fun e w' => e = .returned (.int .i64 1) ∧ w = w' := by
  go_enter Try.func28, Try.ntmps28
  go_wp2
  go_ret
  exact ⟨rfl, rfl⟩

set_option maxHeartbeats 400000 in
theorem check_off (w : World) (g : Nat) (h0 : w.cell? ⟨g, 0, none⟩ = some (.bool true)) : Calls Try.prog 28 #[.pointer (some ⟨g, 0, none⟩)] w fun e w' => e = .returned (.int .i64 281) ∧ w = w' := by
  go_enter Try.func28, Try.ntmps28
  go_wp2
  go_ret
  exact ⟨rfl, rfl⟩
set_option maxHeartbeats 400000 in
theorem check_on (w : World) (g : Nat) (h0 : w.cell? ⟨g, 0, none⟩ = some (.bool false)) : Calls Try.prog 28 #[.pointer (some ⟨g, 0, none⟩)] w fun e w' => e = .returned (.int .i64 0) ∧ w = w' := by
  go_enter Try.func28, Try.ntmps28
  go_wp2
  go_ret
  exact ⟨rfl, rfl⟩

set_option maxHeartbeats 400000 in
theorem used_zero (w : World) (g : Nat) (h1 : w.cell? ⟨g, 1, none⟩ = some (.int .i64 0)) : Calls Try.prog 36 #[.pointer (some ⟨g, 0, none⟩)] w fun e w' => e = .returned (.tuple #[]) ∧ w = w' := by
  go_enter Try.func36, Try.ntmps36
  go_wp2
  refine bodyPost_ret (results_none rfl _ _ _) rfl ?_
  exact ⟨rfl, rfl⟩

set_option maxHeartbeats 400000 in
theorem used_pos (w : World) (g n : Nat) (off : Bool) (hn : 0 < n) (hm : n ≤ 9223372036854775807) (h0 : w.cell? ⟨g, 0, none⟩ = some (.bool off)) (h1 : w.cell? ⟨g, 1, none⟩ = some (.int .i64 (n : Int)))
   (f0 : w.frozen? ⟨g, 0, none⟩ = false) (f1 : w.frozen? ⟨g, 1, none⟩ = false) : Calls Try.prog 36 #[.pointer (some ⟨g, 0, none⟩)] w fun e w' => e = .returned (.tuple #[]) ∧ w' = (w.setCell ⟨g, 1, none⟩ (.int .i64 ((n - 1 : Nat) : Int))).setCell ⟨g, 0, none⟩ (.bool (decide (n = 1))) := by
  have e1 : (n : Int) - 1 = ((n - 1 : Nat) : Int) := by omega
  have e2 : (((n - 1 : Nat) : Int) == 0) = decide (n = 1) := by rw [Bool.eq_iff_iff]; simp; omega
  have E1 := Lib.hid e1
  have E2 := Lib.hid e2
  clear e1 e2
  go_enter Try.func36, Try.ntmps36
  go_wp2
  go_end0
  rw [E1.out, E2.out]
  exact ⟨rfl, rfl⟩

/-- are n bytes from off on on a disk of this size? -/
def fitsB (off n : Int) (len : Nat) : Bool := decide (0 ≤ off ∧ 0 ≤ n ∧ off + n ≤ len)

set_option maxHeartbeats 400000 in
set_option maxRecDepth 100000 in
theorem inside_any (w : World) (g : Nat) (off n : Int) (b : Option Addr) (len : Nat) (hl : len ≤ 4194304) (h0 : w.cell? ⟨g, 2, none⟩ = some (.slice b len len)) : Calls Try.prog 29 #[.pointer (some ⟨g, 0, none⟩), .int .i64 off, .int .i64 n] w fun e w' => e = .returned (.bool (fitsB off n len)) ∧ w = w' := by
  by_cases a1 : 0 ≤ off
  · by_cases a2 : 0 ≤ n
    · by_cases a3 : off ≤ len
      · by_cases a4 : n ≤ len - off
        · have hf : fitsB off n len = true := by simp [fitsB]; omega
          have HF := Lib.hid hf
          clear hf
          go_enter Try.func29, Try.ntmps29
          go_wp2
          go_ret
          exact ⟨by rw [HF.out]; simp, rfl⟩
        · have hf : fitsB off n len = false := by simp [fitsB]; omega
          have HF := Lib.hid hf
          clear hf
          go_enter Try.func29, Try.ntmps29
          go_wp2
          go_ret
          exact ⟨by rw [HF.out]; simp, rfl⟩
      · have hf : fitsB off n len = false := by simp [fitsB]; omega
        have HF := Lib.hid hf
        clear hf
        go_enter Try.func29, Try.ntmps29
        go_wp2
        go_ret
        exact ⟨by rw [HF.out]; simp, rfl⟩
    · have hf : fitsB off n len = false := by simp [fitsB]; omega
      have HF := Lib.hid hf
      clear hf
      go_enter Try.func29, Try.ntmps29
      go_wp2
      go_ret
      exact ⟨by rw [HF.out]; simp, rfl⟩
  · have hf : fitsB off n len = false := by simp [fitsB]; omega
    have HF := Lib.hid hf
    clear hf
    go_enter Try.func29, Try.ntmps29
    go_wp2
    go_ret
    exact ⟨by rw [HF.out]; simp, rfl⟩
def OntoPost (w : World) (b : Nat) (cs : List Value) (e : Ending) (w' : World) : Prop :=
  e = .returned (.tuple #[]) ∧ w'.heap[b]? = some (.cells cs.toArray 5 (0, 0)) ∧ Kept (· = b) w w'

set_option maxHeartbeats 400000 in
set_option maxRecDepth 100000 in
theorem onto_any (w : World) (off : Nat) (s : ByteArray) (b len : Nat) (cur : List Value) (hb : w.heap[b]? = some (.cells cur.toArray 5 (0, 0))) (hl : cur.length = len) (ho : off + s.size ≤ len) :
   Calls Try.prog 35 #[.agg #[.int .i64 off, .string s], .slice (some ⟨b, 0, none⟩) len len] w (OntoPost w b (splice cur off (bs s.data.toList))) := by
  have hbl := blk_lt hb
  have hL := Lib.hid hl
  clear hl
  have hh := bs_length s.data.toList
  rw [data_length] at hh
  have HH := Lib.hid hh
  clear hh
  by_cases h0 : off < len
  · have h1 : ¬ len = off := by omega
    have h2 : ¬ len - off = 0 := by omega
    have hle : off ≤ len := by omega
    go_enter Try.func35, Try.ntmps35
    go_wp2
    refine region_tail 6 (by kernel_rfl) (by kernel_rfl) fun w2 d => ?_
    simp only [List.take_succ_cons, List.take_zero, List.drop_succ_cons, List.drop_zero]
    have hn := blk_cell (d.blk (blk_new w (.cells #[.int .i64 off, .string s] 69)))
    have hB := Lib.hid (d.blk (blk_alloc hb (.cells #[.int .i64 off, .string s] 69)))
    have hK := ((Kept.refl (· = b) w).alloc (.cells #[.int .i64 off, .string s] 69)).drw d
    clear d hb
    repeat still_step
    refine wpStill_nil ?_
    clear hn
    refine wpList_copy_str rfl _ _ _ _ rfl 5 (by kernel_rfl) (by kernel_rfl) b off (len - off) (len - off) s rfl rfl cur.toArray 5 hB.out (by omega) (by rw [List.size_toArray, hL.out]; exact ho) ?_
    generalize hw : w2.setRow _ _ = w3
    have hB3 : Hid (w3.heap[b]? = some (.cells (splice cur off (bs s.data.toList)).toArray 5 (0, 0))) := by rw [← hw]; exact setRow_heap w2 b cur.toArray _ 5 _ hB.out
    have hK3 : Kept (· = b) w w3 := by rw [← hw]; exact hK.setRow (.inl rfl) _
    clear hw hB hK
    go_wp2
    go_end0
    exact ⟨rfl, hB3.out, hK3⟩
  · have hle : off ≤ len := by omega
    obtain rfl : off = len := by omega
    have hz : s.size = 0 := by omega
    have hnil : s.data.toList = [] := List.eq_nil_of_length_eq_zero (by rw [data_length]; exact hz)
    rw [hnil, show bs [] = [] from rfl, splice_nil]
    have HN := Lib.hid hnil
    have HZ := Lib.hid hz
    clear hnil hz
    go_enter Try.func35, Try.ntmps35
    go_wp2
    refine region_tail 6 (by kernel_rfl) (by kernel_rfl) fun w2 d => ?_
    simp only [List.take_succ_cons, List.take_zero, List.drop_succ_cons, List.drop_zero]
    have hn := blk_cell (d.blk (blk_new w (.cells #[.int .i64 off, .string s] 69)))
    have hB := Lib.hid (d.blk (blk_alloc hb (.cells #[.int .i64 off, .string s] 69)))
    have hK := ((Kept.refl (· = b) w).alloc (.cells #[.int .i64 off, .string s] 69)).drw d
    clear d hb
    repeat still_step
    refine wpStill_nil ?_
    clear hn
    refine wpList_copy_str rfl _ _ _ _ rfl 5 (by kernel_rfl) (by kernel_rfl) b 0 0 0 s rfl rfl cur.toArray 5 hB.out (by rw [HZ.out]; omega) (by rw [HZ.out]; simp) ?_
    rw [HN.out, show bs [] = [] from rfl, splice_nil]
    generalize hw : w2.setRow _ _ = w3
    have hB3 : Hid (w3.heap[b]? = some (.cells cur.toArray 5 (0, 0))) := by rw [← hw]; exact setRow_heap w2 b cur.toArray _ 5 _ hB.out
    have hK3 : Kept (· = b) w w3 := by rw [← hw]; exact hK.setRow (.inl rfl) _
    clear hw hB hK
    go_wp2
    go_end0
    exact ⟨rfl, hB3.out, hK3⟩
end Go.Proofs.Ytlocickppgddmaa
