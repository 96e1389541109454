import Derived.Test.YtlocickppgddmaaD4
import Derived.Deep.OwnRows
namespace Go.Proofs.Ytlocickppgddmaa
open Go.RowKit
variable {w : World} {F : Nat → Prop} {g bd bv : Nat} {pv : Value} {s : DS}

theorem made_bs (n : Nat) : madeCells #[.int .u8 0] n = (bs (List.replicate n 0)).toArray := by
  apply Array.ext
  · simp [madeCells, bs]
  · intro i h1 h2; simp [madeCells, bs, Nat.mod_one]

theorem make40 (n : Nat) (hn : n ≤ 4194304) (W : World) : (Instr.makeSlice 40 (.int .i64 (n : Int)) (.int .i64 (n : Int))).run Try.prog W = .ok (.slice (some ⟨W.heap.size, 0, none⟩) n n) (W.alloc (.cells (bs (List.replicate n 0)).toArray 5)) := by
  rw [← made_bs]
  exact run_make_row' 40 5 (.int .u8 0) 1 (by kernel_rfl) (by kernel_rfl) rfl .i64 .i64 n (by omega) (by omega) W

def New0 (n : Nat) : DS := ⟨false, 0, List.replicate n 0, List.replicate n 0, []⟩

def NewPost (w : World) (n : Nat) (e : Ending) (w' : World) : Prop :=
  ∃ g bd bv, e = .returned (.tuple #[.pointer (some ⟨g, 0, none⟩), .int .i64 0]) ∧ DAt w' (fun k => w.heap.size ≤ k) g bd bv (.slice none 0 0) (New0 n) ∧ Kept (fun _ => False) w w'

theorem new_at (w : World) (n bd bv : Nat) {W : World} (hd : W.heap[bd]? = some (.cells (bs (List.replicate n 0)).toArray 5 (0, 0))) (hv : W.heap[bv]? = some (.cells (bs (List.replicate n 0)).toArray 5 (0, 0))) (hne : bd ≠ bv)
    (h1 : w.heap.size ≤ bd) (h2 : w.heap.size ≤ bv) (h4 : n ≤ 4194304) (hk : Kept (fun _ => False) w W) :
    DAt (W.alloc (.cells #[.bool false, .int .i64 0, .slice (some ⟨bd, 0, none⟩) n n, .slice (some ⟨bv, 0, none⟩) n n, .slice none 0 0] 65)).drew (fun k => w.heap.size ≤ k) W.heap.size bd bv (.slice none 0 0) (New0 n) ∧
    Kept (fun _ => False) w (W.alloc (.cells #[.bool false, .int .i64 0, .slice (some ⟨bd, 0, none⟩) n n, .slice (some ⟨bv, 0, none⟩) n n, .slice none 0 0] 65)).drew := by
  refine ⟨⟨?_, blk_alloc hd _, blk_alloc hv _, World.ownsRow_nil _ _ _ _, hne, hk.size, h1, h2, fun k hk => by simp [Value.ownBlock] at hk, ⟨rfl, by simpa [New0] using h4, by simp [New0], by simp [New0], fun p hp => by simp [New0] at hp⟩⟩, (hk.alloc _).drw ⟨rfl, rfl, rfl, rfl⟩⟩
  have := blk_new W (.cells #[.bool false, .int .i64 0, .slice (some ⟨bd, 0, none⟩) n n, .slice (some ⟨bv, 0, none⟩) n n, .slice none 0 0] 65)
  have e : DCells (New0 n) bd bv (.slice none 0 0) = #[.bool false, .int .i64 0, .slice (some ⟨bd, 0, none⟩) n n, .slice (some ⟨bv, 0, none⟩) n n, .slice none 0 0] := by simp [DCells, New0]
  rw [e]; exact this

set_option maxRecDepth 100000 in
theorem new_bad (w : World) (n : Int) (h : n < 1 ∨ 4194304 < n) : Calls Try.prog 13 #[.int .i64 n] w fun e w' => e = .returned (.tuple #[.pointer none, .int .i64 2]) ∧ w = w' := by
  by_cases h1 : n < 1
  · go_enter Try.func13, Try.ntmps13
    go_wp2
    go_ret2
    exact ⟨rfl, rfl⟩
  · have h2 : 4194304 < n := by omega
    go_enter Try.func13, Try.ntmps13
    go_wp2
    go_ret2
    exact ⟨rfl, rfl⟩

set_option maxHeartbeats 1000000 in
set_option maxRecDepth 100000 in
theorem new_ok (w : World) (n : Nat) (h : 1 ≤ n) (h4 : n ≤ 4194304) : Calls Try.prog 13 #[.int .i64 n] w (NewPost w n) := by
  have hmk := make40 n h4
  go_enter Try.func13, Try.ntmps13
  go_wp2
  go_region
  · have b0 := blk_new w (.cells (bs (List.replicate n 0)).toArray 5)
    have b1 := blk_new (w.alloc (.cells (bs (List.replicate n 0)).toArray 5)) (.cells (bs (List.replicate n 0)).toArray 5)
    rw [World.size_alloc] at b1
    have b2 := new_at w n w.heap.size (w.heap.size + 1) (blk_alloc b0 _) b1 (by omega) (Nat.le_refl _) (by omega) h4 ((Kept.refl _ w).alloc _ |>.alloc _)
    rw [World.size_alloc, World.size_alloc] at b2
    have B2 := Lib.hid b2
    clear b0 b1 b2 hmk
    go_wp2
    go_ret2
    exact ⟨_, _, _, rfl, B2.out.1, B2.out.2⟩
  · have b0 := blk_new w (.cells (bs (List.replicate n 0)).toArray 5)
    have b1 := blk_new (w.alloc (.cells (bs (List.replicate n 0)).toArray 5)) (.cells (bs (List.replicate n 0)).toArray 5)
    rw [World.size_alloc] at b1
    have b2 := new_at w n (w.heap.size + 1) w.heap.size b1 (blk_alloc b0 _) (by omega) (by omega) (Nat.le_refl _) h4 ((Kept.refl _ w).alloc _ |>.alloc _)
    rw [World.size_alloc, World.size_alloc] at b2
    have B2 := Lib.hid b2
    clear b0 b1 b2 hmk
    go_wp2
    go_ret2
    exact ⟨_, _, _, rfl, B2.out.1, B2.out.2⟩
end Go.Proofs.Ytlocickppgddmaa
