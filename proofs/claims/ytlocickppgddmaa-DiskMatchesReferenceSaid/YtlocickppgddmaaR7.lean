import Derived.Test.YtlocickppgddmaaR6
namespace Go.Proofs.Ytlocickppgddmaa
open Go.RowKit

def RNewPost (w : World) (n : Nat) (e : Ending) (w' : World) : Prop :=
  ∃ g sb scap lv, e = .returned (.tuple #[.pointer (some ⟨g, 0, none⟩), .int .i64 0]) ∧ RAt w' (fun k => w.heap.size ≤ k) g sb scap lv (New0 n) ∧ Kept (fun _ => False) w w'

set_option maxHeartbeats 1000000 in
set_option maxRecDepth 100000 in
theorem rnew_ok (w : World) (n : Nat) (h : 1 ≤ n) (h4 : n ≤ 4194304) : Calls Try.prog 18 #[.int .i64 n] w (RNewPost w n) := by
  have hmk := make40 n h4
  go_enter Try.func18, Try.ntmps18
  go_wp2
  go_ret2
  have b0 := blk_new w (.cells (bs (List.replicate n 0)).toArray 5)
  have b1 := blk_new (w.alloc (.cells (bs (List.replicate n 0)).toArray 5)) (.cells #[.slice (some ⟨w.heap.size, 0, none⟩) n n, .slice none 0 0, .bool false, .int .i64 0] 43)
  have b2 := blk_alloc b0 (.cells #[.slice (some ⟨w.heap.size, 0, none⟩) n n, .slice none 0 0, .bool false, .int .i64 0] 43)
  refine ⟨_, w.heap.size, n, .slice none 0 0, rfl, ⟨?_, ⟨_, b2, by simp [bs], by simp [New0, bs], by simp [New0]⟩, World.ownsRow_nil _ _ _ _, ?_, Nat.le_refl _, (fun k e => (by cases e)), ⟨rfl, by simpa [New0] using h4, Nat.zero_le _, Nat.zero_le _, (fun p hp => (by cases hp))⟩, rfl, by omega, by simpa [New0] using h⟩, ((Kept.refl _ w).alloc _).alloc _⟩
  · simpa [New0] using b1
  · simp
end Go.Proofs.Ytlocickppgddmaa
