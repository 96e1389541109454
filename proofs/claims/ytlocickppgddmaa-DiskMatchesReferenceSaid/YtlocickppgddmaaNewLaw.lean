import Derived.Test.YtlocickppgddmaaD10
namespace Go.Proofs.Ytlocickppgddmaa
open Go.RowKit

def LawPost (w : World) (e : Ending) (w' : World) : Prop := e = .returned (.bool true) ∧ Below w.heap.size w w'

set_option maxHeartbeats 4000000 in
set_option maxRecDepth 100000 in
theorem new_law (w : World) (n at' : Int) (h1 : -9223372036854775808 ≤ at') (h2 : at' ≤ 9223372036854775807) (h3 : -9223372036854775808 ≤ n) (h4 : n ≤ 9223372036854775807) : Calls Try.prog 3 #[.int .i64 n, .int .i64 at'] w (LawPost w) := by
  by_cases hn : n < 1 ∨ 4194304 < n
  · have HN := Lib.hid hn
    by_cases h5 : n < 1
    · clear hn
      go_enter Try.func3, Try.ntmps3
      go_wp2_with (first | (go_at_call 12; refine (sane_any _).mono ?_; rintro e w1 ⟨rfl, hb1⟩) | (go_at_call 13; refine (new_bad _ n HN.out).mono ?_; rintro e w2 ⟨rfl, rfl⟩))
      go_ret
      exact ⟨rfl, hb1⟩
    · have h6 : 4194304 < n := by omega
      clear hn
      go_enter Try.func3, Try.ntmps3
      go_wp2_with (first | (go_at_call 12; refine (sane_any _).mono ?_; rintro e w1 ⟨rfl, hb1⟩) | (go_at_call 13; refine (new_bad _ n HN.out).mono ?_; rintro e w2 ⟨rfl, rfl⟩))
      go_ret
      exact ⟨rfl, hb1⟩
  · have h5 : 1 ≤ n := by omega
    have h6 : n ≤ 4194304 := by omega
    obtain ⟨k, rfl⟩ := Int.eq_ofNat_of_zero_le (show 0 ≤ n by omega)
    have hp := pickI_range at' k h5
    have hk1 : 1 ≤ k := by omega
    have hk4 : k ≤ 4194304 := by omega
    have hrd : (New0 k).read (pickI at' k) 1 = (⟨#[0]⟩, 0) := by
      have hf : fitsB (pickI at' k) 1 k = true := by simp [fitsB]; omega
      have hl : (New0 k).dur.length = k := by simp [New0]
      have ho : (New0 k).off = false := rfl
      simp only [DS.read, ho, hl, hf, if_true, Bool.false_eq_true, if_false]
      have : ((List.replicate k (0 : UInt8)).drop (pickI at' k).toNat).take (1 : Int).toNat = [0] := by
        rw [List.drop_replicate, List.take_replicate]
        have : min (1 : Int).toNat (k - (pickI at' k).toNat) = 1 := by
          have : (1 : Int).toNat = 1 := rfl
          omega
        rw [this]; rfl
      rw [show (New0 k).vis = List.replicate k (0 : UInt8) from rfl, this]
    have HR := Lib.hid hrd
    have hds : ((New0 k).dur.length : Int) = k := by simp [New0]
    have HDs := Lib.hid hds
    clear hn hrd hds
    go_enter Try.func3, Try.ntmps3
    go_wp2_with fail
    refine (sane_any _).mono ?_
    rintro e w1 ⟨rfl, hb1⟩
    go_wp2_with fail
    refine (new_dk (F := fun k => w1.heap.size ≤ k) w1 k hk1 hk4 (fun _ h => h)).mono ?_
    rintro e w2 ⟨g, rfl, hd2, hb2⟩
    have hB2 := hb1.trans (hb2.below hb1.size (fun k h => Nat.le_trans hb1.size h))
    clear hb1 hb2
    go_wp2_with fail
    refine (pick_any _ at' k h1 h2 h5 h4).mono ?_
    rintro e w2' ⟨rfl, rfl⟩
    go_wp2_with fail
    refine (read_dk hd2 _ 1 HR.out).mono ?_
    rintro e w2' ⟨rfl, rfl⟩
    go_wp2_with fail
    refine (size_dk hd2).mono ?_
    rintro e w2' ⟨rfl, rfl⟩
    rw [HDs.out]
    go_wp2_with fail
    refine (pending_dk hd2).mono ?_
    rintro e w2' ⟨rfl, rfl⟩
    have hpl : ((New0 k).pend.length : Int) = 0 := rfl
    rw [hpl]
    go_wp2_with fail
    go_ret
    exact ⟨rfl, hB2⟩
end Go.Proofs.Ytlocickppgddmaa
