import Derived.Test.YtlocickppgddmaaNewLaw
namespace Go.Proofs.Ytlocickppgddmaa
open Go.RowKit

set_option maxHeartbeats 4000000 in
set_option maxRecDepth 100000 in
theorem nil_law (w : World) (off n : Int) (s : ByteArray) (a : Option Addr) (len cap : Nat) (hl : len ≤ cap) (hs : s.size ≤ 9223372036854775807) (hc : cap ≤ 9223372036854775807) : Calls Try.prog 5 #[.int .i64 off, .int .i64 n, .string s, .slice a len cap] w (LawPost w) := by
  have hm : min (len : Int) 100 ≤ (cap : Int) := by omega
  have hm0 : 0 ≤ min (len : Int) 100 := by omega
  go_enter Try.func5, Try.ntmps5
  go_wp2_with fail
  refine (sane_any _).mono ?_
  rintro e w1 ⟨rfl, hb1⟩
  go_wp2_with fail
  refine (read_nil _ off n).mono ?_
  rintro e w1' ⟨rfl, rfl⟩
  go_wp2_with fail
  refine (cut_str _ s 100 (by omega) hs).mono ?_
  rintro e w1' ⟨rfl, rfl⟩
  go_wp2_with fail
  refine (write_nil _ off _).mono ?_
  rintro e w1' ⟨rfl, rfl⟩
  go_wp2_with fail
  refine (sync_nil _).mono ?_
  rintro e w1' ⟨rfl, rfl⟩
  go_wp2_with fail
  refine (cut_nil _ n).mono ?_
  rintro e w1' ⟨rfl, rfl⟩
  go_wp2_with fail
  refine (crash_nil _ _ n).mono ?_
  rintro e w2 ⟨rfl, hb2⟩
  have hB2 := hb1.trans (hb2.mono hb1.size)
  clear hb1 hb2
  go_wp2_with fail
  refine (pending_nil _).mono ?_
  rintro e w2' ⟨rfl, rfl⟩
  go_wp2_with fail
  refine (size_nil _).mono ?_
  rintro e w2' ⟨rfl, rfl⟩
  go_wp2_with fail
  go_ret
  exact ⟨rfl, hB2⟩
end Go.Proofs.Ytlocickppgddmaa
