/- pair.Price. -/
import Derived.Test.YthfagcdjbmhhcaaGreatK10
set_option linter.unusedVariables false
set_option linter.unusedSimpArgs false
namespace Go.Proofs.YthfagcdjbmhhcaaGreat
open Go.RowKit
attribute [local irreducible] wpQuiet
set_option maxHeartbeats 2000000 in
theorem price44 {w : World} (x : Edg) (hi : 0 ≤ x.id ∧ x.id ≤ 39) (hw : 0 ≤ x.weight ∧ x.weight ≤ 1000) :
  Calls Tryz.prog 44 #[.agg #[.int .i64 x.id, .int .i64 x.src, .int .i64 x.dst, .bool x.dir, .int .i64 x.weight, .int .i64 x.cap]] w fun e w' => ∃ v, e = .returned (.int .i64 v) ∧ 0 < v ∧ Gro w w' := by
 have hmix := mixed
 obtain ⟨xid, xsrc, xdst, xdir, xweight, xcap⟩ := x
 simp only at hi hw ⊢
 obtain ⟨hi0, hi1⟩ := hi
 obtain ⟨hw0, hw1⟩ := hw
 have d1 := decide_eq_false (show ¬ xid < 0 by omega)
 have d2 := decide_eq_false (show ¬ 40 ≤ xid by omega)
 have d3 := decide_eq_false (show ¬ xweight < -1000 by omega)
 have d4 := decide_eq_false (show ¬ 1000 < xweight by omega)
 have kA : Gro w (w.alloc (.cells #[.int .i64 xid, .int .i64 xsrc, .int .i64 xdst, .bool xdir, .int .i64 xweight, .int .i64 xcap] 69)) := (Gro.refl _).alloc _
 obtain ⟨wa, hwa⟩ : ∃ wa, wa = w.alloc (.cells #[.int .i64 xid, .int .i64 xsrc, .int .i64 xdst, .bool xdir, .int .i64 xweight, .int .i64 xcap] 69) := ⟨_, rfl⟩
 have bA : wa.heap[w.heap.size]? = some (.cells #[.int .i64 xid, .int .i64 xsrc, .int .i64 xdst, .bool xdir, .int .i64 xweight, .int .i64 xcap] 69 (0, 0)) := by rw [hwa]; exact blk_new _ _
 have HW := Lib.hid hwa
 rw [← hwa] at kA
 have KA := Lib.hid kA
 have c0 := blk_cell bA 0
 have c4 := blk_cell bA 4
 simp only [lPa, lPb, lPc] at c0 c4
 have hl := blk_lt bA
 clear hwa kA bA
 have hsub : IntKind.i64.wrap (39 - xid) = 39 - xid := by rw [IntKind.wrap_i64]; omega
 go_enter Tryz.func44, Tryz.ntmps44
 go_wp2_with fail
 rw [← HW.out]
 have c0 := gcell c0
 have c4 := gcell c4
 go_quiet_grown (fail)
 have kq := gro_of_grow wa nq osq
 dsimp only at kq ⊢
 clear c0 c4
 generalize Go.Sort.grow (wa.drewN nq) osq = w3 at kq ⊢
 have KQ := Lib.hid (KA.out.trans kq)
 clear kq
 go_wp2_with fail
 go_ret
 refine ⟨_, rfl, ?_, KQ.out⟩
 have hn : (39 - xid).toNat ≤ 39 := by omega
 generalize (39 - xid).toNat = n at hn
 have h1 : 1 ≤ 2 ^ n := Nat.one_le_two_pow
 have h2 : 2 ^ n ≤ 2 ^ 39 := Nat.pow_le_pow_right (by decide) hn
 have h3 : ((2 : Int) ^ n) = ((2 ^ n : Nat) : Int) := by simp
 rw [h3]
 generalize (2 ^ n : Nat) = m at h1 h2
 have h4 : (2 : Nat) ^ 39 = 549755813888 := by decide
 rw [h4] at h2
 have e1 : IntKind.i64.wrap (xweight * 1099511627776) = xweight * 1099511627776 := by rw [IntKind.wrap_i64]; omega
 have e2 : IntKind.i64.wrap (m : Int) = m := by rw [IntKind.wrap_i64]; omega
 rw [e1, e2]
 have e3 : IntKind.i64.wrap (xweight * 1099511627776 + (m : Int)) = xweight * 1099511627776 + m := by rw [IntKind.wrap_i64]; omega
 rw [e3]
 omega
end Go.Proofs.YthfagcdjbmhhcaaGreat
