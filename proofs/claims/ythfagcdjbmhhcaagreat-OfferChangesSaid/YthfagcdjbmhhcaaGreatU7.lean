/- try: a call that does not panic. -/
import Derived.Test.YthfagcdjbmhhcaaGreatU6
import Derived.Defers
import Derived.Recover
set_option linter.unusedVariables false
set_option linter.unusedSimpArgs false
namespace Go.Proofs.YthfagcdjbmhhcaaGreat
open Go.RowKit
attribute [local irreducible] wpQuiet
theorem CAt.setT {F : Nat → Prop} {w0 w : World} {base B : Nat} {v1 v2 v3 : Value} {g : Gr} (h : CAt F w0 base w B v1 v2 v3 g) {T : Nat} {cs : Array Value} {t : TypeId} (hT : w.heap[T]? = some (.cells cs t (0, 0))) (h1 : t ≠ 128) (h2 : t ≠ 77) (h3 : t ≠ 69) (h4 : t ≠ 3)
  (hl : w0.heap.size ≤ T) (u : Value) : CAt F w0 base (w.setCell ⟨T, 0, none⟩ u) B v1 v2 v3 g := by
 have kk : Kept (· = T) w (w.setCell ⟨T, 0, none⟩ u) := (Kept.refl (· = T) w).setCell (p := ⟨T, 0, none⟩) (.inl rfl) u
 exact ⟨kk.blk h.cb (fun e => blk_ne hT h.cb h1 e.symm), h.va.far kk hT h2, h.vb.far kk hT h3, h.vc.far kk hT h4, Kept.setCell h.kept (.inr hl) _, h.bs, h.bl, h.fa, h.fe⟩
set_option maxHeartbeats 1000000 in
set_option maxRecDepth 100000 in
theorem def182 {w : World} {T : Nat} (hT : w.heap[T]? = some (.cells #[.bool true] 4 (0, 0))) :
  CallsD Tryz.prog 182 #[.pointer (some ⟨T, 0, none⟩)] .returning w fun e u' w' => e = .returned (.tuple #[]) ∧ u' = .returning ∧ w' = w.setCell ⟨T, 0, none⟩ (.bool true) := by
 have hc := blk_cell hT 0
 have hz := blk_frozen hT 0
 have hlt := blk_lt hT
 simp only [List.getElem?_toArray, List.getElem?_cons_zero] at hc
 clear hT
 have hta : ∀ w : World, (Instr.typeAssert .nilIface 20 46 true).run Tryz.prog w = .ok (.tuple #[.int .i64 0, .bool false]) w := fun w => by kernel_rfl
 refine callsD_of_wpS Tryz.func182 rfl fun c₀ cs hu => ?_
 apply wpS_seq
 apply wpS_region
 simp [wpOpsS, go_sem, recoverD, hu, Tryz.ntmps182, Exit.thenS]
 simp only [Array.replicate_succ, Array.replicate_zero, List.push_toArray, List.append_toArray, List.nil_append, List.cons_append, List.setIfInBounds_toArray, List.set_cons_zero, List.set_cons_succ]
 refine wpS_of_wp ?_
 go_wp2
 cases c₀
 simp_all [bodyPostS, results, Tryz.results182]
set_option maxHeartbeats 1000000 in
set_option maxRecDepth 100000 in
theorem try142 {F : Nat → Prop} {w0 w : World} {base B C O : Nat} {v1 v2 v3 : Value} {g : Gr} (h : CAt F w0 base w B v1 v2 v3 g) (hv : VG g) {c : Chg} (hc : OkC g c) (hC : w.heap[C]? = some (.cells (Rec.cs c).toArray 86 (0, 0)))
  (hO : w.heap[O]? = some (.cells #[.pointer (some ⟨B, 0, none⟩)] 126 (0, 0))) :
  Calls Tryz.prog 142 #[.func (.func 143) #[] #[.pointer (some ⟨C, 0, none⟩), .pointer (some ⟨O, 0, none⟩)]] w fun e w' => e = .returned (.bool true) ∧ ∃ u1 u2, CAt F w0 base w' B u1 u2 v3 (stepG g c) := by
 have hmf : ∀ (fn : Fn) (first cap : Array Value) (w : World), (Instr.makeFunc fn first cap).run Tryz.prog w = .ok (.func fn first cap) w := fun _ _ _ _ => rfl
 have kA : Gro w (w.alloc (.cells #[.bool false] 4)) := (Gro.refl _).alloc _
 have bA := blk_new w (.cells #[.bool false] 4)
 have HH := yy (h.step kA)
 have HC := yy (kA.blk hC)
 have HO := yy (kA.blk hO)
 have HT := yy bA
 have hsz : w0.heap.size ≤ w.heap.size := h.kept.size
 clear kA bA h hC hO
 go_enter_defers Tryz.func142, Tryz.ntmps142
 go_wp2_with fail
 refine (app143 HH.out.own hv hc HC.out HO.out).mono ?_
 rintro e w2 ⟨rfl, u1, u2, h2⟩
 have hT2 := h2.kept.blk HT.out (HH.out.far HT.out (by decide) (by decide) (by decide))
 have H2 := yy (HH.out.back h2)
 clear h2 HH HC HO HT
 generalize w.heap.size = T at hT2 hsz ⊢
 have H3 := yy (H2.out.setT hT2 (by decide) (by decide) (by decide) (by decide) hsz (.bool true))
 have hT3 : (w2.setCell ⟨T, 0, none⟩ (.bool true)).heap[T]? = some (.cells #[.bool true] 4 (0, 0)) := by simpa using blk_set hT2 0 (.bool true)
 have hc2 := blk_cell hT2 0
 have hz2 := blk_frozen hT2 0
 have hl2 := blk_lt hT2
 simp only [List.getElem?_toArray, List.getElem?_cons_zero] at hc2
 have HT3 := yy hT3
 clear hT2 hT3 H2
 go_wp2_with fail
 generalize w2.setCell ⟨T, 0, none⟩ (.bool true) = w3 at HT3 H3 ⊢
 refine leaves_cons (f := 182) (args := #[.pointer (some ⟨T, 0, none⟩)]) (by simp) (by simp [go_sem]) ?_
 refine (def182 HT3.out).mono ?_
 rintro e u' w4 ⟨rfl, rfl, rfl⟩
 have H4 := yy (H3.out.setT HT3.out (by decide) (by decide) (by decide) (by decide) hsz (.bool true))
 have hT4 : (w3.setCell ⟨T, 0, none⟩ (.bool true)).heap[T]? = some (.cells #[.bool true] 4 (0, 0)) := by simpa using blk_set HT3.out 0 (.bool true)
 have hc4 := blk_cell hT4 0
 simp only [List.getElem?_toArray, List.getElem?_cons_zero] at hc4
 have hl4 := blk_lt hT4
 clear hc2 hz2 hl2
 simp [Leaves, settle, results, Tryz.results142, go_sem, hc4]
 exact ⟨u1, u2, H4.out⟩
end Go.Proofs.YthfagcdjbmhhcaaGreat
