/- acts: a map of ten functions; and what is looked up in it. -/
import Derived.Test.YthfagcdjbmhhcaaGreatU4
import Derived.WideMake
set_option linter.unusedVariables false
set_option linter.unusedSimpArgs false
namespace Go.Proofs.YthfagcdjbmhhcaaGreat
open Go.RowKit
attribute [local irreducible] wpQuiet
theorem und166 : Tryz.prog.underlying 166 = some (.map 3 165) := by kernel_rfl
theorem und3 : Tryz.prog.underlying 3 = some (.int .i64) := by kernel_rfl
theorem chkKey (w : World) (b : Bool) (k : Int) : (Instr.checkKey b 10000 3 (.int .i64 k)).run Tryz.prog w = .ok () w := by
 exact MapKept.run_checkKey und3 (show MapKept.IsKey (.int .i64) (.int .i64 k) from rfl) b 9999
theorem run_mins {w : World} {M : Nat} {es : Array MapEntry} {clock : Nat} (h : w.heap[M]? = some (.map es clock)) (k : Int) (v : Value) (hf : Instr.findNow (.int .i64) (.int .i64 k) es.toList 0 = some none) :
  ∃ w', (Instr.mapUpdate 166 (.map (some M)) (.int .i64 k) v).run Tryz.prog w = .ok () w' ∧ w'.heap[M]? = some (.map (es.push ⟨.int .i64 k, v, clock⟩) (clock + 1)) ∧ Kept (· = M) w w' := by
 have hu := und166
 refine ⟨{ w with heap := w.heap.setIfInBounds M (.map (es.push ⟨.int .i64 k, v, clock⟩) (clock + 1)) }, ?_, ?_, ?_⟩
 ·simp [Instr.mapUpdate, run_underlying hu, MapKept.run_getObj_map h, chkKey, MapKept.run_findKey und3 hf, MapKept.run_setObj_map _ h, Result.andThen]
 ·have hl := blk_lt h
  simp [hl]
 exact ⟨rfl, rfl, rfl, Nat.le_refl _, by simp, fun j hj hne => by
  show (w.heap.setIfInBounds M _)[j]? = _
  rw [Array.getElem?_setIfInBounds_ne (fun e => hne e.symm)]⟩
theorem wpList_mins {w : World} {ops : Array Oper} {rest : List Oper} {o : Oper} {a : Act} {Q : Exit → Act → World → Prop} (hgd : o.guard = none) (m v : Operand) (k : Int) (ho : o.op = .insert 166 m (.const (.int .i64 k)) v)
  {M : Nat} {es : Array MapEntry} {clock : Nat} (h : w.heap[M]? = some (.map es clock)) (hm : a.eval m = .map (some M)) (hf : Instr.findNow (.int .i64) (.int .i64 k) es.toList 0 = some none)
  (hk : ∀ w', w'.heap[M]? = some (.map (es.push ⟨.int .i64 k, a.eval v, clock⟩) (clock + 1)) → Kept (· = M) w w' → wpList Tryz.prog ops Q rest (a.put o.dst undef) w') : wpList Tryz.prog ops Q (o :: rest) a w := by
 refine wpList_plain hgd fun K hK => ?_
 obtain ⟨w', hrun, h1, h2⟩ := run_mins h k (a.eval v) hf
 have e1 : a.eval (.const (.int .i64 k)) = .int .i64 k := rfl
 unfold Oper.wp
 simp [execOp, ho, hm, e1, hrun, Result.andThen]
 exact hK _ _ (hk w' h1 h2)
def actsM : Array MapEntry := #[⟨.int .i64 1, .func (.func 183) #[] #[], 0⟩, ⟨.int .i64 2, .func (.func 185) #[] #[], 1⟩, ⟨.int .i64 3, .func (.func 189) #[] #[], 2⟩, ⟨.int .i64 4, .func (.func 191) #[] #[], 3⟩, ⟨.int .i64 5, .func (.func 193) #[] #[], 4⟩,
 ⟨.int .i64 6, .func (.func 195) #[] #[], 5⟩, ⟨.int .i64 7, .func (.func 196) #[] #[], 6⟩, ⟨.int .i64 8, .func (.func 198) #[] #[], 7⟩, ⟨.int .i64 9, .func (.func 199) #[] #[], 8⟩, ⟨.int .i64 10, .func (.func 200) #[] #[], 9⟩]
set_option maxRecDepth 100000 in
set_option maxHeartbeats 2000000 in
theorem acts144 (w : World) : Calls Tryz.prog 144 #[] w fun e w' => ∃ M, e = .returned (.map (some M)) ∧ w'.heap[M]? = some (.map actsM 10) ∧ Gro w w' := by
 have hmm := @run_makeMap Tryz.prog
 go_enter Tryz.func144, Tryz.ntmps144
 go_wp2_with fail
 have h0 := blk_new w (.map #[] 0)
 have k0 : Gro w (w.alloc (.map #[] 0)) := (Gro.refl _).alloc _
 have e0 : w.heap.size = w.heap.size := rfl
 generalize hw0 : w.alloc (.map #[] 0) = w0 at h0 k0 ⊢
 clear hw0
 obtain ⟨w1, hr, h1, j1⟩ := run_mins h0 1 (.func (.func 183) #[] #[]) rfl
 rw [hr]
 have k1 : Gro w w1 := Kept.trans' k0 j1 (fun i hi => .inr (by omega))
 clear hr j1 h0 k0
 go_wp2_with fail
 obtain ⟨w2, hr, h2, j2⟩ := run_mins h1 2 (.func (.func 185) #[] #[]) rfl
 rw [hr]
 have k2 : Gro w w2 := Kept.trans' k1 j2 (fun i hi => .inr (by omega))
 clear hr j2 h1 k1
 go_wp2_with fail
 obtain ⟨w3, hr, h3, j3⟩ := run_mins h2 3 (.func (.func 189) #[] #[]) rfl
 rw [hr]
 have k3 : Gro w w3 := Kept.trans' k2 j3 (fun i hi => .inr (by omega))
 clear hr j3 h2 k2
 go_wp2_with fail
 obtain ⟨w4, hr, h4, j4⟩ := run_mins h3 4 (.func (.func 191) #[] #[]) rfl
 rw [hr]
 have k4 : Gro w w4 := Kept.trans' k3 j4 (fun i hi => .inr (by omega))
 clear hr j4 h3 k3
 go_wp2_with fail
 obtain ⟨w5, hr, h5, j5⟩ := run_mins h4 5 (.func (.func 193) #[] #[]) rfl
 rw [hr]
 have k5 : Gro w w5 := Kept.trans' k4 j5 (fun i hi => .inr (by omega))
 clear hr j5 h4 k4
 go_wp2_with fail
 obtain ⟨w6, hr, h6, j6⟩ := run_mins h5 6 (.func (.func 195) #[] #[]) rfl
 rw [hr]
 have k6 : Gro w w6 := Kept.trans' k5 j6 (fun i hi => .inr (by omega))
 clear hr j6 h5 k5
 go_wp2_with fail
 obtain ⟨w7, hr, h7, j7⟩ := run_mins h6 7 (.func (.func 196) #[] #[]) rfl
 rw [hr]
 have k7 : Gro w w7 := Kept.trans' k6 j7 (fun i hi => .inr (by omega))
 clear hr j7 h6 k6
 go_wp2_with fail
 obtain ⟨w8, hr, h8, j8⟩ := run_mins h7 8 (.func (.func 198) #[] #[]) rfl
 rw [hr]
 have k8 : Gro w w8 := Kept.trans' k7 j8 (fun i hi => .inr (by omega))
 clear hr j8 h7 k7
 go_wp2_with fail
 obtain ⟨w9, hr, h9, j9⟩ := run_mins h8 9 (.func (.func 199) #[] #[]) rfl
 rw [hr]
 have k9 : Gro w w9 := Kept.trans' k8 j9 (fun i hi => .inr (by omega))
 clear hr j9 h8 k8
 go_wp2_with fail
 obtain ⟨w10, hr, h10, j10⟩ := run_mins h9 10 (.func (.func 200) #[] #[]) rfl
 rw [hr]
 have k10 : Gro w w10 := Kept.trans' k9 j10 (fun i hi => .inr (by omega))
 clear hr j10 h9 k9
 go_wp2_with fail
 go_ret
 exact ⟨_, rfl, h10, k10⟩
theorem find_acts (k : Int) (f : Nat) (h : (k = 1 ∧ f = 183) ∨ (k = 2 ∧ f = 185) ∨ (k = 3 ∧ f = 189) ∨ (k = 4 ∧ f = 191)) : ∃ i, Instr.findNow (.int .i64) (.int .i64 k) actsM.toList 0 = some (some (i, .func (.func f) #[] #[])) := by
 rcases h with ⟨rfl, rfl⟩ | ⟨rfl, rfl⟩ | ⟨rfl, rfl⟩ | ⟨rfl, rfl⟩ <;> exact ⟨_, rfl⟩
theorem run_look {w : World} {M : Nat} (h : w.heap[M]? = some (.map actsM 10)) (k : Int) (f : Nat) (hk : (k = 1 ∧ f = 183) ∨ (k = 2 ∧ f = 185) ∨ (k = 3 ∧ f = 189) ∨ (k = 4 ∧ f = 191)) :
  (Instr.lookup 166 (.map (some M)) (.int .i64 k) false).run Tryz.prog w = .ok (.func (.func f) #[] #[]) w := by
 have hu := und166
 obtain ⟨i, hf⟩ := find_acts k f hk
 simp [Instr.lookup, run_underlying hu, MapKept.run_getObj_map h, chkKey, MapKept.run_findKey und3 hf, Result.andThen]
end Go.Proofs.YthfagcdjbmhhcaaGreat
