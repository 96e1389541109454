/- a region that draws its order, with one condition on the world for the whole region but behind the operation m, which waits for those that are taken first. A map from int to int that a call has made. No run takes a draw back. Lists in memory: what a slice of a given element type reads as. -/
import Derived.Test.YthfagcdjbmhhcaaGreatProg
import Derived.WalkKit
import Derived.WalkSpells
import Derived.WalkLawsBesides
import Derived.BigQuiet
import Derived.Deep.QuietTactic
import Derived.StillTailTactics
import Derived.Laws.CopyOwn
import Derived.Lib.Hide
import Derived.Lib.SliceRun
import Derived.Deep.AppendLies
import Derived.Deep.RegionHeld3
import Derived.Shelf.SlSortCmp.QuietGrown
import Derived.Maps.OwnOps
import Derived.Maps.Views
import Derived.WalkArith
set_option linter.unusedVariables false
set_option linter.unusedSimpArgs false
namespace Go.Proofs.YthfagcdjbmhhcaaGreat
open Go.RowKit
/-! ### worlds -/
/-- all but the number of draws is the same -/
structure Drw (w w2 : World) : Prop where
 heap : w2.heap = w.heap
 os : w2.os = w.os
 tape : w2.tape = w.tape
 output : w2.output = w.output
 drawn : w.drawn ≤ w2.drawn
/-- the blocks that F names may have turned, and there may be new ones -/
structure Kept (F : Nat → Prop) (w w' : World) : Prop where
 os : w'.os = w.os
 tape : w'.tape = w.tape
 output : w'.output = w.output
 drawn : w.drawn ≤ w'.drawn
 size : w.heap.size ≤ w'.heap.size
 block : ∀ k, k < w.heap.size → ¬ F k → w'.heap[k]? = w.heap[k]?
theorem Kept.refl (F : Nat → Prop) (w : World) : Kept F w w := ⟨rfl, rfl, rfl, Nat.le_refl _, Nat.le_refl _, fun _ _ _ => rfl⟩
theorem Drw.kept {w w2 : World} (h : Drw w w2) (F : Nat → Prop) : Kept F w w2 := ⟨h.os, h.tape, h.output, h.drawn, by rw [h.heap]; exact Nat.le_refl _, fun k _ _ => by rw [h.heap]⟩
theorem Kept.trans {F : Nat → Prop} {a b c : World} (h : Kept F a b) (k : Kept F b c) : Kept F a c :=
 ⟨k.os.trans h.os, k.tape.trans h.tape, k.output.trans h.output, Nat.le_trans h.drawn k.drawn, Nat.le_trans h.size k.size, fun i hi hf => (k.block i (Nat.lt_of_lt_of_le hi h.size) hf).trans (h.block i hi hf)⟩
/-- what came later may turn what is new -/
theorem Kept.trans' {F G : Nat → Prop} {a b c : World} (h : Kept F a b) (k : Kept G b c) (hG : ∀ i, G i → F i ∨ a.heap.size ≤ i) : Kept F a c :=
 ⟨k.os.trans h.os, k.tape.trans h.tape, k.output.trans h.output, Nat.le_trans h.drawn k.drawn, Nat.le_trans h.size k.size, fun i hi hf => (k.block i (Nat.lt_of_lt_of_le hi h.size) (fun hg => by rcases hG i hg with h1 | h1; exact hf h1; omega)).trans (h.block i hi hf)⟩
theorem Kept.mono {F G : Nat → Prop} {a b : World} (h : Kept F a b) (hG : ∀ i, F i → G i ∨ a.heap.size ≤ i) : Kept G a b :=
 ⟨h.os, h.tape, h.output, h.drawn, h.size, fun i hi hf => h.block i hi (fun hg => by rcases hG i hg with h1 | h1; exact hf h1; omega)⟩
theorem Kept.drw {F : Nat → Prop} {a b c : World} (h : Kept F a b) (d : Drw b c) : Kept F a c := h.trans (d.kept F)
theorem Kept.setCell {F : Nat → Prop} {a w : World} (h : Kept F a w) {p : Addr} (hp : F p.block ∨ a.heap.size ≤ p.block) (u : Value) : Kept F a (w.setCell p u) :=
 h.trans' (G := fun k => k = p.block) ⟨rfl, rfl, rfl, Nat.le_refl _, by simp [World.setCell], fun k _ hk => Below.heap_setCell _ _ _ _ hk⟩ (fun i hi => by subst hi; exact hp)
theorem Kept.setRow {F : Nat → Prop} {a w : World} (h : Kept F a w) {g : Nat} (hp : F g ∨ a.heap.size ≤ g) (cs : Array Value) : Kept F a (w.setRow g cs) :=
 h.trans' (G := fun k => k = g) ⟨rfl, rfl, rfl, Nat.le_refl _, by simp [World.setRow], fun k _ hk => setRow_other w g k cs hk⟩ (fun i hi => by subst hi; exact hp)
theorem Kept.alloc {F : Nat → Prop} {a w : World} (h : Kept F a w) (o : Obj) : Kept F a (w.alloc o) :=
 h.trans ⟨rfl, rfl, rfl, Nat.le_refl _, by simp, fun k hk _ => Below.heap_alloc _ _ _ hk⟩
theorem Kept.below {F : Nat → Prop} {B : Nat} {a b : World} (h : Kept F a b) (hB : B ≤ a.heap.size) (hF : ∀ k, F k → B ≤ k) : Below B a b :=
 ⟨h.os, h.tape, h.output, h.size, fun k hk => h.block k (by omega) (fun hf => by have := hF k hf; omega)⟩
theorem Kept.blk {F : Nat → Prop} {a b : World} (h : Kept F a b) {g : Nat} {o : Obj} (hg : a.heap[g]? = some o) (hf : ¬ F g) : b.heap[g]? = some o :=
 (h.block g (Array.getElem?_eq_some_iff.1 hg).1 hf).trans hg
theorem Drw.blk {a b : World} (h : Drw a b) {g : Nat} {o : Obj} (hg : a.heap[g]? = some o) : b.heap[g]? = some o := by rw [h.heap]; exact hg
/-! ### blocks -/
theorem blk_lt {w : World} {g : Nat} {o : Obj} (h : w.heap[g]? = some o) : g < w.heap.size := (Array.getElem?_eq_some_iff.1 h).1
theorem blk_cell {w : World} {g : Nat} {t : TypeId} {cs : Array Value} {fr : Nat × Nat} (h : w.heap[g]? = some (.cells cs t fr)) : ∀ i, w.cell? ⟨g, i, none⟩ = cs[i]? := fun i => cell_of_row w g i cs t fr h
theorem blk_frozen {w : World} {g : Nat} {t : TypeId} {cs : Array Value} (h : w.heap[g]? = some (.cells cs t (0, 0))) : ∀ i, w.frozen? ⟨g, i, none⟩ = false := fun i => by simp [World.frozen?, h]
theorem blk_ne {w : World} {g g' : Nat} {t t' : TypeId} {cs cs' : Array Value} {fr fr' : Nat × Nat} (h : w.heap[g]? = some (.cells cs t fr)) (h' : w.heap[g']? = some (.cells cs' t' fr')) (hne : t ≠ t') : g ≠ g' := by
 intro e; subst e; rw [h] at h'; injection h' with h'; injection h' with _ h2 _; exact hne h2
theorem blk_set {w : World} {g : Nat} {t : TypeId} {cs : Array Value} {fr : Nat × Nat} (h : w.heap[g]? = some (.cells cs t fr)) (i : Nat) (u : Value) : (w.setCell ⟨g, i, none⟩ u).heap[g]? = some (.cells (cs.setIfInBounds i u) t fr) := by
 simp [World.setCell, Array.getElem?_modify, h]
theorem blk_far {w : World} {g : Nat} {o : Obj} (h : w.heap[g]? = some o) {p : Addr} (hp : g ≠ p.block) (u : Value) : (w.setCell p u).heap[g]? = some o := (Below.heap_setCell w p u g hp).trans h
theorem blk_alloc {w : World} {g : Nat} {o : Obj} (h : w.heap[g]? = some o) (o' : Obj) : (w.alloc o').heap[g]? = some o := (Below.heap_alloc w o' g (blk_lt h)).trans h
theorem blk_new (w : World) (o : Obj) : (w.alloc o).heap[w.heap.size]? = some o := heap_alloc_new w o
/-! ### a region that draws: quiet operations first, then a tail in one order -/
theorem region_tail {P : Program} {id : Nat} {Q : Exit → Act → World → Prop} {a : Act} {w : World} {l : List Oper} (n : Nat) (hm : P.follows .mixedOrders = true) (hB : Region.lexTailB .any l.toArray n = true)
  (h : ∀ w2, Drw w w2 → wpStill P l.toArray w2 (fun a' => wpList P l.toArray Q (l.drop n) a' w2) (l.take n) a) : (Code.region id l.toArray true).wp P Q a w :=
 wp_region_still_tail n hm hB (h _ ⟨rfl, rfl, rfl, rfl, Nat.le_succ _⟩)
/-! ### old blocks are as they were -/
abbrev Gro (w w' : World) : Prop := Kept (fun _ => False) w w'
theorem Gro.kept {w w' : World} (h : Gro w w') (F : Nat → Prop) : Kept F w w' := h.mono fun _ hf => hf.elim
theorem gro_of_grow (w : World) (n : Nat) (os : Array Obj) : Gro w (Go.Sort.grow (w.drewN n) os) :=
 ⟨rfl, rfl, rfl, Nat.le_add_right _ _, by simp [World.drewN], fun k hk _ => Go.Sort.heap_grow_old _ _ hk⟩
theorem gro_grow {w w' : World} (h : Gro w w') : ∃ q os', w' = Go.Sort.grow (w.drewN q) os' := by
 refine ⟨w'.drawn - w.drawn, w'.heap.extract w.heap.size w'.heap.size, ?_⟩
 have hh : w'.heap = w.heap ++ w'.heap.extract w.heap.size w'.heap.size := by
  apply Array.ext_getElem?
  intro k
  by_cases hk : k < w.heap.size
  ·rw [Array.getElem?_append_left hk, h.block k hk (fun hf => hf)]
  have h1 : w.heap.size ≤ k := by omega
  rw [Array.getElem?_append_right h1, Array.getElem?_extract]
  by_cases h2 : k < w'.heap.size
  ·rw [if_pos (by have := h.size; omega), show w.heap.size + (k - w.heap.size) = k by omega]
  rw [if_neg (by have := h.size; omega), Array.getElem?_eq_none (by omega)]
 have hd : w'.drawn = w.drawn + (w'.drawn - w.drawn) := by have := h.drawn; omega
 obtain ⟨h1, h2, h3, _, _, _⟩ := h
 cases w; cases w'
 simp only [Go.Sort.grow, World.drewN] at *
 subst h1 h2 h3
 simp only [World.mk.injEq, true_and, and_true]
 first | exact ⟨hh, hd⟩ | exact ⟨hd, hh⟩ | (constructor <;> assumption)
theorem Calls.quiet_gro {P : Program} {f : FuncId} {args : Array Value} {w : World} {n : Nat} {os : Array Obj} {v : Value}
  (h : Calls P f args (Go.Sort.grow (w.drewN n) os) fun e w' => e = .returned v ∧ Gro (Go.Sort.grow (w.drewN n) os) w') : Calls P f args (Go.Sort.grow (w.drewN n) os) fun e w'' => e = .returned v ∧ ∃ p : GrownBy, w'' = Go.Sort.grow (w.drewN p.n) p.os :=
 Calls.grown_of (h.mono fun _ _ ⟨he, hg⟩ => ⟨he, gro_grow hg⟩)
theorem Kept.cell {F : Nat → Prop} {a b : World} (h : Kept F a b) {p : Addr} {v : Value} (hf : ¬ F p.block) (hc : a.cell? p = some v) : b.cell? p = some v := by
 have hb := World.block_lt_of_cell? a p hc
 have := h.block p.block hb hf
 simp only [World.cell?, this] at hc ⊢
 exact hc
theorem Gro.cell {a b : World} (h : Gro a b) {p : Addr} {v : Value} (hc : a.cell? p = some v) : b.cell? p = some v := Kept.cell h (fun hf => hf) hc
/-- a cell, in all worlds that have grown -/
theorem gcell {w : World} {a : Addr} {v : Value} (h : w.cell? a = some v) : ∀ n os, (Go.Sort.grow (w.drewN n) os).cell? a = some v := fun n os => (gro_of_grow w n os).cell h
theorem Gro.blk {a b : World} (h : Gro a b) {g : Nat} {o : Obj} (hg : a.heap[g]? = some o) : b.heap[g]? = some o := Kept.blk h hg (fun hf => hf)
theorem cells3 {w : World} {X : Nat} {a b c : Value} {t : TypeId} {fr : Nat × Nat} (h : w.heap[X]? = some (.cells #[a, b, c] t fr)) : w.cell? ⟨X, 0, none⟩ = some a ∧ w.cell? ⟨X, 1, none⟩ = some b ∧ w.cell? ⟨X, 2, none⟩ = some c ∧ X < w.heap.size :=
 ⟨blk_cell h 0, blk_cell h 1, blk_cell h 2, blk_lt h⟩
theorem cells4 {w : World} {X : Nat} {a b c d : Value} {t : TypeId} {fr : Nat × Nat} (h : w.heap[X]? = some (.cells #[a, b, c, d] t fr)) : w.cell? ⟨X, 0, none⟩ = some a ∧ w.cell? ⟨X, 1, none⟩ = some b ∧ w.cell? ⟨X, 2, none⟩ = some c ∧ w.cell? ⟨X, 3, none⟩ = some d ∧ X < w.heap.size :=
 ⟨blk_cell h 0, blk_cell h 1, blk_cell h 2, blk_cell h 3, blk_lt h⟩
theorem cells6 {w : World} {X : Nat} {a b c d e f : Value} {t : TypeId} {fr : Nat × Nat} (h : w.heap[X]? = some (.cells #[a, b, c, d, e, f] t fr)) : w.cell? ⟨X, 0, none⟩ = some a ∧ w.cell? ⟨X, 1, none⟩ = some b ∧ w.cell? ⟨X, 2, none⟩ = some c ∧ w.cell? ⟨X, 3, none⟩ = some d ∧ w.cell? ⟨X, 4, none⟩ = some e ∧ w.cell? ⟨X, 5, none⟩ = some f ∧ X < w.heap.size :=
 ⟨blk_cell h 0, blk_cell h 1, blk_cell h 2, blk_cell h 3, blk_cell h 4, blk_cell h 5, blk_lt h⟩
theorem lQa {α : Type} {xs : List α} {i : Nat} (h : i < xs.toArray.size) : xs.toArray[i] = xs[i]'(by simpa using h) := rfl
theorem lQb {α : Type} {a : α} {xs : List α} {i : Nat} (h : i + 1 < (a :: xs).length) : (a :: xs)[i + 1] = xs[i]'(Nat.lt_of_succ_lt_succ h) := rfl
theorem lQc {α : Type} {a : α} {xs : List α} (h : 0 < (a :: xs).length) : (a :: xs)[0] = a := rfl
theorem lQd {α : Type} (l : List α) (i : Nat) (a : α) : l.toArray.setIfInBounds i a = (l.set i a).toArray := List.setIfInBounds_toArray _ _ _
theorem lQe {α : Type} {a b : α} {xs : List α} : (a :: xs).set 0 b = b :: xs := rfl
theorem lQf {α : Type} {a b : α} {xs : List α} {n : Nat} : (a :: xs).set (n + 1) b = a :: xs.set n b := rfl
/-- the goal after a register has been put, with the literals folded -/
theorem nx {P Q : Prop} (h : Q) (e : P = Q := by simp only [Act.put, lQa, lQb, lQc, lQd, lQe, lQf]; rfl) : P := e ▸ h
theorem yy {p : Prop} (h : p) : RowKit.Hid p := h
theorem lPa {α : Type} {xs : List α} {i : Nat} : xs.toArray[i]? = xs[i]? := List.getElem?_toArray
theorem lPb {α : Type} {l : List α} {a : α} : (a :: l)[0]? = some a := rfl
theorem lPc {α : Type} {l : List α} {a : α} {i : Nat} : (a :: l)[i + 1]? = l[i]? := rfl
theorem nameGoal {G : Prop} (k : ∀ P : Prop, (G → P) → (P → G) → P) : G := k G id id
section
variable {P : Program} {ops : Array Oper} {Q : Exit → Act → World → Prop} {md : Region.Mode} {S : World → Prop}
theorem tkH (i : Nat) {oi : Oper} {v : Value} {fuel : Nat} {listed : Array Bool} {a : Act} {w : World} (hi : ops[i]? = some oi) (hy : ∀ w, S w → (execOp a.eval oi).run P w = .ok (.value v) w) (hS : S w)
  (h : wpAnyH P md ops Q S fuel (listed.setIfInBounds i true) (a.put oi.dst v) w) (hs : Region.noSelect ops = true := by kernel_rfl) (hf : Region.free md ops listed i = true := by kernel_rfl) (hr : (Region.ready md ops listed).contains i = true := by kernel_rfl)
  (hQ : ∀ c a w, Q (.panic c) (a.put oi.dst v) w → Q (.panic c) a w := by exact fun _ _ _ h => h) (hw : Region.wanted oi (yielded ops a.tmps) = true := by rfl) : wpAnyH P md ops Q S (fuel + 1) listed a w :=
 wpAnyH_take hi hs hf hr hQ (.inl ⟨hw, hy⟩) hS h
theorem tkS (i : Nat) {oi : Oper} {fuel : Nat} {listed : Array Bool} {a : Act} {w : World} (hi : ops[i]? = some oi) (hS : S w)
  (h : wpAnyH P md ops Q S fuel (listed.setIfInBounds i true) (a.put oi.dst undef) w) (hs : Region.noSelect ops = true := by kernel_rfl) (hf : Region.free md ops listed i = true := by kernel_rfl) (hr : (Region.ready md ops listed).contains i = true := by kernel_rfl)
  (hQ : ∀ c a w, Q (.panic c) (a.put oi.dst undef) w → Q (.panic c) a w := by exact fun _ _ _ h => h) (hw : Region.wanted oi (yielded ops a.tmps) = false := by rfl) : wpAnyH P md ops Q S (fuel + 1) listed a w :=
 wpAnyH_take hi hs hf hr hQ (.inr ⟨hw, rfl⟩) hS h
end
end Go.Proofs.YthfagcdjbmhhcaaGreat
namespace Go.Proofs.YthfagcdjbmhhcaaGreat
open Go.RowKit
section
variable {P : Program} {ops : Array Oper} {Q : Exit → Act → World → Prop} {md : Region.Mode} {S : World → Prop} {m : Nat}
/-- whatever comes up comes up; S is owed behind all but m -/
def anyL (P : Program) (md : Region.Mode) (ops : Array Oper) (Q : Exit → Act → World → Prop) (S : World → Prop) (m : Nat) : Nat → Array Bool → Act → World → Prop
 | 0, l, a, w => Region.ready md ops l = [] ∧ Q .normal a w
 | n + 1, l, a, w => (Region.ready md ops l = [] → Q .normal a w) ∧
   ∀ j ∈ Region.ready md ops l, wpOp P ops Q j (fun a' w' => (j ≠ m → S w') ∧ anyL P md ops Q S m n (l.setIfInBounds j true) a' w') a w
theorem anyL_any : ∀ (n : Nat) (l : Array Bool) (a : Act) (w : World), anyL P md ops Q S m n l a w → wpAny P md ops Q n l a w
 | 0, _, _, _, h => h
 | n + 1, _, _, _, h => ⟨h.1, fun j hj => wpOp_mono (fun a' w' h' => anyL_any n _ a' w' h'.2) (h.2 j hj)⟩
theorem anyL_begin {id : Nat} {a : Act} {w : World} (m : Nat) (S : World → Prop) (hm : P.follows .mixedOrders = true) (h : anyL P .any ops Q S m ops.size (Array.replicate ops.size false) a w.drew) : (Code.region id ops true).wp P Q a w :=
 wp_region_any hm (anyL_any _ _ _ _ h)
def waits (md : Region.Mode) (ops : Array Oper) (m i : Nat) : Bool := match ops[m]? with | some o => o.after.any fun e => Region.binds md e && e.on == i | none => false
theorem waits_not {l : Array Bool} {i : Nat} (h : waits md ops m i = true) (hi : i ∈ Region.ready md ops l) : m ∉ Region.ready md ops l := by
 intro hm
 obtain ⟨_, om, hom, hall⟩ := mem_ready.1 hm
 unfold waits at h
 rw [hom] at h
 simp only [Array.any_eq_true', Bool.and_eq_true, beq_iff_eq] at h
 obtain ⟨e, he, hb, heq⟩ := h
 have h1 := hall e (by first | exact he | exact Array.mem_def.1 he) hb
 have h0 := (mem_ready.1 hi).1
 rw [heq] at h1
 by_cases h' : i < l.size
 ·simp [h'] at h0 h1; rw [h0] at h1; cases h1
 simp [Array.getElem?_eq_none (Nat.le_of_not_lt h')] at h1
theorem anyL_first {i : Nat} {oi : Oper} {v : Value} (hi : ops[i]? = some oi) (hsel : ∀ (j : Nat) (o : Oper) cs b, ops[j]? = some o → o.op ≠ .select cs b)
  (hQ : ∀ c a w, Q (.panic c) (a.put oi.dst v) w → Q (.panic c) a w) (hw : waits md ops m i = true) :
  ∀ (n : Nat) (l : Array Bool) (a : Act) (w : World),
   (∀ j oj, ops[j]? = some oj → j ≠ i → l.getD j true = false → (∀ e ∈ oj.after, Region.binds md e = true → e.on ≠ i) → oi.apart ops oj = true) →
   i ∈ Region.ready md ops l → YieldsIf P ops S oi v a → S w → anyL P md ops Q S m n (l.setIfInBounds i true) (a.put oi.dst v) w → anyL P md ops Q S m (n + 1) l a w := by
 intro n
 induction n with
 | zero =>
  intro l a w _ hr hy hS H
  refine ⟨fun h => (by rw [h] at hr; cases hr), fun j hj => ?_⟩
  rcases Decidable.em (j = i) with e | e
  ·subst e
   exact hy.wpOp hi hS ⟨fun _ => hS, H⟩
  ·have := ready_mono hj e
   rw [H.1] at this
   cases this
 | succ n ih =>
  intro l a w hfree hr hy hS H
  refine ⟨fun h => (by rw [h] at hr; cases hr), fun j hj => ?_⟩
  rcases Decidable.em (j = i) with e | hji
  ·subst e
   exact hy.wpOp hi hS ⟨fun _ => hS, H⟩
  have hjm : j ≠ m := fun e => waits_not hw hr (e ▸ hj)
  obtain ⟨hjun, oj, hoj, hall⟩ := mem_ready.1 hj
  have hnot : ∀ e ∈ oj.after, Region.binds md e = true → e.on ≠ i := by
   intro e he hb heq
   have h1 := hall e he hb
   have h0 := (mem_ready.1 hr).1
   rw [heq] at h1
   by_cases h' : i < l.size
   ·simp [h'] at h0 h1; rw [h0] at h1; cases h1
   ·simp [Array.getElem?_eq_none (Nat.le_of_not_lt h')] at h1
  have h2 := wpOp_putIf hoj (hfree j oj hoj hji hjun hnot) (fun cs b => hsel i oi cs b hi) (fun cs b => hsel j oj cs b hoj) hQ hy (H.2 j (ready_mono hj hji))
  refine wpOp_mono (fun a' w' h3 => ?_) h2
  have hri : i ∈ Region.ready md ops (l.setIfInBounds j true) := ready_mono hr (Ne.symm hji)
  exact ⟨h3.2.1, ih _ a' w' (fun k ok hk hki hun hno => hfree k ok hk hki (by
     rcases Decidable.em (j = k) with e | e
     ·subst e; exact hjun
     ·rw [getD_set_ne true e] at hun; exact hun) hno) hri h3.1 (h3.2.1 hjm) (by rw [Array.setIfInBounds_comm _ _ hji]; exact h3.2.2)⟩
theorem anyL_take {i : Nat} {oi : Oper} {v : Value} {n : Nat} {l : Array Bool} {a : Act} {w : World} (hi : ops[i]? = some oi) (hs : Region.noSelect ops = true) (hf : Region.free md ops l i = true) (hr : (Region.ready md ops l).contains i = true)
  (hw : waits md ops m i = true) (hQ : ∀ c a w, Q (.panic c) (a.put oi.dst v) w → Q (.panic c) a w) (hy : YieldsIf P ops S oi v a) (hS : S w)
  (h : anyL P md ops Q S m n (l.setIfInBounds i true) (a.put oi.dst v) w) : anyL P md ops Q S m (n + 1) l a w :=
 anyL_first hi (Region.noSelect_spec hs) hQ hw n l a w (Region.free_spec hi hf) (by simpa using hr) hy hS h
/-- one alone may come up -/
theorem anyL_one {i : Nat} {o : Oper} {n : Nat} {l : Array Bool} {a : Act} {w : World} (hr : Region.ready md ops l = [i]) (ho : ops[i]? = some o)
  (h : ∀ K : Act → World → Prop, Shut (∀ a w, (i ≠ m → S w) → anyL P md ops Q S m n (l.setIfInBounds i true) a w → K a w) → if Region.wanted o (yielded ops a.tmps) = true then Oper.wp P o a w K Q else K (a.put o.dst undef) w) :
  anyL P md ops Q S m (n + 1) l a w := by
 refine ⟨fun h0 => (by rw [hr] at h0; cases h0), fun j hj => ?_⟩
 rw [hr, List.mem_singleton] at hj
 subst hj
 exact wpOp_step ho (fun K hK => h K (fun a w h1 h2 => hK a w ⟨h1, h2⟩))
theorem anyL_done {n : Nat} {l : Array Bool} {a : Act} {w : World} (hr : Region.ready md ops l = []) (h : Q .normal a w) : anyL P md ops Q S m n l a w := by
 cases n with
 | zero => exact ⟨hr, h⟩
 | succ n => exact ⟨fun _ => h, by rw [hr]; simp⟩
theorem tkL (i : Nat) {oi : Oper} {v : Value} {n : Nat} {l : Array Bool} {a : Act} {w : World} (hi : ops[i]? = some oi) (hy : ∀ w, S w → (execOp a.eval oi).run P w = .ok (.value v) w) (hS : S w)
  (h : anyL P md ops Q S m n (l.setIfInBounds i true) (a.put oi.dst v) w) (hs : Region.noSelect ops = true := by kernel_rfl) (hf : Region.free md ops l i = true := by kernel_rfl) (hr : (Region.ready md ops l).contains i = true := by kernel_rfl) (hm : waits md ops m i = true := by kernel_rfl)
  (hQ : ∀ c a w, Q (.panic c) (a.put oi.dst v) w → Q (.panic c) a w := by exact fun _ _ _ h => h) (hw : Region.wanted oi (yielded ops a.tmps) = true := by rfl) : anyL P md ops Q S m (n + 1) l a w :=
 anyL_take hi hs hf hr hm hQ (.inl ⟨hw, hy⟩) hS h
end
end Go.Proofs.YthfagcdjbmhhcaaGreat
namespace Go.Proofs.YthfagcdjbmhhcaaGreat
open Go.RowKit Go.Maps Go.ChangeMaps
theorem law3 : Keyed Tryz.prog 3 := int_keyed Tryz.underlying3
theorem zero3 (w : World) : (zeroValue 3).run Tryz.prog w = .ok (.int .i64 0) w := by kernel_rfl
def okI (x : Int) : Prop := -9223372036854775808 ≤ x ∧ x ≤ 9223372036854775807
/-- block M is a map that holds f at whatever key (0 where it has none) -/
def MAt (w : World) (M n : Nat) (f : Int → Int) : Prop :=
 ∃ D : DataW Unit, w.ownsMap Tryz.prog 3 (plainElem Tryz.prog 3) M n D ∧ IsMap D ∧ ∀ x, okI x → D.atKey (.int .i64 x) (.lit (.int .i64 0)) = .lit (.int .i64 (f x))
theorem MAt.lt {w : World} {M n : Nat} {f : Int → Int} (h : MAt w M n f) : M < w.heap.size := by
 obtain ⟨D, h1, _⟩ := h
 exact h1.lt
theorem MAt.kept {w w' : World} {M n : Nat} {f : Int → Int} {F : Nat → Prop} (h : MAt w M n f) (k : Kept F w w') (hF : ¬ F M) : MAt w' M n f := by
 obtain ⟨D, ⟨es, clock, hb, h2, h3, h4⟩, h5⟩ := h
 exact ⟨D, ⟨es, clock, k.blk hb hF, h2, h3, h4⟩, h5⟩
theorem MAt.made (w : World) : MAt (w.alloc (.map #[] 0)) w.heap.size 0 (fun _ => 0) :=
 ⟨.map [], World.ownsMap_made w _ _ _, ⟨[], rfl⟩, fun x _ => rfl⟩
set_option maxRecDepth 100000 in
theorem MAt.look {w : World} {M n : Nat} {f : Int → Int} (h : MAt w M n f) {x : Int} (hx : okI x) : (Instr.lookup 175 (.map (some M)) (.int .i64 x) false).run Tryz.prog w = .ok (.int .i64 (f x)) w := by
 obtain ⟨D, h1, h2, h3⟩ := h
 obtain ⟨c, hrun, hat, _⟩ := h1.lookup_int law3 Tryz.underlying175 Tryz.underlying3 (zero3 _) (keyOf_int_mk Tryz.underlying3 (WalkArith.wf_i64 hx))
 rw [h3 x hx] at hat
 injection hat with hat
 injection hat with _ hat
 rw [hrun, hat]
set_option maxRecDepth 100000 in
theorem MAt.set {w : World} {M n : Nat} {f : Int → Int} (h : MAt w M n f) (hn : n < maxLen) {x v : Int} (hx : okI x) (hv : okI v) :
  ∃ w', (Instr.mapUpdate 175 (.map (some M)) (.int .i64 x) (.int .i64 v)).run Tryz.prog w = .ok () w' ∧ MAt w' M (n + 1) (fun y => if y = x then v else f y) ∧ Kept (· = M) w w' := by
 obtain ⟨D, h1, h2, h3⟩ := h
 have hk := keyOf_int_mk Tryz.underlying3 (WalkArith.wf_i64 hx)
 have hval := plainElem_int (H := Unit) Tryz.underlying3 (WalkArith.wf_i64 hv)
 obtain ⟨w', hrun, hown, hgr⟩ := h1.update law3 Tryz.underlying175 hn hk hval
 obtain ⟨es, clock, hb, F, hs, _⟩ := h1
 obtain ⟨es', clock', hrun2, _⟩ := Maps.fit_store (R' := plainElem (H := Unit) Tryz.prog 3) law3 Tryz.underlying175 hb F (Nat.lt_of_le_of_lt hs hn) (fun _ _ _ _ hz => hz) hk hval
 have hw : w' = setBlock w M (.map es' clock') := by
  rw [hrun] at hrun2
  injection hrun2
 refine ⟨w', hrun, ⟨D.put (.int .i64 x) (.lit (.int .i64 v)), hown, ?_, fun y hy => ?_⟩, ⟨hgr.os, hgr.tape, hgr.output, by rw [hw]; exact Nat.le_refl _, hgr.size, fun k hk hne => hgr.block k hk (fun e => hne (by injection e))⟩⟩
 ·obtain ⟨es, rfl⟩ := h2
  exact ⟨_, rfl⟩
 by_cases hyx : y = x
 ·subst hyx
  simp only [if_true]
  exact atKey_put_same h2 (by constructor) _ _
 simp only [if_neg hyx]
 rw [atKey_put_other (by intro e; injection e with _ e; exact hyx e)]
 exact h3 y hy
end Go.Proofs.YthfagcdjbmhhcaaGreat
namespace Go.Proofs.YthfagcdjbmhhcaaGreat
open Go.RowKit
theorem viewStore_drawn {p : Program} {w : World} {a : Addr} {u : TypeId} {k : Addr} {v : Value} {at_ : Bool} {r : World × List Addr} (h : w.viewStore p a u k v at_ = .ok r) : r.1.drawn = w.drawn := by
  unfold World.viewStore at h
  simp only [Bind.bind, Except.bind, Pure.pure, Except.pure] at h
  repeat' split at h
  all_goals first | (cases h; rfl) | cases h
theorem farStore_drawn {p : Program} {w : World} {a : Addr} {v : Value} {at_ : Bool} {r : World × List Addr} (h : w.farStore p a v at_ = .ok r) : r.1.drawn = w.drawn := by
  unfold World.farStore at h
  split at h
  · split at h
    · rename_i r' hr
      injection h with h
      subst h
      exact viewStore_drawn hr
    cases h
  cases h
theorem ask_drawn {α : Type} : ∀ (k : Ask α) (w : World), w.drawn ≤ (w.ask k).2.drawn
  | .done a, w => Nat.le_refl _
  | .ask what range k, w => by
    unfold World.ask
    simp only
    split
    · exact ask_drawn (k 0) w
    · have := ask_drawn (k ((Question.extern what range).cut (w.tape w.drawn (Question.extern what range)))) { w with drawn := w.drawn + 1 }
      simp only at this
      omega
theorem sys_drawn (w : World) (c : Sys) : w.drawn ≤ (w.sys c).2.drawn := by
  unfold World.sys
  have h := ask_drawn (Kernel.perform c w.os) w
  generalize w.ask (Kernel.perform c w.os) = r at h
  obtain ⟨⟨r1, r2⟩, r3⟩ := r
  cases r1 <;> first | exact h | exact Nat.le_refl _
theorem freeze_drawn (w : World) (a : Addr) (n : Nat) : (w.freeze a n).drawn = w.drawn := by
  unfold World.freeze
  split <;> rfl
theorem run_drawn {α : Type} (P : Program) (s : Sem α) : ∀ (w : World) (v : α) (w' : World), s.run P w = .ok v w' → w.drawn ≤ w'.drawn := by
  induction s with
  | pure a => intro w v w' h; simp only [Sem.run] at h; injection h with _ h; rw [h]; exact Nat.le_refl _
  | load m a k ih =>
    intro w v w' h
    unfold Sem.run at h
    split at h
    · exact ih _ _ _ _ h
    · split at h
      · exact ih _ _ _ _ h
      · cases h
  | store m a x k ih =>
    intro w v w' h
    cases x <;> simp only [Sem.run] at h
    all_goals first
      | cases h
      | (split at h
         · split at h
           · cases h
           · have h3 := ih _ _ _ h
             rw [World.drawn_setCell] at h3
             exact h3
         · split at h
           · rename_i r hr
             have h1 := farStore_drawn hr
             have h2 := ih _ _ _ h
             simp only at h1
             omega
           · cases h)
  | new o k ih =>
    intro w v w' h
    simp only [Sem.run] at h
    have h3 := ih _ _ _ _ h
    exact h3
  | shape r k ih => intro w v w' h; simp only [Sem.run] at h; exact ih _ _ _ _ h
  | freeze a n k ih => intro w v w' h; simp only [Sem.run] at h; have := ih _ _ _ h; rw [freeze_drawn] at this; exact this
  | frozen a k ih => intro w v w' h; simp only [Sem.run] at h; exact ih _ _ _ _ h
  | getObj r k ih =>
    intro w v w' h
    simp only [Sem.run] at h
    split at h
    · cases h
    · exact ih _ _ _ _ h
    · cases h
  | setObj r o k ih =>
    intro w v w' h
    simp only [Sem.run] at h
    split at h
    · cases h
    · have h3 := ih _ _ _ h
      exact h3
    · cases h
  | choose q k ih =>
    intro w v w' h
    simp only [Sem.run] at h
    split at h
    · exact ih _ _ _ _ h
    · exact Nat.le_trans (Nat.le_succ _) (ih _ _ _ _ h)
  | sys c k ih => intro w v w' h; simp only [Sem.run] at h; exact Nat.le_trans (sys_drawn w c) (ih _ _ _ _ h)
  | program k ih => intro w v w' h; simp only [Sem.run] at h; exact ih _ _ _ _ h
  | mark m k ih => intro w v w' h; simp only [Sem.run] at h; exact ih _ _ _ h
  | halt h0 => intro w v w' h; simp only [Sem.run] at h; cases h
end Go.Proofs.YthfagcdjbmhhcaaGreat
/- Plain data of package offer: graphs, books, and what is done to them. -/
namespace Go.Proofs.YthfagcdjbmhhcaaGreat
structure Vtx where
 id : Int
 side : Int
 deriving DecidableEq
structure Edg where
 id : Int
 src : Int
 dst : Int
 dir : Bool
 weight : Int
 cap : Int
 deriving DecidableEq
structure Gr where
 vs : List Vtx
 es : List Edg
 ds : List Int
 deriving DecidableEq
structure Pty where
 id : Int
 budget : Int
 deriving DecidableEq
structure Ofr where
 id : Int
 party : Int
 side : Int
 place : Int
 price : Int
 until_ : Int
 state : Int
 deriving DecidableEq
structure Wsh where
 edge : Int
 src : Int
 dst : Int
 weight : Int
 deriving DecidableEq
structure Bk where
 round : Int
 ps : List Pty
 os : List Ofr
 ws : List Wsh
 deriving DecidableEq
def inB (n lo hi : Int) : Bool := decide (lo ≤ n) && decide (n ≤ hi)
theorem inB_iff {n lo hi : Int} : inB n lo hi = true ↔ lo ≤ n ∧ n ≤ hi := by simp [inB]
def okV (v : Vtx) : Bool := inB v.id 0 23 && inB v.side 0 3
def okE (e : Edg) : Bool := inB e.id 0 39 && inB e.src 0 23 && inB e.dst 0 23 && inB e.weight (-1000) 1000 && inB e.cap 0 1000
def asc (l : List Int) : Bool := decide (l.Pairwise (· < ·))
theorem asc_iff {l : List Int} : asc l = true ↔ l.Pairwise (· < ·) := by simp [asc]
def has (g : Gr) (id : Int) : Bool := g.vs.any fun v => v.id == id
def hasE (g : Gr) (id : Int) : Bool := g.es.any fun e => e.id == id
def validG (g : Gr) : Bool :=
 asc (g.vs.map Vtx.id) && asc (g.es.map Edg.id) && g.vs.all okV && g.es.all (fun e => okE e && has g e.src && has g e.dst) && decide (g.ds.length ≤ 3) && asc g.ds && g.ds.all (has g)
structure VG (g : Gr) : Prop where
 av : (g.vs.map Vtx.id).Pairwise (· < ·)
 ae : (g.es.map Edg.id).Pairwise (· < ·)
 okv : ∀ v ∈ g.vs, okV v = true
 oke : ∀ e ∈ g.es, okE e = true ∧ has g e.src = true ∧ has g e.dst = true
 dl : g.ds.length ≤ 3
 ad : g.ds.Pairwise (· < ·)
 okd : ∀ d ∈ g.ds, has g d = true
theorem validG_iff {g : Gr} : validG g = true ↔ VG g := by
 constructor
 ·intro h
  simp only [validG, Bool.and_eq_true, List.all_eq_true, decide_eq_true_eq, asc_iff] at h
  obtain ⟨⟨⟨⟨⟨⟨h1, h2⟩, h3⟩, h4⟩, h5⟩, h6⟩, h7⟩ := h
  exact ⟨h1, h2, h3, fun e he => ⟨(h4 e he).1.1, (h4 e he).1.2, (h4 e he).2⟩, h5, h6, h7⟩
 intro h
 simp only [validG, Bool.and_eq_true, List.all_eq_true, decide_eq_true_eq, asc_iff]
 exact ⟨⟨⟨⟨⟨⟨h.av, h.ae⟩, h.okv⟩, fun e he => ⟨⟨(h.oke e he).1, (h.oke e he).2.1⟩, (h.oke e he).2.2⟩⟩, h.dl⟩, h.ad⟩, h.okd⟩
def okP (p : Pty) : Bool := inB p.id 0 9 && inB p.budget 0 10000
def hasP (b : Bk) (id : Int) : Bool := b.ps.any fun p => p.id == id
def okO (g : Gr) (b : Bk) (o : Ofr) : Bool :=
 hasP b o.party && inB o.id 0 23 && !has g o.id && has g o.place && inB o.side 1 3 && inB o.price 0 1000 && inB o.until_ 0 30 && inB o.state 1 4 && (o.state != 1 || decide (b.round ≤ o.until_))
def fnd (b : Bk) (id : Int) : Option Ofr := b.os.find? fun o => o.id == id
def joinsO (x y : Ofr) (weight : Int) : Bool :=
 if x.side = 1 ∧ y.side = 2 then decide (y.price ≤ x.price) && weight == x.price - y.price else x.side == 3 && y.side == 3 && inB weight 0 1000
def okW (b : Bk) (w : Wsh) : Bool :=
 match fnd b w.src, fnd b w.dst with
 | some x, some y => x.state == 1 && y.state == 1 && w.src != w.dst && joinsO x y w.weight
 | _, _ => false
def isLoad (p : Int) (o : Ofr) : Bool := o.party == p && o.side == 1 && o.state == 1
def spent (b : Bk) (p : Int) : Int := ((b.os.filter (isLoad p)).map Ofr.price).sum
def newE (g : Gr) (w : Wsh) : Bool := inB w.edge 0 39 && !hasE g w.edge
def validB (g : Gr) (b : Bk) : Bool :=
 validG g && g.vs.all (fun v => v.side == 0) && inB b.round 0 30 && b.ps.all okP && asc (b.ps.map Pty.id) && asc (b.os.map Ofr.id) && b.os.all (okO g b) && b.ps.all (fun p => decide (spent b p.id ≤ p.budget)) &&
  asc (b.ws.map Wsh.edge) && b.ws.all (newE g) && b.ws.all (okW b)
structure VB (g : Gr) (b : Bk) : Prop where
 vg : VG g
 none_ : ∀ v ∈ g.vs, v.side = 0
 rd : inB b.round 0 30 = true
 okp : ∀ p ∈ b.ps, okP p = true
 ap : (b.ps.map Pty.id).Pairwise (· < ·)
 ao : (b.os.map Ofr.id).Pairwise (· < ·)
 oko : ∀ o ∈ b.os, okO g b o = true
 bud : ∀ p ∈ b.ps, spent b p.id ≤ p.budget
 aw : (b.ws.map Wsh.edge).Pairwise (· < ·)
 new : ∀ w ∈ b.ws, newE g w = true
 okw : ∀ w ∈ b.ws, okW b w = true
theorem validB_iff {g : Gr} {b : Bk} : validB g b = true ↔ VB g b := by
 constructor
 ·intro h
  simp only [validB, Bool.and_eq_true, List.all_eq_true, decide_eq_true_eq, asc_iff, validG_iff, beq_iff_eq] at h
  obtain ⟨⟨⟨⟨⟨⟨⟨⟨⟨⟨h1, h2⟩, h3⟩, h4⟩, h5⟩, h6⟩, h7⟩, h8⟩, h9⟩, h10⟩, h11⟩ := h
  exact ⟨h1, h2, h3, h4, h5, h6, h7, h8, h9, h10, h11⟩
 intro h
 simp only [validB, Bool.and_eq_true, List.all_eq_true, decide_eq_true_eq, asc_iff, validG_iff, beq_iff_eq]
 exact ⟨⟨⟨⟨⟨⟨⟨⟨⟨⟨h.vg, h.none_⟩, h.rd⟩, h.okp⟩, h.ap⟩, h.ao⟩, h.oko⟩, h.bud⟩, h.aw⟩, h.new⟩, h.okw⟩
theorem VB.true {g : Gr} {b : Bk} (h : VB g b) : validB g b = true := validB_iff.2 h
/-- insertion ahead of the first that is not less -/
def ins {α : Type} (key : α → Int) (x : α) : List α → List α
 | [] => [x]
 | y :: l => if key y < key x then y :: ins key x l else x :: y :: l
def insAll {α : Type} (key : α → Int) (l : List α) (xs : List α) : List α := xs.foldl (fun l x => ins key x l) l
def isOpen (o : Ofr) : Bool := o.state == 1
def vtxOf (o : Ofr) : Vtx := ⟨o.id, o.side⟩
def dirOf (b : Bk) (w : Wsh) : Bool := match fnd b w.src with | some x => x.side == 3 | none => false
def edgOf (b : Bk) (w : Wsh) : Edg := ⟨w.edge, w.src, w.dst, dirOf b w, w.weight, 0⟩
def build (g : Gr) (b : Bk) : Gr := ⟨insAll Vtx.id g.vs ((b.os.filter isOpen).map vtxOf), insAll Edg.id g.es (b.ws.map (edgOf b)), g.ds⟩
theorem mem_ins {α : Type} {key : α → Int} {x : α} : ∀ {l : List α} {y : α}, y ∈ ins key x l ↔ y = x ∨ y ∈ l
 | [], y => by simp [ins]
 | a :: l, y => by
  unfold ins
  split
  ·simp [mem_ins (l := l)]; constructor <;> (intro h; rcases h with h | h | h <;> simp [h])
  ·simp
theorem mem_insAll {α : Type} {key : α → Int} : ∀ {xs l : List α} {y : α}, y ∈ insAll key l xs ↔ y ∈ xs ∨ y ∈ l
 | [], l, y => by simp [insAll]
 | x :: xs, l, y => by
  have := mem_insAll (key := key) (xs := xs) (l := ins key x l) (y := y)
  simp only [insAll, List.foldl_cons] at this ⊢
  rw [this, mem_ins, List.mem_cons, or_assoc]
  constructor
  ·rintro (h | h | h)
   ·exact .inr (.inl h)
   ·exact .inl h
   ·exact .inr (.inr h)
  ·rintro (h | h | h)
   ·exact .inr (.inl h)
   ·exact .inl h
   ·exact .inr (.inr h)
theorem length_ins {α : Type} {key : α → Int} {x : α} : ∀ {l : List α}, (ins key x l).length = l.length + 1
 | [] => rfl
 | a :: l => by
  unfold ins
  split
  ·simp [length_ins (l := l)]
  ·rfl
theorem length_insAll {α : Type} {key : α → Int} : ∀ {xs l : List α}, (insAll key l xs).length = l.length + xs.length
 | [], l => rfl
 | x :: xs, l => by
  have := length_insAll (key := key) (xs := xs) (l := ins key x l)
  simp only [insAll, List.foldl_cons] at this ⊢
  rw [this, length_ins]; simp; omega
theorem ins_asc {α : Type} {key : α → Int} {x : α} : ∀ {l : List α}, (l.map key).Pairwise (· < ·) → (∀ y ∈ l, key y ≠ key x) → ((ins key x l).map key).Pairwise (· < ·)
 | [], _, _ => by simp [ins]
 | a :: l, h, hn => by
  unfold ins
  simp only [List.map_cons, List.pairwise_cons] at h
  have ha := hn a (by simp)
  split
  ·rename_i hlt
   simp only [List.map_cons, List.pairwise_cons]
   refine ⟨fun k hk => ?_, ins_asc h.2 (fun y hy => hn y (by simp [hy]))⟩
   obtain ⟨y, hy, rfl⟩ := List.mem_map.1 hk
   rcases mem_ins.1 hy with rfl | hy
   ·exact hlt
   ·exact h.1 _ (List.mem_map_of_mem hy)
  ·simp only [List.map_cons, List.pairwise_cons]
   have hxa : key x < key a := by omega
   refine ⟨fun k hk => ?_, h.1, h.2⟩
   rcases List.mem_cons.1 hk with rfl | hk
   ·exact hxa
   ·have := h.1 k hk; omega
theorem insAll_asc {α : Type} {key : α → Int} : ∀ {xs l : List α}, (l.map key).Pairwise (· < ·) → (xs.map key).Pairwise (· < ·) → (∀ x ∈ xs, ∀ y ∈ l, key y ≠ key x) → ((insAll key l xs).map key).Pairwise (· < ·)
 | [], l, h, _, _ => h
 | x :: xs, l, h, hx, hn => by
  have h1 := ins_asc (x := x) h (hn x (by simp))
  simp only [List.map_cons, List.pairwise_cons] at hx
  have := insAll_asc (xs := xs) h1 hx.2 (fun z hz y hy => by
   rcases mem_ins.1 hy with rfl | hy
   ·have := hx.1 (key z) (List.mem_map_of_mem hz); omega
   ·exact hn z (by simp [hz]) y hy)
  simpa only [insAll, List.foldl_cons] using this
theorem has_iff {g : Gr} {id : Int} : has g id = true ↔ ∃ v ∈ g.vs, v.id = id := by simp [has]
theorem has_build {g : Gr} {b : Bk} {id : Int} : has (build g b) id = true ↔ has g id = true ∨ ∃ o ∈ b.os, o.state = 1 ∧ o.id = id := by
 rw [has_iff, has_iff]
 constructor
 ·rintro ⟨v, hv, rfl⟩
  rcases mem_insAll.1 hv with hv | hv
  ·obtain ⟨o, ho, rfl⟩ := List.mem_map.1 hv
   simp [isOpen] at ho
   exact .inr ⟨o, ho.1, ho.2, rfl⟩
  exact .inl ⟨v, hv, rfl⟩
 rintro (⟨v, hv, rfl⟩ | ⟨o, ho, hs, rfl⟩)
 ·exact ⟨v, mem_insAll.2 (.inr hv), rfl⟩
 exact ⟨vtxOf o, mem_insAll.2 (.inl (List.mem_map_of_mem (by simp [isOpen, ho, hs]))), rfl⟩
theorem fnd_some {b : Bk} {id : Int} {x : Ofr} (h : fnd b id = some x) : x ∈ b.os ∧ x.id = id := by
 have h1 := List.mem_of_find?_eq_some h
 have h2 := List.find?_some h
 exact ⟨h1, by simpa using h2⟩
theorem okW_inv {b : Bk} {w : Wsh} (h : okW b w = true) : ∃ x y, fnd b w.src = some x ∧ fnd b w.dst = some y ∧ x.state = 1 ∧ y.state = 1 ∧ w.src ≠ w.dst ∧ joinsO x y w.weight = true := by
 unfold okW at h
 split at h
 ·rename_i x y hx hy
  simp at h
  exact ⟨x, y, hx, hy, h.1.1.1, h.1.1.2, h.1.2, h.2⟩
 cases h
theorem okO_inv {g : Gr} {b : Bk} {o : Ofr} (h : okO g b o = true) : hasP b o.party = true ∧ (0 ≤ o.id ∧ o.id ≤ 23) ∧ has g o.id = false ∧ has g o.place = true ∧ (1 ≤ o.side ∧ o.side ≤ 3) ∧ (0 ≤ o.price ∧ o.price ≤ 1000) ∧ (0 ≤ o.until_ ∧ o.until_ ≤ 30) ∧ (1 ≤ o.state ∧ o.state ≤ 4) ∧ (o.state = 1 → b.round ≤ o.until_) := by
 simp [okO, inB_iff] at h
 obtain ⟨⟨⟨⟨⟨⟨⟨⟨h1, h2⟩, h3⟩, h4⟩, h5⟩, h6⟩, h7⟩, h8⟩, h9⟩ := h
 refine ⟨h1, h2, h3, h4, h5, h6, h7, h8, fun hs => ?_⟩
 rcases h9 with h9 | h9
 ·exact absurd hs h9
 exact h9
theorem valid_build {g : Gr} {b : Bk} (h : VB g b) : VG (build g b) := by
 have hidv : ∀ x ∈ (b.os.filter isOpen).map vtxOf, ∀ y ∈ g.vs, y.id ≠ x.id := by
  intro x hx y hy e
  obtain ⟨o, ho, rfl⟩ := List.mem_map.1 hx
  have ho' := (List.mem_filter.1 ho).1
  have := (okO_inv (h.oko o ho')).2.2.1
  have h2 : has g o.id = true := has_iff.2 ⟨y, hy, e⟩
  rw [this] at h2; cases h2
 have hide : ∀ x ∈ b.ws.map (edgOf b), ∀ y ∈ g.es, y.id ≠ x.id := by
  intro x hx y hy e
  obtain ⟨w, hw, rfl⟩ := List.mem_map.1 hx
  have := h.new w hw
  simp [newE, hasE] at this
  exact this.2 y hy e
 have hend : ∀ w ∈ b.ws, ∀ id, (id = w.src ∨ id = w.dst) → has (build g b) id = true ∧ inB id 0 23 = true := by
  intro w hw id hid
  obtain ⟨x, y, hx, hy, sx, sy, _, _⟩ := okW_inv (h.okw w hw)
  rcases hid with rfl | rfl
  ·obtain ⟨m, e⟩ := fnd_some hx
   exact ⟨has_build.2 (.inr ⟨x, m, sx, e⟩), by rw [← e]; exact inB_iff.2 (okO_inv (h.oko x m)).2.1⟩
  obtain ⟨m, e⟩ := fnd_some hy
  exact ⟨has_build.2 (.inr ⟨y, m, sy, e⟩), by rw [← e]; exact inB_iff.2 (okO_inv (h.oko y m)).2.1⟩
 refine ⟨insAll_asc h.vg.av ?_ hidv, insAll_asc h.vg.ae ?_ hide, ?_, ?_, h.vg.dl, h.vg.ad, ?_⟩
 ·rw [List.map_map]
  have : (Vtx.id ∘ vtxOf) = Ofr.id := rfl
  rw [this]
  exact List.Pairwise.sublist (List.Sublist.map _ List.filter_sublist) h.ao
 ·rw [List.map_map]
  have : (Edg.id ∘ edgOf b) = Wsh.edge := rfl
  rw [this]
  exact h.aw
 ·intro v hv
  rcases mem_insAll.1 hv with hv | hv
  ·obtain ⟨o, ho, rfl⟩ := List.mem_map.1 hv
   have := okO_inv (h.oko o ((List.mem_filter.1 ho).1))
   simp [okV, vtxOf, inB_iff]
   omega
  exact h.vg.okv v hv
 ·intro e he
  rcases mem_insAll.1 he with he | he
  ·obtain ⟨w, hw, rfl⟩ := List.mem_map.1 he
   have h1 := hend w hw w.src (.inl rfl)
   have h2 := hend w hw w.dst (.inr rfl)
   refine ⟨?_, h1.1, h2.1⟩
   obtain ⟨x, y, hx, hy, sx, sy, _, hj⟩ := okW_inv (h.okw w hw)
   have hn := h.new w hw
   simp [newE, inB_iff] at hn
   have ox := okO_inv (h.oko x (fnd_some hx).1)
   have oy := okO_inv (h.oko y (fnd_some hy).1)
   have i1 := inB_iff.1 h1.2
   have i2 := inB_iff.1 h2.2
   have hw1 : -1000 ≤ w.weight ∧ w.weight ≤ 1000 := by
    unfold joinsO at hj
    split at hj
    ·simp at hj; omega
    simp [inB_iff] at hj; omega
   simp [okE, edgOf, inB_iff]
   omega
  obtain ⟨h1, h2, h3⟩ := h.vg.oke e he
  exact ⟨h1, has_build.2 (.inl h2), has_build.2 (.inl h3)⟩
 intro d hd
 exact has_build.2 (.inl (h.vg.okd d hd))
end Go.Proofs.YthfagcdjbmhhcaaGreat
namespace Go.Proofs.YthfagcdjbmhhcaaGreat
open Go.RowKit
/-- how an element lies in memory: its type, its slice's type, and its cells -/
class Rec (α : Type) where
 ty : TypeId
 sty : TypeId
 k : Nat
 cs : α → List Value
 len : ∀ x, (cs x).length = k
 one : ∀ x, ∀ v ∈ cs x, v.oneCell' = true
instance : Rec Int := ⟨3, 33, 1, fun x => [.int .i64 x], fun _ => rfl, fun x v hv => by simp at hv; subst hv; rfl⟩
instance : Rec Vtx := ⟨77, 35, 2, fun x => [.int .i64 x.id, .int .i64 x.side], fun _ => rfl, fun x v hv => by simp at hv; rcases hv with rfl | rfl <;> rfl⟩
instance : Rec Edg := ⟨69, 36, 6, fun x => [.int .i64 x.id, .int .i64 x.src, .int .i64 x.dst, .bool x.dir, .int .i64 x.weight, .int .i64 x.cap], fun _ => rfl, fun x v hv => by simp at hv; rcases hv with rfl | rfl | rfl | rfl | rfl | rfl <;> rfl⟩
instance : Rec Pty := ⟨66, 24, 2, fun x => [.int .i64 x.id, .int .i64 x.budget], fun _ => rfl, fun x v hv => by simp at hv; rcases hv with rfl | rfl <;> rfl⟩
instance : Rec Ofr := ⟨30, 25, 7, fun x => [.int .i64 x.id, .int .i64 x.party, .int .i64 x.side, .int .i64 x.place, .int .i64 x.price, .int .i64 x.until_, .int .i64 x.state], fun _ => rfl, fun x v hv => by simp at hv; rcases hv with rfl | rfl | rfl | rfl | rfl | rfl | rfl <;> rfl⟩
instance : Rec Wsh := ⟨32, 26, 4, fun x => [.int .i64 x.edge, .int .i64 x.src, .int .i64 x.dst, .int .i64 x.weight], fun _ => rfl, fun x v hv => by simp at hv; rcases hv with rfl | rfl | rfl | rfl <;> rfl⟩
def vtxV (x : Vtx) : Value := .agg #[.int .i64 x.id, .int .i64 x.side]
def edgV (x : Edg) : Value := .agg #[.int .i64 x.id, .int .i64 x.src, .int .i64 x.dst, .bool x.dir, .int .i64 x.weight, .int .i64 x.cap]
def ptyV (x : Pty) : Value := .agg #[.int .i64 x.id, .int .i64 x.budget]
def ofrV (x : Ofr) : Value := .agg #[.int .i64 x.id, .int .i64 x.party, .int .i64 x.side, .int .i64 x.place, .int .i64 x.price, .int .i64 x.until_, .int .i64 x.state]
def wshV (x : Wsh) : Value := .agg #[.int .i64 x.edge, .int .i64 x.src, .int .i64 x.dst, .int .i64 x.weight]
/-- the list's cells -/
def flat {α : Type} [Rec α] (l : List α) : List Value := l.flatMap Rec.cs
theorem flat_length {α : Type} [Rec α] : ∀ l : List α, (flat l).length = l.length * Rec.k α
 | [] => by simp [flat]
 | x :: l => by
  have := flat_length l
  simp only [flat] at this
  simp only [flat, List.flatMap_cons, List.length_append, Rec.len, this, List.length_cons, Nat.succ_mul]
  omega
theorem flat_append {α : Type} [Rec α] (l m : List α) : flat (l ++ m) = flat l ++ flat m := by simp [flat]
theorem flat_one {α : Type} [Rec α] (l : List α) : ∀ v ∈ flat l, v.oneCell' = true := by
 intro v hv
 simp only [flat, List.mem_flatMap] at hv
 obtain ⟨x, _, hx⟩ := hv
 exact Rec.one x v hx
theorem flat_get {α : Type} [Rec α] : ∀ (l : List α) (i : Nat) (h : i < l.length) (j : Nat), j < Rec.k α → (flat l)[i * Rec.k α + j]? = (Rec.cs l[i])[j]?
 | x :: l, 0, _, j, hj => by
  simp only [flat, List.flatMap_cons, Nat.zero_mul, Nat.zero_add, List.getElem_cons_zero]
  rw [List.getElem?_append_left (by rw [Rec.len]; exact hj)]
 | x :: l, i + 1, h, j, hj => by
  have := flat_get l i (by simpa using h) j hj
  simp only [flat, List.flatMap_cons, List.getElem_cons_succ] at this ⊢
  rw [List.getElem?_append_right (by rw [Rec.len, Nat.succ_mul]; omega), Rec.len, ← this]
  congr 1
  rw [Nat.succ_mul]; omega
/-- the slice with these parts reads as the list l -/
structure Lst {α : Type} [Rec α] (w : World) (a : Option Addr) (n c : Nat) (l : List α) : Prop where
 len : n = l.length
 cap : n ≤ c
 big : n ≤ 4611686018427387903
 at_ : l = [] ∨ ∃ b off, a = some ⟨b, off, none⟩ ∧ b < w.heap.size ∧ ∀ i v, (flat l)[i]? = some v → w.cell? ⟨b, off + i, none⟩ = some v
theorem Lst.gro {α : Type} [Rec α] {w w' : World} {a : Option Addr} {n c : Nat} {l : List α} (h : Lst w a n c l) (k : Gro w w') : Lst w' a n c l :=
 ⟨h.len, h.cap, h.big, h.at_.imp id fun ⟨b, off, h1, h2, h3⟩ => ⟨b, off, h1, Nat.lt_of_lt_of_le h2 k.size, fun i v hv => k.cell (h3 i v hv)⟩⟩
/-- where there is an element, there is a block -/
theorem Lst.base {α : Type} [Rec α] {w : World} {a : Option Addr} {n c : Nat} {l : List α} (h : Lst w a n c l) {i : Nat} (hi : i < l.length) :
  ∃ b off, a = some ⟨b, off, none⟩ ∧ b < w.heap.size ∧ ∀ i v, (flat l)[i]? = some v → w.cell? ⟨b, off + i, none⟩ = some v := by
 rcases h.at_ with rfl | h
 ·simp at hi
 exact h
theorem Lst.cell {α : Type} [Rec α] {w : World} {b off : Nat} {l : List α} (h : ∀ i v, (flat l)[i]? = some v → w.cell? ⟨b, off + i, none⟩ = some v) {i : Nat} (hi : i < l.length) (j : Nat) (hj : j < Rec.k α) {v : Value} (hv : (Rec.cs l[i])[j]? = some v) :
  w.cell? ⟨b, off + i * Rec.k α + j, none⟩ = some v := by
 rw [Nat.add_assoc]; exact h _ v (by rw [flat_get l i hi j hj]; exact hv)
/-- the same of a value -/
def LV {α : Type} [Rec α] (w : World) (v : Value) (l : List α) : Prop := ∃ a c, v = .slice a l.length c ∧ Lst w a l.length c l
theorem LV.gro {α : Type} [Rec α] {w w' : World} {v : Value} {l : List α} (h : LV w v l) (k : Gro w w') : LV w' v l := by
 obtain ⟨a, c, h1, h2⟩ := h
 exact ⟨a, c, h1, h2.gro k⟩
theorem LV.kept {α : Type} [Rec α] {w w' : World} {F : Nat → Prop} {v : Value} {l : List α} (h : LV w v l) (k : Kept F w w') (hF : ∀ b, v.ownBlock = some b → b < w.heap.size → ¬ F b) : LV w' v l := by
 obtain ⟨a, c, rfl, h2⟩ := h
 refine ⟨a, c, rfl, h2.len, h2.cap, h2.big, h2.at_.imp id fun ⟨b, off, h1, h2, h3⟩ => ⟨b, off, h1, Nat.lt_of_lt_of_le h2 k.size, fun i v hv => k.cell (hF b (by rw [h1]; rfl) h2) (h3 i v hv)⟩⟩
theorem LV.nil {α : Type} [Rec α] (w : World) : LV w (.slice none 0 0) ([] : List α) := ⟨none, 0, rfl, rfl, Nat.le_refl _, Nat.zero_le _, .inl rfl⟩
/-- a row that is owned reads so -/
theorem LV.own {α : Type} [Rec α] {w : World} {base n : Nat} {v : Value} {l : List α} (h : w.ownsRow base (Rec.ty α) (Rec.k α) v n (flat l)) (hn : n = l.length) (hb : n ≤ 4611686018427387903) : LV w v l := by
 subst hn
 rcases h.2 with ⟨rfl, hz⟩ | ⟨g, cap, cur, rfl, hbase, hg, r1, r2, r3, r4⟩
 ·have : l = [] := by cases l with
   | nil => rfl
   | cons => simp at hz
  subst this
  exact LV.nil w
 refine ⟨_, cap, rfl, rfl, r1, hb, .inr ⟨g, 0, rfl, blk_lt hg, fun i v hv => ?_⟩⟩
 have hi : i < (flat l).length := (List.getElem?_eq_some_iff.1 hv).1
 rw [blk_cell hg, Nat.zero_add, ← Array.getElem?_toList, ← hv, ← r4, List.getElem?_take]
 rw [if_pos (by rw [flat_length] at hi; exact hi)]
theorem vcells {w : World} {b off : Nat} {l : List Vtx} (h : ∀ i v, (flat l)[i]? = some v → w.cell? ⟨b, off + i, none⟩ = some v) {i : Nat} (hi : i < l.length) :
  w.cell? ⟨b, off + i * 2, none⟩ = some (.int .i64 l[i].id) ∧ w.cell? ⟨b, off + i * 2 + 1, none⟩ = some (.int .i64 l[i].side) :=
 ⟨Lst.cell h hi 0 (by decide) rfl, Lst.cell h hi 1 (by decide) rfl⟩
theorem pcells {w : World} {b off : Nat} {l : List Pty} (h : ∀ i v, (flat l)[i]? = some v → w.cell? ⟨b, off + i, none⟩ = some v) {i : Nat} (hi : i < l.length) :
  w.cell? ⟨b, off + i * 2, none⟩ = some (.int .i64 l[i].id) ∧ w.cell? ⟨b, off + i * 2 + 1, none⟩ = some (.int .i64 l[i].budget) :=
 ⟨Lst.cell h hi 0 (by decide) rfl, Lst.cell h hi 1 (by decide) rfl⟩
theorem icells {w : World} {b off : Nat} {l : List Int} (h : ∀ i v, (flat l)[i]? = some v → w.cell? ⟨b, off + i, none⟩ = some v) {i : Nat} (hi : i < l.length) :
  w.cell? ⟨b, off + i, none⟩ = some (.int .i64 l[i]) := by
 have := Lst.cell h hi 0 (by decide) rfl
 simpa only [show Rec.k Int = 1 from rfl, Nat.mul_one, Nat.add_zero] using this
theorem wcells {w : World} {b off : Nat} {l : List Wsh} (h : ∀ i v, (flat l)[i]? = some v → w.cell? ⟨b, off + i, none⟩ = some v) {i : Nat} (hi : i < l.length) :
  w.cell? ⟨b, off + i * 4, none⟩ = some (.int .i64 l[i].edge) ∧ w.cell? ⟨b, off + i * 4 + 1, none⟩ = some (.int .i64 l[i].src) ∧ w.cell? ⟨b, off + i * 4 + 2, none⟩ = some (.int .i64 l[i].dst) ∧ w.cell? ⟨b, off + i * 4 + 3, none⟩ = some (.int .i64 l[i].weight) :=
 ⟨Lst.cell h hi 0 (by decide) rfl, Lst.cell h hi 1 (by decide) rfl, Lst.cell h hi 2 (by decide) rfl, Lst.cell h hi 3 (by decide) rfl⟩
theorem ecells {w : World} {b off : Nat} {l : List Edg} (h : ∀ i v, (flat l)[i]? = some v → w.cell? ⟨b, off + i, none⟩ = some v) {i : Nat} (hi : i < l.length) :
  w.cell? ⟨b, off + i * 6, none⟩ = some (.int .i64 l[i].id) ∧ w.cell? ⟨b, off + i * 6 + 1, none⟩ = some (.int .i64 l[i].src) ∧ w.cell? ⟨b, off + i * 6 + 2, none⟩ = some (.int .i64 l[i].dst) ∧
  w.cell? ⟨b, off + i * 6 + 3, none⟩ = some (.bool l[i].dir) ∧ w.cell? ⟨b, off + i * 6 + 4, none⟩ = some (.int .i64 l[i].weight) ∧ w.cell? ⟨b, off + i * 6 + 5, none⟩ = some (.int .i64 l[i].cap) :=
 ⟨Lst.cell h hi 0 (by decide) rfl, Lst.cell h hi 1 (by decide) rfl, Lst.cell h hi 2 (by decide) rfl, Lst.cell h hi 3 (by decide) rfl, Lst.cell h hi 4 (by decide) rfl, Lst.cell h hi 5 (by decide) rfl⟩
theorem ocells {w : World} {b off : Nat} {l : List Ofr} (h : ∀ i v, (flat l)[i]? = some v → w.cell? ⟨b, off + i, none⟩ = some v) {i : Nat} (hi : i < l.length) :
  w.cell? ⟨b, off + i * 7, none⟩ = some (.int .i64 l[i].id) ∧ w.cell? ⟨b, off + i * 7 + 1, none⟩ = some (.int .i64 l[i].party) ∧ w.cell? ⟨b, off + i * 7 + 2, none⟩ = some (.int .i64 l[i].side) ∧
  w.cell? ⟨b, off + i * 7 + 3, none⟩ = some (.int .i64 l[i].place) ∧ w.cell? ⟨b, off + i * 7 + 4, none⟩ = some (.int .i64 l[i].price) ∧ w.cell? ⟨b, off + i * 7 + 5, none⟩ = some (.int .i64 l[i].until_) ∧ w.cell? ⟨b, off + i * 7 + 6, none⟩ = some (.int .i64 l[i].state) :=
 ⟨Lst.cell h hi 0 (by decide) rfl, Lst.cell h hi 1 (by decide) rfl, Lst.cell h hi 2 (by decide) rfl, Lst.cell h hi 3 (by decide) rfl, Lst.cell h hi 4 (by decide) rfl, Lst.cell h hi 5 (by decide) rfl, Lst.cell h hi 6 (by decide) rfl⟩
end Go.Proofs.YthfagcdjbmhhcaaGreat
