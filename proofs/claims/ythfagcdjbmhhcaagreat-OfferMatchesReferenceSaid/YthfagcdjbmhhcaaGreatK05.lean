/- slices.Clone. copies of rows of several cells; what slices.Insert leaves. -/
import Derived.Test.YthfagcdjbmhhcaaGreatK04
import Derived.Lib.AppendZerosOnto
set_option linter.unusedVariables false
set_option linter.unusedSimpArgs false
namespace Go.Proofs.YthfagcdjbmhhcaaGreat
open Go.RowKit
attribute [local irreducible] wpQuiet
theorem own_empty {α : Type} [Rec α] (w : World) (B : Nat) (hB : w.heap[B]? = some (.cells #[] (Rec.ty α) (0, 0))) (base : Nat) (hb : base ≤ B) : OwnL w base (.slice (some ⟨B, 0, none⟩) 0 0) ([] : List α) :=
 ⟨by simp [flat], .inr ⟨B, 0, #[], rfl, hb, hB, Nat.le_refl _, Nat.zero_le _, by simp, by simp [flat]⟩⟩
set_option maxHeartbeats 1000000 in
set_option maxRecDepth 100000 in
theorem clone100 {w : World} {v : Value} {l : List Vtx} (h : LV w v l) (hfew : l.length ≤ 1000000) : Calls Tryz.prog 100 #[v] w fun e w' => ∃ v', e = .returned v' ∧ OwnL w' w.heap.size v' l ∧ Gro w w' := by
 obtain ⟨a, c, rfl, hl⟩ := h
 have hq : ∀ (w : World) (a : Option Addr) (n c n' c' : Nat), (binOp .eql 35 (.slice a n c) (.slice none n' c')).run Tryz.prog w = .ok (.bool a.isNone) w := fun w a n c n' c' => Lib.run_eql_slice_nil w _ _ a n c n' c' Tryz.underlying35
 cases a with
 | none =>
  have hn : l = [] := by
   rcases hl.at_ with h | ⟨b, off, h, _⟩
   ·exact h
   cases h
  subst hn
  clear hl
  go_enter Tryz.func100, Tryz.ntmps100
  go_wp2
  go_ret
  exact ⟨_, rfl, OwnL.nil _ _, Gro.refl _⟩
 | some ad =>
 have hnews : ∀ j u, (flat l)[j]? = some u → (w.alloc (.cells #[] 77)).cell? (ad.add j) = some u := by
  intro j u hj
  rcases hl.at_ with rfl | ⟨b, off, h, _, h2⟩
  ·simp [flat] at hj
  injection h with h
  subst h
  have h3 := Gro.cell ((Gro.refl w).alloc (.cells #[] 77)) (h2 j u hj)
  have hadd : (⟨b, off, none⟩ : Addr).add j = ⟨b, off + j, none⟩ := by unfold Addr.add; split <;> simp_all
  rw [hadd]
  exact h3
 have hown : OwnL (w.alloc (.cells #[] 77)) w.heap.size (.slice (some ⟨w.heap.size, 0, none⟩) 0 0) ([] : List Vtx) := own_empty _ _ (blk_new _ _) _ (Nat.le_refl _)
 have HN := yy hnews
 clear hl hnews
 go_enter Tryz.func100, Tryz.ntmps100
 go_wp2_with (at_builtin; refine wpList_app (α := Vtx) rfl _ _ rfl rfl hown ad _ _ l rfl rfl HN.out (by simp; omega) (by simp) ?_; intro v' w' h1 h2 _; have H1 := yy h1; have H2 := yy h2; clear h1 h2)
 go_ret
 refine ⟨_, rfl, H1.out, ?_⟩
 refine Kept.trans' ((Gro.refl w).alloc (.cells #[] 77)) H2.out (fun i hi => .inr ?_)
 have hi' : some w.heap.size = some i := hi
 injection hi' with hi'
 omega
set_option maxHeartbeats 1000000 in
set_option maxRecDepth 100000 in
theorem clone101 {w : World} {v : Value} {l : List Edg} (h : LV w v l) (hfew : l.length ≤ 1000000) : Calls Tryz.prog 101 #[v] w fun e w' => ∃ v', e = .returned v' ∧ OwnL w' w.heap.size v' l ∧ Gro w w' := by
 obtain ⟨a, c, rfl, hl⟩ := h
 have hq : ∀ (w : World) (a : Option Addr) (n c n' c' : Nat), (binOp .eql 36 (.slice a n c) (.slice none n' c')).run Tryz.prog w = .ok (.bool a.isNone) w := fun w a n c n' c' => Lib.run_eql_slice_nil w _ _ a n c n' c' Tryz.underlying36
 cases a with
 | none =>
  have hn : l = [] := by
   rcases hl.at_ with h | ⟨b, off, h, _⟩
   ·exact h
   cases h
  subst hn
  clear hl
  go_enter Tryz.func101, Tryz.ntmps101
  go_wp2
  go_ret
  exact ⟨_, rfl, OwnL.nil _ _, Gro.refl _⟩
 | some ad =>
 have hnews : ∀ j u, (flat l)[j]? = some u → (w.alloc (.cells #[] 69)).cell? (ad.add j) = some u := by
  intro j u hj
  rcases hl.at_ with rfl | ⟨b, off, h, _, h2⟩
  ·simp [flat] at hj
  injection h with h
  subst h
  have h3 := Gro.cell ((Gro.refl w).alloc (.cells #[] 69)) (h2 j u hj)
  have hadd : (⟨b, off, none⟩ : Addr).add j = ⟨b, off + j, none⟩ := by unfold Addr.add; split <;> simp_all
  rw [hadd]
  exact h3
 have hown : OwnL (w.alloc (.cells #[] 69)) w.heap.size (.slice (some ⟨w.heap.size, 0, none⟩) 0 0) ([] : List Edg) := own_empty _ _ (blk_new _ _) _ (Nat.le_refl _)
 have HN := yy hnews
 clear hl hnews
 go_enter Tryz.func101, Tryz.ntmps101
 go_wp2_with (at_builtin; refine wpList_app (α := Edg) rfl _ _ rfl rfl hown ad _ _ l rfl rfl HN.out (by simp; omega) (by simp) ?_; intro v' w' h1 h2 _; have H1 := yy h1; have H2 := yy h2; clear h1 h2)
 go_ret
 refine ⟨_, rfl, H1.out, ?_⟩
 refine Kept.trans' ((Gro.refl w).alloc (.cells #[] 69)) H2.out (fun i hi => .inr ?_)
 have hi' : some w.heap.size = some i := hi
 injection hi' with hi'
 omega
set_option maxHeartbeats 1000000 in
set_option maxRecDepth 100000 in
theorem clone102 {w : World} {v : Value} {l : List Int} (h : LV w v l) (hfew : l.length ≤ 1000000) : Calls Tryz.prog 102 #[v] w fun e w' => ∃ v', e = .returned v' ∧ OwnL w' w.heap.size v' l ∧ Gro w w' := by
 obtain ⟨a, c, rfl, hl⟩ := h
 have hq : ∀ (w : World) (a : Option Addr) (n c n' c' : Nat), (binOp .eql 33 (.slice a n c) (.slice none n' c')).run Tryz.prog w = .ok (.bool a.isNone) w := fun w a n c n' c' => Lib.run_eql_slice_nil w _ _ a n c n' c' Tryz.underlying33
 cases a with
 | none =>
  have hn : l = [] := by
   rcases hl.at_ with h | ⟨b, off, h, _⟩
   ·exact h
   cases h
  subst hn
  clear hl
  go_enter Tryz.func102, Tryz.ntmps102
  go_wp2
  go_ret
  exact ⟨_, rfl, OwnL.nil _ _, Gro.refl _⟩
 | some ad =>
 have hnews : ∀ j u, (flat l)[j]? = some u → (w.alloc (.cells #[] 3)).cell? (ad.add j) = some u := by
  intro j u hj
  rcases hl.at_ with rfl | ⟨b, off, h, _, h2⟩
  ·simp [flat] at hj
  injection h with h
  subst h
  have h3 := Gro.cell ((Gro.refl w).alloc (.cells #[] 3)) (h2 j u hj)
  have hadd : (⟨b, off, none⟩ : Addr).add j = ⟨b, off + j, none⟩ := by unfold Addr.add; split <;> simp_all
  rw [hadd]
  exact h3
 have hown : OwnL (w.alloc (.cells #[] 3)) w.heap.size (.slice (some ⟨w.heap.size, 0, none⟩) 0 0) ([] : List Int) := own_empty _ _ (blk_new _ _) _ (Nat.le_refl _)
 have HN := yy hnews
 clear hl hnews
 go_enter Tryz.func102, Tryz.ntmps102
 go_wp2_with (at_builtin; refine wpList_app (α := Int) rfl _ _ rfl rfl hown ad _ _ l rfl rfl HN.out (by simp; omega) (by simp) ?_; intro v' w' h1 h2 _; have H1 := yy h1; have H2 := yy h2; clear h1 h2)
 go_ret
 refine ⟨_, rfl, H1.out, ?_⟩
 refine Kept.trans' ((Gro.refl w).alloc (.cells #[] 3)) H2.out (fun i hi => .inr ?_)
 have hi' : some w.heap.size = some i := hi
 injection hi' with hi'
 omega
set_option maxHeartbeats 1000000 in
set_option maxRecDepth 100000 in
theorem clone107 {w : World} {v : Value} {l : List Pty} (h : LV w v l) (hfew : l.length ≤ 1000000) : Calls Tryz.prog 107 #[v] w fun e w' => ∃ v', e = .returned v' ∧ OwnL w' w.heap.size v' l ∧ Gro w w' := by
 obtain ⟨a, c, rfl, hl⟩ := h
 have hq : ∀ (w : World) (a : Option Addr) (n c n' c' : Nat), (binOp .eql 24 (.slice a n c) (.slice none n' c')).run Tryz.prog w = .ok (.bool a.isNone) w := fun w a n c n' c' => Lib.run_eql_slice_nil w _ _ a n c n' c' Tryz.underlying24
 cases a with
 | none =>
  have hn : l = [] := by
   rcases hl.at_ with h | ⟨b, off, h, _⟩
   ·exact h
   cases h
  subst hn
  clear hl
  go_enter Tryz.func107, Tryz.ntmps107
  go_wp2
  go_ret
  exact ⟨_, rfl, OwnL.nil _ _, Gro.refl _⟩
 | some ad =>
 have hnews : ∀ j u, (flat l)[j]? = some u → (w.alloc (.cells #[] 66)).cell? (ad.add j) = some u := by
  intro j u hj
  rcases hl.at_ with rfl | ⟨b, off, h, _, h2⟩
  ·simp [flat] at hj
  injection h with h
  subst h
  have h3 := Gro.cell ((Gro.refl w).alloc (.cells #[] 66)) (h2 j u hj)
  have hadd : (⟨b, off, none⟩ : Addr).add j = ⟨b, off + j, none⟩ := by unfold Addr.add; split <;> simp_all
  rw [hadd]
  exact h3
 have hown : OwnL (w.alloc (.cells #[] 66)) w.heap.size (.slice (some ⟨w.heap.size, 0, none⟩) 0 0) ([] : List Pty) := own_empty _ _ (blk_new _ _) _ (Nat.le_refl _)
 have HN := yy hnews
 clear hl hnews
 go_enter Tryz.func107, Tryz.ntmps107
 go_wp2_with (at_builtin; refine wpList_app (α := Pty) rfl _ _ rfl rfl hown ad _ _ l rfl rfl HN.out (by simp; omega) (by simp) ?_; intro v' w' h1 h2 _; have H1 := yy h1; have H2 := yy h2; clear h1 h2)
 go_ret
 refine ⟨_, rfl, H1.out, ?_⟩
 refine Kept.trans' ((Gro.refl w).alloc (.cells #[] 66)) H2.out (fun i hi => .inr ?_)
 have hi' : some w.heap.size = some i := hi
 injection hi' with hi'
 omega
set_option maxHeartbeats 1000000 in
set_option maxRecDepth 100000 in
theorem clone108 {w : World} {v : Value} {l : List Ofr} (h : LV w v l) (hfew : l.length ≤ 1000000) : Calls Tryz.prog 108 #[v] w fun e w' => ∃ v', e = .returned v' ∧ OwnL w' w.heap.size v' l ∧ Gro w w' := by
 obtain ⟨a, c, rfl, hl⟩ := h
 have hq : ∀ (w : World) (a : Option Addr) (n c n' c' : Nat), (binOp .eql 25 (.slice a n c) (.slice none n' c')).run Tryz.prog w = .ok (.bool a.isNone) w := fun w a n c n' c' => Lib.run_eql_slice_nil w _ _ a n c n' c' Tryz.underlying25
 cases a with
 | none =>
  have hn : l = [] := by
   rcases hl.at_ with h | ⟨b, off, h, _⟩
   ·exact h
   cases h
  subst hn
  clear hl
  go_enter Tryz.func108, Tryz.ntmps108
  go_wp2
  go_ret
  exact ⟨_, rfl, OwnL.nil _ _, Gro.refl _⟩
 | some ad =>
 have hnews : ∀ j u, (flat l)[j]? = some u → (w.alloc (.cells #[] 30)).cell? (ad.add j) = some u := by
  intro j u hj
  rcases hl.at_ with rfl | ⟨b, off, h, _, h2⟩
  ·simp [flat] at hj
  injection h with h
  subst h
  have h3 := Gro.cell ((Gro.refl w).alloc (.cells #[] 30)) (h2 j u hj)
  have hadd : (⟨b, off, none⟩ : Addr).add j = ⟨b, off + j, none⟩ := by unfold Addr.add; split <;> simp_all
  rw [hadd]
  exact h3
 have hown : OwnL (w.alloc (.cells #[] 30)) w.heap.size (.slice (some ⟨w.heap.size, 0, none⟩) 0 0) ([] : List Ofr) := own_empty _ _ (blk_new _ _) _ (Nat.le_refl _)
 have HN := yy hnews
 clear hl hnews
 go_enter Tryz.func108, Tryz.ntmps108
 go_wp2_with (at_builtin; refine wpList_app (α := Ofr) rfl _ _ rfl rfl hown ad _ _ l rfl rfl HN.out (by simp; omega) (by simp) ?_; intro v' w' h1 h2 _; have H1 := yy h1; have H2 := yy h2; clear h1 h2)
 go_ret
 refine ⟨_, rfl, H1.out, ?_⟩
 refine Kept.trans' ((Gro.refl w).alloc (.cells #[] 30)) H2.out (fun i hi => .inr ?_)
 have hi' : some w.heap.size = some i := hi
 injection hi' with hi'
 omega
set_option maxHeartbeats 1000000 in
set_option maxRecDepth 100000 in
theorem clone109 {w : World} {v : Value} {l : List Wsh} (h : LV w v l) (hfew : l.length ≤ 1000000) : Calls Tryz.prog 109 #[v] w fun e w' => ∃ v', e = .returned v' ∧ OwnL w' w.heap.size v' l ∧ Gro w w' := by
 obtain ⟨a, c, rfl, hl⟩ := h
 have hq : ∀ (w : World) (a : Option Addr) (n c n' c' : Nat), (binOp .eql 26 (.slice a n c) (.slice none n' c')).run Tryz.prog w = .ok (.bool a.isNone) w := fun w a n c n' c' => Lib.run_eql_slice_nil w _ _ a n c n' c' Tryz.underlying26
 cases a with
 | none =>
  have hn : l = [] := by
   rcases hl.at_ with h | ⟨b, off, h, _⟩
   ·exact h
   cases h
  subst hn
  clear hl
  go_enter Tryz.func109, Tryz.ntmps109
  go_wp2
  go_ret
  exact ⟨_, rfl, OwnL.nil _ _, Gro.refl _⟩
 | some ad =>
 have hnews : ∀ j u, (flat l)[j]? = some u → (w.alloc (.cells #[] 32)).cell? (ad.add j) = some u := by
  intro j u hj
  rcases hl.at_ with rfl | ⟨b, off, h, _, h2⟩
  ·simp [flat] at hj
  injection h with h
  subst h
  have h3 := Gro.cell ((Gro.refl w).alloc (.cells #[] 32)) (h2 j u hj)
  have hadd : (⟨b, off, none⟩ : Addr).add j = ⟨b, off + j, none⟩ := by unfold Addr.add; split <;> simp_all
  rw [hadd]
  exact h3
 have hown : OwnL (w.alloc (.cells #[] 32)) w.heap.size (.slice (some ⟨w.heap.size, 0, none⟩) 0 0) ([] : List Wsh) := own_empty _ _ (blk_new _ _) _ (Nat.le_refl _)
 have HN := yy hnews
 clear hl hnews
 go_enter Tryz.func109, Tryz.ntmps109
 go_wp2_with (at_builtin; refine wpList_app (α := Wsh) rfl _ _ rfl rfl hown ad _ _ l rfl rfl HN.out (by simp; omega) (by simp) ?_; intro v' w' h1 h2 _; have H1 := yy h1; have H2 := yy h2; clear h1 h2)
 go_ret
 refine ⟨_, rfl, H1.out, ?_⟩
 refine Kept.trans' ((Gro.refl w).alloc (.cells #[] 32)) H2.out (fun i hi => .inr ?_)
 have hi' : some w.heap.size = some i := hi
 injection hi' with hi'
 omega
end Go.Proofs.YthfagcdjbmhhcaaGreat
namespace Go.Proofs.YthfagcdjbmhhcaaGreat
open Go.RowKit
theorem splice_in {β : Type} (C D X : List β) (a x : Nat) (hx : X.length = x) (h : a + x ≤ C.length) : splice (splice C (a + x) D) a X = C.take a ++ (X ++ (D ++ C.drop (a + x + D.length))) := by
 subst hx
 have h1 : (splice C (a + X.length) D).take a = C.take a := by
  unfold splice
  rw [List.take_append_of_le_length (by rw [List.length_take]; omega), List.take_take, Nat.min_eq_left (by omega)]
 have h2 : (splice C (a + X.length) D).drop (a + X.length) = D ++ C.drop (a + X.length + D.length) := by
  unfold splice
  rw [List.drop_append_of_le_length (by rw [List.length_take]; omega), List.drop_of_length_le (by rw [List.length_take]; omega), List.nil_append]
 rw [splice, h1, h2]
theorem splice_on {β : Type} (C D X : List β) (a x : Nat) (hx : X.length = x) (h : a + x ≤ C.length) : splice (splice C a X) (a + x) D = C.take a ++ (X ++ (D ++ C.drop (a + x + D.length))) := by
 subst hx
 have hl : (C.take a ++ X).length = a + X.length := by rw [List.length_append, List.length_take]; omega
 have h0 : splice C a X = (C.take a ++ X) ++ C.drop (a + X.length) := by unfold splice; rw [List.append_assoc]
 rw [h0, splice, List.take_append_of_le_length (by omega), List.take_of_length_le (by omega)]
 rw [List.drop_append, List.drop_of_length_le (by omega), List.nil_append, hl, List.drop_drop, List.append_assoc]
 congr 4
 omega
theorem take_of_app {β : Type} (A B : List β) (n : Nat) (h : A.length = n) : (A ++ B).take n = A := by
 subst h; simp
theorem run_copy_k {α : Type} [RecI α] (w : World) (ty : TypeId) (g o dLen dCap : Nat) (ad : Addr) (sLen sCap : Nat) (cur : Array Value) (t : TypeId) (xs : List α) (hg : w.heap[g]? = some (.cells cur t (0, 0)))
  (hn : xs.length = Nat.min sLen dLen) (hsrc : ∀ j v, (flat xs)[j]? = some v → w.cell? (ad.add j) = some v) (hfit : o + xs.length * Rec.k α ≤ cur.size) :
  (Builtin.copy_ #[Rec.sty α, Rec.sty α] ty #[.slice (some ⟨g, o, none⟩) dLen dCap, .slice (some ad) sLen sCap]).run Tryz.prog w = .ok (goInt xs.length) (w.setRow g (splice cur.toList o (flat xs)).toArray) := by
 obtain ⟨i, hi, hz, hs, hb⟩ := info_parts (RecI.info (α := α))
 have hl := run_loadCells_list (P := Tryz.prog) w ad (flat xs) hsrc
 have hst := run_storeCells_at Tryz.prog g o t (flat xs) 0 cur w hg (by rw [flat_length]; simpa using hfit) (flat_one xs)
 rw [flat_length] at hl
 have hu := RecI.hu (α := α)
 simp only [Nat.add_zero] at hst
 simp [Builtin.copy_, run_underlying hu, Builtin.lenOf, Builtin.firstCells, sizeOf, typeInfo, hi, hs, ← hn, hl, hst, splice]
theorem wp_copy_eq {P : Program} {w : World} {o : Oper} {a : Act} {K : Act → World → Prop} {Q : Exit → Act → World → Prop} (d s : Operand) (t t' : TypeId)
  (ho : o.op = .call { callee := .builtin .copy, args := #[d, s], argTypes := #[t, t'] }) (v u : Value) (hd : a.eval d = v) (hs : a.eval s = u) {v' : Value} {w' : World}
  (hr : (Builtin.copy_ #[t, t'] o.type #[v, u]).run P w = .ok v' w') (h : K (a.put o.dst v') w') : o.wp P a w K Q := by
 unfold Oper.wp execOp
 simp only [ho, resolve, invoke, builtin, Sem.run_bind, Sem.run_pure, Result.andThen_ok, List.map_toArray, List.map_cons, List.map_nil, hd, hs, hr]
 exact h
theorem wpList_copy_eq {P : Program} {w : World} {ops : Array Oper} {rest : List Oper} {o : Oper} {a : Act} {Q : Exit → Act → World → Prop} (hgd : o.guard = none) (d s : Operand) (t t' : TypeId)
  (ho : o.op = .call { callee := .builtin .copy, args := #[d, s], argTypes := #[t, t'] }) (v u : Value) (hd : a.eval d = v) (hs : a.eval s = u) {v' : Value} {w' : World}
  (hr : (Builtin.copy_ #[t, t'] o.type #[v, u]).run P w = .ok v' w') (h : wpList P ops Q rest (a.put o.dst v') w') : wpList P ops Q (o :: rest) a w :=
 wpList_plain hgd fun _ hK => wp_copy_eq d s t t' ho v u hd hs hr (hK _ _ h)
def insAt {α : Type} (l : List α) (i : Nat) (x : α) : List α := l.take i ++ x :: l.drop i
theorem insAt_length {α : Type} (l : List α) (i : Nat) (x : α) (hi : i ≤ l.length) : (insAt l i x).length = l.length + 1 := by
 unfold insAt
 rw [List.length_append, List.length_take, List.length_cons, List.length_drop]
 omega
theorem flat_cons {α : Type} [Rec α] (x : α) (l : List α) : flat (x :: l) = Rec.cs x ++ flat l := rfl
theorem flat_insAt {α : Type} [Rec α] (l : List α) (i : Nat) (x : α) : flat (insAt l i x) = flat (l.take i) ++ (Rec.cs x ++ flat (l.drop i)) := by
 unfold insAt; rw [flat_append, flat_cons]
theorem flat_take {α : Type} [Rec α] (l : List α) (i : Nat) (hi : i ≤ l.length) : (flat l).take (i * Rec.k α) = flat (l.take i) := by
 conv => lhs; rw [← List.take_append_drop i l, flat_append]
 exact take_of_app _ _ _ (by rw [flat_length, List.length_take, Nat.min_eq_left hi])
/-- the row behind an insertion, read off its cells -/
theorem row_ins {α : Type} [Rec α] (C : List Value) (l : List α) (i : Nat) (x : α) (hi : i ≤ l.length) (hC : C.take (i * Rec.k α) = flat (l.take i)) (R : List Value) :
  (C.take (i * Rec.k α) ++ (Rec.cs x ++ (flat (l.drop i) ++ R))).take ((l.length + 1) * Rec.k α) = flat (insAt l i x) := by
 rw [hC, flat_insAt, ← List.append_assoc (Rec.cs x), ← List.append_assoc (flat (l.take i))]
 refine take_of_app _ _ _ ?_
 rw [List.length_append, List.length_append, flat_length, flat_length, Rec.len, List.length_take, List.length_drop, Nat.min_eq_left hi, Nat.add_mul, Nat.sub_mul]
 have : i * Rec.k α ≤ l.length * Rec.k α := Nat.mul_le_mul_right _ hi
 omega
end Go.Proofs.YthfagcdjbmhhcaaGreat
