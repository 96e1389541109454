import Derived.Test.YtlocickppgddmaaD0
namespace Go.Proofs.Ytlocickppgddmaa
open Go.RowKit

theorem zero69 (w : World) : (zeroValue 69).run Try.prog w = .ok (.agg #[.int .i64 0, .string ⟨#[]⟩]) w := by kernel_rfl

theorem zeroCells_size (z : Array Value) (n : Nat) : (Builtin.zeroCells z n).size = n * z.size := by simp [Builtin.zeroCells]
theorem zeroCells_one (z : Array Value) (h : ∀ v ∈ z.toList, v.oneCell' = true) (n : Nat) : ∀ v ∈ (Builtin.zeroCells z n).toList, v.oneCell' = true := by
  intro v hv
  simp [Builtin.zeroCells] at hv
  obtain ⟨i, hi, rfl⟩ := hv
  have hz : 0 < z.size := by
    rcases Nat.eq_zero_or_pos z.size with h0 | h0
    · rw [h0] at hi; omega
    · exact h0
  have hlt := Nat.mod_lt i hz
  rw [getElem!_pos z (i % z.size) hlt]
  exact h _ (by simp)

theorem run_clear_blk {P : Program} (w : World) (t e ty : TypeId) (z : Value) (ht : P.underlying t = some (.slice e)) (hv : ∀ w, (zeroValue e).run P w = .ok z w) (h1 : ∀ v ∈ z.cells.toList, v.oneCell' = true)
    (g n c : Nat) (cur : Array Value) (hg : w.heap[g]? = some (.cells cur e (0, 0))) (hfit : n * z.cells.size ≤ cur.size) :
    ∃ cs : Array Value, cs.size = cur.size ∧ (Builtin.clear_ #[t] ty #[.slice (some ⟨g, 0, none⟩) n c]).run P w = .ok (.tuple #[]) (w.setRow g cs) := by
  rcases Nat.eq_zero_or_pos n with rfl | hn
  · exact ⟨cur, rfl, by rw [setRow_self w g cur e (0, 0) hg]; simp [Builtin.clear_, run_underlying ht]⟩
  · have hst := run_storeCells_at P g 0 e (Builtin.zeroCells z.cells n).toList 0 cur w hg (by simp [zeroCells_size]; exact hfit) (zeroCells_one _ h1 n)
    refine ⟨((Builtin.zeroCells z.cells n).toList ++ cur.toList.drop (n * z.cells.size)).toArray, by simp [zeroCells_size]; omega, ?_⟩
    obtain ⟨m, rfl⟩ : ∃ m, n = m + 1 := ⟨n - 1, by omega⟩
    simp only [Nat.add_zero, Nat.zero_add, List.take_zero, List.nil_append, Array.length_toList, zeroCells_size] at hst
    simp [Builtin.clear_, run_underlying ht, hv, hst]

theorem wpList_clear_blk {P : Program} {w : World} {ops : Array Oper} {rest : List Oper} {o : Oper} {a : Act} {Q : Exit → Act → World → Prop} (hgd : o.guard = none) (d : Operand) (t e : TypeId)
    (ho : o.op = .call { callee := .builtin .clear, args := #[d], argTypes := #[t] }) (z : Value) (ht : P.underlying t = some (.slice e)) (hv : ∀ w, (zeroValue e).run P w = .ok z w) (h1 : ∀ v ∈ z.cells.toList, v.oneCell' = true)
    (g n c : Nat) (hd : a.eval d = .slice (some ⟨g, 0, none⟩) n c) (cur : Array Value) (hg : w.heap[g]? = some (.cells cur e (0, 0))) (hfit : n * z.cells.size ≤ cur.size) 
    (h : ∀ w' (cs : Array Value), cs.size = cur.size → Hid (w'.heap[g]? = some (.cells cs e (0, 0))) → Kept (· = g) w w' → wpList P ops Q rest (a.put o.dst (.tuple #[])) w') : wpList P ops Q (o :: rest) a w := by
  refine wpList_plain hgd fun K hK => ?_
  obtain ⟨cs, hcs, hrun⟩ := run_clear_blk (P := P) w t e o.type z ht hv h1 g n c cur hg hfit
  unfold Oper.wp
  simp [execOp, ho, resolve, invoke, builtin, hd, hrun, Result.andThen]
  exact hK _ _ (h _ cs hcs (setRow_heap w g _ _ _ _ hg) ((Kept.refl (· = g) w).setRow (.inl rfl) _))

theorem wpList_clear_nil {P : Program} {w : World} {ops : Array Oper} {rest : List Oper} {o : Oper} {a : Act} {Q : Exit → Act → World → Prop} (hgd : o.guard = none) (d : Operand) (t e : TypeId)
    (ho : o.op = .call { callee := .builtin .clear, args := #[d], argTypes := #[t] }) (ht : P.underlying t = some (.slice e)) (n c : Nat) (hd : a.eval d = .slice none n c)
    (h : wpList P ops Q rest (a.put o.dst (.tuple #[])) w) : wpList P ops Q (o :: rest) a w := by
  refine wpList_plain hgd fun K hK => ?_
  have hrun : (Builtin.clear_ #[t] o.type #[.slice none n c]).run P w = .ok (.tuple #[]) w := by simp [Builtin.clear_, run_underlying ht]
  unfold Oper.wp
  simp [execOp, ho, resolve, invoke, builtin, hd, hrun, Result.andThen]
  exact hK _ _ h

theorem wpList_copy_full {P : Program} {w : World} {ops : Array Oper} {rest : List Oper} {o : Oper} {a : Act} {Q : Exit → Act → World → Prop} (hgd : o.guard = none) (d s : Operand) (dT sT : TypeId)
    (ho : o.op = .call { callee := .builtin .copy, args := #[d, s], argTypes := #[dT, sT] }) (elem : TypeId) (hu : P.underlying dT = some (.slice elem)) (hsz : (P.info? elem).map (·.size) = some 1)
    (g h n c c' : Nat) (hd : a.eval d = .slice (some ⟨g, 0, none⟩) n c) (hs : a.eval s = .slice (some ⟨h, 0, none⟩) n c')
    (src dst : List Value) (t t' : TypeId) (hg : w.heap[g]? = some (.cells dst.toArray t (0, 0))) (hh : w.heap[h]? = some (.cells src.toArray t' (0, 0))) (hn : src.length = n) (hm : dst.length = n) (h1 : ∀ v ∈ src, v.oneCell' = true)
    (k : ∀ w', Hid (w'.heap[g]? = some (.cells src.toArray t (0, 0))) → Kept (· = g) w w' → wpList P ops Q rest (a.put o.dst (goInt n)) w') : wpList P ops Q (o :: rest) a w := by
  refine wpList_copy_own hgd d s dT sT ho elem hu hsz g 0 n c ⟨h, 0, none⟩ n c' hd hs dst.toArray t hg src (by rw [hn]; exact (Nat.min_self n).symm) (fun j v hj => ?_) (by simp; omega) h1 ?_
  · have ha : (⟨h, 0, none⟩ : Addr).add j = ⟨h, j, none⟩ := by unfold Addr.add; split <;> simp_all
    rw [ha, blk_cell hh]; simpa using hj
  · have e : (dst.toArray.toList.take 0 ++ (src ++ dst.toArray.toList.drop (0 + src.length))).toArray = src.toArray := by simp; omega
    rw [e, hn]; exact k _ (setRow_heap w g _ _ _ _ hg) ((Kept.refl (· = g) w).setRow (.inl rfl) _)

/-- settle, nothing pending -/
def SettlePost (w : World) (g bt : Nat) (pv : Value) (src : List Value) (F : Nat → Prop) (e : Ending) (w' : World) : Prop :=
  e = .returned (.tuple #[]) ∧ w'.heap[bt]? = some (.cells src.toArray 5 (0, 0)) ∧ (∃ pv', w'.ownsRow 0 69 2 pv' 0 [] ∧ pv'.ownBlock = pv.ownBlock ∧ 
    ∀ cs, w.heap[g]? = some (.cells cs 65 (0, 0)) → w'.heap[g]? = some (.cells (cs.setIfInBounds 4 pv') 65 (0, 0))) ∧ Kept F w w'

set_option maxHeartbeats 400000 in
set_option maxRecDepth 100000 in
theorem settle_any (w : World) (F : Nat → Prop) (g bf bt n m : Nat) (pv : Value) (a0 a1 a2 a3 : Value) (xs : List Value) (src dst : List Value) (hb : w.heap[g]? = some (.cells #[a0, a1, a2, a3, pv] 65 (0, 0)))
    (hf : w.heap[bf]? = some (.cells src.toArray 5 (0, 0))) (ht : w.heap[bt]? = some (.cells dst.toArray 5 (0, 0))) (hs : src.length = n) (hd : dst.length = n) (h1 : ∀ v ∈ src, v.oneCell' = true)
    (hp : w.ownsRow 0 69 2 pv m xs) (Fg : F g) (Ft : F bt) (Fp : ∀ k, pv.ownBlock = some k → F k) :
    Calls Try.prog 37 #[.pointer (some ⟨g, 0, none⟩), .slice (some ⟨bf, 0, none⟩) n n, .slice (some ⟨bt, 0, none⟩) n n] w (SettlePost w g bt pv src F) := by
  have hsp : splice dst 0 src = src := by simp [splice]; omega
  have HS := Lib.hid hs
  have HD := Lib.hid hd
  clear hs hd
  obtain ⟨hxl, hp⟩ := hp
  have hlg := blk_lt hb
  have hlt := blk_lt ht
  have hne := blk_ne hb ht (by decide)
  rcases hp with ⟨rfl, rfl⟩ | ⟨gp, cap, cur, rfl, _, hgp, hm, hcm, hcur, _⟩
  · have HB := Lib.hid hb
    have HF := Lib.hid hf
    have HT := Lib.hid ht
    clear hf ht hb hxl
    go_enter Try.func37, Try.ntmps37
    go_wp2_with (first | (refine wpList_copy_full rfl (.tmp 6) (.tmp 7) 40 40 rfl 5 (by kernel_rfl) (by kernel_rfl) bt bf n n n rfl rfl src dst 5 5 HT.out HF.out HS.out HD.out h1 ?_; intro w3 HT3 hk3; have hb3 := hk3.blk HB.out hne; have hc3 := blk_cell hb3; have hf3 := blk_frozen hb3; have HB3 := Lib.hid hb3; clear hb3) | (refine wpList_clear_nil rfl (.tmp 12) 63 69 rfl (by kernel_rfl) 0 0 rfl ?_))
    go_end0
    have hK := (hk3.mono (G := F) (fun i hi => by subst hi; exact .inl Ft)).setCell (p := ⟨g, 4, none⟩) (.inl Fg) (.slice none 0 0)
    refine ⟨rfl, blk_far HT3.out (by simpa using Ne.symm hne) _, ⟨_, World.ownsRow_nil _ _ _ _, rfl, fun cs hcs => ?_⟩, hK⟩
    rw [HB.out] at hcs
    injection hcs with hcs; injection hcs with hcs; subst hcs
    exact blk_set HB3.out 4 _
  · have hnp : gp ≠ g := blk_ne hgp hb (by decide)
    have hnt : gp ≠ bt := blk_ne hgp ht (by decide)
    have Fpp : F gp := Fp _ rfl
    have hsz : m * 2 ≤ cur.size := by omega
    have HB := Lib.hid hb
    have HF := Lib.hid hf
    have HT := Lib.hid ht
    have HP := Lib.hid hgp
    have HC := Lib.hid hcur
    have h00 : 0 ≤ cap := Nat.zero_le _
    clear hf ht hb hxl hgp hcur Fp
    go_enter Try.func37, Try.ntmps37
    go_wp2_with (first | (refine wpList_copy_full rfl (.tmp 6) (.tmp 7) 40 40 rfl 5 (by kernel_rfl) (by kernel_rfl) bt bf n n n rfl rfl src dst 5 5 HT.out HF.out HS.out HD.out h1 ?_; intro w3 HT3 hk3; have hb3 := hk3.blk HB.out hne; have hc3 := blk_cell hb3; have hf3 := blk_frozen hb3; have HB3 := Lib.hid hb3; clear hb3; have HP3 := Lib.hid (hk3.blk HP.out hnt)) | (refine wpList_clear_blk rfl (.tmp 12) 63 69 rfl _ (by kernel_rfl) zero69 (by simp [Value.oneCell', Value.cells]) gp m cap rfl cur HP3.out (by simp [Value.cells]; exact hsz) ?_; intro w4 cs hcs HP4 hk4; have hb4 := hk4.blk HB3.out (Ne.symm hnp); have hc4 := blk_cell hb4; have hf4 := blk_frozen hb4; have HB4 := Lib.hid hb4; clear hb4 hc3 hf3; have HCS := Lib.hid hcs; clear hcs))
    go_end0
    have hK := (((hk3.mono (G := F) (fun i hi => by subst hi; exact .inl Ft)).trans' hk4 (fun i hi => by subst hi; exact .inl Fpp)).setCell (p := ⟨g, 4, none⟩) (.inl Fg) (.slice (some ⟨gp, 0, none⟩) 0 cap))
    refine ⟨rfl, blk_far (hk4.blk HT3.out (Ne.symm hnt)) (by simpa using Ne.symm hne) _, ⟨.slice (some ⟨gp, 0, none⟩) 0 cap, ⟨by simp, .inr ⟨gp, cap, cs, rfl, Nat.zero_le _, blk_far HP4.out (by simpa using hnp) _, Nat.zero_le _, hcm, by rw [HCS.out, HC.out], by simp⟩⟩, rfl, fun cs' hcs => ?_⟩, hK⟩
    rw [HB.out] at hcs
    injection hcs with hcs; injection hcs with hcs; subst hcs
    exact blk_set HB4.out 4 _
end Go.Proofs.Ytlocickppgddmaa
