import Derived.Test.YtlocickppgddmaaD6
namespace Go.Proofs.Ytlocickppgddmaa
open Go.RowKit

/-- what the closure is asked of, in worlds that meet Ok -/
def PredIs (fv : Value) (p : Int → Bool) (Ok : World → Prop) : Prop :=
  ∃ cap, fv = .func (.func 42) #[] cap ∧ ∀ (W : World) (i : Int), Ok W → Calls Try.prog 42 (#[.int .i64 i] ++ cap) W fun e w' => e = .returned (.bool (p i)) ∧ W = w'

def idxOf (p : Int → Bool) (zs : List Int) : Int := match zs.findIdx? p with | none => -1 | some i => (i : Int)

theorem idxOf_hit (p : Int → Bool) (zs : List Int) (k : Nat) (h : k < zs.length) (hp : p zs[k] = true) (hn : ∀ j (h : j < zs.length), j < k → p zs[j] = false) : idxOf p zs = k := by
  have : zs.findIdx? p = some k := by
    rw [List.findIdx?_eq_some_iff_getElem]
    exact ⟨h, hp, fun j hj => by rw [hn j (by omega) hj]; simp⟩
  simp [idxOf, this]
theorem idxOf_none (p : Int → Bool) (zs : List Int) (hn : ∀ j (h : j < zs.length), p zs[j] = false) : idxOf p zs = -1 := by
  have : zs.findIdx? p = none := by
    rw [List.findIdx?_eq_none_iff]
    intro x hx
    obtain ⟨j, hj, rfl⟩ := List.getElem_of_mem hx
    exact hn j hj
  simp [idxOf, this]

def ints (l : List Int) : List Value := l.map (Value.int .i64)
theorem ints_length (l : List Int) : (ints l).length = l.length := by simp [ints]

set_option maxHeartbeats 1000000 in
theorem index_any {w : World} {bx : Value} (p : Int → Bool) (hp : ∀ (i : Int), Calls Try.prog 42 #[.int .i64 i, bx] w fun e w' => e = .returned (.bool (p i)) ∧ w = w')
   (b n c : Nat) (zs : List Int) (hl : zs.length = n) (hn : n ≤ 9223372036854775807) (hc : ∀ k, (h : k < zs.length) → w.cell? ⟨b, k, none⟩ = some (.int .i64 zs[k])) :
   Calls Try.prog 48 #[.slice (some ⟨b, 0, none⟩) n c, .func (.func 42) #[] #[bx]] w fun e w' => e = .returned (.int .i64 (idxOf p zs)) ∧ w = w' := by
  subst hl
  have HP := Lib.hid hp
  have HC := Lib.hid hc
  clear hp hc
  go_enter Try.func48, Try.ntmps48
  go_wp2
  go_loop [8] (fun i => ∃ k : Nat, k ≤ zs.length ∧ i = .int .i64 k ∧ ∀ j (h : j < zs.length), j < k → p zs[j] = false) (fun i => zs.length - (intOf i).toNat)
  case atStart => exact ⟨0, Nat.zero_le _, rfl, fun j _ h => by omega⟩
  case round =>
    obtain ⟨k, hk, rfl, hno⟩ := hrel
    have HN := Lib.hid hno
    clear hno
    by_cases hlt : k < zs.length
    · have hck := HC.out k hlt
      cases hpk : p zs[k] with
      | true =>
        have hi : idxOf p zs = k := idxOf_hit p zs k hlt hpk HN.out
        have HI := Lib.hid hi
        clear hi
        have HPk := Lib.hid hpk
        clear hpk
        go_wp2_with (go_at_call 42; refine (HP.out zs[k]).mono ?_; rintro e w' ⟨rfl, rfl⟩; rw [HPk.out])
        go_ret
        exact ⟨by rw [HI.out]; rfl, rfl⟩
      | false =>
        have HPk := Lib.hid hpk
        clear hpk
        go_wp2_with (go_at_call 42; refine (HP.out zs[k]).mono ?_; rintro e w' ⟨rfl, rfl⟩; rw [HPk.out])
        go_round
        case rel => exact ⟨k + 1, by omega, by go_num, fun j h hj => by
          by_cases e : j = k
          · subst e; exact HPk.out
          · exact HN.out j h (by omega)⟩
        case measure => simp [intOf]; omega
    · have hi : idxOf p zs = -1 := idxOf_none p zs (fun j h => HN.out j h (by omega))
      have HI := Lib.hid hi
      clear hi
      go_wp2
      go_ret
      exact ⟨by rw [HI.out]; rfl, rfl⟩

theorem run_clear_at {P : Program} (w : World) (t e ty : TypeId) (z : Value) (ht : P.underlying t = some (.slice e)) (hv : ∀ w, (zeroValue e).run P w = .ok z w) (h1 : ∀ v ∈ z.cells.toList, v.oneCell' = true)
    (g o n c : Nat) (cur : Array Value) (hg : w.heap[g]? = some (.cells cur e (0, 0))) (hfit : o + n * z.cells.size ≤ cur.size) :
    ∃ cs : Array Value, cs.size = cur.size ∧ cs.toList.take o = cur.toList.take o ∧ (Builtin.clear_ #[t] ty #[.slice (some ⟨g, o, none⟩) n c]).run P w = .ok (.tuple #[]) (w.setRow g cs) := by
  rcases Nat.eq_zero_or_pos n with rfl | hn
  · exact ⟨cur, rfl, rfl, by rw [setRow_self w g cur e (0, 0) hg]; simp [Builtin.clear_, run_underlying ht]⟩
  · have hst := run_storeCells_at P g o e (Builtin.zeroCells z.cells n).toList 0 cur w hg (by simp [zeroCells_size]; exact hfit) (zeroCells_one _ h1 n)
    refine ⟨(cur.toList.take o ++ (Builtin.zeroCells z.cells n).toList ++ cur.toList.drop (o + n * z.cells.size)).toArray, by simp [zeroCells_size]; omega, ?_, ?_⟩
    · rw [List.append_assoc]
      rw [List.take_append_of_le_length (by simp; omega), List.take_take, Nat.min_self]
    · obtain ⟨m, rfl⟩ : ∃ m, n = m + 1 := ⟨n - 1, by omega⟩
      simp only [Nat.add_zero, Array.length_toList, zeroCells_size] at hst
      simp [Builtin.clear_, run_underlying ht, hv, hst]

theorem wpList_clear_at {P : Program} {w : World} {ops : Array Oper} {rest : List Oper} {o : Oper} {a : Act} {Q : Exit → Act → World → Prop} (hgd : o.guard = none) (d : Operand) (t e : TypeId)
    (ho : o.op = .call { callee := .builtin .clear, args := #[d], argTypes := #[t] }) (z : Value) (ht : P.underlying t = some (.slice e)) (hv : ∀ w, (zeroValue e).run P w = .ok z w) (h1 : ∀ v ∈ z.cells.toList, v.oneCell' = true)
    (g k n c : Nat) (hd : a.eval d = .slice (some ⟨g, k, none⟩) n c) (cur : Array Value) (hg : w.heap[g]? = some (.cells cur e (0, 0))) (hfit : k + n * z.cells.size ≤ cur.size) 
    (h : ∀ w' (cs : Array Value), cs.size = cur.size → cs.toList.take k = cur.toList.take k → Hid (w'.heap[g]? = some (.cells cs e (0, 0))) → Kept (· = g) w w' → wpList P ops Q rest (a.put o.dst (.tuple #[])) w') : wpList P ops Q (o :: rest) a w := by
  refine wpList_plain hgd fun K hK => ?_
  obtain ⟨cs, hcs, hct, hrun⟩ := run_clear_at (P := P) w t e o.type z ht hv h1 g k n c cur hg hfit
  unfold Oper.wp
  simp [execOp, ho, resolve, invoke, builtin, hd, hrun, Result.andThen]
  exact hK _ _ (h _ cs hcs hct (setRow_heap w g _ _ _ _ hg) ((Kept.refl (· = g) w).setRow (.inl rfl) _))

theorem zero3 (w : World) : (zeroValue 3).run Try.prog w = .ok (.int .i64 0) w := by kernel_rfl

/-- the row's block: n numbers, and what is spare -/
def rowB (ys : List Int) (sp : List Value) : Array Value := (ints ys ++ sp).toArray

def DelPost (w : World) (b c : Nat) (zs : List Int) (e : Ending) (w' : World) : Prop :=
  e = .returned (.slice (some ⟨b, 0, none⟩) zs.length c) ∧ (∃ cs : Array Value, cs.size = c ∧ cs.toList.take zs.length = ints zs ∧ w'.heap[b]? = some (.cells cs 3 (0, 0))) ∧ Kept (· = b) w w'

/-- the state of the loop in DeleteFunc -/
structure DelAt (w : World) (p : Int → Bool) (b : Nat) (zs : List Int) (sp : List Value) (i j : Nat) (ys : List Int) (wr : World) : Prop where
  ij : i < j
  jn : j ≤ zs.length
  len : ys.length = zs.length
  got : ys.take i = (zs.take j).filter fun x => !p x
  ilen : ((zs.take j).filter fun x => !p x).length = i
  rest : ∀ k (h : k < zs.length) (h' : k < ys.length), j ≤ k → ys[k] = zs[k]
  blk : wr.heap[b]? = some (.cells (rowB ys sp) 3 (0, 0))
  kept : Kept (· = b) w wr

theorem rowB_set (ys : List Int) (sp : List Value) (i : Nat) (x : Int) (h : i < ys.length) : (rowB ys sp).setIfInBounds i (.int .i64 x) = rowB (ys.set i x) sp := by
  apply Array.ext'
  simp only [rowB, ints, Array.toList_setIfInBounds, List.toList_toArray]
  rw [List.set_append_left _ _ (by simpa using h), List.map_set]

theorem take_snoc' {α : Type} (l : List α) (k : Nat) (h : k < l.length) : l.take (k + 1) = l.take k ++ [l[k]] := by
  rw [List.take_succ_eq_append_getElem h]

theorem DelAt.skip {w : World} {p : Int → Bool} {b : Nat} {zs : List Int} {sp : List Value} {i j : Nat} {ys : List Int} {wr : World} (h : DelAt w p b zs sp i j ys wr) (hlt : j < zs.length) (hp : p zs[j] = true) : DelAt w p b zs sp i (j + 1) ys wr := by
  have e : (zs.take (j + 1)).filter (fun x => !p x) = (zs.take j).filter (fun x => !p x) := by
    rw [take_snoc' zs j hlt, List.filter_append]; simp [hp]
  exact ⟨by have := h.ij; omega, by omega, h.len, by rw [e]; exact h.got, by rw [e]; exact h.ilen, fun k hk hk' hjk => h.rest k hk hk' (by omega), h.blk, h.kept⟩
theorem DelAt.keep {w : World} {p : Int → Bool} {b : Nat} {zs : List Int} {sp : List Value} {i j : Nat} {ys : List Int} {wr : World} (h : DelAt w p b zs sp i j ys wr) (hlt : j < zs.length) (hp : p zs[j] = false) :
    DelAt w p b zs sp (i + 1) (j + 1) (ys.set i zs[j]) (wr.setCell ⟨b, i, none⟩ (.int .i64 zs[j])) := by
  have hij := h.ij
  have hl := h.len
  have hiy : i < ys.length := by omega
  have e : (zs.take (j + 1)).filter (fun x => !p x) = (zs.take j).filter (fun x => !p x) ++ [zs[j]] := by
    rw [take_snoc' zs j hlt, List.filter_append]; simp [hp]
  refine ⟨by omega, by omega, by simp; exact hl, ?_, by rw [e]; simp [h.ilen], fun k hk hk' hjk => ?_, ?_, h.kept.setCell (p := ⟨b, i, none⟩) (.inl rfl) _⟩
  · rw [e, ← h.got, take_snoc' _ i (by simpa using hiy)]
    simp [List.take_set_of_le]
  · rw [List.getElem_set_ne (by omega)]; exact h.rest k hk (by omega) (by omega)
  · rw [blk_set h.blk i, rowB_set _ _ _ _ hiy]

set_option maxHeartbeats 2000000 in
set_option maxRecDepth 100000 in
theorem delete_any {w : World} {bx : Value} (p : Int → Bool) (Ok : World → Prop) (b c : Nat) (hok : ∀ W W', Kept (· = b) W W' → Ok W → Ok W') (h0 : Ok w) (hp : ∀ (W : World) (i : Int), Ok W → Calls Try.prog 42 #[.int .i64 i, bx] W fun e w' => e = .returned (.bool (p i)) ∧ W = w')
   (zs : List Int) (sp : List Value) (hb : w.heap[b]? = some (.cells (rowB zs sp) 3 (0, 0))) (hcap : zs.length + sp.length = c) (hn : zs.length ≤ 9223372036854775806) :
   Calls Try.prog 41 #[.slice (some ⟨b, 0, none⟩) zs.length c, .func (.func 42) #[] #[bx]] w (DelPost w b c (zs.filter fun x => !p x)) := by
  have hc : ∀ k, (h : k < zs.length) → w.cell? ⟨b, k, none⟩ = some (.int .i64 zs[k]) := fun k h => by
    rw [blk_cell hb]; simp [rowB, ints, h, List.getElem?_append_left]
  have hidx := index_any p (fun i => hp w i h0) b zs.length c zs rfl (by omega) hc
  have HIX := Lib.hid hidx
  have HB := Lib.hid hb
  clear hidx hc hb
  cases hx : zs.findIdx? p with
  | none =>
    have hall : ∀ x ∈ zs, p x = false := List.findIdx?_eq_none_iff.1 hx
    have hix : idxOf p zs = -1 := by simp [idxOf, hx]
    have HI := Lib.hid hix
    have hf : (zs.filter fun x => !p x) = zs := List.filter_eq_self.2 (fun x hx => by simp [hall x hx])
    have HF := Lib.hid hf
    clear hx hall hix hf
    go_enter Try.func41, Try.ntmps41
    go_wp2_with (go_at_call 48; refine HIX.out.mono ?_; rintro e w' ⟨rfl, rfl⟩; rw [HI.out])
    go_ret
    refine ⟨by rw [HF.out]; rfl, ⟨_, by simp [rowB, ints_length]; exact hcap, ?_, HB.out⟩, Kept.refl _ _⟩
    rw [HF.out]; simp [rowB, ints_length]
  | some i0 =>
    obtain ⟨hi0, hpi, hbef⟩ := List.findIdx?_eq_some_iff_getElem.1 hx
    have hix : idxOf p zs = i0 := by simp [idxOf, hx]
    have HI := Lib.hid hix
    have hst : DelAt w p b zs sp i0 (i0 + 1) zs w := by
      have e1 : (zs.take i0).filter (fun x => !p x) = zs.take i0 := List.filter_eq_self.2 (fun x hx => by
        obtain ⟨j, hj, rfl⟩ := List.getElem_of_mem hx
        have hj' : j < i0 := by simp at hj; omega
        rw [List.getElem_take]
        have := hbef j hj'
        simpa using this)
      have e2 : (zs.take (i0 + 1)).filter (fun x => !p x) = zs.take i0 := by
        rw [take_snoc' zs i0 hi0, List.filter_append, e1]; simp [hpi]
      exact ⟨by omega, by omega, rfl, e2.symm, by rw [e2]; simp; omega, fun _ _ _ _ => rfl, HB.out, Kept.refl _ _⟩
    have HST := Lib.hid hst
    have hneg : ((i0 : Int) == -1) = false := by rw [beq_eq_false_iff_ne]; omega
    clear hx hix hst hpi hbef
    go_enter Try.func41, Try.ntmps41
    go_wp2_with (go_at_call 48; refine HIX.out.mono ?_; rintro e w' ⟨rfl, rfl⟩; rw [HI.out])
    go_loopw [5, 6] (fun iv jv wr => ∃ (i j : Nat) (ys : List Int), iv = .int .i64 i ∧ jv = .int .i64 j ∧ DelAt w p b zs sp i j ys wr) (fun _ jv _ => zs.length - (intOf jv).toNat)
    case atStart => exact ⟨i0, i0 + 1, zs, rfl, by go_num, HST.out⟩
    case round =>
      obtain ⟨i, j, ys, rfl, rfl, hD⟩ := hrel
      have hij := hD.ij
      have hjn := hD.jn
      have HD := Lib.hid hD
      clear hD
      by_cases hlt : j < zs.length
      · have hly : j < ys.length := by rw [HD.out.len]; exact hlt
        have hiy : i < ys.length := by omega
        have hcj : wr.cell? ⟨b, j, none⟩ = some (.int .i64 zs[j]) := by
          rw [blk_cell HD.out.blk]
          simp [rowB, ints, hly, List.getElem?_append_left, HD.out.rest j hlt hly (Nat.le_refl _)]
        have hci : wr.cell? ⟨b, i, none⟩ = some (.int .i64 ys[i]) := by
          rw [blk_cell HD.out.blk]; simp [rowB, ints, hiy, List.getElem?_append_left]
        have hfi := blk_frozen HD.out.blk i
        have hOk := Lib.hid (hok w wr HD.out.kept h0)
        have hPP := Lib.hid (hp wr zs[j] hOk.out)
        cases hpk : p zs[j] with
        | true =>
          have HPk := Lib.hid hpk
          clear hpk
          go_wp2_with (go_at_call 42; refine hPP.out.mono ?_; rintro e w' ⟨rfl, rfl⟩; rw [HPk.out])
          go_roundw
          case rel => exact ⟨i, j + 1, ys, rfl, by go_num, HD.out.skip hlt HPk.out⟩
          case measure => simp [intOf]; omega
        | false =>
          have HPk := Lib.hid hpk
          clear hpk
          have hci' : i < zs.length := by omega
          go_wp2_with (go_at_call 42; refine hPP.out.mono ?_; rintro e w' ⟨rfl, rfl⟩; rw [HPk.out])
          go_roundw
          case rel => exact ⟨i + 1, j + 1, ys.set i zs[j], by go_num, by go_num, HD.out.keep hlt HPk.out⟩
          case measure => simp [intOf]; omega
      · have hjl : j = zs.length := by omega
        have HJ := Lib.hid hjl
        have hiz : i ≤ zs.length := by omega
        have hizc : i ≤ c := by omega
        have hic : ¬ c = i := by omega
        clear hjl
        have hfit : i + (zs.length - i) * 1 ≤ (rowB ys sp).size := by simp [rowB, ints, HD.out.len]; omega
        have HFit := Lib.hid hfit
        clear hfit
        go_wp2_with (refine wpList_clear_at rfl (.tmp 38) 37 3 rfl _ (by kernel_rfl) zero3 (by simp [Value.oneCell', Value.cells]) b i (zs.length - i) (c - i) rfl (rowB ys sp) HD.out.blk (by simpa [Value.cells] using HFit.out) ?_; intro w4 cs hcs hct HP4 hk4; have HCS := Lib.hid hcs; have HCT := Lib.hid hct; clear hcs hct)
        go_ret
        have hz : zs.take j = zs := List.take_of_length_le (by rw [HJ.out]; exact Nat.le_refl _)
        have g1 := HD.out.got
        have g2 := HD.out.ilen
        rw [hz] at g1 g2
        refine ⟨by rw [g2]; rfl, ⟨cs, ?_, ?_, HP4.out⟩, HD.out.kept.trans hk4⟩
        · rw [HCS.out]; simp [rowB, ints, HD.out.len]; exact hcap
        · rw [g2, HCT.out, ← g1]
          simp only [rowB, ints, List.map_take]
          rw [List.take_append_of_le_length (by simp [HD.out.len]; exact hiz)]

theorem index_nil (w : World) (bx : Value) : Calls Try.prog 48 #[.slice none 0 0, .func (.func 42) #[] #[bx]] w fun e w' => e = .returned (.int .i64 (-1)) ∧ w = w' := by
  go_enter Try.func48, Try.ntmps48
  go_wp2
  go_loop [8] (fun i => i = .int .i64 0) (fun i => 0)
  case atStart => rfl
  case round =>
    subst hrel
    go_wp2
    go_ret
    exact ⟨rfl, rfl⟩
theorem delete_nil (w : World) (bx : Value) : Calls Try.prog 41 #[.slice none 0 0, .func (.func 42) #[] #[bx]] w fun e w' => e = .returned (.slice none 0 0) ∧ w = w' := by
  go_enter Try.func41, Try.ntmps41
  go_wp2_with (go_at_call 48; refine (index_nil _ bx).mono ?_; rintro e w' ⟨rfl, rfl⟩)
  go_ret
  exact ⟨rfl, rfl⟩

/-- slices.DeleteFunc on a row that is owned -/
theorem delete_own {w : World} {base n : Nat} {v bx : Value} {zs : List Int} (h : w.ownsRow base 3 1 v n (ints zs)) (hn : n ≤ 4611686018427387904) (p : Int → Bool) (Ok : World → Prop) (hok : ∀ W W', Kept (fun k => v.ownBlock = some k) W W' → Ok W → Ok W') (h0 : Ok w)
    (hp : ∀ (W : World) (i : Int), Ok W → Calls Try.prog 42 #[.int .i64 i, bx] W fun e w' => e = .returned (.bool (p i)) ∧ W = w') :
    Calls Try.prog 41 #[v, .func (.func 42) #[] #[bx]] w fun e w' => ∃ v', e = .returned v' ∧ v'.ownBlock = v.ownBlock ∧ w'.ownsRow base 3 1 v' (zs.filter fun x => !p x).length (ints (zs.filter fun x => !p x)) ∧ Kept (fun k => v.ownBlock = some k) w w' := by
  have hl : zs.length = n := by have := h.1; simp [ints] at this; omega
  subst hl
  rcases h.2 with ⟨rfl, hz⟩ | ⟨g, cap, cur, rfl, hbase, hg, r1, r2, r3, r4⟩
  · have hz : zs = [] := List.eq_nil_of_length_eq_zero hz
    subst hz
    have : Calls Try.prog 41 #[.slice none 0 0, .func (.func 42) #[] #[bx]] w fun e w' => e = .returned (.slice none 0 0) ∧ w = w' := delete_nil w bx
    refine this.mono ?_
    rintro e w' ⟨rfl, rfl⟩
    exact ⟨_, rfl, rfl, World.ownsRow_nil _ _ _ _, Kept.refl _ _⟩
  · have hcur : cur = rowB zs (cur.toList.drop zs.length) := by
      apply Array.ext'
      simp only [rowB, ints]
      rw [show (List.map (Value.int .i64) zs) = cur.toList.take zs.length from by rw [Nat.mul_one] at r4; exact r4.symm, List.take_append_drop]
    have hf : (fun k => k = g) = (fun k => (Value.slice (some ⟨g, 0, none⟩) zs.length cap).ownBlock = some k) := by
      funext k; simp [Value.ownBlock, eq_comm]
    rw [← hf] at hok ⊢
    refine (delete_any p Ok g cap hok h0 hp zs (cur.toList.drop zs.length) (by rw [← hcur]; exact hg) (by simp; omega) (by omega)).mono ?_
    rintro e w' ⟨rfl, ⟨cs, h1, h2, h3⟩, h4⟩
    have hle : (zs.filter fun x => !p x).length ≤ zs.length := List.length_filter_le _ _
    exact ⟨_, rfl, rfl, ⟨by simp [ints], .inr ⟨g, cap, cs, rfl, hbase, h3, by omega, r2, by omega, by rw [Nat.mul_one]; exact h2⟩⟩, h4⟩
end Go.Proofs.Ytlocickppgddmaa
