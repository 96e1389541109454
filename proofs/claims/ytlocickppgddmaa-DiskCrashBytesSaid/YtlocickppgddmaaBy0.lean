import Derived.Test.YtlocickppgddmaaCutLaw
import Derived.Test.YtlocickppgddmaaOpens
import Derived.Laws.AppendOwnNone
namespace Go.Proofs.Ytlocickppgddmaa
open Go.RowKit
variable {F : Nat → Prop}

/-- the disk, the row of bytes, and the row of the numbers zs -/
structure NAt (F : Nat → Prop) (w : World) (g bb n : Nat) (c : List UInt8) (s : DS) (zs : List Int) (v : Value) (wr : World) : Prop where
  rb : RBAt F w g bb n c s wr
  own : wr.ownsRow w.heap.size 3 1 v zs.length (ints zs)
  out : ∀ k, v.ownBlock = some k → ¬ F k
  nil_ : zs = [] → v = .slice none 0 0
variable {w wr w' w1 : World} {g bb n : Nat} {c c' : List UInt8} {s s' : DS} {zs : List Int} {v v' : Value}
theorem NAt.kept (h : NAt F w g bb n c s zs v wr) (hk : Kept (fun _ => False) wr w') : NAt F w g bb n c s zs v w' :=
  ⟨h.rb.kept hk, own_kept h.own hk (fun _ _ h => h), h.out, h.nil_⟩
theorem NAt.alloc (h : NAt F w g bb n c s zs v wr) (o : Obj) : NAt (fun k => F k ∧ k ≠ wr.heap.size) w g bb n c s zs v (wr.alloc o) :=
  ⟨h.rb.alloc o, h.own.alloc o, fun k hk hf => h.out k hk hf.1, h.nil_⟩
theorem NAt.put (h : NAt F w g bb n c s zs v wr) (hk : Kept (· = bb) wr w') (hb : w'.heap[bb]? = some (.cells (bs c').toArray 5 (0, 0))) (hc : c'.length = n) : NAt F w g bb n c' s zs v w' :=
  ⟨h.rb.put hk hb hc, own_kept h.own hk (fun k hk' e => own_blk_ne h.own h.rb.blk (by decide) (by rw [hk', e])), h.out, h.nil_⟩
theorem NAt.op (h : NAt F w g bb n c s zs v wr) (hd : DK F w' g s') (hk : Kept F wr w') : NAt F w g bb n c s' zs v w' :=
  ⟨h.rb.op hd hk, own_kept h.own hk h.out, h.out, h.nil_⟩
theorem NAt.norm (h : NAt F w g bb n c s zs v wr) : NAt (CF w.heap.size bb v) w g bb n c s zs v wr :=
  ⟨h.rb.mono (fun k hk => ⟨(h.rb.fle k hk).1, (h.rb.fle k hk).2, fun e => h.out k e hk⟩) (fun k hk => ⟨hk.1, hk.2.1⟩), h.own, fun k hk hf => hf.2.2 hk, h.nil_⟩
theorem NAt.cons (h : NAt F w g bb n c s zs v wr) (i : Int) (hown : w1.ownsRow w.heap.size 3 1 v' (1 + zs.length) ([.int .i64 i] ++ ints zs)) (hK : Kept (fun _ => False) wr w1) : NAt (CF w.heap.size bb v') w g bb n c s (i :: zs) v' w1 := by
  have ho : w1.ownsRow w.heap.size 3 1 v' (i :: zs).length (ints (i :: zs)) := by rw [List.length_cons, Nat.add_comm]; simpa [ints] using hown
  have hbb := hK.blk h.rb.blk (fun h => h)
  obtain ⟨bd, bv, pv, hd⟩ := h.rb.dk.ex
  have hd1 := hd.foot.kept hK (fun _ _ e => e)
  refine ⟨⟨⟨⟨bd, bv, pv, hd1.mono fun k hk => ?_⟩, fun k hk => ⟨Nat.le_trans h.rb.bel.size (Nat.le_trans hK.size hk), ?_, fun e => ?_⟩⟩, fun k hk => ⟨hk.1, hk.2.1⟩, h.rb.clen, hbb, h.rb.bel.trans (hK.below h.rb.bel.size (fun _ hk => hk.elim)), h.rb.fresh⟩, ho, fun k hk hf => hf.2.2 hk, fun e => by cases e⟩
  · have hf := hd.foot_F k hk
    exact ⟨(h.rb.fle k hf).1, (h.rb.fle k hf).2, foot_own hd1 ho k hk⟩
  · have := blk_lt hbb; omega
  · have := (ho.lt k e).2; omega
theorem cons_kept {X : Obj} (hg : (wr.alloc X).grownBy w1 (some wr.heap.size)) : Kept (fun _ => False) wr w1 :=
  ((Kept.refl (fun _ => False) wr).alloc X).trans' (Kept.of_grown (F := fun k => k = wr.heap.size) hg (fun k e => .inl (by injection e with e; exact e.symm))) (fun k e => .inr (by omega))

def lastI (kb : List Bool) : Nat → Int
  | 0 => -1
  | k + 1 => if kb.getD k false = true then (k : Int) else lastI kb k
def keepB (kb : List Bool) (i : Nat) : Bool := kb.getD i false
/-- what is put of a survivor: the last one may be torn -/
def tornW (torn last : Int) (i : Nat) (x : ByteArray) : ByteArray := if (i : Int) = last ∧ 0 ≤ torn then cutS x torn else x
def survB (kb : List Bool) (k : Nat) : List Nat := (List.range k).filter (keepB kb)
theorem survB_succ (kb : List Bool) (k : Nat) : survB kb (k + 1) = if keepB kb k = true then survB kb k ++ [k] else survB kb k := by
  unfold survB; rw [List.range_succ, List.filter_append]; by_cases h : keepB kb k = true <;> simp [h]
theorem lastI_lt (kb : List Bool) : ∀ k, lastI kb k < k
  | 0 => by show (-1 : Int) < 0; omega
  | k + 1 => by
    have := lastI_lt kb k
    unfold lastI; split <;> omega
/-- the numbers, as the loop lays them -/
def numsB (kb : List Bool) (k : Nat) : List Int := ((survB kb k).reverse).map Int.ofNat
theorem numsB_succ (kb : List Bool) (k : Nat) : numsB kb (k + 1) = if keepB kb k = true then (k : Int) :: numsB kb k else numsB kb k := by
  unfold numsB; rw [survB_succ]; split <;> simp
theorem survB_lt (kb : List Bool) (k : Nat) : ∀ i ∈ survB kb k, i < k := by
  intro i hi; simp [survB] at hi; exact hi.1
theorem numsB_len (kb : List Bool) (k : Nat) : (numsB kb k).length ≤ k := by
  simp [numsB, survB]; exact Nat.le_trans (List.length_filter_le _ _) (by simp)
theorem surv_nums (kb : List Bool) (k : Nat) : surv (numsB kb k) k = survB kb k := by
  unfold surv
  rw [show survB kb k = (List.range k).filter (keepB kb) from rfl]
  apply List.filter_congr
  intro i hi
  have hi' := List.mem_range.1 hi
  have key : ((i : Int) ∈ numsB kb k) ↔ keepB kb i = true := by
    unfold numsB survB
    rw [List.mem_map]
    constructor
    · rintro ⟨j, hj, e⟩
      rw [List.mem_reverse, List.mem_filter] at hj
      have : j = i := by have : (j : Int) = (i : Int) := e; omega
      rw [← this]; exact hj.2
    · exact fun h => ⟨i, by rw [List.mem_reverse, List.mem_filter]; exact ⟨hi, h⟩, rfl⟩
  by_cases h : keepB kb i = true
  · rw [h]; exact decide_eq_true (key.2 h)
  · rw [Bool.eq_false_iff.2 h]; exact decide_eq_false (fun e => h (key.1 e))

/-- the pending writes of the first k params -/
def pendOf (f : Nat → Nat × ByteArray) (k : Nat) : List (Nat × ByteArray) := (List.range k).map f
theorem pendOf_succ (f : Nat → Nat × ByteArray) (k : Nat) : pendOf f (k + 1) = pendOf f k ++ [f k] := by simp [pendOf, List.range_succ]
theorem pendOf_len (f : Nat → Nat × ByteArray) (k : Nat) : (pendOf f k).length = k := by simp [pendOf]
/-- the content that the law reckons -/
def wantOf (f : Nat → Nat × ByteArray) (kb : List Bool) (torn last : Int) (c0 : List UInt8) (k : Nat) : List UInt8 :=
  laid c0 ((survB kb k).map fun i => ((f i).1, tornW torn last i (f i).2))
theorem wantOf_succ (f : Nat → Nat × ByteArray) (kb : List Bool) (torn last : Int) (c0 : List UInt8) (k : Nat) :
    wantOf f kb torn last c0 (k + 1) = if keepB kb k = true then splice (wantOf f kb torn last c0 k) (f k).1 (tornW torn last k (f k).2).data.toList else wantOf f kb torn last c0 k := by
  unfold wantOf; rw [survB_succ]; split
  · rw [List.map_append, List.map_singleton, laid_snoc]
  · rfl
theorem tornS_cut (x : ByteArray) (torn : Int) (h : 0 ≤ torn) : tornS x torn true = cutS x torn := by
  simp only [tornS, h, cutS, and_self, if_true, Int.min_comm]
theorem torn_all (f : Nat → Nat × ByteArray) (kb : List Bool) (torn : Int) : ∀ k, (survB kb k).map (fun i => ((f i).1, tornW torn (lastI kb k) i (f i).2)) = tornLast torn ((survB kb k).map f)
  | 0 => rfl
  | k + 1 => by
    rw [survB_succ]
    unfold lastI
    by_cases hk : keepB kb k = true
    · have hk' : kb.getD k false = true := hk
      rw [if_pos hk, if_pos hk', List.map_append, List.map_append, List.map_singleton, List.map_singleton, tornLast_snoc]
      congr 1
      · apply List.map_congr_left
        intro i hi
        have := survB_lt kb k i hi
        have hne : ¬ ((i : Int) = (k : Int) ∧ 0 ≤ torn) := fun h => by omega
        simp only [tornW, if_neg hne]
      · by_cases h0 : 0 ≤ torn
        · simp only [tornW, tornS_cut _ _ h0, h0, and_self, if_true]
        · simp [tornW, tornS, h0]
    · have hk' : ¬ kb.getD k false = true := hk
      rw [if_neg hk, if_neg hk']
      exact torn_all f kb torn k
theorem crash_want (f : Nat → Nat × ByteArray) (kb : List Bool) (torn : Int) (c0 : List UInt8) (k : Nat) (s : DS) (hd : s.dur = c0) (hp : s.pend = pendOf f k) :
    s.crash (numsB kb k) torn = { off := false, left := 0, dur := wantOf f kb torn (lastI kb k) c0 k, vis := wantOf f kb torn (lastI kb k) c0 k, pend := [] } := by
  rw [DS.crash_surv, hp, pendOf_len, surv_nums, hd]
  have e : (survB kb k).map (fun i => (pendOf f k).getD i default) = (survB kb k).map f := by
    apply List.map_congr_left
    intro i hi
    have := survB_lt kb k i hi
    simp [pendOf, this]
  rw [e, ← torn_all]
  rfl
theorem cutS_le' (x : ByteArray) (t : Int) : (cutS x t).size ≤ x.size := by unfold cutS; rw [ByteArray.size_extract]; omega
theorem tornW_le (torn last : Int) (i : Nat) (x : ByteArray) : (tornW torn last i x).size ≤ x.size := by
  unfold tornW; split
  · exact cutS_le' _ _
  · exact Nat.le_refl _

theorem bp_at {a : Option Addr} {len cap : Nat} {l : List Bool} (h : BPs w a len cap l) (hB : Below w.heap.size w wr) (k : Nat) (hk : k < l.length) : ∃ b off, a = some ⟨b, off, none⟩ ∧ wr.cell? ⟨b, off + k, none⟩ = some (.bool l[k]) := by
  rcases h.at_ with h0 | ⟨b, off, ha, hb, hc⟩
  · have := h.llen; omega
  · exact ⟨b, off, ha, (hB.cell (p := ⟨b, _, none⟩) hb).trans (hc k hk)⟩
theorem bs_set (l : List UInt8) (i : Nat) (b : UInt8) : (bs l).toArray.setIfInBounds i (.int .u8 (b.toNat : Int)) = (bs (l.set i b)).toArray := by
  simp [bs, List.map_set]
end Go.Proofs.Ytlocickppgddmaa
