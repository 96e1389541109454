import Derived.Test.YtlocickppgddmaaOrd
import Derived.Test.YtlocickppgddmaaOpens
namespace Go.Proofs.Ytlocickppgddmaa
open Go.RowKit

/-- a row of bytes that the call owns -/
def BRow (w : World) (b cap : Nat) (l : List UInt8) : Prop := ∃ cur : Array Value, w.heap[b]? = some (.cells cur 5 (0, 0)) ∧ cur.size = cap ∧ cur.toList.take l.length = bs l ∧ l.length ≤ cap
theorem BRow.kept {F : Nat → Prop} {w w' : World} {b cap : Nat} {l : List UInt8} (h : BRow w b cap l) (hk : Kept F w w') (hf : ¬ F b) : BRow w' b cap l := by
  obtain ⟨cur, h1, h2⟩ := h
  exact ⟨cur, hk.blk h1 hf, h2⟩
theorem BRow.cell {w : World} {b cap : Nat} {l : List UInt8} (h : BRow w b cap l) (i : Nat) (hi : i < l.length) : w.cell? ⟨b, i, none⟩ = some (.int .u8 (l[i].toNat : Int)) := by
  obtain ⟨cur, h1, h2, h3, h4⟩ := h
  rw [blk_cell h1]
  have e : (cur.toList.take l.length)[i]? = (bs l)[i]? := by rw [h3]
  rw [List.getElem?_take, if_pos hi, Array.getElem?_toList] at e
  rw [e]; simp [bs, hi]
theorem BRow.set {w : World} {b cap : Nat} {l : List UInt8} (h : BRow w b cap l) (i : Nat) (hi : i < l.length) (u : UInt8) : BRow (w.setCell ⟨b, i, none⟩ (.int .u8 (u.toNat : Int))) b cap (l.set i u) := by
  obtain ⟨cur, h1, h2, h3, h4⟩ := h
  refine ⟨_, blk_set h1 i _, by simp [h2], ?_, by simpa using h4⟩
  rw [List.length_set, Array.toList_setIfInBounds, List.take_set, h3]
  simp [bs, List.map_set]
def BOntoPost (w : World) (b cap : Nat) (l : List UInt8) (e : Ending) (w' : World) : Prop := e = .returned (.tuple #[]) ∧ BRow w' b cap l ∧ Kept (· = b) w w'

set_option maxHeartbeats 1000000 in
set_option maxRecDepth 100000 in
theorem apply_any (w : World) (b cap off : Nat) (l : List UInt8) (s : ByteArray) (hb : BRow w b cap l) (hlen : l.length ≤ 100000000) (hcap : cap ≤ 9223372036854775807) (ho : off + s.size ≤ l.length) :
    Calls Try.prog 44 #[.slice (some ⟨b, 0, none⟩) l.length cap, .int .i64 off, .string s] w (BOntoPost w b cap (splice l off s.data.toList)) := by
  have HB := Lib.hid hb
  have hll : l.length ≤ cap := hb.choose_spec.2.2.2
  clear hb
  go_enter Try.func44, Try.ntmps44
  go_wp2
  go_loopw [6] (fun t wr => ∃ k : Nat, k ≤ s.size ∧ t = .int .i64 k ∧ Hid (BRow wr b cap (splice l off (s.data.toList.take k))) ∧ Hid (Kept (· = b) w wr)) (fun t _ => s.size - (intOf t).toNat)
  case atStart => exact ⟨0, Nat.zero_le _, rfl, by rw [List.take_zero, splice_nil]; exact HB.out, Kept.refl _ _⟩
  case round =>
    obtain ⟨k, hk, rfl, HBr, HKr⟩ := hrel
    by_cases hlt : k < s.size
    · have hkd : k < s.data.toList.length := by rw [data_length]; exact hlt
      have hlen' : (splice l off (s.data.toList.take k)).length = l.length := length_splice _ _ _ (by simp; omega)
      have hx : off + k < (splice l off (s.data.toList.take k)).length := by omega
      have hc := HBr.out.cell (off + k) hx
      have hf : wr.frozen? ⟨b, off + k, none⟩ = false := by obtain ⟨cur, h1, _⟩ := HBr.out; exact blk_frozen h1 (off + k)
      generalize ((splice l off (s.data.toList.take k))[off + k].toNat : Int) = old at hc
      have hs := Lib.hid (splice_set l s.data.toList off k hkd (by rw [data_length]; exact ho))
      have hcast : ((off : Int) + (k : Int)).toNat = off + k := by omega
      have hge : s[k] = s.data.toList[k] := rfl
      have HS := Lib.hid (HBr.out.set (off + k) hx s.data.toList[k])
      have HG := Lib.hid hge
      clear hlen' hge hx
      go_wp2
      go_roundw
      case rel =>
        refine ⟨k + 1, by omega, by go_num, ?_, HKr.out.setCell (p := ⟨b, off + k, none⟩) (.inl rfl) _⟩
        show BRow _ _ _ _
        rw [← hs.out]
        exact HS.out
      case measure => simp [intOf]; omega
    · have hkl : k = s.size := by omega
      go_wp2
      go_end0
      refine ⟨rfl, ?_, HKr.out⟩
      have := HBr.out
      rwa [List.take_of_length_le (by rw [data_length, hkl]; exact Nat.le_refl _)] at this

/-- the numbers of a list, wherever it lies -/
def KAt (w : World) (a : Option Addr) (l : List Int) : Prop := l.length = 0 ∨ ∃ b off, a = some ⟨b, off, none⟩ ∧ ∀ i (h : i < l.length), w.cell? ⟨b, off + i, none⟩ = some (.int .i64 l[i])

set_option maxHeartbeats 1000000 in
set_option maxRecDepth 100000 in
theorem has_any (w : World) (a : Option Addr) (cap : Nat) (l : List Int) (n : Int) (h : KAt w a l) (hl : l.length ≤ cap) (hc : cap ≤ 9223372036854775807) :
    Calls Try.prog 43 #[.slice a l.length cap, .int .i64 n] w fun e w' => e = .returned (.bool (decide (n ∈ l))) ∧ w = w' := by
  have HK := Lib.hid h
  generalize hB : decide (n ∈ l) = B
  have HBv := Lib.hid hB
  clear h hB
  go_enter Try.func43, Try.ntmps43
  go_wp2
  go_loop [5] (fun t => ∃ k : Nat, k ≤ l.length ∧ t = .int .i64 k ∧ Hid (∀ i (h : i < l.length), i < k → l[i] ≠ n)) (fun t => l.length - (intOf t).toNat)
  case atStart => exact ⟨0, Nat.zero_le _, rfl, fun i h h0 => by omega⟩
  case round =>
    obtain ⟨k, hk, rfl, HNo⟩ := hrel
    by_cases hlt : k < l.length
    · obtain ⟨b, off, rfl, hcs⟩ := HK.out.resolve_left (by omega)
      have hck := hcs k hlt
      clear hcs
      by_cases he : l[k] = n
      · have hd : decide (n ∈ l) = true := decide_eq_true (he ▸ List.getElem_mem hlt)
        have HD := Lib.hid (HBv.out.symm.trans hd)
        rw [he] at hck
        clear hd he
        go_wp2
        go_ret
        exact ⟨by rw [HD.out]; rfl, rfl⟩
      · have HE := Lib.hid he
        generalize hx : l[k] = x at hck he
        have HX := Lib.hid hx
        clear hx
        go_wp2
        go_round
        case rel => exact ⟨k + 1, by omega, by go_num, fun i h hi => by
          rcases Nat.lt_or_ge i k with h1 | h1
          · exact HNo.out i h h1
          · obtain rfl : i = k := by omega
            exact HE.out⟩
        case measure => simp [intOf]; omega
    · have hd : decide (n ∈ l) = false := by
        apply decide_eq_false
        intro hm
        obtain ⟨i, hi, e⟩ := List.mem_iff_getElem.1 hm
        exact HNo.out i hi (by omega) e
      have HD := Lib.hid (HBv.out.symm.trans hd)
      clear hd
      go_wp2
      go_ret
      exact ⟨by rw [HD.out]; rfl, rfl⟩

/-- the reference's disk, of the same plain data -/
structure RAt (w : World) (F : Nat → Prop) (g sb scap : Nat) (lv : Value) (s : DS) : Prop where
  blk : w.heap[g]? = some (.cells #[.slice (some ⟨sb, 0, none⟩) s.dur.length scap, lv, .bool s.off, .int .i64 s.left] 43 (0, 0))
  sure : BRow w sb scap s.dur
  pend : w.ownsRow 0 80 2 lv s.pend.length (pcells s.pend)
  fg : F g
  fs : F sb
  fp : ∀ k, lv.ownBlock = some k → F k
  wf : s.wf
  vis : s.vis = laid s.dur s.pend
  cap_ : scap ≤ 9223372036854775807
  pos : 1 ≤ s.dur.length
end Go.Proofs.Ytlocickppgddmaa
