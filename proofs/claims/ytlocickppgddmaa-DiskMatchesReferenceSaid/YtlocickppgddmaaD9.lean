import Derived.Test.YtlocickppgddmaaD8
namespace Go.Proofs.Ytlocickppgddmaa
open Go.RowKit
variable {w : World} {F : Nat → Prop} {g bd bv : Nat} {pv : Value} {s : DS}

def pickI (c n : Int) : Int := (if c < 0 then -(c + 1) else c) % n
theorem pickI_range (c n : Int) (hn : 1 ≤ n) : 0 ≤ pickI c n ∧ pickI c n < n := by
  unfold pickI
  exact ⟨Int.emod_nonneg _ (by omega), Int.emod_lt_of_pos _ (by omega)⟩

set_option maxHeartbeats 400000 in
theorem pick_any (w : World) (c n : Int) (hc1 : -9223372036854775808 ≤ c) (hc2 : c ≤ 9223372036854775807) (hn : 1 ≤ n) (hn2 : n ≤ 9223372036854775807) :
    Calls Try.prog 15 #[.int .i64 c, .int .i64 n] w fun e w' => e = .returned (.int .i64 (pickI c n)) ∧ w = w' := by
  have hr := pickI_range c n hn
  have hn0 : ¬ n = 0 := by omega
  by_cases h : c < 0
  · have e : pickI c n = -((c + 1).tmod n) := by rw [← Int.neg_tmod, Int.tmod_eq_emod_of_nonneg (by omega)]; simp [pickI, h]
    have E := Lib.hid e
    clear e
    go_enter Try.func15, Try.ntmps15
    go_wp2
    go_ret
    exact ⟨by rw [E.out]; rfl, rfl⟩
  · have e : pickI c n = c % n := by simp [pickI, h]
    have E := Lib.hid e
    clear e
    go_enter Try.func15, Try.ntmps15
    go_wp2
    go_ret
    exact ⟨by rw [E.out]; rfl, rfl⟩

def cutS (b : ByteArray) (n : Int) : ByteArray := b.extract 0 (min (b.size : Int) n).toNat
set_option maxHeartbeats 400000 in
theorem cut_str (w : World) (b : ByteArray) (n : Int) (hn : 0 ≤ n) (hb : b.size ≤ 9223372036854775807) : Calls Try.prog 22 #[.string b, .int .i64 n] w fun e w' => e = .returned (.string (cutS b n)) ∧ w = w' := by
  go_enter Try.func22, Try.ntmps22
  go_wp2
  go_ret
  exact ⟨rfl, rfl⟩

theorem cutS_le (b : ByteArray) (n : Int) (hn : 0 ≤ n) : (cutS b n).size ≤ n.toNat := by
  unfold cutS; rw [ByteArray.size_extract]; omega

/-- fits: the offset, and the bytes -/
def fitOff (o size : Int) : Int := pickI o (size + 1)
def fitStr (o size : Int) (b : ByteArray) : ByteArray := cutS b (size - fitOff o size)

def FitPost (w : World) (o : Int) (b : ByteArray) (sy : Bool) (size : Int) (e : Ending) (w' : World) : Prop :=
  e = .returned (.agg #[.int .i64 (fitOff o size), .string (fitStr o size b), .bool sy]) ∧ Kept (fun _ => False) w w'

set_option maxHeartbeats 1000000 in
theorem fits_any (w : World) (o : Int) (b : ByteArray) (sy : Bool) (size : Int) (ho1 : -9223372036854775808 ≤ o) (ho2 : o ≤ 9223372036854775807) (h1 : 1 ≤ size) (h2 : size ≤ 1000000) (hb : b.size ≤ 9223372036854775807) :
    Calls Try.prog 26 #[.agg #[.int .i64 o, .string b, .bool sy], .int .i64 size] w (FitPost w o b sy size) := by
  have hr := pickI_range o (size + 1) (by omega)
  have hpk := Lib.hid (pick_any (c := o) (n := size + 1) (hc1 := ho1) (hc2 := ho2) (hn := by omega) (hn2 := by omega))
  have hct := fun w => cut_str w b (size - pickI o (size + 1)) (by omega) hb
  have HCt := Lib.hid hct
  clear hct
  go_enter Try.func26, Try.ntmps26
  go_wp2_with (first | (go_at_call 15; refine (hpk.out _).mono ?_; rintro e w' ⟨rfl, rfl⟩) | (go_at_call 22; refine (HCt.out _).mono ?_; rintro e w' ⟨rfl, rfl⟩))
  refine bodyPost_ret (v := .agg #[.int .i64 (pickI o (size + 1)), .string (cutS b (size - pickI o (size + 1))), .bool sy]) (by simp [results, Try.results26, go_sem]) rfl ⟨rfl, ?_⟩
  exact ((Kept.refl _ _).alloc _).alloc _

theorem splice_get {α : Type} (l c : List α) (o j : Nat) (h : o + c.length ≤ l.length) : (splice l o c)[j]? = if j < o then l[j]? else if j < o + c.length then c[j - o]? else l[j]? := by
  unfold splice
  by_cases a : j < o
  · rw [if_pos a, List.getElem?_append_left (by simp; omega), List.getElem?_take_of_lt a]
  · rw [if_neg a, List.getElem?_append_right (by simp; omega)]
    have e1 : j - (l.take o).length = j - o := by simp; omega
    rw [e1]
    by_cases b : j < o + c.length
    · rw [if_pos b, List.getElem?_append_left (by omega)]
    · rw [if_neg b, List.getElem?_append_right (by omega), List.getElem?_drop]
      congr 1; omega

theorem splice_set (l x : List UInt8) (off k : Nat) (h : k < x.length) (hf : off + x.length ≤ l.length) : (splice l off (x.take k)).set (off + k) x[k] = splice l off (x.take (k + 1)) := by
  have h2 : (x.take k).length = k := by simp; omega
  have h3 : (x.take (k + 1)).length = k + 1 := by simp; omega
  have hl : (splice l off (x.take k)).length = l.length := length_splice _ _ _ (by omega)
  apply List.ext_getElem?
  intro j
  rw [List.getElem?_set, hl, splice_get _ _ _ _ (by omega), splice_get _ _ _ _ (by omega), h2, h3]
  by_cases a : off + k = j
  · subst a
    rw [if_pos rfl, if_pos (by omega), if_neg (by omega), if_pos (by omega), Nat.add_sub_cancel_left, List.getElem?_take_of_lt (by omega), List.getElem?_eq_getElem h]
  · rw [if_neg a]
    by_cases b : j < off
    · rw [if_pos b, if_pos b]
    · rw [if_neg b, if_neg b]
      by_cases c : j < off + k
      · rw [if_pos c, if_pos (by omega), List.getElem?_take_of_lt (by omega), List.getElem?_take_of_lt (by omega)]
      · rw [if_neg c, if_neg (by omega)]

set_option maxHeartbeats 1000000 in
set_option maxRecDepth 100000 in
theorem put_any (w : World) (b len off : Nat) (l : List UInt8) (s : ByteArray) (hb : w.heap[b]? = some (.cells (bs l).toArray 5 (0, 0))) (hl : l.length = len) (hlen : len ≤ 1000000) (ho : off + s.size ≤ len) :
    Calls Try.prog 27 #[.slice (some ⟨b, 0, none⟩) len len, .int .i64 off, .string s] w (OntoPost w b (bs (splice l off s.data.toList))) := by
  subst hl
  have HB := Lib.hid hb
  clear hb
  go_enter Try.func27, Try.ntmps27
  go_wp2
  go_loopw [6] (fun t wr => ∃ k : Nat, k ≤ s.size ∧ t = .int .i64 k ∧ Hid (wr.heap[b]? = some (.cells (bs (splice l off (s.data.toList.take k))).toArray 5 (0, 0))) ∧ Hid (Kept (· = b) w wr)) (fun t _ => s.size - (intOf t).toNat)
  case atStart => exact ⟨0, Nat.zero_le _, rfl, by rw [List.take_zero, splice_nil]; exact HB.out, Kept.refl _ _⟩
  case round =>
    obtain ⟨k, hk, rfl, HBr, HKr⟩ := hrel
    by_cases hlt : k < s.size
    · have hkd : k < s.data.toList.length := by rw [data_length]; exact hlt
      have hlen' : (splice l off (s.data.toList.take k)).length = l.length := length_splice _ _ _ (by simp; omega)
      obtain ⟨old, hc⟩ : ∃ v, wr.cell? ⟨b, off + k, none⟩ = some (.int .u8 v) := by
        have hx : off + k < (splice l off (s.data.toList.take k)).length := by omega
        exact ⟨((splice l off (s.data.toList.take k))[off + k].toNat : Int), by rw [blk_cell HBr.out]; simp [bs, hx]⟩
      have hf := blk_frozen HBr.out (off + k)
      have hs := Lib.hid (splice_set l s.data.toList off k hkd (by rw [data_length]; exact ho))
      have hcast : ((off : Int) + (k : Int)).toNat = off + k := by omega
      have hge : s[k] = s.data.toList[k] := rfl
      have HG := Lib.hid hge
      clear hlen' hge
      go_wp2
      go_roundw
      case rel =>
        refine ⟨k + 1, by omega, by go_num, ?_, HKr.out.setCell (p := ⟨b, off + k, none⟩) (.inl rfl) _⟩
        show _ = _
        rw [blk_set HBr.out, ← hs.out]
        congr 2
        apply Array.ext'
        simp [bs, List.map_set, HG.out]
      case measure => simp [intOf]; omega
    · have hkl : k = s.size := by omega
      go_wp2
      go_end0
      refine ⟨rfl, ?_, HKr.out⟩
      rw [HBr.out, List.take_of_length_le (by rw [data_length, hkl]; exact Nat.le_refl _)]
end Go.Proofs.Ytlocickppgddmaa
