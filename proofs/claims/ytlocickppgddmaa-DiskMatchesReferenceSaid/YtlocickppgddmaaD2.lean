import Derived.Test.YtlocickppgddmaaD1
namespace Go.Proofs.Ytlocickppgddmaa
open Go.RowKit

theorem run_conv_sub {P : Program} {w : World} {src dst e : TypeId} (hs : P.underlying src = some (.slice e)) (he : P.underlying e = some (.int .u8)) (hd : P.underlying dst = some .string)
    {b : Nat} {l : List UInt8} {t : TypeId} {fr : Nat × Nat} (hb : w.heap[b]? = some (.cells (bs l).toArray t fr)) (o m c : Nat) (h : o + m ≤ l.length) :
    (convert src dst (.slice (some ⟨b, o, none⟩) m c)).run P w = .ok (.string ⟨((l.drop o).take m).toArray⟩) w := by
  have hl : ((l.drop o).take m).length = m := by simp; omega
  have := run_convert_bytes_back (P := P) w src dst e ⟨b, o, none⟩ c ((l.drop o).take m) hs he hd (fun j hj => by
    have ha : (⟨b, o, none⟩ : Addr).add j = ⟨b, o + j, none⟩ := by unfold Addr.add; split <;> simp_all
    rw [ha, blk_cell hb]
    rw [hl] at hj
    have h1 : o + j < l.length := by omega
    simp [bs, h1])
  rwa [hl] at this

theorem wpList_conv_sub {P : Program} {w : World} {ops : Array Oper} {rest : List Oper} {o : Oper} {a : Act} {Q : Exit → Act → World → Prop} (hgd : o.guard = none) (x : Operand) (src dst e : TypeId)
    (ho : o.op = .convert src dst x) (hs : P.underlying src = some (.slice e)) (he : P.underlying e = some (.int .u8)) (hd : P.underlying dst = some .string)
    (b : Nat) (l : List UInt8) (t : TypeId) (fr : Nat × Nat) (hb : w.heap[b]? = some (.cells (bs l).toArray t fr)) (k m c : Nat) (hx : a.eval x = .slice (some ⟨b, k, none⟩) m c) (h : k + m ≤ l.length)
    (hK : wpList P ops Q rest (a.put o.dst (.string ⟨((l.drop k).take m).toArray⟩)) w) : wpList P ops Q (o :: rest) a w := by
  refine wpList_plain hgd fun K hK' => ?_
  have hrun := run_conv_sub hs he hd hb k m c h
  unfold Oper.wp
  simp [execOp, ho, hx, hrun, Result.andThen]
  exact hK' _ _ hK

variable {w : World} {F : Nat → Prop} {g bd bv : Nat} {pv : Value} {s : DS}

set_option maxHeartbeats 400000 in
theorem size_nil (w : World) : Calls Try.prog 16 #[.pointer none] w fun e w' => e = .returned (.int .i64 0) ∧ w = w' := by
  go_enter Try.func16, Try.ntmps16
  go_wp2
  go_ret
  exact ⟨rfl, rfl⟩
set_option maxHeartbeats 400000 in
theorem size_any (h : DAt w F g bd bv pv s) : Calls Try.prog 16 #[.pointer (some ⟨g, 0, none⟩)] w fun e w' => e = .returned (.int .i64 (s.dur.length : Int)) ∧ w = w' := by
  have hc := h.cell
  unfold DCells at hc
  clear h
  go_enter Try.func16, Try.ntmps16
  go_wp2
  go_ret
  exact ⟨rfl, rfl⟩
set_option maxHeartbeats 400000 in
theorem pending_nil (w : World) : Calls Try.prog 17 #[.pointer none] w fun e w' => e = .returned (.int .i64 0) ∧ w = w' := by
  go_enter Try.func17, Try.ntmps17
  go_wp2
  go_ret
  exact ⟨rfl, rfl⟩
theorem own_form {w : World} {base : Nat} {e : TypeId} {size : Nat} {v : Value} {n : Nat} {xs : List Value} (h : w.ownsRow base e size v n xs) : ∃ a c, v = .slice a n c ∧ n ≤ c ∧ c ≤ maxLen := by
  rcases h.2 with ⟨rfl, rfl⟩ | ⟨g', cap, cur, rfl, _, hgg, h1, h2, _⟩
  · exact ⟨_, _, rfl, Nat.le_refl _, Nat.zero_le _⟩
  · exact ⟨_, _, rfl, h1, h2⟩
set_option maxHeartbeats 400000 in
theorem pending_any (h : DAt w F g bd bv pv s) : Calls Try.prog 17 #[.pointer (some ⟨g, 0, none⟩)] w fun e w' => e = .returned (.int .i64 (s.pend.length : Int)) ∧ w = w' := by
  have hc := h.cell
  obtain ⟨a, c, rfl, _⟩ := own_form h.pend
  unfold DCells at hc
  clear h
  go_enter Try.func17, Try.ntmps17
  go_wp2
  go_ret
  exact ⟨rfl, rfl⟩

/-- what Read answers -/
def DS.read (s : DS) (off n : Int) : ByteArray × Int :=
  if s.off then (⟨#[]⟩, 281) else if fitsB off n s.dur.length then (⟨((s.vis.drop off.toNat).take n.toNat).toArray⟩, 0) else (⟨#[]⟩, 280)

theorem read_nil (w : World) (off n : Int) : Calls Try.prog 14 #[.pointer none, .int .i64 off, .int .i64 n] w fun e w' => e = .returned (.tuple #[.string ⟨#[]⟩, .int .i64 1]) ∧ w = w' := by
  go_enter Try.func14, Try.ntmps14
  go_wp2_with (go_at_call 28; refine (check_nil _).mono ?_; rintro e w' ⟨rfl, rfl⟩)
  go_ret2
  exact ⟨rfl, rfl⟩

set_option maxHeartbeats 1000000 in
set_option maxRecDepth 100000 in
theorem read_any (h : DAt w F g bd bv pv s) (off n : Int) : Calls Try.prog 14 #[.pointer (some ⟨g, 0, none⟩), .int .i64 off, .int .i64 n] w fun e w' => e = .returned (.tuple #[.string (s.read off n).1, .int .i64 (s.read off n).2]) ∧ w = w' := by
  have hc := h.cell
  unfold DCells at hc
  have hc0 : w.cell? ⟨g, 0, none⟩ = some (.bool s.off) := by rw [hc]; rfl
  have hc2 : w.cell? ⟨g, 2, none⟩ = some (.slice (some ⟨bd, 0, none⟩) s.dur.length s.dur.length) := by rw [hc]; rfl
  cases ho : s.off with
  | true =>
    have hr : s.read off n = (⟨#[]⟩, 281) := by simp [DS.read, ho]
    have HR := Lib.hid hr
    rw [ho] at hc0
    clear h hr ho hc hc2
    go_enter Try.func14, Try.ntmps14
    go_wp2_with (go_at_call 28; refine (check_off _ g hc0).mono ?_; rintro e w' ⟨rfl, rfl⟩)
    go_ret2
    exact ⟨by rw [HR.out]; rfl, rfl⟩
  | false =>
    rw [ho] at hc0 hc
    cases hf : fitsB off n s.dur.length with
    | false =>
      have hr : s.read off n = (⟨#[]⟩, 280) := by simp [DS.read, ho, hf]
      have HR := Lib.hid hr
      have hbig := h.wf.big
      have HF := Lib.hid hf
      clear h hr ho hc hf
      go_enter Try.func14, Try.ntmps14
      go_wp2_with (first | (go_at_call 28; refine (check_on _ g hc0).mono ?_; rintro e w' ⟨rfl, rfl⟩) | (go_at_call 29; refine (inside_any _ g off n _ _ hbig hc2).mono ?_; rintro e w' ⟨rfl, rfl⟩; rw [HF.out]))
      go_ret2
      exact ⟨by rw [HR.out]; rfl, rfl⟩
    | true =>
      have hr : s.read off n = (⟨((s.vis.drop off.toNat).take n.toNat).toArray⟩, 0) := by simp [DS.read, ho, hf]
      have HR := Lib.hid hr
      have hbig := h.wf.big
      have hlen := h.wf.len
      have HV := Lib.hid h.vis
      have HF := Lib.hid hf
      simp [fitsB] at hf
      obtain ⟨a1, a2, a3⟩ := hf
      obtain ⟨o, rfl⟩ := Int.eq_ofNat_of_zero_le a1
      obtain ⟨m, rfl⟩ := Int.eq_ofNat_of_zero_le a2
      have b3 : o + m ≤ s.dur.length := by omega
      have b4 : o ≤ s.dur.length := by omega
      have HL := Lib.hid hlen
      clear h hr ho a1 a2 a3 hlen
      by_cases h0 : s.dur.length = o
      · have hm : m = 0 := by omega
        subst hm
        clear b3 b4
        have h00 : s.dur.length - o = 0 := by omega
        subst h0
        rw [show ((0 : Nat) : Int) = 0 from rfl] at HF HR ⊢
        go_enter Try.func14, Try.ntmps14
        go_wp2_with (first | (go_at_call 28; refine (check_on _ g hc0).mono ?_; rintro e w' ⟨rfl, rfl⟩) | (go_at_call 29; refine (inside_any _ g _ _ _ _ hbig hc2).mono ?_; rintro e w' ⟨rfl, rfl⟩; rw [HF.out]) | (refine wpList_conv_sub rfl (.tmp 26) 40 9 5 rfl (by kernel_rfl) (by kernel_rfl) (by kernel_rfl) bv s.vis 5 (0, 0) HV.out 0 0 0 rfl (by omega) ?_))
        go_ret2
        exact ⟨by rw [HR.out]; simp, rfl⟩
      · have b5 : m ≤ s.dur.length - o := by omega
        go_enter Try.func14, Try.ntmps14
        go_wp2_with (first | (go_at_call 28; refine (check_on _ g hc0).mono ?_; rintro e w' ⟨rfl, rfl⟩) | (go_at_call 29; refine (inside_any _ g _ _ _ _ hbig hc2).mono ?_; rintro e w' ⟨rfl, rfl⟩; rw [HF.out]) | (refine wpList_conv_sub rfl (.tmp 26) 40 9 5 rfl (by kernel_rfl) (by kernel_rfl) (by kernel_rfl) bv s.vis 5 (0, 0) HV.out o m (s.dur.length - o) rfl (by rw [HL.out]; exact b3) ?_))
        go_ret2
        exact ⟨by rw [HR.out]; simp, rfl⟩

def errB (c : Bool) (a b : Int) : Int := if c then a else b
/-- Cut -/
def DS.cut (s : DS) (n : Int) : DS × Int := if s.off then (s, 281) else if n < 0 then (s, 2) else ({ s with off := decide (n = 0), left := n.toNat }, 0)

def CutPost (w : World) (F : Nat → Prop) (g bd bv : Nat) (pv : Value) (s : DS) (r : Int) (e : Ending) (w' : World) : Prop :=
  e = .returned (.int .i64 r) ∧ DAt w' F g bd bv pv s ∧ Kept F w w'

theorem DAt.gset {w' : World} {s' : DS} (h : DAt w F g bd bv pv s) (hk : Kept (· = g) w w') (hb : w'.heap[g]? = some (.cells (DCells s' bd bv pv) 65 (0, 0)))
    (h1 : s'.dur = s.dur) (h2 : s'.vis = s.vis) (h3 : s'.pend = s.pend) (hl : s'.left ≤ 9223372036854775807) : DAt w' F g bd bv pv s' := by
  have n1 := blk_ne h.dur h.blk (by decide)
  have n2 := blk_ne h.vis h.blk (by decide)
  have n3 := own_blk_ne h.pend h.blk (by decide)
  have hw := h.wf
  exact ⟨hb, by rw [h1]; exact hk.blk h.dur n1, by rw [h2]; exact hk.blk h.vis n2, by rw [h3]; exact own_kept h.pend hk (fun k hk' e => n3 (by rw [hk', e])), h.ne, h.fg, h.fd, h.fv, h.fp,
    ⟨by rw [h1, h2]; exact hw.len, by rw [h1]; exact hw.big, hl, by rw [h3]; exact hw.few, by rw [h1, h3]; exact hw.ins⟩⟩

theorem cut_nil (w : World) (n : Int) : Calls Try.prog 24 #[.pointer none, .int .i64 n] w fun e w' => e = .returned (.int .i64 1) ∧ w = w' := by
  go_enter Try.func24, Try.ntmps24
  go_wp2_with (go_at_call 28; refine (check_nil _).mono ?_; rintro e w' ⟨rfl, rfl⟩)
  go_ret
  exact ⟨rfl, rfl⟩

set_option maxHeartbeats 1000000 in
set_option maxRecDepth 100000 in
theorem cut_any (h : DAt w F g bd bv pv s) (n : Int) (hn : n ≤ 9223372036854775807) : Calls Try.prog 24 #[.pointer (some ⟨g, 0, none⟩), .int .i64 n] w (CutPost w F g bd bv pv (s.cut n).1 (s.cut n).2) := by
  have hc := h.cell
  unfold DCells at hc
  have hc0 : w.cell? ⟨g, 0, none⟩ = some (.bool s.off) := by rw [hc]; rfl
  cases ho : s.off with
  | true =>
    have hr : s.cut n = (s, 281) := by simp [DS.cut, ho]
    have HR := Lib.hid hr
    have HD := Lib.hid h
    rw [ho] at hc0
    clear h hr ho hc
    rw [HR.out]
    go_enter Try.func24, Try.ntmps24
    go_wp2_with (go_at_call 28; refine (check_off _ g hc0).mono ?_; rintro e w' ⟨rfl, rfl⟩)
    go_ret
    exact ⟨rfl, HD.out, Kept.refl _ _⟩
  | false =>
    rw [ho] at hc0 hc
    by_cases hneg : n < 0
    · have hr : s.cut n = (s, 2) := by simp [DS.cut, ho, hneg]
      have HR := Lib.hid hr
      have HD := Lib.hid h
      clear h hr ho hc
      rw [HR.out]
      go_enter Try.func24, Try.ntmps24
      go_wp2_with (go_at_call 28; refine (check_on _ g hc0).mono ?_; rintro e w' ⟨rfl, rfl⟩)
      go_ret
      exact ⟨rfl, HD.out, Kept.refl _ _⟩
    · have hr : s.cut n = ({ s with off := decide (n = 0), left := n.toNat }, 0) := by simp [DS.cut, ho, hneg]
      have HR := Lib.hid hr
      have HD := Lib.hid h
      have hf := blk_frozen h.blk
      have hlt := blk_lt h.blk
      clear h hr ho
      rw [HR.out]
      go_enter Try.func24, Try.ntmps24
      go_wp2_with (go_at_call 28; refine (check_on _ g hc0).mono ?_; rintro e w' ⟨rfl, rfl⟩)
      go_ret
      have hk : Kept (· = g) w ((w.setCell ⟨g, 0, none⟩ (.bool (n == 0))).setCell ⟨g, 1, none⟩ (.int .i64 n)) := (((Kept.refl (· = g) w).setCell (p := ⟨g, 0, none⟩) (.inl rfl) _)).setCell (p := ⟨g, 1, none⟩) (.inl rfl) _
      refine ⟨rfl, HD.out.gset hk ?_ rfl rfl rfl (by simp; omega), hk.mono (fun i hi => by subst hi; exact .inl HD.out.fg)⟩
      have e := blk_set (blk_set HD.out.blk 0 (.bool (n == 0))) 1 (.int .i64 n)
      have e1 : ((n.toNat : Nat) : Int) = n := by omega
      rw [e]; simp [DCells, e1]; rw [Bool.eq_iff_iff]; simp
end Go.Proofs.Ytlocickppgddmaa
