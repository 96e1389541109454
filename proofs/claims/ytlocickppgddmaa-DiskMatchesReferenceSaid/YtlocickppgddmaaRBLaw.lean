import Derived.Test.YtlocickppgddmaaNilLaw
namespace Go.Proofs.Ytlocickppgddmaa
open Go.RowKit

/-- what a []WriteParams reads as -/
structure WPs (w : World) (a : Option Addr) (len cap : Nat) (l : List (Int × ByteArray × Bool)) : Prop where
  llen : l.length = len
  lcap : len ≤ cap
  big : len ≤ 9223372036854775807
  ok : ∀ x ∈ l, -9223372036854775808 ≤ x.1 ∧ x.1 ≤ 9223372036854775807 ∧ x.2.1.size ≤ 9223372036854775807
  at_ : len = 0 ∨ ∃ b off, a = some ⟨b, off, none⟩ ∧ b < w.heap.size ∧ ∀ i (h : i < l.length), w.cell? ⟨b, off + i * 3, none⟩ = some (.int .i64 l[i].1) ∧ w.cell? ⟨b, off + i * 3 + 1, none⟩ = some (.string l[i].2.1) ∧ w.cell? ⟨b, off + i * 3 + 2, none⟩ = some (.bool l[i].2.2)

/-- a disk that has power, and is not going to lose it -/
structure Live (s : DS) (n : Nat) (c : List UInt8) : Prop where
  off : s.off = false
  left : s.left = 0
  dur : s.dur.length = n
  vis : s.vis = c

theorem Live.write {s : DS} {n : Nat} {c : List UInt8} (h : Live s n c) (o : Int) (b : ByteArray) (ho : 0 ≤ o) (hb : o + b.size ≤ n) :
    s.write o b = ({ s with vis := splice c o.toNat b.data.toList, pend := s.pend ++ [(o.toNat, b)] }, 0) := by
  have hf : fitsB o b.size s.dur.length = true := by simp [fitsB, h.dur]; omega
  simp [DS.write, h.off, hf, DS.used, h.left, h.vis]
theorem Live.wrote {s : DS} {n : Nat} {c : List UInt8} (h : Live s n c) (o : Nat) (b : ByteArray) : Live { s with vis := splice c o b.data.toList, pend := s.pend ++ [(o, b)] } n (splice c o b.data.toList) := ⟨h.off, h.left, h.dur, rfl⟩
theorem Live.sync {s : DS} {n : Nat} {c : List UInt8} (h : Live s n c) : s.sync = ({ s with dur := c, pend := [] }, 0) := by simp [DS.sync, h.off, h.vis]
theorem Live.synced {s : DS} {n : Nat} {c : List UInt8} (h : Live s n c) (hc : c.length = n) : Live { s with dur := c, pend := [] } n c := ⟨h.off, h.left, hc, h.vis⟩
theorem Live.read {s : DS} {n : Nat} {c : List UInt8} (h : Live s n c) (hc : c.length = n) : s.read 0 n = (⟨c.toArray⟩, 0) := by
  have hf : fitsB 0 n s.dur.length = true := by simp [fitsB, h.dur]
  simp only [DS.read, h.off, hf, h.vis, if_true, Bool.false_eq_true, if_false]
  have : (c.drop (0 : Int).toNat).take (n : Int).toNat = c := by
    rw [show (0 : Int).toNat = 0 from rfl, List.drop_zero, Int.toNat_natCast, ← hc, List.take_length]
  rw [this]
theorem live_new (n : Nat) : Live (New0 n) n (List.replicate n 0) := ⟨rfl, rfl, by simp [New0], rfl⟩

theorem conv_all {w : World} {b n : Nat} {l : List UInt8} {fr : Nat × Nat} (hb : w.heap[b]? = some (.cells (bs l).toArray 5 fr)) (hl : l.length = n) :
    (convert 40 9 (.slice (some ⟨b, 0, none⟩) n n)).run Try.prog w = .ok (.string ⟨l.toArray⟩) w := by
  have := run_conv_sub (P := Try.prog) (src := 40) (dst := 9) (e := 5) (by kernel_rfl) (by kernel_rfl) (by kernel_rfl) hb 0 n n (by omega)
  rw [List.drop_zero, ← hl, List.take_length] at this
  rwa [hl] at this

theorem fit_ok (o : Int) (n : Nat) (b : ByteArray) (h1 : 1 ≤ n) : 0 ≤ fitOff o n ∧ fitOff o n ≤ n ∧ fitOff o n + (fitStr o n b).size ≤ n := by
  have hr := pickI_range o ((n : Int) + 1) (by omega)
  have hs : (fitStr o n b).size ≤ ((n : Int) - fitOff o n).toNat := cutS_le b _ (by unfold fitOff; omega)
  unfold fitOff at *
  omega

theorem wp_at {w wr : World} {a : Option Addr} {len cap : Nat} {l : List (Int × ByteArray × Bool)} (h : WPs w a len cap l) (hB : Below w.heap.size w wr) (k : Nat) (hk : k < l.length) : ∃ b off, a = some ⟨b, off, none⟩ ∧
    wr.cell? ⟨b, off + k * 3, none⟩ = some (.int .i64 l[k].1) ∧ wr.cell? ⟨b, off + k * 3 + 1, none⟩ = some (.string l[k].2.1) ∧ wr.cell? ⟨b, off + k * 3 + 2, none⟩ = some (.bool l[k].2.2) := by
  rcases h.at_ with h0 | ⟨b, off, ha, hb, hc⟩
  · have := h.llen; omega
  · obtain ⟨h1, h2, h3⟩ := hc k hk
    exact ⟨b, off, ha, (hB.cell (p := ⟨b, _, none⟩) hb).trans h1, (hB.cell (p := ⟨b, _, none⟩) hb).trans h2, (hB.cell (p := ⟨b, _, none⟩) hb).trans h3⟩

def fitN (x : Int × ByteArray × Bool) (n : Nat) : Nat × ByteArray := ((fitOff x.1 n).toNat, fitStr x.1 n x.2.1)
theorem fitN_le (x : Int × ByteArray × Bool) (n : Nat) (h : 1 ≤ n) : (fitN x n).1 + (fitN x n).2.size ≤ n := by
  have := fit_ok x.1 n x.2.1 h
  unfold fitN; simp only; omega
def FitNPost (w : World) (o : Nat) (x : ByteArray) (sy : Bool) (e : Ending) (w' : World) : Prop :=
  e = .returned (.agg #[.int .i64 (o : Int), .string x, .bool sy]) ∧ Kept (fun _ => False) w w'
theorem fitn_any (w : World) (x : Int × ByteArray × Bool) (n : Nat) (h1 : 1 ≤ n) (h2 : n ≤ 1000000) (hx : -9223372036854775808 ≤ x.1 ∧ x.1 ≤ 9223372036854775807 ∧ x.2.1.size ≤ 9223372036854775807) :
    Calls Try.prog 26 #[.agg #[.int .i64 x.1, .string x.2.1, .bool x.2.2], .int .i64 n] w (FitNPost w (fitN x n).1 (fitN x n).2 x.2.2) := by
  have hf := fit_ok x.1 n x.2.1 h1
  refine (fits_any w x.1 x.2.1 x.2.2 n hx.1 hx.2.1 (by omega) (by omega) hx.2.2).mono ?_
  rintro e w' ⟨rfl, hk⟩
  have : (((fitN x n).1 : Nat) : Int) = fitOff x.1 n := by unfold fitN; simp only; omega
  exact ⟨by rw [this]; rfl, hk⟩

theorem DK.avoid {F : Nat → Prop} {w : World} {g : Nat} {s : DS} (h : DK F w g s) (o : Obj) : DK (fun k => F k ∧ k ≠ w.heap.size) (w.alloc o) g s := by
  obtain ⟨bd, bv, pv, hd⟩ := h.ex
  refine ⟨⟨bd, bv, pv, (hd.foot.kept ((Kept.refl (fun _ => False) w).alloc o) (fun _ _ h => h)).mono fun k hk => ⟨hd.foot_F k hk, by have := hd.foot_lt k hk; omega⟩⟩, fun k hk => ?_⟩
  simp at hk; exact ⟨h.up k (by omega), by omega⟩

/-- between two rounds: the disk, and a row of bytes beside it -/
structure RBAt (F : Nat → Prop) (w : World) (g bb n : Nat) (c : List UInt8) (s : DS) (wr : World) : Prop where
  dk : DK F wr g s
  fle : ∀ k, F k → w.heap.size ≤ k ∧ k ≠ bb
  clen : c.length = n
  blk : wr.heap[bb]? = some (.cells (bs c).toArray 5 (0, 0))
  bel : Below w.heap.size w wr
  fresh : w.heap.size ≤ bb

variable {F : Nat → Prop}
theorem RBAt.kept {w : World} {g bb n : Nat} {c : List UInt8} {s : DS} {wr w' : World} (h : RBAt F w g bb n c s wr) (hk : Kept (fun _ => False) wr w') : RBAt F w g bb n c s w' :=
  ⟨h.dk.kept hk (fun _ _ _ h => h), h.fle, h.clen, hk.blk h.blk (fun h => h), h.bel.trans (hk.below h.bel.size (fun _ h => h.elim)), h.fresh⟩
theorem RBAt.alloc {w : World} {g bb n : Nat} {c : List UInt8} {s : DS} {wr : World} (h : RBAt F w g bb n c s wr) (o : Obj) : RBAt (fun k => F k ∧ k ≠ wr.heap.size) w g bb n c s (wr.alloc o) :=
  ⟨h.dk.avoid o, fun k hk => h.fle k hk.1, h.clen, blk_alloc h.blk o, h.bel.alloc h.bel.size o, h.fresh⟩
theorem RBAt.put {w : World} {g bb n : Nat} {c c' : List UInt8} {s : DS} {wr w' : World} (h : RBAt F w g bb n c s wr) (hk : Kept (· = bb) wr w') (hb : w'.heap[bb]? = some (.cells (bs c').toArray 5 (0, 0))) (hc : c'.length = n) : RBAt F w g bb n c' s w' :=
  ⟨h.dk.kept hk (fun k _ h1 h2 => (h.fle k h1).2 h2), h.fle, hc, hb, h.bel.trans (hk.below h.bel.size (fun k hk => by subst hk; exact h.fresh)), h.fresh⟩
theorem RBAt.op {w : World} {g bb n : Nat} {c : List UInt8} {s s' : DS} {wr w' : World} (h : RBAt F w g bb n c s wr) (hd : DK F w' g s') (hk : Kept F wr w') : RBAt F w g bb n c s' w' :=
  ⟨hd, h.fle, h.clen, hk.blk h.blk (fun h1 => (h.fle _ h1).2 rfl), h.bel.trans (hk.below h.bel.size (fun k hk => (h.fle k hk).1)), h.fresh⟩
theorem RBAt.mono {G : Nat → Prop} {w : World} {g bb n : Nat} {c : List UInt8} {s : DS} {wr : World} (h : RBAt F w g bb n c s wr) (h1 : ∀ k, F k → G k) (h2 : ∀ k, G k → w.heap.size ≤ k ∧ k ≠ bb) : RBAt G w g bb n c s wr :=
  ⟨h.dk.mono h1, h2, h.clen, h.blk, h.bel, h.fresh⟩
/-- what the loops take for F -/
def BF (w : World) (bb : Nat) : Nat → Prop := fun k => w.heap.size ≤ k ∧ k ≠ bb

set_option maxHeartbeats 4000000 in
set_option maxRecDepth 100000 in
theorem readsback_law (w : World) (size : Int) (hs1 : -9223372036854775808 ≤ size) (hs2 : size ≤ 9223372036854775807) (a : Option Addr) (len cap : Nat) (l : List (Int × ByteArray × Bool)) (hl : WPs w a len cap l) : Calls Try.prog 6 #[.int .i64 size, .slice a len cap] w (LawPost w) := by
  have hp := pickI_range size 300 (by omega)
  obtain ⟨n, hn⟩ := Int.eq_ofNat_of_zero_le (show 0 ≤ 1 + pickI size 300 by omega)
  have HN := Lib.hid hn
  have hn1 : 1 ≤ n := by omega
  have hn3 : n ≤ 300 := by omega
  have hmk := make40 n (by omega)
  have hbig := hl.big
  have HL := Lib.hid hl
  clear hn hl
  go_enter Try.func6, Try.ntmps6
  go_wp2_with fail
  refine (sane_any _).mono ?_
  rintro e w1 ⟨rfl, hb1⟩
  go_wp2_with fail
  refine (pick_any _ size 300 hs1 hs2 (by omega) (by omega)).mono ?_
  rintro e w1' ⟨rfl, rfl⟩
  go_wp2_with fail
  rw [HN.out]
  refine (new_dk (F := fun k => w1.heap.size ≤ k) w1 n hn1 (by omega) (fun _ h => h)).mono ?_
  rintro e w2 ⟨g, rfl, hd2, hb2⟩
  have hB2 := hb1.trans (hb2.below hb1.size (fun k h => Nat.le_trans hb1.size h))
  have hle1 := hb1.size
  clear hb1 hb2
  go_wp2_with fail
  have hbb := blk_new w2 (.cells (bs (List.replicate n 0)).toArray 5)
  have HRB := Lib.hid (show RBAt (BF w w2.heap.size) w g w2.heap.size n (List.replicate n 0) (New0 n) (w2.alloc (.cells (bs (List.replicate n 0)).toArray 5)) from
    ⟨(hd2.avoid _).mono (fun k h => ⟨Nat.le_trans hle1 h.1, h.2⟩), fun _ h => h, by simp, hbb, hB2.alloc hB2.size _, hB2.size⟩)
  have hwb := hB2.size
  generalize w2.alloc (.cells (bs (List.replicate n 0)).toArray 5) = W3 at HRB ⊢
  generalize w2.heap.size = bb at HRB hwb ⊢
  clear hd2 hB2 hbb hmk
  go_loopw [9] (fun t wr => ∃ (k : Nat) (c : List UInt8) (s : DS), k ≤ len ∧ k ≤ 60 ∧ t = .int .i64 k ∧ s.pend.length ≤ k ∧ Live s n c ∧ RBAt (BF w bb) w g bb n c s wr) (fun t _ => len - (intOf t).toNat)
  case atStart => exact ⟨0, _, _, Nat.zero_le _, by omega, rfl, by simp [New0], live_new n, HRB.out⟩
  case round =>
    obtain ⟨k, c, s, hk, hk60, rfl, hfew, hlive, hR⟩ := hrel
    have HR := Lib.hid hR
    have HLv := Lib.hid hlive
    clear hR hlive
    by_cases hlt : k < len ∧ k < 60
    · obtain ⟨hlt, hlt60⟩ := hlt
      have hkl : k < l.length := by rw [HL.out.llen]; exact hlt
      obtain ⟨b0, off, rfl, hc1, hc2, hc3⟩ := wp_at HL.out HR.out.bel k hkl
      have hfit := fitN_le l[k] n hn1
      have hfc := fitn_any wr l[k] n hn1 (by omega) (HL.out.ok l[k] (List.getElem_mem hkl))
      generalize (fitN l[k] n).1 = o at hfit hfc
      generalize (fitN l[k] n).2 = x at hfit hfc
      generalize l[k].2.2 = sy at hfc hc3
      have HFC := Lib.hid hfc
      clear hfc
      go_wp2_with fail
      refine HFC.out.mono ?_
      rintro e w4 ⟨rfl, k4⟩
      have HR4 := Lib.hid ((HR.out.kept k4).alloc (.cells #[.int .i64 (o : Int), .string x, .bool sy] 53))
      have hL := blk_new w4 (.cells #[.int .i64 (o : Int), .string x, .bool sy] 53)
      have HLB := Lib.hid hL
      clear k4 HFC hc1 hc2 hc3 hL HR
      go_wp2_with fail
      refine (put_any _ bb n o c x HR4.out.blk HR4.out.clen (by omega) hfit).mono ?_
      rintro e w5 ⟨rfl, h5, k5⟩
      have hcl : (splice c o x.data.toList).length = n := (length_splice _ _ _ (by rw [data_length, HR4.out.clen]; exact hfit)).trans HR4.out.clen
      have HR5 := Lib.hid (HR4.out.put k5 h5 hcl)
      have hbL : w4.heap.size ≠ bb := by
        have h1 := blk_lt HR4.out.blk
        intro e
        rw [← e] at h5
        have h2 := HLB.out
        rw [e] at h2
        exact absurd rfl (blk_ne h2 HR4.out.blk (by decide))
      have HL5 := Lib.hid (k5.blk HLB.out hbL)
      have cL := blk_cell HL5.out
      clear h5 k5 HR4 HLB
      go_wp2_with fail
      have hw := HLv.out.write o x (by omega) (by omega)
      rw [Int.toNat_natCast] at hw
      refine (write_dk HR5.out.dk (by omega) o x hw).mono ?_
      rintro e w6 ⟨rfl, hd6, k6⟩
      have hLF : ¬ ((BF w bb) w4.heap.size ∧ w4.heap.size ≠ w4.heap.size) := fun h => h.2 rfl
      have HR6 := Lib.hid (HR5.out.op hd6 k6)
      have HLv6 := Lib.hid (HLv.out.wrote o x)
      have HL6 := Lib.hid (k6.blk HL5.out hLF)
      have cL := blk_cell HL6.out
      clear hd6 k6 HR5 HL5 hw
      cases sy with
      | false =>
        go_wp2_with fail
        have hrd := HLv6.out.read hcl
        refine (read_dk HR6.out.dk 0 n hrd).mono ?_
        rintro e w6' ⟨rfl, rfl⟩
        clear hrd
        have hcv := conv_all HR6.out.blk hcl
        go_wp2
        go_roundw
        case rel => exact ⟨k + 1, _, _, by omega, by omega, by go_num, by simp; omega, HLv6.out, HR6.out.mono (fun k h => h.1) (fun _ h => h)⟩
        case measure => simp [intOf]; omega
      | true =>
        go_wp2_with fail
        have hsy := HLv6.out.sync
        refine (sync_dk HR6.out.dk hsy).mono ?_
        rintro e w7 ⟨rfl, hd7, k7⟩
        have HR7 := Lib.hid (HR6.out.op hd7 k7)
        have HLv7 := Lib.hid (HLv6.out.synced hcl)
        clear hd7 k7 hsy cL
        go_wp2_with fail
        have hrd := HLv7.out.read hcl
        refine (read_dk HR7.out.dk 0 n hrd).mono ?_
        rintro e w7' ⟨rfl, rfl⟩
        clear hrd
        have hcv := conv_all HR7.out.blk hcl
        go_wp2
        go_roundw
        case rel => exact ⟨k + 1, _, _, by omega, by omega, by go_num, by simp, HLv7.out, HR7.out.mono (fun k h => h.1) (fun _ h => h)⟩
        case measure => simp [intOf]; omega
    · have hb := Lib.hid HR.out.bel
      by_cases h1 : k < len
      · have h2 : ¬ k < 60 := fun h2 => hlt ⟨h1, h2⟩
        clear hlt
        go_wp2
        go_ret
        exact ⟨rfl, hb.out⟩
      · clear hlt
        go_wp2
        go_ret
        exact ⟨rfl, hb.out⟩
end Go.Proofs.Ytlocickppgddmaa
