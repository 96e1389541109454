import Derived.Test.YtlocickppgddmaaRBLaw
namespace Go.Proofs.Ytlocickppgddmaa
open Go.RowKit

theorem ordOf_nil (n : Nat) : ordOf [] n = [] := by simp [ordOf, sorted, Lib.compact, Lib.compactUpTo]
theorem DS.crash_none (s : DS) (torn : Int) : s.crash [] torn = { off := false, left := 0, dur := s.dur, vis := s.dur, pend := [] } := by
  unfold DS.crash; rw [ordOf_nil]; rfl
variable {F : Nat → Prop}
set_option maxHeartbeats 4000000 in
set_option maxRecDepth 100000 in
theorem synced_law (w : World) (size : Int) (hs1 : -9223372036854775808 ≤ size) (hs2 : size ≤ 9223372036854775807) (a : Option Addr) (len cap : Nat) (l : List (Int × ByteArray × Bool)) (hl : WPs w a len cap l) (torn : Int) : Calls Try.prog 7 #[.int .i64 size, .slice a len cap, .int .i64 torn] w (LawPost w) := by
  have hp := pickI_range size 300 (by omega)
  obtain ⟨n, hn⟩ := Int.eq_ofNat_of_zero_le (show 0 ≤ 1 + pickI size 300 by omega)
  have HN := Lib.hid hn
  have hn1 : 1 ≤ n := by omega
  have hn3 : n ≤ 300 := by omega
  have hmk := make40 n (by omega)
  have hbig := hl.big
  have HL := Lib.hid hl
  clear hn hl
  go_enter Try.func7, Try.ntmps7
  go_wp2_with fail
  refine (sane_any _).mono ?_
  rintro e w1 ⟨rfl, hb1⟩
  go_wp2_with fail
  refine (pick_any _ size 300 hs1 hs2 (by omega) (by omega)).mono ?_
  rintro e w1' ⟨rfl, rfl⟩
  go_wp2_with fail
  rw [HN.out]
  refine (new_dk (F := fun k => w1.heap.size ≤ k) w1 n hn1 (by omega) (fun _ h => h)).mono ?_
  rintro e w2 ⟨g, rfl, hd2, hb2⟩
  have hB2 := hb1.trans (hb2.below hb1.size (fun k h => Nat.le_trans hb1.size h))
  have hle1 := hb1.size
  clear hb1 hb2
  go_wp2_with fail
  have hbb := blk_new w2 (.cells (bs (List.replicate n 0)).toArray 5)
  have HRB := Lib.hid (show RBAt (BF w w2.heap.size) w g w2.heap.size n (List.replicate n 0) (New0 n) (w2.alloc (.cells (bs (List.replicate n 0)).toArray 5)) from
    ⟨(hd2.avoid _).mono (fun k h => ⟨Nat.le_trans hle1 h.1, h.2⟩), fun _ h => h, by simp, hbb, hB2.alloc hB2.size _, hB2.size⟩)
  have hwb := hB2.size
  generalize w2.alloc (.cells (bs (List.replicate n 0)).toArray 5) = W3 at HRB ⊢
  generalize w2.heap.size = bb at HRB hwb ⊢
  clear hd2 hB2 hbb hmk
  have hcv0 := conv_all (n := n) HRB.out.blk (by simp)
  rw [hcv0]
  go_wp2
  go_loopw [12, 11] (fun t u wr => ∃ (k : Nat) (c : List UInt8) (s : DS), k ≤ len ∧ k ≤ 60 ∧ t = .int .i64 k ∧ u = .string ⟨s.dur.toArray⟩ ∧ s.pend.length ≤ k ∧ Live s n c ∧ RBAt (BF w bb) w g bb n c s wr) (fun t _ _ => len - (intOf t).toNat)
  case atStart => exact ⟨0, _, _, Nat.zero_le _, by omega, rfl, rfl, by simp [New0], live_new n, HRB.out⟩
  case round =>
    obtain ⟨k, c, s, hk, hk60, rfl, rfl, hfew, hlive, hR⟩ := hrel
    have HR := Lib.hid hR
    have HLv := Lib.hid hlive
    clear hR hlive
    by_cases hlt : k < len ∧ k < 60
    · obtain ⟨hlt, hlt60⟩ := hlt
      have hkl : k < l.length := by rw [HL.out.llen]; exact hlt
      obtain ⟨b0, off, rfl, hc1, hc2, hc3⟩ := wp_at HL.out HR.out.bel k hkl
      have hfit := fitN_le l[k] n hn1
      have hfc := fitn_any wr l[k] n hn1 (by omega) (HL.out.ok l[k] (List.getElem_mem hkl))
      generalize (fitN l[k] n).1 = o at hfit hfc
      generalize (fitN l[k] n).2 = x at hfit hfc
      generalize l[k].2.2 = sy at hfc hc3
      have HFC := Lib.hid hfc
      clear hfc
      go_wp2_with fail
      refine HFC.out.mono ?_
      rintro e w4 ⟨rfl, k4⟩
      have HR4 := Lib.hid ((HR.out.kept k4).alloc (.cells #[.int .i64 (o : Int), .string x, .bool sy] 53))
      have hL := blk_new w4 (.cells #[.int .i64 (o : Int), .string x, .bool sy] 53)
      have HLB := Lib.hid hL
      clear k4 HFC hc1 hc2 hc3 hL HR
      go_wp2_with fail
      refine (put_any _ bb n o c x HR4.out.blk HR4.out.clen (by omega) hfit).mono ?_
      rintro e w5 ⟨rfl, h5, k5⟩
      have hcl : (splice c o x.data.toList).length = n := (length_splice _ _ _ (by rw [data_length, HR4.out.clen]; exact hfit)).trans HR4.out.clen
      have HR5 := Lib.hid (HR4.out.put k5 h5 hcl)
      have hbL : w4.heap.size ≠ bb := by
        have h1 := blk_lt HR4.out.blk
        intro e
        rw [← e] at h5
        have h2 := HLB.out
        rw [e] at h2
        exact absurd rfl (blk_ne h2 HR4.out.blk (by decide))
      have HL5 := Lib.hid (k5.blk HLB.out hbL)
      have cL := blk_cell HL5.out
      clear h5 k5 HR4 HLB
      go_wp2_with fail
      have hw := HLv.out.write o x (by omega) (by omega)
      rw [Int.toNat_natCast] at hw
      refine (write_dk HR5.out.dk (by omega) o x hw).mono ?_
      rintro e w6 ⟨rfl, hd6, k6⟩
      have hLF : ¬ ((BF w bb) w4.heap.size ∧ w4.heap.size ≠ w4.heap.size) := fun h => h.2 rfl
      have HR6 := Lib.hid (HR5.out.op hd6 k6)
      have HLv6 := Lib.hid (HLv.out.wrote o x)
      have HL6 := Lib.hid (k6.blk HL5.out hLF)
      have cL := blk_cell HL6.out
      clear hd6 k6 HR5 HL5 hw
      cases sy with
      | false =>
        go_wp2
        go_roundw
        case rel => exact ⟨k + 1, splice c o x.data.toList, { s with vis := splice c o x.data.toList, pend := s.pend ++ [(o, x)] }, by omega, by omega, by go_num, rfl, by simp; omega, HLv6.out, HR6.out.mono (fun k h => h.1) (fun _ h => h)⟩
        case measure => simp [intOf]; omega
      | true =>
        go_wp2_with fail
        have hsy := HLv6.out.sync
        refine (sync_dk HR6.out.dk hsy).mono ?_
        rintro e w7 ⟨rfl, hd7, k7⟩
        have HR7 := Lib.hid (HR6.out.op hd7 k7)
        have HLv7 := Lib.hid (HLv6.out.synced hcl)
        have HL7 := Lib.hid (k7.blk HL6.out hLF)
        have cL := blk_cell HL7.out
        clear hd7 k7 hsy
        have hcv := conv_all HR7.out.blk hcl
        go_wp2
        go_roundw
        case rel => exact ⟨k + 1, _, _, by omega, by omega, by go_num, rfl, by simp, HLv7.out, HR7.out.mono (fun k h => h.1) (fun _ h => h)⟩
        case measure => simp [intOf]; omega
    · by_cases h1 : k < len
      · have h2 : ¬ k < 60 := fun h2 => hlt ⟨h1, h2⟩
        clear hlt
        go_wp2_with fail
        refine (crash_dk HR.out.dk none 0 [] (by simp) (.inl ⟨_, _, rfl, rfl⟩) torn (s.crash_none torn)).mono ?_
        rintro e w7 ⟨rfl, hd7, k7⟩
        have HR7 := Lib.hid (HR.out.op hd7 k7)
        clear hd7 k7
        go_wp2_with fail
        have hrd := (show Live ({ off := false, left := 0, dur := s.dur, vis := s.dur, pend := [] } : DS) n s.dur from ⟨rfl, rfl, HLv.out.dur, rfl⟩).read HLv.out.dur
        refine (read_dk HR7.out.dk 0 n hrd).mono ?_
        rintro e w7' ⟨rfl, rfl⟩
        clear hrd
        go_wp2_with fail
        refine (pending_dk HR7.out.dk).mono ?_
        rintro e w7' ⟨rfl, rfl⟩
        go_wp2
        go_ret
        exact ⟨rfl, HR7.out.bel⟩
      · clear hlt
        go_wp2_with fail
        refine (crash_dk HR.out.dk none 0 [] (by simp) (.inl ⟨_, _, rfl, rfl⟩) torn (s.crash_none torn)).mono ?_
        rintro e w7 ⟨rfl, hd7, k7⟩
        have HR7 := Lib.hid (HR.out.op hd7 k7)
        clear hd7 k7
        go_wp2_with fail
        have hrd := (show Live ({ off := false, left := 0, dur := s.dur, vis := s.dur, pend := [] } : DS) n s.dur from ⟨rfl, rfl, HLv.out.dur, rfl⟩).read HLv.out.dur
        refine (read_dk HR7.out.dk 0 n hrd).mono ?_
        rintro e w7' ⟨rfl, rfl⟩
        clear hrd
        go_wp2_with fail
        refine (pending_dk HR7.out.dk).mono ?_
        rintro e w7' ⟨rfl, rfl⟩
        go_wp2
        go_ret
        exact ⟨rfl, HR7.out.bel⟩
end Go.Proofs.Ytlocickppgddmaa
