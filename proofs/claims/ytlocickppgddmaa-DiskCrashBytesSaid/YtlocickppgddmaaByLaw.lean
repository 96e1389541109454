import Derived.Test.YtlocickppgddmaaBy0
namespace Go.Proofs.Ytlocickppgddmaa
open Go.RowKit

theorem tornW_a (torn : Int) (i : Nat) (x : ByteArray) (h : 0 ≤ torn) : tornW torn (i : Int) i x = cutS x torn := by unfold tornW; exact if_pos ⟨rfl, h⟩
theorem tornW_b (torn : Int) (i : Nat) (x : ByteArray) (h : ¬ 0 ≤ torn) : tornW torn (i : Int) i x = x := by unfold tornW; exact if_neg (fun e => h e.2)
theorem tornW_c (torn last : Int) (i : Nat) (x : ByteArray) (h : ¬ (i : Int) = last) : tornW torn last i x = x := by unfold tornW; exact if_neg (fun e => h e.1)
theorem NAt.some_ {F : Nat → Prop} {w wr : World} {g bb n : Nat} {c : List UInt8} {s : DS} {zs : List Int} {v : Value} (h : NAt F w g bb n c s zs v wr) (hz : zs ≠ []) : ∃ gv cv, v = .slice (some ⟨gv, 0, none⟩) zs.length cv := by
  rcases h.own.2 with ⟨_, h0⟩ | ⟨g', cap', cur, e, _⟩
  · exact absurd (List.eq_nil_of_length_eq_zero h0) hz
  · exact ⟨g', cap', e⟩
theorem ints_one (l : List Int) : ∀ u ∈ ints l, u.oneCell' = true := by
  intro u hu; simp [ints] at hu; obtain ⟨x, _, rfl⟩ := hu; rfl
theorem splice_all {α : Type} (l c : List α) (h : l.length = c.length) : splice l 0 c = c := by
  simp [splice, h]

set_option maxHeartbeats 8000000 in
set_option maxRecDepth 100000 in
theorem bytes_law (w : World) (size : Int) (hs1 : -9223372036854775808 ≤ size) (hs2 : size ≤ 9223372036854775807) (a : Option Addr) (len cap : Nat) (l : List (Int × ByteArray × Bool)) (hl : WPs w a len cap l)
    (ak : Option Addr) (lenk capk : Nat) (kb : List Bool) (hkb : BPs w ak lenk capk kb) (torn : Int) : Calls Try.prog 8 #[.int .i64 size, .slice a len cap, .slice ak lenk capk, .int .i64 torn] w (LawPost w) := by
  have hp := pickI_range size 100 (by omega)
  obtain ⟨n, hn⟩ := Int.eq_ofNat_of_zero_le (show 0 ≤ 1 + pickI size 100 by omega)
  have HN := Lib.hid hn
  have hn1 : 1 ≤ n := by omega
  have hn3 : n ≤ 100 := by omega
  have hmk := make40 n (by omega)
  have hbig := hl.big
  have hbigk := hkb.big
  have hlek := hkb.lcap
  have HL := Lib.hid hl
  have HKB := Lib.hid hkb
  clear hn hl hkb
  go_enter Try.func8, Try.ntmps8
  go_wp2_with fail
  refine (sane_any _).mono ?_
  rintro e w1 ⟨rfl, hb1⟩
  go_wp2_with fail
  refine (pick_any _ size 100 hs1 hs2 (by omega) (by omega)).mono ?_
  rintro e w1' ⟨rfl, rfl⟩
  go_wp2_with fail
  rw [HN.out]
  refine (new_dk (F := fun k => w1.heap.size ≤ k) w1 n hn1 (by omega) (fun _ h => h)).mono ?_
  rintro e w2 ⟨g, rfl, hd2, hb2⟩
  have hB2 := hb1.trans (hb2.below hb1.size (fun k h => Nat.le_trans hb1.size h))
  have hle1 := hb1.size
  clear hb1 hb2 hp
  go_wp2_with fail
  have hbb := blk_new w2 (.cells (bs (List.replicate n 0)).toArray 5)
  have HRB := Lib.hid (show RBAt (BF w w2.heap.size) w g w2.heap.size n (List.replicate n 0) (New0 n) (w2.alloc (.cells (bs (List.replicate n 0)).toArray 5)) from
    ⟨(hd2.avoid _).mono (fun k h => ⟨Nat.le_trans hle1 h.1, h.2⟩), fun _ h => h, by simp, hbb, hB2.alloc hB2.size _, hB2.size⟩)
  have hwb := hB2.size
  generalize w2.alloc (.cells (bs (List.replicate n 0)).toArray 5) = W3 at HRB ⊢
  generalize w2.heap.size = bb at HRB hwb ⊢
  clear hd2 hB2 hbb hmk
  go_loopw [13] (fun t wr => ∃ (k : Nat) (c : List UInt8), k ≤ n ∧ t = .int .i64 k ∧ RBAt (BF w bb) w g bb n c (New0 n) wr) (fun t _ => n - (intOf t).toNat)
  case atStart => exact ⟨0, _, Nat.zero_le _, rfl, HRB.out⟩
  case round =>
    obtain ⟨k, c, hk, rfl, hR⟩ := hrel
    have HR := Lib.hid hR
    have hcn := hR.clen
    clear hR
    by_cases hlt : k < n
    · have hbl := HR.out.blk
      have hcell := blk_cell hbl k
      have hfz := blk_frozen hbl k
      have hget : (bs c).toArray[k]? = some (.int .u8 ((c.getD k 0).toNat : Int)) := by simp [bs, List.getD, show k < c.length by omega]
      rw [hget] at hcell
      have hbt : ((UInt8.ofNat (48 + k % 10)).toNat : Int) = 48 + (k : Int) % 10 := by
        rw [UInt8.toNat_ofNat']; omega
      have HP := Lib.hid (show RBAt (BF w bb) w g bb n (c.set k (UInt8.ofNat (48 + k % 10))) (New0 n) (wr.setCell ⟨bb, k, none⟩ (.int .u8 (48 + (k : Int) % 10))) from
        HR.out.put ((Kept.refl (· = bb) wr).setCell (p := ⟨bb, k, none⟩) (.inl rfl) _) (by rw [blk_set hbl, ← hbt, bs_set]) (by rw [List.length_set]; exact hcn))
      clear hbl hget hbt
      go_wp2
      go_roundw
      case rel => exact ⟨k + 1, _, by omega, by go_num, HP.out⟩
      case measure => simp [intOf]; omega
    · obtain rfl : k = n := by omega
      clear hlt
      have hcv := conv_all HR.out.blk hcn
      have HLv := Lib.hid (live_new k)
      have hsz : (⟨c.toArray⟩ : ByteArray).size = k := by rw [← hcn]; rfl
      have hsp : splice (List.replicate k 0) 0 c = c := splice_all _ _ (by simp [hcn])
      have hw := HLv.out.write 0 ⟨c.toArray⟩ (by omega) (by rw [hsz]; omega)
      have hlw := HLv.out.wrote 0 ⟨c.toArray⟩
      simp only [Int.toNat_zero, hsp] at hw hlw
      have HW := Lib.hid hw
      have HLW := Lib.hid hlw
      clear hw hlw hsz hsp
      go_wp2_with fail
      refine (write_dk HR.out.dk (by simp [New0]) 0 ⟨c.toArray⟩ HW.out).mono ?_
      rintro e w4 ⟨rfl, hd4, k4⟩
      have HR4 := Lib.hid (HR.out.op hd4 k4)
      clear hd4 k4 hcv HR HW
      go_wp2_with fail
      refine (sync_dk HR4.out.dk HLW.out.sync).mono ?_
      rintro e w5 ⟨rfl, hd5, k5⟩
      have HR5 := Lib.hid (HR4.out.op hd5 k5)
      clear hd5 k5 HR4 HLv
      have HLS := Lib.hid (HLW.out.synced hcn)
      clear HLW
      generalize hs0 : ({ New0 k with dur := c, vis := c, pend := [] } : DS) = s0 at HR5 HLS
      have HS0 := Lib.hid (show s0.dur = c ∧ s0.pend = [] by rw [← hs0]; exact ⟨rfl, rfl⟩)
      clear hs0
      go_wp2_with fail
      go_loopw [15, 14] (fun t u wr => ∃ (j : Nat), j ≤ len ∧ j ≤ 20 ∧ t = .int .i64 j ∧ u = .int .i64 (lastI kb j) ∧ wr = w5) (fun t _ _ => len - (intOf t).toNat)
      case atStart => exact ⟨0, Nat.zero_le _, by omega, rfl, rfl, rfl⟩
      case round =>
        obtain ⟨j, hj, hj20, rfl, rfl, rfl⟩ := hrel
        have hlI := lastI_lt kb j
        have hsucc : lastI kb (j + 1) = if kb.getD j false = true then (j : Int) else lastI kb j := rfl
        have HSU := Lib.hid hsucc
        clear hsucc
        by_cases hlt : j < len ∧ j < 20
        · obtain ⟨hlt, hlt20⟩ := hlt
          by_cases hjk : j < lenk
          · have hjl : j < kb.length := by rw [HKB.out.llen]; exact hjk
            obtain ⟨b0, off, rfl, hc1⟩ := bp_at HKB.out HR5.out.bel j hjl
            have hgd : kb.getD j false = kb[j] := by simp [List.getD, hjl]
            have HGD := Lib.hid hgd
            clear hgd
            generalize kb[j] = kv at hc1 HGD
            cases kv with
            | true =>
              go_wp2
              go_roundw
              case rel => exact ⟨j + 1, by omega, by omega, by go_num, by rw [HSU.out, HGD.out]; rfl, trivial⟩
              case measure => simp [intOf]; omega
            | false =>
              go_wp2
              go_roundw
              case rel => exact ⟨j + 1, by omega, by omega, by go_num, by rw [HSU.out, HGD.out]; rfl, trivial⟩
              case measure => simp [intOf]; omega
          · have hgd : kb.getD j false = false := by simp [List.getD, List.getElem?_eq_none (show kb.length ≤ j by rw [HKB.out.llen]; omega)]
            have HGD := Lib.hid hgd
            clear hgd
            go_wp2
            go_roundw
            case rel => exact ⟨j + 1, by omega, by omega, by go_num, by rw [HSU.out, HGD.out]; rfl, trivial⟩
            case measure => simp [intOf]; omega
        · have HJ := Lib.hid (show j = min len 20 by omega)
          clear HSU
          generalize hlast : lastI kb j = last at hlI ⊢
          have HLA := Lib.hid hlast
          clear hlast
          by_cases h1 : j < len
          · have h2 : ¬ j < 20 := fun h2 => hlt ⟨h1, h2⟩
            clear hlt
            go_wp2_with fail
            generalize hff : (fun i => fitN (l.getD i default) k : Nat → Nat × ByteArray) = f
            have HFD := Lib.hid (show ∀ i, f i = fitN (l.getD i default) k by intro i; rw [← hff])
            clear hff
            have HN0 := Lib.hid (show NAt (CF w.heap.size bb (.slice none 0 0)) w g bb k (wantOf f kb torn last c 0) s0 (numsB kb 0) (.slice none 0 0) wr from
              ⟨HR5.out.mono (fun k h => ⟨h.1, h.2, fun e => by cases e⟩) (fun k h => ⟨h.1, h.2.1⟩), World.ownsRow_nil _ _ _ _, (fun k e => (by cases e)), fun _ => rfl⟩)
            go_loopw [17, 16] (fun t v wr => ∃ (i : Nat) (s : DS) (vis : List UInt8), i ≤ len ∧ i ≤ 20 ∧ t = .int .i64 i ∧ Live s k vis ∧ vis.length = k ∧ s.dur = c ∧ s.pend = pendOf f i ∧ NAt (CF w.heap.size bb v) w g bb k (wantOf f kb torn last c i) s (numsB kb i) v wr) (fun t _ _ => len - (intOf t).toNat)
            case atStart => exact ⟨0, _, _, Nat.zero_le _, by omega, rfl, HLS.out, hcn, HS0.out.1, HS0.out.2, HN0.out⟩
            case round =>
              rename_i wr
              obtain ⟨i, s, vis, hi, hi20, rfl, hlv, hvis, hdur, hpd, hR⟩ := hrel
              have HLv := Lib.hid hlv
              have HD := Lib.hid hdur
              have HPD := Lib.hid hpd
              have hfew : s.pend.length = i := by rw [hpd, pendOf_len]
              have HRN := Lib.hid hR
              have hcl := hR.rb.clen
              clear hlv hdur hpd hR
              by_cases hlt : i < len ∧ i < 20
              · obtain ⟨hlt, hlt20⟩ := hlt
                have hkl : i < l.length := by rw [HL.out.llen]; exact hlt
                obtain ⟨b0, off, rfl, hc1, hc2, hc3⟩ := wp_at HL.out HRN.out.rb.bel i hkl
                have hfit := fitN_le l[i] k hn1
                have hxo := (HL.out.ok l[i] (List.getElem_mem hkl))
                have hfc := fitn_any wr l[i] k hn1 (by omega) hxo
                have hF : f i = fitN l[i] k := by rw [HFD.out]; simp [List.getD, hkl]
                have hxs : (fitN l[i] k).2.size ≤ 9223372036854775807 := by omega
                generalize hfi : (fitN l[i] k) = fx at hfit hfc hF hxs
                obtain ⟨o, x⟩ := fx
                simp only at hfit hfc hxs
                generalize l[i].2.2 = sy at hfc hc3
                have HF := Lib.hid hF
                have HFC := Lib.hid hfc
                clear hfc hF hfi hxo
                go_wp2_with fail
                refine HFC.out.mono ?_
                rintro e w4 ⟨rfl, k4⟩
                have HN4 := Lib.hid ((HRN.out.kept k4).alloc (.cells #[.int .i64 (o : Int), .string x, .bool sy] 53))
                have hL := blk_new w4 (.cells #[.int .i64 (o : Int), .string x, .bool sy] 53)
                have HL5 := Lib.hid hL
                have cL := blk_cell HL5.out
                clear k4 HFC hc1 hc2 hc3 hL HRN
                go_wp2_with fail
                have hw := HLv.out.write o x (by omega) (by omega)
                rw [Int.toNat_natCast] at hw
                refine (write_dk HN4.out.rb.dk (by omega) o x hw).mono ?_
                rintro e w6 ⟨rfl, hd6, k6⟩
                have HN6 := Lib.hid (HN4.out.op hd6 k6)
                have HL6 := Lib.hid (k6.blk HL5.out (fun h => h.2 rfl))
                have cL := blk_cell HL6.out
                have HLv6 := Lib.hid (HLv.out.wrote o x)
                have hv6 : (splice vis o x.data.toList).length = k := (length_splice _ _ _ (by rw [data_length, hvis]; exact hfit)).trans hvis
                have HP6 := Lib.hid (show s.pend ++ [(o, x)] = pendOf f (i + 1) by rw [pendOf_succ, HF.out, HPD.out])
                have HNX := Lib.hid (numsB_succ kb i)
                have HWX := Lib.hid (wantOf_succ f kb torn last c i)
                have hnl := numsB_len kb i
                generalize hs6 : ({ s with vis := splice vis o x.data.toList, pend := s.pend ++ [(o, x)] } : DS) = s6 at HN6 HLv6
                have HP6 := Lib.hid (show s6.pend = pendOf f (i + 1) by rw [← hs6]; exact HP6.out)
                have HD := Lib.hid (show s6.dur = c by rw [← hs6]; exact HD.out)
                generalize splice vis o x.data.toList = vis6 at HLv6 hv6
                clear hd6 k6 HN4 HL5 hw hs6
                by_cases hjk : i < lenk
                · have hjl : i < kb.length := by rw [HKB.out.llen]; exact hjk
                  obtain ⟨b1, off1, rfl, hck⟩ := bp_at HKB.out HN6.out.rb.bel i hjl
                  have hgd : keepB kb i = kb[i] := by simp [keepB, List.getD, hjl]
                  by_cases hkv : kb[i] = true
                  · rw [hkv] at hck hgd
                    have HGD := Lib.hid hgd
                    clear hgd hkv
                    obtain ⟨i0, hi', hz0, hz1, hz2⟩ := info_parts info3
                    have hi := hi'
                    clear hi'
                    by_cases hz : numsB kb i = []
                    · have HZ := Lib.hid hz
                      clear hz
                      by_cases hil : (i : Int) = last
                      · subst hil
                        by_cases ht0 : 0 ≤ torn
                        · have hv0 := HN6.out.nil_ HZ.out
                          subst hv0
                          go_wp2_with (at_builtin; refine wpList_append_own_none rfl _ _ 37 rfl w.heap.size 3 i0 1 Try.underlying37 hi _ 1 [.int .i64 i] rfl (World.ownsRow_lit w6 #[.int .i64 i] 1 (by have := HN6.out.rb.bel.size; omega) (by decide) rfl) rfl ?_; have HN7 := Lib.hid (HN6.out.cons (i : Int) (v' := .slice (some ⟨w6.heap.size, 0, none⟩) 1 1) (w1 := w6.alloc (.cells #[.int .i64 i] 3)) (by rw [HZ.out]; exact World.ownsRow_lit w6 #[.int .i64 i] 1 (by have := HN6.out.rb.bel.size; omega) (by decide) rfl) ((Kept.refl _ w6).alloc _)); have HL7 := Lib.hid (blk_alloc HL6.out (.cells #[.int .i64 i] 3)); have cL7 := blk_cell HL7.out)
                          refine (cut_str _ x torn ht0 hxs).mono ?_
                          rintro e wx ⟨rfl, rfl⟩
                          go_wp2_with fail
                          refine (put_any _ bb k o _ (cutS x torn) HN7.out.rb.blk HN7.out.rb.clen (by omega) (by have := cutS_le' x torn; omega)).mono ?_
                          rintro e w8 ⟨rfl, h8, k8⟩
                          have HN8 := Lib.hid (HN7.out.put k8 h8 ((length_splice _ _ _ (by rw [data_length, HN7.out.rb.clen]; have := cutS_le' x torn; omega)).trans HN7.out.rb.clen))
                          clear h8 k8
                          go_wp2
                          go_roundw
                          case rel => exact ⟨i + 1, s6, vis6, by omega, by omega, by go_num, HLv6.out, hv6, HD.out, HP6.out, by rw [HNX.out, HWX.out, if_pos HGD.out, if_pos HGD.out, HF.out]; rw [tornW_a torn i x (by omega)]; exact HN8.out.norm⟩
                          case measure => simp [intOf]; omega
                        · have hv0 := HN6.out.nil_ HZ.out
                          subst hv0
                          go_wp2_with (at_builtin; refine wpList_append_own_none rfl _ _ 37 rfl w.heap.size 3 i0 1 Try.underlying37 hi _ 1 [.int .i64 i] rfl (World.ownsRow_lit w6 #[.int .i64 i] 1 (by have := HN6.out.rb.bel.size; omega) (by decide) rfl) rfl ?_; have HN7 := Lib.hid (HN6.out.cons (i : Int) (v' := .slice (some ⟨w6.heap.size, 0, none⟩) 1 1) (w1 := w6.alloc (.cells #[.int .i64 i] 3)) (by rw [HZ.out]; exact World.ownsRow_lit w6 #[.int .i64 i] 1 (by have := HN6.out.rb.bel.size; omega) (by decide) rfl) ((Kept.refl _ w6).alloc _)); have HL7 := Lib.hid (blk_alloc HL6.out (.cells #[.int .i64 i] 3)); have cL7 := blk_cell HL7.out)
                          refine (put_any _ bb k o _ x HN7.out.rb.blk HN7.out.rb.clen (by omega) (by have := hfit; omega)).mono ?_
                          rintro e w8 ⟨rfl, h8, k8⟩
                          have HN8 := Lib.hid (HN7.out.put k8 h8 ((length_splice _ _ _ (by rw [data_length, HN7.out.rb.clen]; have := hfit; omega)).trans HN7.out.rb.clen))
                          clear h8 k8
                          go_wp2
                          go_roundw
                          case rel => exact ⟨i + 1, s6, vis6, by omega, by omega, by go_num, HLv6.out, hv6, HD.out, HP6.out, by rw [HNX.out, HWX.out, if_pos HGD.out, if_pos HGD.out, HF.out]; rw [tornW_b torn i x (by omega)]; exact HN8.out.norm⟩
                          case measure => simp [intOf]; omega
                      · have hv0 := HN6.out.nil_ HZ.out
                        subst hv0
                        go_wp2_with (at_builtin; refine wpList_append_own_none rfl _ _ 37 rfl w.heap.size 3 i0 1 Try.underlying37 hi _ 1 [.int .i64 i] rfl (World.ownsRow_lit w6 #[.int .i64 i] 1 (by have := HN6.out.rb.bel.size; omega) (by decide) rfl) rfl ?_; have HN7 := Lib.hid (HN6.out.cons (i : Int) (v' := .slice (some ⟨w6.heap.size, 0, none⟩) 1 1) (w1 := w6.alloc (.cells #[.int .i64 i] 3)) (by rw [HZ.out]; exact World.ownsRow_lit w6 #[.int .i64 i] 1 (by have := HN6.out.rb.bel.size; omega) (by decide) rfl) ((Kept.refl _ w6).alloc _)); have HL7 := Lib.hid (blk_alloc HL6.out (.cells #[.int .i64 i] 3)); have cL7 := blk_cell HL7.out)
                        refine (put_any _ bb k o _ x HN7.out.rb.blk HN7.out.rb.clen (by omega) (by have := hfit; omega)).mono ?_
                        rintro e w8 ⟨rfl, h8, k8⟩
                        have HN8 := Lib.hid (HN7.out.put k8 h8 ((length_splice _ _ _ (by rw [data_length, HN7.out.rb.clen]; have := hfit; omega)).trans HN7.out.rb.clen))
                        clear h8 k8
                        go_wp2
                        go_roundw
                        case rel => exact ⟨i + 1, s6, vis6, by omega, by omega, by go_num, HLv6.out, hv6, HD.out, HP6.out, by rw [HNX.out, HWX.out, if_pos HGD.out, if_pos HGD.out, HF.out]; rw [tornW_c torn last i x hil]; exact HN8.out.norm⟩
                        case measure => simp [intOf]; omega
                    · have HZ := Lib.hid hz
                      clear hz
                      by_cases hil : (i : Int) = last
                      · subst hil
                        by_cases ht0 : 0 ≤ torn
                        · obtain ⟨gv, cv, hv0⟩ := HN6.out.some_ HZ.out
                          subst hv0
                          go_wp2_with (at_builtin; refine wpList_append_own _ rfl _ _ 37 rfl w.heap.size 3 i0 (.int .i64 0) 1 8 Try.underlying37 hi hz0 hz1 hz2 rfl (by decide) _ 1 [.int .i64 i] rfl (World.ownsRow_lit w6 #[.int .i64 i] 1 (by have := HN6.out.rb.bel.size; omega) (by decide) rfl) ⟨gv, 0, none⟩ (numsB kb i).length cv (ints (numsB kb i)) rfl (by simp [ints]) ((HN6.out.own.alloc _).cells rfl) (ints_one _) (by unfold maxLen; omega) (by omega) (by have := HN6.out.rb.bel.size; simp; omega) ?_; intro v' w7 hown' hgrow _; have HN7 := Lib.hid (HN6.out.cons (i : Int) hown' (cons_kept hgrow)); have HL7 := Lib.hid ((cons_kept hgrow).blk HL6.out (fun h => h)); have cL7 := blk_cell HL7.out)
                          refine (cut_str _ x torn ht0 hxs).mono ?_
                          rintro e wx ⟨rfl, rfl⟩
                          go_wp2_with fail
                          refine (put_any _ bb k o _ (cutS x torn) HN7.out.rb.blk HN7.out.rb.clen (by omega) (by have := cutS_le' x torn; omega)).mono ?_
                          rintro e w8 ⟨rfl, h8, k8⟩
                          have HN8 := Lib.hid (HN7.out.put k8 h8 ((length_splice _ _ _ (by rw [data_length, HN7.out.rb.clen]; have := cutS_le' x torn; omega)).trans HN7.out.rb.clen))
                          clear h8 k8
                          go_wp2
                          go_roundw
                          case rel => exact ⟨i + 1, s6, vis6, by omega, by omega, by go_num, HLv6.out, hv6, HD.out, HP6.out, by rw [HNX.out, HWX.out, if_pos HGD.out, if_pos HGD.out, HF.out]; rw [tornW_a torn i x (by omega)]; exact HN8.out.norm⟩
                          case measure => simp [intOf]; omega
                        · obtain ⟨gv, cv, hv0⟩ := HN6.out.some_ HZ.out
                          subst hv0
                          go_wp2_with (at_builtin; refine wpList_append_own _ rfl _ _ 37 rfl w.heap.size 3 i0 (.int .i64 0) 1 8 Try.underlying37 hi hz0 hz1 hz2 rfl (by decide) _ 1 [.int .i64 i] rfl (World.ownsRow_lit w6 #[.int .i64 i] 1 (by have := HN6.out.rb.bel.size; omega) (by decide) rfl) ⟨gv, 0, none⟩ (numsB kb i).length cv (ints (numsB kb i)) rfl (by simp [ints]) ((HN6.out.own.alloc _).cells rfl) (ints_one _) (by unfold maxLen; omega) (by omega) (by have := HN6.out.rb.bel.size; simp; omega) ?_; intro v' w7 hown' hgrow _; have HN7 := Lib.hid (HN6.out.cons (i : Int) hown' (cons_kept hgrow)); have HL7 := Lib.hid ((cons_kept hgrow).blk HL6.out (fun h => h)); have cL7 := blk_cell HL7.out)
                          refine (put_any _ bb k o _ x HN7.out.rb.blk HN7.out.rb.clen (by omega) (by have := hfit; omega)).mono ?_
                          rintro e w8 ⟨rfl, h8, k8⟩
                          have HN8 := Lib.hid (HN7.out.put k8 h8 ((length_splice _ _ _ (by rw [data_length, HN7.out.rb.clen]; have := hfit; omega)).trans HN7.out.rb.clen))
                          clear h8 k8
                          go_wp2
                          go_roundw
                          case rel => exact ⟨i + 1, s6, vis6, by omega, by omega, by go_num, HLv6.out, hv6, HD.out, HP6.out, by rw [HNX.out, HWX.out, if_pos HGD.out, if_pos HGD.out, HF.out]; rw [tornW_b torn i x (by omega)]; exact HN8.out.norm⟩
                          case measure => simp [intOf]; omega
                      · obtain ⟨gv, cv, hv0⟩ := HN6.out.some_ HZ.out
                        subst hv0
                        go_wp2_with (at_builtin; refine wpList_append_own _ rfl _ _ 37 rfl w.heap.size 3 i0 (.int .i64 0) 1 8 Try.underlying37 hi hz0 hz1 hz2 rfl (by decide) _ 1 [.int .i64 i] rfl (World.ownsRow_lit w6 #[.int .i64 i] 1 (by have := HN6.out.rb.bel.size; omega) (by decide) rfl) ⟨gv, 0, none⟩ (numsB kb i).length cv (ints (numsB kb i)) rfl (by simp [ints]) ((HN6.out.own.alloc _).cells rfl) (ints_one _) (by unfold maxLen; omega) (by omega) (by have := HN6.out.rb.bel.size; simp; omega) ?_; intro v' w7 hown' hgrow _; have HN7 := Lib.hid (HN6.out.cons (i : Int) hown' (cons_kept hgrow)); have HL7 := Lib.hid ((cons_kept hgrow).blk HL6.out (fun h => h)); have cL7 := blk_cell HL7.out)
                        refine (put_any _ bb k o _ x HN7.out.rb.blk HN7.out.rb.clen (by omega) (by have := hfit; omega)).mono ?_
                        rintro e w8 ⟨rfl, h8, k8⟩
                        have HN8 := Lib.hid (HN7.out.put k8 h8 ((length_splice _ _ _ (by rw [data_length, HN7.out.rb.clen]; have := hfit; omega)).trans HN7.out.rb.clen))
                        clear h8 k8
                        go_wp2
                        go_roundw
                        case rel => exact ⟨i + 1, s6, vis6, by omega, by omega, by go_num, HLv6.out, hv6, HD.out, HP6.out, by rw [HNX.out, HWX.out, if_pos HGD.out, if_pos HGD.out, HF.out]; rw [tornW_c torn last i x hil]; exact HN8.out.norm⟩
                        case measure => simp [intOf]; omega
                  · have hkf : kb[i] = false := by simpa using hkv
                    rw [hkf] at hck hgd
                    have HGN := Lib.hid (show ¬ keepB kb i = true by rw [hgd]; simp)
                    clear hgd hkv hkf
                    go_wp2
                    go_roundw
                    case rel => exact ⟨i + 1, s6, vis6, by omega, by omega, by go_num, HLv6.out, hv6, HD.out, HP6.out, by rw [HNX.out, HWX.out, if_neg HGN.out, if_neg HGN.out]; exact HN6.out.norm⟩
                    case measure => simp [intOf]; omega
                · have hgd : keepB kb i = false := by simp [keepB, List.getD, List.getElem?_eq_none (show kb.length ≤ i by rw [HKB.out.llen]; omega)]
                  have HGN := Lib.hid (show ¬ keepB kb i = true by rw [hgd]; simp)
                  clear hgd
                  go_wp2
                  go_roundw
                  case rel => exact ⟨i + 1, s6, vis6, by omega, by omega, by go_num, HLv6.out, hv6, HD.out, HP6.out, by rw [HNX.out, HWX.out, if_neg HGN.out, if_neg HGN.out]; exact HN6.out.norm⟩
                  case measure => simp [intOf]; omega
              · have hij : i = j := by have := HJ.out; omega
                have hcr := crash_want f kb torn c i s HD.out HPD.out
                rw [hij, HLA.out, ← hij] at hcr
                have hnl := numsB_len kb i
                obtain ⟨oa, oc, hv0, hin⟩ := own_ints HRN.out.own
                subst hv0
                have HCK := Lib.hid (crash_dk HRN.out.rb.dk oa oc (numsB kb i) (by omega) hin torn hcr)
                have hlw := (show Live ({ off := false, left := 0, dur := wantOf f kb torn last c i, vis := wantOf f kb torn last c i, pend := [] } : DS) k (wantOf f kb torn last c i) from ⟨rfl, rfl, hcl, rfl⟩).read hcl
                have HRD := Lib.hid hlw
                have HIJ := Lib.hid hij
                clear hcr hin hlw hij
                by_cases h3 : i < len
                · have h4 : ¬ i < 20 := fun h4 => hlt ⟨h3, h4⟩
                  clear hlt
                  go_wp2_with fail
                  refine HCK.out.mono ?_
                  rintro e w6 ⟨rfl, hd6, k6⟩
                  have HN6 := Lib.hid (HRN.out.op hd6 k6)
                  clear hd6 k6 HRN
                  go_wp2_with fail
                  refine (read_dk HN6.out.rb.dk 0 k HRD.out).mono ?_
                  rintro e wx ⟨rfl, rfl⟩
                  have hcv := conv_all HN6.out.rb.blk hcl
                  go_wp2
                  go_ret
                  exact ⟨rfl, HN6.out.rb.bel⟩
                · clear hlt
                  exact (show False by have := HIJ.out; omega).elim
          · clear hlt
            go_wp2_with fail
            generalize hff : (fun i => fitN (l.getD i default) k : Nat → Nat × ByteArray) = f
            have HFD := Lib.hid (show ∀ i, f i = fitN (l.getD i default) k by intro i; rw [← hff])
            clear hff
            have HN0 := Lib.hid (show NAt (CF w.heap.size bb (.slice none 0 0)) w g bb k (wantOf f kb torn last c 0) s0 (numsB kb 0) (.slice none 0 0) wr from
              ⟨HR5.out.mono (fun k h => ⟨h.1, h.2, fun e => by cases e⟩) (fun k h => ⟨h.1, h.2.1⟩), World.ownsRow_nil _ _ _ _, (fun k e => (by cases e)), fun _ => rfl⟩)
            go_loopw [17, 16] (fun t v wr => ∃ (i : Nat) (s : DS) (vis : List UInt8), i ≤ len ∧ i ≤ 20 ∧ t = .int .i64 i ∧ Live s k vis ∧ vis.length = k ∧ s.dur = c ∧ s.pend = pendOf f i ∧ NAt (CF w.heap.size bb v) w g bb k (wantOf f kb torn last c i) s (numsB kb i) v wr) (fun t _ _ => len - (intOf t).toNat)
            case atStart => exact ⟨0, _, _, Nat.zero_le _, by omega, rfl, HLS.out, hcn, HS0.out.1, HS0.out.2, HN0.out⟩
            case round =>
              rename_i wr
              obtain ⟨i, s, vis, hi, hi20, rfl, hlv, hvis, hdur, hpd, hR⟩ := hrel
              have HLv := Lib.hid hlv
              have HD := Lib.hid hdur
              have HPD := Lib.hid hpd
              have hfew : s.pend.length = i := by rw [hpd, pendOf_len]
              have HRN := Lib.hid hR
              have hcl := hR.rb.clen
              clear hlv hdur hpd hR
              by_cases hlt : i < len ∧ i < 20
              · obtain ⟨hlt, hlt20⟩ := hlt
                have hkl : i < l.length := by rw [HL.out.llen]; exact hlt
                obtain ⟨b0, off, rfl, hc1, hc2, hc3⟩ := wp_at HL.out HRN.out.rb.bel i hkl
                have hfit := fitN_le l[i] k hn1
                have hxo := (HL.out.ok l[i] (List.getElem_mem hkl))
                have hfc := fitn_any wr l[i] k hn1 (by omega) hxo
                have hF : f i = fitN l[i] k := by rw [HFD.out]; simp [List.getD, hkl]
                have hxs : (fitN l[i] k).2.size ≤ 9223372036854775807 := by omega
                generalize hfi : (fitN l[i] k) = fx at hfit hfc hF hxs
                obtain ⟨o, x⟩ := fx
                simp only at hfit hfc hxs
                generalize l[i].2.2 = sy at hfc hc3
                have HF := Lib.hid hF
                have HFC := Lib.hid hfc
                clear hfc hF hfi hxo
                go_wp2_with fail
                refine HFC.out.mono ?_
                rintro e w4 ⟨rfl, k4⟩
                have HN4 := Lib.hid ((HRN.out.kept k4).alloc (.cells #[.int .i64 (o : Int), .string x, .bool sy] 53))
                have hL := blk_new w4 (.cells #[.int .i64 (o : Int), .string x, .bool sy] 53)
                have HL5 := Lib.hid hL
                have cL := blk_cell HL5.out
                clear k4 HFC hc1 hc2 hc3 hL HRN
                go_wp2_with fail
                have hw := HLv.out.write o x (by omega) (by omega)
                rw [Int.toNat_natCast] at hw
                refine (write_dk HN4.out.rb.dk (by omega) o x hw).mono ?_
                rintro e w6 ⟨rfl, hd6, k6⟩
                have HN6 := Lib.hid (HN4.out.op hd6 k6)
                have HL6 := Lib.hid (k6.blk HL5.out (fun h => h.2 rfl))
                have cL := blk_cell HL6.out
                have HLv6 := Lib.hid (HLv.out.wrote o x)
                have hv6 : (splice vis o x.data.toList).length = k := (length_splice _ _ _ (by rw [data_length, hvis]; exact hfit)).trans hvis
                have HP6 := Lib.hid (show s.pend ++ [(o, x)] = pendOf f (i + 1) by rw [pendOf_succ, HF.out, HPD.out])
                have HNX := Lib.hid (numsB_succ kb i)
                have HWX := Lib.hid (wantOf_succ f kb torn last c i)
                have hnl := numsB_len kb i
                generalize hs6 : ({ s with vis := splice vis o x.data.toList, pend := s.pend ++ [(o, x)] } : DS) = s6 at HN6 HLv6
                have HP6 := Lib.hid (show s6.pend = pendOf f (i + 1) by rw [← hs6]; exact HP6.out)
                have HD := Lib.hid (show s6.dur = c by rw [← hs6]; exact HD.out)
                generalize splice vis o x.data.toList = vis6 at HLv6 hv6
                clear hd6 k6 HN4 HL5 hw hs6
                by_cases hjk : i < lenk
                · have hjl : i < kb.length := by rw [HKB.out.llen]; exact hjk
                  obtain ⟨b1, off1, rfl, hck⟩ := bp_at HKB.out HN6.out.rb.bel i hjl
                  have hgd : keepB kb i = kb[i] := by simp [keepB, List.getD, hjl]
                  by_cases hkv : kb[i] = true
                  · rw [hkv] at hck hgd
                    have HGD := Lib.hid hgd
                    clear hgd hkv
                    obtain ⟨i0, hi', hz0, hz1, hz2⟩ := info_parts info3
                    have hi := hi'
                    clear hi'
                    by_cases hz : numsB kb i = []
                    · have HZ := Lib.hid hz
                      clear hz
                      by_cases hil : (i : Int) = last
                      · subst hil
                        by_cases ht0 : 0 ≤ torn
                        · have hv0 := HN6.out.nil_ HZ.out
                          subst hv0
                          go_wp2_with (at_builtin; refine wpList_append_own_none rfl _ _ 37 rfl w.heap.size 3 i0 1 Try.underlying37 hi _ 1 [.int .i64 i] rfl (World.ownsRow_lit w6 #[.int .i64 i] 1 (by have := HN6.out.rb.bel.size; omega) (by decide) rfl) rfl ?_; have HN7 := Lib.hid (HN6.out.cons (i : Int) (v' := .slice (some ⟨w6.heap.size, 0, none⟩) 1 1) (w1 := w6.alloc (.cells #[.int .i64 i] 3)) (by rw [HZ.out]; exact World.ownsRow_lit w6 #[.int .i64 i] 1 (by have := HN6.out.rb.bel.size; omega) (by decide) rfl) ((Kept.refl _ w6).alloc _)); have HL7 := Lib.hid (blk_alloc HL6.out (.cells #[.int .i64 i] 3)); have cL7 := blk_cell HL7.out)
                          refine (cut_str _ x torn ht0 hxs).mono ?_
                          rintro e wx ⟨rfl, rfl⟩
                          go_wp2_with fail
                          refine (put_any _ bb k o _ (cutS x torn) HN7.out.rb.blk HN7.out.rb.clen (by omega) (by have := cutS_le' x torn; omega)).mono ?_
                          rintro e w8 ⟨rfl, h8, k8⟩
                          have HN8 := Lib.hid (HN7.out.put k8 h8 ((length_splice _ _ _ (by rw [data_length, HN7.out.rb.clen]; have := cutS_le' x torn; omega)).trans HN7.out.rb.clen))
                          clear h8 k8
                          go_wp2
                          go_roundw
                          case rel => exact ⟨i + 1, s6, vis6, by omega, by omega, by go_num, HLv6.out, hv6, HD.out, HP6.out, by rw [HNX.out, HWX.out, if_pos HGD.out, if_pos HGD.out, HF.out]; rw [tornW_a torn i x (by omega)]; exact HN8.out.norm⟩
                          case measure => simp [intOf]; omega
                        · have hv0 := HN6.out.nil_ HZ.out
                          subst hv0
                          go_wp2_with (at_builtin; refine wpList_append_own_none rfl _ _ 37 rfl w.heap.size 3 i0 1 Try.underlying37 hi _ 1 [.int .i64 i] rfl (World.ownsRow_lit w6 #[.int .i64 i] 1 (by have := HN6.out.rb.bel.size; omega) (by decide) rfl) rfl ?_; have HN7 := Lib.hid (HN6.out.cons (i : Int) (v' := .slice (some ⟨w6.heap.size, 0, none⟩) 1 1) (w1 := w6.alloc (.cells #[.int .i64 i] 3)) (by rw [HZ.out]; exact World.ownsRow_lit w6 #[.int .i64 i] 1 (by have := HN6.out.rb.bel.size; omega) (by decide) rfl) ((Kept.refl _ w6).alloc _)); have HL7 := Lib.hid (blk_alloc HL6.out (.cells #[.int .i64 i] 3)); have cL7 := blk_cell HL7.out)
                          refine (put_any _ bb k o _ x HN7.out.rb.blk HN7.out.rb.clen (by omega) (by have := hfit; omega)).mono ?_
                          rintro e w8 ⟨rfl, h8, k8⟩
                          have HN8 := Lib.hid (HN7.out.put k8 h8 ((length_splice _ _ _ (by rw [data_length, HN7.out.rb.clen]; have := hfit; omega)).trans HN7.out.rb.clen))
                          clear h8 k8
                          go_wp2
                          go_roundw
                          case rel => exact ⟨i + 1, s6, vis6, by omega, by omega, by go_num, HLv6.out, hv6, HD.out, HP6.out, by rw [HNX.out, HWX.out, if_pos HGD.out, if_pos HGD.out, HF.out]; rw [tornW_b torn i x (by omega)]; exact HN8.out.norm⟩
                          case measure => simp [intOf]; omega
                      · have hv0 := HN6.out.nil_ HZ.out
                        subst hv0
                        go_wp2_with (at_builtin; refine wpList_append_own_none rfl _ _ 37 rfl w.heap.size 3 i0 1 Try.underlying37 hi _ 1 [.int .i64 i] rfl (World.ownsRow_lit w6 #[.int .i64 i] 1 (by have := HN6.out.rb.bel.size; omega) (by decide) rfl) rfl ?_; have HN7 := Lib.hid (HN6.out.cons (i : Int) (v' := .slice (some ⟨w6.heap.size, 0, none⟩) 1 1) (w1 := w6.alloc (.cells #[.int .i64 i] 3)) (by rw [HZ.out]; exact World.ownsRow_lit w6 #[.int .i64 i] 1 (by have := HN6.out.rb.bel.size; omega) (by decide) rfl) ((Kept.refl _ w6).alloc _)); have HL7 := Lib.hid (blk_alloc HL6.out (.cells #[.int .i64 i] 3)); have cL7 := blk_cell HL7.out)
                        refine (put_any _ bb k o _ x HN7.out.rb.blk HN7.out.rb.clen (by omega) (by have := hfit; omega)).mono ?_
                        rintro e w8 ⟨rfl, h8, k8⟩
                        have HN8 := Lib.hid (HN7.out.put k8 h8 ((length_splice _ _ _ (by rw [data_length, HN7.out.rb.clen]; have := hfit; omega)).trans HN7.out.rb.clen))
                        clear h8 k8
                        go_wp2
                        go_roundw
                        case rel => exact ⟨i + 1, s6, vis6, by omega, by omega, by go_num, HLv6.out, hv6, HD.out, HP6.out, by rw [HNX.out, HWX.out, if_pos HGD.out, if_pos HGD.out, HF.out]; rw [tornW_c torn last i x hil]; exact HN8.out.norm⟩
                        case measure => simp [intOf]; omega
                    · have HZ := Lib.hid hz
                      clear hz
                      by_cases hil : (i : Int) = last
                      · subst hil
                        by_cases ht0 : 0 ≤ torn
                        · obtain ⟨gv, cv, hv0⟩ := HN6.out.some_ HZ.out
                          subst hv0
                          go_wp2_with (at_builtin; refine wpList_append_own _ rfl _ _ 37 rfl w.heap.size 3 i0 (.int .i64 0) 1 8 Try.underlying37 hi hz0 hz1 hz2 rfl (by decide) _ 1 [.int .i64 i] rfl (World.ownsRow_lit w6 #[.int .i64 i] 1 (by have := HN6.out.rb.bel.size; omega) (by decide) rfl) ⟨gv, 0, none⟩ (numsB kb i).length cv (ints (numsB kb i)) rfl (by simp [ints]) ((HN6.out.own.alloc _).cells rfl) (ints_one _) (by unfold maxLen; omega) (by omega) (by have := HN6.out.rb.bel.size; simp; omega) ?_; intro v' w7 hown' hgrow _; have HN7 := Lib.hid (HN6.out.cons (i : Int) hown' (cons_kept hgrow)); have HL7 := Lib.hid ((cons_kept hgrow).blk HL6.out (fun h => h)); have cL7 := blk_cell HL7.out)
                          refine (cut_str _ x torn ht0 hxs).mono ?_
                          rintro e wx ⟨rfl, rfl⟩
                          go_wp2_with fail
                          refine (put_any _ bb k o _ (cutS x torn) HN7.out.rb.blk HN7.out.rb.clen (by omega) (by have := cutS_le' x torn; omega)).mono ?_
                          rintro e w8 ⟨rfl, h8, k8⟩
                          have HN8 := Lib.hid (HN7.out.put k8 h8 ((length_splice _ _ _ (by rw [data_length, HN7.out.rb.clen]; have := cutS_le' x torn; omega)).trans HN7.out.rb.clen))
                          clear h8 k8
                          go_wp2
                          go_roundw
                          case rel => exact ⟨i + 1, s6, vis6, by omega, by omega, by go_num, HLv6.out, hv6, HD.out, HP6.out, by rw [HNX.out, HWX.out, if_pos HGD.out, if_pos HGD.out, HF.out]; rw [tornW_a torn i x (by omega)]; exact HN8.out.norm⟩
                          case measure => simp [intOf]; omega
                        · obtain ⟨gv, cv, hv0⟩ := HN6.out.some_ HZ.out
                          subst hv0
                          go_wp2_with (at_builtin; refine wpList_append_own _ rfl _ _ 37 rfl w.heap.size 3 i0 (.int .i64 0) 1 8 Try.underlying37 hi hz0 hz1 hz2 rfl (by decide) _ 1 [.int .i64 i] rfl (World.ownsRow_lit w6 #[.int .i64 i] 1 (by have := HN6.out.rb.bel.size; omega) (by decide) rfl) ⟨gv, 0, none⟩ (numsB kb i).length cv (ints (numsB kb i)) rfl (by simp [ints]) ((HN6.out.own.alloc _).cells rfl) (ints_one _) (by unfold maxLen; omega) (by omega) (by have := HN6.out.rb.bel.size; simp; omega) ?_; intro v' w7 hown' hgrow _; have HN7 := Lib.hid (HN6.out.cons (i : Int) hown' (cons_kept hgrow)); have HL7 := Lib.hid ((cons_kept hgrow).blk HL6.out (fun h => h)); have cL7 := blk_cell HL7.out)
                          refine (put_any _ bb k o _ x HN7.out.rb.blk HN7.out.rb.clen (by omega) (by have := hfit; omega)).mono ?_
                          rintro e w8 ⟨rfl, h8, k8⟩
                          have HN8 := Lib.hid (HN7.out.put k8 h8 ((length_splice _ _ _ (by rw [data_length, HN7.out.rb.clen]; have := hfit; omega)).trans HN7.out.rb.clen))
                          clear h8 k8
                          go_wp2
                          go_roundw
                          case rel => exact ⟨i + 1, s6, vis6, by omega, by omega, by go_num, HLv6.out, hv6, HD.out, HP6.out, by rw [HNX.out, HWX.out, if_pos HGD.out, if_pos HGD.out, HF.out]; rw [tornW_b torn i x (by omega)]; exact HN8.out.norm⟩
                          case measure => simp [intOf]; omega
                      · obtain ⟨gv, cv, hv0⟩ := HN6.out.some_ HZ.out
                        subst hv0
                        go_wp2_with (at_builtin; refine wpList_append_own _ rfl _ _ 37 rfl w.heap.size 3 i0 (.int .i64 0) 1 8 Try.underlying37 hi hz0 hz1 hz2 rfl (by decide) _ 1 [.int .i64 i] rfl (World.ownsRow_lit w6 #[.int .i64 i] 1 (by have := HN6.out.rb.bel.size; omega) (by decide) rfl) ⟨gv, 0, none⟩ (numsB kb i).length cv (ints (numsB kb i)) rfl (by simp [ints]) ((HN6.out.own.alloc _).cells rfl) (ints_one _) (by unfold maxLen; omega) (by omega) (by have := HN6.out.rb.bel.size; simp; omega) ?_; intro v' w7 hown' hgrow _; have HN7 := Lib.hid (HN6.out.cons (i : Int) hown' (cons_kept hgrow)); have HL7 := Lib.hid ((cons_kept hgrow).blk HL6.out (fun h => h)); have cL7 := blk_cell HL7.out)
                        refine (put_any _ bb k o _ x HN7.out.rb.blk HN7.out.rb.clen (by omega) (by have := hfit; omega)).mono ?_
                        rintro e w8 ⟨rfl, h8, k8⟩
                        have HN8 := Lib.hid (HN7.out.put k8 h8 ((length_splice _ _ _ (by rw [data_length, HN7.out.rb.clen]; have := hfit; omega)).trans HN7.out.rb.clen))
                        clear h8 k8
                        go_wp2
                        go_roundw
                        case rel => exact ⟨i + 1, s6, vis6, by omega, by omega, by go_num, HLv6.out, hv6, HD.out, HP6.out, by rw [HNX.out, HWX.out, if_pos HGD.out, if_pos HGD.out, HF.out]; rw [tornW_c torn last i x hil]; exact HN8.out.norm⟩
                        case measure => simp [intOf]; omega
                  · have hkf : kb[i] = false := by simpa using hkv
                    rw [hkf] at hck hgd
                    have HGN := Lib.hid (show ¬ keepB kb i = true by rw [hgd]; simp)
                    clear hgd hkv hkf
                    go_wp2
                    go_roundw
                    case rel => exact ⟨i + 1, s6, vis6, by omega, by omega, by go_num, HLv6.out, hv6, HD.out, HP6.out, by rw [HNX.out, HWX.out, if_neg HGN.out, if_neg HGN.out]; exact HN6.out.norm⟩
                    case measure => simp [intOf]; omega
                · have hgd : keepB kb i = false := by simp [keepB, List.getD, List.getElem?_eq_none (show kb.length ≤ i by rw [HKB.out.llen]; omega)]
                  have HGN := Lib.hid (show ¬ keepB kb i = true by rw [hgd]; simp)
                  clear hgd
                  go_wp2
                  go_roundw
                  case rel => exact ⟨i + 1, s6, vis6, by omega, by omega, by go_num, HLv6.out, hv6, HD.out, HP6.out, by rw [HNX.out, HWX.out, if_neg HGN.out, if_neg HGN.out]; exact HN6.out.norm⟩
                  case measure => simp [intOf]; omega
              · have hij : i = j := by have := HJ.out; omega
                have hcr := crash_want f kb torn c i s HD.out HPD.out
                rw [hij, HLA.out, ← hij] at hcr
                have hnl := numsB_len kb i
                obtain ⟨oa, oc, hv0, hin⟩ := own_ints HRN.out.own
                subst hv0
                have HCK := Lib.hid (crash_dk HRN.out.rb.dk oa oc (numsB kb i) (by omega) hin torn hcr)
                have hlw := (show Live ({ off := false, left := 0, dur := wantOf f kb torn last c i, vis := wantOf f kb torn last c i, pend := [] } : DS) k (wantOf f kb torn last c i) from ⟨rfl, rfl, hcl, rfl⟩).read hcl
                have HRD := Lib.hid hlw
                have HIJ := Lib.hid hij
                clear hcr hin hlw hij
                by_cases h3 : i < len
                · have h4 : ¬ i < 20 := fun h4 => hlt ⟨h3, h4⟩
                  clear hlt
                  exact (show False by have := HIJ.out; omega).elim
                · clear hlt
                  go_wp2_with fail
                  refine HCK.out.mono ?_
                  rintro e w6 ⟨rfl, hd6, k6⟩
                  have HN6 := Lib.hid (HRN.out.op hd6 k6)
                  clear hd6 k6 HRN
                  go_wp2_with fail
                  refine (read_dk HN6.out.rb.dk 0 k HRD.out).mono ?_
                  rintro e wx ⟨rfl, rfl⟩
                  have hcv := conv_all HN6.out.rb.blk hcl
                  go_wp2
                  go_ret
                  exact ⟨rfl, HN6.out.rb.bel⟩
end Go.Proofs.Ytlocickppgddmaa
