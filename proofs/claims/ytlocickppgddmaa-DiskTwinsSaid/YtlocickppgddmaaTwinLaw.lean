import Derived.Test.YtlocickppgddmaaTwin0
import Derived.Deep.RegionHeld3
namespace Go.Proofs.Ytlocickppgddmaa
open Go.RowKit

theorem s_of {w : World} {L : Nat} {a b c : Value} (h : ∀ i, w.cell? ⟨L, i, none⟩ = (#[a, b, c] : Array Value)[i]?) : w.cell? ⟨L, 0, none⟩ = some a ∧ w.cell? ⟨L, 1, none⟩ = some b ∧ w.cell? ⟨L, 2, none⟩ = some c :=
  ⟨h 0, h 1, h 2⟩
set_option maxHeartbeats 8000000 in
set_option maxRecDepth 100000 in
theorem twin_law (w : World) (size : Int) (hs1 : -9223372036854775808 ≤ size) (hs2 : size ≤ 9223372036854775807) (a : Option Addr) (len cap : Nat) (l : List (Int × ByteArray × Bool)) (hl : WPs w a len cap l) : Calls Try.prog 11 #[.int .i64 size, .slice a len cap] w (LawPost w) := by
  have hp := pickI_range size 100 (by omega)
  obtain ⟨n, hn⟩ := Int.eq_ofNat_of_zero_le (show 0 ≤ 1 + pickI size 100 by omega)
  have HN := Lib.hid hn
  have hn1 : 1 ≤ n := by omega
  have hn3 : n ≤ 100 := by omega
  have hbig := hl.big
  have HL := Lib.hid hl
  clear hn hl
  go_enter Try.func11, Try.ntmps11
  go_wp2_with fail
  refine (sane_any _).mono ?_
  rintro e w1 ⟨rfl, hb1⟩
  go_wp2_with fail
  refine (pick_any _ size 100 hs1 hs2 (by omega) (by omega)).mono ?_
  rintro e w1' ⟨rfl, rfl⟩
  go_wp2_with fail
  rw [HN.out]
  refine (new_dk (F := fun k => w1.heap.size ≤ k) w1 n hn1 (by omega) (fun _ h => h)).mono ?_
  rintro e w2 ⟨g1, rfl, hd1, k1⟩
  have HD1 := Lib.hid hd1
  have K1 := Lib.hid k1
  have HB1 := Lib.hid hb1
  clear hd1 k1 hb1
  go_wp2_with fail
  refine (new_dk (F := fun k => w2.heap.size ≤ k) w2 n hn1 (by omega) (fun _ h => h)).mono ?_
  rintro e w3 ⟨g2, rfl, hd2, k2⟩
  have HD2 := Lib.hid hd2
  have K2 := Lib.hid k2
  clear hd2 k2
  go_wp2_with fail
  refine (new_dk (F := fun k => w3.heap.size ≤ k) w3 n hn1 (by omega) (fun _ h => h)).mono ?_
  rintro e w4 ⟨g3, rfl, hd3, k3⟩
  have HT0 := Lib.hid (t3_new HB1.out HD1.out K1.out HD2.out K2.out hd3 k3)
  clear hd3 k3 HB1 HD1 K1 HD2 K2 hp
  go_wp2_with fail
  go_loopw [12] (fun t wr => ∃ (k : Nat) (c c2 : List UInt8) (s s2 : DS), k ≤ len ∧ k ≤ 30 ∧ t = .int .i64 k ∧ s.pend.length ≤ k ∧ s2.pend.length ≤ k ∧ c.length = n ∧ c2.length = n ∧ Live s n c ∧ Live s2 n c2 ∧ T3 (fun _ => False) w g1 g2 g3 s s2 s wr) (fun t _ => len - (intOf t).toNat)
  case atStart => exact ⟨0, _, _, _, _, Nat.zero_le _, by omega, rfl, by simp [New0], by simp [New0], by simp, by simp, live_new n, live_new n, HT0.out⟩
  case round =>
    obtain ⟨k, c, c2, s, s2, hk, hk60, rfl, hfew, hfew2, hcn, hcn2, hlive, hlive2, hR⟩ := hrel
    have HR := Lib.hid hR
    have HLv := Lib.hid hlive
    have HLv2 := Lib.hid hlive2
    clear hR hlive hlive2
    by_cases hlt : k < len ∧ k < 30
    · obtain ⟨hlt, hlt60⟩ := hlt
      have hkl : k < l.length := by rw [HL.out.llen]; exact hlt
      obtain ⟨b0, off, rfl, hc1, hc2, hc3⟩ := wp_at HL.out HR.out.bel k hkl
      have hfit := fitN_le l[k] n hn1
      have hfc := fitn_any wr l[k] n hn1 (by omega) (HL.out.ok l[k] (List.getElem_mem hkl))
      generalize (fitN l[k] n).1 = o at hfit hfc
      generalize (fitN l[k] n).2 = x at hfit hfc
      generalize l[k].2.2 = sy at hfc hc3
      have HFC := Lib.hid hfc
      clear hfc
      go_wp2_with fail
      refine HFC.out.mono ?_
      rintro e w4 ⟨rfl, k4⟩
      have HR4 := Lib.hid ((HR.out.kept k4).alloc (.cells #[.int .i64 (o : Int), .string x, .bool sy] 53))
      have hL := blk_new w4 (.cells #[.int .i64 (o : Int), .string x, .bool sy] 53)
      have HL5 := Lib.hid hL
      have cL := blk_cell HL5.out
      have hcl : (splice c o x.data.toList).length = n := (length_splice _ _ _ (by rw [data_length, hcn]; exact hfit)).trans hcn
      have hcl2 : (splice c2 o x.data.toList).length = n := (length_splice _ _ _ (by rw [data_length, hcn2]; exact hfit)).trans hcn2
      have hw := HLv.out.write o x (by omega) (by omega)
      have hw2 := HLv2.out.write o x (by omega) (by omega)
      rw [Int.toNat_natCast] at hw hw2
      have HW := Lib.hid hw
      have HW2 := Lib.hid hw2
      clear k4 HFC hc1 hc2 hc3 hL HR hw hw2
      by_cases hodd : k % 2 = 1
      · have hod : (k : Int) % 2 = 1 := by omega
        clear hodd
        go_wp2_with fail
        generalize hW5 : w4.alloc (.cells #[.int .i64 (o : Int), .string x, .bool sy] 53) = W5 at HR4 HL5 cL ⊢
        generalize w4.heap.size = L at HR4 HL5 cL ⊢
        clear hW5
        refine (HR4.out.rot.write (by omega) o x HW2.out).mono ?_
        rintro e w6 ⟨rfl, h6, k6⟩
        have HR6 := Lib.hid h6
        have HL6 := Lib.hid (k6.blk HL5.out (fun h => h rfl))
        have cL := blk_cell HL6.out
        have HLv6 := Lib.hid (HLv2.out.wrote o x)
        clear h6 k6 HL5 HR4 hfit
        cases sy with
        | false =>
          by_cases h7 : (o : Int) % 7 = 3
          · go_wp2_with fail
            refine (HR6.out.crash 1 (DS.crash_none _ 1)).mono ?_
            rintro e w8 ⟨rfl, h8, k8⟩
            have HR8 := Lib.hid h8
            clear h8 k8 cL h7
            go_wp2
            go_roundw
            case rel => exact ⟨k + 1, c, s2.dur, s, { off := false, left := 0, dur := s2.dur, vis := s2.dur, pend := [] }, by omega, by omega, by go_num, by omega, by simp, hcn, HLv2.out.dur, HLv.out, ⟨rfl, rfl, HLv2.out.dur, rfl⟩, HR8.out.rot.rot.drop⟩
            case measure => simp [intOf]; omega
          · go_wp2
            clear h7
            go_roundw
            case rel => exact ⟨k + 1, c, splice c2 o x.data.toList, s, { s2 with vis := splice c2 o x.data.toList, pend := s2.pend ++ [(o, x)] }, by omega, by omega, by go_num, by omega, by simp; omega, hcn, hcl2, HLv.out, HLv6.out, HR6.out.rot.rot.drop⟩
            case measure => simp [intOf]; omega
        | true =>
          go_wp2_with fail
          refine (HR6.out.sync HLv6.out.sync).mono ?_
          rintro e w7 ⟨rfl, h7', k7⟩
          have HR7 := Lib.hid h7'
          have HL7 := Lib.hid (k7.blk HL6.out (fun h => h rfl))
          have cL := blk_cell HL7.out
          have HLv7 := Lib.hid (HLv6.out.synced hcl2)
          clear h7' k7
          by_cases h7 : (o : Int) % 7 = 3
          · go_wp2_with fail
            refine (HR7.out.crash 1 (DS.crash_none _ 1)).mono ?_
            rintro e w8 ⟨rfl, h8, k8⟩
            have HR8 := Lib.hid h8
            clear h8 k8 cL h7
            go_wp2
            go_roundw
            case rel => exact ⟨k + 1, c, splice c2 o x.data.toList, s, { off := false, left := 0, dur := splice c2 o x.data.toList, vis := splice c2 o x.data.toList, pend := [] }, by omega, by omega, by go_num, by omega, by simp, hcn, hcl2, HLv.out, ⟨rfl, rfl, hcl2, rfl⟩, HR8.out.rot.rot.drop⟩
            case measure => simp [intOf]; omega
          · go_wp2
            clear h7
            go_roundw
            case rel => exact ⟨k + 1, c, splice c2 o x.data.toList, s, { s2 with dur := splice c2 o x.data.toList, vis := splice c2 o x.data.toList, pend := [] }, by omega, by omega, by go_num, by omega, by simp, hcn, hcl2, HLv.out, HLv7.out, HR7.out.rot.rot.drop⟩
            case measure => simp [intOf]; omega
      · have hod : ¬ (k : Int) % 2 = 1 := by omega
        clear hodd
        go_wp2_with fail
        generalize hW5 : w4.alloc (.cells #[.int .i64 (o : Int), .string x, .bool sy] 53) = W5 at HR4 HL5 cL ⊢
        generalize w4.heap.size = L at HR4 HL5 cL ⊢
        clear hW5
        have HR5 := Lib.hid (HR4.out.kept ((show Drw W5 W5.drew from ⟨rfl, rfl, rfl, rfl⟩).kept _))
        have HL5' := Lib.hid (show W5.drew.heap[L]? = some (.cells #[.int .i64 (o : Int), .string x, .bool sy] 53) from HL5.out)
        have HLv6 := Lib.hid (HLv.out.wrote o x)
        clear HR4 hfit
        cases sy with
        | false =>
          have hS5 : W5.drew.cell? ⟨L, 0, none⟩ = some (.int .i64 (o : Int)) ∧ W5.drew.cell? ⟨L, 1, none⟩ = some (.string x) ∧ W5.drew.cell? ⟨L, 2, none⟩ = some (.bool false) := by
            have := blk_cell HL5'.out; refine ⟨?_, ?_, ?_⟩ <;> rw [this] <;> rfl
          refine wp_region_held_drew (S := (fun w' => w'.cell? ⟨L, 0, none⟩ = some (.int .i64 (o : Int)) ∧ w'.cell? ⟨L, 1, none⟩ = some (.string x) ∧ w'.cell? ⟨L, 2, none⟩ = some (.bool false))) (by kernel_rfl) hS5 (fun hHeld => ?_)
          refine wpAnyH_take (i := 0) (v := ?_) rfl (by kernel_rfl) (by kernel_rfl) (by kernel_rfl) (fun _ _ _ h => h) (Or.inl ⟨rfl, ?_⟩) hHeld ?_
          rotate_left
          · (intro w hSw; obtain ⟨q0, q1, q2⟩ := hSw; go_simp; try with_reducible rfl)
          simp only [Act.put, List.getElem_toArray, List.getElem_cons_succ, List.getElem_cons_zero, List.setIfInBounds_toArray, List.set_cons_zero, List.set_cons_succ]
          refine wpAnyH_take (i := 1) (v := ?_) rfl (by kernel_rfl) (by kernel_rfl) (by kernel_rfl) (fun _ _ _ h => h) (Or.inl ⟨rfl, ?_⟩) hHeld ?_
          rotate_left
          · (intro w hSw; obtain ⟨q0, q1, q2⟩ := hSw; go_simp; try with_reducible rfl)
          simp only [Act.put, List.getElem_toArray, List.getElem_cons_succ, List.getElem_cons_zero, List.setIfInBounds_toArray, List.set_cons_zero, List.set_cons_succ]
          refine wpAnyH_take (i := 2) (v := ?_) rfl (by kernel_rfl) (by kernel_rfl) (by kernel_rfl) (fun _ _ _ h => h) (Or.inl ⟨rfl, ?_⟩) hHeld ?_
          rotate_left
          · (intro w hSw; obtain ⟨q0, q1, q2⟩ := hSw; go_simp; try with_reducible rfl)
          simp only [Act.put, List.getElem_toArray, List.getElem_cons_succ, List.getElem_cons_zero, List.setIfInBounds_toArray, List.set_cons_zero, List.set_cons_succ]
          refine wpAnyH_take (i := 3) (v := ?_) rfl (by kernel_rfl) (by kernel_rfl) (by kernel_rfl) (fun _ _ _ h => h) (Or.inl ⟨rfl, ?_⟩) hHeld ?_
          rotate_left
          · (intro w hSw; obtain ⟨q0, q1, q2⟩ := hSw; go_simp; try with_reducible rfl)
          simp only [Act.put, List.getElem_toArray, List.getElem_cons_succ, List.getElem_cons_zero, List.setIfInBounds_toArray, List.set_cons_zero, List.set_cons_succ]
          refine wpAnyH_take (i := 4) (v := ?_) rfl (by kernel_rfl) (by kernel_rfl) (by kernel_rfl) (fun _ _ _ h => h) (Or.inl ⟨rfl, ?_⟩) hHeld ?_
          rotate_left
          · (intro w hSw; obtain ⟨q0, q1, q2⟩ := hSw; go_simp; try with_reducible rfl)
          simp only [Act.put, List.getElem_toArray, List.getElem_cons_succ, List.getElem_cons_zero, List.setIfInBounds_toArray, List.set_cons_zero, List.set_cons_succ]
          refine wpAnyH_take (i := 6) (v := ?_) rfl (by kernel_rfl) (by kernel_rfl) (by kernel_rfl) (fun _ _ _ h => h) (Or.inl ⟨rfl, ?_⟩) hHeld ?_
          rotate_left
          · (intro w hSw; obtain ⟨q0, q1, q2⟩ := hSw; go_simp; try with_reducible rfl)
          simp only [Act.put, List.getElem_toArray, List.getElem_cons_succ, List.getElem_cons_zero, List.setIfInBounds_toArray, List.set_cons_zero, List.set_cons_succ]
          refine wpAnyH_take (i := 7) (v := ?_) rfl (by kernel_rfl) (by kernel_rfl) (by kernel_rfl) (fun _ _ _ h => h) (Or.inl ⟨rfl, ?_⟩) hHeld ?_
          rotate_left
          · (intro w hSw; obtain ⟨q0, q1, q2⟩ := hSw; go_simp; try with_reducible rfl)
          simp only [Act.put, List.getElem_toArray, List.getElem_cons_succ, List.getElem_cons_zero, List.setIfInBounds_toArray, List.set_cons_zero, List.set_cons_succ]
          refine wpAnyH_take (i := 8) (v := ?_) rfl (by kernel_rfl) (by kernel_rfl) (by kernel_rfl) (fun _ _ _ h => h) (Or.inl ⟨rfl, ?_⟩) hHeld ?_
          rotate_left
          · (intro w hSw; obtain ⟨q0, q1, q2⟩ := hSw; go_simp; try with_reducible rfl)
          simp only [Act.put, List.getElem_toArray, List.getElem_cons_succ, List.getElem_cons_zero, List.setIfInBounds_toArray, List.set_cons_zero, List.set_cons_succ]
          refine wpAnyH_take (i := 9) (v := ?_) rfl (by kernel_rfl) (by kernel_rfl) (by kernel_rfl) (fun _ _ _ h => h) (Or.inl ⟨rfl, ?_⟩) hHeld ?_
          rotate_left
          · (intro w hSw; obtain ⟨q0, q1, q2⟩ := hSw; go_simp; try with_reducible rfl)
          simp only [Act.put, List.getElem_toArray, List.getElem_cons_succ, List.getElem_cons_zero, List.setIfInBounds_toArray, List.set_cons_zero, List.set_cons_succ]
          refine wpAnyH_take (i := 10) (v := ?_) rfl (by kernel_rfl) (by kernel_rfl) (by kernel_rfl) (fun _ _ _ h => h) (Or.inl ⟨rfl, ?_⟩) hHeld ?_
          rotate_left
          · (intro w hSw; obtain ⟨q0, q1, q2⟩ := hSw; go_simp; try with_reducible rfl)
          simp only [Act.put, List.getElem_toArray, List.getElem_cons_succ, List.getElem_cons_zero, List.setIfInBounds_toArray, List.set_cons_zero, List.set_cons_succ]
          refine wpAnyH_ready (rs := [5]) (by kernel_rfl) (by simp) ?_
          refine AllReadyH.cons (i := 5) rfl (fun K hK => ?_) AllReadyH.nil
          go_simp
          refine (HR5.out.write (by omega) o x HW.out).mono ?_
          rintro e w6 ⟨rfl, h6, k6⟩
          have HR6 := Lib.hid h6
          have HL6 := Lib.hid (k6.blk HL5'.out (fun h => h rfl))
          have hS6 := s_of (blk_cell HL6.out)
          clear h6 k6
          refine hK.out _ _ hS6 (fun hHeld => ?_)
          clear hK K
          refine wpAnyH_ready (rs := [11]) (by kernel_rfl) (by simp) ?_
          refine AllReadyH.cons (i := 11) rfl (fun K hK => ?_) AllReadyH.nil
          go_simp
          refine (HR6.out.rot.rot.write (by omega) o x HW.out).mono ?_
          rintro e w7 ⟨rfl, h7, k7⟩
          have HR7 := Lib.hid h7
          have HL7 := Lib.hid (k7.blk HL6.out (fun h => h rfl))
          have hS7 := s_of (blk_cell HL7.out)
          clear h7 k7
          refine hK.out _ _ hS7 (fun hHeld => ?_)
          clear hK K
          refine wpAnyH_take (i := 12) (v := ?_) rfl (by kernel_rfl) (by kernel_rfl) (by kernel_rfl) (fun _ _ _ h => h) (Or.inl ⟨rfl, ?_⟩) hHeld ?_
          rotate_left
          · (intro w hSw; obtain ⟨q0, q1, q2⟩ := hSw; go_simp; try with_reducible rfl)
          simp only [Act.put, List.getElem_toArray, List.getElem_cons_succ, List.getElem_cons_zero, List.setIfInBounds_toArray, List.set_cons_zero, List.set_cons_succ]
          refine wpAnyH_take (i := 13) (v := ?_) rfl (by kernel_rfl) (by kernel_rfl) (by kernel_rfl) (fun _ _ _ h => h) (Or.inl ⟨rfl, ?_⟩) hHeld ?_
          rotate_left
          · (intro w hSw; obtain ⟨q0, q1, q2⟩ := hSw; go_simp; try with_reducible rfl)
          simp only [Act.put, List.getElem_toArray, List.getElem_cons_succ, List.getElem_cons_zero, List.setIfInBounds_toArray, List.set_cons_zero, List.set_cons_succ]
          refine wpAnyH_take (i := 14) (v := ?_) rfl (by kernel_rfl) (by kernel_rfl) (by kernel_rfl) (fun _ _ _ h => h) (Or.inl ⟨rfl, ?_⟩) hHeld ?_
          rotate_left
          · (intro w hSw; obtain ⟨q0, q1, q2⟩ := hSw; go_simp; try with_reducible rfl)
          simp only [Act.put, List.getElem_toArray, List.getElem_cons_succ, List.getElem_cons_zero, List.setIfInBounds_toArray, List.set_cons_zero, List.set_cons_succ]
          refine wpAnyH_take (i := 15) (v := ?_) rfl (by kernel_rfl) (by kernel_rfl) (by kernel_rfl) (fun _ _ _ h => h) (Or.inl ⟨rfl, ?_⟩) hHeld ?_
          rotate_left
          · (intro w hSw; obtain ⟨q0, q1, q2⟩ := hSw; go_simp; try with_reducible rfl)
          simp only [Act.put, List.getElem_toArray, List.getElem_cons_succ, List.getElem_cons_zero, List.setIfInBounds_toArray, List.set_cons_zero, List.set_cons_succ]
          refine wpAnyH_take (i := 16) (v := ?_) rfl (by kernel_rfl) (by kernel_rfl) (by kernel_rfl) (fun _ _ _ h => h) (Or.inl ⟨rfl, ?_⟩) hHeld ?_
          rotate_left
          · (intro w hSw; obtain ⟨q0, q1, q2⟩ := hSw; go_simp; try with_reducible rfl)
          simp only [Act.put, List.getElem_toArray, List.getElem_cons_succ, List.getElem_cons_zero, List.setIfInBounds_toArray, List.set_cons_zero, List.set_cons_succ]
          refine wpAnyH_take (i := 17) (v := undef) rfl (by kernel_rfl) (by kernel_rfl) (by kernel_rfl) (fun _ _ _ h => h) (Or.inr ⟨rfl, rfl⟩) hHeld ?_
          simp only [Act.put, List.getElem_toArray, List.getElem_cons_succ, List.getElem_cons_zero, List.setIfInBounds_toArray, List.set_cons_zero, List.set_cons_succ]
          refine wpAnyH_take (i := 18) (v := undef) rfl (by kernel_rfl) (by kernel_rfl) (by kernel_rfl) (fun _ _ _ h => h) (Or.inr ⟨rfl, rfl⟩) hHeld ?_
          simp only [Act.put, List.getElem_toArray, List.getElem_cons_succ, List.getElem_cons_zero, List.setIfInBounds_toArray, List.set_cons_zero, List.set_cons_succ]
          refine wpAnyH_take (i := 19) (v := undef) rfl (by kernel_rfl) (by kernel_rfl) (by kernel_rfl) (fun _ _ _ h => h) (Or.inr ⟨rfl, rfl⟩) hHeld ?_
          simp only [Act.put, List.getElem_toArray, List.getElem_cons_succ, List.getElem_cons_zero, List.setIfInBounds_toArray, List.set_cons_zero, List.set_cons_succ]
          refine wpAnyH_take (i := 20) (v := undef) rfl (by kernel_rfl) (by kernel_rfl) (by kernel_rfl) (fun _ _ _ h => h) (Or.inr ⟨rfl, rfl⟩) hHeld ?_
          simp only [Act.put, List.getElem_toArray, List.getElem_cons_succ, List.getElem_cons_zero, List.setIfInBounds_toArray, List.set_cons_zero, List.set_cons_succ]
          refine wpAnyH_take (i := 21) (v := undef) rfl (by kernel_rfl) (by kernel_rfl) (by kernel_rfl) (fun _ _ _ h => h) (Or.inr ⟨rfl, rfl⟩) hHeld ?_
          simp only [Act.put, List.getElem_toArray, List.getElem_cons_succ, List.getElem_cons_zero, List.setIfInBounds_toArray, List.set_cons_zero, List.set_cons_succ]
          refine wpAnyH_take (i := 22) (v := ?_) rfl (by kernel_rfl) (by kernel_rfl) (by kernel_rfl) (fun _ _ _ h => h) (Or.inl ⟨rfl, ?_⟩) hHeld ?_
          rotate_left
          · (intro w hSw; obtain ⟨q0, q1, q2⟩ := hSw; go_simp; try with_reducible rfl)
          simp only [Act.put, List.getElem_toArray, List.getElem_cons_succ, List.getElem_cons_zero, List.setIfInBounds_toArray, List.set_cons_zero, List.set_cons_succ]
          refine wpAnyH_take (i := 23) (v := ?_) rfl (by kernel_rfl) (by kernel_rfl) (by kernel_rfl) (fun _ _ _ h => h) (Or.inl ⟨rfl, ?_⟩) hHeld ?_
          rotate_left
          · (intro w hSw; obtain ⟨q0, q1, q2⟩ := hSw; go_simp; try with_reducible rfl)
          simp only [Act.put, List.getElem_toArray, List.getElem_cons_succ, List.getElem_cons_zero, List.setIfInBounds_toArray, List.set_cons_zero, List.set_cons_succ]
          refine wpAnyH_done (by kernel_rfl) ?_ _
          go_wp2
          go_roundw
          case rel => exact ⟨k + 1, _, c2, _, s2, by omega, by omega, by go_num, by simp; omega, by omega, hcl, hcn2, HLv6.out, HLv2.out, HR7.out.rot.drop⟩
          case measure => simp [intOf]; omega
        | true =>
          have hS5 := s_of (blk_cell HL5'.out)
          go_region_held3 (fun w' => w'.cell? ⟨L, 0, none⟩ = some (.int .i64 (o : Int)) ∧ w'.cell? ⟨L, 1, none⟩ = some (.string x) ∧ w'.cell? ⟨L, 2, none⟩ = some (.bool true))
            (first | exact hS5 | exact hS6 | exact hS7 | exact hS8 | exact hS9)
            (first
              | (go_at_call_of 21 (Value.pointer (some ⟨g1, 0, none⟩)); refine (HR5.out.write (by omega) o x HW.out).mono ?_; rintro e w6 ⟨rfl, h6, k6⟩; have HR6 := Lib.hid h6; have HL6 := Lib.hid (k6.blk HL5'.out (fun h => h rfl)); have hS6 := s_of (blk_cell HL6.out); clear h6 k6)
              | (go_at_call_of 21 (Value.pointer (some ⟨g3, 0, none⟩)); refine (HR6.out.rot.rot.write (by omega) o x HW.out).mono ?_; rintro e w7 ⟨rfl, h7, k7⟩; have HR7 := Lib.hid h7; have HL7 := Lib.hid (k7.blk HL6.out (fun h => h rfl)); have hS7 := s_of (blk_cell HL7.out); clear h7 k7)
              | (go_at_call_of 23 (Value.pointer (some ⟨g1, 0, none⟩)); refine (HR7.out.rot.sync HLv6.out.sync).mono ?_; rintro e w8 ⟨rfl, h8, k8⟩; have HR8 := Lib.hid h8; have HL8 := Lib.hid (k8.blk HL7.out (fun h => h rfl)); have hS8 := s_of (blk_cell HL8.out); clear h8 k8)
              | (go_at_call_of 23 (Value.pointer (some ⟨g3, 0, none⟩)); refine (HR8.out.rot.rot.sync HLv6.out.sync).mono ?_; rintro e w9 ⟨rfl, h9, k9⟩; have HR9 := Lib.hid h9; have HL9 := Lib.hid (k9.blk HL8.out (fun h => h rfl)); have hS9 := s_of (blk_cell HL9.out); clear h9 k9))
          go_wp2
          go_roundw
          case rel => exact ⟨k + 1, _, c2, _, s2, by omega, by omega, by go_num, by simp, by omega, hcl, hcn2, (HLv6.out.synced hcl), HLv2.out, HR9.out.rot.drop⟩
          case measure => simp [intOf]; omega
    · have hrd := HLv.out.read hcn
      by_cases h1 : k < len
      · have h2 : ¬ k < 30 := fun h2 => hlt ⟨h1, h2⟩
        clear hlt
        go_wp2_with fail
        refine (HR.out.read 0 n hrd).mono ?_
        rintro e wx ⟨rfl, rfl⟩
        go_wp2_with fail
        refine (HR.out.rot.rot.read 0 n hrd).mono ?_
        rintro e wx ⟨rfl, rfl⟩
        go_wp2_with fail
        refine HR.out.pending.mono ?_
        rintro e wx ⟨rfl, rfl⟩
        go_wp2_with fail
        refine HR.out.rot.rot.pending.mono ?_
        rintro e wx ⟨rfl, rfl⟩
        have HB := Lib.hid HR.out.bel
        clear hrd
        go_wp2
        go_ret
        exact ⟨rfl, HB.out⟩
      · clear hlt
        go_wp2_with fail
        refine (HR.out.read 0 n hrd).mono ?_
        rintro e wx ⟨rfl, rfl⟩
        go_wp2_with fail
        refine (HR.out.rot.rot.read 0 n hrd).mono ?_
        rintro e wx ⟨rfl, rfl⟩
        go_wp2_with fail
        refine HR.out.pending.mono ?_
        rintro e wx ⟨rfl, rfl⟩
        go_wp2_with fail
        refine HR.out.rot.rot.pending.mono ?_
        rintro e wx ⟨rfl, rfl⟩
        have HB := Lib.hid HR.out.bel
        clear hrd
        go_wp2
        go_ret
        exact ⟨rfl, HB.out⟩
end Go.Proofs.Ytlocickppgddmaa
