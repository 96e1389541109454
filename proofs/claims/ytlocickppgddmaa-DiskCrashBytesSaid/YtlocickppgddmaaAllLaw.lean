import Derived.Test.YtlocickppgddmaaOrd
namespace Go.Proofs.Ytlocickppgddmaa
open Go.RowKit
variable {F : Nat → Prop}

/-- between two rounds: the disk alone -/
structure LAt (F : Nat → Prop) (w : World) (g : Nat) (s : DS) (wr : World) : Prop where
  dk : DK F wr g s
  fle : ∀ k, F k → w.heap.size ≤ k
  bel : Below w.heap.size w wr
theorem LAt.kept {w : World} {g : Nat} {s : DS} {wr w' : World} (h : LAt F w g s wr) (hk : Kept (fun _ => False) wr w') : LAt F w g s w' :=
  ⟨h.dk.kept hk (fun _ _ _ h => h), h.fle, h.bel.trans (hk.below h.bel.size (fun _ h => h.elim))⟩
theorem LAt.alloc {w : World} {g : Nat} {s : DS} {wr : World} (h : LAt F w g s wr) (o : Obj) : LAt (fun k => F k ∧ k ≠ wr.heap.size) w g s (wr.alloc o) :=
  ⟨h.dk.avoid o, fun k hk => h.fle k hk.1, h.bel.alloc h.bel.size o⟩
theorem LAt.op {w : World} {g : Nat} {s s' : DS} {wr w' : World} (h : LAt F w g s wr) (hd : DK F w' g s') (hk : Kept F wr w') : LAt F w g s' w' :=
  ⟨hd, h.fle, h.bel.trans (hk.below h.bel.size h.fle)⟩
theorem LAt.mono {G : Nat → Prop} {w : World} {g : Nat} {s : DS} {wr : World} (h : LAt F w g s wr) (h1 : ∀ k, F k → G k) (h2 : ∀ k, G k → w.heap.size ≤ k) : LAt G w g s wr :=
  ⟨h.dk.mono h1, h2, h.bel⟩

/-- the row of the first numbers -/
structure AllAt (n₀ : Nat) (w0 : World) (j : Nat) (v : Value) (wr : World) : Prop where
  own : wr.ownsRow n₀ 3 1 v j (ints (allI j))
  kept : Kept (fun k => n₀ ≤ k) w0 wr
  le : n₀ ≤ w0.heap.size
theorem own_ints {base n : Nat} {v : Value} {zs : List Int} {w : World} (h : w.ownsRow base 3 1 v n (ints zs)) : ∃ a c, v = .slice a zs.length c ∧ sv_Ints w.heap.size w (.slice a zs.length c) zs := by
  have hl : zs.length = n := by have := h.1; simp [ints] at this; omega
  subst hl
  have h' := h
  rcases h.2 with ⟨rfl, h0⟩ | ⟨g, cap, cur, rfl, _, hgg, h1, h2, _⟩
  · have : zs = [] := List.eq_nil_of_length_eq_zero h0
    subst this
    exact ⟨none, 0, rfl, .inl ⟨rfl, rfl⟩⟩
  · refine ⟨_, _, rfl, .inr ⟨g, 0, cap, rfl, (Array.getElem?_eq_some_iff.1 hgg).1, fun j hj => ?_⟩⟩
    rw [Nat.zero_add]
    exact own_cell h' j _ (by simp [ints, List.getElem?_eq_getElem hj])
theorem AllAt.snoc {n₀ j : Nat} {w0 wr w1 : World} {v v' : Value} {X : Obj} (h : AllAt n₀ w0 j v wr) (hown : w1.ownsRow n₀ 3 1 v' (j + 1) (Go.Proofs.Ytlocickppgddmaa.ints (allI j) ++ [.int .i64 j])) (hg : (wr.alloc X).grownBy w1 v.ownBlock) : AllAt n₀ w0 (j + 1) v' w1 where
  own := by rw [allI_succ]; simpa [Go.Proofs.Ytlocickppgddmaa.ints] using hown
  kept := h.kept.trans (((Kept.refl _ wr).alloc X).trans (Kept.of_grown hg (fun k e => .inl (h.own.lt k e).1)))
  le := h.le
theorem AllAt.ints {n₀ j : Nat} {w0 wr : World} {v : Value} (h : AllAt n₀ w0 j v wr) : ∃ a c, v = .slice a (allI j).length c ∧ sv_Ints wr.heap.size wr (.slice a (allI j).length c) (allI j) := own_ints h.own

set_option maxHeartbeats 4000000 in
set_option maxRecDepth 100000 in
theorem all_law (w : World) (size : Int) (hs1 : -9223372036854775808 ≤ size) (hs2 : size ≤ 9223372036854775807) (a : Option Addr) (len cap : Nat) (l : List (Int × ByteArray × Bool)) (hl : WPs w a len cap l) : Calls Try.prog 9 #[.int .i64 size, .slice a len cap] w (LawPost w) := by
  have hp := pickI_range size 300 (by omega)
  obtain ⟨n, hn⟩ := Int.eq_ofNat_of_zero_le (show 0 ≤ 1 + pickI size 300 by omega)
  have HN := Lib.hid hn
  have hn1 : 1 ≤ n := by omega
  have hn3 : n ≤ 300 := by omega
  have hbig := hl.big
  have HL := Lib.hid hl
  clear hn hl
  go_enter Try.func9, Try.ntmps9
  go_wp2_with fail
  refine (sane_any _).mono ?_
  rintro e w1 ⟨rfl, hb1⟩
  go_wp2_with fail
  refine (pick_any _ size 300 hs1 hs2 (by omega) (by omega)).mono ?_
  rintro e w1' ⟨rfl, rfl⟩
  go_wp2_with fail
  rw [HN.out]
  refine (new_dk (F := fun k => w1.heap.size ≤ k) w1 n hn1 (by omega) (fun _ h => h)).mono ?_
  rintro e w2 ⟨g, rfl, hd2, hb2⟩
  have hB2 := hb1.trans (hb2.below hb1.size (fun k h => Nat.le_trans hb1.size h))
  have hle1 := hb1.size
  clear hb1 hb2
  have hwb := hB2.size
  have HRB := Lib.hid (show LAt (fun k => w.heap.size ≤ k) w g (New0 n) w2 from ⟨hd2.mono (fun k h => Nat.le_trans hle1 h), fun _ h => h, hB2⟩)
  clear hd2 hB2
  go_wp2_with fail
  go_loopw [8] (fun t wr => ∃ (k : Nat) (c : List UInt8) (s : DS), k ≤ len ∧ k ≤ 60 ∧ t = .int .i64 k ∧ s.pend.length ≤ k ∧ c.length = n ∧ Live s n c ∧ c = laid s.dur s.pend ∧ LAt (fun k => w.heap.size ≤ k) w g s wr) (fun t _ => len - (intOf t).toNat)
  case atStart => exact ⟨0, _, _, Nat.zero_le _, by omega, rfl, by simp [New0], by simp, live_new n, rfl, HRB.out⟩
  case round =>
    obtain ⟨k, c, s, hk, hk60, rfl, hfew, hcn, hlive, hcl, hR⟩ := hrel
    have HR := Lib.hid hR
    have HLv := Lib.hid hlive
    have HCL := Lib.hid hcl
    clear hR hlive hcl
    by_cases hlt : k < len ∧ k < 60
    · obtain ⟨hlt, hlt60⟩ := hlt
      have hkl : k < l.length := by rw [HL.out.llen]; exact hlt
      obtain ⟨b0, off, rfl, hc1, hc2, hc3⟩ := wp_at HL.out HR.out.bel k hkl
      have hfit := fitN_le l[k] n hn1
      have hfc := fitn_any wr l[k] n hn1 (by omega) (HL.out.ok l[k] (List.getElem_mem hkl))
      generalize (fitN l[k] n).1 = o at hfit hfc
      generalize (fitN l[k] n).2 = x at hfit hfc
      generalize l[k].2.2 = sy at hfc hc3
      have HFC := Lib.hid hfc
      clear hfc
      go_wp2_with fail
      refine HFC.out.mono ?_
      rintro e w4 ⟨rfl, k4⟩
      have HR4 := Lib.hid ((HR.out.kept k4).alloc (.cells #[.int .i64 (o : Int), .string x, .bool sy] 53))
      have hL := blk_new w4 (.cells #[.int .i64 (o : Int), .string x, .bool sy] 53)
      have HL5 := Lib.hid hL
      clear k4 HFC hc1 hc2 hc3 hL HR
      have hcl : (splice c o x.data.toList).length = n := (length_splice _ _ _ (by rw [data_length, hcn]; exact hfit)).trans hcn
      have cL := blk_cell HL5.out
      go_wp2_with fail
      have hw := HLv.out.write o x (by omega) (by omega)
      rw [Int.toNat_natCast] at hw
      refine (write_dk HR4.out.dk (by omega) o x hw).mono ?_
      rintro e w6 ⟨rfl, hd6, k6⟩
      have hLF : ¬ ((w.heap.size ≤ w4.heap.size) ∧ w4.heap.size ≠ w4.heap.size) := fun h => h.2 rfl
      have HR6 := Lib.hid (HR4.out.op hd6 k6)
      have HLv6 := Lib.hid (HLv.out.wrote o x)
      have HL6 := Lib.hid (k6.blk HL5.out hLF)
      have cL := blk_cell HL6.out
      have HC6 := Lib.hid (show splice c o x.data.toList = laid s.dur (s.pend ++ [(o, x)]) by rw [laid_snoc, HCL.out])
      clear hd6 k6 HR4 HL5 hw
      cases sy with
      | false =>
        go_wp2
        go_roundw
        case rel => exact ⟨k + 1, splice c o x.data.toList, { s with vis := splice c o x.data.toList, pend := s.pend ++ [(o, x)] }, by omega, by omega, by go_num, by simp; omega, hcl, HLv6.out, HC6.out, HR6.out.mono (fun k h => h.1) (fun _ h => h)⟩
        case measure => simp [intOf]; omega
      | true =>
        go_wp2_with fail
        have hsy := HLv6.out.sync
        refine (sync_dk HR6.out.dk hsy).mono ?_
        rintro e w7 ⟨rfl, hd7, k7⟩
        have HR7 := Lib.hid (HR6.out.op hd7 k7)
        have HLv7 := Lib.hid (HLv6.out.synced hcl)
        clear hd7 k7 hsy cL
        go_wp2
        go_roundw
        case rel => exact ⟨k + 1, splice c o x.data.toList, { s with dur := splice c o x.data.toList, vis := splice c o x.data.toList, pend := [] }, by omega, by omega, by go_num, by simp, hcl, HLv7.out, rfl, HR7.out.mono (fun k h => h.1) (fun _ h => h)⟩
        case measure => simp [intOf]; omega
    · by_cases h1 : k < len
      · have h2 : ¬ k < 60 := fun h2 => hlt ⟨h1, h2⟩
        clear hlt
        go_wp2_with fail
        have hrd := HLv.out.read hcn
        refine (read_dk HR.out.dk 0 n hrd).mono ?_
        rintro e wx ⟨rfl, rfl⟩
        go_wp2_with fail
        obtain ⟨wr0, hwr0⟩ : ∃ x, x = wr := ⟨_, rfl⟩
        rw [← hwr0] at HR ⊢
        clear hwr0
        have HO := Lib.hid (show AllAt wr0.heap.size wr0 0 (.slice none 0 0) wr0 from ⟨World.ownsRow_nil _ _ _ _, Kept.refl _ _, by omega⟩)
        go_loopw [13, 12] (fun t u w7 => ∃ (j : Nat), j ≤ s.pend.length ∧ t = .int .i64 j ∧ AllAt wr0.heap.size wr0 j u w7) (fun t _ _ => s.pend.length - (intOf t).toNat)
        case atStart => exact ⟨0, Nat.zero_le _, rfl, HO.out⟩
        case round =>
          obtain ⟨j, hj, rfl, hA⟩ := hrel
          have hdk := HR.out.dk.kept hA.kept (fun k hk _ => by omega)
          have HA := Lib.hid hA
          have HDK := Lib.hid hdk
          clear hA hdk hrd
          go_wp2_with fail
          refine (pending_dk HDK.out).mono ?_
          rintro e wx ⟨rfl, rfl⟩
          by_cases hjl : j < s.pend.length
          · obtain ⟨i0, hi, hz0, hz1, hz2⟩ := info_parts info3
            go_wp2_with (at_builtin; refine wpList_append_own _ rfl _ _ 37 rfl wr0.heap.size 3 i0 (.int .i64 0) 1 8 Try.underlying37 hi hz0 hz1 hz2 rfl (by decide) _ j _ rfl (HA.out.own.alloc _) ⟨wr.heap.size, 0, none⟩ 1 1 [.int .i64 j] rfl rfl (cell_one_new _ _ _) (by simp [Value.oneCell']) (by unfold maxLen; omega) (by omega) (by have := HA.out.kept.size; have := HA.out.le; simp; omega) ?_; intro v' w1 hown' hgrow _; have HA' := Lib.hid (HA.out.snoc hown' hgrow))
            go_roundw
            case rel => exact ⟨j + 1, by omega, by go_num, HA'.out⟩
            case measure => simp [intOf]; omega
          · obtain rfl : j = s.pend.length := by omega
            clear hjl
            have hin := HA.out.ints
            obtain ⟨oa, oc, ho, hin⟩ := hin
            subst ho
            have HIN := Lib.hid hin
            clear hin
            go_wp2_with fail
            refine (crash_dk HDK.out oa oc (allI s.pend.length) (by rw [allI_length]; omega) HIN.out (-1) (s.crash_all (-1) (by omega))).mono ?_
            rintro e w8 ⟨rfl, hd8, k8⟩
            rw [← HCL.out] at hd8
            have hb8 := (HR.out.bel.trans (HA.out.kept.below HR.out.bel.size (fun k h => by have := HR.out.bel.size; omega))).trans (k8.below (by have := HR.out.bel.size; have := HA.out.kept.size; omega) (fun _ h => h))
            have HB8 := Lib.hid hb8
            clear hb8 k8 HA HIN HDK
            go_wp2_with fail
            have hrd := (show Live ({ off := false, left := 0, dur := c, vis := c, pend := [] } : DS) n c from ⟨rfl, rfl, hcn, rfl⟩).read hcn
            refine (read_dk hd8 0 n hrd).mono ?_
            rintro e wx ⟨rfl, rfl⟩
            go_wp2_with fail
            refine (crash_dk hd8 none 0 [] (by simp) (.inl ⟨rfl, rfl⟩) 0 (DS.crash_none _ 0)).mono ?_
            rintro e w9 ⟨rfl, hd9, k9⟩
            have HB9 := Lib.hid (HB8.out.trans (k9.below HB8.out.size (fun _ h => h)))
            clear hd8 k9 HB8
            go_wp2_with fail
            refine (read_dk hd9 0 n hrd).mono ?_
            rintro e wx ⟨rfl, rfl⟩
            clear hrd
            go_wp2
            go_ret
            exact ⟨rfl, HB9.out⟩
      · clear hlt
        go_wp2_with fail
        have hrd := HLv.out.read hcn
        refine (read_dk HR.out.dk 0 n hrd).mono ?_
        rintro e wx ⟨rfl, rfl⟩
        go_wp2_with fail
        obtain ⟨wr0, hwr0⟩ : ∃ x, x = wr := ⟨_, rfl⟩
        rw [← hwr0] at HR ⊢
        clear hwr0
        have HO := Lib.hid (show AllAt wr0.heap.size wr0 0 (.slice none 0 0) wr0 from ⟨World.ownsRow_nil _ _ _ _, Kept.refl _ _, by omega⟩)
        go_loopw [13, 12] (fun t u w7 => ∃ (j : Nat), j ≤ s.pend.length ∧ t = .int .i64 j ∧ AllAt wr0.heap.size wr0 j u w7) (fun t _ _ => s.pend.length - (intOf t).toNat)
        case atStart => exact ⟨0, Nat.zero_le _, rfl, HO.out⟩
        case round =>
          obtain ⟨j, hj, rfl, hA⟩ := hrel
          have hdk := HR.out.dk.kept hA.kept (fun k hk _ => by omega)
          have HA := Lib.hid hA
          have HDK := Lib.hid hdk
          clear hA hdk hrd
          go_wp2_with fail
          refine (pending_dk HDK.out).mono ?_
          rintro e wx ⟨rfl, rfl⟩
          by_cases hjl : j < s.pend.length
          · obtain ⟨i0, hi, hz0, hz1, hz2⟩ := info_parts info3
            go_wp2_with (at_builtin; refine wpList_append_own _ rfl _ _ 37 rfl wr0.heap.size 3 i0 (.int .i64 0) 1 8 Try.underlying37 hi hz0 hz1 hz2 rfl (by decide) _ j _ rfl (HA.out.own.alloc _) ⟨wr.heap.size, 0, none⟩ 1 1 [.int .i64 j] rfl rfl (cell_one_new _ _ _) (by simp [Value.oneCell']) (by unfold maxLen; omega) (by omega) (by have := HA.out.kept.size; have := HA.out.le; simp; omega) ?_; intro v' w1 hown' hgrow _; have HA' := Lib.hid (HA.out.snoc hown' hgrow))
            go_roundw
            case rel => exact ⟨j + 1, by omega, by go_num, HA'.out⟩
            case measure => simp [intOf]; omega
          · obtain rfl : j = s.pend.length := by omega
            clear hjl
            have hin := HA.out.ints
            obtain ⟨oa, oc, ho, hin⟩ := hin
            subst ho
            have HIN := Lib.hid hin
            clear hin
            go_wp2_with fail
            refine (crash_dk HDK.out oa oc (allI s.pend.length) (by rw [allI_length]; omega) HIN.out (-1) (s.crash_all (-1) (by omega))).mono ?_
            rintro e w8 ⟨rfl, hd8, k8⟩
            rw [← HCL.out] at hd8
            have hb8 := (HR.out.bel.trans (HA.out.kept.below HR.out.bel.size (fun k h => by have := HR.out.bel.size; omega))).trans (k8.below (by have := HR.out.bel.size; have := HA.out.kept.size; omega) (fun _ h => h))
            have HB8 := Lib.hid hb8
            clear hb8 k8 HA HIN HDK
            go_wp2_with fail
            have hrd := (show Live ({ off := false, left := 0, dur := c, vis := c, pend := [] } : DS) n c from ⟨rfl, rfl, hcn, rfl⟩).read hcn
            refine (read_dk hd8 0 n hrd).mono ?_
            rintro e wx ⟨rfl, rfl⟩
            go_wp2_with fail
            refine (crash_dk hd8 none 0 [] (by simp) (.inl ⟨rfl, rfl⟩) 0 (DS.crash_none _ 0)).mono ?_
            rintro e w9 ⟨rfl, hd9, k9⟩
            have HB9 := Lib.hid (HB8.out.trans (k9.below HB8.out.size (fun _ h => h)))
            clear hd8 k9 HB8
            go_wp2_with fail
            refine (read_dk hd9 0 n hrd).mono ?_
            rintro e wx ⟨rfl, rfl⟩
            clear hrd
            go_wp2
            go_ret
            exact ⟨rfl, HB9.out⟩
end Go.Proofs.Ytlocickppgddmaa
