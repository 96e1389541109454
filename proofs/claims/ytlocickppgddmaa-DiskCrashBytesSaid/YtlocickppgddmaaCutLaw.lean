import Derived.Test.YtlocickppgddmaaAllLaw
namespace Go.Proofs.Ytlocickppgddmaa
open Go.RowKit
variable {F : Nat → Prop}

theorem own_own_ne {w : World} {base base' : Nat} {e t : TypeId} {size size' n n' : Nat} {v v' : Value} {xs ys : List Value} (h : w.ownsRow base e size v n xs) (h' : w.ownsRow base' t size' v' n' ys) (hne : e ≠ t) (k : Nat) (hk : v'.ownBlock = some k) : v.ownBlock ≠ some k := by
  rcases h'.2 with ⟨rfl, _⟩ | ⟨g, cap, cur, rfl, _, hgg, _⟩
  · cases hk
  · injection hk with hk; subst hk
    exact own_blk_ne h hgg hne
theorem own_allI {base j : Nat} {v : Value} {w : World} (h : w.ownsRow base 3 1 v j (ints (allI j))) : ∃ a c, v = .slice a j c ∧ sv_Ints w.heap.size w (.slice a (allI j).length c) (allI j) := by
  obtain ⟨a, c, h1, h2⟩ := own_ints h
  rw [allI_length] at h1
  exact ⟨a, c, h1, h2⟩
theorem foot_own {w : World} {g bd bv : Nat} {pv v : Value} {s : DS} {base n : Nat} {xs : List Value} (h : DAt w F g bd bv pv s) (ho : w.ownsRow base 3 1 v n xs) (k : Nat) (hk : foot g bd bv pv k) : v.ownBlock ≠ some k := by
  rcases hk with rfl | rfl | rfl | hk
  · exact own_blk_ne ho h.blk (by decide)
  · exact own_blk_ne ho h.dur (by decide)
  · exact own_blk_ne ho h.vis (by decide)
  · exact own_own_ne ho h.pend (by decide) k hk

/-- what the disk may own while the row of bytes bb and the row of numbers v lie beside it -/
def CF (n₀ bb : Nat) (v : Value) : Nat → Prop := fun k => n₀ ≤ k ∧ k ≠ bb ∧ v.ownBlock ≠ some k
structure CAt (F : Nat → Prop) (w : World) (g bb n : Nat) (c : List UInt8) (s : DS) (j : Nat) (v : Value) (wr : World) : Prop where
  rb : RBAt F w g bb n c s wr
  own : wr.ownsRow w.heap.size 3 1 v j (ints (allI j))
  out : ∀ k, v.ownBlock = some k → ¬ F k
theorem CAt.kept {w : World} {g bb n j : Nat} {c : List UInt8} {s : DS} {v : Value} {wr w' : World} (h : CAt F w g bb n c s j v wr) (hk : Kept (fun _ => False) wr w') : CAt F w g bb n c s j v w' :=
  ⟨h.rb.kept hk, own_kept h.own hk (fun _ _ h => h), h.out⟩
theorem CAt.alloc {w : World} {g bb n j : Nat} {c : List UInt8} {s : DS} {v : Value} {wr : World} (h : CAt F w g bb n c s j v wr) (o : Obj) : CAt (fun k => F k ∧ k ≠ wr.heap.size) w g bb n c s j v (wr.alloc o) :=
  ⟨h.rb.alloc o, h.own.alloc o, fun k hk hf => h.out k hk hf.1⟩
theorem CAt.put {w : World} {g bb n j : Nat} {c c' : List UInt8} {s : DS} {v : Value} {wr w' : World} (h : CAt F w g bb n c s j v wr) (hk : Kept (· = bb) wr w') (hb : w'.heap[bb]? = some (.cells (bs c').toArray 5 (0, 0))) (hc : c'.length = n) : CAt F w g bb n c' s j v w' :=
  ⟨h.rb.put hk hb hc, own_kept h.own hk (fun k hk' e => own_blk_ne h.own h.rb.blk (by decide) (by rw [hk', e])), h.out⟩
theorem CAt.op {w : World} {g bb n j : Nat} {c : List UInt8} {s s' : DS} {v : Value} {wr w' : World} (h : CAt F w g bb n c s j v wr) (hd : DK F w' g s') (hk : Kept F wr w') : CAt F w g bb n c s' j v w' :=
  ⟨h.rb.op hd hk, own_kept h.own hk h.out, h.out⟩
theorem CAt.norm {w : World} {g bb n j : Nat} {c : List UInt8} {s : DS} {v : Value} {wr : World} (h : CAt F w g bb n c s j v wr) : CAt (CF w.heap.size bb v) w g bb n c s j v wr :=
  ⟨h.rb.mono (fun k hk => ⟨(h.rb.fle k hk).1, (h.rb.fle k hk).2, fun e => h.out k e hk⟩) (fun k hk => ⟨hk.1, hk.2.1⟩), h.own, fun k hk hf => hf.2.2 hk⟩
theorem CAt.snoc {w : World} {g bb n j : Nat} {c : List UInt8} {s : DS} {v v' : Value} {X : Obj} {wr w1 : World} (h : CAt F w g bb n c s j v wr)
    (hown : w1.ownsRow w.heap.size 3 1 v' (j + 1) (ints (allI j) ++ [.int .i64 j])) (hg : (wr.alloc X).grownBy w1 v.ownBlock) : CAt (CF w.heap.size bb v') w g bb n c s (j + 1) v' w1 := by
  have hK : Kept (fun k => v.ownBlock = some k) wr w1 := ((Kept.refl _ wr).alloc X).trans (Kept.of_grown hg (fun k e => .inl e))
  have ho : w1.ownsRow w.heap.size 3 1 v' (j + 1) (ints (allI (j + 1))) := by rw [allI_succ]; simpa [ints] using hown
  have hbb := hK.blk h.rb.blk (own_blk_ne h.own h.rb.blk (by decide))
  obtain ⟨bd, bv, pv, hd⟩ := h.rb.dk.ex
  have hd1 := hd.foot.kept hK (fun k hk e => h.out k e (hd.foot_F k hk))
  refine ⟨⟨⟨⟨bd, bv, pv, hd1.mono fun k hk => ?_⟩, fun k hk => ⟨Nat.le_trans h.rb.bel.size (Nat.le_trans hK.size hk), ?_, fun e => ?_⟩⟩, fun k hk => ⟨hk.1, hk.2.1⟩, h.rb.clen, hbb, h.rb.bel.trans (hK.below h.rb.bel.size (fun k hk => (h.own.lt k hk).1)), h.rb.fresh⟩, ho, fun k hk hf => hf.2.2 hk⟩
  · have hf := hd.foot_F k hk
    exact ⟨(h.rb.fle k hf).1, (h.rb.fle k hf).2, foot_own hd1 ho k hk⟩
  · have := blk_lt hbb; omega
  · have := (ho.lt k e).2; omega

/-- the disk before and behind its last write -/
structure CutS (m n j : Nat) (c : List UInt8) (s : DS) : Prop where
  off : s.off = decide (j = m)
  left : s.left = m - j
  dur : s.dur.length = n
  vis : s.vis = c
  few : s.pend.length = j
  laid : c = laid s.dur s.pend
theorem CutS.write {m n j : Nat} {c : List UInt8} {s : DS} (h : CutS m n j c s) (hj : j < m) (o : Nat) (b : ByteArray) (hb : o + b.size ≤ n) :
    s.write o b = ({ s with off := decide (j + 1 = m), left := m - (j + 1), vis := splice c o b.data.toList, pend := s.pend ++ [(o, b)] }, 0) := by
  have hf : fitsB (o : Int) b.size s.dur.length = true := by simp [fitsB, h.dur]; omega
  have ho : s.off = false := by rw [h.off]; simp; omega
  have h0 : ¬ s.left = 0 := by rw [h.left]; omega
  have e1 : (decide (s.left = 1)) = decide (j + 1 = m) := by rw [h.left]; congr 1; simp; omega
  have e2 : s.left - 1 = m - (j + 1) := by rw [h.left]; omega
  simp only [DS.write, ho, hf, DS.used, h0, h.vis, Int.toNat_natCast, if_true, if_false, Bool.false_eq_true, e1, e2]
theorem CutS.wrote {m n j : Nat} {c : List UInt8} {s : DS} (h : CutS m n j c s) (o : Nat) (b : ByteArray) :
    CutS m n (j + 1) (splice c o b.data.toList) { s with off := decide (j + 1 = m), left := m - (j + 1), vis := splice c o b.data.toList, pend := s.pend ++ [(o, b)] } :=
  ⟨rfl, rfl, h.dur, rfl, by simp [h.few], by rw [laid_snoc, ← h.laid]⟩
theorem CutS.dead {m n : Nat} {c : List UInt8} {s : DS} (h : CutS m n m c s) : s.off = true := by rw [h.off]; simp
theorem CutS.write' {m n : Nat} {c : List UInt8} {s : DS} (h : CutS m n m c s) (o : Int) (b : ByteArray) : s.write o b = (s, 281) := by simp [DS.write, h.dead]
theorem CutS.sync {m n j : Nat} {c : List UInt8} {s : DS} (h : CutS m n j c s) (hj : j ≠ m) : s.sync = ({ s with dur := s.vis, pend := [] }, 0) := by simp [DS.sync, h.off, hj]
theorem CutS.sync' {m n : Nat} {c : List UInt8} {s : DS} (h : CutS m n m c s) : s.sync = (s, 281) := by simp [DS.sync, h.dead]
theorem CutS.cut' {m n : Nat} {c : List UInt8} {s : DS} (h : CutS m n m c s) (k : Int) : s.cut k = (s, 281) := by simp [DS.cut, h.dead]
theorem CutS.read' {m n : Nat} {c : List UInt8} {s : DS} (h : CutS m n m c s) (o k : Int) : s.read o k = (⟨#[]⟩, 281) := by simp [DS.read, h.dead]
theorem cut_one (s : DS) (m : Nat) (h : s.off = false) : s.cut m = ({ s with off := decide (m = 0), left := m }, 0) := by
  have h1 : ¬ ((m : Int) < 0) := by omega
  simp [DS.cut, h, h1]
theorem cuts_new (n m : Nat) : CutS m n 0 (List.replicate n 0) { New0 n with off := decide (m = 0), left := m } :=
  ⟨by show decide (m = 0) = decide (0 = m); congr 1; simp; omega, rfl, by simp [New0], rfl, rfl, rfl⟩

set_option maxHeartbeats 4000000 in
set_option maxRecDepth 100000 in
theorem cut_law (w : World) (size cnt : Int) (hs1 : -9223372036854775808 ≤ size) (hs2 : size ≤ 9223372036854775807) (hn1' : -9223372036854775808 ≤ cnt) (hn2' : cnt ≤ 9223372036854775807) (a : Option Addr) (len cap : Nat) (l : List (Int × ByteArray × Bool)) (hl : WPs w a len cap l) : Calls Try.prog 10 #[.int .i64 size, .int .i64 cnt, .slice a len cap] w (LawPost w) := by
  have hp := pickI_range size 100 (by omega)
  obtain ⟨n, hn⟩ := Int.eq_ofNat_of_zero_le (show 0 ≤ 1 + pickI size 100 by omega)
  have HN := Lib.hid hn
  have hn1 : 1 ≤ n := by omega
  have hn3 : n ≤ 100 := by omega
  have hq := pickI_range cnt 20 (by omega)
  obtain ⟨m, hm⟩ := Int.eq_ofNat_of_zero_le (show 0 ≤ pickI cnt 20 by omega)
  have HM := Lib.hid hm
  have hm3 : m < 20 := by omega
  have hmk := make40 n (by omega)
  have hbig := hl.big
  have HL := Lib.hid hl
  clear hn hl hm
  go_enter Try.func10, Try.ntmps10
  go_wp2_with fail
  refine (sane_any _).mono ?_
  rintro e w1 ⟨rfl, hb1⟩
  go_wp2_with fail
  refine (pick_any _ size 100 hs1 hs2 (by omega) (by omega)).mono ?_
  rintro e w1' ⟨rfl, rfl⟩
  go_wp2_with fail
  rw [HN.out]
  refine (pick_any _ cnt 20 hn1' hn2' (by omega) (by omega)).mono ?_
  rintro e w1' ⟨rfl, rfl⟩
  rw [HM.out]
  go_wp2_with fail
  refine (new_dk (F := fun k => w1.heap.size ≤ k) w1 n hn1 (by omega) (fun _ h => h)).mono ?_
  rintro e w2 ⟨g, rfl, hd2, hb2⟩
  have hB2 := hb1.trans (hb2.below hb1.size (fun k h => Nat.le_trans hb1.size h))
  have hle1 := hb1.size
  clear hb1 hb2 hmk hq hp
  go_wp2_with fail
  have hm5 : (m : Int) + 5 = ((m + 5 : Nat) : Int) := by omega
  rw [hm5]
  refine (cut_dk hd2 _ (by omega) (cut_one _ (m + 5) rfl)).mono ?_
  rintro e w3 ⟨rfl, hd3, k3⟩
  have hB3 := hB2.trans (k3.below hB2.size (fun k h => Nat.le_trans hle1 h))
  clear hd2 k3 hB2 hm5
  go_wp2_with fail
  refine (cut_dk hd3 m (by omega) (cut_one _ m (by simp))).mono ?_
  rintro e w4 ⟨rfl, hd4, k4⟩
  have hB4 := hB3.trans (k4.below hB3.size (fun k h => Nat.le_trans hle1 h))
  have hmk := make40 n (by omega)
  clear hd3 k4 hB3
  go_wp2_with fail
  have hbb := blk_new w4 (.cells (bs (List.replicate n 0)).toArray 5)
  have HRB := Lib.hid (show RBAt (BF w w4.heap.size) w g w4.heap.size n (List.replicate n 0) { New0 n with off := decide (m = 0), left := m } (w4.alloc (.cells (bs (List.replicate n 0)).toArray 5)) from
    ⟨(hd4.avoid _).mono (fun k h => ⟨Nat.le_trans hle1 h.1, h.2⟩), fun _ h => h, by simp, hbb, hB4.alloc hB4.size _, hB4.size⟩)
  have hwb := hB4.size
  generalize w4.alloc (.cells (bs (List.replicate n 0)).toArray 5) = W3 at HRB ⊢
  generalize w4.heap.size = bb at HRB hwb ⊢
  have HC0 := Lib.hid (show CAt (CF w.heap.size bb (.slice none 0 0)) w g bb n (List.replicate n 0) { New0 n with off := decide (m = 0), left := m } 0 (.slice none 0 0) W3 from
    ⟨HRB.out.mono (fun k h => ⟨h.1, h.2, fun e => by cases e⟩) (fun k h => ⟨h.1, h.2.1⟩), World.ownsRow_nil _ _ _ _, fun k e => by cases e⟩)
  clear hd4 hB4 hbb hmk HRB
  go_loopw [12, 11] (fun t v wr => ∃ (k j : Nat) (c : List UInt8) (s : DS), k ≤ len ∧ k ≤ 40 ∧ t = .int .i64 k ∧ j = min k m ∧ CutS m n j c s ∧ CAt (CF w.heap.size bb v) w g bb n c s j v wr) (fun t _ _ => len - (intOf t).toNat)
  case atStart => exact ⟨0, 0, _, _, Nat.zero_le _, by omega, rfl, by omega, cuts_new n m, HC0.out⟩
  case round =>
    obtain ⟨k, j, c, s, hk, hk60, rfl, hj, hcs, hC⟩ := hrel
    have HC := Lib.hid hC
    have HCS := Lib.hid hcs
    have hcn := hC.rb.clen
    have HJ := Lib.hid hj
    clear hC hcs hj
    by_cases hlt : k < len ∧ k < 40
    · obtain ⟨hlt, hlt60⟩ := hlt
      have hkl : k < l.length := by rw [HL.out.llen]; exact hlt
      obtain ⟨b0, off, rfl, hc1, hc2, hc3⟩ := wp_at HL.out HC.out.rb.bel k hkl
      have hfit := fitN_le l[k] n hn1
      have hfc := fitn_any wr l[k] n hn1 (by omega) (HL.out.ok l[k] (List.getElem_mem hkl))
      generalize (fitN l[k] n).1 = o at hfit hfc
      generalize (fitN l[k] n).2 = x at hfit hfc
      generalize l[k].2.2 = sy at hfc hc3
      have HFC := Lib.hid hfc
      clear hfc
      go_wp2_with fail
      refine HFC.out.mono ?_
      rintro e w4 ⟨rfl, k4⟩
      have HC4 := Lib.hid ((HC.out.kept k4).alloc (.cells #[.int .i64 (o : Int), .string x, .bool sy] 53))
      have hL := blk_new w4 (.cells #[.int .i64 (o : Int), .string x, .bool sy] 53)
      have HL5 := Lib.hid hL
      have hcl : (splice c o x.data.toList).length = n := (length_splice _ _ _ (by rw [data_length, hcn]; exact hfit)).trans hcn
      have cL := blk_cell HL5.out
      have hLF : ∀ v0, ¬ (CF w.heap.size bb v0 w4.heap.size ∧ w4.heap.size ≠ w4.heap.size) := fun _ h => h.2 rfl
      clear k4 HFC hc1 hc2 hc3 hL HC
      go_wp2_with fail
      by_cases hjm : k < m
      · have hjk : j = k := by have := HJ.out; omega
        subst hjk
        have hw := HCS.out.write hjm o x hfit
        refine (write_dk HC4.out.rb.dk (by have := HCS.out.few; omega) o x hw).mono ?_
        rintro e w6 ⟨rfl, hd6, k6⟩
        have HC6 := Lib.hid (HC4.out.op hd6 k6)
        have HCS6 := Lib.hid (HCS.out.wrote o x)
        have HL6 := Lib.hid (k6.blk HL5.out (hLF _))
        have cL := blk_cell HL6.out
        clear hd6 k6 HC4 HL5 hw hLF
        go_wp2_with fail
        refine (put_any _ bb n o c x HC6.out.rb.blk HC6.out.rb.clen (by omega) hfit).mono ?_
        rintro e w7 ⟨rfl, h7, k7⟩
        have HC7 := Lib.hid (HC6.out.put k7 h7 hcl)
        clear h7 k7 HC6 HL6 cL
        obtain ⟨i0, hi, hz0, hz1, hz2⟩ := info_parts info3
        go_wp2_with (at_builtin; refine wpList_append_own _ rfl _ _ 37 rfl w.heap.size 3 i0 (.int .i64 0) 1 8 Try.underlying37 hi hz0 hz1 hz2 rfl (by decide) _ j _ rfl (HC7.out.own.alloc _) ⟨w7.heap.size, 0, none⟩ 1 1 [.int .i64 j] rfl rfl (cell_one_new _ _ _) (by simp [Value.oneCell']) (by unfold maxLen; omega) (by omega) (by have := HC7.out.rb.bel.size; simp; omega) ?_; intro v' w8 hown' hgrow _; have HC8 := Lib.hid (HC7.out.snoc hown' hgrow))
        go_roundw
        case rel => exact ⟨j + 1, j + 1, _, _, by omega, by omega, by go_num, by have := HJ.out; omega, HCS6.out, HC8.out⟩
        case measure => simp [intOf]; omega
      · have hjk : j = m := by have := HJ.out; omega
        subst hjk
        have hw := HCS.out.write' o x
        refine (write_dk HC4.out.rb.dk (by have := HCS.out.few; omega) o x hw).mono ?_
        rintro e w6 ⟨rfl, hd6, k6⟩
        have HC6 := Lib.hid (HC4.out.op hd6 k6)
        clear hd6 k6 HC4 hw
        go_wp2
        go_roundw
        case rel => exact ⟨k + 1, j, _, _, by omega, by omega, by go_num, by have := HJ.out; omega, HCS.out, HC6.out.norm⟩
        case measure => simp [intOf]; omega
    · by_cases h1 : k < len
      · have h2 : ¬ k < 40 := fun h2 => hlt ⟨h1, h2⟩
        clear hlt
        obtain ⟨oa, oc, rfl, hin⟩ := own_allI HC.out.own
        clear hin
        by_cases hjm : j < m
        · have hsy := HCS.out.sync (by omega)
          go_wp2_with fail
          refine (sync_dk HC.out.rb.dk hsy).mono ?_
          rintro e w6 ⟨rfl, hd6, k6⟩
          have HB6 := Lib.hid (HC.out.op hd6 k6).rb.bel
          clear hd6 k6 hsy
          go_wp2
          go_ret
          exact ⟨rfl, HB6.out⟩
        · have hjk : j = m := by have := HJ.out; omega
          subst hjk
          go_wp2_with fail
          refine (read_dk HC.out.rb.dk 0 0 (HCS.out.read' 0 0)).mono ?_
          rintro e wx ⟨rfl, rfl⟩
          go_wp2_with fail
          refine (sync_dk HC.out.rb.dk HCS.out.sync').mono ?_
          rintro e w6 ⟨rfl, hd6, k6⟩
          have HC6 := Lib.hid (HC.out.op hd6 k6)
          clear hd6 k6 HC
          go_wp2_with fail
          refine (cut_dk HC6.out.rb.dk 3 (by omega) (HCS.out.cut' 3)).mono ?_
          rintro e w7 ⟨rfl, hd7, k7⟩
          have HC7 := Lib.hid (HC6.out.op hd7 k7)
          clear hd7 k7 HC6
          go_wp2_with fail
          refine (pending_dk HC7.out.rb.dk).mono ?_
          rintro e wx ⟨rfl, rfl⟩
          rw [HCS.out.few]
          go_wp2_with fail
          refine (size_dk HC7.out.rb.dk).mono ?_
          rintro e wx ⟨rfl, rfl⟩
          rw [HCS.out.dur]
          have hcr := s.crash_all (-1) (by omega)
          rw [HCS.out.few, ← HCS.out.laid] at hcr
          obtain ⟨oa', oc', ho', hin⟩ := own_allI HC7.out.own
          obtain ⟨rfl, rfl⟩ : oa' = oa ∧ oc' = oc := by injection ho' with e1 e2 e3; exact ⟨e1.symm, e3.symm⟩
          have hck := crash_dk HC7.out.rb.dk oa' oc' (allI j) (by rw [allI_length]; omega) hin (-1) hcr
          rw [allI_length] at hck
          have HCK := Lib.hid hck
          clear hck hin hcr ho'
          go_wp2_with fail
          refine HCK.out.mono ?_
          rintro e w8 ⟨rfl, hd8, k8⟩
          have HC8 := Lib.hid (HC7.out.op hd8 k8)
          clear hd8 k8 HCK HC7
          go_wp2_with fail
          have hrd := (show Live ({ off := false, left := 0, dur := c, vis := c, pend := [] } : DS) n c from ⟨rfl, rfl, hcn, rfl⟩).read hcn
          refine (read_dk HC8.out.rb.dk 0 n hrd).mono ?_
          rintro e wx ⟨rfl, rfl⟩
          clear hrd
          have hcv := conv_all HC8.out.rb.blk hcn
          go_wp2_with fail
          have hlv := show Live ({ off := false, left := 0, dur := c, vis := c, pend := [] } : DS) n c from ⟨rfl, rfl, hcn, rfl⟩
          refine (write_dk HC8.out.rb.dk (by simp) 0 ⟨#[120]⟩ (hlv.write 0 ⟨#[120]⟩ (by omega) (by show (0 : Int) + (1 : Nat) ≤ n; omega))).mono ?_
          rintro e w9 ⟨rfl, hd9, k9⟩
          have HC9 := Lib.hid (HC8.out.op hd9 k9)
          clear hd9 k9 HC8 hcv
          go_wp2_with fail
          refine (sync_dk HC9.out.rb.dk (hlv.wrote 0 ⟨#[120]⟩).sync).mono ?_
          rintro e w10 ⟨rfl, hd10, k10⟩
          have HB10 := Lib.hid (HC9.out.op hd10 k10).rb.bel
          clear hd10 k10 HC9 hlv
          go_wp2
          go_ret
          exact ⟨rfl, HB10.out⟩
      · clear hlt
        obtain ⟨oa, oc, rfl, hin⟩ := own_allI HC.out.own
        clear hin
        by_cases hjm : j < m
        · have hsy := HCS.out.sync (by omega)
          go_wp2_with fail
          refine (sync_dk HC.out.rb.dk hsy).mono ?_
          rintro e w6 ⟨rfl, hd6, k6⟩
          have HB6 := Lib.hid (HC.out.op hd6 k6).rb.bel
          clear hd6 k6 hsy
          go_wp2
          go_ret
          exact ⟨rfl, HB6.out⟩
        · have hjk : j = m := by have := HJ.out; omega
          subst hjk
          go_wp2_with fail
          refine (read_dk HC.out.rb.dk 0 0 (HCS.out.read' 0 0)).mono ?_
          rintro e wx ⟨rfl, rfl⟩
          go_wp2_with fail
          refine (sync_dk HC.out.rb.dk HCS.out.sync').mono ?_
          rintro e w6 ⟨rfl, hd6, k6⟩
          have HC6 := Lib.hid (HC.out.op hd6 k6)
          clear hd6 k6 HC
          go_wp2_with fail
          refine (cut_dk HC6.out.rb.dk 3 (by omega) (HCS.out.cut' 3)).mono ?_
          rintro e w7 ⟨rfl, hd7, k7⟩
          have HC7 := Lib.hid (HC6.out.op hd7 k7)
          clear hd7 k7 HC6
          go_wp2_with fail
          refine (pending_dk HC7.out.rb.dk).mono ?_
          rintro e wx ⟨rfl, rfl⟩
          rw [HCS.out.few]
          go_wp2_with fail
          refine (size_dk HC7.out.rb.dk).mono ?_
          rintro e wx ⟨rfl, rfl⟩
          rw [HCS.out.dur]
          have hcr := s.crash_all (-1) (by omega)
          rw [HCS.out.few, ← HCS.out.laid] at hcr
          obtain ⟨oa', oc', ho', hin⟩ := own_allI HC7.out.own
          obtain ⟨rfl, rfl⟩ : oa' = oa ∧ oc' = oc := by injection ho' with e1 e2 e3; exact ⟨e1.symm, e3.symm⟩
          have hck := crash_dk HC7.out.rb.dk oa' oc' (allI j) (by rw [allI_length]; omega) hin (-1) hcr
          rw [allI_length] at hck
          have HCK := Lib.hid hck
          clear hck hin hcr ho'
          go_wp2_with fail
          refine HCK.out.mono ?_
          rintro e w8 ⟨rfl, hd8, k8⟩
          have HC8 := Lib.hid (HC7.out.op hd8 k8)
          clear hd8 k8 HCK HC7
          go_wp2_with fail
          have hrd := (show Live ({ off := false, left := 0, dur := c, vis := c, pend := [] } : DS) n c from ⟨rfl, rfl, hcn, rfl⟩).read hcn
          refine (read_dk HC8.out.rb.dk 0 n hrd).mono ?_
          rintro e wx ⟨rfl, rfl⟩
          clear hrd
          have hcv := conv_all HC8.out.rb.blk hcn
          go_wp2_with fail
          have hlv := show Live ({ off := false, left := 0, dur := c, vis := c, pend := [] } : DS) n c from ⟨rfl, rfl, hcn, rfl⟩
          refine (write_dk HC8.out.rb.dk (by simp) 0 ⟨#[120]⟩ (hlv.write 0 ⟨#[120]⟩ (by omega) (by show (0 : Int) + (1 : Nat) ≤ n; omega))).mono ?_
          rintro e w9 ⟨rfl, hd9, k9⟩
          have HC9 := Lib.hid (HC8.out.op hd9 k9)
          clear hd9 k9 HC8 hcv
          go_wp2_with fail
          refine (sync_dk HC9.out.rb.dk (hlv.wrote 0 ⟨#[120]⟩).sync).mono ?_
          rintro e w10 ⟨rfl, hd10, k10⟩
          have HB10 := Lib.hid (HC9.out.op hd10 k10).rb.bel
          clear hd10 k10 HC9 hlv
          go_wp2
          go_ret
          exact ⟨rfl, HB10.out⟩
end Go.Proofs.Ytlocickppgddmaa
