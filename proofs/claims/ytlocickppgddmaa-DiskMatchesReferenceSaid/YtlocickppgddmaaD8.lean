import Derived.Test.YtlocickppgddmaaD7
namespace Go.Proofs.Ytlocickppgddmaa
open Go.RowKit

def outB (n : Nat) (i : Int) : Bool := decide (i < 0) || decide ((n : Int) ≤ i)

set_option maxHeartbeats 400000 in
theorem pred_any (w : World) (B g n c : Nat) (a : Option Addr) (h1 : w.cell? ⟨B, 0, none⟩ = some (.pointer (some ⟨g, 0, none⟩))) (h2 : w.cell? ⟨g, 4, none⟩ = some (.slice a n c)) (i : Int) :
    Calls Try.prog 42 #[.int .i64 i, .pointer (some ⟨B, 0, none⟩)] w fun e w' => e = .returned (.bool (outB n i)) ∧ w = w' := by
  by_cases h : i < 0
  · have hb : outB n i = true := by simp [outB, h]
    have HB := Lib.hid hb
    clear hb
    go_enter Try.func42, Try.ntmps42
    go_wp2
    go_ret
    exact ⟨by rw [HB.out]; simp, rfl⟩
  · have hb : outB n i = decide ((n : Int) ≤ i) := by simp [outB, h]
    have HB := Lib.hid hb
    clear hb
    go_enter Try.func42, Try.ntmps42
    go_wp2
    all_goals go_ret
    all_goals exact ⟨by rw [HB.out]; simp [*], rfl⟩

def ordOf (keep : List Int) (n : Nat) : List Int := (Lib.compact (sorted keep)).filter fun i => !outB n i

/-- what is left of a write that may be torn -/
def tornS (s : ByteArray) (torn : Int) (last : Bool) : ByteArray := if last = true ∧ 0 ≤ torn then s.extract 0 (min torn (s.size : Int)).toNat else s

def crashDur (pend : List (Nat × ByteArray)) (torn : Int) (ord : List Int) (dur : List UInt8) : Nat → List UInt8
  | 0 => dur
  | k + 1 => splice (crashDur pend torn ord dur k) (pend.getD (ord.getD k 0).toNat default).1 (tornS (pend.getD (ord.getD k 0).toNat default).2 torn (decide (k + 1 = ord.length))).data.toList

def DS.crash (s : DS) (keep : List Int) (torn : Int) : DS :=
  let d := crashDur s.pend torn (ordOf keep s.pend.length) s.dur (ordOf keep s.pend.length).length
  { off := false, left := 0, dur := d, vis := d, pend := [] }

theorem crash_nil (w : World) (v : Value) (torn : Int) : Calls Try.prog 25 #[.pointer none, v, .int .i64 torn] w fun e w' => e = .returned (.int .i64 1) ∧ Below w.heap.size w w' := by
  go_enter Try.func25, Try.ntmps25
  go_wp2
  go_ret
  exact ⟨rfl, (Below.refl _ _).alloc (Nat.le_refl _) _⟩

variable {w : World} {F : Nat → Prop} {g bd bv : Nat} {pv : Value} {s : DS}

/-- the very blocks of a disk -/
def foot (g bd bv : Nat) (pv : Value) : Nat → Prop := fun k => k = g ∨ k = bd ∨ k = bv ∨ pv.ownBlock = some k
theorem DAt.foot (h : DAt w F g bd bv pv s) : DAt w (foot g bd bv pv) g bd bv pv s :=
  ⟨h.blk, h.dur, h.vis, h.pend, h.ne, .inl rfl, .inr (.inl rfl), .inr (.inr (.inl rfl)), fun _ hk => .inr (.inr (.inr hk)), h.wf⟩
theorem DAt.foot_lt (h : DAt w F g bd bv pv s) (k : Nat) (hk : Ytlocickppgddmaa.foot g bd bv pv k) : k < w.heap.size := by
  rcases hk with rfl | rfl | rfl | hk
  · exact blk_lt h.blk
  · exact blk_lt h.dur
  · exact blk_lt h.vis
  · exact own_val h.pend k hk
theorem DAt.foot_F (h : DAt w F g bd bv pv s) (k : Nat) (hk : Ytlocickppgddmaa.foot g bd bv pv k) : F k := by
  rcases hk with rfl | rfl | rfl | hk
  · exact h.fg
  · exact h.fd
  · exact h.fv
  · exact h.fp k hk
theorem DAt.dset (h : DAt w F g bd bv pv s) {w' : World} {l : List UInt8} (hk : Kept (· = bd) w w') (hb : w'.heap[bd]? = some (.cells (bs l).toArray 5 (0, 0))) (hl : l.length = s.dur.length) :
    DAt w' F g bd bv pv { s with dur := l } := by
  have hw := h.wf
  have n1 := blk_ne h.blk h.dur (by decide)
  have n3 := own_blk_ne h.pend h.dur (by decide)
  have e : DCells { s with dur := l } bd bv pv = DCells s bd bv pv := by simp [DCells, hl]
  exact ⟨by rw [e]; exact hk.blk h.blk n1, hb, hk.blk h.vis (Ne.symm h.ne), own_kept h.pend hk (fun k hk' e => n3 (by rw [hk', e])), h.ne, h.fg, h.fd, h.fv, h.fp, ⟨hw.len.trans hl.symm, by show l.length ≤ _; rw [hl]; exact hw.big, hw.left, hw.few, fun p hp => by show _ ≤ l.length; rw [hl]; exact hw.ins p hp⟩⟩

theorem Kept.cell {F : Nat → Prop} {w w' : World} (h : Kept F w w') {a : Addr} {v : Value} (hc : w.cell? a = some v) (hf : ¬ F a.block) : w'.cell? a = some v :=
  (World.cell?_of_block (h.block _ (World.block_lt_of_cell? w a hc) hf)).trans hc

theorem pcells_get (l : List (Nat × ByteArray)) (i : Nat) (h : i < l.length) : (pcells l)[i * 2]? = some (.int .i64 (l[i].1 : Int)) ∧ (pcells l)[i * 2 + 1]? = some (.string l[i].2) := by
  induction l generalizing i with
  | nil => simp at h
  | cons p l ih =>
    cases i with
    | zero => simp [pcells]
    | succ i =>
      have := ih i (by simpa using h)
      have e1 : (i + 1) * 2 = i * 2 + 1 + 1 := by omega
      have e2 : (i + 1) * 2 + 1 = (i * 2 + 1) + 1 + 1 := by omega
      rw [e2, e1]
      simpa [pcells] using this

theorem own_cell {w : World} {base : Nat} {e : TypeId} {size n g cap : Nat} {xs : List Value} (h : w.ownsRow base e size (.slice (some ⟨g, 0, none⟩) n cap) n xs) (j : Nat) (u : Value) (hu : xs[j]? = some u) : w.cell? ⟨g, j, none⟩ = some u := by
  have := h.cells (g := g) rfl j u hu
  have ha : (⟨g, 0, none⟩ : Addr).add j = ⟨g, j, none⟩ := by unfold Addr.add; split <;> simp_all
  rwa [ha] at this

theorem tornS_le (s : ByteArray) (torn : Int) (l : Bool) : (tornS s torn l).size ≤ s.size := by
  unfold tornS; split
  · rw [ByteArray.size_extract]; omega
  · exact Nat.le_refl _

/-- within Crash: the disk, the box of d, and what has been kept -/
structure CrAt (w W : World) (g bd bv : Nat) (pv : Value) (s : DS) : Prop where
  d : DAt W (foot g bd bv pv) g bd bv pv s
  box : W.heap[w.heap.size]? = some (.cells #[.pointer (some ⟨g, 0, none⟩)] 23 (0, 0))
  kept : Kept (foot g bd bv pv) w W
  lt : ∀ k, foot g bd bv pv k → k < w.heap.size

theorem CrAt.new {w W W' : World} (h : CrAt w W g bd bv pv s) {G : Nat → Prop} (hk : Kept G W W') (hG : ∀ k, G k → w.heap.size < k) : CrAt w W' g bd bv pv s :=
  ⟨h.d.kept hk (fun k hk' hg => by have := h.lt k hk'; have := hG k hg; omega), hk.blk h.box (fun hg => by have := hG _ hg; omega), h.kept.trans' hk (fun i hi => .inr (by have := hG i hi; omega)), h.lt⟩

set_option maxHeartbeats 2000000 in
set_option maxRecDepth 100000 in
theorem crash_any (h : DAt w F g bd bv pv s) (a : Option Addr) (c : Nat) (keep : List Int) (hkeep : keep.length ≤ 1000) (hI : sv_Ints w.heap.size w (.slice a keep.length c) keep) (torn : Int) :
    Calls Try.prog 25 #[.pointer (some ⟨g, 0, none⟩), .slice a keep.length c, .int .i64 torn] w (OpPost w F g bd bv (s.crash keep torn) 0) := by
  have hlg := blk_lt h.blk
  have HD := Lib.hid h
  have HI := Lib.hid hI
  clear h hI
  have hbx := blk_new w (.cells #[.pointer (some ⟨g, 0, none⟩)] 23)
  have hc := blk_cell hbx
  have HBx := Lib.hid hbx
  clear hbx
  go_enter Try.func25, Try.ntmps25
  go_wp2_with fail
  refine (values_any a keep.length c _).mono ?_
  rintro e w1 ⟨rfl, rfl⟩
  go_wp2_with fail
  have hC : CrAt w ((w.alloc (.cells #[.pointer (some ⟨g, 0, none⟩)] 23)).alloc (.cells #[.slice a keep.length c] 37)) g bd bv pv s :=
    ⟨HD.out.foot.kept (((Kept.refl (fun _ => False) w).alloc _).alloc _) (fun _ _ h => h), blk_alloc HBx.out _, ((Kept.refl _ w).alloc _).alloc _, HD.out.foot_lt⟩
  have hbx2 := blk_new (w.alloc (.cells #[.pointer (some ⟨g, 0, none⟩)] 23)) (.cells #[.slice a keep.length c] 37)
  rw [World.size_alloc] at hbx2
  have hI2 : sv_Ints ((w.alloc (.cells #[.pointer (some ⟨g, 0, none⟩)] 23)).alloc (.cells #[.slice a keep.length c] 37)).heap.size ((w.alloc (.cells #[.pointer (some ⟨g, 0, none⟩)] 23)).alloc (.cells #[.slice a keep.length c] 37)) (.slice a keep.length c) keep := by
    have := sv_Ints_below (((Below.refl w.heap.size w).alloc (Nat.le_refl _) (.cells #[.pointer (some ⟨g, 0, none⟩)] 23)).alloc (by simp) (.cells #[.slice a keep.length c] 37)) HI.out
    rcases this with h | ⟨b, off, cap, e, hb, hc⟩
    · exact .inl h
    · exact .inr ⟨b, off, cap, e, by simp; omega, hc⟩
  have hsz : w.heap.size + 1 < ((w.alloc (.cells #[.pointer (some ⟨g, 0, none⟩)] 23)).alloc (.cells #[.slice a keep.length c] 37)).heap.size := by simp
  generalize (w.alloc (.cells #[.pointer (some ⟨g, 0, none⟩)] 23)).alloc (.cells #[.slice a keep.length c] 37) = W2 at hC hbx2 hI2 hsz ⊢
  clear hc HBx
  refine (sorted_any (w.heap.size + 1) _ keep (by omega) (by omega) W2 hsz (by rw [blk_cell hbx2]; rfl) hI2).mono ?_
  rintro e W3 ⟨v3, rfl, hv3, hb3⟩
  have hC3 := hC.new (Kept.of_below hb3 (fun _ => False)) (fun _ h => h.elim)
  have HSz := Lib.hid (show (sorted keep).length ≤ 1000 by rw [sorted_length]; exact hkeep)
  have hv3b : ∀ k, v3.ownBlock = some k → w.heap.size < k := fun k hk => by have := (hv3.lt k hk).1; omega
  clear hC hbx2 hI2 hb3
  go_wp2_with fail
  refine (compact_own hv3).mono ?_
  rintro e W4 ⟨v4, rfl, e4, hv4, hg4⟩
  have hC4 := hC3.new (Kept.of_grown (F := fun k => v3.ownBlock = some k) hg4 (fun k hk => .inl hk)) hv3b
  have hv4b : ∀ k, v4.ownBlock = some k → w.heap.size < k := fun k hk => hv3b k (by rw [← e4]; exact hk)
  have hl4 : (Lib.compact (sorted keep)).length ≤ 1000 := Nat.le_trans (Lib.compact_length_le _) HSz.out
  clear hC3 hv3 hg4 e4 hv3b
  have hc4 := blk_cell hC4.box
  have HC4 := Lib.hid hC4
  have HV4 := Lib.hid hv4
  clear hC4 hv4 hc4
  go_wp2_with fail
  obtain ⟨pa, pc, hpv, _⟩ := own_form HC4.out.d.pend
  have hdel := delete_own (bx := .pointer (some ⟨w.heap.size, 0, none⟩)) HV4.out (by omega) (outB s.pend.length) (fun W => W.cell? ⟨w.heap.size, 0, none⟩ = some (.pointer (some ⟨g, 0, none⟩)) ∧ W.cell? ⟨g, 4, none⟩ = some (.slice pa s.pend.length pc))
    (fun W W' hk ⟨h1, h2⟩ => ⟨hk.cell h1 (fun e => by have := hv4b _ e; simp at this), hk.cell h2 (fun e => by have := hv4b _ e; simp at this; omega)⟩) ⟨by rw [blk_cell HC4.out.box]; rfl, by rw [blk_cell HC4.out.d.blk, ← hpv]; rfl⟩ (fun W i ⟨h1, h2⟩ => pred_any W _ g _ _ _ h1 h2 i)
  refine hdel.mono ?_
  rintro e W5 ⟨v5, rfl, e5, hv5, hk5⟩
  have hC5 := HC4.out.new hk5 hv4b
  have hv5b : ∀ k, v5.ownBlock = some k → w.heap.size < k := fun k hk => hv4b k (by rw [← e5]; exact hk)
  have ho : (Lib.compact (sorted keep)).filter (fun x => !outB s.pend.length x) = ordOf keep s.pend.length := rfl
  rw [ho] at hv5
  have hl5 : (ordOf keep s.pend.length).length ≤ 1000 := Nat.le_trans (List.length_filter_le _ _) hl4
  have hin : ∀ x ∈ ordOf keep s.pend.length, 0 ≤ x ∧ x < s.pend.length := fun x hx => by
    have := (List.mem_filter.1 hx).2
    simp [outB] at this; omega
  obtain ⟨oa, oc, hvo, hoc, _⟩ := own_form hv5
  generalize hord : ordOf keep s.pend.length = ord at hv5 hl5 hin hvo hoc
  have HOrd := Lib.hid hord
  clear hord
  subst hvo
  have HC5 := Lib.hid hC5
  have HV5 := Lib.hid hv5
  have HIn := Lib.hid hin
  have HPv := Lib.hid hpv
  clear hC5 hv5 hv4b hl4 hk5 HC4 HV4 HSz hdel ho hin hpv e5
  go_wp2_with fail
  go_loopw [22] (fun t wr => ∃ k : Nat, k ≤ ord.length ∧ t = .int .i64 k ∧ CrAt w wr g bd bv pv { s with dur := crashDur s.pend torn ord s.dur k } ∧ wr.ownsRow W2.heap.size 3 1 (.slice oa ord.length oc) ord.length (ints ord))
    (fun t _ => ord.length - (intOf t).toNat)
  case atStart => exact ⟨0, Nat.zero_le _, rfl, HC5.out, HV5.out⟩
  case round =>
    obtain ⟨k, hk, rfl, hcr, hov⟩ := hrel
    by_cases hlt : k < ord.length
    · obtain ⟨gb, hoa⟩ : ∃ gb, oa = some ⟨gb, 0, none⟩ := by
        rcases hov.2 with ⟨e, e0⟩ | ⟨g', cap, cur, e, _⟩
        · omega
        · injection e with e1; exact ⟨g', e1⟩
      subst hoa
      obtain ⟨i, hi⟩ := Int.eq_ofNat_of_zero_le (HIn.out ord[k] (List.getElem_mem hlt)).1
      have hip : i < s.pend.length := by have := (HIn.out ord[k] (List.getElem_mem hlt)).2; omega
      have hck : wr.cell? ⟨gb, k, none⟩ = some (.int .i64 (i : Int)) := own_cell hov k _ (by simp [ints, hlt, hi])
      have hc := blk_cell hcr.d.blk
      unfold DCells at hc
      have hcb : wr.cell? ⟨w.heap.size, 0, none⟩ = some (.pointer (some ⟨g, 0, none⟩)) := by rw [blk_cell hcr.box]; rfl
      obtain ⟨gp, hpa⟩ : ∃ gp, pa = some ⟨gp, 0, none⟩ := by
        have hp := hcr.d.pend.2
        rw [HPv.out] at hp
        rcases hp with ⟨e, e0⟩ | ⟨g', cap, cur, e, _⟩
        · have e0' : s.pend.length = 0 := e0
          omega
        · injection e with e1; exact ⟨g', e1⟩
      subst hpa
      have hpg := pcells_get s.pend i hip
      have hp1 : wr.cell? ⟨gp, i * 2, none⟩ = some (.int .i64 (s.pend[i].1 : Int)) := own_cell (by have := hcr.d.pend; rw [HPv.out] at this; exact this) _ _ hpg.1
      have hp2 : wr.cell? ⟨gp, i * 2 + 1, none⟩ = some (.string s.pend[i].2) := own_cell (by have := hcr.d.pend; rw [HPv.out] at this; exact this) _ _ hpg.2
      have hins := hcr.d.wf.ins s.pend[i] (List.getElem_mem hip)
      have HIns := Lib.hid hins
      have HCr := Lib.hid hcr
      have HOv := Lib.hid hov
      have hwl := hcr.kept.size
      have hwl2 : w.heap.size < wr.heap.size := blk_lt hcr.box
      rw [HPv.out] at hc
      have hHi := Lib.hid hi
      have hcg4 : wr.cell? ⟨g, 4, none⟩ = some (.slice (some ⟨gp, 0, none⟩) s.pend.length pc) := by rw [hc]; rfl
      clear hcr hov hi hpg hins hc
      have hts : (tornS s.pend[i].2 torn (decide (k + 1 = ord.length))).size ≤ s.pend[i].2.size := tornS_le _ _ _
      have hstep : crashDur s.pend torn ord s.dur (k + 1) = splice (crashDur s.pend torn ord s.dur k) s.pend[i].1 (tornS s.pend[i].2 torn (decide (k + 1 = ord.length))).data.toList := by
        have e1 : ord.getD k 0 = ord[k] := by simp [hlt]
        have e2 : s.pend.getD i default = s.pend[i] := by simp [hip]
        simp only [crashDur, e1, hHi.out, Int.toNat_natCast, e2]
      have HStep := Lib.hid hstep
      clear hstep
      by_cases hlast : k + 1 = ord.length
      · have hl1 : ((k : Int) == (ord.length : Int) - 1) = true := by rw [beq_iff_eq]; omega
        by_cases ht : 0 ≤ torn
        · have e3 : tornS s.pend[i].2 torn (decide (k + 1 = ord.length)) = s.pend[i].2.extract 0 (min torn (s.pend[i].2.size : Int)).toNat := by simp [tornS, hlast, ht]
          have E3 := Lib.hid e3
          have HLast := Lib.hid hlast
          clear hlast e3
          go_wp2_with fail
          rw [← E3.out]
          generalize tornS s.pend[i].2 torn (decide (k + 1 = ord.length)) = ts at hts HStep E3 ⊢
          clear E3
          have hL := blk_new wr (.cells #[.int .i64 (s.pend[i].1 : Int), .string ts] 69)
          have hC6 := HCr.out.new ((Kept.refl (fun _ => False) wr).alloc (.cells #[.int .i64 (s.pend[i].1 : Int), .string ts] 69)) (fun _ h => h.elim)
          have hO6 := HOv.out.alloc (.cells #[.int .i64 (s.pend[i].1 : Int), .string ts] 69)
          generalize wr.alloc (.cells #[.int .i64 (s.pend[i].1 : Int), .string ts] 69) = W6 at hL hC6 hO6 ⊢
          have HL := Lib.hid hL
          have HC6 := Lib.hid hC6
          have HO6 := Lib.hid hO6
          clear hL hC6 hO6 hp1 hp2 hcg4 hck hcb
          refine region_tail 5 (by kernel_rfl) (by kernel_rfl) fun W7 d7 => ?_
          simp only [List.take_succ_cons, List.take_zero, List.drop_succ_cons, List.drop_zero]
          have HC7 := Lib.hid (HC6.out.new (d7.kept (fun _ => False)) (fun _ h => h.elim))
          have HO7 := Lib.hid (own_kept HO6.out (d7.kept (fun _ => False)) (fun _ _ h => h))
          have cL := blk_cell (d7.blk HL.out)
          have cB := blk_cell HC7.out.box
          have cg := blk_cell HC7.out.d.blk
          unfold DCells at cg
          repeat still_step
          refine wpStill_nil ?_
          clear cL cB cg d7
          go_wp2_with fail
          refine (onto_any _ s.pend[i].1 ts bd (crashDur s.pend torn ord s.dur k).length (bs (crashDur s.pend torn ord s.dur k)) HC7.out.d.dur (bs_length _) (by have := HIns.out; omega)).mono ?_
          rintro e W8 ⟨rfl, h8, k8⟩
          rw [bs_splice, ← HStep.out] at h8
          have hlen : (crashDur s.pend torn ord s.dur (k + 1)).length = (crashDur s.pend torn ord s.dur k).length := by
            rw [HStep.out]; exact length_splice _ _ _ (by rw [data_length]; have := HIns.out; omega)
          have hD8 := HC7.out.d.dset k8 h8 hlen
          have hbd := HC7.out.lt bd (.inr (.inl rfl))
          have HC8 := Lib.hid (show CrAt w W8 g bd bv pv { s with dur := crashDur s.pend torn ord s.dur (k + 1) } from ⟨hD8, k8.blk HC7.out.box (by omega), HC7.out.kept.trans' k8 (fun i hi => by subst hi; exact .inl (.inr (.inl rfl))), HC7.out.lt⟩)
          have HO8 := Lib.hid (own_kept HO7.out k8 (fun kk hkk e => by have := hv5b kk hkk; omega))
          clear h8 hD8 hlen
          go_wp2_with fail
          go_roundw
          case rel => exact ⟨k + 1, by omega, by go_num, HC8.out, HO8.out⟩
          case measure => simp [intOf]; omega
        · have e3 : tornS s.pend[i].2 torn (decide (k + 1 = ord.length)) = s.pend[i].2 := by simp [tornS, ht]
          have E3 := Lib.hid e3
          have HLast := Lib.hid hlast
          clear hlast e3
          go_wp2_with fail
          rw [← E3.out]
          generalize tornS s.pend[i].2 torn (decide (k + 1 = ord.length)) = ts at hts HStep E3 ⊢
          clear E3
          have hL := blk_new wr (.cells #[.int .i64 (s.pend[i].1 : Int), .string ts] 69)
          have hC6 := HCr.out.new ((Kept.refl (fun _ => False) wr).alloc (.cells #[.int .i64 (s.pend[i].1 : Int), .string ts] 69)) (fun _ h => h.elim)
          have hO6 := HOv.out.alloc (.cells #[.int .i64 (s.pend[i].1 : Int), .string ts] 69)
          generalize wr.alloc (.cells #[.int .i64 (s.pend[i].1 : Int), .string ts] 69) = W6 at hL hC6 hO6 ⊢
          have HL := Lib.hid hL
          have HC6 := Lib.hid hC6
          have HO6 := Lib.hid hO6
          clear hL hC6 hO6 hp1 hp2 hcg4 hck hcb
          refine region_tail 5 (by kernel_rfl) (by kernel_rfl) fun W7 d7 => ?_
          simp only [List.take_succ_cons, List.take_zero, List.drop_succ_cons, List.drop_zero]
          have HC7 := Lib.hid (HC6.out.new (d7.kept (fun _ => False)) (fun _ h => h.elim))
          have HO7 := Lib.hid (own_kept HO6.out (d7.kept (fun _ => False)) (fun _ _ h => h))
          have cL := blk_cell (d7.blk HL.out)
          have cB := blk_cell HC7.out.box
          have cg := blk_cell HC7.out.d.blk
          unfold DCells at cg
          repeat still_step
          refine wpStill_nil ?_
          clear cL cB cg d7
          go_wp2_with fail
          refine (onto_any _ s.pend[i].1 ts bd (crashDur s.pend torn ord s.dur k).length (bs (crashDur s.pend torn ord s.dur k)) HC7.out.d.dur (bs_length _) (by have := HIns.out; omega)).mono ?_
          rintro e W8 ⟨rfl, h8, k8⟩
          rw [bs_splice, ← HStep.out] at h8
          have hlen : (crashDur s.pend torn ord s.dur (k + 1)).length = (crashDur s.pend torn ord s.dur k).length := by
            rw [HStep.out]; exact length_splice _ _ _ (by rw [data_length]; have := HIns.out; omega)
          have hD8 := HC7.out.d.dset k8 h8 hlen
          have hbd := HC7.out.lt bd (.inr (.inl rfl))
          have HC8 := Lib.hid (show CrAt w W8 g bd bv pv { s with dur := crashDur s.pend torn ord s.dur (k + 1) } from ⟨hD8, k8.blk HC7.out.box (by omega), HC7.out.kept.trans' k8 (fun i hi => by subst hi; exact .inl (.inr (.inl rfl))), HC7.out.lt⟩)
          have HO8 := Lib.hid (own_kept HO7.out k8 (fun kk hkk e => by have := hv5b kk hkk; omega))
          clear h8 hD8 hlen
          go_wp2_with fail
          go_roundw
          case rel => exact ⟨k + 1, by omega, by go_num, HC8.out, HO8.out⟩
          case measure => simp [intOf]; omega
      · have hl1 : ((k : Int) == (ord.length : Int) - 1) = false := by rw [beq_eq_false_iff_ne]; omega
        have e3 : tornS s.pend[i].2 torn (decide (k + 1 = ord.length)) = s.pend[i].2 := by simp [tornS, hlast]
        have E3 := Lib.hid e3
        have HLast := Lib.hid hlast
        clear hlast e3
        go_wp2_with fail
        rw [← E3.out]
        generalize tornS s.pend[i].2 torn (decide (k + 1 = ord.length)) = ts at hts HStep E3 ⊢
        clear E3
        have hL := blk_new wr (.cells #[.int .i64 (s.pend[i].1 : Int), .string ts] 69)
        have hC6 := HCr.out.new ((Kept.refl (fun _ => False) wr).alloc (.cells #[.int .i64 (s.pend[i].1 : Int), .string ts] 69)) (fun _ h => h.elim)
        have hO6 := HOv.out.alloc (.cells #[.int .i64 (s.pend[i].1 : Int), .string ts] 69)
        generalize wr.alloc (.cells #[.int .i64 (s.pend[i].1 : Int), .string ts] 69) = W6 at hL hC6 hO6 ⊢
        have HL := Lib.hid hL
        have HC6 := Lib.hid hC6
        have HO6 := Lib.hid hO6
        clear hL hC6 hO6 hp1 hp2 hcg4 hck hcb
        refine region_tail 5 (by kernel_rfl) (by kernel_rfl) fun W7 d7 => ?_
        simp only [List.take_succ_cons, List.take_zero, List.drop_succ_cons, List.drop_zero]
        have HC7 := Lib.hid (HC6.out.new (d7.kept (fun _ => False)) (fun _ h => h.elim))
        have HO7 := Lib.hid (own_kept HO6.out (d7.kept (fun _ => False)) (fun _ _ h => h))
        have cL := blk_cell (d7.blk HL.out)
        have cB := blk_cell HC7.out.box
        have cg := blk_cell HC7.out.d.blk
        unfold DCells at cg
        repeat still_step
        refine wpStill_nil ?_
        clear cL cB cg d7
        go_wp2_with fail
        refine (onto_any _ s.pend[i].1 ts bd (crashDur s.pend torn ord s.dur k).length (bs (crashDur s.pend torn ord s.dur k)) HC7.out.d.dur (bs_length _) (by have := HIns.out; omega)).mono ?_
        rintro e W8 ⟨rfl, h8, k8⟩
        rw [bs_splice, ← HStep.out] at h8
        have hlen : (crashDur s.pend torn ord s.dur (k + 1)).length = (crashDur s.pend torn ord s.dur k).length := by
          rw [HStep.out]; exact length_splice _ _ _ (by rw [data_length]; have := HIns.out; omega)
        have hD8 := HC7.out.d.dset k8 h8 hlen
        have hbd := HC7.out.lt bd (.inr (.inl rfl))
        have HC8 := Lib.hid (show CrAt w W8 g bd bv pv { s with dur := crashDur s.pend torn ord s.dur (k + 1) } from ⟨hD8, k8.blk HC7.out.box (by omega), HC7.out.kept.trans' k8 (fun i hi => by subst hi; exact .inl (.inr (.inl rfl))), HC7.out.lt⟩)
        have HO8 := Lib.hid (own_kept HO7.out k8 (fun kk hkk e => by have := hv5b kk hkk; omega))
        clear h8 hD8 hlen
        go_wp2_with fail
        go_roundw
        case rel => exact ⟨k + 1, by omega, by go_num, HC8.out, HO8.out⟩
        case measure => simp [intOf]; omega
    · have hkl : k = ord.length := by omega
      have hcr' : CrAt w wr g bd bv pv { s with dur := crashDur s.pend torn ord s.dur ord.length } := by rw [← hkl]; exact hcr
      have hfin : s.crash keep torn = { off := false, left := 0, dur := crashDur s.pend torn ord s.dur ord.length, vis := crashDur s.pend torn ord s.dur ord.length, pend := [] } := by
        unfold DS.crash; rw [HOrd.out]
      have HFin := Lib.hid hfin
      have HCr := Lib.hid hcr'
      clear hcr hcr' hov hfin hkl
      generalize crashDur s.pend torn ord s.dur ord.length = dd at HCr HFin ⊢
      go_wp2_with fail
      refine region_tail 9 (by kernel_rfl) (by kernel_rfl) fun W7 d7 => ?_
      simp only [List.take_succ_cons, List.take_zero, List.drop_succ_cons, List.drop_zero]
      have HC7 := Lib.hid (HCr.out.new (d7.kept (fun _ => False)) (fun _ h => h.elim))
      have cB := blk_cell HC7.out.box
      have cg := blk_cell HC7.out.d.blk
      unfold DCells at cg
      repeat still_step
      refine wpStill_nil ?_
      clear cB cg d7
      go_wp2_with fail
      refine (settle_crash HC7.out.d).mono ?_
      rintro e W8 ⟨rfl, ⟨pv8, hD8⟩, hk8⟩
      have hbx8 := hk8.blk HC7.out.box (fun hf => by have := HC7.out.lt _ hf; omega)
      have cB := blk_cell hbx8
      have HD8 := Lib.hid hD8
      have HB8 := Lib.hid hbx8
      have cg := blk_cell hD8.blk
      unfold DCells at cg
      have fg := blk_frozen hD8.blk
      clear hD8 hbx8
      go_wp2_with fail
      go_ret
      have hk9 : Kept (· = g) W8 ((W8.setCell ⟨g, 0, none⟩ (.bool false)).setCell ⟨g, 1, none⟩ (.int .i64 0)) := ((Kept.refl (· = g) W8).setCell (p := ⟨g, 0, none⟩) (.inl rfl) _).setCell (p := ⟨g, 1, none⟩) (.inl rfl) _
      have hD9 := HD8.out.gset (s' := { off := false, left := 0, dur := dd, vis := dd, pend := [] }) hk9 (by rw [blk_set (blk_set HD8.out.blk 0 _) 1]; simp [DCells]) rfl rfl rfl (by simp)
      refine ⟨rfl, ⟨pv8, by rw [HFin.out]; exact hD9.mono fun kk hkk => .inl (HD.out.foot_F kk hkk)⟩, ?_⟩
      exact ((HC7.out.kept.trans hk8).trans' hk9 (fun i hi => by subst hi; exact .inl (.inl rfl))).mono (fun i hi => .inl (HD.out.foot_F i hi))
end Go.Proofs.Ytlocickppgddmaa
