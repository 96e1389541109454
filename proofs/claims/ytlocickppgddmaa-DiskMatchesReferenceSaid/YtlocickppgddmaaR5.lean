import Derived.Test.YtlocickppgddmaaR4
import Derived.Deep.AppendLies
namespace Go.Proofs.Ytlocickppgddmaa
open Go.RowKit
variable {w : World} {F : Nat → Prop} {g sb scap : Nat} {lv : Value} {s : DS}

theorem info80 : (Try.prog.info? 80).map (fun i => (i.zero, i.size, i.bytes)) = some (some (.agg #[.int .i64 0, .string ⟨#[]⟩]), 2, 24) := by kernel_rfl
theorem pcells_len (l : List (Nat × ByteArray)) : (pcells l).length = l.length * 2 := by
  induction l with
  | nil => rfl
  | cons p l ih => simp [pcells] at *; omega
theorem rwrite_mid (h : RAt w F g sb scap lv s) (hfew : s.pend.length < 1000) (o : Nat) (b : ByteArray) (hfit : o + b.size ≤ s.dur.length) {X : Obj} {w1 : World} {gg cap H : Nat} (hH : w.heap.size ≤ H)
    (hown : w1.ownsRow 0 80 2 (.slice (some ⟨gg, 0, none⟩) (s.pend.length + 1) cap) (s.pend.length + 1) (pcells s.pend ++ [.int .i64 o, .string b])) (hg : (w.alloc X).grownBy w1 lv.ownBlock) (hat : lv.ownBlock = some gg ∨ gg = H) :
    w1.cell? ⟨g, 1, none⟩ = some lv ∧ w1.frozen? ⟨g, 1, none⟩ = false ∧
      RAt (w1.setCell ⟨g, 1, none⟩ (.slice (some ⟨gg, 0, none⟩) (s.pend.length + 1) cap)) (fun k => F k ∨ w.heap.size ≤ k) g sb scap (.slice (some ⟨gg, 0, none⟩) (s.pend.length + 1) cap) { s with vis := splice s.vis o b.data.toList, pend := s.pend ++ [(o, b)] } ∧ Kept F w (w1.setCell ⟨g, 1, none⟩ (.slice (some ⟨gg, 0, none⟩) (s.pend.length + 1) cap)) := by
  have hK : Kept (fun k => lv.ownBlock = some k) w w1 := ((Kept.refl _ w).alloc X).trans (Kept.of_grown hg (fun k e => .inl e))
  have ng := own_blk_ne h.pend h.blk (by decide)
  have hb1 := hK.blk h.blk ng
  have hs1 : BRow w1 sb scap s.dur := by
    obtain ⟨cur, q1, q2⟩ := h.sure
    exact h.sure.kept hK (own_blk_ne h.pend q1 (by decide))
  have hb2 := blk_set hb1 1 (.slice (some ⟨gg, 0, none⟩) (s.pend.length + 1) cap)
  have hk2 : Kept (· = g) w1 (w1.setCell ⟨g, 1, none⟩ (.slice (some ⟨gg, 0, none⟩) (s.pend.length + 1) cap)) := (Kept.refl (· = g) w1).setCell (p := ⟨g, 1, none⟩) (.inl rfl) _
  have nv := own_blk_ne hown hb1 (by decide)
  have hlen : (splice s.vis o b.data.toList).length = s.vis.length := length_splice _ _ _ (by rw [data_length, h.wf.len]; exact hfit)
  refine ⟨by rw [blk_cell hb1]; rfl, blk_frozen hb1 1, ⟨by rw [hb2]; simp, ?_, ?_, .inl h.fg, .inl h.fs, ?_, ?_, ?_, h.cap_, h.pos⟩, ?_⟩
  · obtain ⟨cur, q1, q2⟩ := hs1
    exact BRow.kept ⟨cur, q1, q2⟩ hk2 (blk_ne q1 hb1 (by decide))
  · have e : pcells (s.pend ++ [(o, b)]) = pcells s.pend ++ [.int .i64 o, .string b] := pcells_snoc _ _
    show World.ownsRow _ 0 80 2 _ (s.pend ++ [(o, b)]).length (pcells (s.pend ++ [(o, b)]))
    rw [e, List.length_append, List.length_singleton]
    exact own_kept hown hk2 (fun k hk' e => nv (by rw [hk', e]))
  · intro k hk
    simp [Value.ownBlock] at hk; subst hk
    rcases hat with e | e
    · exact .inl (h.fp _ e)
    · right; omega
  · exact ⟨(by show (splice s.vis o b.data.toList).length = _; rw [hlen]; exact h.wf.len), h.wf.big, h.wf.left, (by show (s.pend ++ [(o, b)]).length ≤ 1000; simp; omega), fun p hp => by
      rcases List.mem_append.1 hp with hp | hp
      · exact h.wf.ins p hp
      · simp at hp; subst hp; exact hfit⟩
  · show splice s.vis o b.data.toList = laid s.dur (s.pend ++ [(o, b)])
    rw [laid_snoc, h.vis]
  · exact (hK.mono (G := F) (fun k hk => .inl (h.fp k hk))).trans' hk2 (fun i hi => .inl (by rw [hi]; exact h.fg))

theorem dused_zero (s : DS) (h : s.left = 0) : s.used = s := by simp [DS.used, h]
theorem dused_succ (s : DS) (l : Nat) (h : s.left = l + 1) : s.used = { s with left := l, off := decide (l = 0) } := by
  have : ¬ s.left = 0 := by omega
  simp only [DS.used, this, if_false, h]
  congr 1
  simp

theorem rw_c3 {W : World} {l : Nat} (h : RAt W F g sb scap lv s) (hl : s.left = l) : W.cell? ⟨g, 3, none⟩ = some (.int .i64 (l : Int)) := by rw [blk_cell h.blk, hl]; rfl
theorem rw_more {W : World} {G : Nat → Prop} (h : RAt W G g sb scap lv s) (hk : Kept F w W) (hf : s.off = false) (l : Nat) (hl : l ≤ 9223372036854775807) :
    W.frozen? ⟨g, 3, none⟩ = false ∧ (W.setCell ⟨g, 3, none⟩ (.int .i64 (l : Int))).cell? ⟨g, 3, none⟩ = some (.int .i64 (l : Int)) ∧ RAt (W.setCell ⟨g, 3, none⟩ (.int .i64 (l : Int))) G g sb scap lv { s with off := false, left := l } ∧ Kept (fun k => F k ∨ k = g) w (W.setCell ⟨g, 3, none⟩ (.int .i64 (l : Int))) := by
  have hb := blk_set h.blk 3 (.int .i64 (l : Int))
  have hk1 : Kept (· = g) W (W.setCell ⟨g, 3, none⟩ (.int .i64 (l : Int))) := (Kept.refl (· = g) W).setCell (p := ⟨g, 3, none⟩) (.inl rfl) _
  refine ⟨blk_frozen h.blk 3, by rw [blk_cell hb]; rfl, h.gset hk1 false l hl (by rw [hb]; simp [RCells, hf]), (hk.mono (fun k h => .inl (.inl h))).trans' hk1 (fun i hi => .inl (.inr hi))⟩
theorem rw_last {W : World} {G : Nat → Prop} (h : RAt W G g sb scap lv s) (hk : Kept F w W) (hf : s.off = false) :
    W.frozen? ⟨g, 3, none⟩ = false ∧ (W.setCell ⟨g, 3, none⟩ (.int .i64 0)).cell? ⟨g, 3, none⟩ = some (.int .i64 0) ∧ (W.setCell ⟨g, 3, none⟩ (.int .i64 0)).frozen? ⟨g, 2, none⟩ = false ∧ (W.setCell ⟨g, 3, none⟩ (.int .i64 0)).cell? ⟨g, 2, none⟩ = some (.bool false) ∧
    RAt ((W.setCell ⟨g, 3, none⟩ (.int .i64 0)).setCell ⟨g, 2, none⟩ (.bool true)) G g sb scap lv { s with off := true, left := 0 } ∧ Kept (fun k => F k ∨ k = g) w ((W.setCell ⟨g, 3, none⟩ (.int .i64 0)).setCell ⟨g, 2, none⟩ (.bool true)) := by
  have hb := blk_set h.blk 3 (.int .i64 0)
  have hb2 := blk_set hb 2 (.bool true)
  have hk1 : Kept (· = g) W ((W.setCell ⟨g, 3, none⟩ (.int .i64 0)).setCell ⟨g, 2, none⟩ (.bool true)) := ((Kept.refl (· = g) W).setCell (p := ⟨g, 3, none⟩) (.inl rfl) _).setCell (p := ⟨g, 2, none⟩) (.inl rfl) _
  exact ⟨blk_frozen h.blk 3, by rw [blk_cell hb]; rfl, blk_frozen hb 2, by rw [blk_cell hb]; simp [hf], h.gset hk1 true 0 (by omega) (by rw [hb2]; simp [RCells]), (hk.mono (fun k h => .inl (.inl h))).trans' hk1 (fun i hi => .inl (.inr hi))⟩

set_option maxHeartbeats 4000000 in
set_option maxRecDepth 100000 in
theorem rwrite_any (h : RAt w F g sb scap lv s) (hfew : s.pend.length < 1000) (off : Int) (b : ByteArray) (hbs : b.size ≤ 9223372036854775807) : Calls Try.prog 30 #[.pointer (some ⟨g, 0, none⟩), .int .i64 off, .string b] w (RPost w F g (s.write off b).1 (s.write off b).2) := by
  have hc := blk_cell h.blk
  have hc2 : w.cell? ⟨g, 2, none⟩ = some (.bool s.off) := by rw [hc]; rfl
  have hc0 : w.cell? ⟨g, 0, none⟩ = some (.slice (some ⟨sb, 0, none⟩) s.dur.length scap) := by rw [hc]; rfl
  have hbig := h.wf.big
  cases ho : s.off with
  | true =>
    have hr : s.write off b = (s, 281) := by simp [DS.write, ho]
    have HR := Lib.hid hr
    have HD := Lib.hid h
    rw [ho] at hc2
    clear h hr ho hc hc0
    rw [HR.out]
    go_enter Try.func30, Try.ntmps30
    go_wp2
    go_ret
    exact HD.out.same _ _ rfl
  | false =>
    rw [ho] at hc2
    cases hf : fitsB off b.size s.dur.length with
    | false =>
      have hr : s.write off b = (s, 280) := by simp [DS.write, ho, hf]
      have HR := Lib.hid hr
      have HD := Lib.hid h
      have hcs := fits_no hf
      clear h hr ho hc hf
      rw [HR.out]
      rcases hcs with h1 | ⟨h1, h2⟩ | ⟨h1, h2, h3⟩ | ⟨h1, h2, h3, h4⟩
      · go_enter Try.func30, Try.ntmps30
        go_wp2
        go_ret
        exact HD.out.same _ _ rfl
      · omega
      · go_enter Try.func30, Try.ntmps30
        go_wp2
        go_ret
        exact HD.out.same _ _ rfl
      · go_enter Try.func30, Try.ntmps30
        go_wp2
        go_ret
        exact HD.out.same _ _ rfl
    | true =>
      have hr : s.write off b = (({ s with vis := splice s.vis off.toNat b.data.toList, pend := s.pend ++ [(off.toNat, b)] } : DS).used, 0) := by simp [DS.write, ho, hf]
      have HR := Lib.hid hr
      have HD := Lib.hid h
      simp [fitsB] at hf
      obtain ⟨a1, a2⟩ := hf
      obtain ⟨o, rfl⟩ := Int.eq_ofNat_of_zero_le a1
      have b3 : o + b.size ≤ s.dur.length := by omega
      have hc1 : w.cell? ⟨g, 1, none⟩ = some lv := by rw [hc]; rfl
      have hc3 : w.cell? ⟨g, 3, none⟩ = some (.int .i64 s.left) := by rw [hc]; rfl
      obtain ⟨la, lc, rfl, _⟩ := own_form h.pend
      have hown := h.pend.alloc (.cells #[.int .i64 o, .string b] 80)
      have hnl : w.heap.size ≤ w.heap.size + 1 := by omega
      have hleft := h.wf.left
      obtain ⟨i0, hi0, hz0, hz1, hz2⟩ := info_parts info80
      clear h hr a1 a2 hc
      rw [HR.out]
      clear HR
      simp only [Int.toNat_natCast]
      have HO := Lib.hid ho
      clear ho
      rcases Nat.eq_zero_or_pos s.left with hl0 | hlp
      · have HL := Lib.hid hl0
        rw [dused_zero ({ s with vis := splice s.vis o b.data.toList, pend := s.pend ++ [(o, b)] } : DS) hl0]
        rw [hl0] at hc3
        clear hl0 hleft
        go_enter Try.func30, Try.ntmps30
        go_wp2_with (at_builtin; refine wpList_append_lies _ rfl _ _ 41 rfl 0 80 i0 _ 2 24 Try.underlying41 hi0 hz0 hz1 hz2 rfl (by decide) _ s.pend.length (pcells s.pend) rfl hown ⟨w.heap.size, 0, none⟩ 1 1 [.int .i64 o, .string b] rfl rfl (World.news_of_block (cs := #[.int .i64 o, .string b]) (t := 80) (fr := (0, 0)) (heap_alloc_new w _)) (by simp [Value.oneCell']) (by omega) (by unfold maxLen; omega) (by omega) (Nat.zero_le _) (w.heap.size + 1) (by simp) ?_; intro gg cap w1 hown1 hgrow hat hlt; obtain ⟨m1, m2, m3, m4⟩ := rwrite_mid HD.out hfew o b b3 hnl hown1 hgrow hat; have M3 := Lib.hid m3; have M4 := Lib.hid m4; have d3 := rw_c3 m3 HL.out; clear m3 m4 hown1 hgrow hat hlt)
        go_ret
        exact ⟨rfl, ⟨_, _, _, M3.out⟩, M4.out⟩
      · obtain ⟨l, hl⟩ : ∃ l, s.left = l + 1 := ⟨s.left - 1, by omega⟩
        have HL := Lib.hid hl
        rw [dused_succ ({ s with vis := splice s.vis o b.data.toList, pend := s.pend ++ [(o, b)] } : DS) l hl]
        rw [hl] at hc3 hleft
        clear hl hlp
        by_cases hl0 : l = 0
        · subst hl0
          go_enter Try.func30, Try.ntmps30
          go_wp2_with (at_builtin; refine wpList_append_lies _ rfl _ _ 41 rfl 0 80 i0 _ 2 24 Try.underlying41 hi0 hz0 hz1 hz2 rfl (by decide) _ s.pend.length (pcells s.pend) rfl hown ⟨w.heap.size, 0, none⟩ 1 1 [.int .i64 o, .string b] rfl rfl (World.news_of_block (cs := #[.int .i64 o, .string b]) (t := 80) (fr := (0, 0)) (heap_alloc_new w _)) (by simp [Value.oneCell']) (by omega) (by unfold maxLen; omega) (by omega) (Nat.zero_le _) (w.heap.size + 1) (by simp) ?_; intro gg cap w1 hown1 hgrow hat hlt; obtain ⟨m1, m2, m3, m4⟩ := rwrite_mid HD.out hfew o b b3 hnl hown1 hgrow hat; have M3 := Lib.hid m3; have M4 := Lib.hid m4; have d3 := rw_c3 m3 HL.out; obtain ⟨d4, d5, d6, d7, d8, d9⟩ := rw_last m3 m4 HO.out; have D8 := Lib.hid d8; have D9 := Lib.hid d9; clear d8 d9; clear m3 m4 hown1 hgrow hat hlt)
          go_ret
          exact ⟨rfl, ⟨_, _, _, D8.out⟩, D9.out.mono fun k hk => .inl (hk.elim id (fun e => by rw [e]; exact HD.out.fg))⟩
        · have hz : ((l : Int) == 0) = false := by simp [hl0]
          have hd : decide (l = 0) = false := by simp [hl0]
          rw [hd]
          have HN0 := Lib.hid hl0
          clear hl0 hd
          go_enter Try.func30, Try.ntmps30
          go_wp2_with (at_builtin; refine wpList_append_lies _ rfl _ _ 41 rfl 0 80 i0 _ 2 24 Try.underlying41 hi0 hz0 hz1 hz2 rfl (by decide) _ s.pend.length (pcells s.pend) rfl hown ⟨w.heap.size, 0, none⟩ 1 1 [.int .i64 o, .string b] rfl rfl (World.news_of_block (cs := #[.int .i64 o, .string b]) (t := 80) (fr := (0, 0)) (heap_alloc_new w _)) (by simp [Value.oneCell']) (by omega) (by unfold maxLen; omega) (by omega) (Nat.zero_le _) (w.heap.size + 1) (by simp) ?_; intro gg cap w1 hown1 hgrow hat hlt; obtain ⟨m1, m2, m3, m4⟩ := rwrite_mid HD.out hfew o b b3 hnl hown1 hgrow hat; have M3 := Lib.hid m3; have M4 := Lib.hid m4; have d3 := rw_c3 m3 HL.out; obtain ⟨d4, d5, d8, d9⟩ := rw_more m3 m4 HO.out l (by omega); have D8 := Lib.hid d8; have D9 := Lib.hid d9; clear d8 d9; clear m3 m4 hown1 hgrow hat hlt)
          go_ret
          exact ⟨rfl, ⟨_, _, _, D8.out⟩, D9.out.mono fun k hk => .inl (hk.elim id (fun e => by rw [e]; exact HD.out.fg))⟩
end Go.Proofs.Ytlocickppgddmaa
