import Derived.Test.YtlocickppgddmaaD3
import Derived.Deep.RegionLaw
namespace Go.Proofs.Ytlocickppgddmaa
open Go.RowKit
variable {w : World} {F : Nat → Prop} {g bd bv : Nat} {pv : Value} {s : DS}

theorem write_nil (w : World) (off : Int) (b : ByteArray) : Calls Try.prog 21 #[.pointer none, .int .i64 off, .string b] w fun e w' => e = .returned (.int .i64 1) ∧ w = w' := by
  go_enter Try.func21, Try.ntmps21
  go_wp2_with (go_at_call 28; refine (check_nil _).mono ?_; rintro e w' ⟨rfl, rfl⟩)
  go_ret
  exact ⟨rfl, rfl⟩

def DS.used (s : DS) : DS := if s.left = 0 then s else { s with left := s.left - 1, off := decide (s.left = 1) }
/-- Write -/
def DS.write (s : DS) (off : Int) (b : ByteArray) : DS × Int :=
  if s.off then (s, 281) else if fitsB off b.size s.dur.length then (({ s with vis := splice s.vis off.toNat b.data.toList, pend := s.pend ++ [(off.toNat, b)] } : DS).used, 0) else (s, 280)

theorem info69 : (Try.prog.info? 69).map (fun i => (i.zero, i.size, i.bytes)) = some (some (.agg #[.int .i64 0, .string ⟨#[]⟩]), 2, 24) := by kernel_rfl

theorem own_val {w : World} {base : Nat} {e : TypeId} {size n : Nat} {v : Value} {xs : List Value} (h : w.ownsRow base e size v n xs) (k : Nat) (hk : v.ownBlock = some k) : k < w.heap.size := (h.lt k hk).2

theorem write_mid (h : DAt w F g bd bv pv s) (hfew : s.pend.length < 1000) (o : Nat) (b : ByteArray) (hfit : o + b.size ≤ s.dur.length) {X : Obj} {w1 : World} {gg cap : Nat}
    (hown1 : w1.ownsRow 0 69 2 (.slice (some ⟨gg, 0, none⟩) (s.pend.length + 1) cap) (s.pend.length + 1) (pcells s.pend ++ [.int .i64 o, .string b]))
    (hgrow : ((w.alloc X).alloc X).drew.grownBy w1 pv.ownBlock) (hat : pv.ownBlock = some gg ∨ gg = w.heap.size + 2) :
    DAt (w1.setCell ⟨g, 4, none⟩ (.slice (some ⟨gg, 0, none⟩) (s.pend.length + 1) cap)) (fun k => F k ∨ w.heap.size ≤ k) g bd bv (.slice (some ⟨gg, 0, none⟩) (s.pend.length + 1) cap) { s with pend := s.pend ++ [(o, b)] } ∧
    (w1.setCell ⟨g, 4, none⟩ (.slice (some ⟨gg, 0, none⟩) (s.pend.length + 1) cap)).heap[w.heap.size]? = some X ∧ Kept F w (w1.setCell ⟨g, 4, none⟩ (.slice (some ⟨gg, 0, none⟩) (s.pend.length + 1) cap)) := by
  have hw := h.wf
  have hlg := blk_lt h.blk
  have hng := own_blk_ne h.pend h.blk (by decide)
  have hnd := own_blk_ne h.pend h.dur (by decide)
  have hnv := own_blk_ne h.pend h.vis (by decide)
  have hnl : pv.ownBlock ≠ some w.heap.size := fun e => by have := own_val h.pend _ e; omega
  have k1 : Kept (fun k => pv.ownBlock = some k) w w1 := (((Kept.refl (fun k => pv.ownBlock = some k) w).alloc X).alloc X).trans' ⟨hgrow.os, hgrow.tape, hgrow.output, hgrow.size, fun k hk hf => hgrow.block k hk (fun e => hf e.symm)⟩ (fun i hi => .inl hi)
  have hgb : w1.heap[g]? = some (.cells (DCells s bd bv pv) 65 (0, 0)) := k1.blk h.blk hng
  have hgg : gg ≠ g := by
    rcases hat with e | e
    · intro e2; subst e2; exact hng e
    · omega
  have hL : w1.heap[w.heap.size]? = some X := (hgrow.block w.heap.size (by show w.heap.size < ((w.alloc X).alloc X).heap.size; simp; omega) (fun e => hnl e.symm)).trans (blk_alloc (blk_new w X) X)
  have kk := (Kept.refl (· = g) w1).setCell (p := ⟨g, 4, none⟩) (.inl rfl) (.slice (some ⟨gg, 0, none⟩) (s.pend.length + 1) cap)
  refine ⟨⟨?_, ?_, ?_, ?_, h.ne, .inl h.fg, .inl h.fd, .inl h.fv, ?_, ⟨hw.len, hw.big, hw.left, by simp; omega, ?_⟩⟩, ?_, ?_⟩
  · rw [blk_set hgb 4]; simp [DCells]
  · exact kk.blk (k1.blk h.dur hnd) (blk_ne h.dur h.blk (by decide))
  · exact kk.blk (k1.blk h.vis hnv) (blk_ne h.vis h.blk (by decide))
  · show World.ownsRow _ 0 69 2 _ (s.pend ++ [(o, b)]).length (pcells (s.pend ++ [(o, b)]))
    rw [pcells_snoc, List.length_append, List.length_singleton]
    exact own_kept hown1 kk (fun k hk => by simp [Value.ownBlock] at hk; subst hk; exact hgg)
  · intro k hk
    simp [Value.ownBlock] at hk; subst hk
    rcases hat with e | e
    · exact .inl (h.fp _ e)
    · right; omega
  · intro p hp
    rcases List.mem_append.1 hp with hp | hp
    · exact hw.ins p hp
    · simp at hp; subst hp; exact hfit
  · exact kk.blk hL (by omega)
  · exact ((k1.mono (G := F) fun i hi => .inl (h.fp i hi)).trans' kk (fun i hi => by subst hi; exact .inl h.fg))

theorem DAt.vset (h : DAt w F g bd bv pv s) {w' : World} {l : List UInt8} (hk : Kept (· = bv) w w') (hb : w'.heap[bv]? = some (.cells (bs l).toArray 5 (0, 0))) (hl : l.length = s.vis.length) :
    DAt w' F g bd bv pv { s with vis := l } := by
  have hw := h.wf
  have n1 := blk_ne h.blk h.vis (by decide)
  have n3 := own_blk_ne h.pend h.vis (by decide)
  exact ⟨hk.blk h.blk n1, hk.blk h.dur h.ne, hb, own_kept h.pend hk (fun k hk' e => n3 (by rw [hk', e])), h.ne, h.fg, h.fd, h.fv, h.fp, ⟨hl.trans hw.len, hw.big, hw.left, hw.few, hw.ins⟩⟩

theorem used_any (h : DAt w F g bd bv pv s) : Calls Try.prog 36 #[.pointer (some ⟨g, 0, none⟩)] w (StPost w F g bd bv s.used) := by
  have hc := h.cell
  unfold DCells at hc
  have hc0 : w.cell? ⟨g, 0, none⟩ = some (.bool s.off) := by rw [hc]; rfl
  have hc1 : w.cell? ⟨g, 1, none⟩ = some (.int .i64 s.left) := by rw [hc]; rfl
  have hf := blk_frozen h.blk
  by_cases h0 : s.left = 0
  · refine (used_zero w g (by rw [hc1, h0]; rfl)).mono ?_
    rintro e w' ⟨rfl, rfl⟩
    exact ⟨rfl, ⟨pv, by simp only [DS.used, h0, if_true]; exact h⟩, Kept.refl _ _⟩
  · refine (used_pos w g s.left s.off (by omega) h.wf.left hc0 hc1 (hf 0) (hf 1)).mono ?_
    rintro e w' ⟨rfl, rfl⟩
    have hk := (((Kept.refl (· = g) w).setCell (p := ⟨g, 1, none⟩) (.inl rfl) (.int .i64 ((s.left - 1 : Nat) : Int)))).setCell (p := ⟨g, 0, none⟩) (.inl rfl) (.bool (decide (s.left = 1)))
    refine ⟨rfl, ⟨pv, ?_⟩, hk.mono (fun i hi => by subst hi; exact .inl h.fg)⟩
    have hu : s.used = { s with left := s.left - 1, off := decide (s.left = 1) } := by simp [DS.used, h0]
    rw [hu]
    refine h.gset hk ?_ rfl rfl rfl (by have := h.wf.left; simp; omega)
    rw [blk_set (blk_set h.blk 1 _) 0]; simp [DCells]

set_option maxHeartbeats 2000000 in
set_option maxRecDepth 100000 in
theorem write_any (h : DAt w F g bd bv pv s) (hfew : s.pend.length < 1000) (off : Int) (b : ByteArray) : Calls Try.prog 21 #[.pointer (some ⟨g, 0, none⟩), .int .i64 off, .string b] w (OpPost w F g bd bv (s.write off b).1 (s.write off b).2) := by
  have hc := h.cell
  unfold DCells at hc
  have hc0 : w.cell? ⟨g, 0, none⟩ = some (.bool s.off) := by rw [hc]; rfl
  have hc2 : w.cell? ⟨g, 2, none⟩ = some (.slice (some ⟨bd, 0, none⟩) s.dur.length s.dur.length) := by rw [hc]; rfl
  cases ho : s.off with
  | true =>
    have hr : s.write off b = (s, 281) := by simp [DS.write, ho]
    have HR := Lib.hid hr
    have HD := Lib.hid h
    rw [ho] at hc0
    clear h hr ho hc hc2
    rw [HR.out]
    go_enter Try.func21, Try.ntmps21
    go_wp2_with (go_at_call 28; refine (check_off _ g hc0).mono ?_; rintro e w' ⟨rfl, rfl⟩)
    go_ret
    exact ⟨rfl, ⟨_, HD.out.mono fun k hk => .inl hk⟩, Kept.refl _ _⟩
  | false =>
    rw [ho] at hc0 hc
    have hbig := h.wf.big
    cases hf : fitsB off b.size s.dur.length with
    | false =>
      have hr : s.write off b = (s, 280) := by simp [DS.write, ho, hf]
      have HR := Lib.hid hr
      have HF := Lib.hid hf
      have HD := Lib.hid h
      clear h hr ho hc hf
      rw [HR.out]
      go_enter Try.func21, Try.ntmps21
      go_wp2_with (first | (go_at_call 28; refine (check_on _ g hc0).mono ?_; rintro e w' ⟨rfl, rfl⟩) | (go_at_call 29; refine (inside_any _ g off _ _ _ hbig hc2).mono ?_; rintro e w' ⟨rfl, rfl⟩; rw [HF.out]))
      go_ret
      exact ⟨rfl, ⟨_, HD.out.mono fun k hk => .inl hk⟩, Kept.refl _ _⟩
    | true =>
      have hr : s.write off b = (({ s with vis := splice s.vis off.toNat b.data.toList, pend := s.pend ++ [(off.toNat, b)] } : DS).used, 0) := by simp [DS.write, ho, hf]
      have HR := Lib.hid hr
      have HF := Lib.hid hf
      have HD := Lib.hid h
      simp [fitsB] at hf
      obtain ⟨a1, a2⟩ := hf
      obtain ⟨o, rfl⟩ := Int.eq_ofNat_of_zero_le a1
      have b3 : o + b.size ≤ s.dur.length := by omega
      have hlg := blk_lt h.blk
      have hgL : g ≠ w.heap.size := by omega
      have hown := Lib.hid h.pend
      have hng := own_blk_ne h.pend h.blk (by decide)
      have hnl : pv.ownBlock ≠ some w.heap.size := fun e => by have := (h.pend.lt _ e).2; omega
      have hfz := blk_frozen h.blk
      clear h hr ho a1 a2
      rw [HR.out]
      obtain ⟨i0, hi0, hz0, hz1, hz2⟩ := info_parts info69
      go_enter Try.func21, Try.ntmps21
      go_wp2_with (first | (go_at_call 28; refine (check_on _ g hc0).mono ?_; rintro e w' ⟨rfl, rfl⟩) | (go_at_call 29; refine (inside_any _ g _ _ _ _ hbig hc2).mono ?_; rintro e w' ⟨rfl, rfl⟩; rw [HF.out]))
      have s1 : w.cell? ⟨g, 4, none⟩ = some pv := by rw [hc]; rfl
      clear hc0 hc2 hc
      have hnewL : ((w.alloc (.cells #[.int .i64 o, .string b] 69)).alloc (.cells #[.int .i64 o, .string b] 69)).drew.heap[w.heap.size + 1]? = some (.cells #[.int .i64 o, .string b] 69) := by have e := heap_alloc_new (w.alloc (.cells #[.int .i64 o, .string b] 69)) (.cells #[.int .i64 o, .string b] 69); rw [World.size_alloc] at e; exact e
      have hfL : ((w.alloc (.cells #[.int .i64 o, .string b] 69)).alloc (.cells #[.int .i64 o, .string b] 69)).drew.frozen? ⟨g, 4, none⟩ = false := blk_frozen (g := g) (blk_alloc (blk_alloc HD.out.blk _) _) 4
      have hcL : ((w.alloc (.cells #[.int .i64 o, .string b] 69)).alloc (.cells #[.int .i64 o, .string b] 69)).drew.cell? ⟨g, 4, none⟩ = some pv := blk_cell (g := g) (blk_alloc (blk_alloc HD.out.blk _) _) 4
      obtain ⟨pa, pn, pc, rfl, _⟩ : ∃ a n c, pv = .slice a n c ∧ True := by obtain ⟨a, c, h, _⟩ := own_form HD.out.pend; exact ⟨a, _, c, h, trivial⟩
      go_region_law
        ((refine step_append_lies _ (by rfl) _ _ _ (by rfl) 0 69 i0 _ 2 24 Try.underlying63 hi0 hz0 hz1 hz2 rfl (by omega) _ s.pend.length (pcells s.pend) (by rfl) (((hown.out.alloc _).alloc _).drew)
            ⟨w.heap.size + 1, 0, none⟩ 1 1 [.int .i64 o, .string b] (by rfl) (by rfl) (World.news_of_block (cs := #[.int .i64 o, .string b]) (t := 69) (fr := (0, 0)) hnewL) (by simp [Value.oneCell'])
            (by omega) (by unfold maxLen; omega) (by omega) (Nat.zero_le _) (w.heap.size + 2) (by simp) ?_; intro gg cap w1 hown1 hgrow hat hlt; have hfg : w1.frozen? ⟨g, 4, none⟩ = false := (hgrow.frozen_far _ (by simp; omega) (Ne.symm hng)).trans hfL; have hcg : w1.cell? ⟨g, 4, none⟩ = some (.slice pa pn pc) := (hgrow.cell_far _ (by simp; omega) (Ne.symm hng)).trans hcL))
      all_goals
        obtain ⟨m1, m2, m3⟩ := write_mid HD.out hfew o b b3 hown1 hgrow hat
        generalize w1.setCell ⟨g, 4, none⟩ (.slice (some ⟨gg, 0, none⟩) (s.pend.length + 1) cap) = w3 at m1 m2 m3 ⊢
        generalize Value.slice (some ⟨gg, 0, none⟩) (s.pend.length + 1) cap = pv3 at m1
        clear hown1 hgrow hat hfg hcg hlt hown s1 hcL hfL hnewL hi0 hz0 hz1 hz2 hng hnl hfz hgL
        have hlv : (bs s.vis).length = s.dur.length := by rw [bs_length]; exact HD.out.wf.len
        have HLV := Lib.hid hlv
        have M1 := Lib.hid m1
        have M2 := Lib.hid m2
        clear m1 m2 hlv
        go_wp2_with fail
        refine region_tail 5 (by kernel_rfl) (by kernel_rfl) fun w4 d4 => ?_
        simp only [List.take_succ_cons, List.take_zero, List.drop_succ_cons, List.drop_zero]
        have c4 := blk_cell (d4.blk M1.out.blk)
        unfold DCells at c4
        have cL := blk_cell (d4.blk M2.out)
        have m4 := Lib.hid (M1.out.kept (d4.kept (fun _ => False)) (fun _ _ h => h))
        repeat still_step
        refine wpStill_nil ?_
        clear c4 cL
        go_wp2_with fail
        refine (onto_any _ o b bv s.dur.length (bs s.vis) m4.out.vis HLV.out b3).mono ?_
        rintro e w5 ⟨rfl, h5, k5⟩
        rw [bs_splice] at h5
        have m5 := Lib.hid (m4.out.vset k5 h5 (length_splice _ _ _ (by rw [data_length]; rw [bs_length] at HLV; rw [HLV.out]; exact b3)))
        clear h5
        go_wp2_with fail
        refine (used_any m5.out).mono ?_
        rintro e w6 ⟨rfl, ⟨pv6, h6⟩, k6⟩
        have H6 := Lib.hid h6
        clear h6
        go_wp2_with fail
        go_ret
        refine ⟨rfl, ⟨pv6, by simpa using H6.out⟩, ?_⟩
        exact ((m3.drw d4).trans' k5 (fun i hi => by subst hi; exact .inl HD.out.fv)).trans' k6 (fun i hi => by rcases hi with hi | hi; exact .inl hi; exact .inr hi)
end Go.Proofs.Ytlocickppgddmaa
