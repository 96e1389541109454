import Derived.Test.YtlocickppgddmaaD2
namespace Go.Proofs.Ytlocickppgddmaa
open Go.RowKit
variable {w : World} {F : Nat → Prop} {g bd bv : Nat} {pv : Value} {s : DS}

theorem sync_nil (w : World) : Calls Try.prog 23 #[.pointer none] w fun e w' => e = .returned (.int .i64 1) ∧ w = w' := by
  go_enter Try.func23, Try.ntmps23
  go_wp2_with (go_at_call 28; refine (check_nil _).mono ?_; rintro e w' ⟨rfl, rfl⟩)
  go_ret
  exact ⟨rfl, rfl⟩

/-- Sync -/
def DS.sync (s : DS) : DS × Int := if s.off then (s, 281) else ({ s with dur := s.vis, pend := [] }, 0)

def OpPost (w : World) (F : Nat → Prop) (g bd bv : Nat) (s : DS) (r : Int) (e : Ending) (w' : World) : Prop :=
  e = .returned (.int .i64 r) ∧ (∃ pv, DAt w' (fun k => F k ∨ w.heap.size ≤ k) g bd bv pv s) ∧ Kept F w w'

def StPost (w : World) (F : Nat → Prop) (g bd bv : Nat) (s : DS) (e : Ending) (w' : World) : Prop :=
  e = .returned (.tuple #[]) ∧ (∃ pv, DAt w' F g bd bv pv s) ∧ Kept F w w'

theorem settle_sync (h : DAt w F g bd bv pv s) : Calls Try.prog 37 #[.pointer (some ⟨g, 0, none⟩), .slice (some ⟨bv, 0, none⟩) s.dur.length s.dur.length, .slice (some ⟨bd, 0, none⟩) s.dur.length s.dur.length] w
    (StPost w F g bd bv { s with dur := s.vis, pend := [] }) := by
  have hw := h.wf
  refine (settle_any w (fun k => k = g ∨ k = bd ∨ pv.ownBlock = some k) g bv bd s.dur.length s.pend.length pv _ _ _ _ _ (bs s.vis) (bs s.dur) h.blk h.vis h.dur (by rw [bs_length]; exact hw.len) (bs_length _) (bs_one _) h.pend (.inl rfl) (.inr (.inl rfl)) (fun k hk => .inr (.inr hk))).mono ?_
  rintro e w' ⟨rfl, h1, ⟨pv', h2, h3, h4⟩, h5⟩
  have n1 := blk_ne h.vis h.blk (by decide)
  have n2 := own_blk_ne h.pend h.vis (by decide)
  have hv := h5.blk h.vis (by rintro (e | e | e); exact n1 e; exact h.ne e.symm; exact n2 e)
  exact ⟨rfl, ⟨pv', ⟨by rw [h4 _ h.blk]; simp [DCells, hw.len], h1, hv, h2, h.ne, h.fg, h.fd, h.fv, fun k hk => h.fp k (by rw [← h3]; exact hk), ⟨rfl, by show s.vis.length ≤ _; rw [hw.len]; exact hw.big, hw.left, Nat.zero_le _, fun p hp => by cases hp⟩⟩⟩,
    h5.mono fun i hi => .inl (by rcases hi with rfl | rfl | hi; exact h.fg; exact h.fd; exact h.fp _ hi)⟩

theorem settle_crash (h : DAt w F g bd bv pv s) : Calls Try.prog 37 #[.pointer (some ⟨g, 0, none⟩), .slice (some ⟨bd, 0, none⟩) s.dur.length s.dur.length, .slice (some ⟨bv, 0, none⟩) s.dur.length s.dur.length] w
    (StPost w F g bd bv { s with vis := s.dur, pend := [] }) := by
  have hw := h.wf
  refine (settle_any w (fun k => k = g ∨ k = bv ∨ pv.ownBlock = some k) g bd bv s.dur.length s.pend.length pv _ _ _ _ _ (bs s.dur) (bs s.vis) h.blk h.dur h.vis (bs_length _) (by rw [bs_length]; exact hw.len) (bs_one _) h.pend (.inl rfl) (.inr (.inl rfl)) (fun k hk => .inr (.inr hk))).mono ?_
  rintro e w' ⟨rfl, h1, ⟨pv', h2, h3, h4⟩, h5⟩
  have n1 := blk_ne h.dur h.blk (by decide)
  have n2 := own_blk_ne h.pend h.dur (by decide)
  have hv := h5.blk h.dur (by rintro (e | e | e); exact n1 e; exact h.ne e; exact n2 e)
  exact ⟨rfl, ⟨pv', ⟨by rw [h4 _ h.blk]; simp [DCells], hv, h1, h2, h.ne, h.fg, h.fd, h.fv, fun k hk => h.fp k (by rw [← h3]; exact hk), ⟨rfl, hw.big, hw.left, Nat.zero_le _, fun p hp => by cases hp⟩⟩⟩,
    h5.mono fun i hi => .inl (by rcases hi with rfl | rfl | hi; exact h.fg; exact h.fv; exact h.fp _ hi)⟩

set_option maxHeartbeats 1000000 in
set_option maxRecDepth 100000 in
theorem sync_any (h : DAt w F g bd bv pv s) : Calls Try.prog 23 #[.pointer (some ⟨g, 0, none⟩)] w (OpPost w F g bd bv s.sync.1 s.sync.2) := by
  have hc := h.cell
  unfold DCells at hc
  have hc0 : w.cell? ⟨g, 0, none⟩ = some (.bool s.off) := by rw [hc]; rfl
  cases ho : s.off with
  | true =>
    have hr : s.sync = (s, 281) := by simp [DS.sync, ho]
    have HR := Lib.hid hr
    have HD := Lib.hid h
    rw [ho] at hc0
    clear h hr ho hc
    rw [HR.out]
    go_enter Try.func23, Try.ntmps23
    go_wp2_with (go_at_call 28; refine (check_off _ g hc0).mono ?_; rintro e w' ⟨rfl, rfl⟩)
    go_ret
    exact ⟨rfl, ⟨_, HD.out.mono fun k hk => .inl hk⟩, Kept.refl _ _⟩
  | false =>
    rw [ho] at hc0 hc
    have hr : s.sync = ({ s with dur := s.vis, pend := [] }, 0) := by simp [DS.sync, ho]
    have HR := Lib.hid hr
    have HD := Lib.hid h
    clear h hr ho
    rw [HR.out]
    go_enter Try.func23, Try.ntmps23
    go_wp2_with (go_at_call 28; refine (check_on _ g hc0).mono ?_; rintro e w' ⟨rfl, rfl⟩)
    refine region_tail 9 (by kernel_rfl) (by kernel_rfl) fun w2 d => ?_
    simp only [List.take_succ_cons, List.take_zero, List.drop_succ_cons, List.drop_zero]
    have hc2 : ∀ i, w2.cell? ⟨g, i, none⟩ = (DCells s bd bv pv)[i]? := blk_cell (d.blk HD.out.blk)
    unfold DCells at hc2
    clear hc hc0
    repeat still_step
    refine wpStill_nil ?_
    have hD2 : DAt w2 F g bd bv pv s := HD.out.kept (d.kept (fun _ => False)) (fun _ _ h => h)
    go_wp2_with (go_at_call 37; refine (settle_sync hD2).mono ?_; rintro e w' ⟨rfl, ⟨pv', hd3⟩, hk3⟩)
    go_ret
    exact ⟨rfl, ⟨pv', hd3.mono fun k hk => .inl hk⟩, ((d.kept F).trans hk3)⟩
end Go.Proofs.Ytlocickppgddmaa
