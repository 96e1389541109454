import Derived.Test.YtlocickppgddmaaR2
namespace Go.Proofs.Ytlocickppgddmaa
open Go.RowKit
variable {w : World} {F : Nat → Prop} {g sb scap : Nat} {lv : Value} {s : DS}

/-- the block of the reference's disk -/
def RCells (s : DS) (sb scap : Nat) (lv : Value) : Array Value := #[.slice (some ⟨sb, 0, none⟩) s.dur.length scap, lv, .bool s.off, .int .i64 s.left]
def RPost (w : World) (F : Nat → Prop) (g : Nat) (s : DS) (r : Int) (e : Ending) (w' : World) : Prop :=
  e = .returned (.int .i64 r) ∧ (∃ sb scap lv, RAt w' (fun k => F k ∨ w.heap.size ≤ k) g sb scap lv s) ∧ Kept F w w'
theorem cut_one' (s : DS) (m : Nat) (h : s.off = false) : s.cut m = ({ s with off := decide (m = 0), left := m }, 0) := by
  have h1 : ¬ ((m : Int) < 0) := by omega
  simp [DS.cut, h, h1]
theorem RAt.same (h : RAt w F g sb scap lv s) (r : Int) (e : Ending) (he : e = .returned (.int .i64 r)) : RPost w F g s r e w := ⟨he, ⟨sb, scap, lv, h.mono fun _ hk => .inl hk⟩, Kept.refl _ _⟩
/-- the block alone is turned: power and the number left -/
theorem RAt.gset {w' : World} (h : RAt w F g sb scap lv s) (hk : Kept (· = g) w w') (off : Bool) (left : Nat) (hl : left ≤ 9223372036854775807)
    (hb : w'.heap[g]? = some (.cells (RCells { s with off := off, left := left } sb scap lv) 43 (0, 0))) : RAt w' F g sb scap lv { s with off := off, left := left } := by
  obtain ⟨cur, q1, q2⟩ := h.sure
  have n1 := blk_ne q1 h.blk (by decide)
  have n3 := own_blk_ne h.pend h.blk (by decide)
  exact ⟨hb, h.sure.kept hk n1, own_kept h.pend hk (fun k hk' e => n3 (by rw [hk', e])), h.fg, h.fs, h.fp, ⟨h.wf.len, h.wf.big, hl, h.wf.few, h.wf.ins⟩, h.vis, h.cap_, h.pos⟩

set_option maxHeartbeats 1000000 in
set_option maxRecDepth 100000 in
theorem rcut_any (h : RAt w F g sb scap lv s) (n : Int) (hn : n ≤ 9223372036854775807) : Calls Try.prog 32 #[.pointer (some ⟨g, 0, none⟩), .int .i64 n] w (RPost w F g (s.cut n).1 (s.cut n).2) := by
  have hc := blk_cell h.blk
  have hc2 : w.cell? ⟨g, 2, none⟩ = some (.bool s.off) := by rw [hc]; rfl
  have hfz := blk_frozen h.blk
  cases ho : s.off with
  | true =>
    have hr : s.cut n = (s, 281) := by simp [DS.cut, ho]
    have HR := Lib.hid hr
    have HD := Lib.hid h
    rw [ho] at hc2
    clear h hr ho hc hfz
    rw [HR.out]
    go_enter Try.func32, Try.ntmps32
    go_wp2
    go_ret
    exact HD.out.same _ _ rfl
  | false =>
    rw [ho] at hc2
    by_cases h0 : n < 0
    · have hr : s.cut n = (s, 2) := by simp [DS.cut, ho, h0]
      have HR := Lib.hid hr
      have HD := Lib.hid h
      clear h hr ho hc hfz
      rw [HR.out]
      go_enter Try.func32, Try.ntmps32
      go_wp2
      go_ret
      exact HD.out.same _ _ rfl
    · obtain ⟨m, rfl⟩ := Int.eq_ofNat_of_zero_le (show 0 ≤ n by omega)
      have hr := cut_one' s m ho
      have HR := Lib.hid hr
      have HD := Lib.hid h
      have hc3 : w.cell? ⟨g, 3, none⟩ = some (.int .i64 s.left) := by rw [hc]; rfl
      have hb1 := blk_set (blk_set h.blk 3 (.int .i64 (m : Int))) 2 (.bool (decide (m = 0)))
      have hk1 : Kept (· = g) w ((w.setCell ⟨g, 3, none⟩ (.int .i64 (m : Int))).setCell ⟨g, 2, none⟩ (.bool (decide (m = 0)))) := ((Kept.refl (· = g) w).setCell (p := ⟨g, 3, none⟩) (.inl rfl) _).setCell (p := ⟨g, 2, none⟩) (.inl rfl) _
      have hN := Lib.hid (h.gset hk1 (decide (m = 0)) m (by omega) hb1)
      have HK1 := Lib.hid hk1
      have f3 := hfz 3
      have f2 : (w.setCell ⟨g, 3, none⟩ (.int .i64 (m : Int))).frozen? ⟨g, 2, none⟩ = false := blk_frozen (blk_set h.blk 3 (.int .i64 (m : Int))) 2
      have g2 : (w.setCell ⟨g, 3, none⟩ (.int .i64 (m : Int))).cell? ⟨g, 2, none⟩ = some (.bool false) := by rw [blk_cell (blk_set h.blk 3 (.int .i64 (m : Int)))]; simp [ho]
      have hfg := h.fg
      clear h hr hc hfz hb1 hk1
      rw [HR.out]
      clear ho
      have hz : ((m : Int) == 0) = decide (m = 0) := by
        by_cases hm : m = 0
        · subst hm; rfl
        · have : ¬ (m : Int) = 0 := by omega
          simp [hm]
      generalize decide (m = 0) = B at hN HK1 HR hz ⊢
      go_enter Try.func32, Try.ntmps32
      go_wp2
      go_ret
      exact ⟨rfl, ⟨_, _, _, hN.out.mono fun _ hk => .inl hk⟩, HK1.out.mono fun k hk => .inl (by rw [hk]; exact hfg)⟩

set_option maxHeartbeats 1000000 in
set_option maxRecDepth 100000 in
theorem rsync_any (h : RAt w F g sb scap lv s) : Calls Try.prog 31 #[.pointer (some ⟨g, 0, none⟩)] w (RPost w F g s.sync.1 s.sync.2) := by
  have hc := blk_cell h.blk
  have hc2 : w.cell? ⟨g, 2, none⟩ = some (.bool s.off) := by rw [hc]; rfl
  cases ho : s.off with
  | true =>
    have hr : s.sync = (s, 281) := by simp [DS.sync, ho]
    have HR := Lib.hid hr
    have HD := Lib.hid h
    rw [ho] at hc2
    clear h hr ho hc
    rw [HR.out]
    go_enter Try.func31, Try.ntmps31
    go_wp2
    go_ret
    exact HD.out.same _ _ rfl
  | false =>
    rw [ho] at hc2
    have hr : s.sync = ({ s with dur := s.vis, pend := [] }, 0) := by simp [DS.sync, ho]
    have HR := Lib.hid hr
    have HD := Lib.hid h
    have HO := Lib.hid ho
    clear h hr ho hc
    rw [HR.out]
    go_enter Try.func31, Try.ntmps31
    go_wp2_with fail
    refine (visible_any HD.out).mono ?_
    rintro e w1 ⟨b, cap, rfl, hb, hrow, hcap, hk⟩
    have h1 := HD.out.kept hk (fun _ _ h => h)
    have hc0 : w1.cell? ⟨g, 0, none⟩ = some (.slice (some ⟨sb, 0, none⟩) s.dur.length scap) := by rw [blk_cell h1.blk]; rfl
    have f0 : w1.frozen? ⟨g, 0, none⟩ = false := blk_frozen h1.blk 0
    obtain ⟨la, lc, rfl, _⟩ := own_form h1.pend
    have hbl := blk_set h1.blk 0 (.slice (some ⟨b, 0, none⟩) s.dur.length cap)
    have f1 : (w1.setCell ⟨g, 0, none⟩ (.slice (some ⟨b, 0, none⟩) s.dur.length cap)).frozen? ⟨g, 1, none⟩ = false := blk_frozen hbl 1
    have g1 : (w1.setCell ⟨g, 0, none⟩ (.slice (some ⟨b, 0, none⟩) s.dur.length cap)).cell? ⟨g, 1, none⟩ = some (.slice la s.pend.length lc) := by rw [blk_cell hbl]; rfl
    have hbl2 := blk_set hbl 1 (.slice none 0 0)
    have hk2 : Kept (· = g) w1 ((w1.setCell ⟨g, 0, none⟩ (.slice (some ⟨b, 0, none⟩) s.dur.length cap)).setCell ⟨g, 1, none⟩ (.slice none 0 0)) := ((Kept.refl (· = g) w1).setCell (p := ⟨g, 0, none⟩) (.inl rfl) _).setCell (p := ⟨g, 1, none⟩) (.inl rfl) _
    have hwf := h1.wf
    have hN := Lib.hid (show RAt ((w1.setCell ⟨g, 0, none⟩ (.slice (some ⟨b, 0, none⟩) s.dur.length cap)).setCell ⟨g, 1, none⟩ (.slice none 0 0)) (fun k => F k ∨ w.heap.size ≤ k) g b cap (.slice none 0 0) { s with dur := s.vis, pend := [] } from
      ⟨by rw [hbl2]; simp [hwf.len], hrow.kept hk2 (by obtain ⟨cur, q, _⟩ := hrow; exact blk_ne q h1.blk (by decide)), World.ownsRow_nil _ _ _ _, .inl h1.fg, .inr hb, (fun k e => (by cases e)),
        ⟨rfl, (by show s.vis.length ≤ _; rw [hwf.len]; exact hwf.big), hwf.left, Nat.zero_le _, fun p hp => (by cases hp)⟩, rfl, hcap, (by show 1 ≤ s.vis.length; rw [hwf.len]; exact h1.pos)⟩)
    have HK := Lib.hid ((hk.mono (G := F) (fun _ h => h.elim)).trans' hk2 (fun i hi => .inl (by rw [hi]; exact h1.fg)))
    clear h1 hbl hbl2 hk2 hwf hrow hk HR
    go_wp2
    go_ret
    exact ⟨rfl, ⟨_, _, _, hN.out⟩, HK.out⟩
end Go.Proofs.Ytlocickppgddmaa
