import Derived.Test.YtlocickppgddmaaR3
namespace Go.Proofs.Ytlocickppgddmaa
open Go.RowKit
variable {w : World} {F : Nat → Prop} {g sb scap : Nat} {lv : Value} {s : DS}

theorem conv_row {b cap : Nat} {l : List UInt8} (hb : BRow w b cap l) (o m c : Nat) (h : o + m ≤ l.length) :
    (convert 40 9 (.slice (some ⟨b, o, none⟩) m c)).run Try.prog w = .ok (.string ⟨((l.drop o).take m).toArray⟩) w := by
  have hl : ((l.drop o).take m).length = m := by simp; omega
  have := run_convert_bytes_back (P := Try.prog) w 40 9 5 ⟨b, o, none⟩ c ((l.drop o).take m) (by kernel_rfl) (by kernel_rfl) (by kernel_rfl) (fun j hj => by
    have ha : (⟨b, o, none⟩ : Addr).add j = ⟨b, o + j, none⟩ := by unfold Addr.add; split <;> simp_all
    rw [hl] at hj
    have h1 : o + j < l.length := by omega
    rw [ha, hb.cell (o + j) h1]
    simp)
  rwa [hl] at this

def RdPost (w : World) (x : ByteArray) (r : Int) (e : Ending) (w' : World) : Prop := e = .returned (.tuple #[.string x, .int .i64 r]) ∧ Kept (fun _ => False) w w'

theorem fits_no {off n : Int} {len : Nat} (h : fitsB off n len = false) : off < 0 ∨ (¬ off < 0 ∧ n < 0) ∨ (¬ off < 0 ∧ ¬ n < 0 ∧ (len : Int) < off) ∨ (¬ off < 0 ∧ ¬ n < 0 ∧ ¬ (len : Int) < off ∧ (len : Int) - off < n) := by
  simp [fitsB] at h; omega

set_option maxHeartbeats 2000000 in
set_option maxRecDepth 100000 in
theorem rread_any (h : RAt w F g sb scap lv s) (off n : Int) : Calls Try.prog 20 #[.pointer (some ⟨g, 0, none⟩), .int .i64 off, .int .i64 n] w (RdPost w (s.read off n).1 (s.read off n).2) := by
  have hc := blk_cell h.blk
  have hc2 : w.cell? ⟨g, 2, none⟩ = some (.bool s.off) := by rw [hc]; rfl
  have hc0 : w.cell? ⟨g, 0, none⟩ = some (.slice (some ⟨sb, 0, none⟩) s.dur.length scap) := by rw [hc]; rfl
  have hbig := h.wf.big
  cases ho : s.off with
  | true =>
    have hr : s.read off n = (⟨#[]⟩, 281) := by simp [DS.read, ho]
    have HR := Lib.hid hr
    rw [ho] at hc2
    clear h hr ho hc hc0
    rw [HR.out]
    go_enter Try.func20, Try.ntmps20
    go_wp2
    go_ret2
    exact ⟨rfl, Kept.refl _ _⟩
  | false =>
    rw [ho] at hc2
    cases hf : fitsB off n s.dur.length with
    | false =>
      have hr : s.read off n = (⟨#[]⟩, 280) := by simp [DS.read, ho, hf]
      have HR := Lib.hid hr
      have hcs := fits_no hf
      clear h hr ho hc hf
      rw [HR.out]
      rcases hcs with h1 | ⟨h1, h2⟩ | ⟨h1, h2, h3⟩ | ⟨h1, h2, h3, h4⟩
      · go_enter Try.func20, Try.ntmps20
        go_wp2
        go_ret2
        exact ⟨rfl, Kept.refl _ _⟩
      · go_enter Try.func20, Try.ntmps20
        go_wp2
        go_ret2
        exact ⟨rfl, Kept.refl _ _⟩
      · go_enter Try.func20, Try.ntmps20
        go_wp2
        go_ret2
        exact ⟨rfl, Kept.refl _ _⟩
      · go_enter Try.func20, Try.ntmps20
        go_wp2
        go_ret2
        exact ⟨rfl, Kept.refl _ _⟩
    | true =>
      have hr : s.read off n = (⟨((s.vis.drop off.toNat).take n.toNat).toArray⟩, 0) := by simp [DS.read, ho, hf]
      have HR := Lib.hid hr
      have hlen := h.wf.len
      have HD := Lib.hid h
      simp [fitsB] at hf
      obtain ⟨a1, a2, a3⟩ := hf
      obtain ⟨o, rfl⟩ := Int.eq_ofNat_of_zero_le a1
      obtain ⟨m, rfl⟩ := Int.eq_ofNat_of_zero_le a2
      have b3 : o + m ≤ s.dur.length := by omega
      have HL := Lib.hid hlen
      clear h hr ho a1 a2 a3 hlen hc
      rw [HR.out]
      clear HR
      simp only [Int.toNat_natCast]
      generalize hX : (⟨((s.vis.drop o).take m).toArray⟩ : ByteArray) = X
      have HX := Lib.hid hX
      clear hX
      go_enter Try.func20, Try.ntmps20
      go_wp2_with fail
      refine (visible_any HD.out).mono ?_
      rintro e w1 ⟨b, cap, rfl, hb, hrow, hcap, hk⟩
      have HK := Lib.hid hk
      have hcl : s.dur.length ≤ cap := by have := hrow.choose_spec.2.2.2; rw [HL.out] at this; exact this
      have hcv := conv_row hrow o m (cap - o) (by rw [HL.out]; exact b3)
      by_cases h0 : cap = o
      · have hm : m = 0 := by omega
        subst hm
        have hcv0 := conv_row hrow 0 0 0 (by omega)
        have h1 : s.dur.length = o := by omega
        have HE := Lib.hid (show (⟨((s.vis.drop 0).take 0).toArray⟩ : ByteArray) = ⟨((s.vis.drop o).take 0).toArray⟩ by simp)
        rw [HE.out, HX.out] at hcv0
        clear hcv hrow hk HE
        subst h0
        go_wp2
        go_ret2
        exact ⟨rfl, HK.out⟩
      · have b5 : m ≤ cap - o := by omega
        clear hrow hk
        rw [HX.out] at hcv
        go_wp2
        go_ret2
        exact ⟨rfl, HK.out⟩
end Go.Proofs.Ytlocickppgddmaa
