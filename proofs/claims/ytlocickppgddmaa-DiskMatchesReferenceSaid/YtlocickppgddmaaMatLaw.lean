import Derived.Test.YtlocickppgddmaaStep
import Derived.Deep.RegionWith
namespace Go.Proofs.Ytlocickppgddmaa
open Go.RowKit

theorem sp_at {w wr : World} {a : Option Addr} {len cap : Nat} {l : List StepV} (h : SPs w a len cap l) (hB : Below w.heap.size w wr) (k : Nat) (hk : k < l.length) : ∃ b off, a = some ⟨b, off, none⟩ ∧
    wr.cell? ⟨b, off + k * 5, none⟩ = some (.int .i64 l[k].call) ∧ wr.cell? ⟨b, off + k * 5 + 1, none⟩ = some (.int .i64 l[k].off) ∧ wr.cell? ⟨b, off + k * 5 + 2, none⟩ = some (.int .i64 l[k].n) ∧ wr.cell? ⟨b, off + k * 5 + 3, none⟩ = some (.string l[k].s) ∧ wr.cell? ⟨b, off + k * 5 + 4, none⟩ = some (.slice l[k].ka l[k].kl l[k].kc) := by
  rcases h.at_ with h0 | ⟨b, off, ha, hb, hc⟩
  · have := h.llen; omega
  · obtain ⟨h1, h2, h3, h4, h5⟩ := hc k hk
    exact ⟨b, off, ha, (hB.cell (p := ⟨b, _, none⟩) hb).trans h1, (hB.cell (p := ⟨b, _, none⟩) hb).trans h2, (hB.cell (p := ⟨b, _, none⟩) hb).trans h3, (hB.cell (p := ⟨b, _, none⟩) hb).trans h4, (hB.cell (p := ⟨b, _, none⟩) hb).trans h5⟩

theorem t2_new {w wa wb wc : World} {gd gx : Nat} {s1 s2 : DS} {sb scap : Nat} {lv : Value} (hB : Below w.heap.size w wa) (h1 : DK (fun k => wa.heap.size ≤ k) wb gd s1) (k1 : Kept (fun k => wa.heap.size ≤ k) wa wb)
    (h2 : RAt wc (fun k => wb.heap.size ≤ k) gx sb scap lv s2) (k2 : Kept (fun _ => False) wb wc) : T2 (fun _ => False) w gd gx s1 s2 wc := by
  obtain ⟨_, _, _, h1⟩ := h1.ex
  have e1 := k1.size; have e2 := k2.size; have e0 := hB.size
  have a1 := (h1.foot.mono (G := fun k => wa.heap.size ≤ k ∧ k < wb.heap.size) fun k hk => ⟨h1.foot_F k hk, h1.foot_lt k hk⟩).kept k2 (fun _ _ h => h)
  have a2 := h2.lt
  exact ⟨⟨_, _, ⟨_, _, _, a1⟩, ⟨_, _, _, a2⟩, fun k a b => by omega, fun k hk => by refine ⟨?_, ?_, fun h => h⟩ <;> omega⟩,
    hB.trans ((k1.below e0 (fun k h => by omega)).trans (k2.below (by omega) (fun _ h => h.elim))), fun _ h => h.elim⟩

set_option maxHeartbeats 8000000 in
set_option maxRecDepth 100000 in
theorem matches_law (w : World) (size : Int) (hs1 : -9223372036854775808 ≤ size) (hs2 : size ≤ 9223372036854775807) (a : Option Addr) (len cap : Nat) (l : List StepV) (hl : SPs w a len cap l) : Calls Try.prog 4 #[.int .i64 size, .slice a len cap] w (LawPost w) := by
  have hp := pickI_range size 400 (by omega)
  obtain ⟨n, hn⟩ := Int.eq_ofNat_of_zero_le (show 0 ≤ 1 + pickI size 400 by omega)
  have HN := Lib.hid hn
  have hn1 : 1 ≤ n := by omega
  have hn3 : n ≤ 400 := by omega
  have hbig := hl.big
  have hlc := hl.lcap
  have HL := Lib.hid hl
  clear hn hl
  go_enter Try.func4, Try.ntmps4
  go_wp2_with fail
  refine (sane_any _).mono ?_
  rintro e w1 ⟨rfl, hb1⟩
  go_wp2_with fail
  refine (pick_any _ size 400 hs1 hs2 (by omega) (by omega)).mono ?_
  rintro e w1' ⟨rfl, rfl⟩
  go_wp2_with fail
  rw [HN.out]
  refine (new_dk (F := fun k => w1.heap.size ≤ k) w1 n hn1 (by omega) (fun _ h => h)).mono ?_
  rintro e w2 ⟨gd, rfl, hd1, k1⟩
  have HD1 := Lib.hid hd1
  have K1 := Lib.hid k1
  have HB1 := Lib.hid hb1
  clear hd1 k1 hb1
  go_wp2_with fail
  refine (rnew_ok w2 n hn1 (by omega)).mono ?_
  rintro e w3 ⟨gx, sb, scap, lv, rfl, hx, kx⟩
  have HT0 := Lib.hid (t2_new HB1.out HD1.out K1.out hx kx)
  clear hx kx HB1 HD1 K1 hp
  go_wp2_with fail
  go_loopw [10] (fun t wr => ∃ (k : Nat) (s : DS), k ≤ len ∧ k ≤ 60 ∧ t = .int .i64 k ∧ s.pend.length ≤ k ∧ s.dur.length = n ∧ T2 (fun _ => False) w gd gx s s wr) (fun t _ => len - (intOf t).toNat)
  case atStart => exact ⟨0, _, Nat.zero_le _, by omega, rfl, by simp [New0], by simp [New0], HT0.out⟩
  case round =>
    obtain ⟨k, s, hk, hk60, rfl, hfew, hdn, hT⟩ := hrel
    have HT := Lib.hid hT
    have HDN := Lib.hid hdn
    clear hT hdn
    by_cases hlt : k < len ∧ k < 60
    · obtain ⟨hlt, hlt60⟩ := hlt
      have hkl : k < l.length := by rw [HL.out.llen]; exact hlt
      obtain ⟨b0, off, rfl, hc1, hc2, hc3, hc4, hc5⟩ := sp_at HL.out HT.out.bel k hkl
      obtain ⟨o1, o2, o3, o4, o5⟩ := HL.out.ok l[k] (List.getElem_mem hkl)
      have hst := fun W (h : T2 (fun _ => False) w gd gx s s W) => step_any h (by omega) l[k] o1 o2 o3 o4 o5
      generalize l[k] = y at hc1 hc2 hc3 hc4 hc5 hst
      have HST := Lib.hid hst
      clear hst o1 o2 o3 o4 o5
      go_wp2_with fail
      have HTd := Lib.hid (HT.out.kept ((show Drw wr wr.drew from ⟨rfl, rfl, rfl, rfl⟩).kept _))
      go_region_with
        (first
          | (go_at_call 19; refine (HST.out _ HTd.out).mono ?_; rintro e w4 ⟨rfl, s', h4, hnx⟩; have HT4 := Lib.hid h4; have hf4 : s'.pend.length ≤ k + 1 := Nat.le_trans hnx.few (by omega); have hd4 : s'.dur.length = n := hnx.dur.trans HDN.out; have HD4 := Lib.hid hd4; obtain ⟨la, lc, hx1⟩ := h4.xl; clear h4 hnx hd4)
          | (go_at_call 17; refine HT4.out.pending.mono ?_; rintro e wx ⟨rfl, rfl⟩)
          | (go_at_call 16; refine HT4.out.size.mono ?_; rintro e wx ⟨rfl, rfl⟩; rw [HD4.out]))
      all_goals
        go_wp2_with fail
        refine (HT4.out.read 0 n).mono ?_
        rintro e wx ⟨rfl, rfl⟩
        go_wp2_with fail
        refine (HT4.out.xread 0 n).mono ?_
        rintro e w5 ⟨rfl, k5⟩
        have HT5 := Lib.hid (HT4.out.kept k5)
        clear k5
        go_wp2
        go_roundw
        case rel => exact ⟨k + 1, s', by omega, by omega, by go_num, hf4, HD4.out, HT5.out⟩
        case measure => simp [intOf]; omega
    · have HB := Lib.hid HT.out.bel
      by_cases h1 : k < len
      · have h2 : ¬ k < 60 := fun h2 => hlt ⟨h1, h2⟩
        clear hlt
        go_wp2
        go_ret
        exact ⟨rfl, HB.out⟩
      · clear hlt
        go_wp2
        go_ret
        exact ⟨rfl, HB.out⟩
end Go.Proofs.Ytlocickppgddmaa
