import Derived.Test.YtlocickppgddmaaTwo
import Derived.Deep.RegionHeld3
namespace Go.Proofs.Ytlocickppgddmaa
open Go.RowKit

theorem cutS_le' (x : ByteArray) (t : Int) : (cutS x t).size ≤ x.size := by unfold cutS; rw [ByteArray.size_extract]; omega
theorem c3_of {w : World} {L : Nat} {a b c d e : Value} (h : ∀ i, w.cell? ⟨L, i, none⟩ = (#[a, b, c, d, e] : Array Value)[i]?) : w.cell? ⟨L, 0, none⟩ = some a ∧ w.cell? ⟨L, 1, none⟩ = some b ∧ w.cell? ⟨L, 2, none⟩ = some c := ⟨h 0, h 1, h 2⟩
theorem kat_of {w W : World} {a : Option Addr} {len cap m : Nat} {l : List Int} (h : IPs w a len cap l) (hB : Below w.heap.size w W) (hm : m ≤ len) : KAt W a (l.take m) := by
  rcases h.at_ with h0 | ⟨b, off, ha, hb, hc⟩
  · left; rw [List.length_take]; omega
  · refine .inr ⟨b, off, ha, fun i hi => ?_⟩
    have hi' : i < l.length := by rw [List.length_take] at hi; omega
    rw [(hB.cell (p := ⟨b, _, none⟩) hb).trans (hc i hi')]
    simp
theorem svi_of {w W : World} {a : Option Addr} {len cap m : Nat} {l : List Int} (h : IPs w a len cap l) (hB : Below w.heap.size w W) (hm : m ≤ len) : sv_Ints W.heap.size W (.slice a (l.take m).length cap) (l.take m) := by
  by_cases hm0 : (l.take m).length = 0
  · left; rw [hm0]; exact ⟨_, _, rfl, List.eq_nil_of_length_eq_zero hm0⟩
  · rcases h.at_ with h0 | ⟨b, off, ha, hb, hc⟩
    · rw [List.length_take] at hm0; omega
    · subst ha
      refine .inr ⟨b, off, cap, rfl, Nat.lt_of_lt_of_le hb hB.size, fun i hi => ?_⟩
      have hi' : i < l.length := by rw [List.length_take] at hi; omega
      rw [(hB.cell (p := ⟨b, _, none⟩) hb).trans (hc i hi'), List.getElem?_eq_getElem hi]
      simp
structure Next (s s' : DS) : Prop where
  few : s'.pend.length ≤ s.pend.length + 1
  dur : s'.dur.length = s.dur.length
theorem next_write (s : DS) (off : Int) (b : ByteArray) : Next s (s.write off b).1 := by
  unfold DS.write
  split
  · exact ⟨Nat.le_succ _, rfl⟩
  · split
    · unfold DS.used; split <;> exact ⟨by simp, rfl⟩
    · exact ⟨Nat.le_succ _, rfl⟩
theorem next_sync (s : DS) (h : s.wf) : Next s s.sync.1 := by
  unfold DS.sync
  split
  · exact ⟨Nat.le_succ _, rfl⟩
  · exact ⟨Nat.zero_le _, h.len⟩
theorem next_cut (s : DS) (n : Int) : Next s (s.cut n).1 := by
  unfold DS.cut
  split
  · exact ⟨Nat.le_succ _, rfl⟩
  · split
    · exact ⟨Nat.le_succ _, rfl⟩
    · exact ⟨Nat.le_succ _, rfl⟩
theorem next_crash (s : DS) (h : s.wf) (keep : List Int) (torn : Int) : Next s (s.crash keep torn) := by
  rw [DS.crash_surv]
  refine ⟨Nat.zero_le _, laid_len _ _ (tornLast_ins _ _ (kws_ins keep s s.pend.length (Nat.le_refl _) s.dur.length h.ins))⟩

def StepPost (w : World) (gd gx : Nat) (s : DS) (e : Ending) (w' : World) : Prop :=
  e = .returned (.bool true) ∧ ∃ s', T2 (fun _ => False) w gd gx s' s' w' ∧ Next s s'
def stepCells (y : StepV) : Array Value := #[.int .i64 y.call, .int .i64 y.off, .int .i64 y.n, .string y.s, .slice y.ka y.kl y.kc]
variable {w wr : World} {gd gx : Nat} {s : DS}

set_option maxHeartbeats 8000000 in
set_option maxRecDepth 100000 in
theorem step_any (h : T2 (fun _ => False) w gd gx s s wr) (hfew : s.pend.length < 900) (y : StepV) (h1 : inI y.call) (h2 : inI y.off) (h3 : inI y.n) (h4 : y.s.size ≤ 9223372036854775807) (h5 : IPs w y.ka y.kl y.kc y.keep) :
    Calls Try.prog 19 #[.pointer (some ⟨gd, 0, none⟩), .pointer (some ⟨gx, 0, none⟩), .agg (stepCells y)] wr (StepPost w gd gx s) := by
  have hp := pickI_range y.call 6 (by omega)
  obtain ⟨call, off, n, b, ka, kl, kc, keep⟩ := y
  unfold stepCells
  simp only at h1 h2 h3 h4 h5 hp
  obtain ⟨h1a, h1b⟩ := h1
  obtain ⟨h3a, h3b⟩ := h3
  have hkl := h5.lcap
  have hkc := h5.big
  have HI := Lib.hid h5
  have HT := Lib.hid (h.alloc (.cells #[.int .i64 call, .int .i64 off, .int .i64 n, .string b, .slice ka kl kc] 39))
  have HWF := Lib.hid h.wf
  have hL := blk_new wr (.cells #[.int .i64 call, .int .i64 off, .int .i64 n, .string b, .slice ka kl kc] 39)
  have HL := Lib.hid hL
  have cL := blk_cell hL
  have HPK := Lib.hid (pick_any (c := call) (n := 6) (hc1 := h1a) (hc2 := h1b) (hn := by omega) (hn2 := by omega))
  generalize hpk : pickI call 6 = pk at HPK hp
  clear h h2 hL hpk h5
  go_enter Try.func19, Try.ntmps19
  go_wp2_with fail
  refine (HPK.out _).mono ?_
  rintro e wx ⟨rfl, rfl⟩
  clear HPK
  have hfc := cutS_le' b 300
  rcases (show pk = 0 ∨ pk = 1 ∨ pk = 2 ∨ pk = 3 ∨ pk = 4 ∨ pk = 5 by omega) with rfl | rfl | rfl | rfl | rfl | rfl
  · go_wp2_with fail
    refine (cut_str _ b 300 (by omega) h4).mono ?_
    rintro e wx ⟨rfl, rfl⟩
    go_wp2_with fail
    generalize hW : wr.alloc (.cells #[.int .i64 call, .int .i64 off, .int .i64 n, .string b, .slice ka kl kc] 39) = W at HT HL cL ⊢
    generalize wr.heap.size = L at HT HL cL ⊢
    have HT1 := Lib.hid (HT.out.kept ((show Drw W W.drew from ⟨rfl, rfl, rfl, rfl⟩).kept _))
    have HL1 := Lib.hid (show W.drew.heap[L]? = some (.cells #[.int .i64 call, .int .i64 off, .int .i64 n, .string b, .slice ka kl kc] 39) from HL.out)
    clear hW
    have hS0 := c3_of (blk_cell HL1.out)
    go_region_held3 (fun w' => w'.cell? ⟨L, 0, none⟩ = some (.int .i64 call) ∧ w'.cell? ⟨L, 1, none⟩ = some (.int .i64 off) ∧ w'.cell? ⟨L, 2, none⟩ = some (.int .i64 n))
      (first | exact hS0 | exact hS1 | exact hS2)
      (first
        | (go_at_call_of 21 (Value.pointer (some ⟨gd, 0, none⟩)); refine (HT1.out.write (by omega) off (cutS b 300)).mono ?_; rintro e w6 ⟨rfl, h6, k6⟩; have HT6 := Lib.hid h6; have HL6 := Lib.hid (k6.blk HL1.out (fun h => h rfl)); have hS1 := c3_of (blk_cell HL6.out); clear h6 k6)
        | (go_at_call_of 30 (Value.pointer (some ⟨gx, 0, none⟩)); refine (HT6.out.xwrite (by omega) off (cutS b 300) (by omega)).mono ?_; rintro e w7 ⟨rfl, h7, k7⟩; have HT7 := Lib.hid h7; have HL7 := Lib.hid (k7.blk HL6.out (fun h => h rfl)); have hS2 := c3_of (blk_cell HL7.out); clear h7 k7))
    go_wp2
    go_ret
    exact ⟨rfl, _, HT7.out.drop, next_write _ _ _⟩
  · go_wp2_with fail
    refine (cut_str _ b 300 (by omega) h4).mono ?_
    rintro e wx ⟨rfl, rfl⟩
    go_wp2_with fail
    generalize hW : wr.alloc (.cells #[.int .i64 call, .int .i64 off, .int .i64 n, .string b, .slice ka kl kc] 39) = W at HT HL cL ⊢
    generalize wr.heap.size = L at HT HL cL ⊢
    have HT1 := Lib.hid (HT.out.kept ((show Drw W W.drew from ⟨rfl, rfl, rfl, rfl⟩).kept _))
    have HL1 := Lib.hid (show W.drew.heap[L]? = some (.cells #[.int .i64 call, .int .i64 off, .int .i64 n, .string b, .slice ka kl kc] 39) from HL.out)
    clear hW
    have hS0 := c3_of (blk_cell HL1.out)
    go_region_held3 (fun w' => w'.cell? ⟨L, 0, none⟩ = some (.int .i64 call) ∧ w'.cell? ⟨L, 1, none⟩ = some (.int .i64 off) ∧ w'.cell? ⟨L, 2, none⟩ = some (.int .i64 n))
      (first | exact hS0 | exact hS1 | exact hS2)
      (first
        | (go_at_call_of 21 (Value.pointer (some ⟨gd, 0, none⟩)); refine (HT1.out.write (by omega) off (cutS b 300)).mono ?_; rintro e w6 ⟨rfl, h6, k6⟩; have HT6 := Lib.hid h6; have HL6 := Lib.hid (k6.blk HL1.out (fun h => h rfl)); have hS1 := c3_of (blk_cell HL6.out); clear h6 k6)
        | (go_at_call_of 30 (Value.pointer (some ⟨gx, 0, none⟩)); refine (HT6.out.xwrite (by omega) off (cutS b 300) (by omega)).mono ?_; rintro e w7 ⟨rfl, h7, k7⟩; have HT7 := Lib.hid h7; have HL7 := Lib.hid (k7.blk HL6.out (fun h => h rfl)); have hS2 := c3_of (blk_cell HL7.out); clear h7 k7))
    go_wp2
    go_ret
    exact ⟨rfl, _, HT7.out.drop, next_write _ _ _⟩
  · go_wp2_with fail
    refine HT.out.sync.mono ?_
    rintro e w6 ⟨rfl, h6, k6⟩
    have HT6 := Lib.hid h6
    clear h6 k6
    go_wp2_with fail
    refine HT6.out.xsync.mono ?_
    rintro e w7 ⟨rfl, h7, k7⟩
    have HT7 := Lib.hid h7
    clear h7 k7
    go_wp2
    go_ret
    exact ⟨rfl, _, HT7.out.drop, next_sync _ HWF.out⟩
  · go_wp2_with fail
    refine (HT.out.read off n).mono ?_
    rintro e w6 ⟨rfl, rfl⟩
    go_wp2_with fail
    refine (HT.out.xread off n).mono ?_
    rintro e w7 ⟨rfl, k7⟩
    have HT7 := Lib.hid (HT.out.kept k7)
    clear k7
    go_wp2
    go_ret
    exact ⟨rfl, _, HT7.out.drop, ⟨Nat.le_succ _, rfl⟩⟩
  · go_wp2_with fail
    generalize hW : wr.alloc (.cells #[.int .i64 call, .int .i64 off, .int .i64 n, .string b, .slice ka kl kc] 39) = W at HT HL cL ⊢
    generalize wr.heap.size = L at HT HL cL ⊢
    have HT1 := Lib.hid (HT.out.kept ((show Drw W W.drew from ⟨rfl, rfl, rfl, rfl⟩).kept _))
    have HL1 := Lib.hid (show W.drew.heap[L]? = some (.cells #[.int .i64 call, .int .i64 off, .int .i64 n, .string b, .slice ka kl kc] 39) from HL.out)
    clear hW
    have hS0 := c3_of (blk_cell HL1.out)
    go_region_held3 (fun w' => w'.cell? ⟨L, 0, none⟩ = some (.int .i64 call) ∧ w'.cell? ⟨L, 1, none⟩ = some (.int .i64 off) ∧ w'.cell? ⟨L, 2, none⟩ = some (.int .i64 n))
      (first | exact hS0 | exact hS1 | exact hS2)
      (first
        | (go_at_call_of 24 (Value.pointer (some ⟨gd, 0, none⟩)); refine (HT1.out.cut n h3b).mono ?_; rintro e w6 ⟨rfl, h6, k6⟩; have HT6 := Lib.hid h6; have HL6 := Lib.hid (k6.blk HL1.out (fun h => h rfl)); have hS1 := c3_of (blk_cell HL6.out); clear h6 k6)
        | (go_at_call_of 32 (Value.pointer (some ⟨gx, 0, none⟩)); refine (HT6.out.xcut n h3b).mono ?_; rintro e w7 ⟨rfl, h7, k7⟩; have HT7 := Lib.hid h7; have HL7 := Lib.hid (k7.blk HL6.out (fun h => h rfl)); have hS2 := c3_of (blk_cell HL7.out); clear h7 k7))
    go_wp2
    go_ret
    exact ⟨rfl, _, HT7.out.drop, next_cut _ _⟩
  · obtain ⟨m, hm⟩ : ∃ m : Nat, (m : Int) = min (kl : Int) 100 := ⟨min kl 100, by omega⟩
    have hm1 : m ≤ kl := by omega
    have hm2 : m ≤ 100 := by omega
    have hmin : min (kl : Int) 100 = (m : Int) := hm.symm
    have hlen : (keep.take m).length = m := by rw [List.length_take, HI.out.llen]; omega
    have hx := HT.out.xcrash ka kc (keep.take m) (kat_of HI.out HT.out.bel hm1) (by omega) hkc n
    rw [hlen] at hx
    have HX := Lib.hid hx
    have HLEN := Lib.hid hlen
    clear hm hx hlen
    go_wp2_with fail
    refine HX.out.mono ?_
    rintro e w6 ⟨rfl, h6, k6⟩
    have HT6 := Lib.hid h6
    have HL6 := Lib.hid (k6.blk HL.out (fun h => h rfl))
    have cL := blk_cell HL6.out
    have hd := HT6.out.crash ka kc (keep.take m) (by rw [HLEN.out]; omega) (svi_of HI.out HT6.out.bel hm1) n
    rw [HLEN.out] at hd
    have HD := Lib.hid hd
    clear h6 k6 hd HX
    go_wp2_with fail
    refine HD.out.mono ?_
    rintro e w7 ⟨rfl, h7, k7⟩
    have HT7 := Lib.hid h7
    clear h7 k7
    go_wp2
    go_ret
    exact ⟨rfl, _, HT7.out.drop, next_crash _ HWF.out _ _⟩
end Go.Proofs.Ytlocickppgddmaa
