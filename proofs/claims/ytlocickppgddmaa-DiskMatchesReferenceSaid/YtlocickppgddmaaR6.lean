import Derived.Test.YtlocickppgddmaaR5
namespace Go.Proofs.Ytlocickppgddmaa
open Go.RowKit
variable {w : World} {F : Nat → Prop} {g sb scap : Nat} {lv : Value} {s : DS}

/-- the survivors' writes -/
def kws (keep : List Int) (s : DS) (k : Nat) : List (Nat × ByteArray) := (surv keep k).map fun i => s.pend.getD i default
theorem kws_succ (keep : List Int) (s : DS) (k : Nat) (hk : k < s.pend.length) : kws keep s (k + 1) = if has keep k = true then kws keep s k ++ [s.pend[k]] else kws keep s k := by
  unfold kws surv
  rw [List.range_succ, List.filter_append]
  by_cases h : has keep k = true
  · simp [h, hk, List.getD]
  · simp [h]
theorem kws_len (keep : List Int) (s : DS) (k : Nat) : (kws keep s k).length ≤ k := by
  simp [kws, surv]; exact Nat.le_trans (List.length_filter_le _ _) (by simp)
theorem kws_ins (keep : List Int) (s : DS) (k : Nat) (hk : k ≤ s.pend.length) (n : Nat) (h : ∀ p ∈ s.pend, p.1 + p.2.size ≤ n) : ∀ p ∈ kws keep s k, p.1 + p.2.size ≤ n := by
  intro p hp
  obtain ⟨i, hi, rfl⟩ := List.mem_map.1 hp
  have hi' : i < k := by simp [surv] at hi; exact hi.1
  have hl : i < s.pend.length := by omega
  rw [List.getD_eq_getElem?_getD, List.getElem?_eq_getElem hl]
  exact h _ (List.getElem_mem hl)
theorem tornLast_len (torn : Int) : ∀ ws, (tornLast torn ws).length = ws.length
  | [] => rfl
  | [x] => rfl
  | x :: y :: l => by rw [tornLast, List.length_cons, tornLast_len torn (y :: l)]; rfl
theorem tornLast_get (torn : Int) : ∀ (ws : List (Nat × ByteArray)) (j : Nat) (h : j < ws.length), (tornLast torn ws)[j]? = some (ws[j].1, tornS ws[j].2 torn (decide (j + 1 = ws.length)))
  | [x], 0, _ => rfl
  | x :: y :: l, 0, _ => by simp [tornLast, tornS]
  | x :: y :: l, j + 1, h => by
    rw [tornLast, List.getElem?_cons_succ, tornLast_get torn (y :: l) j (by simpa using h)]
    simp
theorem kat_kept {w w' : World} {a : Option Addr} {l : List Int} (h : KAt w a l) (hk : Kept (fun _ => False) w w') : KAt w' a l :=
  h.imp id fun ⟨b, off, e, hc⟩ => ⟨b, off, e, fun i hi => hk.cell (hc i hi) (fun h => h)⟩
theorem RAt.pair (h : RAt w F g sb scap lv s) (k : Nat) (hk : k < s.pend.length) : ∃ gl c, lv = .slice (some ⟨gl, 0, none⟩) s.pend.length c ∧ w.cell? ⟨gl, k * 2, none⟩ = some (.int .i64 (s.pend[k].1 : Int)) ∧ w.cell? ⟨gl, k * 2 + 1, none⟩ = some (.string s.pend[k].2) := by
  obtain ⟨gl, ⟨c, h1⟩, h2⟩ := h.at_ k hk
  exact ⟨gl, c, h1, h2⟩
theorem own_pair {base : Nat} {ws : List (Nat × ByteArray)} {v : Value} (h : w.ownsRow base 80 2 v ws.length (pcells ws)) (k : Nat) (hk : k < ws.length) : ∃ gl c, v = .slice (some ⟨gl, 0, none⟩) ws.length c ∧ w.cell? ⟨gl, k * 2, none⟩ = some (.int .i64 (ws[k].1 : Int)) ∧ w.cell? ⟨gl, k * 2 + 1, none⟩ = some (.string ws[k].2) := by
  obtain ⟨gl, c, hv, _⟩ := own_some h (by omega)
  rw [hv] at h
  obtain ⟨p1, p2⟩ := pcells_get ws k hk
  exact ⟨gl, c, hv, own_cell h _ _ p1, own_cell h _ _ p2⟩
theorem BRow.ks {sb cap : Nat} {l : List UInt8} (h : BRow w sb cap l) {base n : Nat} {v : Value} {xs : List Value} (ho : w.ownsRow base 80 2 v n xs) : ∀ k, v.ownBlock = some k → k ≠ sb := by
  obtain ⟨cur, q1, _⟩ := h
  intro k hk e
  exact own_blk_ne ho q1 (by decide) (by rw [hk, e])

theorem tornLast_ins (torn : Int) (n : Nat) : ∀ {ws : List (Nat × ByteArray)}, (∀ p ∈ ws, p.1 + p.2.size ≤ n) → ∀ p ∈ tornLast torn ws, p.1 + p.2.size ≤ n
  | [], _, p, hp => by cases hp
  | [x], h, p, hp => by
    have hx := h x (by simp)
    have := tornS_le x.2 torn true
    simp [tornLast] at hp; subst hp
    show x.1 + (tornS x.2 torn true).size ≤ n
    omega
  | x :: y :: l, h, p, hp => by
    rw [tornLast] at hp
    rcases List.mem_cons.1 hp with rfl | hp
    · exact h _ (by simp)
    · exact tornLast_ins torn n (fun q hq => h q (by simp at hq ⊢; exact .inr hq)) p hp
theorem grow_kept {w wr w1 : World} {e : TypeId} {size n : Nat} {v : Value} {xs : List Value} {X : Obj} (hK : Kept (fun _ => False) w wr) (ho : wr.ownsRow w.heap.size e size v n xs) (hg : (wr.alloc X).grownBy w1 v.ownBlock) : Kept (fun _ => False) w w1 :=
  hK.trans' (G := fun k => w.heap.size ≤ k) (((Kept.refl _ wr).alloc X).trans (Kept.of_grown hg (fun k e => .inl (ho.lt k e).1))) (fun _ hi => .inr hi)
theorem own_snoc {base : Nat} {ws : List (Nat × ByteArray)} {p : Nat × ByteArray} {v : Value} (h : w.ownsRow base 80 2 v (ws.length + 1) (pcells ws ++ [.int .i64 (p.1 : Int), .string p.2])) : w.ownsRow base 80 2 v (ws ++ [p]).length (pcells (ws ++ [p])) := by
  obtain ⟨o, x⟩ := p
  rw [pcells_snoc, List.length_append, List.length_singleton]; exact h
theorem BRow.ks2 {sb cap : Nat} {l : List UInt8} (h : BRow w sb cap l) {g : Nat} {t : TypeId} {cs : Array Value} {fr : Nat × Nat} (hb : w.heap[g]? = some (.cells cs t fr)) (ht : t ≠ 5) : g ≠ sb := by
  obtain ⟨cur, q1, _⟩ := h
  exact blk_ne hb q1 ht
/-- between two rounds of Crash's second loop -/
structure C2 (w : World) (g sb scap : Nat) (lv : Value) (s : DS) (l : List UInt8) (ws : List (Nat × ByteArray)) (v : Value) (wr : World) : Prop where
  blk : wr.heap[g]? = some (.cells #[.slice (some ⟨sb, 0, none⟩) s.dur.length scap, lv, .bool s.off, .int .i64 s.left] 43 (0, 0))
  sure : BRow wr sb scap l
  own : wr.ownsRow w.heap.size 80 2 v ws.length (pcells ws)
  kept : Kept (fun k => k = sb ∨ k = g) w wr
theorem C2.drw {wr w2 : World} {l : List UInt8} {ws : List (Nat × ByteArray)} {v : Value} (h : C2 w g sb scap lv s l ws v wr) (d : Drw wr w2) : C2 w g sb scap lv s l ws v w2 :=
  ⟨d.blk h.blk, h.sure.kept (d.kept (fun _ => False)) (fun h => h), own_kept h.own (d.kept (fun _ => False)) (fun _ _ h => h), h.kept.trans (d.kept _)⟩
theorem C2.put {wr w2 : World} {l l' : List UInt8} {ws : List (Nat × ByteArray)} {v : Value} (h : C2 w g sb scap lv s l ws v wr) (hk : Kept (· = sb) wr w2) (hb : BRow w2 sb scap l') : C2 w g sb scap lv s l' ws v w2 :=
  ⟨hk.blk h.blk (h.sure.ks2 h.blk (by decide)), hb, own_kept h.own hk (fun k hk' e => h.sure.ks h.own k hk' e), h.kept.trans (hk.mono fun k e => .inl (.inl e))⟩

theorem rc_end {wr : World} {l d : List UInt8} {ws : List (Nat × ByteArray)} {v : Value} (h : C2 w g sb scap lv s l ws v wr) (hl : l = d) (hR : RAt w F g sb scap lv s) (hd : d.length = s.dur.length) :
    wr.frozen? ⟨g, 1, none⟩ = false ∧ (wr.setCell ⟨g, 1, none⟩ (.slice none 0 0)).frozen? ⟨g, 2, none⟩ = false ∧ ((wr.setCell ⟨g, 1, none⟩ (.slice none 0 0)).setCell ⟨g, 2, none⟩ (.bool false)).frozen? ⟨g, 3, none⟩ = false ∧
    wr.cell? ⟨g, 1, none⟩ = some lv ∧ (wr.setCell ⟨g, 1, none⟩ (.slice none 0 0)).cell? ⟨g, 2, none⟩ = some (.bool s.off) ∧ ((wr.setCell ⟨g, 1, none⟩ (.slice none 0 0)).setCell ⟨g, 2, none⟩ (.bool false)).cell? ⟨g, 3, none⟩ = some (.int .i64 s.left) ∧
    RAt (((wr.setCell ⟨g, 1, none⟩ (.slice none 0 0)).setCell ⟨g, 2, none⟩ (.bool false)).setCell ⟨g, 3, none⟩ (.int .i64 0)) (fun k => F k ∨ w.heap.size ≤ k) g sb scap (.slice none 0 0) { off := false, left := 0, dur := d, vis := d, pend := [] } ∧
    Kept F w (((wr.setCell ⟨g, 1, none⟩ (.slice none 0 0)).setCell ⟨g, 2, none⟩ (.bool false)).setCell ⟨g, 3, none⟩ (.int .i64 0)) := by
  subst hl
  have b0 := h.blk
  have b1 := blk_set b0 1 (.slice none 0 0)
  have b2 := blk_set b1 2 (.bool false)
  have b3 := blk_set b2 3 (.int .i64 0)
  have hk : Kept (· = g) wr (((wr.setCell ⟨g, 1, none⟩ (.slice none 0 0)).setCell ⟨g, 2, none⟩ (.bool false)).setCell ⟨g, 3, none⟩ (.int .i64 0)) :=
    (((Kept.refl (· = g) wr).setCell (p := ⟨g, 1, none⟩) (.inl rfl) _).setCell (p := ⟨g, 2, none⟩) (.inl rfl) _).setCell (p := ⟨g, 3, none⟩) (.inl rfl) _
  refine ⟨blk_frozen b0 1, blk_frozen b1 2, blk_frozen b2 3, by rw [blk_cell b0]; rfl, by rw [blk_cell b1]; rfl, by rw [blk_cell b2]; rfl, ⟨by rw [b3]; simp [hd], h.sure.kept hk (fun e => h.sure.ks2 b0 (by decide) e.symm), World.ownsRow_nil _ _ _ _, .inl hR.fg, .inl hR.fs, (fun k e => (by cases e)), ⟨rfl, by show l.length ≤ _; rw [hd]; exact hR.wf.big, Nat.zero_le _, Nat.zero_le _, (fun p hp => (by cases hp))⟩, rfl, hR.cap_, by show 1 ≤ l.length; rw [hd]; exact hR.pos⟩, ?_⟩
  exact (h.kept.mono (G := F) (fun k hk => .inl (by rcases hk with rfl | rfl; exact hR.fs; exact hR.fg))).trans' hk (fun i hi => .inl (by rw [hi]; exact hR.fg))

def RCPost (w : World) (F : Nat → Prop) (g : Nat) (s : DS) (e : Ending) (w' : World) : Prop :=
  e = .returned (.tuple #[]) ∧ (∃ sb scap lv, RAt w' (fun k => F k ∨ w.heap.size ≤ k) g sb scap lv s) ∧ Kept F w w'

theorem tS1 (x : ByteArray) (t : Nat) (h : t < x.size) : tornS x t true = x.extract 0 t := by
  unfold tornS
  rw [if_pos ⟨rfl, by omega⟩]
  congr 1
  omega
theorem tS2 (x : ByteArray) (torn : Int) (last : Bool) (h : last = false ∨ torn < 0 ∨ (x.size : Int) ≤ torn) : tornS x torn last = x := by
  unfold tornS
  split
  · rename_i hc
    have hs : (x.size : Int) ≤ torn := by
      rcases h with h | h | h
      · rw [h] at hc; cases hc.1
      · omega
      · exact h
    have e : (min torn (x.size : Int)).toNat = x.size := by omega
    rw [e]
    exact ByteArray.extract_zero_size
  · rfl

set_option maxHeartbeats 8000000 in
set_option maxRecDepth 100000 in
theorem rcrash_any (h : RAt w F g sb scap lv s) (a : Option Addr) (c : Nat) (keep : List Int) (hK : KAt w a keep) (hkc : keep.length ≤ c) (hcc : c ≤ 9223372036854775807) (torn : Int) :
    Calls Try.prog 33 #[.pointer (some ⟨g, 0, none⟩), .slice a keep.length c, .int .i64 torn] w (RCPost w F g (s.crash keep torn)) := by
  have hcr := DS.crash_surv s keep torn
  rw [show (surv keep s.pend.length).map (fun i => s.pend.getD i default) = kws keep s s.pend.length from rfl] at hcr
  rw [hcr]
  have HR := Lib.hid h
  have HK := Lib.hid hK
  have hfew := h.wf.few
  have hbig := h.wf.big
  have hpos := h.pos
  obtain ⟨la, lc, rfl, _⟩ := own_form h.pend
  obtain ⟨i0, hi0, hz0, hz1, hz2⟩ := info_parts info80
  clear h hK hcr
  go_enter Try.func33, Try.ntmps33
  go_wp2_with fail
  go_loopw [7, 6] (fun t v wr => ∃ k : Nat, k ≤ s.pend.length ∧ t = .int .i64 k ∧ Hid (wr.ownsRow w.heap.size 80 2 v (kws keep s k).length (pcells (kws keep s k))) ∧ Hid (Kept (fun _ => False) w wr)) (fun t _ _ => s.pend.length - (intOf t).toNat)
  case atStart => exact ⟨0, Nat.zero_le _, rfl, World.ownsRow_nil _ _ _ _, Kept.refl _ _⟩
  case round =>
    obtain ⟨k, hk, rfl, HO, HKr⟩ := hrel
    have HRR := Lib.hid (HR.out.kept HKr.out (fun _ _ h => h))
    have hd1 : wr.cell? ⟨g, 1, none⟩ = some (.slice la s.pend.length lc) := by rw [blk_cell HRR.out.blk]; rfl
    have hwn := kws_len keep s k
    by_cases hlt : k < s.pend.length
    · have HS := Lib.hid (kws_succ keep s k hlt)
      have HH := Lib.hid (has_any wr a c keep k (kat_kept HK.out HKr.out) hkc hcc)
      obtain ⟨gl, c', q1, q2, q3⟩ := HRR.out.pair k hlt
      obtain ⟨rfl, rfl⟩ : la = some ⟨gl, 0, none⟩ ∧ lc = c' := by injection q1 with e1 e2 e3; exact ⟨e1, e3⟩
      clear q1
      generalize hp : s.pend[k] = p at q2 q3 HS
      obtain ⟨o, x⟩ := p
      simp only at q2 q3
      go_wp2_with fail
      refine HH.out.mono ?_
      rintro e wx ⟨rfl, rfl⟩
      have HDec := Lib.hid (show has keep k = decide ((k : Int) ∈ keep) from rfl)
      generalize decide ((k : Int) ∈ keep) = B at HDec ⊢
      clear hp HH
      cases B with
      | true =>
        have hb2 := HKr.out.size
        go_wp2_with (at_builtin; refine wpList_append_own _ rfl _ _ 41 rfl w.heap.size 80 i0 _ 2 24 Try.underlying41 hi0 hz0 hz1 hz2 rfl (by decide) _ (kws keep s k).length (pcells (kws keep s k)) rfl (HO.out.alloc _) ⟨wr.heap.size, 0, none⟩ 1 1 [.int .i64 o, .string x] rfl rfl (World.news_of_block (cs := #[.int .i64 o, .string x]) (t := 80) (fr := (0, 0)) (heap_alloc_new wr _)) (by simp [Value.oneCell']) (by unfold maxLen; omega) (by omega) (by simp; omega) ?_; intro v' w1 hown' hgrow _; have HO' := Lib.hid hown'; have HK' := Lib.hid (grow_kept HKr.out HO.out hgrow); clear hown' hgrow)
        go_roundw
        case rel => exact ⟨k + 1, by omega, by go_num, by rw [HS.out, if_pos (by rw [HDec.out])]; exact own_snoc HO'.out, HK'.out⟩
        case measure => simp [intOf]; omega
      | false =>
        go_wp2
        go_roundw
        case rel => exact ⟨k + 1, by omega, by go_num, by rw [HS.out, if_neg (by rw [HDec.out]; simp)]; exact HO.out, HKr.out⟩
        case measure => simp [intOf]; omega
    · obtain rfl : k = s.pend.length := by omega
      have hC := Lib.hid (show C2 w g sb scap (.slice la s.pend.length lc) s (laid s.dur ((tornLast torn (kws keep s s.pend.length)).take 0)) (kws keep s s.pend.length) _ wr from
        ⟨HRR.out.blk, HRR.out.sure, HO.out, HKr.out.mono fun _ h => h.elim⟩)
      have hins := kws_ins keep s s.pend.length (Nat.le_refl _) s.dur.length HR.out.wf.ins
      have HINS := Lib.hid hins
      have hpl := hwn
      obtain ⟨va, vc, hv, _⟩ := own_form HO.out
      subst hv
      generalize hws : kws keep s s.pend.length = ws at *
      clear HO HRR hins
      go_wp2_with fail
      go_loopw [8] (fun t wr => ∃ j : Nat, j ≤ ws.length ∧ t = .int .i64 j ∧ Hid (C2 w g sb scap (.slice la s.pend.length lc) s (laid s.dur ((tornLast torn ws).take j)) ws (.slice va ws.length vc) wr)) (fun t _ => ws.length - (intOf t).toNat)
      case atStart => exact ⟨0, Nat.zero_le _, rfl, hC.out⟩
      case round =>
        obtain ⟨j, hj, rfl, hCj⟩ := hrel
        have HC := Lib.hid hCj.out
        clear hCj
        by_cases hlt : j < ws.length
        · obtain ⟨gl, c', hv, q2, q3⟩ := own_pair HC.out.own j hlt
          obtain ⟨rfl, rfl⟩ : va = some ⟨gl, 0, none⟩ ∧ vc = c' := by injection hv with e1 e2 e3; exact ⟨e1, e3⟩
          clear hv
          have hfit := HINS.out _ (List.getElem_mem hlt)
          have hll : (laid s.dur ((tornLast torn ws).take j)).length = s.dur.length := laid_len _ _ (fun q hq => tornLast_ins _ _ HINS.out q (List.mem_of_mem_take hq))
          have hnx : laid s.dur ((tornLast torn ws).take (j + 1)) = splice (laid s.dur ((tornLast torn ws).take j)) ws[j].1 (tornS ws[j].2 torn (decide (j + 1 = ws.length))).data.toList := by
            rw [List.take_add_one, tornLast_get torn ws j hlt]; exact laid_snoc _ _ _
          have hcap := HR.out.cap_
          generalize ws[j] = p at q2 q3 hfit hnx
          obtain ⟨o, x⟩ := p
          simp only at q2 q3 hfit hnx
          have HNX := Lib.hid hnx
          clear hnx
          by_cases hlast : j + 1 = ws.length
          · have hdl : decide (j + 1 = ws.length) = true := decide_eq_true hlast
            rw [hdl] at HNX
            have hl : (ws.length : Int) - 1 = (j : Int) := by omega
            clear hdl hlast
            by_cases ht : 0 ≤ torn
            · obtain ⟨tn, rfl⟩ := Int.eq_ofNat_of_zero_le ht
              by_cases hts : tn < x.size
              · have HT := Lib.hid (tS1 x tn hts)
                have hle : (x.extract 0 tn).size ≤ x.size := by rw [ByteArray.size_extract]; omega
                go_wp2_with fail
                refine region_tail 10 (by kernel_rfl) (by kernel_rfl) fun w2 d => ?_
                simp only [List.take_succ_cons, List.take_zero, List.drop_succ_cons, List.drop_zero]
                have HC2 := Lib.hid (HC.out.drw d)
                have e1 : w2.cell? ⟨g, 0, none⟩ = some (.slice (some ⟨sb, 0, none⟩) s.dur.length scap) := by rw [blk_cell HC2.out.blk]; rfl
                have e2 := (d.kept (fun _ => False)).cell q2 (fun h => h)
                clear q2 q3
                repeat still_step
                refine wpStill_nil ?_
                have ha := apply_any w2 sb scap o _ (x.extract 0 tn) HC2.out.sure (by omega) hcap (by rw [hll]; omega)
                rw [hll] at ha
                have HA := Lib.hid ha
                clear e1 e2 ha HC
                go_wp2_with fail
                refine HA.out.mono ?_
                rintro e w3 ⟨rfl, hb3, hk3⟩
                have HC3 := Lib.hid (HC2.out.put hk3 hb3)
                clear hb3 hk3 HA
                go_wp2
                go_roundw
                case rel => exact ⟨j + 1, by omega, by go_num, by rw [HNX.out, HT.out]; exact HC3.out⟩
                case measure => simp [intOf]; omega
              · have HT := Lib.hid (tS2 x tn true (.inr (.inr (by omega))))
                go_wp2_with fail
                refine region_tail 10 (by kernel_rfl) (by kernel_rfl) fun w2 d => ?_
                simp only [List.take_succ_cons, List.take_zero, List.drop_succ_cons, List.drop_zero]
                have HC2 := Lib.hid (HC.out.drw d)
                have e1 : w2.cell? ⟨g, 0, none⟩ = some (.slice (some ⟨sb, 0, none⟩) s.dur.length scap) := by rw [blk_cell HC2.out.blk]; rfl
                have e2 := (d.kept (fun _ => False)).cell q2 (fun h => h)
                clear q2 q3
                repeat still_step
                refine wpStill_nil ?_
                have ha := apply_any w2 sb scap o _ x HC2.out.sure (by omega) hcap (by rw [hll]; exact hfit)
                rw [hll] at ha
                have HA := Lib.hid ha
                clear e1 e2 ha HC
                go_wp2_with fail
                refine HA.out.mono ?_
                rintro e w3 ⟨rfl, hb3, hk3⟩
                have HC3 := Lib.hid (HC2.out.put hk3 hb3)
                clear hb3 hk3 HA
                go_wp2
                go_roundw
                case rel => exact ⟨j + 1, by omega, by go_num, by rw [HNX.out, HT.out]; exact HC3.out⟩
                case measure => simp [intOf]; omega
            · have HT := Lib.hid (tS2 x torn true (.inr (.inl (by omega))))
              go_wp2_with fail
              refine region_tail 10 (by kernel_rfl) (by kernel_rfl) fun w2 d => ?_
              simp only [List.take_succ_cons, List.take_zero, List.drop_succ_cons, List.drop_zero]
              have HC2 := Lib.hid (HC.out.drw d)
              have e1 : w2.cell? ⟨g, 0, none⟩ = some (.slice (some ⟨sb, 0, none⟩) s.dur.length scap) := by rw [blk_cell HC2.out.blk]; rfl
              have e2 := (d.kept (fun _ => False)).cell q2 (fun h => h)
              clear q2 q3
              repeat still_step
              refine wpStill_nil ?_
              have ha := apply_any w2 sb scap o _ x HC2.out.sure (by omega) hcap (by rw [hll]; exact hfit)
              rw [hll] at ha
              have HA := Lib.hid ha
              clear e1 e2 ha HC
              go_wp2_with fail
              refine HA.out.mono ?_
              rintro e w3 ⟨rfl, hb3, hk3⟩
              have HC3 := Lib.hid (HC2.out.put hk3 hb3)
              clear hb3 hk3 HA
              go_wp2
              go_roundw
              case rel => exact ⟨j + 1, by omega, by go_num, by rw [HNX.out, HT.out]; exact HC3.out⟩
              case measure => simp [intOf]; omega
          · have hdl : decide (j + 1 = ws.length) = false := decide_eq_false hlast
            rw [hdl] at HNX
            have HT := Lib.hid (tS2 x torn false (.inl rfl))
            clear hdl
            go_wp2_with fail
            refine region_tail 10 (by kernel_rfl) (by kernel_rfl) fun w2 d => ?_
            simp only [List.take_succ_cons, List.take_zero, List.drop_succ_cons, List.drop_zero]
            have HC2 := Lib.hid (HC.out.drw d)
            have e1 : w2.cell? ⟨g, 0, none⟩ = some (.slice (some ⟨sb, 0, none⟩) s.dur.length scap) := by rw [blk_cell HC2.out.blk]; rfl
            have e2 := (d.kept (fun _ => False)).cell q2 (fun h => h)
            clear q2 q3
            repeat still_step
            refine wpStill_nil ?_
            have ha := apply_any w2 sb scap o _ x HC2.out.sure (by omega) hcap (by rw [hll]; exact hfit)
            rw [hll] at ha
            have HA := Lib.hid ha
            clear e1 e2 ha HC
            go_wp2_with fail
            refine HA.out.mono ?_
            rintro e w3 ⟨rfl, hb3, hk3⟩
            have HC3 := Lib.hid (HC2.out.put hk3 hb3)
            clear hb3 hk3 HA
            go_wp2
            go_roundw
            case rel => exact ⟨j + 1, by omega, by go_num, by rw [HNX.out, HT.out]; exact HC3.out⟩
            case measure => simp [intOf]; omega
        · obtain rfl : j = ws.length := by omega
          obtain ⟨f1, f2, f3, c1, c2, c3, D1, D2⟩ := rc_end HC.out (d := laid s.dur (tornLast torn ws)) (by rw [List.take_of_length_le (by rw [tornLast_len]; exact Nat.le_refl _)]) HR.out (laid_len _ _ (tornLast_ins _ _ HINS.out))
          have DD1 := Lib.hid D1
          have DD2 := Lib.hid D2
          clear D1 D2 HC
          go_wp2
          go_end0
          exact ⟨rfl, ⟨_, _, _, DD1.out⟩, DD2.out⟩
end Go.Proofs.Ytlocickppgddmaa
