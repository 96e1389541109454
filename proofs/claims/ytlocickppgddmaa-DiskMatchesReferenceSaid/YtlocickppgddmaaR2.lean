import Derived.Test.YtlocickppgddmaaR1
namespace Go.Proofs.Ytlocickppgddmaa
open Go.RowKit
variable {w : World} {F : Nat → Prop} {g sb scap : Nat} {lv : Value} {s : DS}

theorem RAt.kept {G : Nat → Prop} {w' : World} (h : RAt w F g sb scap lv s) (hk : Kept G w w') (hG : ∀ k, F k → ¬ G k) : RAt w' F g sb scap lv s :=
  ⟨hk.blk h.blk (hG _ h.fg), h.sure.kept hk (hG _ h.fs), own_kept h.pend hk (fun k hk' => hG k (h.fp k hk')), h.fg, h.fs, h.fp, h.wf, h.vis, h.cap_, h.pos⟩
theorem RAt.mono {G : Nat → Prop} (h : RAt w F g sb scap lv s) (hG : ∀ k, F k → G k) : RAt w G g sb scap lv s :=
  ⟨h.blk, h.sure, h.pend, hG _ h.fg, hG _ h.fs, fun k hk => hG k (h.fp k hk), h.wf, h.vis, h.cap_, h.pos⟩
theorem BRow.of_own {b n cap base : Nat} {l : List UInt8} (h : w.ownsRow base 5 1 (.slice (some ⟨b, 0, none⟩) n cap) n (bs l)) : BRow w b cap l ∧ l.length = n ∧ cap ≤ maxLen := by
  have hl : l.length = n := by have := h.1; rw [bs_length] at this; omega
  rcases h.2 with ⟨h', _⟩ | ⟨g', cap', cur, h', _, hg, h1, h2, h3, htake⟩
  · cases h'
  · injection h' with e1 e2 e3
    injection e1 with e1
    injection e1 with e1
    subst e1 e3 hl
    exact ⟨⟨cur, hg, by omega, by rw [Nat.mul_one] at htake; exact htake, h1⟩, rfl, h2⟩
theorem laid_len (c : List UInt8) : ∀ ws : List (Nat × ByteArray), (∀ p ∈ ws, p.1 + p.2.size ≤ c.length) → (laid c ws).length = c.length := by
  intro ws
  induction ws generalizing c with
  | nil => intro _; rfl
  | cons p ws ih =>
    intro h
    have e : (splice c p.1 p.2.data.toList).length = c.length := length_splice _ _ _ (by rw [data_length]; exact h p (by simp))
    show (laid (splice c p.1 p.2.data.toList) ws).length = _
    rw [ih _ (fun q hq => by rw [e]; exact h q (by simp [hq])), e]

theorem BRow.cells {w : World} {b cap : Nat} {l : List UInt8} (h : BRow w b cap l) : ∀ j u, (bs l)[j]? = some u → w.cell? ((⟨b, 0, none⟩ : Addr).add j) = some u := by
  intro j u hu
  have hj : j < l.length := by have := (List.getElem?_eq_some_iff.1 hu).1; rwa [bs_length] at this
  have e := h.cell j hj
  have ha : (⟨b, 0, none⟩ : Addr).add j = ⟨b, j, none⟩ := by unfold Addr.add; split <;> simp_all
  rw [ha, e, ← hu]; simp [bs, hj]
theorem own_some {w : World} {base : Nat} {e : TypeId} {size n : Nat} {v : Value} {xs : List Value} (h : w.ownsRow base e size v n xs) (hn : 1 ≤ n) : ∃ b cap, v = .slice (some ⟨b, 0, none⟩) n cap ∧ base ≤ b := by
  rcases h.2 with ⟨_, h0⟩ | ⟨g, cap, cur, e, hb, _⟩
  · omega
  · exact ⟨g, cap, e, hb⟩
theorem vis_start {w w1 : World} {c : List UInt8} {v' : Value} (hpos : 1 ≤ c.length) (hown : w1.ownsRow w.heap.size 5 1 v' (0 + c.length) ([] ++ bs c)) (hg : (w.alloc (.cells #[] 5)).grownBy w1 (some w.heap.size)) :
    ∃ b cap, v' = .slice (some ⟨b, 0, none⟩) c.length cap ∧ w.heap.size ≤ b ∧ BRow w1 b cap c ∧ cap ≤ 9223372036854775807 ∧ Kept (fun _ => False) w w1 := by
  rw [Nat.zero_add, List.nil_append] at hown
  obtain ⟨b, cap, rfl, hb⟩ := own_some hown hpos
  obtain ⟨h1, _, h2⟩ := BRow.of_own hown
  exact ⟨b, cap, rfl, hb, h1, h2, ((Kept.refl (fun _ => False) w).alloc _).trans' (Kept.of_grown (F := fun k => k = w.heap.size) hg (fun k e => .inl (by injection e with e; exact e.symm))) (fun k e => .inr (by omega))⟩
theorem RAt.at_ (h : RAt w F g sb scap lv s) (k : Nat) (hk : k < s.pend.length) : ∃ gl, (∃ c, lv = .slice (some ⟨gl, 0, none⟩) s.pend.length c) ∧ w.cell? ⟨gl, k * 2, none⟩ = some (.int .i64 (s.pend[k].1 : Int)) ∧ w.cell? ⟨gl, k * 2 + 1, none⟩ = some (.string s.pend[k].2) := by
  obtain ⟨gl, c, hlv, _⟩ := own_some h.pend (by omega)
  have hp := h.pend
  rw [hlv] at hp
  obtain ⟨p1, p2⟩ := pcells_get s.pend k hk
  exact ⟨gl, ⟨c, hlv⟩, own_cell hp _ _ p1, own_cell hp _ _ p2⟩

def VisPost (w : World) (s : DS) (e : Ending) (w' : World) : Prop :=
  ∃ b cap, e = .returned (.slice (some ⟨b, 0, none⟩) s.dur.length cap) ∧ w.heap.size ≤ b ∧ BRow w' b cap s.vis ∧ cap ≤ 9223372036854775807 ∧ Kept (fun _ => False) w w'

theorem info5 : (Try.prog.info? 5).map (fun i => (i.zero, i.size, i.bytes)) = some (some (.int .u8 0), 1, 1) := by kernel_rfl

set_option maxHeartbeats 4000000 in
set_option maxRecDepth 100000 in
theorem visible_any (h : RAt w F g sb scap lv s) : Calls Try.prog 34 #[.pointer (some ⟨g, 0, none⟩)] w (VisPost w s) := by
  have HR := Lib.hid h
  have hc := blk_cell h.blk
  have hc0 : w.cell? ⟨g, 0, none⟩ = some (.slice (some ⟨sb, 0, none⟩) s.dur.length scap) := by rw [hc]; rfl
  have hc1 : w.cell? ⟨g, 1, none⟩ = some lv := by rw [hc]; rfl
  obtain ⟨la, lc, rfl, _⟩ := own_form h.pend
  have hbig := h.wf.big
  have hpos := h.pos
  have hfew := h.wf.few
  have hgl := blk_lt h.blk
  obtain ⟨i0, hi, hz0, hz1, hz2⟩ := info_parts info5
  clear hc h
  go_enter Try.func34, Try.ntmps34
  have hcs := (HR.out.sure.kept ((Kept.refl (fun _ => False) w).alloc (.cells #[] 5)) (fun h => h)).cells
  have hlt0 : w.heap.size ≤ (w.alloc (.cells #[] 5)).heap.size := by simp
  go_wp2_with (at_builtin; refine wpList_append_own _ rfl _ _ 40 rfl w.heap.size 5 i0 (.int .u8 0) 1 1 Try.underlying40 hi hz0 hz1 hz2 rfl (by decide) _ 0 [] rfl (World.ownsRow_lit w #[] 0 (Nat.le_refl _) (by decide) rfl) ⟨sb, 0, none⟩ s.dur.length scap (bs s.dur) rfl (by rw [bs_length]; omega) hcs (bs_one _) (by unfold maxLen; omega) (by omega) hlt0 ?_; intro v' w1 hown' hgrow _; obtain ⟨vb, vc, hv', hvb, hvr, hvc, hvk⟩ := vis_start hpos hown' hgrow; subst hv'; have HVR := Lib.hid hvr; have HVK := Lib.hid hvk; clear hvr hvk hown' hgrow)
  clear hcs hlt0
  go_loopw [4] (fun t wr => ∃ k : Nat, k ≤ s.pend.length ∧ t = .int .i64 k ∧ Hid (BRow wr vb vc (laid s.dur (s.pend.take k))) ∧ Hid (Kept (fun _ => False) w wr)) (fun t _ => s.pend.length - (intOf t).toNat)
  case atStart => exact ⟨0, Nat.zero_le _, rfl, HVR.out, HVK.out⟩
  case round =>
    obtain ⟨k, hk, rfl, HBr, HKr⟩ := hrel
    have hrr := HR.out.kept HKr.out (fun _ _ h => h)
    have hcr := blk_cell hrr.blk
    have hd1 : wr.cell? ⟨g, 1, none⟩ = some (.slice la s.pend.length lc) := by rw [hcr]; rfl
    have HRR := Lib.hid hrr
    clear hcr hrr hc0 hc1
    by_cases hlt : k < s.pend.length
    · obtain ⟨p, hp⟩ : ∃ p, p = s.pend[k] := ⟨_, rfl⟩
      obtain ⟨gl, ⟨c', hgl1⟩, hgl2, hgl3⟩ := HRR.out.at_ k hlt
      obtain ⟨rfl, rfl⟩ : la = some ⟨gl, 0, none⟩ ∧ lc = c' := by injection hgl1 with e1 e2 e3; exact ⟨e1, e3⟩
      clear hgl1
      have hins := HRR.out.wf.ins _ (List.getElem_mem hlt)
      have hll : (laid s.dur (s.pend.take k)).length = s.dur.length := laid_len _ _ (fun q hq => HRR.out.wf.ins q (List.mem_of_mem_take hq))
      have hnx : laid s.dur (s.pend.take (k + 1)) = splice (laid s.dur (s.pend.take k)) s.pend[k].1 s.pend[k].2.data.toList := by
        rw [List.take_add_one, List.getElem?_eq_getElem hlt]; exact laid_snoc _ _ _
      rw [← hp] at hgl2 hgl3 hins hnx
      obtain ⟨o, x⟩ := p
      simp only at hgl2 hgl3 hins hnx
      have HNX := Lib.hid hnx
      clear hp hnx
      go_wp2_with fail
      refine region_tail 17 (by kernel_rfl) (by kernel_rfl) fun w2 d => ?_
      simp only [List.take_succ_cons, List.take_zero, List.drop_succ_cons, List.drop_zero]
      have HR2 := Lib.hid (HRR.out.kept (d.kept (fun _ => False)) (fun _ _ h => h))
      have HB2 := Lib.hid (HBr.out.kept (d.kept (fun _ => False)) (fun h => h))
      have HK2 := Lib.hid (HKr.out.trans (d.kept (fun _ => False)))
      have e1 : w2.cell? ⟨g, 1, none⟩ = some (.slice (some ⟨gl, 0, none⟩) s.pend.length lc) := by rw [blk_cell HR2.out.blk]; rfl
      have e2 : w2.cell? ⟨gl, k * 2, none⟩ = some (.int .i64 (o : Int)) := (d.kept (fun _ => False)).cell hgl2 (fun h => h)
      have e3 : w2.cell? ⟨gl, k * 2 + 1, none⟩ = some (.string x) := (d.kept (fun _ => False)).cell hgl3 (fun h => h)
      clear hgl2 hgl3 hd1
      repeat still_step
      refine wpStill_nil ?_
      have ha := apply_any w2 vb vc o _ x HB2.out (by omega) hvc (by omega)
      rw [hll] at ha
      have HA := Lib.hid ha
      clear e1 e2 e3 ha HRR
      go_wp2_with fail
      refine HA.out.mono ?_
      rintro e w3 ⟨rfl, hb3, hk3⟩
      have HB3 := Lib.hid hb3
      have HK3 := Lib.hid (HK2.out.trans' hk3 (fun i hi => .inr (by rw [hi]; exact hvb)))
      clear hb3 hk3
      go_wp2
      go_roundw
      case rel => exact ⟨k + 1, by omega, by go_num, by rw [HNX.out]; exact HB3.out, HK3.out⟩
      case measure => simp [intOf]; omega
    · obtain rfl : k = s.pend.length := by omega
      have HV := Lib.hid (HR.out.vis)
      rw [List.take_length] at HBr
      go_wp2
      go_ret
      exact ⟨vb, vc, rfl, hvb, by rw [HV.out]; exact HBr.out, hvc, HKr.out⟩
end Go.Proofs.Ytlocickppgddmaa
