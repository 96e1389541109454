/- the rule on budgets. the graph of a book: what the loops keep. (*book).graph. -/
import Derived.Test.YthfagcdjbmhhcaaGreatK08
import Derived.Test.YthfagcdjbmhhcaaGreatK06
import Derived.Test.YthfagcdjbmhhcaaGreatK07
set_option linter.unusedVariables false
set_option linter.unusedSimpArgs false
namespace Go.Proofs.YthfagcdjbmhhcaaGreat
open Go.RowKit
attribute [local irreducible] wpQuiet
def spentL (l : List Ofr) (p : Int) : Int := ((l.filter (isLoad p)).map Ofr.price).sum
theorem spentL_snoc (l : List Ofr) (x : Ofr) (p : Int) : spentL (l ++ [x]) p = spentL l p + if isLoad p x = true then x.price else 0 := by
 unfold spentL
 rw [List.filter_append, List.map_append, List.sum_append]
 by_cases h : isLoad p x = true
 ·simp [h]
 simp [h]
theorem spentL_bd : ∀ (l : List Ofr), (∀ x ∈ l, 0 ≤ x.price ∧ x.price ≤ 1000) → ∀ p, 0 ≤ spentL l p ∧ spentL l p ≤ 1000 * (l.length : Int)
 | [], _, p => by simp [spentL]
 | x :: l, h, p => by
  have h1 := spentL_bd l (fun y hy => h y (by simp [hy])) p
  have h2 := h x (by simp)
  have : spentL (x :: l) p = (if isLoad p x = true then x.price else 0) + spentL l p := by
   unfold spentL
   by_cases hx : isLoad p x = true
   ·simp [hx]
   ·simp [hx]
  rw [this]
  simp only [List.length_cons]
  split <;> omega
theorem take_snoc' {α : Type} (l : List α) (k : Nat) (h : k < l.length) : l.take (k + 1) = l.take k ++ [l[k]] := by
 rw [List.take_succ_eq_append_getElem h]
set_option maxHeartbeats 4000000 in
theorem spent160 {w : World} {X : Nat} {p o q v1 v2 v3 : Value} {g : Gr} {b : Bk} (hX : XAt w X p o q v1 v2 v3 g b) (hfew : b.few) (hv : ∀ o ∈ b.os, (0 ≤ o.party ∧ o.party ≤ 9) ∧ 0 ≤ o.price ∧ o.price ≤ 1000) :
  Calls Tryz.prog 160 #[.pointer (some ⟨X, 0, none⟩)] w fun e w' => ∃ M n, e = .returned (.map (some M)) ∧ MAt w' M n (spent b) ∧ Gro w w' := by
 obtain ⟨c0, c1, c2, c3, c4, c5, c6⟩ := hX.cells
 have hlt := World.block_lt_of_cell? w _ c2
 obtain ⟨a, c, rfl, hl⟩ := hX.os
 have HL := yy hl
 have HV := yy hv
 have fo := hfew.os
 have hmm := @run_makeMap Tryz.prog
 clear hX hl hv hfew c0 c1 c3 c4 c5 c6
 go_enter Tryz.func160, Tryz.ntmps160
 go_wp2
 go_loopw [13] (fun t wr => ∃ k n : Nat, k ≤ b.os.length ∧ n ≤ k ∧ t = .int .i64 k ∧ Gro w wr ∧ MAt wr w.heap.size n (spentL (b.os.take k))) (fun t _ => b.os.length - (intOf t).toNat)
 case atStart => exact ⟨0, 0, Nat.zero_le _, Nat.le_refl _, by go_num, (Gro.refl _).alloc _, MAt.made w⟩
 case round =>
 obtain ⟨k, n, hk, hn, rfl, hg, hM⟩ := hrel
 have HG := yy hg
 have HM := yy hM
 clear hg hM
 by_cases hlt2 : k < b.os.length
 ·obtain ⟨B, off, rfl, hb, hc⟩ := (HL.out.gro HG.out).base hlt2
  obtain ⟨d0, d1, d2, d3, d4, d5, d6⟩ := ocells hc hlt2
  have hvx := HV.out _ (List.getElem_mem hlt2)
  have hsum := spentL_bd (b.os.take k) (fun y hy => (HV.out y (List.mem_of_mem_take hy)).2)
  have hst := fun p => spentL_snoc (b.os.take k) b.os[k] p
  rw [← take_snoc' b.os k hlt2] at hst
  generalize b.os[k] = x at d0 d1 d2 d3 d4 d5 d6 hvx hst
  obtain ⟨xi, xp, xs, xl, xr, xu, xt⟩ := x
  simp only at d0 d1 d2 d3 d4 d5 d6 hvx
  have HST := yy hst
  have HC := yy hc
  clear hc hst
  have hs2 := hsum xp
  rw [List.length_take, Nat.min_eq_left (by omega)] at hs2
  have hok : okI xp := ⟨by omega, by omega⟩
  have k1 : Gro wr (wr.alloc (.cells #[.int .i64 xi, .int .i64 xp, .int .i64 xs, .int .i64 xl, .int .i64 xr, .int .i64 xu, .int .i64 xt] 30)) := (Gro.refl _).alloc _
  have hM1 := HM.out.kept k1 (fun h => h)
  have K1 := yy (HG.out.trans k1)
  by_cases hs : xs = 1 ∧ xt = 1
  ·obtain ⟨hs1, hs3⟩ := hs
   subst hs1
   subst hs3
   obtain ⟨w', hrun, hM2, hk2⟩ := hM1.set (by unfold maxLen; omega) hok (v := spentL (b.os.take k) xp + xr) ⟨by omega, by omega⟩
   have hlk := hM1.look hok
   have hfe : (fun y => if y = xp then spentL (b.os.take k) xp + xr else spentL (b.os.take k) y) = spentL (b.os.take (k + 1)) := by
    funext y
    rw [HST.out y]
    by_cases hy : y = xp
    ·subst hy; simp [isLoad]
    have : ¬ xp = y := fun e => hy e.symm
    simp [isLoad, hy, this]
   rw [hfe] at hM2
   have HM2 := yy hM2
   have HK2 := yy hk2
   clear hM2 hk2 hfe hM1 k1
   have hwr : IntKind.i64.wrap (spentL (b.os.take k) xp + xr) = spentL (b.os.take k) xp + xr := by rw [IntKind.wrap_i64]; omega
   clear hs2 hsum hvx hok
   generalize spentL (b.os.take k) xp = s at hrun hlk hwr
   go_wp2
   go_roundw
   case rel => exact ⟨k + 1, n + 1, by omega, by omega, by go_num, Kept.trans' K1.out HK2.out (fun i hi => .inr (by subst hi; exact Nat.le_refl _)), HM2.out⟩
   case measure => simp [intOf]; omega
  have hfe : spentL (b.os.take k) = spentL (b.os.take (k + 1)) := by
   funext y
   rw [HST.out y]
   have : isLoad y ⟨xi, xp, xs, xl, xr, xu, xt⟩ = false := by
    simp only [isLoad, Bool.and_eq_false_iff, beq_eq_false_iff_ne]
    by_cases h1 : xs = 1
    ·exact .inr (fun h2 => hs ⟨h1, h2⟩)
    exact .inl (.inr h1)
   simp [this]
  rw [hfe] at hM1
  have HM2 := yy hM1
  clear hM1 k1 hfe
  by_cases hs1 : xs = 1
  ·have hs3 : ¬ xt = 1 := fun h => hs ⟨hs1, h⟩
   clear hs
   subst hs1
   go_wp2
   go_roundw
   case rel => exact ⟨k + 1, n, by omega, by omega, by go_num, K1.out, HM2.out⟩
   case measure => simp [intOf]; omega
  clear hs
  go_wp2
  go_roundw
  case rel => exact ⟨k + 1, n, by omega, by omega, by go_num, K1.out, HM2.out⟩
  case measure => simp [intOf]; omega
 have hke : k = b.os.length := by omega
 have hM1 := HM.out
 rw [hke, List.take_length] at hM1
 have HM2 := yy hM1
 clear hM1 hke
 go_wp2
 go_ret
 exact ⟨_, n, rfl, HM2.out, HG.out⟩
theorem clo161 {W : World} {C M n : Nat} {f : Int → Int} (hC : W.heap[C]? = some (.cells #[.map (some M)] 175 (0, 0))) (hM : MAt W M n f) (x : Pty) (hx : okI x.id) :
  Calls Tryz.prog 161 #[.agg #[.int .i64 x.id, .int .i64 x.budget], .pointer (some ⟨C, 0, none⟩)] W fun e w' => e = .returned (.bool (decide (f x.id ≤ x.budget))) ∧ Gro W w' := by
 have cc := box_cell hC
 have hlt := World.block_lt_of_cell? W _ cc
 have k1 : Gro W (W.alloc (.cells #[.int .i64 x.id, .int .i64 x.budget] 66)) := (Gro.refl _).alloc _
 have hl := (hM.kept k1 (fun h => h)).look hx
 clear hC hM hx k1
 generalize f x.id = s at hl ⊢
 by_cases hle : s ≤ x.budget
 ·have hd : decide (s ≤ x.budget) = true := decide_eq_true hle
  have HD := yy hd
  clear hd
  go_enter Tryz.func161, Tryz.ntmps161
  go_wp2
  go_ret
  exact ⟨by first | rfl | (rw [HD.out]; rfl), (Gro.refl _).alloc _⟩
 have hd : decide (s ≤ x.budget) = false := decide_eq_false hle
 have HD := yy hd
 clear hd
 go_enter Tryz.func161, Tryz.ntmps161
 go_wp2
 go_ret
 exact ⟨by first | rfl | (rw [HD.out]; rfl), (Gro.refl _).alloc _⟩
theorem eg161 : ∀ args w, (callFunc 161 args).run Tryz.prog w = .ok (.enter 161 args) w := enters_of Tryz.func161 (by kernel_rfl) rfl
set_option maxHeartbeats 1000000 in
theorem rule159 {w : World} {X C : Nat} {p o q v1 v2 v3 : Value} {g : Gr} {b : Bk} (hX : XAt w X p o q v1 v2 v3 g b) (hC : w.heap[C]? = some (.cells #[.pointer (some ⟨X, 0, none⟩)] 89 (0, 0))) (hfew : b.few)
  (hv : ∀ o ∈ b.os, (0 ≤ o.party ∧ o.party ≤ 9) ∧ 0 ≤ o.price ∧ o.price ≤ 1000) (hp : ∀ x ∈ b.ps, okI x.id) :
  Calls Tryz.prog 159 #[.pointer (some ⟨C, 0, none⟩)] w fun e w' => e = .returned (.bool (r4 b)) ∧ Gro w w' := by
 have cc := box_cell hC
 have hlt := World.block_lt_of_cell? w _ cc
 have HX := yy hX
 have HC := yy hC
 have HS := yy (spent160 hX hfew hv)
 have HP := yy hp
 clear hX hC hfew hv hp
 go_enter Tryz.func159, Tryz.ntmps159
 go_wp2_with fail
 refine HS.out.mono ?_
 rintro e w1 ⟨M, n, rfl, hM, k1⟩
 have hMl := hM.lt
 have k2 : Gro w1 (w1.alloc (.cells #[.map (some M)] 175)) := (Gro.refl _).alloc _
 have hM2 := hM.kept k2 (fun h => h)
 have b2 := blk_new w1 (.cells #[.map (some M)] 175)
 have X2 := HX.out.gro (k1.trans k2)
 obtain ⟨c0, c1, c2, c3, c4, c5, c6⟩ := X2.cells
 have d1 := (HX.out.gro k1).cells.2.1
 have hltX := World.block_lt_of_cell? w1 _ d1
 have dc := Gro.cell k1 cc
 have hltC := World.block_lt_of_cell? w1 _ dc
 obtain ⟨a, m, rfl, hl⟩ := X2.ps
 have hb := all152 hl (fun x => decide (spent b x.id ≤ x.budget)) 161 #[] #[.pointer (some ⟨w1.heap.size, 0, none⟩)] eg161 (fun W x hW hm => clo161 (hW.blk b2) (hM2.kept hW (fun h => h)) x (HP.out x hm))
 have HB := yy hb
 have K := yy (k1.trans k2)
 clear hb hM2 b2 X2 c0 c1 c2 c3 c4 c5 c6 hl k1 k2 hM HS HP HX HC cc hlt hMl
 go_wp2_with fail
 refine HB.out.mono ?_
 rintro e w3 ⟨rfl, k3⟩
 have K3 := yy (K.out.trans k3)
 clear k3
 generalize hr : (b.ps.all fun x => decide (spent b x.id ≤ x.budget)) = r
 have HR := yy (show r4 b = r from hr)
 clear hr
 go_wp2
 go_ret
 exact ⟨by rw [HR.out]; rfl, K3.out⟩
end Go.Proofs.YthfagcdjbmhhcaaGreat
namespace Go.Proofs.YthfagcdjbmhhcaaGreat
open Go.RowKit
theorem IsPos.tail {ks : List Int} {a id : Int} {i : Nat} (h : IsPos (a :: ks) id (i + 1)) : IsPos ks id i :=
 ⟨by have := h.le; simpa using this, fun j hj hji => by have := h.lo (j + 1) (by simpa using hj) (by omega); simpa only [List.getElem_cons_succ] using this, fun j hj hij => by have := h.hi (j + 1) (by simpa using hj) (by omega); simpa only [List.getElem_cons_succ] using this⟩
theorem insAt_ins {α : Type} (key : α → Int) (x : α) : ∀ (l : List α) (i : Nat), IsPos (l.map key) (key x) i → insAt l i x = ins key x l
 | [], i, h => by simp [insAt, ins]
 | y :: l, 0, h => by
  have := h.hi 0 (by simp) (Nat.le_refl _)
  simp only [List.map_cons, List.getElem_cons_zero] at this
  unfold ins
  rw [if_neg (by omega)]
  simp [insAt]
 | y :: l, i + 1, h => by
  have := h.lo 0 (by simp) (by omega)
  simp only [List.map_cons, List.getElem_cons_zero] at this
  unfold ins
  rw [if_pos this, ← insAt_ins key x l i (IsPos.tail (by simpa using h))]
  simp [insAt]
theorem ownF_ne {w : World} {v v' : Value} {t t' : TypeId} {cs cs' : Array Value} {k k' : Nat} (h : v.ownBlock = some k) (h' : v'.ownBlock = some k') (hb : w.heap[k]? = some (.cells cs t (0, 0))) (hb' : w.heap[k']? = some (.cells cs' t' (0, 0))) (hne : t ≠ t') : ¬ ownF v k' := by
 intro e
 have e' : v.ownBlock = some k' := e
 rw [h] at e'
 injection e' with e'
 subst e'
 exact blk_ne hb hb' hne rfl
structure BAt (w wr : World) (T R : Nat) (va vb vc : Value) (vs : List Vtx) (es : List Edg) (ds : List Int) : Prop where
 tb : wr.heap[T]? = some (.cells #[va, vb, vc] 38 (0, 0))
 rb : wr.heap[R]? = some (.cells #[.slice none 0 0, .slice none 0 0, .slice none 0 0] 38 (0, 0))
 va : OwnL wr w.heap.size va vs
 vb : OwnL wr w.heap.size vb es
 vc : OwnL wr w.heap.size vc ds
 gro : Gro w wr
 tl : w.heap.size ≤ T
 rl : w.heap.size ≤ R
 tr : T ≠ R
theorem BAt.step {w wr w' : World} {T R : Nat} {va vb vc : Value} {vs : List Vtx} {es : List Edg} {ds : List Int} (h : BAt w wr T R va vb vc vs es ds) (k : Gro wr w') : BAt w w' T R va vb vc vs es ds :=
 ⟨k.blk h.tb, k.blk h.rb, h.va.gro k, h.vb.gro k, h.vc.gro k, h.gro.trans k, h.tl, h.rl, h.tr⟩
/-- another block's type keeps it out of a row's way -/
theorem own_far {α : Type} [Rec α] {wr : World} {base : Nat} {v : Value} {l : List α} (h : OwnL wr base v l) {k : Nat} {cs : Array Value} {t : TypeId} (hk : wr.heap[k]? = some (.cells cs t (0, 0))) (hne : t ≠ Rec.ty α) : ¬ ownF v k := by
 intro e
 obtain ⟨_, _, cur, hc⟩ := h.block e
 exact blk_ne hk hc hne rfl
theorem own_far2 {α β : Type} [Rec α] [Rec β] {wr : World} {base base' : Nat} {v v' : Value} {l : List α} {l' : List β} (h : OwnL wr base v l) (h' : OwnL wr base' v' l') (hne : Rec.ty α ≠ Rec.ty β) : ∀ k, v'.ownBlock = some k → ¬ ownF v k := by
 intro k hk
 obtain ⟨_, _, cur, hc⟩ := h'.block hk
 exact own_far h hc (Ne.symm hne)
theorem BAt.insV {w wr w' : World} {T R : Nat} {va vb vc va' : Value} {vs vs' : List Vtx} {es : List Edg} {ds : List Int} (h : BAt w wr T R va vb vc vs es ds) (ho : OwnL w' w.heap.size va' vs') (k : Kept (ownF va) wr w') :
  BAt w (w'.setCell ⟨T, 0, none⟩ va') T R va' vb vc vs' es ds := by
 have hT := k.blk h.tb (own_far h.va h.tb (by decide))
 have hR := k.blk h.rb (own_far h.va h.rb (by decide))
 have hb := h.vb.kept k (own_far2 h.va h.vb (by decide))
 have hc := h.vc.kept k (own_far2 h.va h.vc (by decide))
 have hg : Gro w w' := Kept.trans' h.gro k (fun i hi => .inr (h.va.block hi).1)
 have kk : Kept (· = T) w' (w'.setCell ⟨T, 0, none⟩ va') := (Kept.refl (· = T) w').setCell (p := ⟨T, 0, none⟩) (.inl rfl) va'
 refine ⟨?_, blk_far hR (fun e => h.tr e.symm) _, ho.kept kk ?_, hb.kept kk ?_, hc.kept kk ?_, Kept.setCell hg (.inr h.tl) _, h.tl, h.rl, h.tr⟩
 ·have := blk_set hT 0 va'
  simpa using this
 ·rintro k hk rfl
  obtain ⟨_, _, cur, hcc⟩ := ho.block hk
  exact blk_ne hT hcc (by decide) rfl
 ·rintro k hk rfl
  obtain ⟨_, _, cur, hcc⟩ := hb.block hk
  exact blk_ne hT hcc (by decide) rfl
 rintro k hk rfl
 obtain ⟨_, _, cur, hcc⟩ := hc.block hk
 exact blk_ne hT hcc (by decide) rfl
theorem BAt.insE {w wr w' : World} {T R : Nat} {va vb vc vb' : Value} {vs : List Vtx} {es es' : List Edg} {ds : List Int} (h : BAt w wr T R va vb vc vs es ds) (ho : OwnL w' w.heap.size vb' es') (k : Kept (ownF vb) wr w') :
  BAt w (w'.setCell ⟨T, 1, none⟩ vb') T R va vb' vc vs es' ds := by
 have hT := k.blk h.tb (own_far h.vb h.tb (by decide))
 have hR := k.blk h.rb (own_far h.vb h.rb (by decide))
 have ha := h.va.kept k (own_far2 h.vb h.va (by decide))
 have hc := h.vc.kept k (own_far2 h.vb h.vc (by decide))
 have hg : Gro w w' := Kept.trans' h.gro k (fun i hi => .inr (h.vb.block hi).1)
 have kk : Kept (· = T) w' (w'.setCell ⟨T, 1, none⟩ vb') := (Kept.refl (· = T) w').setCell (p := ⟨T, 1, none⟩) (.inl rfl) vb'
 refine ⟨?_, blk_far hR (fun e => h.tr e.symm) _, ha.kept kk ?_, ho.kept kk ?_, hc.kept kk ?_, Kept.setCell hg (.inr h.tl) _, h.tl, h.rl, h.tr⟩
 ·have := blk_set hT 1 vb'
  simpa using this
 ·rintro k hk rfl
  obtain ⟨_, _, cur, hcc⟩ := ha.block hk
  exact blk_ne hT hcc (by decide) rfl
 ·rintro k hk rfl
  obtain ⟨_, _, cur, hcc⟩ := ho.block hk
  exact blk_ne hT hcc (by decide) rfl
 rintro k hk rfl
 obtain ⟨_, _, cur, hcc⟩ := hc.block hk
 exact blk_ne hT hcc (by decide) rfl
/-- the vertices after k offers, the edges after k wishes -/
def vsAt (g : Gr) (b : Bk) (k : Nat) : List Vtx := insAll Vtx.id g.vs (((b.os.take k).filter isOpen).map vtxOf)
def esAt (g : Gr) (b : Bk) (k : Nat) : List Edg := insAll Edg.id g.es ((b.ws.take k).map (edgOf b))
theorem insAll_snoc {α : Type} (key : α → Int) (l xs : List α) (x : α) : insAll key l (xs ++ [x]) = ins key x (insAll key l xs) := by
 unfold insAll
 rw [List.foldl_append]
 rfl
theorem vsAt_open {g : Gr} {b : Bk} {k : Nat} (hk : k < b.os.length) (h : b.os[k].state = 1) : vsAt g b (k + 1) = ins Vtx.id (vtxOf b.os[k]) (vsAt g b k) := by
 unfold vsAt
 rw [take_snoc' _ k hk, List.filter_append, List.map_append]
 have : [b.os[k]].filter isOpen = [b.os[k]] := by simp [isOpen, h]
 rw [this, List.map_cons, List.map_nil, insAll_snoc]
theorem vsAt_shut {g : Gr} {b : Bk} {k : Nat} (hk : k < b.os.length) (h : ¬ b.os[k].state = 1) : vsAt g b (k + 1) = vsAt g b k := by
 unfold vsAt
 rw [take_snoc' _ k hk, List.filter_append, List.map_append]
 have : [b.os[k]].filter isOpen = [] := by simp [isOpen, h]
 rw [this, List.map_nil, List.append_nil]
theorem esAt_succ {g : Gr} {b : Bk} {k : Nat} (hk : k < b.ws.length) : esAt g b (k + 1) = ins Edg.id (edgOf b b.ws[k]) (esAt g b k) := by
 unfold esAt
 rw [take_snoc' _ k hk, List.map_append, List.map_cons, List.map_nil, insAll_snoc]
theorem build_at (g : Gr) (b : Bk) : build g b = ⟨vsAt g b b.os.length, esAt g b b.ws.length, g.ds⟩ := by
 unfold build vsAt esAt
 rw [List.take_length, List.take_length]
theorem vsAt_asc {g : Gr} {b : Bk} (h : VB g b) (k : Nat) : ((vsAt g b k).map Vtx.id).Pairwise (· < ·) := by
 refine insAll_asc h.vg.av ?_ ?_
 ·rw [List.map_map]
  have : (Vtx.id ∘ vtxOf) = Ofr.id := rfl
  rw [this]
  exact List.Pairwise.sublist (List.Sublist.map _ (List.filter_sublist.trans (List.take_sublist _ _))) h.ao
 intro x hx y hy e
 obtain ⟨o, ho, rfl⟩ := List.mem_map.1 hx
 have ho' := List.mem_of_mem_take (List.mem_filter.1 ho).1
 have := (okO_inv (h.oko o ho')).2.2.1
 have h2 : has g o.id = true := has_iff.2 ⟨y, hy, e⟩
 rw [this] at h2; cases h2
theorem esAt_asc {g : Gr} {b : Bk} (h : VB g b) (k : Nat) : ((esAt g b k).map Edg.id).Pairwise (· < ·) := by
 refine insAll_asc h.vg.ae ?_ ?_
 ·rw [List.map_map]
  have : (Edg.id ∘ edgOf b) = Wsh.edge := rfl
  rw [this]
  exact List.Pairwise.sublist (List.Sublist.map _ (List.take_sublist _ _)) h.aw
 intro x hx y hy e
 obtain ⟨w, hw, rfl⟩ := List.mem_map.1 hx
 have := h.new w (List.mem_of_mem_take hw)
 simp [newE, hasE] at this
 exact this.2 y hy e
theorem vsAt_few {g : Gr} {b : Bk} (k : Nat) : (vsAt g b k).length ≤ g.vs.length + b.os.length := by
 unfold vsAt
 rw [length_insAll, List.length_map]
 have := List.length_filter_le isOpen (b.os.take k)
 have := List.length_take_le k b.os
 have : (b.os.take k).length ≤ b.os.length := by rw [List.length_take]; omega
 omega
theorem esAt_few {g : Gr} {b : Bk} (k : Nat) : (esAt g b k).length ≤ g.es.length + b.ws.length := by
 unfold esAt
 rw [length_insAll, List.length_map, List.length_take]
 omega
end Go.Proofs.YthfagcdjbmhhcaaGreat
namespace Go.Proofs.YthfagcdjbmhhcaaGreat
open Go.RowKit
attribute [local irreducible] wpQuiet
theorem lfF11 {P : Prop} (h : P := by (intro w hSw; obtain ⟨q0, q1, q2, q3, q4, q5⟩ := hSw; go_simp; try with_reducible rfl)) : P := h
theorem OwnL.form {α : Type} [Rec α] {w : World} {base : Nat} {v : Value} {l : List α} (h : OwnL w base v l) : ∃ a c, v = .slice a l.length c := by
 rcases h.2 with ⟨rfl, hz⟩ | ⟨g, cap, cur, rfl, _⟩
 ·exact ⟨none, 0, by rw [hz]⟩
 exact ⟨_, _, rfl⟩
theorem drw_drew (w : World) : Drw w w.drew := ⟨rfl, rfl, rfl, rfl, Nat.le_succ _⟩
theorem Gro.drew {a b : World} (h : Gro a b) : Gro a b.drew := h.drw (drw_drew b)
theorem drewk {W w' : World} (k : Gro W.drew w') : Gro W w' := Gro.trans (Gro.drew (Gro.refl _)) k
theorem t6 {w : World} {N M : Nat} (h : w.heap[N]? = some (.cells #[.slice none 0 0, .slice none 0 0, .slice none 0 0] 38 (0, 0))) (e : N = M) :
  (w.cell? ⟨M, 0, none⟩ = some (.slice none 0 0) ∧ w.cell? ⟨M, 1, none⟩ = some (.slice none 0 0) ∧ w.cell? ⟨M, 2, none⟩ = some (.slice none 0 0)) ∧ (w.frozen? ⟨M, 0, none⟩ = false ∧ w.frozen? ⟨M, 1, none⟩ = false ∧ w.frozen? ⟨M, 2, none⟩ = false) := by
 subst e
 exact ⟨⟨by rw [blk_cell h]; rfl, by rw [blk_cell h]; rfl, by rw [blk_cell h]; rfl⟩, blk_frozen h _, blk_frozen h _, blk_frozen h _⟩
theorem asz (w : World) (o : Obj) : (w.alloc o).heap.size = w.heap.size + 1 := by simp
/-- the four ways in which the new graph's block may lie end in this -/
theorem fin3 {w w0 w3 : World} {T R : Nat} {va vb vc : Value} {vs : List Vtx} {es : List Edg} {ds : List Int} (K0 : Gro w w0) (b0 : w0.heap[R]? = some (.cells #[.slice none 0 0, .slice none 0 0, .slice none 0 0] 38 (0, 0))) (hR : w.heap.size ≤ R) (K3 : Gro w0 w3)
  (oa : OwnL w3 w.heap.size va vs) (ob : OwnL w3 w.heap.size vb es) (oc : OwnL w3 w.heap.size vc ds) (hT : w0.heap.size ≤ T) (bT : w3.heap[T]? = some (.cells #[.slice none 0 0, .slice none 0 0, .slice none 0 0] 38 (0, 0))) :
  BAt w (((w3.setCell ⟨T, 0, none⟩ va).setCell ⟨T, 1, none⟩ vb).setCell ⟨T, 2, none⟩ vc) T R va vb vc vs es ds := by
 have hRl := blk_lt b0
 have hne : T ≠ R := by omega
 have kk : Kept (· = T) w3 (((w3.setCell ⟨T, 0, none⟩ va).setCell ⟨T, 1, none⟩ vb).setCell ⟨T, 2, none⟩ vc) :=
  (((Kept.refl (· = T) w3).setCell (p := ⟨T, 0, none⟩) (.inl rfl) va).setCell (p := ⟨T, 1, none⟩) (.inl rfl) vb).setCell (p := ⟨T, 2, none⟩) (.inl rfl) vc
 have far : ∀ {β : Type} [Rec β] {v : Value} {l : List β}, OwnL w3 w.heap.size v l → 38 ≠ Rec.ty β → ∀ k, v.ownBlock = some k → ¬ (k = T) := by
  intro β _ v l h hn k hk e
  subst e
  obtain ⟨_, _, cur, hc⟩ := h.block hk
  exact blk_ne bT hc hn rfl
 have kw : Gro w w3 := K0.trans K3
 have hTw : w.heap.size ≤ T := Nat.le_trans K0.size hT
 refine ⟨?_, kk.blk (K3.blk b0) (fun e => hne e.symm), oa.kept kk (far oa (by decide)), ob.kept kk (far ob (by decide)), oc.kept kk (far oc (by decide)), Kept.trans' kw kk (fun i hi => .inr (by subst hi; exact hTw)), hTw, hR, hne⟩
 have := blk_set (blk_set (blk_set bT 0 va) 1 vb) 2 vc
 simpa using this
theorem fin4 {w w0 w3 : World} {R : Nat} {va vb vc : Value} {vs : List Vtx} {es : List Edg} {ds : List Int} (K0 : Gro w w0) (b0 : w0.heap[R]? = some (.cells #[.slice none 0 0, .slice none 0 0, .slice none 0 0] 38 (0, 0))) (hR : w.heap.size ≤ R) (K3 : Gro w0 w3)
  (oa : OwnL w3 w.heap.size va vs) (ob : OwnL w3 w.heap.size vb es) (oc : OwnL w3 w.heap.size vc ds) : BAt w (w3.alloc (.cells #[va, vb, vc] 38)) w3.heap.size R va vb vc vs es ds := by
 have hRl := blk_lt (K3.blk b0)
 have k1 : Gro w3 (w3.alloc (.cells #[va, vb, vc] 38)) := (Gro.refl _).alloc _
 have kw : Gro w w3 := K0.trans K3
 exact ⟨blk_new _ _, k1.blk (K3.blk b0), oa.gro k1, ob.gro k1, oc.gro k1, kw.trans k1, kw.size, hR, by omega⟩
theorem s6 {F : Nat → Prop} {w W : World} {a1 a2 a3 a4 a5 a6 : Addr} {v1 v2 v3 v4 v5 v6 : Value} (h : w.cell? a1 = some v1 ∧ w.cell? a2 = some v2 ∧ w.cell? a3 = some v3 ∧ w.cell? a4 = some v4 ∧ w.cell? a5 = some v5 ∧ w.cell? a6 = some v6) (k : Kept F w W)
  (h1 : ¬ F a1.block) (h2 : ¬ F a2.block) (h3 : ¬ F a3.block) (h4 : ¬ F a4.block) (h5 : ¬ F a5.block) (h6 : ¬ F a6.block) : W.cell? a1 = some v1 ∧ W.cell? a2 = some v2 ∧ W.cell? a3 = some v3 ∧ W.cell? a4 = some v4 ∧ W.cell? a5 = some v5 ∧ W.cell? a6 = some v6 :=
 ⟨k.cell h1 h.1, k.cell h2 h.2.1, k.cell h3 h.2.2.1, k.cell h4 h.2.2.2.1, k.cell h5 h.2.2.2.2.1, k.cell h6 h.2.2.2.2.2⟩
theorem xs3 {w : World} {X : Nat} {p o q v1 v2 v3 : Value} {g : Gr} {b : Bk} (h : XAt w X p o q v1 v2 v3 g b) : w.cell? ⟨X, 4, none⟩ = some v1 ∧ w.cell? ⟨X, 5, none⟩ = some v2 ∧ w.cell? ⟨X, 6, none⟩ = some v3 := ⟨h.cells.2.2.2.2.1, h.cells.2.2.2.2.2.1, h.cells.2.2.2.2.2.2⟩
set_option maxHeartbeats 8000000 in
set_option maxRecDepth 100000 in
theorem graph83 {w : World} {X : Nat} {p o q v1 v2 v3 : Value} {g : Gr} {b : Bk} (hX : XAt w X p o q v1 v2 v3 g b) (hV : VB g b) (hg : g.few) (hfew : b.few) (hs1 : g.vs.length + b.os.length ≤ 1000000) (hs2 : g.es.length + b.ws.length ≤ 1000000) :
  Calls Tryz.prog 83 #[.pointer (some ⟨X, 0, none⟩)] w fun e w' => ∃ a1 a2 a3, e = .returned (.agg #[a1, a2, a3]) ∧ GAt w' a1 a2 a3 (build g b) ∧ Gro w w' := by
 obtain ⟨c0, c1, c2, c3, c4, c5, c6⟩ := hX.cells
 have hmix := mixed
 have hltX := World.block_lt_of_cell? w _ c2
 have HX := yy hX
 have HV := yy hV
 have HG := yy hg
 have HF := yy hfew
 clear hX hV hg hfew c0 c1 c2 c3 c4 c5 c6
 go_enter Tryz.func83, Tryz.ntmps83
 go_wp2_with fail
 rename_i K hK
 have hrest : ∀ (T : Nat) (va vb vc : Value) (u14 u15 u16 u17 u18 u19 u20 u21 u22 u23 u24 u25 u26 u27 u28 u29 u30 u31 u32 : Value) (W : World), BAt w W T w.heap.size va vb vc g.vs g.es g.ds → K { tmps := #[.pointer (some ⟨X, 0, none⟩), undef, .pointer (some ⟨w.heap.size, 0, none⟩), .pointer (some ⟨T, 0, none⟩), undef, undef, undef, undef, undef, undef, undef, undef, undef, undef, u14, u15, u16, u17, u18, u19, u20, u21, u22, u23, u24, u25, u26, u27, u28, u29, u30, u31, u32, undef, undef, undef, undef, undef, undef, undef, undef, undef, undef, undef, undef, undef, undef, undef, undef, undef, undef, undef, undef, undef, undef, undef, undef, undef, undef, undef, undef, undef, undef, undef, undef, undef, undef, undef, undef, undef, undef, undef, undef, undef, undef, undef, undef, undef, undef, undef, undef, undef, undef, undef, undef, undef, undef, undef, undef, undef, undef, undef, undef, undef, undef, undef, undef, undef, undef, undef, undef, undef, undef, undef, undef, undef, undef, undef, undef, undef, undef, undef, undef, undef, undef, undef, undef, undef, undef, undef, undef], defers := [] } W := by
  have hfd := HG.out.ds
  clear HG
  intro T va vb vc u14 u15 u16 u17 u18 u19 u20 u21 u22 u23 u24 u25 u26 u27 u28 u29 u30 u31 u32 W hB
  refine hK _ _ ?_
  have hXW := HX.out.gro hB.gro
  obtain ⟨c0, c1, c2, c3, c4, c5, c6⟩ := hXW.cells
  have hltW := World.block_lt_of_cell? W _ c2
  obtain ⟨oa, oc, rfl, hol⟩ := HX.out.os
  have fo := HF.out.os
  have fw := HF.out.ws
  have fd := hfd
  have HB := yy hB
  have HOL := yy hol
  clear c0 c1 c3 c4 c5 c6 hB hol hXW hK
  go_wp2
  go_loopw [39] (fun t wr => ∃ (k : Nat) (va' : Value), k ≤ b.os.length ∧ t = .int .i64 k ∧ BAt w wr T w.heap.size va' vb vc (vsAt g b k) g.es g.ds) (fun t _ => b.os.length - (intOf t).toNat)
  case atStart => exact ⟨0, va, Nat.zero_le _, by go_num, HB.out⟩
  case round =>
  obtain ⟨k, va', hk, rfl, hB1⟩ := hrel
  have HB1 := yy hB1
  clear hB1 c2
  by_cases hlt : k < b.os.length
  ·obtain ⟨B, off, rfl, hb, hc⟩ := (HOL.out.gro HB1.out.gro).base hlt
   obtain ⟨d0, d1, d2, d3, d4, d5, d6⟩ := ocells hc hlt
   have hst1 := vsAt_open (g := g) hlt
   have hst2 := vsAt_shut (g := g) hlt
   have hasc := vsAt_asc HV.out k
   have hfew1 := vsAt_few (g := g) (b := b) k
   generalize b.os[k] = x at d0 d1 d2 d3 d4 d5 d6 hst1 hst2
   obtain ⟨xi, xp, xs, xl, xr, xu, xt⟩ := x
   simp only at d0 d1 d2 d3 d4 d5 d6 hst1 hst2
   have HST1 := yy hst1
   have HST2 := yy hst2
   have HASC := yy hasc
   have HC := yy hc
   clear hst1 hst2 hasc hc
   by_cases hs : xt = 1
   ·subst hs
    have kA : Gro wr (wr.alloc (.cells #[.int .i64 xi, .int .i64 xp, .int .i64 xs, .int .i64 xl, .int .i64 xr, .int .i64 xu, .int .i64 1] 30)) := (Gro.refl _).alloc _
    have bA := blk_new wr (.cells #[.int .i64 xi, .int .i64 xp, .int .i64 xs, .int .i64 xl, .int .i64 xr, .int .i64 xu, .int .i64 1] 30)
    obtain ⟨WA, hWA⟩ : ∃ WA, WA = wr.alloc (.cells #[.int .i64 xi, .int .i64 xp, .int .i64 xs, .int .i64 xl, .int .i64 xr, .int .i64 xu, .int .i64 1] 30) := ⟨_, rfl⟩
    rw [← hWA] at kA bA
    have HBA := yy (HB1.out.step kA)
    have KA := yy kA
    have BA := yy bA
    have HWA := yy hWA
    clear kA bA hWA
    have tb := HB1.out.tb
    have t0 : wr.cell? ⟨T, 0, none⟩ = some va' := by rw [blk_cell tb]; rfl
    have hTl := blk_lt tb
    obtain ⟨sa, csa, hsa⟩ := HB1.out.va.form
    subst hsa
    clear tb
    obtain ⟨aL, cL, hvL, hlL⟩ := HBA.out.va.lv (by omega)
    injection hvL with e1 e2 e3
    subst e1 e3
    have HPL := yy (place125 hlL (by omega) xi HASC.out)
    clear hlL e2
    go_wp2_with fail
    rw [← HWA.out]
    refine HPL.out.mono ?_
    rintro e w2 ⟨i, rfl, hpos, k2⟩
    have hins := insAt_ins Vtx.id (vtxOf ⟨xi, xp, xs, xl, xr, xu, 1⟩) (vsAt g b k) i hpos
    rw [← HST1.out (by first | rfl | trivial)] at hins
    have hile := hpos.le
    rw [List.length_map] at hile
    have HB2 := yy (HBA.out.step k2)
    have B2 := yy (k2.blk BA.out)
    have HINS := yy hins
    have t2 : w2.cell? ⟨T, 0, none⟩ = some (.slice sa (vsAt g b k).length csa) := by rw [blk_cell HB2.out.tb]; rfl
    have hT2 := blk_lt HB2.out.tb
    have f0 := blk_cell B2.out 0
    have f2 := blk_cell B2.out 2
    simp only [lPa, lPb, lPc] at f0 f2
    have hA2 := blk_lt B2.out
    clear hins hpos k2 HPL HBA BA KA HWA HB1 HC d0 d1 d2 d3 d4 d5 d6 t0 hTl hb
    generalize wr.heap.size = OB at B2 f0 f2 hA2 ⊢
    go_wp2_with fail
    have k3 : Gro w2 (w2.alloc (.cells #[.int .i64 xi, .int .i64 xs] 77)) := (Gro.refl _).alloc _
    have b3 := blk_new w2 (.cells #[.int .i64 xi, .int .i64 xs] 77)
    have HB3 := yy (HB2.out.step k3)
    have hIN := ins127 HB3.out.va HB3.out.gro.size (by omega) i hile (vtxOf ⟨xi, xp, xs, xl, xr, xu, 1⟩) w2.heap.size b3 (fun e => by have := (HB2.out.va.block e).2.1; omega)
    have HIN := yy hIN
    clear k3 b3 hIN HB2 t2
    refine HIN.out.mono ?_
    rintro e w4 ⟨va2, rfl, ho, kk, hat⟩
    rw [HINS.out] at ho
    obtain ⟨s2, cs2, hs2'⟩ := ho.form
    subst hs2'
    have hT4 := kk.blk HB3.out.tb (own_far HB3.out.va HB3.out.tb (by decide))
    have g0 : w4.cell? ⟨T, 0, none⟩ = some (.slice sa (vsAt g b k).length csa) := by rw [blk_cell hT4]; rfl
    have z0 := blk_frozen hT4 0
    have hTl4 := blk_lt hT4
    have HB5 := yy (HB3.out.insV ho kk)
    clear hT4 ho kk hat HIN HB3 f0 f2 hA2 B2 hT2
    go_wp2
    go_roundw
    case rel => exact ⟨k + 1, _, by omega, by go_num, HB5.out⟩
    case measure => simp [intOf]; omega
   have HB2 := yy (HB1.out.step ((Gro.refl wr).alloc (.cells #[.int .i64 xi, .int .i64 xp, .int .i64 xs, .int .i64 xl, .int .i64 xr, .int .i64 xu, .int .i64 xt] 30)))
   have hsh := HST2.out hs
   have HSH := yy hsh
   clear hsh
   go_wp2
   go_roundw
   case rel => exact ⟨k + 1, _, by omega, by go_num, by rw [HSH.out]; exact HB2.out⟩
   case measure => simp [intOf]; omega
  have hkl : k = b.os.length := by omega
  subst hkl
  obtain ⟨c0, c1, c2, c3, c4, c5, c6⟩ := (HX.out.gro HB1.out.gro).cells
  have hltX2 := World.block_lt_of_cell? wr _ c3
  obtain ⟨wa, wc, rfl, hwl⟩ := HX.out.ws
  have HWL := yy hwl
  clear c0 c1 c2 c4 c5 c6 hwl
  go_wp2
  go_loopw [72] (fun t wr => ∃ (k : Nat) (vb' : Value), k ≤ b.ws.length ∧ t = .int .i64 k ∧ BAt w wr T w.heap.size va' vb' vc (vsAt g b b.os.length) (esAt g b k) g.ds) (fun t _ => b.ws.length - (intOf t).toNat)
  case atStart => exact ⟨0, vb, Nat.zero_le _, by go_num, HB1.out⟩
  case round =>
  obtain ⟨k, vb', hk, rfl, hE1⟩ := hrel
  have HE1 := yy hE1
  clear hE1 c3
  by_cases hlt : k < b.ws.length
  ·obtain ⟨B, off, rfl, hb, hc⟩ := (HWL.out.gro HE1.out.gro).base hlt
   obtain ⟨d0, d1, d2, d3⟩ := wcells hc hlt
   have hst1 := esAt_succ (g := g) hlt
   have hasc := esAt_asc HV.out k
   have hfew1 := esAt_few (g := g) (b := b) k
   have hok := HV.out.okw _ (List.getElem_mem hlt)
   generalize b.ws[k] = x at d0 d1 d2 d3 hst1 hok
   obtain ⟨xe, xf, xto, xw⟩ := x
   obtain ⟨y1, y2, hy1, hy2, sy1, sy2, _, _⟩ := okW_inv hok
   simp only at d0 d1 d2 d3 hst1 hy1
   obtain ⟨hm1, hid1⟩ := fnd_some hy1
   have hmem : xf ∈ b.os.map Ofr.id := List.mem_map.2 ⟨y1, hm1, hid1⟩
   obtain ⟨hpi, hpe, hpo, hpf⟩ := found_at HV.out.ao (posI_is HV.out.ao xf) hmem
   have hopn : opn b xf = true := by
    rw [hy1] at hpf
    injection hpf with hpf
    rw [hpo, ← hpf]
    simpa using sy1
   have hdir : dirOf b ⟨xe, xf, xto, xw⟩ = (b.os[posI (b.os.map Ofr.id) xf].side == 3) := by
    unfold dirOf
    simp only
    rw [hpf]
   unfold edgOf at hst1
   rw [hdir] at hst1
   simp only at hst1
   have kA : Gro wr (wr.alloc (.cells #[.int .i64 xe, .int .i64 xf, .int .i64 xto, .int .i64 xw] 32)) := (Gro.refl _).alloc _
   have bA := blk_new wr (.cells #[.int .i64 xe, .int .i64 xf, .int .i64 xto, .int .i64 xw] 32)
   obtain ⟨WA, hWA⟩ : ∃ WA, WA = wr.alloc (.cells #[.int .i64 xe, .int .i64 xf, .int .i64 xto, .int .i64 xw] 32) := ⟨_, rfl⟩
   rw [← hWA] at kA bA
   have HEA := yy (HE1.out.step kA)
   have hOP := openF70 (HX.out.gro HEA.out.gro) HF.out HV.out.ao xf
   rw [hopn] at hOP
   have HOP := yy hOP
   generalize posI (b.os.map Ofr.id) xf = oi at hpi HOP hst1
   have BA := yy bA
   have HWA := yy hWA
   have HST1 := yy hst1
   have HASC := yy hasc
   clear hst1 hasc hc kA bA hWA hok hy1 hy2 sy1 sy2 hm1 hid1 hmem hpe hpo hpf hopn hdir hOP
   go_wp2_with fail
   rw [← HWA.out]
   refine HOP.out.mono ?_
   rintro e w2 ⟨rfl, k2⟩
   have HE2 := yy (HEA.out.step k2)
   have B2 := yy (k2.blk BA.out)
   obtain ⟨sb, csb, hsb⟩ := HE2.out.vb.form
   subst hsb
   have t1 : w2.cell? ⟨T, 1, none⟩ = some (.slice sb (esAt g b k).length csb) := by rw [blk_cell HE2.out.tb]; rfl
   have hT2 := blk_lt HE2.out.tb
   have f0 := blk_cell B2.out 0
   simp only [lPa, lPb, lPc] at f0
   have hA2 := blk_lt B2.out
   obtain ⟨aL, cL, hvL, hlL⟩ := HE2.out.vb.lv (by omega)
   injection hvL with e1 e2 e3
   subst e1 e3
   have HPL := yy (place128 hlL (by omega) xe HASC.out)
   clear hlL e2 k2 HEA BA HOP HWA HE1 d0 d1 d2 d3 hb
   generalize wr.heap.size = OB at B2 f0 hA2 ⊢
   go_wp2_with fail
   refine HPL.out.mono ?_
   rintro e w3 ⟨i, rfl, hpos, k3⟩
   have HE3 := yy (HE2.out.step k3)
   have B3 := yy (k3.blk B2.out)
   have HPOS := yy hpos
   clear hpos k3 HE2 B2 HPL t1 hT2 f0 hA2
   go_wp2_with fail
   have HE4 := yy (HE3.out.step (Gro.refl w3).drew)
   have B4 := yy (show w3.drew.heap[OB]? = some (.cells #[.int .i64 xe, .int .i64 xf, .int .i64 xto, .int .i64 xw] 32 (0, 0)) from B3.out)
   clear HE3 B3
   generalize hw4 : w3.drew = w4 at HE4 B4
   have t1 : w4.cell? ⟨T, 1, none⟩ = some (.slice sb (esAt g b k).length csb) := by rw [blk_cell HE4.out.tb]; rfl
   have hT3 := blk_lt HE4.out.tb
   have f0 := blk_cell B4.out 0
   have f1 := blk_cell B4.out 1
   have f2 := blk_cell B4.out 2
   have f3 := blk_cell B4.out 3
   simp only [lPa, lPb, lPc] at f0 f1 f2 f3
   have hA3 := blk_lt B4.out
   obtain ⟨c0, c1, c2, c3, c4, c5, c6⟩ := (HX.out.gro HE4.out.gro).cells
   have hltX3 := World.block_lt_of_cell? w4 _ c2
   obtain ⟨ob, ooff, rfl, hob, hoc⟩ := (HOL.out.gro HE4.out.gro).base hpi
   obtain ⟨m0, m1, m2, m3, m4, m5, m6⟩ := ocells hoc hpi
   have hoiI : (oi : Int) < (b.os.length : Int) := by omega
   generalize b.os[oi].side = sd at m2 HST1
   have hobw := (HOL.out.base hpi)
   have hobw2 := hobw
   have nX1 : ¬ (X = T) := by have := HE4.out.tl; omega
   have nX2 : ¬ (T = X) := by omega
   have nB : ¬ (OB = T) := blk_ne B4.out HE4.out.tb (by decide)
   have nB2 : ¬ (T = OB) := fun e => nB e.symm
   have nO : ¬ (ob = T) := by
    obtain ⟨b2, off2, e1, e2, _⟩ := hobw
    injection e1 with e1
    injection e1 with e1 _ _
    subst e1
    have := HE4.out.tl
    omega
   have nO2 : ¬ (T = ob) := fun e => nO e.symm
   have hS0 : w4.cell? ⟨X, 2, none⟩ = some (.slice (some ⟨ob, ooff, none⟩) b.os.length oc) ∧ w4.cell? ⟨ob, ooff + oi * 7 + 2, none⟩ = some (.int .i64 sd) ∧ w4.cell? ⟨OB, 0, none⟩ = some (.int .i64 xe) ∧ w4.cell? ⟨OB, 1, none⟩ = some (.int .i64 xf) ∧ w4.cell? ⟨OB, 2, none⟩ = some (.int .i64 xto) ∧ w4.cell? ⟨OB, 3, none⟩ = some (.int .i64 xw) := ⟨c2, m2, f0, f1, f2, f3⟩
   have HS0 := yy hS0
   subst hw4
   have t1' : w3.cell? ⟨T, 1, none⟩ = some (.slice sb (esAt g b k).length csb) := t1
   have hT3' : T < w3.heap.size := hT3
   clear t1 hT3
   have kE : Gro w3 (w3.alloc (.cells #[.int .i64 xe, .int .i64 xf, .int .i64 xto, .bool (sd == 3), .int .i64 xw, .int .i64 0] 69)).drew := ((Gro.refl w3).alloc _).drew
   have kE' : Gro w3.drew (w3.alloc (.cells #[.int .i64 xe, .int .i64 xf, .int .i64 xto, .bool (sd == 3), .int .i64 xw, .int .i64 0] 69)).drew := (show Gro w3.drew (w3.drew.alloc (.cells #[.int .i64 xe, .int .i64 xf, .int .i64 xto, .bool (sd == 3), .int .i64 xw, .int .i64 0] 69)) from (Gro.refl _).alloc _)
   have hSE := s6 hS0 kE' (fun h => h) (fun h => h) (fun h => h) (fun h => h) (fun h => h) (fun h => h)
   have bE : (w3.alloc (.cells #[.int .i64 xe, .int .i64 xf, .int .i64 xto, .bool (sd == 3), .int .i64 xw, .int .i64 0] 69)).drew.heap[w3.heap.size]? = some (.cells #[.int .i64 xe, .int .i64 xf, .int .i64 xto, .bool (sd == 3), .int .i64 xw, .int .i64 0] 69 (0, 0)) := blk_new w3 _
   have HEE := HE4.out.step kE'
   have hile := HPOS.out.le
   rw [List.length_map] at hile
   have hins := insAt_ins Edg.id (⟨xe, xf, xto, sd == 3, xw, 0⟩ : Edg) (esAt g b k) i HPOS.out
   rw [← HST1.out] at hins
   have hIN := ins130 HEE.vb HEE.gro.size (by omega) i hile (⟨xe, xf, xto, sd == 3, xw, 0⟩ : Edg) w3.heap.size bE (fun e => by have := (HE4.out.vb.block e).2.1; exact absurd this (Nat.lt_irrefl _))
   have hXb := (HX.out.gro HEE.gro).blk
   have hfX := own_far HEE.vb hXb (by decide)
   have hOb := (HOL.out.gro HEE.gro)
   have hfB := own_far HEE.vb (kE'.blk B4.out) (by decide)
   have hfO : ¬ ownF (.slice sb (esAt g b k).length csb) ob := by
    intro e
    have h1 := (HEE.vb.block e).1
    obtain ⟨b2, off2, e1, e2, _⟩ := hobw2
    injection e1 with e1
    injection e1 with e1 _ _
    subst e1
    omega
   have HEE' := yy HEE
   have HIN := yy hIN
   have HINS := yy hins
   clear kE kE' bE HEE hIN hins hXb hOb
   clear c0 c1 c3 c4 c5 c6 hoc m0 m1 m3 m4 m5 m6 c2 m2 f0 f1 f2 f3 hobw
   refine wp_region_held_drew (S := (fun w' => w'.cell? ⟨X, 2, none⟩ = some (.slice (some ⟨ob, ooff, none⟩) b.os.length oc) ∧ w'.cell? ⟨ob, ooff + oi * 7 + 2, none⟩ = some (.int .i64 sd) ∧ w'.cell? ⟨OB, 0, none⟩ = some (.int .i64 xe) ∧ w'.cell? ⟨OB, 1, none⟩ = some (.int .i64 xf) ∧ w'.cell? ⟨OB, 2, none⟩ = some (.int .i64 xto) ∧ w'.cell? ⟨OB, 3, none⟩ = some (.int .i64 xw))) (by kernel_rfl) hS0 (fun hHeld => ?_)
   refine tkH 0 rfl lfF11 hHeld ?_
   refine nx ?_
   refine tkH 2 rfl lfF11 hHeld ?_
   refine nx ?_
   refine tkH 3 rfl lfF11 hHeld ?_
   refine nx ?_
   refine tkH 4 rfl lfF11 hHeld ?_
   refine nx ?_
   refine tkH 5 rfl lfF11 hHeld ?_
   refine nx ?_
   refine tkH 6 rfl lfF11 hHeld ?_
   refine nx ?_
   refine tkH 7 rfl lfF11 hHeld ?_
   refine nx ?_
   refine tkH 8 rfl lfF11 hHeld ?_
   refine nx ?_
   refine tkH 9 rfl lfF11 hHeld ?_
   refine nx ?_
   refine tkH 10 rfl lfF11 hHeld ?_
   refine nx ?_
   refine tkH 11 rfl lfF11 hHeld ?_
   refine nx ?_
   refine tkH 12 rfl lfF11 hHeld ?_
   refine nx ?_
   refine tkH 13 rfl lfF11 hHeld ?_
   refine nx ?_
   refine tkH 14 rfl lfF11 hHeld ?_
   refine nx ?_
   refine tkH 15 rfl lfF11 hHeld ?_
   refine nx ?_
   refine tkH 16 rfl lfF11 hHeld ?_
   refine nx ?_
   refine tkH 17 rfl lfF11 hHeld ?_
   refine nx ?_
   refine tkH 18 rfl lfF11 hHeld ?_
   refine nx ?_
   refine tkH 19 rfl lfF11 hHeld ?_
   refine nx ?_
   refine tkH 20 rfl lfF11 hHeld ?_
   refine nx ?_
   refine tkH 21 rfl lfF11 hHeld ?_
   refine nx ?_
   refine tkH 22 rfl lfF11 hHeld ?_
   refine nx ?_
   refine tkH 23 rfl lfF11 hHeld ?_
   refine nx ?_
   refine tkH 24 rfl lfF11 hHeld ?_
   refine nx ?_
   refine wpAnyH_ready (rs := [1, 25]) (by kernel_rfl) (by simp) ?_
   refine AllReadyH.cons (i := 1) rfl (fun K hK => ?_) (AllReadyH.cons (i := 25) rfl (fun K hK => ?_) AllReadyH.nil)
   ·go_simp
    refine hK.out _ _ hS0 (fun hHeld => ?_)
    clear hK K
    try refine nx ?_
    refine wpAnyH_ready (rs := [25]) (by kernel_rfl) (by simp) ?_
    refine AllReadyH.cons (i := 25) rfl (fun K hK => ?_) AllReadyH.nil
    go_simp
    refine hK.out _ _ hSE (fun hHeld => ?_)
    clear hK K
    try refine nx ?_
    refine wpAnyH_ready (rs := [26]) (by kernel_rfl) (by simp) ?_
    refine AllReadyH.cons (i := 26) rfl (fun K hK => ?_) AllReadyH.nil
    go_simp
    refine HIN.out.mono ?_
    rintro e w5 ⟨vb2, rfl, ho, kk, hat⟩
    have hS5 := s6 hSE kk hfX hfO hfB hfB hfB hfB
    have hT5 := kk.blk HEE'.out.tb (own_far HEE'.out.vb HEE'.out.tb (by decide))
    have g0 : w5.cell? ⟨T, 1, none⟩ = some (.slice sb (esAt g b k).length csb) := by rw [blk_cell hT5]; rfl
    have z0 := blk_frozen hT5 1
    have hTl5 := blk_lt hT5
    rw [HINS.out] at ho
    obtain ⟨s2, cs2, hs2'⟩ := ho.form
    subst hs2'
    have HO5 := yy ho
    have HK5 := yy kk
    clear ho kk hat hT5
    refine hK.out _ _ hS5 (fun hHeld => ?_)
    clear hK K
    try refine nx ?_
    refine tkH 27 rfl lfF11 hHeld ?_
    refine nx ?_
    refine wpAnyH_ready (rs := [28]) (by kernel_rfl) (by simp) ?_
    refine AllReadyH.cons (i := 28) rfl (fun K hK => ?_) AllReadyH.nil
    go_simp
    refine hK.out _ _ (s6 hS5 ((Kept.refl (fun j => j = T) w5).setCell (p := ⟨T, 1, none⟩) (.inl rfl) _) nX1 nO nB nB nB nB) (fun hHeld => ?_)
    clear hK K
    try refine nx ?_
    refine wpAnyH_done (by kernel_rfl) ?_ _
    have HF5 := yy (HEE'.out.insE HO5.out HK5.out)
    clear HO5 HK5 HEE' HIN HINS HE4 B4 HST1 HPOS HS0 hS0 hSE hS5 g0 z0 hHeld
    go_wp2
    go_roundw
    case rel => exact ⟨k + 1, _, by omega, by go_num, HF5.out⟩
    case measure => simp [intOf]; omega
   go_simp
   refine hK.out _ _ hSE (fun hHeld => ?_)
   clear hK K
   try refine nx ?_
   refine wpAnyH_ready (rs := [1]) (by kernel_rfl) (by simp) ?_
   refine AllReadyH.cons (i := 1) rfl (fun K hK => ?_) AllReadyH.nil
   go_simp
   refine hK.out _ _ hSE (fun hHeld => ?_)
   clear hK K
   try refine nx ?_
   refine wpAnyH_ready (rs := [26]) (by kernel_rfl) (by simp) ?_
   refine AllReadyH.cons (i := 26) rfl (fun K hK => ?_) AllReadyH.nil
   go_simp
   refine HIN.out.mono ?_
   rintro e w5 ⟨vb2, rfl, ho, kk, hat⟩
   have hS5 := s6 hSE kk hfX hfO hfB hfB hfB hfB
   have hT5 := kk.blk HEE'.out.tb (own_far HEE'.out.vb HEE'.out.tb (by decide))
   have g0 : w5.cell? ⟨T, 1, none⟩ = some (.slice sb (esAt g b k).length csb) := by rw [blk_cell hT5]; rfl
   have z0 := blk_frozen hT5 1
   have hTl5 := blk_lt hT5
   rw [HINS.out] at ho
   obtain ⟨s2, cs2, hs2'⟩ := ho.form
   subst hs2'
   have HO5 := yy ho
   have HK5 := yy kk
   clear ho kk hat hT5
   refine hK.out _ _ hS5 (fun hHeld => ?_)
   clear hK K
   try refine nx ?_
   refine tkH 27 rfl lfF11 hHeld ?_
   refine nx ?_
   refine wpAnyH_ready (rs := [28]) (by kernel_rfl) (by simp) ?_
   refine AllReadyH.cons (i := 28) rfl (fun K hK => ?_) AllReadyH.nil
   go_simp
   refine hK.out _ _ (s6 hS5 ((Kept.refl (fun j => j = T) w5).setCell (p := ⟨T, 1, none⟩) (.inl rfl) _) nX1 nO nB nB nB nB) (fun hHeld => ?_)
   clear hK K
   try refine nx ?_
   refine wpAnyH_done (by kernel_rfl) ?_ _
   have HF5 := yy (HEE'.out.insE HO5.out HK5.out)
   clear HO5 HK5 HEE' HIN HINS HE4 B4 HST1 HPOS HS0 hS0 hSE hS5 g0 z0 hHeld
   go_wp2
   go_roundw
   case rel => exact ⟨k + 1, _, by omega, by go_num, HF5.out⟩
   case measure => simp [intOf]; omega
  have hkl : k = b.ws.length := by omega
  subst hkl
  obtain ⟨sa, csa, hsa⟩ := HE1.out.va.form
  subst hsa
  obtain ⟨sb, csb, hsb⟩ := HE1.out.vb.form
  subst hsb
  obtain ⟨sc, csc, hsc⟩ := HE1.out.vc.form
  subst hsc
  have t0 : wr.cell? ⟨T, 0, none⟩ = some (.slice sa (vsAt g b b.os.length).length csa) := by rw [blk_cell HE1.out.tb]; rfl
  have t1 : wr.cell? ⟨T, 1, none⟩ = some (.slice sb (esAt g b b.ws.length).length csb) := by rw [blk_cell HE1.out.tb]; rfl
  have t2 : wr.cell? ⟨T, 2, none⟩ = some (.slice sc g.ds.length csc) := by rw [blk_cell HE1.out.tb]; rfl
  have hTl := blk_lt HE1.out.tb
  have hRl := blk_lt HE1.out.rb
  have f6 := t6 HE1.out.rb (Eq.refl w.heap.size)
  have kk : Kept (fun j => j = w.heap.size) wr (((wr.setCell ⟨w.heap.size, 0, none⟩ (.slice sa (vsAt g b b.os.length).length csa)).setCell ⟨w.heap.size, 1, none⟩ (.slice sb (esAt g b b.ws.length).length csb)).setCell ⟨w.heap.size, 2, none⟩ (.slice sc g.ds.length csc)) :=
   (((Kept.refl (fun j => j = w.heap.size) wr).setCell (p := ⟨w.heap.size, 0, none⟩) (.inl rfl) _).setCell (p := ⟨w.heap.size, 1, none⟩) (.inl rfl) _).setCell (p := ⟨w.heap.size, 2, none⟩) (.inl rfl) _
  have far : ∀ {β : Type} [Rec β] {v : Value} {l : List β}, OwnL wr w.heap.size v l → 38 ≠ Rec.ty β → ∀ j, v.ownBlock = some j → ¬ (j = w.heap.size) := by
   intro β _ v l h hn j hj e
   subst e
   obtain ⟨_, _, cur, hc⟩ := h.block hj
   exact blk_ne HE1.out.rb hc hn rfl
  have hl1 := vsAt_few (g := g) (b := b) b.os.length
  have hl2 := esAt_few (g := g) (b := b) b.ws.length
  have hfin : GAt (((wr.setCell ⟨w.heap.size, 0, none⟩ (.slice sa (vsAt g b b.os.length).length csa)).setCell ⟨w.heap.size, 1, none⟩ (.slice sb (esAt g b b.ws.length).length csb)).setCell ⟨w.heap.size, 2, none⟩ (.slice sc g.ds.length csc)) (.slice sa (vsAt g b b.os.length).length csa) (.slice sb (esAt g b b.ws.length).length csb) (.slice sc g.ds.length csc) (build g b) := by
   rw [build_at]
   exact ⟨(HE1.out.va.kept kk (far HE1.out.va (by decide))).lv (by omega), (HE1.out.vb.kept kk (far HE1.out.vb (by decide))).lv (by omega), (HE1.out.vc.kept kk (far HE1.out.vc (by decide))).lv (by omega)⟩
  have hgr : Gro w (((wr.setCell ⟨w.heap.size, 0, none⟩ (.slice sa (vsAt g b b.os.length).length csa)).setCell ⟨w.heap.size, 1, none⟩ (.slice sb (esAt g b b.ws.length).length csb)).setCell ⟨w.heap.size, 2, none⟩ (.slice sc g.ds.length csc)) := Kept.trans' HE1.out.gro kk (fun j hj => .inr (by subst hj; exact Nat.le_refl _))
  have HFIN := yy hfin
  have HGR := yy hgr
  have hrb : (((wr.setCell ⟨w.heap.size, 0, none⟩ (.slice sa (vsAt g b b.os.length).length csa)).setCell ⟨w.heap.size, 1, none⟩ (.slice sb (esAt g b b.ws.length).length csb)).setCell ⟨w.heap.size, 2, none⟩ (.slice sc g.ds.length csc)).heap[w.heap.size]? = some (.cells #[.slice sa (vsAt g b b.os.length).length csa, .slice sb (esAt g b b.ws.length).length csb, .slice sc g.ds.length csc] 38 (0, 0)) := by
   have := blk_set (blk_set (blk_set HE1.out.rb 0 (.slice sa (vsAt g b b.os.length).length csa)) 1 (.slice sb (esAt g b b.ws.length).length csb)) 2 (.slice sc g.ds.length csc)
   simpa using this
  have HRB := yy hrb
  clear far kk hfin hgr hrb
  go_wp2
  (try simp only [Exit.inBlock, Exit.then])
  refine bodyPost_ret (results_cell_row (p := 2) (ty := 38) rfl _ _ w.heap.size 38 #[.slice sa (vsAt g b b.os.length).length csa, .slice sb (esAt g b b.ws.length).length csb, .slice sc g.ds.length csc] (0, 0) _ rfl HRB.out Tryz.underlying38 rfl (by kernel_rfl)) rfl ?_
  exact ⟨_, _, _, rfl, HFIN.out, HGR.out⟩
 have HREST := yy hrest
 clear hrest hK
 have k0 : Gro w (w.alloc (.cells #[.slice none 0 0, .slice none 0 0, .slice none 0 0] 38)) := (Gro.refl _).alloc _
 have b0 := blk_new w (.cells #[.slice none 0 0, .slice none 0 0, .slice none 0 0] 38)
 generalize w.alloc (.cells #[.slice none 0 0, .slice none 0 0, .slice none 0 0] 38) = w0 at k0 b0 ⊢
 have hX0 := HX.out.gro k0
 have hltX0 : X < w0.heap.size := Nat.lt_of_lt_of_le hltX k0.size
 have y0 := Nat.ne_of_lt hltX0
 have n0 := Nat.ne_of_gt hltX0
 have HX0 := yy hX0
 have K0 := yy k0
 have B0 := yy b0
 clear hX0 k0 b0
 have hS0 := xs3 (HX0.out.gro (Gro.refl w0).drew)
 have hSA := xs3 (HX0.out.gro ((Gro.refl w0).alloc (.cells #[.slice none 0 0, .slice none 0 0, .slice none 0 0] 38)).drew)
 go_region_held3 (fun w' => w'.cell? ⟨X, 4, none⟩ = some v1 ∧ w'.cell? ⟨X, 5, none⟩ = some v2 ∧ w'.cell? ⟨X, 6, none⟩ = some v3)
  (first | with_reducible exact hS0 | with_reducible exact hSA | with_reducible exact hS1 | with_reducible exact hS2 | with_reducible exact hS3 | go_keep)
  (first
   | (go_at_call 100; refine (clone100 (LV.gro HX0.out.gr.vs (by repeat (first | exact Gro.refl _ | refine Gro.alloc ?_ _ | refine Gro.drew ?_))) HG.out.vs).mono ?_; rintro e w1 ⟨va, rfl, o1, k1⟩; obtain ⟨sa, csa, rfl⟩ := o1.form; have K1 := yy (show Gro w0 w1 from Gro.trans (by repeat (first | exact Gro.refl _ | refine Gro.alloc ?_ _ | refine Gro.drew ?_)) k1); have O1 := yy (OwnL.le o1 (Kept.size (F := fun _ => False) (Gro.trans K0.out (by repeat (first | exact Gro.refl _ | refine Gro.alloc ?_ _ | refine Gro.drew ?_))))); have hS1 := xs3 (HX0.out.gro K1.out); have y1 := Nat.ne_of_lt (Nat.lt_of_lt_of_le hltX0 K1.out.size); have n1 := Nat.ne_of_gt (Nat.lt_of_lt_of_le hltX0 K1.out.size); (first | (have tT1 := yy (Gro.blk (drewk k1) (blk_new _ _))) | skip))
   | (go_at_call 101; refine (clone101 (LV.gro HX0.out.gr.es (by repeat (first | exact K1.out | refine Gro.alloc ?_ _ | refine Gro.drew ?_))) HG.out.es).mono ?_; rintro e w2 ⟨vb, rfl, o2, k2⟩; obtain ⟨sb, csb, rfl⟩ := o2.form; have L2 := yy (show Gro w1 w2 from Gro.trans (by first | exact Gro.refl _ | exact (Gro.refl _).alloc _) k2); have K2 := yy (Gro.trans K1.out L2.out); have O2 := yy (OwnL.le o2 (Kept.size (F := fun _ => False) (Gro.trans (Gro.trans K0.out K1.out) (by first | exact Gro.refl _ | exact (Gro.refl _).alloc _)))); have hS2 := xs3 (HX0.out.gro K2.out); have y2 := Nat.ne_of_lt (Nat.lt_of_lt_of_le hltX0 K2.out.size); have n2 := Nat.ne_of_gt (Nat.lt_of_lt_of_le hltX0 K2.out.size); (first | (have tT2 := yy (Gro.blk L2.out tT1.out)) | skip); (first | (have tU2 := yy (Gro.blk k2 (blk_new _ _))) | skip))
   | (go_at_call 102; refine (clone102 (LV.gro HX0.out.gr.ds (by repeat (first | exact K2.out | refine Gro.alloc ?_ _ | refine Gro.drew ?_))) HG.out.ds).mono ?_; rintro e w3 ⟨vc, rfl, o3, k3⟩; obtain ⟨sc, csc, rfl⟩ := o3.form; have L3 := yy (show Gro w2 w3 from Gro.trans (by first | exact Gro.refl _ | exact (Gro.refl _).alloc _) k3); have K3 := yy (Gro.trans K2.out L3.out); have O3 := yy (OwnL.le o3 (Kept.size (F := fun _ => False) (Gro.trans (Gro.trans K0.out K2.out) (by first | exact Gro.refl _ | exact (Gro.refl _).alloc _)))); have hS3 := xs3 (HX0.out.gro K3.out); have y3 := Nat.ne_of_lt (Nat.lt_of_lt_of_le hltX0 K3.out.size); have n3 := Nat.ne_of_gt (Nat.lt_of_lt_of_le hltX0 K3.out.size); (first | (have tT3 := yy (Gro.blk L3.out tT2.out)) | skip); (first | (have tU3 := yy (Gro.blk L3.out tU2.out)) | skip); (first | (have tV3 := yy (Gro.blk k3 (blk_new _ _))) | skip); (first | (have f6 := t6 tT3.out (Eq.refl w0.heap.size)) | skip); (first | (have f6 := t6 tU3.out (Eq.refl w1.heap.size)) | skip); (first | (have f6 := t6 tV3.out (Eq.refl w2.heap.size)) | skip)))
 all_goals
  have oa := yy (O1.out.gro (Gro.trans L2.out L3.out))
  have ob := yy (O2.out.gro L3.out)
 ·exact HREST.out _ _ _ _ _ _ _ _ _ _ _ _ _ _ _ _ _ _ _ _ _ _ _ _ (fin4 K0.out B0.out (Nat.le_refl _) K3.out oa.out ob.out O3.out)
 ·exact HREST.out _ _ _ _ _ _ _ _ _ _ _ _ _ _ _ _ _ _ _ _ _ _ _ _ (fin3 K0.out B0.out (Nat.le_refl _) K3.out oa.out ob.out O3.out (Kept.size (F := fun _ => False) K2.out) tV3.out)
 ·exact HREST.out _ _ _ _ _ _ _ _ _ _ _ _ _ _ _ _ _ _ _ _ _ _ _ _ (fin3 K0.out B0.out (Nat.le_refl _) K3.out oa.out ob.out O3.out (Kept.size (F := fun _ => False) K1.out) tU3.out)
 exact HREST.out _ _ _ _ _ _ _ _ _ _ _ _ _ _ _ _ _ _ _ _ _ _ _ _ (fin3 K0.out B0.out (Nat.le_refl _) K3.out oa.out ob.out O3.out (Nat.le_refl _) tT3.out)
end Go.Proofs.YthfagcdjbmhhcaaGreat
