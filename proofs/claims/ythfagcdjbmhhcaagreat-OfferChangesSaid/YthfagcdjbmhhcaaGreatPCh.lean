/- the changes from one graph to another one lead there: the plain law. -/
import Derived.Test.YthfagcdjbmhhcaaGreatPG
import Derived.Test.YthfagcdjbmhhcaaGreatK17
set_option linter.unusedVariables false
set_option linter.unusedSimpArgs false
namespace Go.Proofs.YthfagcdjbmhhcaaGreat
/-- what a change makes of a graph on which it succeeds -/
def stepG (g : Gr) (c : Chg) : Gr :=
 if c.kind = 4 then ⟨g.vs, g.es.filter fun e => !(e.id == c.id), g.ds⟩
 else if c.kind = 2 then ⟨g.vs.filter fun v => !(v.id == c.id), g.es, g.ds⟩
 else if c.kind = 1 then ⟨ins Vtx.id c.v g.vs, g.es, g.ds⟩
 else ⟨g.vs, ins Edg.id c.e g.es, g.ds⟩
/-- the changes that succeed -/
inductive OkC (g : Gr) : Chg → Prop
 | dropE (e : Edg) : e.id ∈ g.es.map Edg.id → OkC g (dropE e)
 | dropV (v : Vtx) : v.id ∈ g.vs.map Vtx.id → v.id ∉ g.ds → (∀ e ∈ g.es, e.src ≠ v.id ∧ e.dst ≠ v.id) → OkC g (dropV v)
 | addV (v : Vtx) : v.id ∉ g.vs.map Vtx.id → okV v = true → OkC g (addV v)
 | addE (e : Edg) : e.id ∉ g.es.map Edg.id → okE e = true → has g e.src = true → has g e.dst = true → OkC g (addE e)
def GoC : Gr → List Chg → Prop
 | _, [] => True
 | g, c :: l => OkC g c ∧ GoC (stepG g c) l
def endC (g : Gr) (l : List Chg) : Gr := l.foldl stepG g
theorem step_dropE (g : Gr) (e : Edg) : stepG g (dropE e) = ⟨g.vs, g.es.filter fun x => !(x.id == e.id), g.ds⟩ := by simp [stepG, dropE]
theorem step_dropV (g : Gr) (v : Vtx) : stepG g (dropV v) = ⟨g.vs.filter fun x => !(x.id == v.id), g.es, g.ds⟩ := by simp [stepG, dropV]
theorem step_addV (g : Gr) (v : Vtx) : stepG g (addV v) = ⟨ins Vtx.id v g.vs, g.es, g.ds⟩ := by simp [stepG, addV]
theorem step_addE (g : Gr) (e : Edg) : stepG g (addE e) = ⟨g.vs, ins Edg.id e g.es, g.ds⟩ := by simp [stepG, addE]
theorem asc_filter {α : Type} {key : α → Int} {l : List α} (h : (l.map key).Pairwise (· < ·)) (p : α → Bool) : ((l.filter p).map key).Pairwise (· < ·) :=
 h.sublist (List.filter_sublist.map key)
theorem has_mem {g : Gr} {id : Int} : has g id = true ↔ id ∈ g.vs.map Vtx.id := by rw [has_iff, List.mem_map]
theorem VG.step {g : Gr} (h : VG g) {c : Chg} (hc : OkC g c) : VG (stepG g c) := by
 cases hc with
 | dropE e he =>
  rw [step_dropE]
  exact ⟨h.av, asc_filter h.ae _, h.okv, fun x hx => h.oke x (List.mem_filter.1 hx).1, h.dl, h.ad, h.okd⟩
 | dropV v hv hd hn =>
  rw [step_dropV]
  have hh : ∀ id, id ≠ v.id → has g id = true → has ⟨g.vs.filter fun x => !(x.id == v.id), g.es, g.ds⟩ id = true := by
   intro id hne hi
   obtain ⟨u, hu, rfl⟩ := has_iff.1 hi
   exact has_iff.2 ⟨u, List.mem_filter.2 ⟨hu, by simp [hne]⟩, rfl⟩
  exact ⟨asc_filter h.av _, h.ae, fun x hx => h.okv x (List.mem_filter.1 hx).1, fun x hx => ⟨(h.oke x hx).1, hh _ (hn x hx).1 (h.oke x hx).2.1, hh _ (hn x hx).2 (h.oke x hx).2.2⟩, h.dl, h.ad,
   fun d hd' => hh d (fun e => hd (e ▸ hd')) (h.okd d hd')⟩
 | addV v hv hok =>
  rw [step_addV]
  have hh : ∀ id, has g id = true → has ⟨ins Vtx.id v g.vs, g.es, g.ds⟩ id = true := by
   intro id hi
   obtain ⟨u, hu, rfl⟩ := has_iff.1 hi
   exact has_iff.2 ⟨u, mem_ins.2 (.inr hu), rfl⟩
  refine ⟨ins_asc h.av (fun y hy e => hv (e ▸ List.mem_map_of_mem hy)), h.ae, fun x hx => ?_, fun x hx => ⟨(h.oke x hx).1, hh _ (h.oke x hx).2.1, hh _ (h.oke x hx).2.2⟩, h.dl, h.ad, fun d hd => hh d (h.okd d hd)⟩
  rcases mem_ins.1 hx with rfl | hx
  ·exact hok
  ·exact h.okv x hx
 | addE e he hok h1 h2 =>
  rw [step_addE]
  refine ⟨h.av, ins_asc h.ae (fun y hy e' => he (e' ▸ List.mem_map_of_mem hy)), h.okv, fun x hx => ?_, h.dl, h.ad, h.okd⟩
  rcases mem_ins.1 hx with rfl | hx
  ·exact ⟨hok, h1, h2⟩
  ·exact h.oke x hx
theorem GoC.app : ∀ {l m : List Chg} {g : Gr}, GoC g l → GoC (endC g l) m → GoC g (l ++ m)
 | [], _, _, _, h => h
 | _ :: l, _, _, h1, h2 => ⟨h1.1, GoC.app (l := l) h1.2 h2⟩
theorem endC_app {l m : List Chg} {g : Gr} : endC g (l ++ m) = endC (endC g l) m := by unfold endC; rw [List.foldl_append]
theorem go_dropE : ∀ (L : List Edg) (g : Gr), (∀ e ∈ L, e ∈ g.es) → (L.map Edg.id).Pairwise (· < ·) → GoC g (L.map dropE) ∧ endC g (L.map dropE) = ⟨g.vs, g.es.filter fun x => !decide (x.id ∈ L.map Edg.id), g.ds⟩
 | [], g, _, _ => ⟨trivial, by cases g; simp [endC] <;> exact (List.filter_eq_self.2 (fun _ _ => rfl)).symm⟩
 | e :: L, g, hm, hp => by
  simp only [List.map_cons, List.pairwise_cons] at hp
  obtain ⟨i1, i2⟩ := go_dropE L (stepG g (dropE e)) (fun x hx => by
   rw [step_dropE]
   have := hp.1 _ (List.mem_map_of_mem hx)
   exact List.mem_filter.2 ⟨hm x (by simp [hx]), by simp; omega⟩) hp.2
  refine ⟨⟨.dropE e (List.mem_map_of_mem (hm e (by simp))), i1⟩, ?_⟩
  show endC (stepG g (dropE e)) _ = _
  rw [i2, step_dropE]
  simp only [List.filter_filter, Gr.mk.injEq, true_and, and_true]
  apply List.filter_congr
  intro x _
  by_cases e1 : x.id = e.id <;> simp [e1]
theorem go_dropV : ∀ (L : List Vtx) (g : Gr), (∀ v ∈ L, v ∈ g.vs ∧ v.id ∉ g.ds ∧ ∀ e ∈ g.es, e.src ≠ v.id ∧ e.dst ≠ v.id) → (L.map Vtx.id).Pairwise (· < ·) →
  GoC g (L.map dropV) ∧ endC g (L.map dropV) = ⟨g.vs.filter fun x => !decide (x.id ∈ L.map Vtx.id), g.es, g.ds⟩
 | [], g, _, _ => ⟨trivial, by cases g; simp [endC] <;> exact (List.filter_eq_self.2 (fun _ _ => rfl)).symm⟩
 | v :: L, g, hm, hp => by
  simp only [List.map_cons, List.pairwise_cons] at hp
  obtain ⟨i1, i2⟩ := go_dropV L (stepG g (dropV v)) (fun x hx => by
   rw [step_dropV]
   have := hp.1 _ (List.mem_map_of_mem hx)
   obtain ⟨h1, h2, h3⟩ := hm x (by simp [hx])
   exact ⟨List.mem_filter.2 ⟨h1, by simp; omega⟩, h2, h3⟩) hp.2
  obtain ⟨h1, h2, h3⟩ := hm v (by simp)
  refine ⟨⟨.dropV v (List.mem_map_of_mem h1) h2 h3, i1⟩, ?_⟩
  show endC (stepG g (dropV v)) _ = _
  rw [i2, step_dropV]
  simp only [List.filter_filter, Gr.mk.injEq, true_and, and_true]
  apply List.filter_congr
  intro x _
  by_cases e1 : x.id = v.id <;> simp [e1]
theorem go_addV : ∀ (L : List Vtx) (g : Gr), (∀ v ∈ L, v.id ∉ g.vs.map Vtx.id ∧ okV v = true) → (L.map Vtx.id).Pairwise (· < ·) → GoC g (L.map addV) ∧ endC g (L.map addV) = ⟨insAll Vtx.id g.vs L, g.es, g.ds⟩
 | [], g, _, _ => ⟨trivial, by simp [endC, insAll]⟩
 | v :: L, g, hm, hp => by
  simp only [List.map_cons, List.pairwise_cons] at hp
  obtain ⟨i1, i2⟩ := go_addV L (stepG g (addV v)) (fun x hx => by
   rw [step_addV]
   have := hp.1 _ (List.mem_map_of_mem hx)
   obtain ⟨h1, h2⟩ := hm x (by simp [hx])
   refine ⟨fun hx' => ?_, h2⟩
   obtain ⟨y, hy, hyx⟩ := List.mem_map.1 hx'
   rcases mem_ins.1 hy with rfl | hy
   ·omega
   ·exact h1 (List.mem_map.2 ⟨y, hy, hyx⟩)) hp.2
  obtain ⟨h1, h2⟩ := hm v (by simp)
  refine ⟨⟨.addV v h1 h2, i1⟩, ?_⟩
  show endC (stepG g (addV v)) _ = _
  rw [i2, step_addV]
  rfl
theorem go_addE : ∀ (L : List Edg) (g : Gr), (∀ e ∈ L, e.id ∉ g.es.map Edg.id ∧ okE e = true ∧ has g e.src = true ∧ has g e.dst = true) → (L.map Edg.id).Pairwise (· < ·) → GoC g (L.map addE) ∧ endC g (L.map addE) = ⟨g.vs, insAll Edg.id g.es L, g.ds⟩
 | [], g, _, _ => ⟨trivial, by simp [endC, insAll]⟩
 | e :: L, g, hm, hp => by
  simp only [List.map_cons, List.pairwise_cons] at hp
  obtain ⟨i1, i2⟩ := go_addE L (stepG g (addE e)) (fun x hx => by
   rw [step_addE]
   have := hp.1 _ (List.mem_map_of_mem hx)
   obtain ⟨h1, h2, h3, h4⟩ := hm x (by simp [hx])
   refine ⟨fun hx' => ?_, h2, h3, h4⟩
   obtain ⟨y, hy, hyx⟩ := List.mem_map.1 hx'
   rcases mem_ins.1 hy with rfl | hy
   ·omega
   ·exact h1 (List.mem_map.2 ⟨y, hy, hyx⟩)) hp.2
  obtain ⟨h1, h2, h3, h4⟩ := hm e (by simp)
  refine ⟨⟨.addE e h1 h2 h3 h4, i1⟩, ?_⟩
  show endC (stepG g (addE e)) _ = _
  rw [i2, step_addE]
  rfl
theorem subAsc {α : Type} {key : α → Int} : ∀ {l2 l1 : List α}, (l1.map key).Pairwise (· < ·) → (l2.map key).Pairwise (· < ·) → (∀ x ∈ l1, x ∈ l2) → l1.Sublist l2
 | [], l1, _, _, h => by
  cases l1 with
  | nil => exact List.Sublist.slnil
  | cons a s => exact absurd (h a (by simp)) (by simp)
 | b :: t, l1, h1, h2, h => by
  cases l1 with
  | nil => exact List.nil_sublist _
  | cons a s =>
   simp only [List.map_cons, List.pairwise_cons] at h1 h2
   rcases List.mem_cons.1 (h a (by simp)) with rfl | hat
   ·refine List.Sublist.cons_cons _ (subAsc h1.2 h2.2 (fun x hx => ?_))
    rcases List.mem_cons.1 (h x (by simp [hx])) with rfl | hxt
    ·have := h1.1 _ (List.mem_map_of_mem hx); omega
    ·exact hxt
   ·refine List.Sublist.cons _ (subAsc (by simpa using ⟨fun x hx => h1.1 _ (List.mem_map_of_mem hx), h1.2⟩) h2.2 (fun x hx => ?_))
    have hba := h2.1 _ (List.mem_map_of_mem hat)
    rcases List.mem_cons.1 (h x hx) with rfl | hxt
    ·rcases List.mem_cons.1 hx with rfl | hxs
     ·omega
     ·have := h1.1 _ (List.mem_map_of_mem hxs); omega
    ·exact hxt
theorem eqAsc {α : Type} {key : α → Int} {l1 l2 : List α} (h1 : (l1.map key).Pairwise (· < ·)) (h2 : (l2.map key).Pairwise (· < ·)) (h : ∀ x, x ∈ l1 ↔ x ∈ l2) : l1 = l2 :=
 (subAsc h1 h2 (fun x hx => (h x).1 hx)).eq_of_length_le (subAsc h2 h1 (fun x hx => (h x).2 hx)).length_le
theorem uniq {α : Type} {key : α → Int} : ∀ {l : List α}, (l.map key).Pairwise (· < ·) → ∀ {x y : α}, x ∈ l → y ∈ l → key x = key y → x = y
 | a :: l, h, x, y, hx, hy, e => by
  simp only [List.map_cons, List.pairwise_cons] at h
  rcases List.mem_cons.1 hx with e1 | h1
  ·rcases List.mem_cons.1 hy with e2 | h2
   ·rw [e1, e2]
   ·have := h.1 _ (List.mem_map_of_mem h2); rw [e1] at e; omega
  ·rcases List.mem_cons.1 hy with e2 | h2
   ·have := h.1 _ (List.mem_map_of_mem h1); rw [e2] at e; omega
   ·exact uniq h.2 h1 h2 e
theorem side_of {g : Gr} (ha : (g.vs.map Vtx.id).Pairwise (· < ·)) {v : Vtx} (hv : v ∈ g.vs) : sideG g v.id = v.side := by
 obtain ⟨i, hi, rfl⟩ := List.getElem_of_mem hv
 exact sideG_at ha hi
/-- a vertex that is in both, with the same side, or in none -/
theorem still {x y : Gr} (hx : VG x) (hy : VG y) {v : Vtx} (hv : v ∈ x.vs) (hs : sideG y v.id = v.side) : v ∈ y.vs := by
 by_cases hm : v.id ∈ y.vs.map Vtx.id
 ·obtain ⟨u, hu, e⟩ := List.mem_map.1 hm
  have h1 := side_of hy.av hu
  rw [e, hs] at h1
  have : u = v := by cases u; cases v; simp_all
  exact this ▸ hu
 rw [sideG_none hm] at hs
 have := hx.okv v hv
 simp only [okV, Bool.and_eq_true, inB_iff] at this
 omega
theorem go_chgs {x y : Gr} (hx : VG x) (hy : VG y) (hd : x.ds = y.ds) (hs : ∀ d ∈ x.ds, sideG x d = sideG y d) : GoC x (chgs x y) ∧ endC x (chgs x y) = y := by
 have hgE : ((goneE x y).map Edg.id).Pairwise (· < ·) := asc_filter hx.ae _
 have hgV : ((goneV x y).map Vtx.id).Pairwise (· < ·) := asc_filter hx.av _
 have hgE' : ((goneE y x).map Edg.id).Pairwise (· < ·) := asc_filter hy.ae _
 have hgV' : ((goneV y x).map Vtx.id).Pairwise (· < ·) := asc_filter hy.av _
 obtain ⟨a1, a2⟩ := go_dropE (goneE x y) x (fun e he => (List.mem_filter.1 he).1) hgE
 -- the edges that stay
 have hstay : ∀ e, e ∈ (x.es.filter fun z => !decide (z.id ∈ (goneE x y).map Edg.id)) ↔ e ∈ x.es ∧ lostE x y e = false := by
  intro e
  rw [List.mem_filter]
  constructor
  ·rintro ⟨h1, h2⟩
   refine ⟨h1, ?_⟩
   cases hl : lostE x y e with
   | false => rfl
   | true =>
   simp only [Bool.not_eq_true', decide_eq_false_iff_not] at h2
   exact absurd (List.mem_map_of_mem (List.mem_filter.2 ⟨h1, hl⟩)) h2
  rintro ⟨h1, h2⟩
  refine ⟨h1, ?_⟩
  simp only [Bool.not_eq_true', decide_eq_false_iff_not]
  intro hm
  obtain ⟨z, hz, e1⟩ := List.mem_map.1 hm
  obtain ⟨hz1, hz2⟩ := List.mem_filter.1 hz
  rw [uniq hx.ae hz1 h1 e1] at hz2
  rw [h2] at hz2; cases hz2
 have hstayV : ∀ v, v ∈ (x.vs.filter fun z => !decide (z.id ∈ (goneV x y).map Vtx.id)) ↔ v ∈ x.vs ∧ sideG y v.id = v.side := by
  intro v
  rw [List.mem_filter]
  constructor
  ·rintro ⟨h1, h2⟩
   refine ⟨h1, ?_⟩
   by_cases hl : sideG y v.id = v.side
   ·exact hl
   simp only [Bool.not_eq_true', decide_eq_false_iff_not] at h2
   exact absurd (List.mem_map_of_mem (List.mem_filter.2 ⟨h1, by simp [hl]⟩)) h2
  rintro ⟨h1, h2⟩
  refine ⟨h1, ?_⟩
  simp only [Bool.not_eq_true', decide_eq_false_iff_not]
  intro hm
  obtain ⟨z, hz, e1⟩ := List.mem_map.1 hm
  obtain ⟨hz1, hz2⟩ := List.mem_filter.1 hz
  rw [uniq hx.av hz1 h1 e1, h2] at hz2
  simp at hz2
 generalize hE1 : (x.es.filter fun z => !decide (z.id ∈ (goneE x y).map Edg.id)) = E1 at a2 hstay
 have hE1a : (E1.map Edg.id).Pairwise (· < ·) := by rw [← hE1]; exact asc_filter hx.ae _
 obtain ⟨b1, b2⟩ := go_dropV (goneV x y) ⟨x.vs, E1, x.ds⟩ (fun v hv => by
  obtain ⟨h1, h2⟩ := List.mem_filter.1 hv
  have h2' : sideG y v.id ≠ v.side := by simpa using h2
  have h3 := side_of hx.av h1
  refine ⟨h1, fun hd' => h2' ?_, fun e he => ?_⟩
  ·rw [← hs _ hd', h3]
  obtain ⟨_, hl⟩ := (hstay e).1 he
  simp only [lostE, moved, Bool.or_eq_false_iff, bne_eq_false_iff_eq] at hl
  refine ⟨fun e1 => ?_, fun e1 => ?_⟩
  ·have := hl.1.2
   rw [e1, h3] at this; exact h2' this.symm
  have := hl.2
  rw [e1, h3] at this; exact h2' this.symm) hgV
 simp only at b2
 generalize hV1 : (x.vs.filter fun z => !decide (z.id ∈ (goneV x y).map Vtx.id)) = V1 at b2 hstayV
 have hV1a : (V1.map Vtx.id).Pairwise (· < ·) := by rw [← hV1]; exact asc_filter hx.av _
 have hnewV : ∀ v ∈ goneV y x, v.id ∉ V1.map Vtx.id := by
  intro v hv hm
  obtain ⟨h1, h2⟩ := List.mem_filter.1 hv
  have h2' : sideG x v.id ≠ v.side := by simpa using h2
  obtain ⟨u, hu, e⟩ := List.mem_map.1 hm
  obtain ⟨h4, h5⟩ := (hstayV u).1 hu
  have h6 := side_of hx.av h4
  have h7 := side_of hy.av h1
  rw [e] at h5 h6
  exact h2' (by rw [h6, ← h5, h7])
 obtain ⟨c1, c2⟩ := go_addV (goneV y x) ⟨V1, E1, x.ds⟩ (fun v hv => ⟨hnewV v hv, hy.okv v (List.mem_filter.1 hv).1⟩) hgV'
 simp only at c2
 have hV : insAll Vtx.id V1 (goneV y x) = y.vs := by
  refine eqAsc (key := Vtx.id) (insAll_asc hV1a hgV' (fun v hv u hu e => hnewV v hv (e ▸ List.mem_map_of_mem hu))) hy.av (fun v => ?_)
  rw [mem_insAll, hstayV]
  constructor
  ·rintro (h | ⟨h1, h2⟩)
   ·exact (List.mem_filter.1 h).1
   exact still hx hy h1 h2
  intro h
  by_cases e : sideG x v.id = v.side
  ·exact .inr ⟨still hy hx h e, side_of hy.av h⟩
  exact .inl (List.mem_filter.2 ⟨h, by simp [e]⟩)
 rw [hV] at c2
 have hnewE : ∀ e ∈ goneE y x, e.id ∉ E1.map Edg.id := by
  intro e he hm
  obtain ⟨h1, h2⟩ := List.mem_filter.1 he
  obtain ⟨u, hu, e1⟩ := List.mem_map.1 hm
  obtain ⟨h4, h5⟩ := (hstay u).1 hu
  simp only [lostE, moved, Bool.or_eq_false_iff, bne_eq_false_iff_eq, Bool.not_eq_false', decide_eq_true_eq] at h5
  have h6 := uniq hy.ae h5.1.1 h1 e1
  subst h6
  simp only [lostE, moved, h4, h5.1.2, h5.2, decide_true, Bool.not_true, Bool.false_or, bne_self_eq_false, Bool.or_self] at h2
  cases h2
 have hes := fun e (he : e ∈ goneE y x) => hy.oke e (List.mem_filter.1 he).1
 obtain ⟨d1, d2⟩ := go_addE (goneE y x) ⟨y.vs, E1, x.ds⟩ (fun e he => ⟨hnewE e he, (hes e he).1, (hes e he).2.1, (hes e he).2.2⟩) hgE'
 simp only at d2
 have hE : insAll Edg.id E1 (goneE y x) = y.es := by
  refine eqAsc (key := Edg.id) (insAll_asc hE1a hgE' (fun v hv u hu e => hnewE v hv (e ▸ List.mem_map_of_mem hu))) hy.ae (fun e => ?_)
  rw [mem_insAll, hstay]
  constructor
  ·rintro (h | ⟨h1, h2⟩)
   ·exact (List.mem_filter.1 h).1
   simp only [lostE, moved, Bool.or_eq_false_iff, bne_eq_false_iff_eq, Bool.not_eq_false', decide_eq_true_eq] at h2
   exact h2.1.1
  intro h
  cases hl : lostE y x e with
  | true => exact .inl (List.mem_filter.2 ⟨h, hl⟩)
  | false =>
  simp only [lostE, moved, Bool.or_eq_false_iff, bne_eq_false_iff_eq, Bool.not_eq_false', decide_eq_true_eq] at hl
  exact .inr ⟨hl.1.1, by simp only [lostE, moved, h, hl.1.2, hl.2, decide_true, Bool.not_true, Bool.false_or, bne_self_eq_false, Bool.or_self]⟩
 rw [hE] at d2
 have f2 : endC x ((goneE x y).map dropE ++ (goneV x y).map dropV) = ⟨V1, E1, x.ds⟩ := by rw [endC_app, a2, b2]
 have f3 : endC x ((goneE x y).map dropE ++ (goneV x y).map dropV ++ (goneV y x).map addV) = ⟨y.vs, E1, x.ds⟩ := by rw [endC_app, f2, c2]
 refine ⟨GoC.app (GoC.app (GoC.app a1 (by rw [a2]; exact b1)) (by rw [f2]; exact c1)) (by rw [f3]; exact d1), ?_⟩
 unfold chgs
 rw [endC_app, f3, d2, hd]
theorem chgs_self {x : Gr} (hx : VG x) : chgs x x = [] := by
 have h1 : goneE x x = [] := List.filter_eq_nil_iff.2 (fun e he => by simp [lostE, moved, he])
 have h2 : goneV x x = [] := List.filter_eq_nil_iff.2 (fun v hv => by simp [side_of hx.av hv])
 simp [chgs, h1, h2]
theorem dep_side {g : Gr} {a b : Bk} (ha : VB g a) (hb : VB g b) : ∀ d ∈ (build g a).ds, sideG (build g a) d = sideG (build g b) d := by
 intro d hd
 have hg : ∀ {c : Bk}, VB g c → sideG (build g c) d = 0 := by
  intro c hc
  obtain ⟨v, hv, rfl⟩ := has_iff.1 (ha.vg.okd d hd)
  rw [side_of (valid_build hc).av (v := v) (mem_insAll.2 (.inr hv))]
  exact hc.none_ v hv
 rw [hg ha, hg hb]
theorem go_books {g : Gr} {a b : Bk} (ha : VB g a) (hb : VB g b) : GoC (build g a) (chgs (build g a) (build g b)) ∧ endC (build g a) (chgs (build g a) (build g b)) = build g b :=
 go_chgs (valid_build ha) (valid_build hb) rfl (dep_side ha hb)
theorem len_chgs {x y : Gr} (hx : VG x) (hy : VG y) : (chgs x y).length ≤ 200 := by
 obtain ⟨a1, a2, _⟩ := hx.lens
 obtain ⟨b1, b2, _⟩ := hy.lens
 have h1 := List.length_filter_le (lostE x y) x.es
 have h2 := List.length_filter_le (lostE y x) y.es
 have h3 := List.length_filter_le (fun v : Vtx => sideG y v.id != v.side) x.vs
 have h4 := List.length_filter_le (fun v : Vtx => sideG x v.id != v.side) y.vs
 simp only [chgs, List.length_append, List.length_map]
 unfold goneE goneV
 omega
end Go.Proofs.YthfagcdjbmhhcaaGreat
