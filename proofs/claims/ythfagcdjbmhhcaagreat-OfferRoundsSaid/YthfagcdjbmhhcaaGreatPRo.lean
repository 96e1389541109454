/- two offers can be added in either order; how long an offer stands: the plain laws. -/
import Derived.Test.YthfagcdjbmhhcaaGreatPG
import Derived.Test.YthfagcdjbmhhcaaGreatK15
set_option linter.unusedVariables false
set_option linter.unusedSimpArgs false
namespace Go.Proofs.YthfagcdjbmhhcaaGreat
theorem mem_putO {o y : Ofr} {os : List Ofr} : y ∈ putO o os ↔ y = o ∨ (y ∈ os ∧ y.id ≠ o.id) := by
 unfold putO
 split
 ·rename_i h
  rw [List.any_eq_true] at h
  obtain ⟨z, hz, hzi⟩ := h
  simp only [beq_iff_eq] at hzi
  rw [List.mem_map]
  constructor
  ·rintro ⟨x, hx, rfl⟩
   by_cases e : x.id = o.id
   ·rw [if_pos e]; exact .inl rfl
   ·rw [if_neg e]; exact .inr ⟨hx, e⟩
  ·rintro (rfl | ⟨h1, h2⟩)
   ·exact ⟨z, hz, by rw [if_pos hzi]⟩
   ·exact ⟨y, h1, by rw [if_neg h2]⟩
 ·rename_i h
  rw [mem_ins]
  constructor
  ·rintro (rfl | h1)
   ·exact .inl rfl
   ·exact .inr ⟨h1, fun e => h (List.any_eq_true.2 ⟨y, h1, by simp [e]⟩)⟩
  ·rintro (rfl | ⟨h1, _⟩)
   ·exact .inl rfl
   ·exact .inr h1
theorem asc_putO {o : Ofr} {os : List Ofr} (ha : (os.map Ofr.id).Pairwise (· < ·)) : ((putO o os).map Ofr.id).Pairwise (· < ·) := by
 unfold putO
 split
 ·have : (os.map fun y => if y.id = o.id then o else y).map Ofr.id = os.map Ofr.id := by
   rw [List.map_map]
   apply List.map_congr_left
   intro y _
   simp only [Function.comp]
   split
   ·rename_i h; exact h.symm
   ·rfl
  rw [this]; exact ha
 ·rename_i h
  exact ins_asc ha (fun y hy e => h (List.any_eq_true.2 ⟨y, hy, by simp [e]⟩))
theorem sub_of_asc {α : Type} {key : α → Int} : ∀ {l2 l1 : List α}, (l1.map key).Pairwise (· < ·) → (l2.map key).Pairwise (· < ·) → (∀ x ∈ l1, x ∈ l2) → l1.Sublist l2
 | [], l1, _, _, h => by
  cases l1 with
  | nil => exact List.Sublist.slnil
  | cons a s => exact absurd (h a (by simp)) (by simp)
 | b :: t, l1, h1, h2, h => by
  cases l1 with
  | nil => exact List.nil_sublist _
  | cons a s =>
   simp only [List.map_cons, List.pairwise_cons] at h1 h2
   rcases List.mem_cons.1 (h a (by simp)) with rfl | hat
   ·refine List.Sublist.cons_cons _ (sub_of_asc h1.2 h2.2 (fun x hx => ?_))
    rcases List.mem_cons.1 (h x (by simp [hx])) with rfl | hxt
    ·have := h1.1 _ (List.mem_map_of_mem hx); omega
    ·exact hxt
   ·refine List.Sublist.cons _ (sub_of_asc (by simpa using ⟨fun x hx => h1.1 _ (List.mem_map_of_mem hx), h1.2⟩) h2.2 (fun x hx => ?_))
    have hba := h2.1 _ (List.mem_map_of_mem hat)
    rcases List.mem_cons.1 (h x hx) with rfl | hxt
    ·rcases List.mem_cons.1 hx with rfl | hxs
     ·omega
     ·have := h1.1 _ (List.mem_map_of_mem hxs); omega
    ·exact hxt
theorem eq_of_asc_mem {α : Type} {key : α → Int} {l1 l2 : List α} (h1 : (l1.map key).Pairwise (· < ·)) (h2 : (l2.map key).Pairwise (· < ·)) (h : ∀ x, x ∈ l1 ↔ x ∈ l2) : l1 = l2 :=
 (sub_of_asc h1 h2 (fun x hx => (h x).1 hx)).eq_of_length_le (sub_of_asc h2 h1 (fun x hx => (h x).2 hx)).length_le
theorem sum_sub : ∀ {l1 l2 : List Ofr}, l1.Sublist l2 → (∀ o ∈ l2, 0 ≤ o.price) → (l1.map Ofr.price).sum ≤ (l2.map Ofr.price).sum
 | _, _, .slnil, _ => Int.le_refl _
 | _, _, .cons a h, hp => by
  have := sum_sub h (fun o ho => hp o (by simp [ho]))
  have := hp a (by simp)
  simp only [List.map_cons, List.sum_cons]
  omega
 | _, _, .cons_cons a h, hp => by
  have := sum_sub h (fun o ho => hp o (by simp [ho]))
  simp only [List.map_cons, List.sum_cons]
  omega
theorem fnd_iff {b : Bk} (ha : (b.os.map Ofr.id).Pairwise (· < ·)) {id : Int} {x : Ofr} : fnd b id = some x ↔ x ∈ b.os ∧ x.id = id := by
 constructor
 ·exact fnd_some
 ·rintro ⟨hx, rfl⟩
  cases hf : fnd b x.id with
  | none =>
   unfold fnd at hf
   rw [List.find?_eq_none] at hf
   exact absurd (by simp) (hf x hx)
  | some y =>
   obtain ⟨hy, hyi⟩ := fnd_some hf
   obtain ⟨i, hi, rfl⟩ := List.getElem_of_mem hx
   obtain ⟨j, hj, rfl⟩ := List.getElem_of_mem hy
   have := eq_of_asc ha hj hi hyi
   subst this
   rfl
theorem opn_iff {b : Bk} {id : Int} : opn b id = true ↔ ∃ o ∈ b.os, o.id = id ∧ o.state = 1 := by simp [opn]
theorem opn_no {b : Bk} {id : Int} (h : opn b id = false) {o : Ofr} (ho : o ∈ b.os) (hs : o.state = 1) : o.id ≠ id := fun e => by
 have := opn_iff.2 ⟨o, ho, e, hs⟩
 rw [h] at this; cases this
theorem chk_inv {g : Gr} {b a : Bk} {o : Ofr} (h : chk g b (doAdd b o) = some a) : VB g b ∧ o.state = 1 ∧ opn b o.id = false ∧ a = { b with os := putO o b.os } ∧ VB g a := by
 unfold chk at h
 split at h
 ·rename_i hv
  unfold doAdd at h
  split at h
  ·cases h
  ·rename_i hc
   simp only [Option.bind_some] at h
   split at h
   ·rename_i hv2
    injection h with h
    subst h
    simp only [not_or, Decidable.not_not, Bool.not_eq_true] at hc
    exact ⟨validB_iff.1 hv, hc.1, hc.2, rfl, validB_iff.1 hv2⟩
   ·cases h
 ·cases h
theorem chk_mk {g : Gr} {b : Bk} {o : Ofr} (hv : VB g b) (hs : o.state = 1) (ho : opn b o.id = false) (hv2 : VB g { b with os := putO o b.os }) : chk g b (doAdd b o) = some { b with os := putO o b.os } := by
 unfold chk doAdd
 rw [if_pos hv.true, if_neg (by simp [hs, ho]), Option.bind_some, if_pos hv2.true]
theorem add_swap {g : Gr} {b a c : Bk} {p q : Ofr} (hne : p.id ≠ q.id) (h1 : chk g b (doAdd b p) = some a) (h2 : chk g a (doAdd a q) = some c) :
  ∃ d, chk g b (doAdd b q) = some d ∧ chk g d (doAdd d p) = some c := by
 obtain ⟨hv, hp, hop, rfl, hva⟩ := chk_inv h1
 obtain ⟨_, hq, hoq, rfl, hvc⟩ := chk_inv h2
 have hoqb : opn b q.id = false := by
  rw [Bool.eq_false_iff]
  intro h
  obtain ⟨o, ho, e, hs⟩ := opn_iff.1 h
  have hpi := opn_no hop ho hs
  exact opn_no hoq (b := { b with os := putO p b.os }) (mem_putO.2 (.inr ⟨ho, hpi⟩)) hs e
 have hin : ∀ o ∈ putO q b.os, o.state = 1 → o ∈ putO q (putO p b.os) := by
  intro o ho hs
  rcases mem_putO.1 ho with rfl | ⟨ho, hoi⟩
  ·exact mem_putO.2 (.inl rfl)
  ·exact mem_putO.2 (.inr ⟨mem_putO.2 (.inr ⟨ho, opn_no hop ho hs⟩), hoi⟩)
 have had := asc_putO (o := q) hv.ao
 have hfd : ∀ id x, fnd b id = some x → x.state = 1 → fnd { b with os := putO q b.os } id = some x := by
  intro id x hx hs
  obtain ⟨hm, hi⟩ := fnd_some hx
  exact (fnd_iff (b := { b with os := putO q b.os }) had).2 ⟨mem_putO.2 (.inr ⟨hm, opn_no hoqb hm hs⟩), hi⟩
 have hvd : VB g { b with os := putO q b.os } := by
  refine ⟨hv.vg, hv.none_, hv.rd, hv.okp, hv.ap, had, ?_, ?_, hv.aw, hv.new, ?_⟩
  ·intro o ho
   rcases mem_putO.1 ho with rfl | ⟨ho, _⟩
   ·exact hvc.oko o (mem_putO.2 (.inl rfl))
   ·exact hv.oko o ho
  ·intro y hy
   refine Int.le_trans ?_ (hvc.bud y hy)
   unfold spent
   refine sum_sub (sub_of_asc (key := Ofr.id) ?_ ?_ ?_) ?_
   ·exact List.Pairwise.sublist (List.Sublist.map _ List.filter_sublist) had
   ·exact List.Pairwise.sublist (List.Sublist.map _ List.filter_sublist) hvc.ao
   ·intro o ho
    obtain ⟨ho, hl⟩ := List.mem_filter.1 ho
    have hs : o.state = 1 := by simp [isLoad] at hl; exact hl.2
    exact List.mem_filter.2 ⟨hin o ho hs, hl⟩
   ·intro o ho
    exact (okO_inv (hvc.oko o (List.mem_filter.1 ho).1)).2.2.2.2.2.1.1
  ·intro w hw
   have h := hv.okw w hw
   obtain ⟨x, y, hx, hy, hsx, hsy, _, _⟩ := okW_inv h
   unfold okW at h ⊢
   rw [hx, hy] at h
   rw [hfd _ _ hx hsx, hfd _ _ hy hsy]
   exact h
 refine ⟨_, chk_mk hv hq hoqb hvd, ?_⟩
 have hopd : opn { b with os := putO q b.os } p.id = false := by
  rw [Bool.eq_false_iff]
  intro h
  obtain ⟨o, ho, e, hs⟩ := opn_iff.1 h
  rcases mem_putO.1 ho with rfl | ⟨ho, _⟩
  ·exact hne e.symm
  ·exact opn_no hop ho hs e
 have heq : putO p (putO q b.os) = putO q (putO p b.os) := by
  refine eq_of_asc_mem (key := Ofr.id) (asc_putO had) (asc_putO (asc_putO hv.ao)) (fun y => ?_)
  rw [mem_putO, mem_putO, mem_putO, mem_putO]
  constructor
  ·rintro (rfl | ⟨rfl | ⟨h3, h4⟩, h5⟩)
   ·exact .inr ⟨.inl rfl, hne⟩
   ·exact .inl rfl
   ·exact .inr ⟨.inr ⟨h3, h5⟩, h4⟩
  ·rintro (rfl | ⟨rfl | ⟨h3, h4⟩, h5⟩)
   ·exact .inr ⟨.inl rfl, fun e => hne e.symm⟩
   ·exact .inl rfl
   ·exact .inr ⟨.inr ⟨h3, h5⟩, h4⟩
 have hvc' : VB g { ({ b with os := putO q b.os } : Bk) with os := putO p (putO q b.os) } := by
  rw [heq]; exact hvc
 rw [chk_mk hvd hp hopd hvc']
 show some ({ b with os := putO p (putO q b.os) } : Bk) = _
 rw [heq]
/-- an open offer stands in the round -/
structure Stand (g : Gr) (b : Bk) (p : Ofr) : Prop where
 vb : VB g b
 mem : p ∈ b.os
 st : p.state = 1
theorem Stand.until_ {g : Gr} {b : Bk} {p : Ofr} (h : Stand g b p) : b.round ≤ p.until_ ∧ p.until_ ≤ 30 :=
 have := okO_inv (h.vb.oko _ h.mem)
 ⟨this.2.2.2.2.2.2.2.2 h.st, this.2.2.2.2.2.2.1.2⟩
theorem chk_next {g : Gr} {b : Bk} (hv : VB g b) (hr : b.round + 1 ≤ 30) : chk g b (doNext b) = some (nextB b b.os.length) := by
 rw [chk_keep (fun _ b' e => VB.doNext hv e), if_pos hv.true]
 unfold doNext
 rw [if_pos hr]
theorem chk_next_none {g : Gr} {b : Bk} (hr : ¬ b.round + 1 ≤ 30) : chk g b (doNext b) = none := by
 unfold chk doNext
 rw [if_neg hr]
 split <;> rfl
theorem nextB_os {b : Bk} : (nextB b b.os.length).os = b.os.map (expire (b.round + 1)) := by
 unfold nextB
 simp
theorem Stand.next {g : Gr} {b : Bk} {p : Ofr} (h : Stand g b p) (hr : b.round < p.until_) : b.round + 1 ≤ 30 ∧ Stand g (nextB b b.os.length) p ∧ (nextB b b.os.length).round = b.round + 1 := by
 have hu := h.until_
 have hr2 : b.round + 1 ≤ 30 := by omega
 refine ⟨hr2, ⟨h.vb.nextB hr2, ?_, h.st⟩, rfl⟩
 rw [nextB_os]
 refine List.mem_map.2 ⟨p, h.mem, ?_⟩
 unfold expire
 rw [if_neg]
 simp [old]
 intro _
 omega
theorem next_expired {b : Bk} {i : Nat} (hi : i < b.os.length) (hs : b.os[i].state = 1) (hu : b.os[i].until_ = b.round) :
  ∃ h : i < (nextB b b.os.length).os.length, (nextB b b.os.length).os[i].state = 4 := by
 have e := nextB_os (b := b)
 refine ⟨by rw [e]; simpa using hi, ?_⟩
 have : (nextB b b.os.length).os[i]'(by rw [e]; simpa using hi) = expire (b.round + 1) b.os[i] := by
  simp only [e, List.getElem_map]
 rw [this]
 unfold expire
 rw [if_pos (by simp [old, hs]; omega)]
end Go.Proofs.YthfagcdjbmhhcaaGreat
