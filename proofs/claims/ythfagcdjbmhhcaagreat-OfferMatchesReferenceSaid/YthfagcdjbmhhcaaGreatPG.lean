/- the graph of a valid book: the plain law. -/
import Derived.Test.YthfagcdjbmhhcaaGreatK16
import Derived.Test.YthfagcdjbmhhcaaGreatK12
set_option linter.unusedVariables false
set_option linter.unusedSimpArgs false
namespace Go.Proofs.YthfagcdjbmhhcaaGreat
theorem fidx_at {α : Type} (key : α → Int) {l : List α} (ha : (l.map key).Pairwise (· < ·)) {x : α} (hx : x ∈ l) : ∃ i : Nat, ∃ h : i < l.length, fidx (l.map key) (key x) = i ∧ l[i] = x := by
 obtain ⟨i, hi, rfl⟩ := List.getElem_of_mem hx
 refine ⟨i, hi, fidx_found (by simpa using hi) (by simp) (fun j hj hji => ?_), rfl⟩
 have := List.pairwise_iff_getElem.1 ha j i hj (by simpa using hi) hji
 simp only [List.getElem_map] at this ⊢
 omega
theorem vtx_at {g : Gr} {b : Bk} (h : VB g b) {i : Nat} (hi : i < b.os.length) :
  (b.os[i].state = 1 ∧ ∃ k : Nat, ∃ hk : k < (build g b).vs.length, fidx ((build g b).vs.map Vtx.id) b.os[i].id = k ∧ (build g b).vs[k] = vtxOf b.os[i]) ∨
  (b.os[i].state ≠ 1 ∧ fidx ((build g b).vs.map Vtx.id) b.os[i].id = -1) := by
 by_cases hs : b.os[i].state = 1
 ·left
  have hm : vtxOf b.os[i] ∈ (build g b).vs := mem_insAll.2 (.inl (List.mem_map.2 ⟨_, List.mem_filter.2 ⟨List.getElem_mem hi, by simp [isOpen, hs]⟩, rfl⟩))
  exact ⟨hs, fidx_at Vtx.id (valid_build h).av hm⟩
 ·right
  refine ⟨hs, ?_⟩
  rcases fidx_cases ((build g b).vs.map Vtx.id) b.os[i].id with ⟨e, _⟩ | ⟨k, hk, _, e, _⟩
  ·exact e
  ·exfalso
   have : has (build g b) b.os[i].id = true := has_iff.2 ⟨(build g b).vs[k]'(by simpa using hk), List.getElem_mem _, by simpa using e⟩
   rcases has_build.1 this with h1 | ⟨o, ho, h1, h2⟩
   ·rw [(okO_inv (h.oko _ (List.getElem_mem hi))).2.2.1] at h1
    cases h1
   ·obtain ⟨j, hj, rfl⟩ := List.getElem_of_mem ho
    have hp := List.pairwise_iff_getElem.1 h.ao
    rcases Nat.lt_trichotomy i j with hij | rfl | hij
    ·have := hp i j (by simpa using hi) (by simpa using hj) hij
     simp only [List.getElem_map] at this
     omega
    ·exact hs h1
    ·have := hp j i (by simpa using hj) (by simpa using hi) hij
     simp only [List.getElem_map] at this
     omega
theorem edge_at {g : Gr} {b : Bk} (h : VB g b) {i : Nat} (hi : i < g.es.length) :
  ∃ k : Nat, ∃ hk : k < (build g b).es.length, fidx ((build g b).es.map Edg.id) g.es[i].id = k ∧ (build g b).es[k] = g.es[i] :=
 fidx_at Edg.id (valid_build h).ae (mem_insAll.2 (.inr (List.getElem_mem hi)))
theorem wish_at {g : Gr} {b : Bk} (h : VB g b) {i : Nat} (hi : i < b.ws.length) :
  (∃ k : Nat, ∃ hk : k < (build g b).es.length, fidx ((build g b).es.map Edg.id) b.ws[i].edge = k ∧ (build g b).es[k] = edgOf b b.ws[i]) ∧
  (∃ f : Nat, ∃ hf : f < b.os.length, fidx (b.os.map Ofr.id) b.ws[i].src = f ∧ dirOf b b.ws[i] = (b.os[f].side == 3)) ∧
  (0 ≤ b.ws[i].edge ∧ b.ws[i].edge ≤ 39) ∧ (0 ≤ b.ws[i].weight ∧ b.ws[i].weight ≤ 1000) := by
 have hm := List.getElem_mem hi
 obtain ⟨x, y, h1, h2, _, _, _, h3⟩ := okW_inv (h.okw _ hm)
 refine ⟨?_, ?_, ?_, ?_⟩
 ·exact fidx_at Edg.id (valid_build h).ae (x := edgOf b b.ws[i]) (mem_insAll.2 (.inl (List.mem_map.2 ⟨_, hm, rfl⟩)))
 ·rcases dirOf_fnd (b := b) (x := b.ws[i]) with ⟨he, _⟩ | ⟨f, hf, he, hd⟩
  ·exfalso
   have := (fnd_some h1)
   have h4 : fidx (b.os.map Ofr.id) b.ws[i].src < 0 := by omega
   exact fidx_neg.1 h4 (by rw [← this.2]; exact List.mem_map.2 ⟨x, this.1, rfl⟩)
  ·exact ⟨f, hf, he, hd⟩
 ·have := h.new _ hm
  simp only [newE, Bool.and_eq_true, inB_iff] at this
  exact this.1
 ·have hx := (okO_inv (h.oko _ (fnd_some h1).1)).2.2.2.2.2.1
  have hy := (okO_inv (h.oko _ (fnd_some h2).1)).2.2.2.2.2.1
  unfold joinsO at h3
  split at h3
  ·simp only [Bool.and_eq_true, decide_eq_true_eq, beq_iff_eq] at h3
   omega
  ·simp only [Bool.and_eq_true, inB_iff] at h3
   exact h3.2
def cntO (b : Bk) (i : Nat) : Nat := ((b.os.take i).filter isOpen).length
theorem cntO_succ {b : Bk} {i : Nat} (hi : i < b.os.length) : cntO b (i + 1) = cntO b i + if b.os[i].state = 1 then 1 else 0 := by
 unfold cntO
 rw [List.take_succ_eq_append_getElem hi, List.filter_append, List.length_append]
 congr 1
 by_cases h : b.os[i].state = 1
 ·simp [List.filter, isOpen, h]
 have h2 : (b.os[i].state == 1) = false := by simpa using h
 simp [List.filter, isOpen, h, h2]
theorem cntO_le {b : Bk} {i : Nat} (hi : i ≤ b.os.length) : cntO b i ≤ i := by
 unfold cntO
 have := List.length_filter_le isOpen (b.os.take i)
 rw [List.length_take] at this
 omega
theorem build_lens (g : Gr) (b : Bk) : (build g b).vs.length = g.vs.length + cntO b b.os.length ∧ (build g b).es.length = g.es.length + b.ws.length ∧ (build g b).ds = g.ds := by
 refine ⟨?_, ?_, rfl⟩
 ·show (insAll _ _ _).length = _
  rw [length_insAll, List.length_map]
  unfold cntO
  rw [List.take_length]
 show (insAll _ _ _).length = _
 rw [length_insAll, List.length_map]
end Go.Proofs.YthfagcdjbmhhcaaGreat
