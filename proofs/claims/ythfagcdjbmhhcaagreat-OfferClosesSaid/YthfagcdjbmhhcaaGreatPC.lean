/- an offer that is closed: the plain laws. -/
import Derived.Test.YthfagcdjbmhhcaaGreatPRo
set_option linter.unusedVariables false
set_option linter.unusedSimpArgs false
namespace Go.Proofs.YthfagcdjbmhhcaaGreat
theorem opn_at {b : Bk} (ha : (b.os.map Ofr.id).Pairwise (· < ·)) {k : Nat} (hk : k < b.os.length) : opn b b.os[k].id = (b.os[k].state == 1) := any_at ha hk rfl (fun o => o.state == 1)
theorem shut_state {id st : Int} {o : Ofr} (h : o.id = id) : (shut id st o).state = st := by unfold shut; rw [if_pos h]
theorem doW_at {b : Bk} (ha : (b.os.map Ofr.id).Pairwise (· < ·)) {k : Nat} (hk : k < b.os.length) : doW b b.os[k].party b.os[k].id = if b.os[k].state = 1 then some (closeId b b.os[k].id 2) else none := by
 unfold doW
 have := any_at ha hk rfl (fun o => o.state == 1 && o.party == b.os[k].party)
 simp only [← Bool.and_assoc] at this
 rw [this]
 simp
theorem opn_close {b : Bk} {id st : Int} (hst : st ≠ 1) : opn (closeId b id st) id = false := by
 rw [Bool.eq_false_iff]
 intro h
 obtain ⟨o, ho, hi, hs⟩ := opn_iff.1 h
 obtain ⟨y, _, rfl⟩ := List.mem_map.1 ho
 rw [shut_id] at hi
 rw [shut_state hi] at hs
 exact hst hs
theorem doW_none {b : Bk} {party id : Int} (h : opn b id = false) : doW b party id = none := by
 unfold doW
 rw [if_neg]
 intro h2
 rw [List.any_eq_true] at h2
 obtain ⟨o, ho, h2⟩ := h2
 simp only [Bool.and_eq_true, beq_iff_eq] at h2
 have := opn_iff.2 ⟨o, ho, h2.1.1, h2.1.2⟩
 rw [h] at this
 cases this
theorem doTake_one {b : Bk} {id : Int} : doTake b [id] = if opn b id = true then some (closeId b id 3) else none := by
 unfold doTake takeAll
 split
 ·simp [takeAll, asc]
 ·rfl
theorem chk_none {g : Gr} {b : Bk} : chk g b none = none := by unfold chk; split <;> rfl
theorem chk_close {g : Gr} {b : Bk} (hv : VB g b) {id st : Int} (hst : 2 ≤ st ∧ st ≤ 4) : chk g b (some (closeId b id st)) = some (closeId b id st) := by
 unfold chk
 rw [if_pos hv.true, Option.bind_some, if_pos (hv.closeId id st hst).true]
/-- closing x in the book b comes to c (E), once more to F -/
def Clo (b : Bk) (x : Ofr) (c : Bk) (E F : Int) : Prop := (x.state ≠ 1 ∧ E = 270) ∨ (x.state = 1 ∧ E = 0 ∧ F = 270 ∧ ∃ st, (2 ≤ st ∧ st ≤ 4) ∧ c = closeId b x.id st)
theorem clo_w {g : Gr} {b c d : Bk} {E F : Int} (hv : VB g b) {k : Nat} (hk : k < b.os.length)
  (h1 : (chk g b (doW b b.os[k].party b.os[k].id) = some c ∧ E = 0) ∨ (chk g b (doW b b.os[k].party b.os[k].id) = none ∧ c = ⟨0, [], [], []⟩ ∧ E = 270))
  (h2 : (chk g c (doW c b.os[k].party b.os[k].id) = some d ∧ F = 0) ∨ (chk g c (doW c b.os[k].party b.os[k].id) = none ∧ d = ⟨0, [], [], []⟩ ∧ F = 270)) : Clo b b.os[k] c E F := by
 rw [doW_at hv.ao hk] at h1
 by_cases hs : b.os[k].state = 1
 ·rw [if_pos hs, chk_close hv (by omega)] at h1
  rcases h1 with ⟨h, rfl⟩ | ⟨h, _⟩
  ·injection h with h
   subst h
   rw [doW_none (opn_close (by omega)), chk_none] at h2
   rcases h2 with ⟨h, _⟩ | ⟨_, _, rfl⟩
   ·cases h
   ·exact .inr ⟨hs, rfl, rfl, 2, by omega, rfl⟩
  ·cases h
 ·rw [if_neg hs, chk_none] at h1
  rcases h1 with ⟨h, _⟩ | ⟨_, _, rfl⟩
  ·cases h
  ·exact .inl ⟨hs, rfl⟩
theorem clo_t {g : Gr} {b c d : Bk} {E F : Int} (hv : VB g b) {k : Nat} (hk : k < b.os.length)
  (h1 : (chk g b (doTake b [b.os[k].id]) = some c ∧ E = 0) ∨ (chk g b (doTake b [b.os[k].id]) = none ∧ c = ⟨0, [], [], []⟩ ∧ E = 270))
  (h2 : (chk g c (doTake c [b.os[k].id]) = some d ∧ F = 0) ∨ (chk g c (doTake c [b.os[k].id]) = none ∧ d = ⟨0, [], [], []⟩ ∧ F = 270)) : Clo b b.os[k] c E F := by
 rw [doTake_one, opn_at hv.ao hk] at h1
 by_cases hs : b.os[k].state = 1
 ·rw [if_pos (by simpa using hs), chk_close hv (by omega)] at h1
  rcases h1 with ⟨h, rfl⟩ | ⟨h, _⟩
  ·injection h with h
   subst h
   rw [doTake_one, opn_close (by omega), if_neg (by simp), chk_none] at h2
   rcases h2 with ⟨h, _⟩ | ⟨_, _, rfl⟩
   ·cases h
   ·exact .inr ⟨hs, rfl, rfl, 3, by omega, rfl⟩
  ·cases h
 ·rw [if_neg (by simpa using hs), chk_none] at h1
  rcases h1 with ⟨h, _⟩ | ⟨_, _, rfl⟩
  ·cases h
  ·exact .inl ⟨hs, rfl⟩
/-! ### the graph of a book in which an open offer is closed -/
def offE (id : Int) (e : Edg) : Bool := e.src != id && e.dst != id
theorem fnd_close {b : Bk} {id st x : Int} : fnd (closeId b id st) x = (fnd b x).map (shut id st) := fnd_map (shut_id id st) b.round _ x
theorem dir_close {b : Bk} {id st : Int} {w : Wsh} : dirOf (closeId b id st) w = dirOf b w := by
 unfold dirOf
 rw [fnd_close]
 cases fnd b w.src with
 | none => rfl
 | some x => simp only [Option.map_some]; unfold shut; split <;> rfl
theorem edg_close {b : Bk} {id st : Int} {w : Wsh} : edgOf (closeId b id st) w = edgOf b w := by unfold edgOf; rw [dir_close]
theorem close_es {g : Gr} {b : Bk} (hv : VB g b) {k : Nat} (hk : k < b.os.length) {st : Int} (hst : 2 ≤ st ∧ st ≤ 4) :
  (build g (closeId b b.os[k].id st)).es = (build g b).es.filter (offE b.os[k].id) := by
 refine eq_of_asc_mem (key := Edg.id) (valid_build (hv.closeId _ st hst)).ae (List.Pairwise.sublist (List.Sublist.map _ List.filter_sublist) (valid_build hv).ae) (fun e => ?_)
 have hno := (okO_inv (hv.oko _ (List.getElem_mem hk))).2.2.1
 rw [List.mem_filter]
 show e ∈ insAll Edg.id g.es _ ↔ e ∈ insAll Edg.id g.es _ ∧ _
 rw [mem_insAll, mem_insAll, List.mem_map, List.mem_map]
 constructor
 ·rintro (⟨w, hw, rfl⟩ | he)
  ·obtain ⟨hw, ho⟩ := List.mem_filter.1 hw
   refine ⟨.inl ⟨w, hw, edg_close.symm⟩, ?_⟩
   simp [offW] at ho
   simp [offE, edgOf, ho]
  ·obtain ⟨_, h1, h2⟩ := hv.vg.oke _ he
   refine ⟨.inr he, ?_⟩
   unfold offE
   simp only [Bool.and_eq_true, bne_iff_ne]
   exact ⟨fun h => (by rw [← h, h1] at hno; cases hno), fun h => (by rw [← h, h2] at hno; cases hno)⟩
 ·rintro ⟨⟨w, hw, rfl⟩ | he, ho⟩
  ·refine .inl ⟨w, List.mem_filter.2 ⟨hw, ?_⟩, edg_close⟩
   simp [offE, edgOf] at ho
   simp [offW, ho]
  ·exact .inr he
theorem cnt_close : ∀ {os : List Ofr} {k : Nat} (hk : k < os.length) (_ : (os.map Ofr.id).Pairwise (· < ·)) (_ : os[k].state = 1) {st : Int} (_ : st ≠ 1),
  ((os.map (shut os[k].id st)).filter isOpen).length + 1 = (os.filter isOpen).length
 | o :: os, 0, _, ha, hs, st, hst => by
  simp only [List.getElem_cons_zero] at hs ⊢
  simp only [List.map_cons, List.pairwise_cons] at ha
  have h1 : isOpen (shut o.id st o) = false := by simp [isOpen, shut_state, hst]
  have h2 : isOpen o = true := by simp [isOpen, hs]
  have h3 : os.map (shut o.id st) = os := by
   conv => rhs; rw [← List.map_id os]
   refine List.map_congr_left fun y hy => ?_
   have := ha.1 _ (List.mem_map_of_mem hy)
   unfold shut
   rw [if_neg (by omega)]
   rfl
  simp [List.filter_cons, h1, h2, h3]
 | o :: os, k + 1, hk, ha, hs, st, hst => by
  simp only [List.getElem_cons_succ] at hs ⊢
  simp only [List.map_cons, List.pairwise_cons] at ha
  have hk' : k < os.length := by simpa using hk
  have ih := cnt_close hk' ha.2 hs hst
  have := ha.1 _ (List.mem_map_of_mem (List.getElem_mem hk'))
  have h1 : shut os[k].id st o = o := by unfold shut; rw [if_neg (by omega)]
  simp only [List.map_cons, h1, List.filter_cons]
  split
  ·simp only [List.length_cons]; omega
  ·exact ih
theorem close_vs {g : Gr} {b : Bk} (hv : VB g b) {k : Nat} (hk : k < b.os.length) (hs : b.os[k].state = 1) {st : Int} (hst : 2 ≤ st ∧ st ≤ 4) :
  (build g (closeId b b.os[k].id st)).vs.length + 1 = (build g b).vs.length := by
 have h1 := (build_lens g b).1
 have h2 := (build_lens g (closeId b b.os[k].id st)).1
 have h3 := cnt_close hk hv.ao hs (st := st) (by omega)
 unfold cntO at h1 h2
 rw [List.take_length] at h1 h2
 have h4 : (closeId b b.os[k].id st).os = b.os.map (shut b.os[k].id st) := rfl
 rw [h4] at h2
 omega
theorem close_at {b : Bk} {id st : Int} : (closeId b id st).os = b.os.map (shut id st) := rfl
theorem close_place {g : Gr} {b : Bk} (hv : VB g b) {k : Nat} (hk : k < b.os.length) {st : Int} (hst : 2 ≤ st ∧ st ≤ 4) :
  fidx ((build g (closeId b b.os[k].id st)).vs.map Vtx.id) b.os[k].id = -1 := by
 have hl : k < (closeId b b.os[k].id st).os.length := by rw [close_at]; simpa using hk
 have he : (closeId b b.os[k].id st).os[k] = shut b.os[k].id st b.os[k] := by simp [close_at]
 rcases vtx_at (hv.closeId b.os[k].id st hst) hl with ⟨h, _⟩ | ⟨_, h⟩
 ·rw [he, shut_state rfl] at h; omega
 ·rw [he, shut_id] at h; exact h
theorem close_else {b : Bk} {id st : Int} {j : Nat} (hj : j < b.os.length) (hne : b.os[j].id ≠ id) : ∃ h : j < (closeId b id st).os.length, (closeId b id st).os[j] = b.os[j] := by
 refine ⟨by rw [close_at]; simpa using hj, ?_⟩
 simp only [close_at, List.getElem_map]
 unfold shut
 rw [if_neg hne]
end Go.Proofs.YthfagcdjbmhhcaaGreat
