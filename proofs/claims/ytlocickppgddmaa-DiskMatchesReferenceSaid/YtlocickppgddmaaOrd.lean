import Derived.Test.YtlocickppgddmaaSynLaw
namespace Go.Proofs.Ytlocickppgddmaa
open Go.Lib

theorem upto_spec (d : Array Int) (hd : ∀ i j, i ≤ j → j < d.size → d[i]! ≤ d[j]!) : ∀ m, m ≤ d.size → (compactUpTo d m).Pairwise (· < ·) ∧ ∀ x, x ∈ compactUpTo d m ↔ ∃ j, j < m ∧ d[j]! = x
  | 0, _ => by simp [compactUpTo]
  | m + 1, hm => by
    obtain ⟨h1, h2⟩ := upto_spec d hd m (by omega)
    rw [compactUpTo_succ]
    by_cases hk : keeps d m = true
    · rw [if_pos hk]
      constructor
      · refine List.pairwise_append.2 ⟨h1, by simp, ?_⟩
        intro a ha b hb
        simp at hb; subst hb
        obtain ⟨j, hj, rfl⟩ := (h2 a).1 ha
        simp [keeps] at hk
        have e1 := hd j (m - 1) (by omega) (by omega)
        have e2 := hd (m - 1) m (by omega) (by omega)
        rcases hk with hk | hk
        · omega
        · omega
      · intro x
        rw [List.mem_append, h2 x]
        constructor
        · rintro (⟨j, hj, e⟩ | h)
          · exact ⟨j, by omega, e⟩
          · simp at h; exact ⟨m, by omega, h.symm⟩
        · rintro ⟨j, hj, e⟩
          rcases Nat.lt_or_ge j m with h | h
          · exact .inl ⟨j, h, e⟩
          · obtain rfl : j = m := by omega
            exact .inr (by simp [e])
    · rw [if_neg hk, List.append_nil]
      refine ⟨h1, fun x => ?_⟩
      rw [h2 x]
      constructor
      · rintro ⟨j, hj, e⟩; exact ⟨j, by omega, e⟩
      · rintro ⟨j, hj, e⟩
        rcases Nat.lt_or_ge j m with h | h
        · exact ⟨j, h, e⟩
        · obtain rfl : j = m := by omega
          simp [keeps] at hk
          exact ⟨j - 1, by omega, by rw [← hk.2]; exact e⟩

theorem compact_spec (zs : List Int) (h : zs.Pairwise (· ≤ ·)) : (Lib.compact zs).Pairwise (· < ·) ∧ ∀ x, x ∈ Lib.compact zs ↔ x ∈ zs := by
  have hd : ∀ i j, i ≤ j → j < zs.toArray.size → zs.toArray[i]! ≤ zs.toArray[j]! := by
    intro i j hij hj
    simp at hj
    rw [getElem!_pos _ _ (by simpa using (by omega : i < zs.length)), getElem!_pos _ _ (by simpa using hj)]
    simp
    rcases Nat.lt_or_ge i j with h1 | h1
    · exact List.pairwise_iff_getElem.1 h i j (by omega) hj h1
    · obtain rfl : i = j := by omega
      exact Int.le_refl _
  obtain ⟨h1, h2⟩ := upto_spec zs.toArray hd zs.length (by simp)
  refine ⟨h1, fun x => (h2 x).trans ?_⟩
  rw [List.mem_iff_getElem]
  constructor
  · rintro ⟨j, hj, e⟩; exact ⟨j, hj, by rw [← e, getElem!_pos _ _ (by simpa using hj)]; simp⟩
  · rintro ⟨j, hj, e⟩; exact ⟨j, hj, by rw [← e, getElem!_pos _ _ (by simpa using hj)]; simp⟩

theorem sorted_pw (zs : List Int) : (sorted zs).Pairwise (· ≤ ·) := by
  have := List.pairwise_mergeSort (le := fun x y : Int => decide (x ≤ y)) (by intro a b c; simp; omega) (by intro a b; simp; omega) zs
  exact this.imp (by simp)

/-- the numbers of the survivors, in their order -/
def has (keep : List Int) (i : Nat) : Bool := decide ((i : Int) ∈ keep)
def surv (keep : List Int) (n : Nat) : List Nat := (List.range n).filter (has keep)

theorem mem_sorted (zs : List Int) (x : Int) : x ∈ sorted zs ↔ x ∈ zs := by simp [sorted, List.mem_mergeSort]
theorem ordOf_surv (keep : List Int) (n : Nat) : ordOf keep n = (surv keep n).map Int.ofNat := by
  obtain ⟨h1, h2⟩ := compact_spec (sorted keep) (sorted_pw keep)
  have hp1 : (ordOf keep n).Pairwise (· < ·) := h1.filter _
  have hp2 : ((surv keep n).map Int.ofNat).Pairwise (· < ·) := by
    rw [List.pairwise_map]
    exact (List.pairwise_lt_range.filter _).imp (by intro a b h; simpa using h)
  have hm : ∀ x, x ∈ ordOf keep n ↔ x ∈ (surv keep n).map Int.ofNat := by
    intro x
    simp only [ordOf, surv, has, List.mem_filter, h2, mem_sorted, List.mem_map, List.mem_range, outB]
    constructor
    · rintro ⟨hx, ho⟩
      simp at ho
      exact ⟨x.toNat, ⟨by omega, by simp [Int.toNat_of_nonneg ho.1, hx]⟩, by simp [Int.toNat_of_nonneg ho.1]⟩
    · rintro ⟨i, ⟨hi, hk⟩, rfl⟩
      simp at hk
      exact ⟨hk, by simp; omega⟩
  refine List.Perm.eq_of_pairwise (le := (· < ·)) (fun a b _ _ h1 h2 => by omega) hp1 hp2 ?_
  exact (List.perm_ext_iff_of_nodup (hp1.imp (by intro a b; omega)) (hp2.imp (by intro a b; omega))).2 hm

/-- the content after the survivors -/
def laid (c : List UInt8) (ws : List (Nat × ByteArray)) : List UInt8 := ws.foldl (fun c x => splice c x.1 x.2.data.toList) c
theorem laid_snoc (c : List UInt8) (ws : List (Nat × ByteArray)) (x : Nat × ByteArray) : laid c (ws ++ [x]) = splice (laid c ws) x.1 x.2.data.toList := by simp [laid]

theorem crashDur_laid (pend : List (Nat × ByteArray)) (torn : Int) (ord : List Int) (dur : List UInt8) : ∀ k, k < ord.length → crashDur pend torn ord dur k = laid dur ((ord.take k).map fun i => pend.getD i.toNat default)
  | 0, _ => by simp [crashDur, laid]
  | k + 1, h => by
    have ih := crashDur_laid pend torn ord dur k (by omega)
    have e : ord.take (k + 1) = ord.take k ++ [ord.getD k 0] := by
      rw [List.take_add_one, List.getElem?_eq_getElem (by omega)]; simp [List.getD, List.getElem?_eq_getElem (show k < ord.length by omega)]
    rw [crashDur, ih, e, List.map_append, List.map_singleton, laid_snoc]
    have hne : decide (k + 1 = ord.length) = false := by simp; omega
    simp [tornS, hne]
/-- what is laid at a crash: the survivors, the last one torn -/
def tornLast (torn : Int) : List (Nat × ByteArray) → List (Nat × ByteArray)
  | [] => []
  | [x] => [(x.1, tornS x.2 torn true)]
  | x :: y :: l => x :: tornLast torn (y :: l)
theorem tornLast_snoc (torn : Int) (x : Nat × ByteArray) : ∀ l : List (Nat × ByteArray), tornLast torn (l ++ [x]) = l ++ [(x.1, tornS x.2 torn true)]
  | [] => rfl
  | [y] => rfl
  | y :: z :: l => by
    show y :: tornLast torn ((z :: l) ++ [x]) = _
    rw [tornLast_snoc torn x (z :: l)]; rfl
theorem crashDur_all (pend : List (Nat × ByteArray)) (torn : Int) (ord : List Int) (dur : List UInt8) : crashDur pend torn ord dur ord.length = laid dur (tornLast torn (ord.map fun i => pend.getD i.toNat default)) := by
  rcases List.eq_nil_or_concat ord with rfl | ⟨l, a, rfl⟩
  · rfl
  · rw [show l.concat a = l ++ [a] by simp]
    rw [List.length_append, List.length_singleton, crashDur, crashDur_laid _ _ _ _ _ (by simp), List.take_left, List.map_append, List.map_singleton, tornLast_snoc, laid_snoc]
    simp
/-- a crash, said over -/
theorem DS.crash_surv (s : DS) (keep : List Int) (torn : Int) : s.crash keep torn =
    (let d := laid s.dur (tornLast torn ((surv keep s.pend.length).map fun i => s.pend.getD i default)); { off := false, left := 0, dur := d, vis := d, pend := [] }) := by
  unfold DS.crash
  rw [crashDur_all, ordOf_surv, List.map_map]
  rfl

def allI (n : Nat) : List Int := (List.range n).map Int.ofNat
theorem allI_length (n : Nat) : (allI n).length = n := by simp [allI]
theorem allI_succ (n : Nat) : allI (n + 1) = allI n ++ [(n : Int)] := by simp [allI, List.range_succ]
theorem surv_all (n : Nat) : surv (allI n) n = List.range n := by
  unfold surv
  rw [List.filter_eq_self]
  intro i hi
  simp [has, allI]; exact ⟨i, List.mem_range.1 hi, rfl⟩
theorem map_getD_range {α : Type} (l : List α) (d : α) : (List.range l.length).map (fun i => l.getD i d) = l := by
  apply List.ext_getElem
  · simp
  · intro i h1 h2; simp [List.getD, List.getElem?_eq_getElem h2]
theorem tornLast_neg (torn : Int) (h : torn < 0) : ∀ l, tornLast torn l = l
  | [] => rfl
  | [x] => by have : ¬ (0 ≤ torn) := by omega
              simp [tornLast, tornS, this]
  | x :: y :: l => by rw [tornLast, tornLast_neg torn h (y :: l)]
theorem DS.crash_all (s : DS) (torn : Int) (h : torn < 0) : s.crash (allI s.pend.length) torn = { off := false, left := 0, dur := laid s.dur s.pend, vis := laid s.dur s.pend, pend := [] } := by
  rw [DS.crash_surv, surv_all, map_getD_range, tornLast_neg _ h]
end Go.Proofs.Ytlocickppgddmaa
