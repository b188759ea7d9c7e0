/- files.Lay: what a checked list says. -/
import Derived.Test.YtgbkoeinfhlpoaaECheck
import Derived.Test.YtgbkoeinfhlpoaaEAny
import Derived.Test.YtgbkoeinfhlpoaaESort
namespace Go.Proofs.Ytgbkoeinfhlpoaa.F
open Go.RowKit Go.Shelf Go.Proofs.YtgbkoeinfhlpoaaW.PrintWords Go.Proofs.YtgbkoeinfhlpoaaW.PrintLast Go.Proofs.YtgbkoeinfhlpoaaW.PrintMore
set_option linter.unusedVariables false
set_option linter.unusedSimpArgs false

theorem firstE_all : ∀ (l : List S33), firstE l = 0 → ∀ f ∈ l, fileE f = 0
  | [], _, f, hf => by cases hf
  | x :: t, h, f, hf => by
    unfold firstE at h
    by_cases hx : fileE x = 0
    · rw [if_pos hx] at h
      rcases List.mem_cons.mp hf with rfl | hf
      · exact hx
      · exact firstE_all t h f hf
    · rw [if_neg hx] at h
      exact absurd h hx

structure Good (l : List S33) : Prop where
  file : ∀ f ∈ l, fileE f = 0
  rising : risingB l = true
  way : someWay l = false
  len : l.length ≤ 64
  size : sizeF l ≤ 16384

theorem good_of {l : List S33} (h : checkE l = 0) : Good l := by
  unfold checkE at h
  by_cases h1 : firstE l = 0
  · rw [if_pos h1] at h
    by_cases h2 : risingB l = true
    · rw [if_pos h2] at h
      by_cases h3 : someWay l = true
      · rw [if_pos h3] at h; cases h
      · rw [if_neg h3] at h
        unfold fullE at h
        by_cases h4 : l.length ≤ 64 ∧ sizeF l ≤ 16384
        · exact ⟨firstE_all l h1, h2, by simpa using h3, h4.1, h4.2⟩
        · rw [if_neg h4] at h; cases h
    · rw [if_neg h2] at h; cases h
  · rw [if_neg h1] at h; exact absurd h h1

/-- Rising: each path is less than every later one. -/
theorem rising_pair : ∀ (l : List S33), risingB l = true → l.Pairwise (fun f g => ltB f.p g.p = true)
  | [], _ => List.Pairwise.nil
  | [f], _ => List.pairwise_singleton _ _
  | f :: g :: t, h => by
    unfold risingB at h
    rw [Bool.and_eq_true] at h
    have ih := rising_pair (g :: t) h.2
    refine List.Pairwise.cons (fun x hx => ?_) ih
    rcases List.mem_cons.mp hx with rfl | hx
    · exact h.1
    · exact ltB_trans h.1 (List.rel_of_pairwise_cons ih hx)
theorem pair_rising : ∀ (l : List S33), l.Pairwise (fun f g => ltB f.p g.p = true) → risingB l = true
  | [], _ => rfl
  | [f], _ => rfl
  | f :: g :: t, h => by
    unfold risingB
    rw [Bool.and_eq_true]
    exact ⟨List.rel_of_pairwise_cons h List.mem_cons_self, pair_rising (g :: t) h.tail⟩

/-- One sorted list alone where no path stands twice. -/
theorem sorted_one {l l1 l2 : List S33} (hd : l.Pairwise (fun f g => f.p ≠ g.p)) (h1 : l1.Perm l) (h2 : l2.Perm l) (s1 : SortedP l1) (s2 : SortedP l2) : l1 = l2 := by
  have hinj : ∀ x ∈ l, ∀ y ∈ l, x.p = y.p → x = y := by
    intro x hx y hy he
    obtain ⟨i, hi, rfl⟩ := List.mem_iff_getElem.mp hx
    obtain ⟨j, hj, rfl⟩ := List.mem_iff_getElem.mp hy
    rcases Nat.lt_trichotomy i j with h | h | h
    · exact absurd he (List.pairwise_iff_getElem.mp hd i j hi hj h)
    · subst h; rfl
    · exact absurd he.symm (List.pairwise_iff_getElem.mp hd j i hj hi h)
  refine List.Perm.eq_of_pairwise (le := fun f g : S33 => ltB g.p f.p = false) ?_ s1 s2 (h1.trans h2.symm)
  intro a b ha hb hab hba
  exact hinj a (h1.mem_iff.mp ha) b (h2.mem_iff.mp hb) (ltB_eq_of hba hab)

theorem merge_sorted (l : List S33) : SortedP (l.mergeSort leF) := by
  have := List.pairwise_mergeSort (le := leF) (fun a b c h1 h2 => by
    unfold leF at *
    rw [Bool.not_eq_true'] at *
    exact ltB_ntrans h2 h1) (fun a b => by
    unfold leF
    cases h : ltB b.p a.p with
    | false => rfl
    | true => rw [ltB_asymm h]; rfl) l
  refine this.imp ?_
  intro a b h
  unfold leF at h
  simpa using h

theorem over_apart {a b : List S33} (ha : risingB a = true) (hb : risingB b = true) : (overF a b).Pairwise (fun f g => f.p ≠ g.p) := by
  have ne : ∀ {f g : S33}, ltB f.p g.p = true → f.p ≠ g.p := fun h e => by rw [e, ltB_irrefl] at h; cases h
  unfold overF
  rw [List.pairwise_append]
  refine ⟨(rising_pair b hb).imp ne, ((rising_pair a ha).imp ne).filter _, ?_⟩
  intro x hx y hy e
  rw [List.mem_filter] at hy
  have := hy.2
  rw [Bool.not_eq_true', List.any_eq_false] at this
  have h2 := this x hx
  unfold wayB at h2
  rw [e] at h2
  simp at h2

#print axioms sorted_one
end Go.Proofs.Ytgbkoeinfhlpoaa.F
