/- Plain laws on trees of files: what is put and what goes. -/
import Derived.Test.YtgbkoeinfhlpoaaELawKit
namespace Go.Proofs.Ytgbkoeinfhlpoaa.F
open Go.RowKit Go.Proofs.YtgbkoeinfhlpoaaW.PrintWords Go.Proofs.YtgbkoeinfhlpoaaW.PrintLast Go.Proofs.YtgbkoeinfhlpoaaW.PrintMore
set_option linter.unusedVariables false
set_option linter.unusedSimpArgs false

/-- Each path is less than every later one. -/
def Rise (l : List S33) : Prop := l.Pairwise (fun f g => ltB f.p g.p = true)
theorem lt_ne {p q : List UInt8} (h : ltB p q = true) : p ≠ q := fun e => by rw [e, ltB_irrefl] at h; cases h
theorem Rise.apart {l : List S33} (h : Rise l) : Apart l := List.Pairwise.imp (fun h => lt_ne h) h
theorem Rise.sorted {l : List S33} (h : Rise l) : SortedP l := List.Pairwise.imp ltB_asymm h
theorem Good.rise {l : List S33} (G : Good l) : Rise l := rising_pair l G.rising
theorem lt_other {p q : List UInt8} (h1 : ¬ ltB p q = true) (h2 : p ≠ q) : ltB q p = true := by
  cases h : ltB q p with
  | true => rfl
  | false => exact absurd (ltB_eq_of (by simpa using h1) h) h2

theorem filter_no {l : List S33} {p : List UInt8} (h : ∀ g ∈ l, g.p ≠ p) : l.filter (fun g => g.p != p) = l := by
  rw [List.filter_eq_self]
  intro g hg
  simpa using h g hg

theorem insF_perm {f : S33} : ∀ {l : List S33}, Rise l → (insF l f).Perm (f :: l.filter (fun g => g.p != f.p))
  | [], _ => List.Perm.refl _
  | g :: t, hd => by
    unfold insF
    by_cases h1 : g.p = f.p
    · rw [if_pos h1, List.filter_cons_of_neg (by simp [h1]), filter_no (fun x hx e => lt_ne (List.rel_of_pairwise_cons hd hx) (h1.trans e.symm))]
    · rw [if_neg h1, List.filter_cons_of_pos (by simp [h1])]
      by_cases h2 : ltB g.p f.p = true
      · rw [if_pos h2]
        exact ((insF_perm (l := t) hd.tail).cons g).trans (List.Perm.swap _ _ _)
      · rw [if_neg h2, filter_no (fun x hx e => ?_)]
        have := ltB_trans (lt_other h2 h1) (List.rel_of_pairwise_cons hd hx)
        exact lt_ne this e.symm

theorem insF_rise {f : S33} : ∀ {l : List S33}, Rise l → Rise (insF l f)
  | [], _ => List.pairwise_singleton _ _
  | g :: t, hd => by
    unfold insF
    by_cases h1 : g.p = f.p
    · rw [if_pos h1]
      refine List.Pairwise.cons (fun x hx => ?_) hd.tail
      rw [← h1]
      exact List.rel_of_pairwise_cons hd hx
    · rw [if_neg h1]
      by_cases h2 : ltB g.p f.p = true
      · rw [if_pos h2]
        refine List.Pairwise.cons (fun x hx => ?_) (insF_rise hd.tail)
        rcases insF_mem t f x hx with rfl | hx
        · exact h2
        · exact List.rel_of_pairwise_cons hd hx
      · rw [if_neg h2]
        have h3 := lt_other h2 h1
        refine List.Pairwise.cons (fun x hx => ?_) hd
        rcases List.mem_cons.mp hx with rfl | hx
        · exact h3
        · exact ltB_trans h3 (List.rel_of_pairwise_cons hd hx)

theorem filter_perm {l : List S33} {g : S33} : Apart l → g ∈ l → (g :: l.filter (fun x => x.p != g.p)).Perm l := by
  intro hd hg
  induction l with
  | nil => cases hg
  | cons x t ih =>
    rcases List.mem_cons.mp hg with rfl | hg
    · rw [List.filter_cons_of_neg (by simp), filter_no (fun y hy e => List.rel_of_pairwise_cons hd hy e.symm)]
    · have hne := List.rel_of_pairwise_cons hd hg
      rw [List.filter_cons_of_pos (by simpa using hne)]
      exact (List.Perm.swap _ _ _).trans ((ih hd.tail hg).cons x)

theorem sizeF_filter (q : S33 → Bool) : ∀ (l : List S33), sizeF (l.filter q) ≤ sizeF l
  | [] => Nat.le_refl _
  | x :: t => by
    have := sizeF_filter q t
    by_cases h : q x = true
    · rw [List.filter_cons_of_pos h]; simp only [sizeF]; omega
    · rw [List.filter_cons_of_neg h]; simp only [sizeF]; omega
theorem Good.filter {l : List S33} (G : Good l) (q : S33 → Bool) : Good (l.filter q) := by
  refine ⟨fun f hf => G.file f (List.mem_filter.mp hf).1, pair_rising _ (List.Pairwise.filter q G.rise), ?_, ?_, ?_⟩
  · rw [someWay_false]
    intro f hf g hg
    exact someWay_false.mp G.way f (List.mem_filter.mp hf).1 g (List.mem_filter.mp hg).1
  · have := List.length_filter_le q l
    have := G.len
    omega
  · have := sizeF_filter q l
    have := G.size
    omega

theorem under_self (p : List UInt8) : underB p p = false := by
  cases h : underB p p with
  | false => rfl
  | true =>
    have := ((under_iff p p).mp h).1
    omega

/-- A tree with a file is a tree. -/
theorem put_good {l : List S33} {f : S33} (G : Good l) (hf : fileE f = 0) (hw : l.any (fun g => g.p != f.p && wayB g.p f.p) = false) (hfull : fullE (insF l f) = 0) : Good (insF l f) := by
  have hz := fullE_zero.mp hfull
  refine ⟨fun x hx => ?_, pair_rising _ (insF_rise G.rise), ?_, hz.1, hz.2⟩
  · rcases insF_mem l f x hx with rfl | hx
    · exact hf
    · exact G.file x hx
  · rw [someWay_false]
    have no : ∀ g ∈ l, g.p ≠ f.p → underB g.p f.p = false ∧ underB f.p g.p = false := by
      intro g hg hne
      have := List.any_eq_false.mp hw g hg
      have h2 : wayB g.p f.p = false := by
        cases h : wayB g.p f.p with
        | false => rfl
        | true => exact absurd (by simp [hne, h]) this
      unfold wayB at h2
      simp only [Bool.or_eq_false_iff] at h2
      exact ⟨h2.1.2, h2.2⟩
    have hm : ∀ x ∈ insF l f, x = f ∨ (x ∈ l ∧ x.p ≠ f.p) := by
      intro x hx
      have := (insF_perm G.rise).mem_iff.mp hx
      rcases List.mem_cons.mp this with h | h
      · exact .inl h
      · have := List.mem_filter.mp h
        exact .inr ⟨this.1, by simpa using this.2⟩
    intro x hx y hy
    rcases hm x hx with rfl | ⟨h1, n1⟩ <;> rcases hm y hy with h2 | ⟨h2, n2⟩
    · rw [h2]; exact under_self _
    · exact (no y h2 n2).2
    · rw [h2]; exact (no x h1 n1).1
    · exact someWay_false.mp G.way x h1 y h2

theorem put_has {l : List S33} {f : S33} (hr : Rise l) : f ∈ insF l f := (insF_perm hr).mem_iff.mpr List.mem_cons_self
theorem put_keeps {l : List S33} {f g : S33} (hr : Rise l) (hg : g ∈ l) (hne : g.p ≠ f.p) : g ∈ insF l f :=
  (insF_perm hr).mem_iff.mpr (List.mem_cons_of_mem _ (List.mem_filter.mpr ⟨hg, by simpa using hne⟩))

/-- Put and gone: what is left. -/
theorem put_gone {l : List S33} {f : S33} (hr : Rise l) : (insF l f).filter (fun g => g.p != f.p) = l.filter (fun g => g.p != f.p) := by
  refine sorted_one (l := l.filter (fun g => g.p != f.p)) (List.Pairwise.filter _ hr.apart) ?_ (List.Perm.refl _) (List.Pairwise.filter _ (insF_rise hr).sorted) (List.Pairwise.filter _ hr.sorted)
  have := (insF_perm (f := f) hr).filter (fun g => g.p != f.p)
  rw [List.filter_cons_of_neg (by simp), List.filter_filter] at this
  simpa using this

/-- What stood there, put again. -/
theorem put_back {l : List S33} {g : S33} (hr : Rise l) (hg : g ∈ l) : insF (l.filter (fun x => x.p != g.p)) g = l := by
  refine sorted_one (l := l) hr.apart ?_ (List.Perm.refl _) (insF_rise (List.Pairwise.filter _ hr)).sorted hr.sorted
  refine (insF_perm (List.Pairwise.filter _ hr)).trans ?_
  rw [List.filter_filter]
  simp only [Bool.and_self]
  exact filter_perm hr.apart hg

theorem put_len {l : List S33} {f : S33} (hr : Rise l) : (insF l f).length = (l.filter (fun g => g.p != f.p)).length + 1 := by
  rw [(insF_perm hr).length_eq, List.length_cons]

theorem get_there {l : List S33} {p : List UInt8} (h : (getE l p).2 = true) : ∃ g ∈ l, g.p = p ∧ getE l p = (g.f1, true) := by
  unfold getE at h ⊢
  cases hf : l.find? (fun f => f.p == p) with
  | none => rw [hf] at h; cases h
  | some g =>
    have h1 := List.mem_of_find?_eq_some hf
    have h2 := List.find?_some hf
    exact ⟨g, h1, by simpa using h2, rfl⟩
theorem get_absent {l : List S33} {p : List UInt8} (h : (getE l p).2 = false) : ∀ g ∈ l, g.p ≠ p := by
  unfold getE at h
  cases hf : l.find? (fun f => f.p == p) with
  | none =>
    intro g hg e
    have := List.find?_eq_none.mp hf g hg
    simp [e] at this
  | some g => rw [hf] at h; cases h

#print axioms put_back
#print axioms put_good
end Go.Proofs.Ytgbkoeinfhlpoaa.F
