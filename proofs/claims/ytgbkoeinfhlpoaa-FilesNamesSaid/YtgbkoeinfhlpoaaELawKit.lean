/- Plain laws on trees of files: what Lay, Put, Del, Get come to, with no program in sight. -/
import Derived.Test.YtgbkoeinfhlpoaaELay
import Derived.Test.YtgbkoeinfhlpoaaEPut
import Derived.Test.YtgbkoeinfhlpoaaEDel
import Derived.Test.YtgbkoeinfhlpoaaEGet
import Derived.Test.YtgbkoeinfhlpoaaEOpen
namespace Go.Proofs.Ytgbkoeinfhlpoaa.F
open Go.RowKit Go.Proofs.YtgbkoeinfhlpoaaW.PrintWords Go.Proofs.YtgbkoeinfhlpoaaW.PrintLast Go.Proofs.YtgbkoeinfhlpoaaW.PrintMore
set_option linter.unusedVariables false
set_option linter.unusedSimpArgs false

/-- No path stands twice. -/
def Apart (l : List S33) : Prop := l.Pairwise (fun f g => f.p ≠ g.p)

theorem wayB_self (p : List UInt8) : wayB p p = true := by simp [wayB]
theorem wayB_comm (p q : List UInt8) : wayB p q = wayB q p := by
  unfold wayB
  rw [show (p == q) = (q == p) by rw [Bool.eq_iff_iff]; simp only [beq_iff_eq]; exact eq_comm, Bool.or_assoc, Bool.or_assoc, Bool.or_comm (underB p q)]

theorem getE_mem {l : List S33} (hd : Apart l) {f : S33} (hf : f ∈ l) : getE l f.p = (f.f1, true) := by
  unfold getE
  have h : l.find? (fun g => g.p == f.p) = some f := by
    induction l with
    | nil => cases hf
    | cons x t ih =>
      rcases List.mem_cons.mp hf with rfl | hf
      · simp
      · have hne := List.rel_of_pairwise_cons hd hf
        rw [List.find?_cons_of_neg (by simpa using hne)]
        exact ih hd.tail hf
  rw [h]
theorem getE_not {l : List S33} {p : List UInt8} (h : ∀ f ∈ l, f.p ≠ p) : getE l p = (⟨#[]⟩, false) := by
  unfold getE
  have : l.find? (fun g => g.p == p) = none := by
    rw [List.find?_eq_none]
    intro x hx
    simpa using h x hx
  rw [this]

theorem someWay_false {l : List S33} : someWay l = false ↔ ∀ f ∈ l, ∀ g ∈ l, underB f.p g.p = false := by
  unfold someWay
  simp [List.any_eq_false]

theorem sizeF_append : ∀ (a b : List S33), sizeF (a ++ b) = sizeF a + sizeF b
  | [], b => by simp [sizeF]
  | x :: t, b => by simp [sizeF, sizeF_append t b, Nat.add_assoc]
theorem sizeF_perm {a b : List S33} (h : a.Perm b) : sizeF a = sizeF b := by
  induction h with
  | nil => rfl
  | cons x _ ih => simp [sizeF, ih]
  | swap x y l => simp [sizeF]; omega
  | trans _ _ h1 h2 => exact h1.trans h2
theorem fullE_perm {a b : List S33} (h : a.Perm b) : fullE a = fullE b := by
  unfold fullE
  rw [sizeF_perm h, h.length_eq]
theorem fullE_zero {l : List S33} : fullE l = 0 ↔ l.length ≤ 64 ∧ sizeF l ≤ 16384 := by
  unfold fullE
  split <;> simp_all

theorem firstE_of {l : List S33} (h : ∀ f ∈ l, fileE f = 0) : firstE l = 0 := by
  induction l with
  | nil => rfl
  | cons x t ih =>
    unfold firstE
    rw [if_pos (h x List.mem_cons_self)]
    exact ih (fun f hf => h f (List.mem_cons_of_mem _ hf))
theorem check_of {l : List S33} (G : Good l) : checkE l = 0 := by
  unfold checkE
  rw [if_pos (firstE_of G.file), if_pos G.rising, if_neg (by rw [G.way]; simp), fullE_zero]
  exact ⟨G.len, G.size⟩

theorem Good.apart {l : List S33} (G : Good l) : Apart l := good_apart G
theorem Good.sorted {l : List S33} (G : Good l) : SortedP l := (rising_pair l G.rising).imp ltB_asymm
theorem Good.nil : Good [] := ⟨by simp, rfl, rfl, by simp, by simp [sizeF]⟩
theorem Apart.perm {a b : List S33} (h : Apart a) (hp : a.Perm b) : Apart b := List.Pairwise.perm h hp (fun e => e.symm)
theorem rising_of {l : List S33} (s : SortedP l) (d : Apart l) : risingB l = true := by
  refine pair_rising l ?_
  have := s.and d
  refine this.imp ?_
  rintro f g ⟨h1, h2⟩
  cases h : ltB f.p g.p with
  | true => rfl
  | false => exact absurd (ltB_eq_of h h1) h2

/-- The tree that a list is, sorted. -/
theorem sort_id {l : List S33} (G : Good l) : l.mergeSort leF = l :=
  sorted_one G.apart (List.mergeSort_perm _ _) (List.Perm.refl _) (merge_sorted _) G.sorted

theorem over_nil (l : List S33) : overF l [] = l := by simp [overF]
theorem nil_over (l : List S33) : overF [] l = l := by simp [overF]
theorem over_self (l : List S33) : overF l l = l := by
  unfold overF
  have : l.filter (fun f => !l.any (fun g => wayB f.p g.p)) = [] := by
    rw [List.filter_eq_nil_iff]
    intro f hf
    have : l.any (fun g => wayB f.p g.p) = true := List.any_eq_true.mpr ⟨f, hf, wayB_self _⟩
    simp [this]
  rw [this, List.append_nil]

theorem lay_ok {a b : List S33} (Ga : Good a) (Gb : Good b) (h : fullE (overF a b) = 0) : layE a b = ((overF a b).mergeSort leF, 0) := by
  unfold layE; rw [if_pos ⟨check_of Ga, check_of Gb⟩, if_pos h]
theorem lay_full {a b : List S33} (Ga : Good a) (Gb : Good b) (h : fullE (overF a b) ≠ 0) : layE a b = ([], 3) := by
  unfold layE; rw [if_pos ⟨check_of Ga, check_of Gb⟩, if_neg h]
theorem full_good {l : List S33} (G : Good l) : fullE l = 0 := fullE_zero.mpr ⟨G.len, G.size⟩
theorem lay_nil {l : List S33} (G : Good l) : layE l [] = (l, 0) := by rw [lay_ok G Good.nil (by rw [over_nil]; exact full_good G), over_nil, sort_id G]
theorem nil_lay {l : List S33} (G : Good l) : layE [] l = (l, 0) := by rw [lay_ok Good.nil G (by rw [nil_over]; exact full_good G), nil_over, sort_id G]
theorem lay_self {l : List S33} (G : Good l) : layE l l = (l, 0) := by rw [lay_ok G G (by rw [over_self]; exact full_good G), over_self, sort_id G]

theorem over_mem {a b : List S33} {f : S33} : f ∈ overF a b ↔ f ∈ b ∨ (f ∈ a ∧ ∀ g ∈ b, wayB f.p g.p = false) := by
  unfold overF
  rw [List.mem_append, List.mem_filter, Bool.not_eq_true', List.any_eq_false]
  simp

theorem lay_good {a b : List S33} (Ga : Good a) (Gb : Good b) (h : fullE (overF a b) = 0) : Good ((overF a b).mergeSort leF) := by
  have hp := List.mergeSort_perm (overF a b) leF
  have hd : Apart ((overF a b).mergeSort leF) := Apart.perm (over_apart Ga.rising Gb.rising) hp.symm
  have hf := fullE_zero.mp ((fullE_perm hp).trans h)
  refine ⟨fun f hf => ?_, rising_of (merge_sorted _) hd, ?_, hf.1, hf.2⟩
  · rcases over_mem.mp (hp.mem_iff.mp hf) with h | ⟨h, _⟩
    · exact Gb.file f h
    · exact Ga.file f h
  · rw [someWay_false]
    intro f hf g hg
    have wf := someWay_false.mp Ga.way
    have wg := someWay_false.mp Gb.way
    have no : ∀ {p q : List UInt8}, wayB p q = false → underB p q = false ∧ underB q p = false := by
      intro p q h
      unfold wayB at h
      simp only [Bool.or_eq_false_iff] at h
      exact ⟨h.1.2, h.2⟩
    rcases over_mem.mp (hp.mem_iff.mp hf) with h1 | ⟨h1, n1⟩ <;> rcases over_mem.mp (hp.mem_iff.mp hg) with h2 | ⟨h2, n2⟩
    · exact wg f h1 g h2
    · exact (no (n2 f h1)).2
    · exact (no (n1 g h2)).1
    · exact wf f h1 g h2

/-- Laid twice is laid once. -/
theorem lay_twice {a b : List S33} (Ga : Good a) (Gb : Good b) (h : fullE (overF a b) = 0) : layE ((overF a b).mergeSort leF) b = ((overF a b).mergeSort leF, 0) := by
  have hp := List.mergeSort_perm (overF a b) leF
  have GL := lay_good Ga Gb h
  have hover : (overF ((overF a b).mergeSort leF) b).Perm (overF a b) := by
    have e1 : ((overF a b).mergeSort leF).filter (fun f => !b.any (fun g => wayB f.p g.p)) |>.Perm ((overF a b).filter (fun f => !b.any (fun g => wayB f.p g.p))) := hp.filter _
    have e2 : (overF a b).filter (fun f => !b.any (fun g => wayB f.p g.p)) = a.filter (fun f => !b.any (fun g => wayB f.p g.p)) := by
      unfold overF
      rw [List.filter_append, List.filter_filter]
      have : b.filter (fun f => !b.any (fun g => wayB f.p g.p)) = [] := by
        rw [List.filter_eq_nil_iff]
        intro f hf
        have : b.any (fun g => wayB f.p g.p) = true := List.any_eq_true.mpr ⟨f, hf, wayB_self _⟩
        simp [this]
      rw [this, List.nil_append]
      simp
    rw [e2] at e1
    exact List.Perm.append (List.Perm.refl b) e1
  have hfull := (fullE_perm hover).trans h
  rw [lay_ok GL Gb hfull]
  congr 1
  exact sorted_one (over_apart Ga.rising Gb.rising) ((List.mergeSort_perm _ _).trans hover) hp (merge_sorted _) (merge_sorted _)

#print axioms lay_twice
end Go.Proofs.Ytgbkoeinfhlpoaa.F
