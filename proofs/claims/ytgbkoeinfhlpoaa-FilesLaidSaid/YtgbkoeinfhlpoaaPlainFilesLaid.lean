/- FilesLaid: the plain law, and the law as the row asks it. -/
import Derived.Test.YtgbkoeinfhlpoaaFx3
import Derived.Test.YtgbkoeinfhlpoaaEWorks
namespace Go.Proofs.Ytgbkoeinfhlpoaa.F
open Go.RowKit Go.Proofs.YtgbkoeinfhlpoaaW.PrintWords Go.Proofs.YtgbkoeinfhlpoaaW.PrintLast Go.Proofs.YtgbkoeinfhlpoaaW.PrintMore
set_option linter.unusedVariables false
set_option linter.unusedSimpArgs false

section
variable (a b L : List S33) (hl : L.length ≤ 4611686018427387903)
include hl
theorem laid_l1 (hm : ∀ f ∈ L, f ∈ b ∨ (f ∈ a ∧ ∀ g ∈ b, g.p ≠ f.p)) (da : Apart a) (db : Apart b) : ∀ (k j : Nat), L.length - j < k → bastionlaw17_FilesLaid.l1 k a b L (j : Int) = some true
  | 0, j, h => by omega
  | k + 1, j, h => by
    unfold bastionlaw17_FilesLaid.l1
    by_cases h1 : (j : Int) < (L.length : Int)
    · have hj : j < L.length := by omega
      have hin : L.getD j z33 ∈ L := by simp [hj]
      rw [if_pos h1, if_pos (by omega), getD_rd, wrap_succ (by omega)]
      have ih := laid_l1 hm da db k (j + 1) (by omega)
      generalize L.getD j z33 = f at hin ⊢
      rw [ih]
      unfold files_Get.f
      change (some (getE b f.p)).bind _ = _
      rw [Option.bind_some]
      change (some (getE a f.p)).bind _ = _
      rw [Option.bind_some]
      rcases hm f hin with h2 | ⟨h2, h3⟩
      · rw [getE_mem db h2]
        simp
      · rw [getE_mem da h2, getE_not h3]
        simp
    · rw [if_neg h1]
theorem laid_l0 (hb : b.length ≤ 4611686018427387903) (hm : ∀ f ∈ L, f ∈ b ∨ (f ∈ a ∧ ∀ g ∈ b, g.p ≠ f.p)) (hbL : ∀ f ∈ b, f ∈ L) (da : Apart a) (db : Apart b) (dL : Apart L) : ∀ (k j : Nat), b.length - j + L.length + 1 < k → bastionlaw17_FilesLaid.l0 k a b L (j : Int) = some true
  | 0, j, h => by omega
  | k + 1, j, h => by
    unfold bastionlaw17_FilesLaid.l0
    by_cases h1 : (j : Int) < (b.length : Int)
    · have hj : j < b.length := by omega
      have hin : b.getD j z33 ∈ b := by simp [hj]
      rw [if_pos h1, if_pos (by omega), getD_rd, wrap_succ (by omega)]
      have ih := laid_l0 hb hm hbL da db dL k (j + 1) (by omega)
      generalize b.getD j z33 = f at hin ⊢
      rw [ih]
      unfold files_Get.f
      change (some (getE L f.p)).bind _ = _
      rw [Option.bind_some, getE_mem dL (hbL f hin)]
      simp
    · rw [if_neg h1]
      exact laid_l1 a b L hl hm da db k 0 (by omega)
end

theorem FilesLaid_pure (a b : List S33) (ya : Light a) (yb : Light b) : ∃ k, bastionlaw17_FilesLaid.f k a b = some true := by
  have la : a.length ≤ 4611686018427387000 := by have := ya.len; omega
  have lb : b.length ≤ 4611686018427387000 := by have := yb.len; omega
  refine ⟨3 * (a.length + b.length) + 10, ?_⟩
  unfold bastionlaw17_FilesLaid.f
  rw [works_true, Option.bind_some, if_pos rfl]
  obtain ⟨ta, hta⟩ := large_some ya (3 * (a.length + b.length) + 10) (by omega)
  obtain ⟨tb, htb⟩ := large_some yb (3 * (a.length + b.length) + 10) (by omega)
  rw [hta, Option.bind_some]
  by_cases h1 : ta = true
  · rw [if_pos h1]; rfl
  rw [if_neg h1, htb, Option.bind_some]
  by_cases h2 : tb = true
  · rw [if_pos h2]; rfl
  rw [if_neg h2]
  unfold files_Check.f
  rw [Option.bind_some]
  by_cases h3 : ¬ checkE a = 0
  · rw [if_neg h3]; rfl
  rw [Decidable.not_not] at h3
  rw [if_pos h3, Option.bind_some]
  by_cases h4 : ¬ checkE b = 0
  · rw [if_neg h4]; rfl
  rw [Decidable.not_not] at h4
  rw [if_pos h4]
  have Ga := good_of h3
  have Gb := good_of h4
  unfold files_Lay.f
  rw [lay_nil Ga, nil_lay Ga, lay_self Ga]
  simp only [Option.bind_some]
  rw [if_pos trivial, if_pos trivial, if_pos trivial, same_refl a (by omega) _ (by omega)]
  simp only [Option.bind_some]
  rw [if_pos trivial, if_pos trivial, if_pos trivial]
  by_cases h5 : fullE (overF a b) = 0
  · have GL := lay_good Ga Gb h5
    have hp := List.mergeSort_perm (overF a b) leF
    have hlen : ((overF a b).mergeSort leF).length ≤ a.length + b.length := by
      rw [hp.length_eq]
      unfold overF
      rw [List.length_append]
      have := List.length_filter_le (fun f => !b.any (fun g => wayB f.p g.p)) a
      omega
    rw [lay_ok Ga Gb h5]
    simp only
    rw [if_pos trivial, lay_twice Ga Gb h5]
    simp only [Option.bind_some]
    rw [if_pos trivial, same_refl _ (by have := GL.len; omega) _ (by omega)]
    simp only [Option.bind_some]
    rw [if_pos trivial, check_of GL, if_pos rfl]
    have := laid_l0 a b ((overF a b).mergeSort leF) (by have := GL.len; omega) (by omega) (fun f hf => by
      rcases over_mem.mp (hp.mem_iff.mp hf) with h | ⟨h, n⟩
      · exact .inl h
      · refine .inr ⟨h, fun g hg e => ?_⟩
        have := n g hg
        rw [e, wayB_self] at this
        cases this) (fun f hf => hp.mem_iff.mpr (over_mem.mpr (.inl hf))) Ga.apart Gb.apart GL.apart (3 * (a.length + b.length) + 10) 0 (by omega)
    exact this
  · rw [lay_full Ga Gb h5]
    simp

theorem FilesLaid_law (A0 : Option Addr) (c0 : Nat) (l0 : List S33) (A1 : Option Addr) (c1 : Nat) (l1 : List S33) (w : World) (hr0 : Kd.C k33 w A0 l0.length l0) (hc0 : l0.length ≤ c0) (y0 : Light l0) (hr1 : Kd.C k33 w A1 l1.length l1) (hc1 : l1.length ≤ c1) (y1 : Light l1) :
    Calls Try.prog 3 #[.slice A0 l0.length c0, .slice A1 l1.length c1] w fun e w' => e = .returned (.bool true) ∧ Below w.heap.size w w' := by
  obtain ⟨k, h⟩ := FilesLaid_pure l0 l1 y0 y1
  exact bastionlaw17_FilesLaid.calls k A0 c0 l0 A1 c1 l1 true w hr0 hc0 hr1 hc1 h

#print axioms FilesLaid_law
end Go.Proofs.Ytgbkoeinfhlpoaa.F
