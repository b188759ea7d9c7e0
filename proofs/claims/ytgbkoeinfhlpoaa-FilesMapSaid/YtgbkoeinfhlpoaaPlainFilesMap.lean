/- FilesMap: the plain law, and the law as the row asks it. -/
import Derived.Test.YtgbkoeinfhlpoaaFx9
import Derived.Test.YtgbkoeinfhlpoaaEWorks
import Derived.Test.YtgbkoeinfhlpoaaELawPut
namespace Go.Proofs.Ytgbkoeinfhlpoaa.F
open Go.RowKit Go.Proofs.YtgbkoeinfhlpoaaW.PrintWords Go.Proofs.YtgbkoeinfhlpoaaW.PrintLast Go.Proofs.YtgbkoeinfhlpoaaW.PrintMore
set_option linter.unusedVariables false
set_option linter.unusedSimpArgs false

theorem file_same {f g : S33} (hp : f.p = g.p) (hd : f.f1.size = g.f1.size) : fileE f = fileE g := by
  unfold fileE
  rw [hp, hd]

section
variable {l : List S33} {q data : ByteArray} (G : Good l) (hf : fileE ⟨q, data⟩ = 0) (hw : l.any (fun g => g.p != q.toList && wayB g.p q.toList) = false) (hfull : fullE (insF l ⟨q, data⟩) = 0)
include G hf hw hfull
theorem map_end (k : Nat) (hk : l.length < k) (j : Nat) (hj : l.length ≤ j) :
    bastionlaw17_FilesMap.l0 (k + 1) l q (getE l q.toList).1 (getE l q.toList).2 (insF l ⟨q, data⟩) (j : Int) = some true := by
  have hlen := G.len
  have GP : Good (insF l ⟨q, data⟩) := put_good (f := ⟨q, data⟩) G hf hw hfull
  have hhas : (insF l ⟨q, data⟩).any (fun g => g.p == q.toList) = true := List.any_eq_true.mpr ⟨⟨q, data⟩, put_has G.rise, by simp [S33.p]⟩
  have hdel : delE (insF l ⟨q, data⟩) q.toList = (l.filter (fun g => g.p != q.toList), 0) := by
    unfold delE
    rw [if_pos (check_of GP), if_pos hhas]
    have := put_gone (f := ⟨q, data⟩) G.rise
    exact congrArg (fun x => (x, 0)) this
  have GD : Good (l.filter (fun g => g.p != q.toList)) := G.filter _
  have hpl : (insF l ⟨q, data⟩).length = (l.filter (fun g => g.p != q.toList)).length + 1 := put_len (f := ⟨q, data⟩) G.rise
  have hnone : getE (l.filter (fun g => g.p != q.toList)) q.toList = (⟨#[]⟩, false) := getE_not (fun g hg => by
    have := (List.mem_filter.mp hg).2
    simpa using this)
  have hwr : wrap64 (((insF l ⟨q, data⟩).length : Int) - 1) = ((l.filter (fun g => g.p != q.toList)).length : Int) := by
    have := GD.len
    rw [hpl]
    unfold wrap64
    omega
  unfold bastionlaw17_FilesMap.l0
  rw [if_neg (by omega)]
  unfold files_Del.f files_Get.f files_Check.f files_Put.f
  rw [hdel]
  simp only [Option.bind_some]
  rw [hnone, if_pos trivial]
  simp only [Bool.false_eq_true, if_false]
  rw [check_of GD, if_pos rfl, hwr]
  cases hb : (getE l q.toList).2 with
  | true =>
    obtain ⟨g, hg, hgp, hge⟩ := get_there hb
    rw [if_pos rfl, if_pos rfl, hge]
    have hgq : (⟨q, g.f1⟩ : S33) = g := by
      have : g.f0 = q := bytes_ext hgp
      rw [← this]
    have hback : insF (l.filter (fun x => x.p != q.toList)) ⟨q, g.f1⟩ = l := by
      have := put_back G.rise hg
      rw [hgp] at this
      rw [hgq]
      exact this
    have hput : putE (l.filter (fun x => x.p != q.toList)) ⟨q, g.f1⟩ = (l, 0) := by
      unfold putE
      rw [if_pos (check_of GD), if_pos (by rw [hgq]; exact G.file g hg), if_neg, hback, if_pos (full_good G)]
      rw [List.any_eq_true]
      rintro ⟨x, hx, hxw⟩
      have := List.any_eq_false.mp hw x (List.mem_filter.mp hx).1
      exact this hxw
    rw [hput]
    simp only [Option.bind_some]
    rw [if_pos trivial, same_refl l (by omega) k hk]
    simp only [Option.bind_some]
    have hl2 : (insF l ⟨q, data⟩).length = l.length := by
      have := (filter_perm G.apart hg).length_eq
      rw [hgp, List.length_cons] at this
      omega
    rw [if_pos trivial, hl2]
    simp
  | false =>
    have hno := get_absent hb
    have hfl : l.filter (fun g => g.p != q.toList) = l := filter_no hno
    rw [if_neg (by simp), hfl, same_refl l (by omega) k hk]
    simp only [Option.bind_some]
    rw [if_pos trivial, if_pos trivial, hpl, hfl, wrap_succ (by omega)]
    simp
theorem map_go : ∀ (k j : Nat), (l.length - j) + l.length + 1 < k →
    bastionlaw17_FilesMap.l0 k l q (getE l q.toList).1 (getE l q.toList).2 (insF l ⟨q, data⟩) (j : Int) = some true
  | 0, j, h => by omega
  | k + 1, j, h => by
    have hlen := G.len
    by_cases h1 : j < l.length
    · have GP : Good (insF l ⟨q, data⟩) := put_good (f := ⟨q, data⟩) G hf hw hfull
      have hin : l.getD j z33 ∈ l := by simp [h1]
      have ih := map_go k (j + 1) (by omega)
      unfold bastionlaw17_FilesMap.l0
      rw [if_pos (by omega), if_pos (by omega), getD_rd, wrap_succ (by omega), ih]
      generalize l.getD j z33 = g at hin ⊢
      unfold files_Get.f
      change (some (getE (insF l ⟨q, data⟩) g.p)).bind _ = _
      rw [Option.bind_some]
      by_cases h2 : g.f0.toList = q.toList
      · rw [if_pos h2]
      · rw [if_neg h2, getE_mem GP.apart (put_keeps (f := ⟨q, data⟩) G.rise hin h2)]
        simp
    · exact map_end G hf hw hfull k (by omega) j (by omega)
end

theorem FilesMap_pure (l : List S33) (q data : ByteArray) (y : Light l) : ∃ k, bastionlaw17_FilesMap.f k l q data = some true := by
  have hl : l.length ≤ 4611686018427387000 := by have := y.len; omega
  refine ⟨3 * l.length + 10, ?_⟩
  unfold bastionlaw17_FilesMap.f
  rw [works_true, Option.bind_some, if_pos rfl]
  obtain ⟨t, ht⟩ := large_some y (3 * l.length + 10) (by omega)
  rw [ht, Option.bind_some]
  by_cases h1 : t = true
  · rw [if_pos h1]; rfl
  rw [if_neg h1]
  by_cases h2 : (data.size : Int) > 5000
  · rw [if_pos h2]; rfl
  rw [if_neg h2]
  unfold files_Check.f
  rw [Option.bind_some]
  by_cases h3 : ¬ checkE l = 0
  · rw [if_neg h3]; rfl
  rw [Decidable.not_not] at h3
  rw [if_pos h3]
  have G := good_of h3
  unfold files_Get.f files_Put.f
  simp only [Option.bind_some]
  by_cases h4 : ¬ fileE ⟨q, data⟩ = 0
  · have : putE l ⟨q, data⟩ = ([], fileE ⟨q, data⟩) := by unfold putE; rw [if_pos h3, if_neg h4]
    rw [this]
    rcases file_cases ⟨q, data⟩ with h | h | h
    · exact absurd h h4
    · rw [h]; simp
    · rw [h]; simp
  rw [Decidable.not_not] at h4
  cases h5 : l.any (fun g => g.p != q.toList && wayB g.p q.toList) with
  | true =>
    have : putE l ⟨q, data⟩ = ([], 50) := by
      unfold putE; rw [if_pos h3, if_pos h4]
      exact if_pos h5
    rw [this]
    simp
  | false =>
    by_cases h6 : ¬ fullE (insF l ⟨q, data⟩) = 0
    · have : putE l ⟨q, data⟩ = ([], 3) := by
        unfold putE; rw [if_pos h3, if_pos h4]
        rw [if_neg (by intro h; rw [show l.any (fun g => g.p != (⟨q, data⟩ : S33).p && wayB g.p (⟨q, data⟩ : S33).p) = false from h5] at h; cases h), if_neg h6]
      rw [this]
      simp
    rw [Decidable.not_not] at h6
    have : putE l ⟨q, data⟩ = (insF l ⟨q, data⟩, 0) := by
      unfold putE; rw [if_pos h3, if_pos h4]
      rw [if_neg (by intro h; rw [show l.any (fun g => g.p != (⟨q, data⟩ : S33).p && wayB g.p (⟨q, data⟩ : S33).p) = false from h5] at h; cases h), if_pos h6]
    rw [this]
    simp only [Option.bind_some]
    have GP : Good (insF l ⟨q, data⟩) := put_good (f := ⟨q, data⟩) G h4 h5 h6
    have hget : getE (insF l ⟨q, data⟩) q.toList = (data, true) := getE_mem (f := ⟨q, data⟩) GP.apart (put_has G.rise)
    rw [if_pos trivial, hget]
    simp only
    rw [if_pos trivial, if_pos trivial, check_of GP, if_pos rfl]
    exact map_go G h4 h5 h6 _ 0 (by omega)

theorem FilesMap_law (A0 : Option Addr) (c0 : Nat) (l0 : List S33) (a1 a2 : ByteArray) (w : World) (hr0 : Kd.C k33 w A0 l0.length l0) (hc0 : l0.length ≤ c0) (y0 : Light l0) (w1 : a1.size ≤ 140737488351232) (w2 : a2.size ≤ 140737488351232) :
    Calls Try.prog 6 #[.slice A0 l0.length c0, .string a1, .string a2] w fun e w' => e = .returned (.bool true) ∧ Below w.heap.size w w' := by
  obtain ⟨k, h⟩ := FilesMap_pure l0 a1 a2 y0
  exact bastionlaw17_FilesMap.calls k A0 c0 l0 a1 a2 true w hr0 hc0 h

#print axioms FilesMap_law
end Go.Proofs.Ytgbkoeinfhlpoaa.F
