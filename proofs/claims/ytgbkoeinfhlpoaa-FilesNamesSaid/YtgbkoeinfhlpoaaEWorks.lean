/- The examples of layer 17, reckoned; the loops that the laws of layer 17 share. -/
import Derived.Test.YtgbkoeinfhlpoaaFx2
import Derived.Test.YtgbkoeinfhlpoaaELawKit
namespace Go.Proofs.Ytgbkoeinfhlpoaa.F
open Go.RowKit Go.Proofs.YtgbkoeinfhlpoaaW.PrintWords Go.Proofs.YtgbkoeinfhlpoaaW.PrintLast Go.Proofs.YtgbkoeinfhlpoaaW.PrintMore
set_option linter.unusedVariables false
set_option linter.unusedSimpArgs false

set_option maxRecDepth 100000 in
theorem works_true : bastionlaw17_works.f = some true := by
  have e1 : files_Put.f [(⟨(⟨#[97, 47, 98]⟩ : ByteArray), (⟨#[120]⟩ : ByteArray)⟩ : S33)] ⟨#[97]⟩ ⟨#[121]⟩ = some ([], 50) := by
    unfold files_Put.f
    rw [show putE [(⟨(⟨#[97, 47, 98]⟩ : ByteArray), (⟨#[120]⟩ : ByteArray)⟩ : S33)] ⟨⟨#[97]⟩, ⟨#[121]⟩⟩ = ([], 50) by
      unfold putE
      rw [if_pos (by simp only [checkE, firstE, fileE, fullE, sizeF, risingB, someWay, S33.p, Lib.toList_data, List.any_cons, List.any_nil]; decide +kernel), if_pos (by simp only [fileE, S33.p, Lib.toList_data]; decide +kernel), if_pos (by simp only [S33.p, Lib.toList_data, List.any_cons, List.any_nil]; decide +kernel)]]
  have e2 : files_Put.f [(⟨(⟨#[97, 47, 98]⟩ : ByteArray), (⟨#[120]⟩ : ByteArray)⟩ : S33)] ⟨#[97, 47, 98, 47, 99]⟩ ⟨#[121]⟩ = some ([], 50) := by
    unfold files_Put.f
    rw [show putE [(⟨(⟨#[97, 47, 98]⟩ : ByteArray), (⟨#[120]⟩ : ByteArray)⟩ : S33)] ⟨⟨#[97, 47, 98, 47, 99]⟩, ⟨#[121]⟩⟩ = ([], 50) by
      unfold putE
      rw [if_pos (by simp only [checkE, firstE, fileE, fullE, sizeF, risingB, someWay, S33.p, Lib.toList_data, List.any_cons, List.any_nil]; decide +kernel), if_pos (by simp only [fileE, S33.p, Lib.toList_data]; decide +kernel), if_pos (by simp only [S33.p, Lib.toList_data, List.any_cons, List.any_nil]; decide +kernel)]]
  have e3 : files_Put.f [(⟨(⟨#[97, 47, 98]⟩ : ByteArray), (⟨#[120]⟩ : ByteArray)⟩ : S33)] ⟨#[97, 47, 97]⟩ ⟨#[121]⟩ = some ([⟨⟨#[97, 47, 97]⟩, ⟨#[121]⟩⟩, ⟨⟨#[97, 47, 98]⟩, ⟨#[120]⟩⟩], 0) := by
    have hi : insF [(⟨(⟨#[97, 47, 98]⟩ : ByteArray), (⟨#[120]⟩ : ByteArray)⟩ : S33)] ⟨⟨#[97, 47, 97]⟩, ⟨#[121]⟩⟩ = [⟨⟨#[97, 47, 97]⟩, ⟨#[121]⟩⟩, ⟨⟨#[97, 47, 98]⟩, ⟨#[120]⟩⟩] := by
      unfold insF
      rw [if_neg (by simp only [S33.p, Lib.toList_data]; decide +kernel), if_neg (by simp only [S33.p, Lib.toList_data]; decide +kernel)]
    unfold files_Put.f
    rw [show putE [(⟨(⟨#[97, 47, 98]⟩ : ByteArray), (⟨#[120]⟩ : ByteArray)⟩ : S33)] ⟨⟨#[97, 47, 97]⟩, ⟨#[121]⟩⟩ = ([⟨⟨#[97, 47, 97]⟩, ⟨#[121]⟩⟩, ⟨⟨#[97, 47, 98]⟩, ⟨#[120]⟩⟩], 0) by
      unfold putE
      rw [if_pos (by simp only [checkE, firstE, fileE, fullE, sizeF, risingB, someWay, S33.p, Lib.toList_data, List.any_cons, List.any_nil]; decide +kernel), if_pos (by simp only [fileE, S33.p, Lib.toList_data]; decide +kernel), if_neg (by simp only [S33.p, Lib.toList_data, List.any_cons, List.any_nil]; decide +kernel), hi, if_pos (by simp only [fullE, sizeF]; decide +kernel)]]
  have e4 : files_Lay.f [(⟨(⟨#[97, 47, 98]⟩ : ByteArray), (⟨#[120]⟩ : ByteArray)⟩ : S33), (⟨(⟨#[99]⟩ : ByteArray), (⟨#[122]⟩ : ByteArray)⟩ : S33)] [(⟨(⟨#[97]⟩ : ByteArray), (⟨#[121]⟩ : ByteArray)⟩ : S33)] = some ([⟨⟨#[97]⟩, ⟨#[121]⟩⟩, ⟨⟨#[99]⟩, ⟨#[122]⟩⟩], 0) := by
    have hk : ∀ f : S33, f.p = f.f0.data.toList := fun f => Lib.toList_data _
    have ha : checkE [(⟨(⟨#[97, 47, 98]⟩ : ByteArray), (⟨#[120]⟩ : ByteArray)⟩ : S33), (⟨(⟨#[99]⟩ : ByteArray), (⟨#[122]⟩ : ByteArray)⟩ : S33)] = 0 := by
      simp only [checkE, firstE, fileE, fullE, sizeF, risingB, someWay, S33.p, Lib.toList_data, List.any_cons, List.any_nil]; decide +kernel
    have hb : checkE [(⟨(⟨#[97]⟩ : ByteArray), (⟨#[121]⟩ : ByteArray)⟩ : S33)] = 0 := by
      simp only [checkE, firstE, fileE, fullE, sizeF, risingB, someWay, S33.p, Lib.toList_data, List.any_cons, List.any_nil]; decide +kernel
    have ho : overF [(⟨(⟨#[97, 47, 98]⟩ : ByteArray), (⟨#[120]⟩ : ByteArray)⟩ : S33), (⟨(⟨#[99]⟩ : ByteArray), (⟨#[122]⟩ : ByteArray)⟩ : S33)] [(⟨(⟨#[97]⟩ : ByteArray), (⟨#[121]⟩ : ByteArray)⟩ : S33)] = [⟨⟨#[97]⟩, ⟨#[121]⟩⟩, ⟨⟨#[99]⟩, ⟨#[122]⟩⟩] := by
      unfold overF
      rw [List.filter_cons_of_neg (by simp only [S33.p, Lib.toList_data, List.any_cons, List.any_nil]; decide +kernel), List.filter_cons_of_pos (by simp only [S33.p, Lib.toList_data, List.any_cons, List.any_nil]; decide +kernel)]
      rfl
    have hs : SortedP [(⟨⟨#[97]⟩, ⟨#[121]⟩⟩ : S33), ⟨⟨#[99]⟩, ⟨#[122]⟩⟩] := by
      unfold SortedP
      refine List.Pairwise.cons (fun x hx => ?_) (List.pairwise_singleton _ _)
      obtain rfl := List.mem_singleton.mp hx
      simp only [S33.p, Lib.toList_data]
      decide +kernel
    have hd : Apart [(⟨⟨#[97]⟩, ⟨#[121]⟩⟩ : S33), ⟨⟨#[99]⟩, ⟨#[122]⟩⟩] := by
      unfold Apart
      refine List.Pairwise.cons (fun x hx => ?_) (List.pairwise_singleton _ _)
      obtain rfl := List.mem_singleton.mp hx
      simp only [S33.p, Lib.toList_data]
      decide +kernel
    unfold files_Lay.f
    rw [show layE [(⟨(⟨#[97, 47, 98]⟩ : ByteArray), (⟨#[120]⟩ : ByteArray)⟩ : S33), (⟨(⟨#[99]⟩ : ByteArray), (⟨#[122]⟩ : ByteArray)⟩ : S33)] [(⟨(⟨#[97]⟩ : ByteArray), (⟨#[121]⟩ : ByteArray)⟩ : S33)] = ([⟨⟨#[97]⟩, ⟨#[121]⟩⟩, ⟨⟨#[99]⟩, ⟨#[122]⟩⟩], 0) by
      unfold layE
      rw [if_pos ⟨ha, hb⟩, ho, if_pos (by simp only [fullE, sizeF]; decide +kernel), sorted_one hd (List.mergeSort_perm _ _) (List.Perm.refl _) (merge_sorted _) hs]]
  have e5 : files_Path.f (⟨#[97, 47, 98, 46, 99]⟩ : ByteArray) = some true := by
    unfold files_Path.f
    rw [Lib.toList_data]
    decide +kernel
  have e6 : files_Path.f (⟨#[97, 47, 47, 98]⟩ : ByteArray) = some false := by
    unfold files_Path.f
    rw [Lib.toList_data]
    decide +kernel
  unfold bastionlaw17_works.f
  simp only [Option.bind_some, e1, e2, e3, e4, e5, e6, rd_T33]
  simp [Lib.toList_data]

theorem wrap_succ {j : Nat} (h : j < 4611686018427387904) : wrap64 ((j : Int) + 1) = ((j + 1 : Nat) : Int) := by
  unfold wrap64
  omega

theorem large_go (l : List S33) (hl : l.length ≤ 4611686018427387903) : ∀ (k j : Nat) (n : Int), l.length - j < k → ∃ b, bastionlaw17_large.l0 k l n (j : Int) = some b
  | 0, j, n, h => by omega
  | k + 1, j, n, h => by
    unfold bastionlaw17_large.l0
    by_cases h1 : (j : Int) < (l.length : Int)
    · rw [if_pos h1]
      by_cases h2 : n < 70000
      · rw [if_pos h2, if_pos (by omega), wrap_succ (by omega)]
        exact large_go l hl k (j + 1) _ (by omega)
      · rw [if_neg h2]
        split <;> exact ⟨_, rfl⟩
    · rw [if_neg h1]
      split <;> exact ⟨_, rfl⟩
theorem large_some {l : List S33} (y : Light l) (k : Nat) (hk : l.length < k) : ∃ b, bastionlaw17_large.f k l = some b := by
  unfold bastionlaw17_large.f
  exact large_go l (by have := y.len; omega) k 0 _ (by omega)

theorem same_go (l : List S33) (hl : l.length ≤ 4611686018427387903) : ∀ (k j : Nat), j ≤ l.length → l.length - j < k → api_File.l0 k l l (l.length : Int) (j : Int) = some true
  | 0, j, _, h => by omega
  | k + 1, j, hj, h => by
    unfold api_File.l0
    by_cases h1 : (j : Int) < (l.length : Int)
    · rw [if_pos h1, if_pos (by omega), if_pos h1, if_pos h1, if_neg (by simp), wrap_succ (by omega)]
      exact same_go l hl k (j + 1) (by omega) (by omega)
    · rw [if_neg h1]
theorem same_refl (l : List S33) (hl : l.length ≤ 4611686018427387903) (k : Nat) (hk : l.length < k) : files_Same.f k l l = some true := by
  unfold files_Same.f api_File.f
  rw [if_pos rfl]
  have := same_go l hl k 0 (by omega) (by omega)
  rw [show ((0 : Nat) : Int) = 0 from rfl] at this
  rw [this]
  rfl

#print axioms works_true
#print axioms same_refl
end Go.Proofs.Ytgbkoeinfhlpoaa.F
