/- PackNames: the closed statement, reckoned. -/
import Derived.Test.YtgbkoeinfhlpoaaFx33
import Derived.Test.YtgbkoeinfhlpoaaEPkAwake
namespace Go.Proofs.Ytgbkoeinfhlpoaa.F
open Go.RowKit Go.Shelf Go.Proofs Go.Proofs.YtgbkoeinfhlpoaaW.PrintWords Go.Proofs.YtgbkoeinfhlpoaaW.PrintLast Go.Proofs.YtgbkoeinfhlpoaaW.PrintMore
set_option linter.unusedVariables false
set_option linter.unusedSimpArgs false

theorem check_ba : checkE [(⟨⟨#[98]⟩, ⟨#[]⟩⟩ : S33), ⟨⟨#[97]⟩, ⟨#[]⟩⟩] = 4 := by
  simp only [checkE, firstE, fileE, fullE, sizeF, risingB, someWay, S33.p, Lib.toList_data, List.any_cons, List.any_nil]
  decide +kernel
theorem check_slash : checkE [(⟨⟨#[47]⟩, ⟨#[]⟩⟩ : S33)] = 63 := by
  simp only [checkE, firstE, fileE, fullE, sizeF, risingB, someWay, S33.p, Lib.toList_data, List.any_cons, List.any_nil]
  decide +kernel
def abcL : List S33 := [⟨⟨#[97, 98, 99, 47, 100]⟩, ⟨#[]⟩⟩, ⟨⟨#[97, 98, 99, 47, 101]⟩, ⟨#[]⟩⟩]
theorem check_abc : checkE abcL = 0 := by
  simp only [abcL, checkE, firstE, fileE, fullE, sizeF, risingB, someWay, S33.p, Lib.toList_data, List.any_cons, List.any_nil]
  decide +kernel
theorem pack_abc : packE abcL = (toB [2, 0, 5, 97, 98, 99, 47, 100, 0, 4, 1, 101, 0], 0) := by
  unfold packE
  rw [if_pos check_abc, show packB (abcL.map flOf) = [2, 0, 5, 97, 98, 99, 47, 100, 0, 4, 1, 101, 0] by decide +kernel]
theorem unpack_bad (s : List UInt8) (l : List Fl) (h : unpackR s = l) (hn : packB l ≠ s) : unpackE (toB s) = ([], 4) := by
  unfold unpackE
  rw [show (toB s).data.toList = s from rfl, h, if_neg (fun h2 => hn ?_)]
  have := congrArg (fun b : ByteArray => b.data.toList) h2.2
  exact this
theorem unpack_good (s : List UInt8) (l : List S33) (h : unpackR s = l.map flOf) (hc : checkE l = 0) (hn : packB (l.map flOf) = s) : unpackE (toB s) = (l, 0) := by
  unfold unpackE
  rw [show (toB s).data.toList = s from rfl, h, map_sOf_flOf, if_pos ⟨hc, by rw [hn]⟩]
theorem un_c : unpackE (toB [0, 120]) = ([], 4) := unpack_bad _ [] (by decide +kernel) (by decide +kernel)
theorem un_d : unpackE (toB [0]) = ([], 0) := unpack_good _ [] (by decide +kernel) (by decide +kernel) (by decide +kernel)
theorem un_f : unpackE (toB [1, 0, 1, 97, 4, 4, 97, 97, 4, 97, 97]) = ([], 4) := unpack_bad _ [([97], [97, 97, 97, 97])] (by decide +kernel) (by decide +kernel)
theorem check_g : checkE [(⟨⟨#[97]⟩, ⟨#[97, 97, 97, 97]⟩⟩ : S33)] = 0 := by
  simp only [checkE, firstE, fileE, fullE, sizeF, risingB, someWay, S33.p, Lib.toList_data, List.any_cons, List.any_nil]
  decide +kernel
theorem un_g : unpackE (toB [1, 0, 1, 97, 4, 9, 97]) = ([⟨⟨#[97]⟩, ⟨#[97, 97, 97, 97]⟩⟩], 0) := unpack_good _ _ (by decide +kernel) check_g (by decide +kernel)
theorem up_at (s : List UInt8) (h : s.length ≤ 1000000) : pack_Unpack.f ⟨s.toArray⟩ = some (unpackE (toB s)) := by
  unfold pack_Unpack.f
  rw [if_pos (by show s.toArray.size ≤ _; simpa using h)]
  rfl
theorem runs_at (s : List UInt8) (h : s.length ≤ 100000) (t : List UInt8) (e : runsB s = t) : pack_Runs.f ⟨s.toArray⟩ = some ⟨t.toArray⟩ := by
  unfold pack_Runs.f
  rw [if_pos (by show s.toArray.size ≤ _; simpa using h), ← e]

theorem ints_zeros (n : Nat) : ints (List.replicate n (0 : UInt8)) = List.replicate n 0 := by simp [ints]
theorem len_zeros (n : Nat) (h : n ≤ 100000) : (List.replicate n (0 : UInt8)).length ≤ 100000 := by rw [List.length_replicate]; exact h
theorem PackNames_pure : bastionlaw18_PackNames.Pure := by
  obtain ⟨K1, h1⟩ := pack_val [(⟨⟨#[98]⟩, ⟨#[]⟩⟩ : S33), ⟨⟨#[97]⟩, ⟨#[]⟩⟩]
  obtain ⟨K2, h2⟩ := pack_val [(⟨⟨#[47]⟩, ⟨#[]⟩⟩ : S33)]
  obtain ⟨K3, h3⟩ := pack_val abcL
  obtain ⟨K4, h4⟩ := awake_true
  refine ⟨K1 + K2 + K3 + K4, ?_⟩
  have h1 := h1 (K1 + K2 + K3 + K4) (by omega)
  have h2 := h2 (K1 + K2 + K3 + K4) (by omega)
  have h3 := h3 (K1 + K2 + K3 + K4) (by omega)
  have h4 := h4 (K1 + K2 + K3 + K4) (by omega)
  generalize K1 + K2 + K3 + K4 = k at h1 h2 h3 h4
  rw [show packE [(⟨⟨#[98]⟩, ⟨#[]⟩⟩ : S33), ⟨⟨#[97]⟩, ⟨#[]⟩⟩] = (⟨#[]⟩, 4) by unfold packE; rw [check_ba, if_neg (by decide)]] at h1
  rw [show packE [(⟨⟨#[47]⟩, ⟨#[]⟩⟩ : S33)] = (⟨#[]⟩, 63) by unfold packE; rw [check_slash, if_neg (by decide)]] at h2
  rw [pack_abc] at h3
  unfold abcL at h3
  unfold bastionlaw18_PackNames.f
  simp only [h1, h2, h3, h4, Option.bind_some]
  rw [show pack_Unpack.f ⟨#[0, 120]⟩ = some ([], 4) from (up_at [0, 120] (by decide)).trans (congrArg some un_c), Option.bind_some,
    show pack_Unpack.f ⟨#[0]⟩ = some ([], 0) from (up_at [0] (by decide)).trans (congrArg some un_d), Option.bind_some,
    show pack_Unpack.f ⟨#[1, 0, 1, 97, 4, 4, 97, 97, 4, 97, 97]⟩ = some ([], 4) from (up_at [1, 0, 1, 97, 4, 4, 97, 97, 4, 97, 97] (by decide)).trans (congrArg some un_f), Option.bind_some,
    show pack_Unpack.f ⟨#[1, 0, 1, 97, 4, 9, 97]⟩ = some ([⟨⟨#[97]⟩, ⟨#[97, 97, 97, 97]⟩⟩], 0) from (up_at [1, 0, 1, 97, 4, 9, 97] (by decide)).trans (congrArg some un_g), Option.bind_some]
  refine (if_pos (by first | trivial | rfl | decide | (rw [Lib.toList_data]; rfl))).trans ?_
  refine (if_pos (by first | trivial | rfl | decide | (rw [Lib.toList_data]; rfl))).trans ?_
  refine (if_pos (by first | trivial | rfl | decide | (rw [Lib.toList_data]; rfl))).trans ?_
  refine (if_pos (by first | trivial | rfl | decide | (rw [Lib.toList_data]; rfl))).trans ?_
  refine (if_pos (by first | trivial | rfl | decide | (rw [Lib.toList_data]; rfl))).trans ?_
  refine (if_pos (by first | trivial | rfl | decide | (rw [Lib.toList_data]; rfl))).trans ?_
  refine (if_pos (by first | trivial | rfl | decide | (rw [Lib.toList_data]; rfl))).trans ?_
  refine (if_pos (by first | trivial | rfl | decide | (rw [Lib.toList_data]; rfl))).trans ?_
  refine (if_pos (by first | trivial | rfl | decide | (rw [Lib.toList_data]; rfl))).trans ?_
  refine (if_pos (by first | trivial | rfl | decide | (rw [Lib.toList_data]; rfl))).trans ?_
  refine (if_pos (by first | trivial | rfl | decide | (rw [Lib.toList_data]; rfl))).trans ?_
  refine (if_pos (by first | trivial | rfl | decide | (rw [Lib.toList_data]; rfl))).trans ?_
  refine (if_pos (by first | trivial | rfl | decide | (rw [Lib.toList_data]; rfl))).trans ?_
  rw [show pack_Runs.f ⟨#[]⟩ = some ⟨#[0]⟩ from runs_at [] (by decide) [0] (by decide +kernel), Option.bind_some, if_pos (by rw [Lib.toList_data])]
  rw [show pack_Runs.f ⟨#[97, 98, 97, 98]⟩ = some ⟨#[4, 8, 97, 98, 97, 98]⟩ from runs_at [97, 98, 97, 98] (by decide) [4, 8, 97, 98, 97, 98] (by decide +kernel), Option.bind_some, if_pos (by rw [Lib.toList_data])]
  have hz : strOfNums (List.replicate 2500 0) = ⟨(List.replicate 2500 (0 : UInt8)).toArray⟩ := by
    have := str_ints (List.replicate 2500 (0 : UInt8))
    rw [show ints (List.replicate 2500 (0 : UInt8)) = List.replicate 2500 0 from ints_zeros 2500] at this
    exact this
  rw [hz, runs_at (List.replicate 2500 0) (len_zeros 2500 (by decide)) [196, 19, 209, 15, 0, 209, 15, 0, 233, 7, 0] (by decide +kernel), Option.bind_some, if_pos (by rw [Lib.toList_data])]
#print axioms PackNames_pure
end Go.Proofs.Ytgbkoeinfhlpoaa.F
namespace Go.Proofs.Ytgbkoeinfhlpoaa.Pure
theorem PackNames : F.bastionlaw18_PackNames.Pure := F.PackNames_pure
end Go.Proofs.Ytgbkoeinfhlpoaa.Pure
