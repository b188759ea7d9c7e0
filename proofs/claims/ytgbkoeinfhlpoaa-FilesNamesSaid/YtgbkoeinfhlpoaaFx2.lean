-- printed by a program of this session (a turned copy of the kit's printing program) out of the translation: not trusted, Lean checks it
import Derived.Test.YtgbkoeinfhlpoaaFx0
import Derived.Test.YtgbkoeinfhlpoaaFx1
import Derived.Test.YtgbkoeinfhlpoaaELay
import Derived.Test.YtgbkoeinfhlpoaaEPath
import Derived.Test.YtgbkoeinfhlpoaaEPut
namespace Go.Proofs.Ytgbkoeinfhlpoaa.F
open Go.RowKit Go.Proofs.YtgbkoeinfhlpoaaW.PrintWords Go.Proofs.YtgbkoeinfhlpoaaW.PrintLast Go.Proofs.YtgbkoeinfhlpoaaW.PrintMore
attribute [local go_sem] max2_int min2_int max_two min_two max_three min_three max_four min_four   -- for this text's walks alone
set_option linter.unusedVariables false
set_option linter.unusedSimpArgs false

attribute [local go_sem high] eqA33
-- OF THIS SESSION: function 17 (files_Lay) in Derived.Test.YtgbkoeinfhlpoaaELay

-- OF THIS SESSION: function 21 (files_Path) in Derived.Test.YtgbkoeinfhlpoaaEPath

-- OF THIS SESSION: function 22 (files_Put) in Derived.Test.YtgbkoeinfhlpoaaEPut

/-! ### bastionlaw17_works: function 14 -/
def bastionlaw17_works.f  : Option (Bool) := (some (([(⟨(⟨#[97, 47, 98]⟩ : ByteArray), (⟨#[120]⟩ : ByteArray)⟩ : S33)] : List (S33)) : List (S33))).bind fun y101 => ((files_Put.f y101 (⟨#[97]⟩ : ByteArray) (⟨#[121]⟩ : ByteArray)).bind fun bt104 => ((files_Put.f y101 (⟨#[97, 47, 98, 47, 99]⟩ : ByteArray) (⟨#[121]⟩ : ByteArray)).bind fun bt108 => ((files_Put.f y101 (⟨#[97, 47, 97]⟩ : ByteArray) (⟨#[121]⟩ : ByteArray)).bind fun bt112 => ((files_Lay.f (([(⟨(⟨#[97, 47, 98]⟩ : ByteArray), (⟨#[120]⟩ : ByteArray)⟩ : S33), (⟨(⟨#[99]⟩ : ByteArray), (⟨#[122]⟩ : ByteArray)⟩ : S33)] : List (S33))) (([(⟨(⟨#[97]⟩ : ByteArray), (⟨#[121]⟩ : ByteArray)⟩ : S33)] : List (S33)))).bind fun bt122 => (if bt104.2 = 50 then (if bt108.2 = 50 then (if bt112.2 = 0 then (if (bt112.1.length : Int) = 2 then (if 0 < (bt112.1.length : Int) then (if ((((rd_T33 bt112.1 0).f0).toList) == ([97, 47, 97] : List UInt8) && ((((rd_T33 bt112.1 0).f1).toList) == ([121] : List UInt8))) = true then (if bt122.2 = 0 then (if (bt122.1.length : Int) = 2 then (if 0 < (bt122.1.length : Int) then (if ((rd_T33 bt122.1 0).f0).toList = ([97] : List UInt8) then (if 1 < (bt122.1.length : Int) then (if ((rd_T33 bt122.1 1).f0).toList = ([99] : List UInt8) then ((files_Path.f (⟨#[97, 47, 98, 46, 99]⟩ : ByteArray)).bind fun t129 => (if t129 = true then ((files_Path.f (⟨#[97, 47, 47, 98]⟩ : ByteArray)).bind fun t130 => (some (!t130))) else (none))) else (none)) else (none)) else (none)) else (none)) else (none)) else (none)) else (none)) else (none)) else (none)) else (none)) else (none)) else (none))))))
set_option maxHeartbeats 8000000 in
set_option maxRecDepth 100000 in
theorem bastionlaw17_works.calls  (r : Bool) (w : World) (h : bastionlaw17_works.f  = some r) :
    Calls Try.prog 14 #[] w fun e w' => e = .returned (.bool r) ∧ Below w.heap.size w w' := by
  have hu33 := Try.underlying33
  have HB := Aside0.mk (Below.refl w.heap.size w)
  have H : ((some (([(⟨(⟨#[97, 47, 98]⟩ : ByteArray), (⟨#[120]⟩ : ByteArray)⟩ : S33)] : List (S33)) : List (S33))).bind fun y101 => ((files_Put.f y101 (⟨#[97]⟩ : ByteArray) (⟨#[121]⟩ : ByteArray)).bind fun bt104 => ((files_Put.f y101 (⟨#[97, 47, 98, 47, 99]⟩ : ByteArray) (⟨#[121]⟩ : ByteArray)).bind fun bt108 => ((files_Put.f y101 (⟨#[97, 47, 97]⟩ : ByteArray) (⟨#[121]⟩ : ByteArray)).bind fun bt112 => ((files_Lay.f (([(⟨(⟨#[97, 47, 98]⟩ : ByteArray), (⟨#[120]⟩ : ByteArray)⟩ : S33), (⟨(⟨#[99]⟩ : ByteArray), (⟨#[122]⟩ : ByteArray)⟩ : S33)] : List (S33))) (([(⟨(⟨#[97]⟩ : ByteArray), (⟨#[121]⟩ : ByteArray)⟩ : S33)] : List (S33)))).bind fun bt122 => (if bt104.2 = 50 then (if bt108.2 = 50 then (if bt112.2 = 0 then (if (bt112.1.length : Int) = 2 then (if 0 < (bt112.1.length : Int) then (if ((((rd_T33 bt112.1 0).f0).toList) == ([97, 47, 97] : List UInt8) && ((((rd_T33 bt112.1 0).f1).toList) == ([121] : List UInt8))) = true then (if bt122.2 = 0 then (if (bt122.1.length : Int) = 2 then (if 0 < (bt122.1.length : Int) then (if ((rd_T33 bt122.1 0).f0).toList = ([97] : List UInt8) then (if 1 < (bt122.1.length : Int) then (if ((rd_T33 bt122.1 1).f0).toList = ([99] : List UInt8) then ((files_Path.f (⟨#[97, 47, 98, 46, 99]⟩ : ByteArray)).bind fun t129 => (if t129 = true then ((files_Path.f (⟨#[97, 47, 47, 98]⟩ : ByteArray)).bind fun t130 => (some (!t130))) else (none))) else (none)) else (none)) else (none)) else (none)) else (none)) else (none)) else (none)) else (none)) else (none)) else (none)) else (none)) else (none))))))) = some r := h
  clear h
  obtain ⟨y101, hy101⟩ : ∃ y_ : List (S33), y_ = (([(⟨(⟨#[97, 47, 98]⟩ : ByteArray), (⟨#[120]⟩ : ByteArray)⟩ : S33)] : List (S33))) := ⟨_, rfl⟩
  replace H : ((files_Put.f y101 (⟨#[97]⟩ : ByteArray) (⟨#[121]⟩ : ByteArray)).bind fun bt104 => ((files_Put.f y101 (⟨#[97, 47, 98, 47, 99]⟩ : ByteArray) (⟨#[121]⟩ : ByteArray)).bind fun bt108 => ((files_Put.f y101 (⟨#[97, 47, 97]⟩ : ByteArray) (⟨#[121]⟩ : ByteArray)).bind fun bt112 => ((files_Lay.f (([(⟨(⟨#[97, 47, 98]⟩ : ByteArray), (⟨#[120]⟩ : ByteArray)⟩ : S33), (⟨(⟨#[99]⟩ : ByteArray), (⟨#[122]⟩ : ByteArray)⟩ : S33)] : List (S33))) (([(⟨(⟨#[97]⟩ : ByteArray), (⟨#[121]⟩ : ByteArray)⟩ : S33)] : List (S33)))).bind fun bt122 => (if bt104.2 = 50 then (if bt108.2 = 50 then (if bt112.2 = 0 then (if (bt112.1.length : Int) = 2 then (if 0 < (bt112.1.length : Int) then (if ((((rd_T33 bt112.1 0).f0).toList) == ([97, 47, 97] : List UInt8) && ((((rd_T33 bt112.1 0).f1).toList) == ([121] : List UInt8))) = true then (if bt122.2 = 0 then (if (bt122.1.length : Int) = 2 then (if 0 < (bt122.1.length : Int) then (if ((rd_T33 bt122.1 0).f0).toList = ([97] : List UInt8) then (if 1 < (bt122.1.length : Int) then (if ((rd_T33 bt122.1 1).f0).toList = ([99] : List UInt8) then ((files_Path.f (⟨#[97, 47, 98, 46, 99]⟩ : ByteArray)).bind fun t129 => (if t129 = true then ((files_Path.f (⟨#[97, 47, 47, 98]⟩ : ByteArray)).bind fun t130 => (some (!t130))) else (none))) else (none)) else (none)) else (none)) else (none)) else (none)) else (none)) else (none)) else (none)) else (none)) else (none)) else (none)) else (none)))))) = some r := by first | (rw [hy101]; with_reducible exact H) | (have H2_ := (Option.bind_some _ _).symm.trans H; rw [hy101]; with_reducible exact H2_) | (have H2_ := (Option.bind_some _ _).symm.trans H; with_reducible exact H2_) | with_reducible exact H | (rw [hy101]; exact H) | exact H
  have Ny101 := Aside0.mk hy101
  clear hy101
  replace H := Option.bind_eq_some_iff.mp H
  obtain ⟨⟨t104, t105⟩, A10, H⟩ := H
  replace H : ((files_Put.f y101 (⟨#[97, 47, 98, 47, 99]⟩ : ByteArray) (⟨#[121]⟩ : ByteArray)).bind fun bt108 => ((files_Put.f y101 (⟨#[97, 47, 97]⟩ : ByteArray) (⟨#[121]⟩ : ByteArray)).bind fun bt112 => ((files_Lay.f (([(⟨(⟨#[97, 47, 98]⟩ : ByteArray), (⟨#[120]⟩ : ByteArray)⟩ : S33), (⟨(⟨#[99]⟩ : ByteArray), (⟨#[122]⟩ : ByteArray)⟩ : S33)] : List (S33))) (([(⟨(⟨#[97]⟩ : ByteArray), (⟨#[121]⟩ : ByteArray)⟩ : S33)] : List (S33)))).bind fun bt122 => (if t105 = 50 then (if bt108.2 = 50 then (if bt112.2 = 0 then (if (bt112.1.length : Int) = 2 then (if 0 < (bt112.1.length : Int) then (if ((((rd_T33 bt112.1 0).f0).toList) == ([97, 47, 97] : List UInt8) && ((((rd_T33 bt112.1 0).f1).toList) == ([121] : List UInt8))) = true then (if bt122.2 = 0 then (if (bt122.1.length : Int) = 2 then (if 0 < (bt122.1.length : Int) then (if ((rd_T33 bt122.1 0).f0).toList = ([97] : List UInt8) then (if 1 < (bt122.1.length : Int) then (if ((rd_T33 bt122.1 1).f0).toList = ([99] : List UInt8) then ((files_Path.f (⟨#[97, 47, 98, 46, 99]⟩ : ByteArray)).bind fun t129 => (if t129 = true then ((files_Path.f (⟨#[97, 47, 47, 98]⟩ : ByteArray)).bind fun t130 => (some (!t130))) else (none))) else (none)) else (none)) else (none)) else (none)) else (none)) else (none)) else (none)) else (none)) else (none)) else (none)) else (none)) else (none))))) = some r := H
  have A1 := Aside0.mk A10
  clear A10
  replace H := Option.bind_eq_some_iff.mp H
  obtain ⟨⟨t108, t109⟩, A20, H⟩ := H
  replace H : ((files_Put.f y101 (⟨#[97, 47, 97]⟩ : ByteArray) (⟨#[121]⟩ : ByteArray)).bind fun bt112 => ((files_Lay.f (([(⟨(⟨#[97, 47, 98]⟩ : ByteArray), (⟨#[120]⟩ : ByteArray)⟩ : S33), (⟨(⟨#[99]⟩ : ByteArray), (⟨#[122]⟩ : ByteArray)⟩ : S33)] : List (S33))) (([(⟨(⟨#[97]⟩ : ByteArray), (⟨#[121]⟩ : ByteArray)⟩ : S33)] : List (S33)))).bind fun bt122 => (if t105 = 50 then (if t109 = 50 then (if bt112.2 = 0 then (if (bt112.1.length : Int) = 2 then (if 0 < (bt112.1.length : Int) then (if ((((rd_T33 bt112.1 0).f0).toList) == ([97, 47, 97] : List UInt8) && ((((rd_T33 bt112.1 0).f1).toList) == ([121] : List UInt8))) = true then (if bt122.2 = 0 then (if (bt122.1.length : Int) = 2 then (if 0 < (bt122.1.length : Int) then (if ((rd_T33 bt122.1 0).f0).toList = ([97] : List UInt8) then (if 1 < (bt122.1.length : Int) then (if ((rd_T33 bt122.1 1).f0).toList = ([99] : List UInt8) then ((files_Path.f (⟨#[97, 47, 98, 46, 99]⟩ : ByteArray)).bind fun t129 => (if t129 = true then ((files_Path.f (⟨#[97, 47, 47, 98]⟩ : ByteArray)).bind fun t130 => (some (!t130))) else (none))) else (none)) else (none)) else (none)) else (none)) else (none)) else (none)) else (none)) else (none)) else (none)) else (none)) else (none)) else (none)))) = some r := H
  have A2 := Aside0.mk A20
  clear A20
  replace H := Option.bind_eq_some_iff.mp H
  obtain ⟨⟨t112, t113⟩, A30, H⟩ := H
  replace H : ((files_Lay.f (([(⟨(⟨#[97, 47, 98]⟩ : ByteArray), (⟨#[120]⟩ : ByteArray)⟩ : S33), (⟨(⟨#[99]⟩ : ByteArray), (⟨#[122]⟩ : ByteArray)⟩ : S33)] : List (S33))) (([(⟨(⟨#[97]⟩ : ByteArray), (⟨#[121]⟩ : ByteArray)⟩ : S33)] : List (S33)))).bind fun bt122 => (if t105 = 50 then (if t109 = 50 then (if t113 = 0 then (if (t112.length : Int) = 2 then (if 0 < (t112.length : Int) then (if ((((rd_T33 t112 0).f0).toList) == ([97, 47, 97] : List UInt8) && ((((rd_T33 t112 0).f1).toList) == ([121] : List UInt8))) = true then (if bt122.2 = 0 then (if (bt122.1.length : Int) = 2 then (if 0 < (bt122.1.length : Int) then (if ((rd_T33 bt122.1 0).f0).toList = ([97] : List UInt8) then (if 1 < (bt122.1.length : Int) then (if ((rd_T33 bt122.1 1).f0).toList = ([99] : List UInt8) then ((files_Path.f (⟨#[97, 47, 98, 46, 99]⟩ : ByteArray)).bind fun t129 => (if t129 = true then ((files_Path.f (⟨#[97, 47, 47, 98]⟩ : ByteArray)).bind fun t130 => (some (!t130))) else (none))) else (none)) else (none)) else (none)) else (none)) else (none)) else (none)) else (none)) else (none)) else (none)) else (none)) else (none)) else (none))) = some r := H
  have A3 := Aside0.mk A30
  clear A30
  obtain ⟨y116, hy116⟩ : ∃ y_ : List (S33), y_ = (([(⟨(⟨#[97, 47, 98]⟩ : ByteArray), (⟨#[120]⟩ : ByteArray)⟩ : S33), (⟨(⟨#[99]⟩ : ByteArray), (⟨#[122]⟩ : ByteArray)⟩ : S33)] : List (S33))) := ⟨_, rfl⟩
  replace H : ((files_Lay.f y116 (([(⟨(⟨#[97]⟩ : ByteArray), (⟨#[121]⟩ : ByteArray)⟩ : S33)] : List (S33)))).bind fun bt122 => (if t105 = 50 then (if t109 = 50 then (if t113 = 0 then (if (t112.length : Int) = 2 then (if 0 < (t112.length : Int) then (if ((((rd_T33 t112 0).f0).toList) == ([97, 47, 97] : List UInt8) && ((((rd_T33 t112 0).f1).toList) == ([121] : List UInt8))) = true then (if bt122.2 = 0 then (if (bt122.1.length : Int) = 2 then (if 0 < (bt122.1.length : Int) then (if ((rd_T33 bt122.1 0).f0).toList = ([97] : List UInt8) then (if 1 < (bt122.1.length : Int) then (if ((rd_T33 bt122.1 1).f0).toList = ([99] : List UInt8) then ((files_Path.f (⟨#[97, 47, 98, 46, 99]⟩ : ByteArray)).bind fun t129 => (if t129 = true then ((files_Path.f (⟨#[97, 47, 47, 98]⟩ : ByteArray)).bind fun t130 => (some (!t130))) else (none))) else (none)) else (none)) else (none)) else (none)) else (none)) else (none)) else (none)) else (none)) else (none)) else (none)) else (none)) else (none))) = some r := by first | (rw [hy116]; with_reducible exact H) | (have H2_ := (Option.bind_some _ _).symm.trans H; rw [hy116]; with_reducible exact H2_) | (have H2_ := (Option.bind_some _ _).symm.trans H; with_reducible exact H2_) | with_reducible exact H | (rw [hy116]; exact H) | exact H
  have Ny116 := Aside0.mk hy116
  clear hy116
  obtain ⟨y119, hy119⟩ : ∃ y_ : List (S33), y_ = (([(⟨(⟨#[97]⟩ : ByteArray), (⟨#[121]⟩ : ByteArray)⟩ : S33)] : List (S33))) := ⟨_, rfl⟩
  replace H : ((files_Lay.f y116 y119).bind fun bt122 => (if t105 = 50 then (if t109 = 50 then (if t113 = 0 then (if (t112.length : Int) = 2 then (if 0 < (t112.length : Int) then (if ((((rd_T33 t112 0).f0).toList) == ([97, 47, 97] : List UInt8) && ((((rd_T33 t112 0).f1).toList) == ([121] : List UInt8))) = true then (if bt122.2 = 0 then (if (bt122.1.length : Int) = 2 then (if 0 < (bt122.1.length : Int) then (if ((rd_T33 bt122.1 0).f0).toList = ([97] : List UInt8) then (if 1 < (bt122.1.length : Int) then (if ((rd_T33 bt122.1 1).f0).toList = ([99] : List UInt8) then ((files_Path.f (⟨#[97, 47, 98, 46, 99]⟩ : ByteArray)).bind fun t129 => (if t129 = true then ((files_Path.f (⟨#[97, 47, 47, 98]⟩ : ByteArray)).bind fun t130 => (some (!t130))) else (none))) else (none)) else (none)) else (none)) else (none)) else (none)) else (none)) else (none)) else (none)) else (none)) else (none)) else (none)) else (none))) = some r := by first | (rw [hy119]; with_reducible exact H) | (have H2_ := (Option.bind_some _ _).symm.trans H; rw [hy119]; with_reducible exact H2_) | (have H2_ := (Option.bind_some _ _).symm.trans H; with_reducible exact H2_) | with_reducible exact H | (rw [hy119]; exact H) | exact H
  have Ny119 := Aside0.mk hy119
  clear hy119
  replace H := Option.bind_eq_some_iff.mp H
  obtain ⟨⟨t122, t123⟩, A40, H⟩ := H
  replace H : (if t105 = 50 then (if t109 = 50 then (if t113 = 0 then (if (t112.length : Int) = 2 then (if 0 < (t112.length : Int) then (if ((((rd_T33 t112 0).f0).toList) == ([97, 47, 97] : List UInt8) && ((((rd_T33 t112 0).f1).toList) == ([121] : List UInt8))) = true then (if t123 = 0 then (if (t122.length : Int) = 2 then (if 0 < (t122.length : Int) then (if ((rd_T33 t122 0).f0).toList = ([97] : List UInt8) then (if 1 < (t122.length : Int) then (if ((rd_T33 t122 1).f0).toList = ([99] : List UInt8) then ((files_Path.f (⟨#[97, 47, 98, 46, 99]⟩ : ByteArray)).bind fun t129 => (if t129 = true then ((files_Path.f (⟨#[97, 47, 47, 98]⟩ : ByteArray)).bind fun t130 => (some (!t130))) else (none))) else (none)) else (none)) else (none)) else (none)) else (none)) else (none)) else (none)) else (none)) else (none)) else (none)) else (none)) else (none)) = some r := H
  have A4 := Aside0.mk A40
  clear A40
  by_cases c5 : t105 = 50
  · rw [if_pos c5] at H
    have c5b0 : (t105 == 50) = true := beq_iff_eq.mpr c5
    have c5b1 : (t105 != 50) = false := bne_eq_false_iff_eq.mpr c5
    clear c5
    by_cases c6 : t109 = 50
    · rw [if_pos c6] at H
      have c6b0 : (t109 == 50) = true := beq_iff_eq.mpr c6
      have c6b1 : (t109 != 50) = false := bne_eq_false_iff_eq.mpr c6
      clear c6
      by_cases c7 : t113 = 0
      · rw [if_pos c7] at H
        have c7b0 : (t113 == 0) = true := beq_iff_eq.mpr c7
        have c7b1 : (t113 != 0) = false := bne_eq_false_iff_eq.mpr c7
        clear c7
        by_cases c8 : (t112.length : Int) = 2
        · rw [if_pos c8] at H
          have c8b0 : ((t112.length : Int) == 2) = true := beq_iff_eq.mpr c8
          have c8b1 : ((t112.length : Int) != 2) = false := bne_eq_false_iff_eq.mpr c8
          clear c8
          by_cases c9 : 0 < (t112.length : Int)
          · rw [if_pos c9] at H
            have c9b0 : decide (0 < (t112.length : Int)) = true := decide_eq_true c9
            have c9b1 : decide (0 < t112.length) = true := decide_eq_true (by omega)
            clear c9
            by_cases c10 : ((((rd_T33 t112 0).f0).toList) == ([97, 47, 97] : List UInt8) && ((((rd_T33 t112 0).f1).toList) == ([121] : List UInt8))) = true
            · rw [if_pos c10] at H
              have c10b0 : ((((rd_T33 t112 0).f0).toList) == ([97, 47, 97] : List UInt8) && ((((rd_T33 t112 0).f1).toList) == ([121] : List UInt8))) = true := c10
              (try (have c10b1 : decide ((((rd_T33 t112 0).f0).toList) = ([97, 47, 97] : List UInt8) && ((((rd_T33 t112 0).f1).toList) == ([121] : List UInt8))) = true := by simpa using c10))
              (try (have c10b2 : ((((rd_T33 t112 0).f0).toList) == ([97, 47, 97] : List UInt8) && ((((rd_T33 t112 0).f1).toList) == ([121] : List UInt8))) = true := by simpa using c10))
              clear c10
              by_cases c11 : t123 = 0
              · rw [if_pos c11] at H
                have c11b0 : (t123 == 0) = true := beq_iff_eq.mpr c11
                have c11b1 : (t123 != 0) = false := bne_eq_false_iff_eq.mpr c11
                clear c11
                by_cases c12 : (t122.length : Int) = 2
                · rw [if_pos c12] at H
                  have c12b0 : ((t122.length : Int) == 2) = true := beq_iff_eq.mpr c12
                  have c12b1 : ((t122.length : Int) != 2) = false := bne_eq_false_iff_eq.mpr c12
                  clear c12
                  by_cases c13 : 0 < (t122.length : Int)
                  · rw [if_pos c13] at H
                    have c13b0 : decide (0 < (t122.length : Int)) = true := decide_eq_true c13
                    have c13b1 : decide (0 < t122.length) = true := decide_eq_true (by omega)
                    clear c13
                    by_cases c14 : ((rd_T33 t122 0).f0).toList = ([97] : List UInt8)
                    · rw [if_pos c14] at H
                      have c14b0 : (((rd_T33 t122 0).f0).toList == ([97] : List UInt8)) = true := beq_iff_eq.mpr c14
                      have c14b1 : (((rd_T33 t122 0).f0).toList != ([97] : List UInt8)) = false := bne_eq_false_iff_eq.mpr c14
                      clear c14
                      by_cases c15 : 1 < (t122.length : Int)
                      · rw [if_pos c15] at H
                        have c15b0 : decide (1 < (t122.length : Int)) = true := decide_eq_true c15
                        have c15b1 : decide (1 < t122.length) = true := decide_eq_true (by omega)
                        clear c15
                        by_cases c16 : ((rd_T33 t122 1).f0).toList = ([99] : List UInt8)
                        · rw [if_pos c16] at H
                          have c16b0 : (((rd_T33 t122 1).f0).toList == ([99] : List UInt8)) = true := beq_iff_eq.mpr c16
                          have c16b1 : (((rd_T33 t122 1).f0).toList != ([99] : List UInt8)) = false := bne_eq_false_iff_eq.mpr c16
                          clear c16
                          replace H := Option.bind_eq_some_iff.mp H
                          obtain ⟨t129, A170, H⟩ := H
                          replace H : (if t129 = true then ((files_Path.f (⟨#[97, 47, 47, 98]⟩ : ByteArray)).bind fun t130 => (some (!t130))) else (none)) = some r := H
                          have A17 := Aside0.mk A170
                          clear A170
                          by_cases c18 : t129 = true
                          · subst c18
                            have H1 : ((files_Path.f (⟨#[97, 47, 47, 98]⟩ : ByteArray)).bind fun t130 => (some (!t130))) = some r := by rw [if_pos rfl] at H; exact H
                            clear H
                            have H := H1
                            clear H1
                            replace H := Option.bind_eq_some_iff.mp H
                            obtain ⟨t130, A190, H⟩ := H
                            replace H : (some (!t130)) = some r := H
                            have A19 := Aside0.mk A190
                            clear A190
                            obtain rfl := Option.some.inj H
                            go_enter Try.func14, Try.ntmps14
                            go_wp2_with (first | ((with_reducible refine gate_dst (N := 11) rfl ?_); (try (refine gate_guard (by rfl) ?_; dsimp only)); refine Kd.R_lit k33 _ 33 ?hg (N := 11) ?hd (xs := ([(⟨(⟨#[97, 47, 98]⟩ : ByteArray), (⟨#[120]⟩ : ByteArray)⟩ : S33)] : List (S33))) (inner := [.string (⟨#[97, 47, 98]⟩ : ByteArray), .string (⟨#[120]⟩ : ByteArray)]) (ok := fun _ => True) (okp := fun _ => True) ?hr ?hp (fun _ hk => hk) trivial (Below.refl _ _) (Nat.le_refl _) (by simp) ?_; (case hd => rfl); (case hg => rfl); (case hr => first | (go_simp; done) | (go_simp; rfl)); (case hp => exact (Reps.c2 (show Kd.M k33 _ _ _ (⟨(⟨#[97, 47, 98]⟩ : ByteArray), (⟨#[120]⟩ : ByteArray)⟩ : S33) [.string (⟨#[97, 47, 98]⟩ : ByteArray), .string (⟨#[120]⟩ : ByteArray)] from (k33_mkM _ _ _ (⟨(⟨#[97, 47, 98]⟩ : ByteArray), (⟨#[120]⟩ : ByteArray)⟩ : S33) )) (Reps.none _ _))); intro v102 w20 ho21 hb hg_ hnew_; clear hg_ hnew_; (first | rw [← Ny101.out] at ho21 | (simp only [Int.reduceToNat] at ho21; rw [← Ny101.out] at ho21)); have n0_ := Aside0.mk (Kd.R_lower ho21 (below_size (by repeat (first | (with_reducible first | exact HB.out | apply below_alloc | apply pw_below_drewN | apply below_drew1) | exact HB.out)))); have n1_ := Aside0.mk (below_step (by repeat (first | (with_reducible first | exact HB.out | apply below_alloc | apply pw_below_drewN | apply below_drew1) | exact HB.out)) hb); clear HB; have HO103 := n0_; have HB := n1_; clear n0_ n1_; clear hb ho21; obtain ⟨Ao22, co22, eo22⟩ := Kd.R_slice HO103.out; subst eo22) | ((with_reducible refine gate_callee (f := 22) rfl ?_); refine goesL_ (some 14) rfl rfl Try.func22 (by kernel_rfl) rfl #[.slice Ao22 y101.length co22, .string (⟨#[97]⟩ : ByteArray), .string (⟨#[121]⟩ : ByteArray)] rfl (by (try simp only [List.map_toArray, List.map_cons, List.map_nil]); first | done | rfl | (simp only [List.length_drop, List.length_take]; rfl)) ?_; (with_reducible refine (files_Put.calls _ _ y101 (⟨#[97]⟩ : ByteArray) (⟨#[121]⟩ : ByteArray) t104 t105 _ ?side1 ?side2 A1.out).mono ?_); (case side1 => repeat (first | exact (Kd.R_reads' HO103.out).2.2 | (with_reducible refine Kd.C_alloc ?_ _) | (with_reducible refine Kd.C_drewN ?_ _) | (with_reducible refine Kd.C_drew ?_))); (case side2 => exact (Kd.R_reads' HO103.out).2.1); rintro e w23 ⟨v106, rfl, ho0, hb⟩; refine ⟨_, rfl, ?_⟩; have n0_ := Aside0.mk (Kd.R_elder' (by (with_reducible repeat (first | apply Kd.R_alloc | apply Kd.R_drewN | apply Kd.R_drew)); exact HO103.out) (Kd.R_base ho0) hb); have n1_ := Aside0.mk (Kd.R_lower (Kd.R_new' ho0 (Kd.R_lt (by (with_reducible repeat (first | apply Kd.R_alloc | apply Kd.R_drewN | apply Kd.R_drew)); exact HO103.out))) (below_size (by repeat (first | (with_reducible first | exact HB.out | apply below_alloc | apply pw_below_drewN | apply below_drew1) | exact HB.out)))); have n2_ := Aside0.mk (below_step (by repeat (first | (with_reducible first | exact HB.out | apply below_alloc | apply pw_below_drewN | apply below_drew1) | exact HB.out)) hb); clear HO103; clear HB; have HO103 := n0_; have HO107 := n1_; have HB := n2_; clear n0_ n1_ n2_; (try clear hb); (try clear hb2); (try clear hk); (try clear hi); (try clear ho0)) | ((with_reducible refine gate_callee (f := 22) rfl ?_); refine goesL_ (some 19) rfl rfl Try.func22 (by kernel_rfl) rfl #[.slice Ao22 y101.length co22, .string (⟨#[97, 47, 98, 47, 99]⟩ : ByteArray), .string (⟨#[121]⟩ : ByteArray)] rfl (by (try simp only [List.map_toArray, List.map_cons, List.map_nil]); first | done | rfl | (simp only [List.length_drop, List.length_take]; rfl)) ?_; (with_reducible refine (files_Put.calls _ _ y101 (⟨#[97, 47, 98, 47, 99]⟩ : ByteArray) (⟨#[121]⟩ : ByteArray) t108 t109 _ ?side1 ?side2 A2.out).mono ?_); (case side1 => repeat (first | exact (Kd.R_reads' HO103.out).2.2 | (with_reducible refine Kd.C_alloc ?_ _) | (with_reducible refine Kd.C_drewN ?_ _) | (with_reducible refine Kd.C_drew ?_))); (case side2 => exact (Kd.R_reads' HO103.out).2.1); rintro e w24 ⟨v110, rfl, ho0, hb⟩; refine ⟨_, rfl, ?_⟩; have n0_ := Aside0.mk (Kd.R_elder' (by (with_reducible repeat (first | apply Kd.R_alloc | apply Kd.R_drewN | apply Kd.R_drew)); exact HO103.out) (Kd.R_base ho0) hb); have n1_ := Aside0.mk (Kd.R_elder' (by (with_reducible repeat (first | apply Kd.R_alloc | apply Kd.R_drewN | apply Kd.R_drew)); exact HO107.out) (Kd.R_base ho0) hb); have n2_ := Aside0.mk (Kd.R_lower (Kd.R_new' (Kd.R_new' ho0 (Kd.R_lt (by (with_reducible repeat (first | apply Kd.R_alloc | apply Kd.R_drewN | apply Kd.R_drew)); exact HO103.out))) (Kd.R_lt (by (with_reducible repeat (first | apply Kd.R_alloc | apply Kd.R_drewN | apply Kd.R_drew)); exact HO107.out))) (below_size (by repeat (first | (with_reducible first | exact HB.out | apply below_alloc | apply pw_below_drewN | apply below_drew1) | exact HB.out)))); have n3_ := Aside0.mk (below_step (by repeat (first | (with_reducible first | exact HB.out | apply below_alloc | apply pw_below_drewN | apply below_drew1) | exact HB.out)) hb); clear HO103; clear HO107; clear HB; have HO103 := n0_; have HO107 := n1_; have HO111 := n2_; have HB := n3_; clear n0_ n1_ n2_ n3_; (try clear hb); (try clear hb2); (try clear hk); (try clear hi); (try clear ho0)) | ((with_reducible refine gate_callee (f := 22) rfl ?_); refine goesL_ (some 24) rfl rfl Try.func22 (by kernel_rfl) rfl #[.slice Ao22 y101.length co22, .string (⟨#[97, 47, 97]⟩ : ByteArray), .string (⟨#[121]⟩ : ByteArray)] rfl (by (try simp only [List.map_toArray, List.map_cons, List.map_nil]); first | done | rfl | (simp only [List.length_drop, List.length_take]; rfl)) ?_; (with_reducible refine (files_Put.calls _ _ y101 (⟨#[97, 47, 97]⟩ : ByteArray) (⟨#[121]⟩ : ByteArray) t112 t113 _ ?side1 ?side2 A3.out).mono ?_); (case side1 => repeat (first | exact (Kd.R_reads' HO103.out).2.2 | (with_reducible refine Kd.C_alloc ?_ _) | (with_reducible refine Kd.C_drewN ?_ _) | (with_reducible refine Kd.C_drew ?_))); (case side2 => exact (Kd.R_reads' HO103.out).2.1); rintro e w25 ⟨v114, rfl, ho0, hb⟩; refine ⟨_, rfl, ?_⟩; have n0_ := Aside0.mk (Kd.R_elder' (by (with_reducible repeat (first | apply Kd.R_alloc | apply Kd.R_drewN | apply Kd.R_drew)); exact HO103.out) (Kd.R_base ho0) hb); have n1_ := Aside0.mk (Kd.R_elder' (by (with_reducible repeat (first | apply Kd.R_alloc | apply Kd.R_drewN | apply Kd.R_drew)); exact HO107.out) (Kd.R_base ho0) hb); have n2_ := Aside0.mk (Kd.R_elder' (by (with_reducible repeat (first | apply Kd.R_alloc | apply Kd.R_drewN | apply Kd.R_drew)); exact HO111.out) (Kd.R_base ho0) hb); have n3_ := Aside0.mk (Kd.R_lower (Kd.R_new' (Kd.R_new' (Kd.R_new' ho0 (Kd.R_lt (by (with_reducible repeat (first | apply Kd.R_alloc | apply Kd.R_drewN | apply Kd.R_drew)); exact HO103.out))) (Kd.R_lt (by (with_reducible repeat (first | apply Kd.R_alloc | apply Kd.R_drewN | apply Kd.R_drew)); exact HO107.out))) (Kd.R_lt (by (with_reducible repeat (first | apply Kd.R_alloc | apply Kd.R_drewN | apply Kd.R_drew)); exact HO111.out))) (below_size (by repeat (first | (with_reducible first | exact HB.out | apply below_alloc | apply pw_below_drewN | apply below_drew1) | exact HB.out)))); have n4_ := Aside0.mk (below_step (by repeat (first | (with_reducible first | exact HB.out | apply below_alloc | apply pw_below_drewN | apply below_drew1) | exact HB.out)) hb); clear HO103; clear HO107; clear HO111; clear HB; have HO103 := n0_; have HO107 := n1_; have HO111 := n2_; have HO115 := n3_; have HB := n4_; clear n0_ n1_ n2_ n3_ n4_; (try clear hb); (try clear hb2); (try clear hk); (try clear hi); (try clear ho0)) | ((with_reducible refine gate_dst (N := 30) rfl ?_); (try (refine gate_guard (by rfl) ?_; dsimp only)); refine Kd.R_lit k33 _ 33 ?hg (N := 30) ?hd (xs := ([(⟨(⟨#[97, 47, 98]⟩ : ByteArray), (⟨#[120]⟩ : ByteArray)⟩ : S33), (⟨(⟨#[99]⟩ : ByteArray), (⟨#[122]⟩ : ByteArray)⟩ : S33)] : List (S33))) (inner := [.string (⟨#[97, 47, 98]⟩ : ByteArray), .string (⟨#[120]⟩ : ByteArray), .string (⟨#[99]⟩ : ByteArray), .string (⟨#[122]⟩ : ByteArray)]) (ok := fun _ => True) (okp := fun _ => True) ?hr ?hp (fun _ hk => hk) trivial (Below.refl _ _) (Nat.le_refl _) (by simp) ?_; (case hd => rfl); (case hg => rfl); (case hr => first | (go_simp; done) | (go_simp; rfl)); (case hp => exact (Reps.c2 (show Kd.M k33 _ _ _ (⟨(⟨#[97, 47, 98]⟩ : ByteArray), (⟨#[120]⟩ : ByteArray)⟩ : S33) [.string (⟨#[97, 47, 98]⟩ : ByteArray), .string (⟨#[120]⟩ : ByteArray)] from (k33_mkM _ _ _ (⟨(⟨#[97, 47, 98]⟩ : ByteArray), (⟨#[120]⟩ : ByteArray)⟩ : S33) )) (Reps.c2 (show Kd.M k33 _ _ _ (⟨(⟨#[99]⟩ : ByteArray), (⟨#[122]⟩ : ByteArray)⟩ : S33) [.string (⟨#[99]⟩ : ByteArray), .string (⟨#[122]⟩ : ByteArray)] from (k33_mkM _ _ _ (⟨(⟨#[99]⟩ : ByteArray), (⟨#[122]⟩ : ByteArray)⟩ : S33) )) (Reps.none _ _)))); intro v117 w26 ho27 hb hg_ hnew_; clear hg_ hnew_; (first | rw [← Ny116.out] at ho27 | (simp only [Int.reduceToNat] at ho27; rw [← Ny116.out] at ho27)); have n0_ := Aside0.mk (Kd.R_elder' (by (with_reducible repeat (first | apply Kd.R_alloc | apply Kd.R_drewN | apply Kd.R_drew)); exact HO103.out) (Kd.R_base ho27) hb); have n1_ := Aside0.mk (Kd.R_elder' (by (with_reducible repeat (first | apply Kd.R_alloc | apply Kd.R_drewN | apply Kd.R_drew)); exact HO107.out) (Kd.R_base ho27) hb); have n2_ := Aside0.mk (Kd.R_elder' (by (with_reducible repeat (first | apply Kd.R_alloc | apply Kd.R_drewN | apply Kd.R_drew)); exact HO111.out) (Kd.R_base ho27) hb); have n3_ := Aside0.mk (Kd.R_elder' (by (with_reducible repeat (first | apply Kd.R_alloc | apply Kd.R_drewN | apply Kd.R_drew)); exact HO115.out) (Kd.R_base ho27) hb); have n4_ := Aside0.mk (Kd.R_lower (Kd.R_new' (Kd.R_new' (Kd.R_new' (Kd.R_new' ho27 (Kd.R_lt (by (with_reducible repeat (first | apply Kd.R_alloc | apply Kd.R_drewN | apply Kd.R_drew)); exact HO103.out))) (Kd.R_lt (by (with_reducible repeat (first | apply Kd.R_alloc | apply Kd.R_drewN | apply Kd.R_drew)); exact HO107.out))) (Kd.R_lt (by (with_reducible repeat (first | apply Kd.R_alloc | apply Kd.R_drewN | apply Kd.R_drew)); exact HO111.out))) (Kd.R_lt (by (with_reducible repeat (first | apply Kd.R_alloc | apply Kd.R_drewN | apply Kd.R_drew)); exact HO115.out))) (below_size (by repeat (first | (with_reducible first | exact HB.out | apply below_alloc | apply pw_below_drewN | apply below_drew1) | exact HB.out)))); have n5_ := Aside0.mk (below_step (by repeat (first | (with_reducible first | exact HB.out | apply below_alloc | apply pw_below_drewN | apply below_drew1) | exact HB.out)) hb); clear HO103; clear HO107; clear HO111; clear HO115; clear HB; have HO103 := n0_; have HO107 := n1_; have HO111 := n2_; have HO115 := n3_; have HO118 := n4_; have HB := n5_; clear n0_ n1_ n2_ n3_ n4_ n5_; clear hb ho27) | ((with_reducible refine gate_dst (N := 32) rfl ?_); (try (refine gate_guard (by rfl) ?_; dsimp only)); refine Kd.R_lit k33 _ 33 ?hg (N := 32) ?hd (xs := ([(⟨(⟨#[97]⟩ : ByteArray), (⟨#[121]⟩ : ByteArray)⟩ : S33)] : List (S33))) (inner := [.string (⟨#[97]⟩ : ByteArray), .string (⟨#[121]⟩ : ByteArray)]) (ok := fun _ => True) (okp := fun _ => True) ?hr ?hp (fun _ hk => hk) trivial (Below.refl _ _) (Nat.le_refl _) (by simp) ?_; (case hd => rfl); (case hg => rfl); (case hr => first | (go_simp; done) | (go_simp; rfl)); (case hp => exact (Reps.c2 (show Kd.M k33 _ _ _ (⟨(⟨#[97]⟩ : ByteArray), (⟨#[121]⟩ : ByteArray)⟩ : S33) [.string (⟨#[97]⟩ : ByteArray), .string (⟨#[121]⟩ : ByteArray)] from (k33_mkM _ _ _ (⟨(⟨#[97]⟩ : ByteArray), (⟨#[121]⟩ : ByteArray)⟩ : S33) )) (Reps.none _ _))); intro v120 w28 ho29 hb hg_ hnew_; clear hg_ hnew_; (first | rw [← Ny119.out] at ho29 | (simp only [Int.reduceToNat] at ho29; rw [← Ny119.out] at ho29)); have n0_ := Aside0.mk (Kd.R_elder' (by (with_reducible repeat (first | apply Kd.R_alloc | apply Kd.R_drewN | apply Kd.R_drew)); exact HO103.out) (Kd.R_base ho29) hb); have n1_ := Aside0.mk (Kd.R_elder' (by (with_reducible repeat (first | apply Kd.R_alloc | apply Kd.R_drewN | apply Kd.R_drew)); exact HO107.out) (Kd.R_base ho29) hb); have n2_ := Aside0.mk (Kd.R_elder' (by (with_reducible repeat (first | apply Kd.R_alloc | apply Kd.R_drewN | apply Kd.R_drew)); exact HO111.out) (Kd.R_base ho29) hb); have n3_ := Aside0.mk (Kd.R_elder' (by (with_reducible repeat (first | apply Kd.R_alloc | apply Kd.R_drewN | apply Kd.R_drew)); exact HO115.out) (Kd.R_base ho29) hb); have n4_ := Aside0.mk (Kd.R_elder' (by (with_reducible repeat (first | apply Kd.R_alloc | apply Kd.R_drewN | apply Kd.R_drew)); exact HO118.out) (Kd.R_base ho29) hb); have n5_ := Aside0.mk (Kd.R_lower (Kd.R_new' (Kd.R_new' (Kd.R_new' (Kd.R_new' (Kd.R_new' ho29 (Kd.R_lt (by (with_reducible repeat (first | apply Kd.R_alloc | apply Kd.R_drewN | apply Kd.R_drew)); exact HO103.out))) (Kd.R_lt (by (with_reducible repeat (first | apply Kd.R_alloc | apply Kd.R_drewN | apply Kd.R_drew)); exact HO107.out))) (Kd.R_lt (by (with_reducible repeat (first | apply Kd.R_alloc | apply Kd.R_drewN | apply Kd.R_drew)); exact HO111.out))) (Kd.R_lt (by (with_reducible repeat (first | apply Kd.R_alloc | apply Kd.R_drewN | apply Kd.R_drew)); exact HO115.out))) (Kd.R_lt (by (with_reducible repeat (first | apply Kd.R_alloc | apply Kd.R_drewN | apply Kd.R_drew)); exact HO118.out))) (below_size (by repeat (first | (with_reducible first | exact HB.out | apply below_alloc | apply pw_below_drewN | apply below_drew1) | exact HB.out)))); have n6_ := Aside0.mk (below_step (by repeat (first | (with_reducible first | exact HB.out | apply below_alloc | apply pw_below_drewN | apply below_drew1) | exact HB.out)) hb); clear HO103; clear HO107; clear HO111; clear HO115; clear HO118; clear HB; have HO103 := n0_; have HO107 := n1_; have HO111 := n2_; have HO115 := n3_; have HO118 := n4_; have HO121 := n5_; have HB := n6_; clear n0_ n1_ n2_ n3_ n4_ n5_ n6_; clear hb ho29; obtain ⟨Ao30, co30, eo30⟩ := Kd.R_slice HO118.out; subst eo30; obtain ⟨Ao31, co31, eo31⟩ := Kd.R_slice HO121.out; subst eo31) | ((with_reducible refine gate_callee (f := 17) rfl ?_); refine goesL_ (some 33) rfl rfl Try.func17 (by kernel_rfl) rfl #[.slice Ao30 y116.length co30, .slice Ao31 y119.length co31] rfl (by (try simp only [List.map_toArray, List.map_cons, List.map_nil]); first | done | rfl | (simp only [List.length_drop, List.length_take]; rfl)) ?_; (with_reducible refine (files_Lay.calls _ _ y116 _ _ y119 t122 t123 _ ?side1 ?side2 ?side3 ?side4 A4.out).mono ?_); (case side1 => repeat (first | exact (Kd.R_reads' HO118.out).2.2 | (with_reducible refine Kd.C_alloc ?_ _) | (with_reducible refine Kd.C_drewN ?_ _) | (with_reducible refine Kd.C_drew ?_))); (case side2 => exact (Kd.R_reads' HO118.out).2.1); (case side3 => repeat (first | exact (Kd.R_reads' HO121.out).2.2 | (with_reducible refine Kd.C_alloc ?_ _) | (with_reducible refine Kd.C_drewN ?_ _) | (with_reducible refine Kd.C_drew ?_))); (case side4 => exact (Kd.R_reads' HO121.out).2.1); rintro e w32 ⟨v124, rfl, ho0, hb⟩; refine ⟨_, rfl, ?_⟩; have n0_ := Aside0.mk (Kd.R_elder' (by (with_reducible repeat (first | apply Kd.R_alloc | apply Kd.R_drewN | apply Kd.R_drew)); exact HO103.out) (Kd.R_base ho0) hb); have n1_ := Aside0.mk (Kd.R_elder' (by (with_reducible repeat (first | apply Kd.R_alloc | apply Kd.R_drewN | apply Kd.R_drew)); exact HO107.out) (Kd.R_base ho0) hb); have n2_ := Aside0.mk (Kd.R_elder' (by (with_reducible repeat (first | apply Kd.R_alloc | apply Kd.R_drewN | apply Kd.R_drew)); exact HO111.out) (Kd.R_base ho0) hb); have n3_ := Aside0.mk (Kd.R_elder' (by (with_reducible repeat (first | apply Kd.R_alloc | apply Kd.R_drewN | apply Kd.R_drew)); exact HO115.out) (Kd.R_base ho0) hb); have n4_ := Aside0.mk (Kd.R_elder' (by (with_reducible repeat (first | apply Kd.R_alloc | apply Kd.R_drewN | apply Kd.R_drew)); exact HO118.out) (Kd.R_base ho0) hb); have n5_ := Aside0.mk (Kd.R_elder' (by (with_reducible repeat (first | apply Kd.R_alloc | apply Kd.R_drewN | apply Kd.R_drew)); exact HO121.out) (Kd.R_base ho0) hb); have n6_ := Aside0.mk (Kd.R_lower (Kd.R_new' (Kd.R_new' (Kd.R_new' (Kd.R_new' (Kd.R_new' (Kd.R_new' ho0 (Kd.R_lt (by (with_reducible repeat (first | apply Kd.R_alloc | apply Kd.R_drewN | apply Kd.R_drew)); exact HO103.out))) (Kd.R_lt (by (with_reducible repeat (first | apply Kd.R_alloc | apply Kd.R_drewN | apply Kd.R_drew)); exact HO107.out))) (Kd.R_lt (by (with_reducible repeat (first | apply Kd.R_alloc | apply Kd.R_drewN | apply Kd.R_drew)); exact HO111.out))) (Kd.R_lt (by (with_reducible repeat (first | apply Kd.R_alloc | apply Kd.R_drewN | apply Kd.R_drew)); exact HO115.out))) (Kd.R_lt (by (with_reducible repeat (first | apply Kd.R_alloc | apply Kd.R_drewN | apply Kd.R_drew)); exact HO118.out))) (Kd.R_lt (by (with_reducible repeat (first | apply Kd.R_alloc | apply Kd.R_drewN | apply Kd.R_drew)); exact HO121.out))) (below_size (by repeat (first | (with_reducible first | exact HB.out | apply below_alloc | apply pw_below_drewN | apply below_drew1) | exact HB.out)))); have n7_ := Aside0.mk (below_step (by repeat (first | (with_reducible first | exact HB.out | apply below_alloc | apply pw_below_drewN | apply below_drew1) | exact HB.out)) hb); clear HO103; clear HO107; clear HO111; clear HO115; clear HO118; clear HO121; clear HB; have HO103 := n0_; have HO107 := n1_; have HO111 := n2_; have HO115 := n3_; have HO118 := n4_; have HO121 := n5_; have HO125 := n6_; have HB := n7_; clear n0_ n1_ n2_ n3_ n4_ n5_ n6_ n7_; (try clear hb); (try clear hb2); (try clear hk); (try clear hi); (try clear ho0); obtain ⟨Ao33, co33, eo33⟩ := Kd.R_slice HO115.out; subst eo33; have p126 : 0 ≤ (0 : Int) := (by omega); have q126 : 0 < (t112.length : Int) := of_decide_eq_true (by first | (with_reducible assumption) | assumption); obtain ⟨ad126, e126, hx126_0, hx126_1⟩ := at_T33 (Kd.R_reads' HO115.out).2.2 0 p126 q126; cases e126; have qi126 : (0 < t112.length) = True := eq_true (by omega); (try rw [show ((0 : Int)).toNat = 0 from rfl] at hx126_0); (try rw [show 0 * 2 = 0 from rfl] at hx126_0); (try rw [Addr.add_zero'] at hx126_0); (try rw [show ((0 : Int)).toNat = 0 from rfl] at hx126_1); (try rw [show 0 * 2 = 0 from rfl] at hx126_1); (try rw [Addr.add_zero'] at hx126_1); replace p126 := eq_true p126; replace q126 := eq_true q126; obtain ⟨Ao34, co34, eo34⟩ := Kd.R_slice HO125.out; subst eo34; have p127 : 0 ≤ (0 : Int) := (by omega); have q127 : 0 < (t122.length : Int) := of_decide_eq_true (by first | (with_reducible assumption) | assumption); obtain ⟨ad127, e127, hx127_0, hx127_1⟩ := at_T33 (Kd.R_reads' HO125.out).2.2 0 p127 q127; cases e127; have qi127 : (0 < t122.length) = True := eq_true (by omega); (try rw [show ((0 : Int)).toNat = 0 from rfl] at hx127_0); (try rw [show 0 * 2 = 0 from rfl] at hx127_0); (try rw [Addr.add_zero'] at hx127_0); (try rw [show ((0 : Int)).toNat = 0 from rfl] at hx127_1); (try rw [show 0 * 2 = 0 from rfl] at hx127_1); (try rw [Addr.add_zero'] at hx127_1); replace p127 := eq_true p127; replace q127 := eq_true q127; have p128 : 0 ≤ (1 : Int) := (by omega); have q128 : 1 < (t122.length : Int) := of_decide_eq_true (by first | (with_reducible assumption) | assumption); obtain ⟨ad128, e128, hx128_0, hx128_1⟩ := at_T33 (Kd.R_reads' HO125.out).2.2 1 p128 q128; obtain rfl : ad127 = ad128 := (by injection e128); (try simp only [show (1 : Int).toNat = 1 from rfl, Nat.reduceMul, Nat.reduceEqDiff, Go.Addr.add, ↓reduceIte] at hx128_0); (try simp only [show (1 : Int).toNat = 1 from rfl, Nat.reduceMul, Nat.reduceEqDiff, Go.Addr.add, ↓reduceIte] at hx128_1); have qi128 : (1 < t122.length) = True := eq_true (by omega); (try rw [show ((1 : Int)).toNat = 1 from rfl] at hx128_0); (try rw [show 1 * 2 = 2 from rfl] at hx128_0); (try rw [show ((1 : Int)).toNat = 1 from rfl] at hx128_1); (try rw [show 1 * 2 = 2 from rfl] at hx128_1); replace p128 := eq_true p128; replace q128 := eq_true q128) | (go_at_call 21; (with_reducible refine (files_Path.calls (⟨#[97, 47, 98, 46, 99]⟩ : ByteArray) true _ A17.out).mono ?_); rintro e w35 ⟨rfl, hb⟩; have n0_ := Aside0.mk (Kd.R_below (by (with_reducible repeat (first | apply Kd.R_alloc | apply Kd.R_drewN | apply Kd.R_drew)); exact HO103.out) hb); have n1_ := Aside0.mk (Kd.R_below (by (with_reducible repeat (first | apply Kd.R_alloc | apply Kd.R_drewN | apply Kd.R_drew)); exact HO107.out) hb); have n2_ := Aside0.mk (Kd.R_below (by (with_reducible repeat (first | apply Kd.R_alloc | apply Kd.R_drewN | apply Kd.R_drew)); exact HO111.out) hb); have n3_ := Aside0.mk (Kd.R_below (by (with_reducible repeat (first | apply Kd.R_alloc | apply Kd.R_drewN | apply Kd.R_drew)); exact HO115.out) hb); have n4_ := Aside0.mk (Kd.R_below (by (with_reducible repeat (first | apply Kd.R_alloc | apply Kd.R_drewN | apply Kd.R_drew)); exact HO118.out) hb); have n5_ := Aside0.mk (Kd.R_below (by (with_reducible repeat (first | apply Kd.R_alloc | apply Kd.R_drewN | apply Kd.R_drew)); exact HO121.out) hb); have n6_ := Aside0.mk (Kd.R_below (by (with_reducible repeat (first | apply Kd.R_alloc | apply Kd.R_drewN | apply Kd.R_drew)); exact HO125.out) hb); have n7_ := Aside0.mk (below_step (by repeat (first | (with_reducible first | exact HB.out | apply below_alloc | apply pw_below_drewN | apply below_drew1) | exact HB.out)) hb); clear HO103; clear HO107; clear HO111; clear HO115; clear HO118; clear HO121; clear HO125; clear HB; have HO103 := n0_; have HO107 := n1_; have HO111 := n2_; have HO115 := n3_; have HO118 := n4_; have HO121 := n5_; have HO125 := n6_; have HB := n7_; clear n0_ n1_ n2_ n3_ n4_ n5_ n6_ n7_; (try clear hb); (try clear hb2); (try clear hk); (try clear hi)) | (go_at_call 21; (with_reducible refine (files_Path.calls (⟨#[97, 47, 47, 98]⟩ : ByteArray) t130 _ A19.out).mono ?_); rintro e w36 ⟨rfl, hb⟩; have n0_ := Aside0.mk (Kd.R_below (by (with_reducible repeat (first | apply Kd.R_alloc | apply Kd.R_drewN | apply Kd.R_drew)); exact HO103.out) hb); have n1_ := Aside0.mk (Kd.R_below (by (with_reducible repeat (first | apply Kd.R_alloc | apply Kd.R_drewN | apply Kd.R_drew)); exact HO107.out) hb); have n2_ := Aside0.mk (Kd.R_below (by (with_reducible repeat (first | apply Kd.R_alloc | apply Kd.R_drewN | apply Kd.R_drew)); exact HO111.out) hb); have n3_ := Aside0.mk (Kd.R_below (by (with_reducible repeat (first | apply Kd.R_alloc | apply Kd.R_drewN | apply Kd.R_drew)); exact HO115.out) hb); have n4_ := Aside0.mk (Kd.R_below (by (with_reducible repeat (first | apply Kd.R_alloc | apply Kd.R_drewN | apply Kd.R_drew)); exact HO118.out) hb); have n5_ := Aside0.mk (Kd.R_below (by (with_reducible repeat (first | apply Kd.R_alloc | apply Kd.R_drewN | apply Kd.R_drew)); exact HO121.out) hb); have n6_ := Aside0.mk (Kd.R_below (by (with_reducible repeat (first | apply Kd.R_alloc | apply Kd.R_drewN | apply Kd.R_drew)); exact HO125.out) hb); have n7_ := Aside0.mk (below_step (by repeat (first | (with_reducible first | exact HB.out | apply below_alloc | apply pw_below_drewN | apply below_drew1) | exact HB.out)) hb); clear HO103; clear HO107; clear HO111; clear HO115; clear HO118; clear HO121; clear HO125; clear HB; have HO103 := n0_; have HO107 := n1_; have HO111 := n2_; have HO115 := n3_; have HO118 := n4_; have HO121 := n5_; have HO125 := n6_; have HB := n7_; clear n0_ n1_ n2_ n3_ n4_ n5_ n6_ n7_; (try clear hb); (try clear hb2); (try clear hk); (try clear hi)))
                            go_ret
                            exact ⟨by first | rfl | (simp [errW_none, errW_some] <;> rfl) | (simp [*, errW_none, errW_some] <;> rfl), by repeat (first | (with_reducible first | exact HB.out | apply below_alloc | apply pw_below_drewN | apply below_drew1) | exact HB.out)⟩
                          · replace c18 := Bool.eq_false_iff.mpr c18
                            subst c18
                            have H1 : (none) = some r := by rw [if_neg (show ¬ (false = true) by decide)] at H; exact H
                            clear H
                            have H := H1
                            clear H1
                            exact absurd H (by simp)
                        · rw [if_neg c16] at H
                          exact absurd H (by simp)
                      · rw [if_neg c15] at H
                        exact absurd H (by simp)
                    · rw [if_neg c14] at H
                      exact absurd H (by simp)
                  · rw [if_neg c13] at H
                    exact absurd H (by simp)
                · rw [if_neg c12] at H
                  exact absurd H (by simp)
              · rw [if_neg c11] at H
                exact absurd H (by simp)
            · rw [if_neg c10] at H
              exact absurd H (by simp)
          · rw [if_neg c9] at H
            exact absurd H (by simp)
        · rw [if_neg c8] at H
          exact absurd H (by simp)
      · rw [if_neg c7] at H
        exact absurd H (by simp)
    · rw [if_neg c6] at H
      exact absurd H (by simp)
  · rw [if_neg c5] at H
    exact absurd H (by simp)

/-! ### bastionlaw17_large: function 15 -/
def bastionlaw17_large.l0 : Nat → List (S33) → Int → Int → Option (Bool)
  | 0, _, _, _ => none
  | k + 1, x0, x3, x4 => if x4 < (x0.length : Int) then (if x3 < 70000 then (if 0 ≤ x4 then (bastionlaw17_large.l0 k x0 (wrap64 ((wrap64 (x3 + (((rd_T33 x0 x4).f0).size : Int))) + (((rd_T33 x0 x4).f1).size : Int))) (wrap64 (x4 + 1))) else (none)) else (if (x0.length : Int) > 70 then (some true) else (some (decide (x3 ≥ 70000))))) else (if (x0.length : Int) > 70 then (some true) else (some (decide (x3 ≥ 70000))))
def bastionlaw17_large.f (k : Nat) (l0 : List (S33)) : Option (Bool) := bastionlaw17_large.l0 k l0 (l0.length : Int) 0
theorem bastionlaw17_large.mono_l : ∀ k, (∀ y0 y1 y2, LeO (bastionlaw17_large.l0 k y0 y1 y2) (bastionlaw17_large.l0 (k + 1) y0 y1 y2))
  | 0 => fun _ _ _ r h => by simp [bastionlaw17_large.l0] at h
  | k + 1 => by
    have ih0 := bastionlaw17_large.mono_l k
    · intro y0 y1 y2
      unfold bastionlaw17_large.l0
      repeat' first
      | (with_reducible exact ih0 _ _ _)
      | (with_reducible exact LeO.refl _)
      | (with_reducible exact LeO.none _)
      | (with_reducible refine LeO.ite ?_ ?_)
      | (with_reducible refine LeO.bind ?_ (fun _ => ?_))
      | exact ih0 _ _ _
      | exact LeO.none _
      | refine LeO.ite ?_ ?_
      | refine LeO.bind ?_ (fun _ => ?_)
theorem bastionlaw17_large.mono : ∀ a0 k, LeO (bastionlaw17_large.f k a0) (bastionlaw17_large.f (k + 1) a0) := by
  intro a0 k
  have ih0 := bastionlaw17_large.mono_l k
  unfold bastionlaw17_large.f
  repeat' first
      | (with_reducible exact ih0 _ _ _)
      | (with_reducible exact LeO.refl _)
      | (with_reducible exact LeO.none _)
      | (with_reducible refine LeO.ite ?_ ?_)
      | (with_reducible refine LeO.bind ?_ (fun _ => ?_))
      | exact ih0 _ _ _
      | exact LeO.none _
      | refine LeO.ite ?_ ?_
      | refine LeO.bind ?_ (fun _ => ?_)
set_option maxHeartbeats 8000000 in
set_option maxRecDepth 100000 in
theorem bastionlaw17_large.calls (k : Nat) (A0 : Option Addr) (c0 : Nat) (l0 : List (S33)) (r : Bool) (w : World) (hr0 : Kd.C k33 w A0 l0.length l0) (hc0 : l0.length ≤ c0) (h : bastionlaw17_large.f k l0 = some r) :
    Calls Try.prog 15 #[.slice A0 l0.length c0] w fun e w' => e = .returned (.bool r) ∧ Drawn0 w w' := by
  have HR0 := Aside0.mk hr0
  have HC0 := Aside0.mk hc0
  clear hr0 hc0
  have H : (bastionlaw17_large.l0 k l0 (l0.length : Int) 0) = some r := h
  clear h
  have H' := Aside0.mk H
  clear H
  go_enter Try.func15, Try.ntmps15
  go_wp2
  repeat (go_quiet (fail); try go_wp2)
  go_loopg [3, 4] k (fun kq v3 v4 w' => ∃ (x3_1 : Int) (x4_1 : Int), v3 = .int .i64 x3_1 ∧ v4 = .int .i64 x4_1 ∧ Aside0 (bastionlaw17_large.l0 kq l0 x3_1 x4_1 = some r) ∧ Aside0 (kq ≤ k) ∧ Drawn0 w w')
  case atStart => exact ⟨((l0.length : Int)), (0), (by first | rfl | (simp; done) | (simp [*]; done)), (by first | rfl | (simp; done) | (simp [*]; done)), H', ⟨Nat.le_refl _⟩, by repeat (first | exact Drawn0.refl _ | apply Drawn0.step)⟩
  case round =>
    clear H'
    try clear c1
    obtain ⟨x3_1, x4_1, rfl, rfl, HA, HK1, ⟨m1, rfl⟩⟩ := hrel
    cases gk with
    | zero => exact absurd HA.out (by simp [bastionlaw17_large.l0])
    | succ k1 =>
      have H := HA.out
      clear HA
      simp only [bastionlaw17_large.l0] at H
      by_cases c2 : x4_1 < (l0.length : Int)
      · rw [if_pos c2] at H
        have c2b0 : decide (x4_1 < (l0.length : Int)) = true := decide_eq_true c2
        clear c2
        by_cases c3 : x3_1 < 70000
        · rw [if_pos c3] at H
          have c3b0 : decide (x3_1 < 70000) = true := decide_eq_true c3
          clear c3
          by_cases c4 : 0 ≤ x4_1
          · rw [if_pos c4] at H
            have c4b0 : decide (0 ≤ x4_1) = true := decide_eq_true c4
            clear c4
            have H' := Aside0.mk H
            clear H
            have p131 : 0 ≤ (x4_1 : Int) := of_decide_eq_true (by first | (with_reducible assumption) | assumption)
            have q131 : x4_1 < (l0.length : Int) := of_decide_eq_true (by first | (with_reducible assumption) | assumption)
            obtain ⟨ad131, e131, hx131_0, hx131_1⟩ := at_T33 HR0.out x4_1 p131 q131
            cases e131
            replace p131 := eq_true p131
            replace q131 := eq_true q131
            have p132 : 0 ≤ (x4_1 : Int) := of_decide_eq_true (by first | (with_reducible assumption) | assumption)
            have q132 : x4_1 < (l0.length : Int) := of_decide_eq_true (by first | (with_reducible assumption) | assumption)
            obtain ⟨ad132, e132, hx132_0, hx132_1⟩ := at_T33 HR0.out x4_1 p132 q132
            obtain rfl : ad131 = ad132 := (by injection e132)
            replace p132 := eq_true p132
            replace q132 := eq_true q132
            go_wp2
            repeat (go_quiet (fail); try go_wp2)
            go_roundg k1
            case measure => have := HK1.out; omega
            case rel => exact ⟨(wrap64 ((wrap64 (x3_1 + (((rd_T33 l0 x4_1).f0).size : Int))) + (((rd_T33 l0 x4_1).f1).size : Int))), (wrap64 (x4_1 + 1)), (by first | rfl | (simp; done) | (simp [*]; done)), (by first | rfl | (simp; done) | (simp [*]; done)), H', ⟨by have := HK1.out; omega⟩, by repeat (first | exact Drawn0.refl _ | apply Drawn0.step)⟩
          · rw [if_neg c4] at H
            exact absurd H (by simp)
        · rw [if_neg c3] at H
          have c3b0 : decide (x3_1 < 70000) = false := decide_eq_false c3
          clear c3
          by_cases c5 : (l0.length : Int) > 70
          · rw [if_pos c5] at H
            have c5b0 : decide (70 < (l0.length : Int)) = true := decide_eq_true c5
            have c5b1 : decide (70 < l0.length) = true := decide_eq_true (by omega)
            clear c5
            obtain rfl := Option.some.inj H
            go_wp2
            repeat (go_quiet (fail); try go_wp2)
            go_ret
            exact ⟨by first | rfl | (simp; done) | (simp [*]; done), by repeat (first | exact Drawn0.refl _ | apply Drawn0.step)⟩
          · rw [if_neg c5] at H
            have c5b0 : decide (70 < (l0.length : Int)) = false := decide_eq_false c5
            have c5b1 : decide (70 < l0.length) = false := decide_eq_false (by omega)
            clear c5
            obtain rfl := Option.some.inj H
            go_wp2
            repeat (go_quiet (fail); try go_wp2)
            go_ret
            exact ⟨by first | rfl | (simp; done) | (simp [*]; done), by repeat (first | exact Drawn0.refl _ | apply Drawn0.step)⟩
      · rw [if_neg c2] at H
        have c2b0 : decide (x4_1 < (l0.length : Int)) = false := decide_eq_false c2
        clear c2
        by_cases c6 : (l0.length : Int) > 70
        · rw [if_pos c6] at H
          have c6b0 : decide (70 < (l0.length : Int)) = true := decide_eq_true c6
          have c6b1 : decide (70 < l0.length) = true := decide_eq_true (by omega)
          clear c6
          obtain rfl := Option.some.inj H
          go_wp2
          repeat (go_quiet (fail); try go_wp2)
          go_ret
          exact ⟨by first | rfl | (simp; done) | (simp [*]; done), by repeat (first | exact Drawn0.refl _ | apply Drawn0.step)⟩
        · rw [if_neg c6] at H
          have c6b0 : decide (70 < (l0.length : Int)) = false := decide_eq_false c6
          have c6b1 : decide (70 < l0.length) = false := decide_eq_false (by omega)
          clear c6
          obtain rfl := Option.some.inj H
          go_wp2
          repeat (go_quiet (fail); try go_wp2)
          go_ret
          exact ⟨by first | rfl | (simp; done) | (simp [*]; done), by repeat (first | exact Drawn0.refl _ | apply Drawn0.step)⟩

-- OF THIS SESSION: function 16 (files_Check) in Derived.Test.YtgbkoeinfhlpoaaECheck

/-! ### api_File: function 49 -/
def api_File.l0 : Nat → List (S33) → List (S33) → Int → Int → Option (Bool)
  | 0, _, _, _, _ => none
  | k + 1, x0, x1, x12, x13 => if x13 < x12 then (if 0 ≤ x13 then (if x13 < (x0.length : Int) then (if x13 < (x1.length : Int) then (if (!((((rd_T33 x0 x13).f0).toList) == (((rd_T33 x1 x13).f0).toList)) || (!((((rd_T33 x0 x13).f1).toList) == (((rd_T33 x1 x13).f1).toList)))) = true then (some false) else (api_File.l0 k x0 x1 x12 (wrap64 (x13 + 1)))) else (none)) else (none)) else (none)) else (some true)
def api_File.f (k : Nat) (l0 : List (S33)) (l1 : List (S33)) : Option (Bool) := if (l0.length : Int) = (l1.length : Int) then (api_File.l0 k l0 l1 (l0.length : Int) 0) else (some false)
theorem api_File.mono_l : ∀ k, (∀ y0 y1 y2 y3, LeO (api_File.l0 k y0 y1 y2 y3) (api_File.l0 (k + 1) y0 y1 y2 y3))
  | 0 => fun _ _ _ _ r h => by simp [api_File.l0] at h
  | k + 1 => by
    have ih0 := api_File.mono_l k
    · intro y0 y1 y2 y3
      unfold api_File.l0
      repeat' first
      | (with_reducible exact ih0 _ _ _ _)
      | (with_reducible exact LeO.refl _)
      | (with_reducible exact LeO.none _)
      | (with_reducible refine LeO.ite ?_ ?_)
      | (with_reducible refine LeO.bind ?_ (fun _ => ?_))
      | exact ih0 _ _ _ _
      | exact LeO.none _
      | refine LeO.ite ?_ ?_
      | refine LeO.bind ?_ (fun _ => ?_)
theorem api_File.mono : ∀ a0 a1 k, LeO (api_File.f k a0 a1) (api_File.f (k + 1) a0 a1) := by
  intro a0 a1 k
  have ih0 := api_File.mono_l k
  unfold api_File.f
  repeat' first
      | (with_reducible exact ih0 _ _ _ _)
      | (with_reducible exact LeO.refl _)
      | (with_reducible exact LeO.none _)
      | (with_reducible refine LeO.ite ?_ ?_)
      | (with_reducible refine LeO.bind ?_ (fun _ => ?_))
      | exact ih0 _ _ _ _
      | exact LeO.none _
      | refine LeO.ite ?_ ?_
      | refine LeO.bind ?_ (fun _ => ?_)
set_option maxHeartbeats 8000000 in
set_option maxRecDepth 100000 in
theorem api_File.calls (k : Nat) (A0 : Option Addr) (c0 : Nat) (l0 : List (S33)) (A1 : Option Addr) (c1 : Nat) (l1 : List (S33)) (r : Bool) (w : World) (hr0 : Kd.C k33 w A0 l0.length l0) (hc0 : l0.length ≤ c0) (hr1 : Kd.C k33 w A1 l1.length l1) (hc1 : l1.length ≤ c1) (h : api_File.f k l0 l1 = some r) :
    Calls Try.prog 49 #[.slice A0 l0.length c0, .slice A1 l1.length c1] w fun e w' => e = .returned (.bool r) ∧ Drawn0 w w' := by
  have hu33 := Try.underlying33
  have HR0 := Aside0.mk hr0
  have HC0 := Aside0.mk hc0
  clear hr0 hc0
  have HR1 := Aside0.mk hr1
  have HC1 := Aside0.mk hc1
  clear hr1 hc1
  have H : (if (l0.length : Int) = (l1.length : Int) then (api_File.l0 k l0 l1 (l0.length : Int) 0) else (some false)) = some r := h
  clear h
  by_cases c3 : (l0.length : Int) = (l1.length : Int)
  · rw [if_pos c3] at H
    have c3b0 : ((l0.length : Int) == (l1.length : Int)) = true := beq_iff_eq.mpr c3
    have c3b1 : ((l0.length : Int) != (l1.length : Int)) = false := bne_eq_false_iff_eq.mpr c3
    have c3b2 : (l0.length == l1.length) = true := by first | simpa using c3 | (simp at c3 ⊢; omega)
    clear c3
    have H' := Aside0.mk H
    clear H
    go_enter Try.func49, Try.ntmps49
    go_wp2
    repeat (go_quiet (fail); try go_wp2)
    go_loopg [13] k (fun kq v13 w' => ∃ (x13_1 : Int), v13 = .int .i64 x13_1 ∧ Aside0 (api_File.l0 kq l0 l1 (l0.length : Int) x13_1 = some r) ∧ Aside0 (kq ≤ k) ∧ Drawn0 w w')
    case atStart => exact ⟨(0), (by first | rfl | (simp; done) | (simp [*]; done)), H', ⟨Nat.le_refl _⟩, by repeat (first | exact Drawn0.refl _ | apply Drawn0.step)⟩
    case round =>
      clear H'
      try clear c1
      try clear p2
      try clear c3
      try clear c3b0
      try clear c3b1
      try clear c3b2
      obtain ⟨x13_1, rfl, HA, HK1, ⟨m1, rfl⟩⟩ := hrel
      cases gk with
      | zero => exact absurd HA.out (by simp [api_File.l0])
      | succ k1 =>
        have H := HA.out
        clear HA
        simp only [api_File.l0] at H
        by_cases c4 : x13_1 < (l0.length : Int)
        · rw [if_pos c4] at H
          have c4b0 : decide (x13_1 < (l0.length : Int)) = true := decide_eq_true c4
          clear c4
          by_cases c5 : 0 ≤ x13_1
          · rw [if_pos c5] at H
            have c5b0 : decide (0 ≤ x13_1) = true := decide_eq_true c5
            clear c5
            by_cases c6 : x13_1 < (l0.length : Int)
            · rw [if_pos c6] at H
              have c6b0 : decide (x13_1 < (l0.length : Int)) = true := decide_eq_true c6
              clear c6
              by_cases c7 : x13_1 < (l1.length : Int)
              · rw [if_pos c7] at H
                have c7b0 : decide (x13_1 < (l1.length : Int)) = true := decide_eq_true c7
                clear c7
                by_cases c8 : (!((((rd_T33 l0 x13_1).f0).toList) == (((rd_T33 l1 x13_1).f0).toList)) || (!((((rd_T33 l0 x13_1).f1).toList) == (((rd_T33 l1 x13_1).f1).toList)))) = true
                · rw [if_pos c8] at H
                  have c8b0 : (!((((rd_T33 l0 x13_1).f0).toList) == (((rd_T33 l1 x13_1).f0).toList)) || (!((((rd_T33 l0 x13_1).f1).toList) == (((rd_T33 l1 x13_1).f1).toList)))) = true := c8
                  clear c8
                  obtain rfl := Option.some.inj H
                  have p133 : 0 ≤ (x13_1 : Int) := of_decide_eq_true (by first | (with_reducible assumption) | assumption)
                  have q133 : x13_1 < (l0.length : Int) := of_decide_eq_true (by first | (with_reducible assumption) | assumption)
                  obtain ⟨ad133, e133, hx133_0, hx133_1⟩ := at_T33 HR0.out x13_1 p133 q133
                  cases e133
                  replace p133 := eq_true p133
                  replace q133 := eq_true q133
                  have p134 : 0 ≤ (x13_1 : Int) := of_decide_eq_true (by first | (with_reducible assumption) | assumption)
                  have q134 : x13_1 < (l1.length : Int) := of_decide_eq_true (by first | (with_reducible assumption) | assumption)
                  obtain ⟨ad134, e134, hx134_0, hx134_1⟩ := at_T33 HR1.out x13_1 p134 q134
                  cases e134
                  replace p134 := eq_true p134
                  replace q134 := eq_true q134
                  go_wp2
                  repeat (go_quiet (fail); try go_wp2)
                  go_ret
                  exact ⟨by first | rfl | (simp; done) | (simp [*]; done), by repeat (first | exact Drawn0.refl _ | apply Drawn0.step)⟩
                · rw [if_neg c8] at H
                  have c8b0 : (!((((rd_T33 l0 x13_1).f0).toList) == (((rd_T33 l1 x13_1).f0).toList)) || (!((((rd_T33 l0 x13_1).f1).toList) == (((rd_T33 l1 x13_1).f1).toList)))) = false := by simpa using c8
                  clear c8
                  have H' := Aside0.mk H
                  clear H
                  have p133 : 0 ≤ (x13_1 : Int) := of_decide_eq_true (by first | (with_reducible assumption) | assumption)
                  have q133 : x13_1 < (l0.length : Int) := of_decide_eq_true (by first | (with_reducible assumption) | assumption)
                  obtain ⟨ad133, e133, hx133_0, hx133_1⟩ := at_T33 HR0.out x13_1 p133 q133
                  cases e133
                  replace p133 := eq_true p133
                  replace q133 := eq_true q133
                  have p134 : 0 ≤ (x13_1 : Int) := of_decide_eq_true (by first | (with_reducible assumption) | assumption)
                  have q134 : x13_1 < (l1.length : Int) := of_decide_eq_true (by first | (with_reducible assumption) | assumption)
                  obtain ⟨ad134, e134, hx134_0, hx134_1⟩ := at_T33 HR1.out x13_1 p134 q134
                  cases e134
                  replace p134 := eq_true p134
                  replace q134 := eq_true q134
                  go_wp2
                  repeat (go_quiet (fail); try go_wp2)
                  go_roundg k1
                  case measure => have := HK1.out; omega
                  case rel => exact ⟨(wrap64 (x13_1 + 1)), (by first | rfl | (simp; done) | (simp [*]; done)), H', ⟨by have := HK1.out; omega⟩, by repeat (first | exact Drawn0.refl _ | apply Drawn0.step)⟩
              · rw [if_neg c7] at H
                exact absurd H (by simp)
            · rw [if_neg c6] at H
              exact absurd H (by simp)
          · rw [if_neg c5] at H
            exact absurd H (by simp)
        · rw [if_neg c4] at H
          have c4b0 : decide (x13_1 < (l0.length : Int)) = false := decide_eq_false c4
          clear c4
          obtain rfl := Option.some.inj H
          go_wp2
          repeat (go_quiet (fail); try go_wp2)
          go_ret
          exact ⟨by first | rfl | (simp; done) | (simp [*]; done), by repeat (first | exact Drawn0.refl _ | apply Drawn0.step)⟩
  · rw [if_neg c3] at H
    have c3b0 : ((l0.length : Int) == (l1.length : Int)) = false := beq_eq_false_iff_ne.mpr c3
    have c3b1 : ((l0.length : Int) != (l1.length : Int)) = true := bne_iff_ne.mpr c3
    have c3b2 : (l0.length == l1.length) = false := by first | simpa using c3 | (simp at c3 ⊢; omega)
    obtain rfl := Option.some.inj H
    go_enter Try.func49, Try.ntmps49
    go_wp2
    repeat (go_quiet (fail); try go_wp2)
    go_ret
    exact ⟨by first | rfl | (simp; done) | (simp [*]; done), by repeat (first | exact Drawn0.refl _ | apply Drawn0.step)⟩

/-! ### files_Same: function 18 -/
def files_Same.f (k : Nat) (l0 : List (S33)) (l1 : List (S33)) : Option (Bool) := (api_File.f k l0 l1).bind fun t135 => (some t135)
theorem files_Same.mono : ∀ a0 a1 k, LeO (files_Same.f k a0 a1) (files_Same.f (k + 1) a0 a1) := by
  intro a0 a1 k
  unfold files_Same.f
  repeat' first
      | (with_reducible exact api_File.mono _ _ _)
      | (with_reducible exact LeO.refl _)
      | (with_reducible exact LeO.none _)
      | (with_reducible refine LeO.ite ?_ ?_)
      | (with_reducible refine LeO.bind ?_ (fun _ => ?_))
      | exact api_File.mono _ _ _
      | exact LeO.none _
      | refine LeO.ite ?_ ?_
      | refine LeO.bind ?_ (fun _ => ?_)
set_option maxHeartbeats 8000000 in
set_option maxRecDepth 100000 in
theorem files_Same.calls (k : Nat) (A0 : Option Addr) (c0 : Nat) (l0 : List (S33)) (A1 : Option Addr) (c1 : Nat) (l1 : List (S33)) (r : Bool) (w : World) (hr0 : Kd.C k33 w A0 l0.length l0) (hc0 : l0.length ≤ c0) (hr1 : Kd.C k33 w A1 l1.length l1) (hc1 : l1.length ≤ c1) (h : files_Same.f k l0 l1 = some r) :
    Calls Try.prog 18 #[.slice A0 l0.length c0, .slice A1 l1.length c1] w fun e w' => e = .returned (.bool r) ∧ Drawn0 w w' := by
  have HR0 := Aside0.mk hr0
  have HC0 := Aside0.mk hc0
  clear hr0 hc0
  have HR1 := Aside0.mk hr1
  have HC1 := Aside0.mk hc1
  clear hr1 hc1
  have H : ((api_File.f k l0 l1).bind fun t135 => (some t135)) = some r := h
  clear h
  replace H := Option.bind_eq_some_iff.mp H
  obtain ⟨t135, A30, H⟩ := H
  replace H : (some t135) = some r := H
  have A3 := Aside0.mk A30
  clear A30
  obtain rfl := Option.some.inj H
  go_enter Try.func18, Try.ntmps18
  go_wp2_with (first | ((with_reducible refine gate_callee (f := 49) rfl ?_); refine goesL_ (some 7) rfl rfl Try.func49 (by kernel_rfl) rfl #[.slice A0 l0.length c0, .slice A1 l1.length c1] rfl (by (try simp only [List.map_toArray, List.map_cons, List.map_nil]); first | done | rfl | (simp only [List.length_drop, List.length_take]; rfl)) ?_; (with_reducible refine (api_File.calls k _ _ l0 _ _ l1 t135 _ ?side1 ?side2 ?side3 ?side4 A3.out).mono ?_); (case side1 => repeat (first | exact HR0.out | (with_reducible refine Kd.C_alloc ?_ _) | (with_reducible refine Kd.C_drewN ?_ _) | (with_reducible refine Kd.C_drew ?_))); (case side2 => exact HC0.out); (case side3 => repeat (first | exact HR1.out | (with_reducible refine Kd.C_alloc ?_ _) | (with_reducible refine Kd.C_drewN ?_ _) | (with_reducible refine Kd.C_drew ?_))); (case side4 => exact HC1.out); rintro e w' ⟨rfl, ⟨nd, rfl⟩⟩; refine ⟨_, rfl, ?_⟩))
  go_ret
  exact ⟨by first | rfl | (simp; done) | (simp [*]; done), by repeat (first | exact Drawn0.refl _ | apply Drawn0.step)⟩

-- OF THIS SESSION: function 19 (files_Get) in Derived.Test.YtgbkoeinfhlpoaaEGet

end Go.Proofs.Ytgbkoeinfhlpoaa.F
