-- printed by a program of this session (a turned copy of the kit's printing program) out of the translation: not trusted, Lean checks it
import Derived.Test.YtgbkoeinfhlpoaaFx0
namespace Go.Proofs.Ytgbkoeinfhlpoaa.F
open Go.RowKit Go.Proofs.YtgbkoeinfhlpoaaW.PrintWords Go.Proofs.YtgbkoeinfhlpoaaW.PrintLast Go.Proofs.YtgbkoeinfhlpoaaW.PrintMore
attribute [local go_sem] max2_int min2_int max_two min_two max_three min_three max_four min_four   -- for this text's walks alone
set_option linter.unusedVariables false
set_option linter.unusedSimpArgs false

/-! ### bastionref17_Path: function 93 -/
mutual
def bastionref17_Path.j0 : Nat → ByteArray → Bool → Option (Bool)
  | 0, _, _ => none
  | k + 1, x0, x13 => if x13 = true then (some false) else (bastionref17_Path.l0 k x0 0 0)
def bastionref17_Path.l0 : Nat → ByteArray → Int → Int → Option (Bool)
  | 0, _, _, _ => none
  | k + 1, x0, x3, x4 => if x4 ≤ (x0.size : Int) then (if x4 < (x0.size : Int) then (if 0 ≤ x4 then (bastionref17_Path.j2 k x0 x3 x4 ((bt x0 x4) != 47)) else (none)) else (bastionref17_Path.j2 k x0 x3 x4 false)) else (some true)
def bastionref17_Path.j2 : Nat → ByteArray → Int → Int → Bool → Option (Bool)
  | 0, _, _, _, _ => none
  | k + 1, x0, x3, x4, x29 => if x29 = true then (if 0 ≤ x4 then (if x4 < (x0.size : Int) then (if (bt x0 x4) ≥ 97 then (if ((bt x0 x4) ≤ 122) then (bastionref17_Path.j3 k x0 x3 x4 false) else (if (bt x0 x4) ≥ 65 then (if ((bt x0 x4) ≤ 90) then (bastionref17_Path.j3 k x0 x3 x4 false) else (if (bt x0 x4) ≥ 48 then (if ((bt x0 x4) ≤ 57) then (bastionref17_Path.j3 k x0 x3 x4 false) else (if (bt x0 x4) = 45 then (bastionref17_Path.j3 k x0 x3 x4 false) else (if (bt x0 x4) = 95 then (bastionref17_Path.j3 k x0 x3 x4 false) else (bastionref17_Path.j3 k x0 x3 x4 ((bt x0 x4) != 46))))) else (if (bt x0 x4) = 45 then (bastionref17_Path.j3 k x0 x3 x4 false) else (if (bt x0 x4) = 95 then (bastionref17_Path.j3 k x0 x3 x4 false) else (bastionref17_Path.j3 k x0 x3 x4 ((bt x0 x4) != 46)))))) else (if (bt x0 x4) ≥ 48 then (if ((bt x0 x4) ≤ 57) then (bastionref17_Path.j3 k x0 x3 x4 false) else (if (bt x0 x4) = 45 then (bastionref17_Path.j3 k x0 x3 x4 false) else (if (bt x0 x4) = 95 then (bastionref17_Path.j3 k x0 x3 x4 false) else (bastionref17_Path.j3 k x0 x3 x4 ((bt x0 x4) != 46))))) else (if (bt x0 x4) = 45 then (bastionref17_Path.j3 k x0 x3 x4 false) else (if (bt x0 x4) = 95 then (bastionref17_Path.j3 k x0 x3 x4 false) else (bastionref17_Path.j3 k x0 x3 x4 ((bt x0 x4) != 46))))))) else (if (bt x0 x4) ≥ 65 then (if ((bt x0 x4) ≤ 90) then (bastionref17_Path.j3 k x0 x3 x4 false) else (if (bt x0 x4) ≥ 48 then (if ((bt x0 x4) ≤ 57) then (bastionref17_Path.j3 k x0 x3 x4 false) else (if (bt x0 x4) = 45 then (bastionref17_Path.j3 k x0 x3 x4 false) else (if (bt x0 x4) = 95 then (bastionref17_Path.j3 k x0 x3 x4 false) else (bastionref17_Path.j3 k x0 x3 x4 ((bt x0 x4) != 46))))) else (if (bt x0 x4) = 45 then (bastionref17_Path.j3 k x0 x3 x4 false) else (if (bt x0 x4) = 95 then (bastionref17_Path.j3 k x0 x3 x4 false) else (bastionref17_Path.j3 k x0 x3 x4 ((bt x0 x4) != 46)))))) else (if (bt x0 x4) ≥ 48 then (if ((bt x0 x4) ≤ 57) then (bastionref17_Path.j3 k x0 x3 x4 false) else (if (bt x0 x4) = 45 then (bastionref17_Path.j3 k x0 x3 x4 false) else (if (bt x0 x4) = 95 then (bastionref17_Path.j3 k x0 x3 x4 false) else (bastionref17_Path.j3 k x0 x3 x4 ((bt x0 x4) != 46))))) else (if (bt x0 x4) = 45 then (bastionref17_Path.j3 k x0 x3 x4 false) else (if (bt x0 x4) = 95 then (bastionref17_Path.j3 k x0 x3 x4 false) else (bastionref17_Path.j3 k x0 x3 x4 ((bt x0 x4) != 46))))))) else (none)) else (none)) else (if 0 ≤ x3 then (if x3 ≤ x4 then (if x4 ≤ (x0.size : Int) then (if (x0.extract (x3 : Int).toNat (x4 : Int).toNat).toList = ([] : List UInt8) then (some false) else (if (x0.extract (x3 : Int).toNat (x4 : Int).toNat).toList = ([46] : List UInt8) then (some false) else (if (x0.extract (x3 : Int).toNat (x4 : Int).toNat).toList = ([46, 46] : List UInt8) then (some false) else (bastionref17_Path.l0 k x0 (wrap64 (x4 + 1)) (wrap64 (x4 + 1)))))) else (none)) else (none)) else (none))
def bastionref17_Path.j3 : Nat → ByteArray → Int → Int → Bool → Option (Bool)
  | 0, _, _, _, _ => none
  | k + 1, x0, x3, x4, x69 => if x69 = true then (some false) else (bastionref17_Path.l0 k x0 x3 (wrap64 (x4 + 1)))
end
def bastionref17_Path.f (k : Nat) (a0 : ByteArray) : Option (Bool) := if (a0.size : Int) > 48 then (bastionref17_Path.j0 k a0 true) else (bastionref17_Path.j0 k a0 (a0.toList == ([] : List UInt8)))
theorem bastionref17_Path.mono_l : ∀ k, (∀ y0 y1, LeO (bastionref17_Path.j0 k y0 y1) (bastionref17_Path.j0 (k + 1) y0 y1)) ∧ (∀ y0 y1 y2, LeO (bastionref17_Path.l0 k y0 y1 y2) (bastionref17_Path.l0 (k + 1) y0 y1 y2)) ∧ (∀ y0 y1 y2 y3, LeO (bastionref17_Path.j2 k y0 y1 y2 y3) (bastionref17_Path.j2 (k + 1) y0 y1 y2 y3)) ∧ (∀ y0 y1 y2 y3, LeO (bastionref17_Path.j3 k y0 y1 y2 y3) (bastionref17_Path.j3 (k + 1) y0 y1 y2 y3))
  | 0 => ⟨fun _ _ r h => by simp [bastionref17_Path.j0] at h, fun _ _ _ r h => by simp [bastionref17_Path.l0] at h, fun _ _ _ _ r h => by simp [bastionref17_Path.j2] at h, fun _ _ _ _ r h => by simp [bastionref17_Path.j3] at h⟩
  | k + 1 => by
    obtain ⟨ih0, ih1, ih2, ih3⟩ := bastionref17_Path.mono_l k
    refine ⟨?_, ?_, ?_, ?_⟩
    · intro y0 y1
      unfold bastionref17_Path.j0
      repeat' first
      | (with_reducible exact ih0 _ _)
      | (with_reducible exact ih1 _ _ _)
      | (with_reducible exact ih2 _ _ _ _)
      | (with_reducible exact ih3 _ _ _ _)
      | (with_reducible exact LeO.refl _)
      | (with_reducible exact LeO.none _)
      | (with_reducible refine LeO.ite ?_ ?_)
      | (with_reducible refine LeO.bind ?_ (fun _ => ?_))
      | exact ih0 _ _
      | exact ih1 _ _ _
      | exact ih2 _ _ _ _
      | exact ih3 _ _ _ _
      | exact LeO.none _
      | refine LeO.ite ?_ ?_
      | refine LeO.bind ?_ (fun _ => ?_)
    · intro y0 y1 y2
      unfold bastionref17_Path.l0
      repeat' first
      | (with_reducible exact ih0 _ _)
      | (with_reducible exact ih1 _ _ _)
      | (with_reducible exact ih2 _ _ _ _)
      | (with_reducible exact ih3 _ _ _ _)
      | (with_reducible exact LeO.refl _)
      | (with_reducible exact LeO.none _)
      | (with_reducible refine LeO.ite ?_ ?_)
      | (with_reducible refine LeO.bind ?_ (fun _ => ?_))
      | exact ih0 _ _
      | exact ih1 _ _ _
      | exact ih2 _ _ _ _
      | exact ih3 _ _ _ _
      | exact LeO.none _
      | refine LeO.ite ?_ ?_
      | refine LeO.bind ?_ (fun _ => ?_)
    · intro y0 y1 y2 y3
      unfold bastionref17_Path.j2
      repeat' first
      | (with_reducible exact ih0 _ _)
      | (with_reducible exact ih1 _ _ _)
      | (with_reducible exact ih2 _ _ _ _)
      | (with_reducible exact ih3 _ _ _ _)
      | (with_reducible exact LeO.refl _)
      | (with_reducible exact LeO.none _)
      | (with_reducible refine LeO.ite ?_ ?_)
      | (with_reducible refine LeO.bind ?_ (fun _ => ?_))
      | exact ih0 _ _
      | exact ih1 _ _ _
      | exact ih2 _ _ _ _
      | exact ih3 _ _ _ _
      | exact LeO.none _
      | refine LeO.ite ?_ ?_
      | refine LeO.bind ?_ (fun _ => ?_)
    · intro y0 y1 y2 y3
      unfold bastionref17_Path.j3
      repeat' first
      | (with_reducible exact ih0 _ _)
      | (with_reducible exact ih1 _ _ _)
      | (with_reducible exact ih2 _ _ _ _)
      | (with_reducible exact ih3 _ _ _ _)
      | (with_reducible exact LeO.refl _)
      | (with_reducible exact LeO.none _)
      | (with_reducible refine LeO.ite ?_ ?_)
      | (with_reducible refine LeO.bind ?_ (fun _ => ?_))
      | exact ih0 _ _
      | exact ih1 _ _ _
      | exact ih2 _ _ _ _
      | exact ih3 _ _ _ _
      | exact LeO.none _
      | refine LeO.ite ?_ ?_
      | refine LeO.bind ?_ (fun _ => ?_)
theorem bastionref17_Path.mono : ∀ a0 k, LeO (bastionref17_Path.f k a0) (bastionref17_Path.f (k + 1) a0) := by
  intro a0 k
  obtain ⟨ih0, ih1, ih2, ih3⟩ := bastionref17_Path.mono_l k
  unfold bastionref17_Path.f
  repeat' first
      | (with_reducible exact ih0 _ _)
      | (with_reducible exact ih1 _ _ _)
      | (with_reducible exact ih2 _ _ _ _)
      | (with_reducible exact ih3 _ _ _ _)
      | (with_reducible exact LeO.refl _)
      | (with_reducible exact LeO.none _)
      | (with_reducible refine LeO.ite ?_ ?_)
      | (with_reducible refine LeO.bind ?_ (fun _ => ?_))
      | exact ih0 _ _
      | exact ih1 _ _ _
      | exact ih2 _ _ _ _
      | exact ih3 _ _ _ _
      | exact LeO.none _
      | refine LeO.ite ?_ ?_
      | refine LeO.bind ?_ (fun _ => ?_)
set_option maxHeartbeats 8000000 in
set_option maxRecDepth 100000 in
theorem bastionref17_Path.calls (k : Nat) (a0 : ByteArray) (r : Bool) (w : World) (h : bastionref17_Path.f k a0 = some r) :
    Calls Try.prog 93 #[.string a0] w fun e w' => e = .returned (.bool r) ∧ Drawn0 w w' := by
  have H : (if (a0.size : Int) > 48 then (bastionref17_Path.j0 k a0 true) else (bastionref17_Path.j0 k a0 (a0.toList == ([] : List UInt8)))) = some r := h
  clear h
  have HC2 := Aside0.mk H
  clear H
  go_enter Try.func93, Try.ntmps93
  go_upto_region 1 with (fail)
  go_cut [13] (fun v13 wc => ∃ (kq : Nat) (x13_1 : Bool), v13 = .bool x13_1 ∧ Aside0 (bastionref17_Path.j0 kq a0 x13_1 = some r) ∧ Aside0 (kq ≤ k) ∧ Drawn0 w wc)
  case first =>
    have H := HC2.out
    clear HC2
    by_cases c3 : (a0.size : Int) > 48
    · rw [if_pos c3] at H
      have c3b0 : decide (48 < (a0.size : Int)) = true := decide_eq_true c3
      have c3b1 : decide (48 < a0.size) = true := decide_eq_true (by omega)
      clear c3
      (first | rw [c3b0] | (simp only [i64_w, i32_w]; rw [c3b0]) | skip)
      have H' := Aside0.mk H
      clear H
      go_wp2
      go_meet
      case rel => exact ⟨_, (true), (by first | rfl | (simp; done) | (simp [*]; done)), H', ⟨by first | omega | exact Nat.le_refl _⟩, by repeat (first | exact Drawn0.refl _ | apply Drawn0.step)⟩
    · rw [if_neg c3] at H
      have c3b0 : decide (48 < (a0.size : Int)) = false := decide_eq_false c3
      have c3b1 : decide (48 < a0.size) = false := decide_eq_false (by omega)
      clear c3
      (first | rw [c3b0] | (simp only [i64_w, i32_w]; rw [c3b0]) | skip)
      have H' := Aside0.mk H
      clear H
      go_wp2
      go_meet
      case rel => exact ⟨_, ((a0.toList == ([] : List UInt8))), (by first | rfl | (simp; done) | (simp [*]; done)), H', ⟨by first | omega | exact Nat.le_refl _⟩, by repeat (first | exact Drawn0.refl _ | apply Drawn0.step)⟩
  case rest =>
    clear HC2
    try clear p2
    try clear c3
    try clear c3b0
    try clear c3b1
    obtain ⟨kq, x13_1, rfl, HA, HJ1, ⟨mc1, rfl⟩⟩ := hcut
    cases kq with
    | zero => exact absurd HA.out (by simp [bastionref17_Path.j0])
    | succ kj1 =>
      have H := HA.out
      clear HA
      simp only [bastionref17_Path.j0] at H
      by_cases c4 : x13_1 = true
      · subst c4
        have H1 : (some false) = some r := by rw [if_pos rfl] at H; exact H
        clear H
        have H := H1
        clear H1
        obtain rfl := Option.some.inj H
        go_wp2
        go_ret
        exact ⟨by first | rfl | (simp; done) | (simp [*]; done), by repeat (first | exact Drawn0.refl _ | apply Drawn0.step)⟩
      · replace c4 := Bool.eq_false_iff.mpr c4
        subst c4
        have H1 : (bastionref17_Path.l0 kj1 a0 0 0) = some r := by rw [if_neg (show ¬ (false = true) by decide)] at H; exact H
        clear H
        have H := H1
        clear H1
        have H' := Aside0.mk H
        clear H
        go_wp2
        go_loopg [3, 4] kj1 (fun kq v3 v4 w' => ∃ (x3_2 : Int) (x4_2 : Int), v3 = .int .i64 x3_2 ∧ v4 = .int .i64 x4_2 ∧ Aside0 (bastionref17_Path.l0 kq a0 x3_2 x4_2 = some r) ∧ Aside0 (kq ≤ kj1) ∧ Drawn0 w w')
        case atStart => exact ⟨(0), (0), (by first | rfl | (simp; done) | (simp [*]; done)), (by first | rfl | (simp; done) | (simp [*]; done)), H', ⟨Nat.le_refl _⟩, by repeat (first | exact Drawn0.refl _ | apply Drawn0.step)⟩
        case round =>
          clear H'
          try clear c1
          try clear p2
          try clear c3
          try clear c3b0
          try clear c3b1
          try clear c4
          try clear p2
          obtain ⟨x3_2, x4_2, rfl, rfl, HA, HK2, ⟨m2, rfl⟩⟩ := hrel
          cases gk with
          | zero => exact absurd HA.out (by simp [bastionref17_Path.l0])
          | succ k2 =>
            have H := HA.out
            clear HA
            simp only [bastionref17_Path.l0] at H
            by_cases c5 : x4_2 ≤ (a0.size : Int)
            · rw [if_pos c5] at H
              have c5b0 : decide (x4_2 ≤ (a0.size : Int)) = true := decide_eq_true c5
              clear c5
              have HC6 := Aside0.mk H
              clear H
              go_upto_region 7 with (fail)
              go_cut [29] (fun v29 wc => ∃ (kq : Nat) (x29_5 : Bool), v29 = .bool x29_5 ∧ Aside0 (bastionref17_Path.j2 kq a0 x3_2 x4_2 x29_5 = some r) ∧ Aside0 (kq ≤ k2) ∧ Drawn0 w wc)
              case first =>
                have H := HC6.out
                clear HC6
                by_cases c7 : x4_2 < (a0.size : Int)
                · rw [if_pos c7] at H
                  have c7b0 : decide (x4_2 < (a0.size : Int)) = true := decide_eq_true c7
                  clear c7
                  (first | rw [c7b0] | (simp only [i64_w, i32_w]; rw [c7b0]) | skip)
                  by_cases c8 : 0 ≤ x4_2
                  · rw [if_pos c8] at H
                    have c8b0 : decide (0 ≤ x4_2) = true := decide_eq_true c8
                    clear c8
                    have H' := Aside0.mk H
                    clear H
                    have p9 : 0 ≤ (x4_2 : Int) := of_decide_eq_true (by first | (with_reducible assumption) | assumption)
                    have q9 : x4_2 < (a0.size : Int) := of_decide_eq_true (by first | (with_reducible assumption) | assumption)
                    have hx9 := bt_at a0 x4_2
                    replace p9 := eq_true p9
                    replace q9 := eq_true q9
                    go_wp2
                    go_meet
                    case rel => exact ⟨_, (((bt a0 x4_2) != 47)), (by first | rfl | (simp; done) | (simp [*]; done)), H', ⟨by have := HJ1.out; have := HK2.out; first | omega | exact Nat.le_refl _⟩, by repeat (first | exact Drawn0.refl _ | apply Drawn0.step)⟩
                  · rw [if_neg c8] at H
                    exact absurd H (by simp)
                · rw [if_neg c7] at H
                  have c7b0 : decide (x4_2 < (a0.size : Int)) = false := decide_eq_false c7
                  clear c7
                  (first | rw [c7b0] | (simp only [i64_w, i32_w]; rw [c7b0]) | skip)
                  have H' := Aside0.mk H
                  clear H
                  go_wp2
                  go_meet
                  case rel => exact ⟨_, (false), (by first | rfl | (simp; done) | (simp [*]; done)), H', ⟨by have := HJ1.out; have := HK2.out; first | omega | exact Nat.le_refl _⟩, by repeat (first | exact Drawn0.refl _ | apply Drawn0.step)⟩
              case rest =>
                clear HC6
                try clear c1
                try clear p2
                try clear c3
                try clear c3b0
                try clear c3b1
                try clear c4
                try clear c5
                try clear c5b0
                try clear c7
                try clear c7b0
                try clear c8
                try clear c8b0
                try clear c9
                try clear p9
                try clear q9
                try clear hx9
                try clear p2
                try clear p9
                try clear q9
                obtain ⟨kq, x29_5, rfl, HA, HJ5, ⟨mc5, rfl⟩⟩ := hcut
                cases kq with
                | zero => exact absurd HA.out (by simp [bastionref17_Path.j2])
                | succ kj5 =>
                  have H := HA.out
                  clear HA
                  simp only [bastionref17_Path.j2] at H
                  by_cases c10 : x29_5 = true
                  · subst c10
                    have H1 : (if 0 ≤ x4_2 then (if x4_2 < (a0.size : Int) then (if (bt a0 x4_2) ≥ 97 then (if ((bt a0 x4_2) ≤ 122) then (bastionref17_Path.j3 kj5 a0 x3_2 x4_2 false) else (if (bt a0 x4_2) ≥ 65 then (if ((bt a0 x4_2) ≤ 90) then (bastionref17_Path.j3 kj5 a0 x3_2 x4_2 false) else (if (bt a0 x4_2) ≥ 48 then (if ((bt a0 x4_2) ≤ 57) then (bastionref17_Path.j3 kj5 a0 x3_2 x4_2 false) else (if (bt a0 x4_2) = 45 then (bastionref17_Path.j3 kj5 a0 x3_2 x4_2 false) else (if (bt a0 x4_2) = 95 then (bastionref17_Path.j3 kj5 a0 x3_2 x4_2 false) else (bastionref17_Path.j3 kj5 a0 x3_2 x4_2 ((bt a0 x4_2) != 46))))) else (if (bt a0 x4_2) = 45 then (bastionref17_Path.j3 kj5 a0 x3_2 x4_2 false) else (if (bt a0 x4_2) = 95 then (bastionref17_Path.j3 kj5 a0 x3_2 x4_2 false) else (bastionref17_Path.j3 kj5 a0 x3_2 x4_2 ((bt a0 x4_2) != 46)))))) else (if (bt a0 x4_2) ≥ 48 then (if ((bt a0 x4_2) ≤ 57) then (bastionref17_Path.j3 kj5 a0 x3_2 x4_2 false) else (if (bt a0 x4_2) = 45 then (bastionref17_Path.j3 kj5 a0 x3_2 x4_2 false) else (if (bt a0 x4_2) = 95 then (bastionref17_Path.j3 kj5 a0 x3_2 x4_2 false) else (bastionref17_Path.j3 kj5 a0 x3_2 x4_2 ((bt a0 x4_2) != 46))))) else (if (bt a0 x4_2) = 45 then (bastionref17_Path.j3 kj5 a0 x3_2 x4_2 false) else (if (bt a0 x4_2) = 95 then (bastionref17_Path.j3 kj5 a0 x3_2 x4_2 false) else (bastionref17_Path.j3 kj5 a0 x3_2 x4_2 ((bt a0 x4_2) != 46))))))) else (if (bt a0 x4_2) ≥ 65 then (if ((bt a0 x4_2) ≤ 90) then (bastionref17_Path.j3 kj5 a0 x3_2 x4_2 false) else (if (bt a0 x4_2) ≥ 48 then (if ((bt a0 x4_2) ≤ 57) then (bastionref17_Path.j3 kj5 a0 x3_2 x4_2 false) else (if (bt a0 x4_2) = 45 then (bastionref17_Path.j3 kj5 a0 x3_2 x4_2 false) else (if (bt a0 x4_2) = 95 then (bastionref17_Path.j3 kj5 a0 x3_2 x4_2 false) else (bastionref17_Path.j3 kj5 a0 x3_2 x4_2 ((bt a0 x4_2) != 46))))) else (if (bt a0 x4_2) = 45 then (bastionref17_Path.j3 kj5 a0 x3_2 x4_2 false) else (if (bt a0 x4_2) = 95 then (bastionref17_Path.j3 kj5 a0 x3_2 x4_2 false) else (bastionref17_Path.j3 kj5 a0 x3_2 x4_2 ((bt a0 x4_2) != 46)))))) else (if (bt a0 x4_2) ≥ 48 then (if ((bt a0 x4_2) ≤ 57) then (bastionref17_Path.j3 kj5 a0 x3_2 x4_2 false) else (if (bt a0 x4_2) = 45 then (bastionref17_Path.j3 kj5 a0 x3_2 x4_2 false) else (if (bt a0 x4_2) = 95 then (bastionref17_Path.j3 kj5 a0 x3_2 x4_2 false) else (bastionref17_Path.j3 kj5 a0 x3_2 x4_2 ((bt a0 x4_2) != 46))))) else (if (bt a0 x4_2) = 45 then (bastionref17_Path.j3 kj5 a0 x3_2 x4_2 false) else (if (bt a0 x4_2) = 95 then (bastionref17_Path.j3 kj5 a0 x3_2 x4_2 false) else (bastionref17_Path.j3 kj5 a0 x3_2 x4_2 ((bt a0 x4_2) != 46))))))) else (none)) else (none)) = some r := by rw [if_pos rfl] at H; exact H
                    clear H
                    have H := H1
                    clear H1
                    by_cases c11 : 0 ≤ x4_2
                    · rw [if_pos c11] at H
                      have c11b0 : decide (0 ≤ x4_2) = true := decide_eq_true c11
                      clear c11
                      by_cases c12 : x4_2 < (a0.size : Int)
                      · rw [if_pos c12] at H
                        have c12b0 : decide (x4_2 < (a0.size : Int)) = true := decide_eq_true c12
                        clear c12
                        have HC14 := Aside0.mk H
                        clear H
                        have p13 : 0 ≤ (x4_2 : Int) := of_decide_eq_true (by first | (with_reducible assumption) | assumption)
                        have q13 : x4_2 < (a0.size : Int) := of_decide_eq_true (by first | (with_reducible assumption) | assumption)
                        have hx13 := bt_at a0 x4_2
                        replace p13 := eq_true p13
                        replace q13 := eq_true q13
                        go_upto_region 9 with (fail)
                        go_cut [69] (fun v69 wc => ∃ (kq : Nat) (x69_13 : Bool), v69 = .bool x69_13 ∧ Aside0 (bastionref17_Path.j3 kq a0 x3_2 x4_2 x69_13 = some r) ∧ Aside0 (kq ≤ kj5) ∧ Drawn0 w wc)
                        case first =>
                          have H := HC14.out
                          clear HC14
                          by_cases c15 : (bt a0 x4_2) ≥ 97
                          · rw [if_pos c15] at H
                            have c15b0 : decide (97 ≤ (bt a0 x4_2)) = true := decide_eq_true c15
                            clear c15
                            (first | rw [c15b0] | (simp only [i64_w, i32_w]; rw [c15b0]) | skip)
                            by_cases c16 : ((bt a0 x4_2) ≤ 122)
                            · rw [if_pos c16] at H
                              have c16b0 : decide ((bt a0 x4_2) ≤ 122) = true := decide_eq_true c16
                              clear c16
                              have H' := Aside0.mk H
                              clear H
                              go_wp2
                              go_meet
                              case rel => exact ⟨_, (false), (by first | rfl | (simp; done) | (simp [*]; done)), H', ⟨by have := HJ1.out; have := HK2.out; have := HJ5.out; first | omega | exact Nat.le_refl _⟩, by repeat (first | exact Drawn0.refl _ | apply Drawn0.step)⟩
                            · rw [if_neg c16] at H
                              have c16b0 : decide ((bt a0 x4_2) ≤ 122) = false := decide_eq_false c16
                              clear c16
                              by_cases c17 : (bt a0 x4_2) ≥ 65
                              · rw [if_pos c17] at H
                                have c17b0 : decide (65 ≤ (bt a0 x4_2)) = true := decide_eq_true c17
                                clear c17
                                by_cases c18 : ((bt a0 x4_2) ≤ 90)
                                · rw [if_pos c18] at H
                                  have c18b0 : decide ((bt a0 x4_2) ≤ 90) = true := decide_eq_true c18
                                  clear c18
                                  have H' := Aside0.mk H
                                  clear H
                                  go_wp2
                                  go_meet
                                  case rel => exact ⟨_, (false), (by first | rfl | (simp; done) | (simp [*]; done)), H', ⟨by have := HJ1.out; have := HK2.out; have := HJ5.out; first | omega | exact Nat.le_refl _⟩, by repeat (first | exact Drawn0.refl _ | apply Drawn0.step)⟩
                                · rw [if_neg c18] at H
                                  have c18b0 : decide ((bt a0 x4_2) ≤ 90) = false := decide_eq_false c18
                                  clear c18
                                  by_cases c19 : (bt a0 x4_2) ≥ 48
                                  · rw [if_pos c19] at H
                                    have c19b0 : decide (48 ≤ (bt a0 x4_2)) = true := decide_eq_true c19
                                    clear c19
                                    by_cases c20 : ((bt a0 x4_2) ≤ 57)
                                    · rw [if_pos c20] at H
                                      have c20b0 : decide ((bt a0 x4_2) ≤ 57) = true := decide_eq_true c20
                                      clear c20
                                      have H' := Aside0.mk H
                                      clear H
                                      go_wp2
                                      go_meet
                                      case rel => exact ⟨_, (false), (by first | rfl | (simp; done) | (simp [*]; done)), H', ⟨by have := HJ1.out; have := HK2.out; have := HJ5.out; first | omega | exact Nat.le_refl _⟩, by repeat (first | exact Drawn0.refl _ | apply Drawn0.step)⟩
                                    · rw [if_neg c20] at H
                                      have c20b0 : decide ((bt a0 x4_2) ≤ 57) = false := decide_eq_false c20
                                      clear c20
                                      by_cases c21 : (bt a0 x4_2) = 45
                                      · rw [if_pos c21] at H
                                        have c21b0 : ((bt a0 x4_2) == 45) = true := beq_iff_eq.mpr c21
                                        have c21b1 : ((bt a0 x4_2) != 45) = false := bne_eq_false_iff_eq.mpr c21
                                        clear c21
                                        have H' := Aside0.mk H
                                        clear H
                                        go_wp2
                                        go_meet
                                        case rel => exact ⟨_, (false), (by first | rfl | (simp; done) | (simp [*]; done)), H', ⟨by have := HJ1.out; have := HK2.out; have := HJ5.out; first | omega | exact Nat.le_refl _⟩, by repeat (first | exact Drawn0.refl _ | apply Drawn0.step)⟩
                                      · rw [if_neg c21] at H
                                        have c21b0 : ((bt a0 x4_2) == 45) = false := beq_eq_false_iff_ne.mpr c21
                                        have c21b1 : ((bt a0 x4_2) != 45) = true := bne_iff_ne.mpr c21
                                        by_cases c22 : (bt a0 x4_2) = 95
                                        · rw [if_pos c22] at H
                                          have c22b0 : ((bt a0 x4_2) == 95) = true := beq_iff_eq.mpr c22
                                          have c22b1 : ((bt a0 x4_2) != 95) = false := bne_eq_false_iff_eq.mpr c22
                                          clear c22
                                          have H' := Aside0.mk H
                                          clear H
                                          go_wp2
                                          go_meet
                                          case rel => exact ⟨_, (false), (by first | rfl | (simp; done) | (simp [*]; done)), H', ⟨by have := HJ1.out; have := HK2.out; have := HJ5.out; first | omega | exact Nat.le_refl _⟩, by repeat (first | exact Drawn0.refl _ | apply Drawn0.step)⟩
                                        · rw [if_neg c22] at H
                                          have c22b0 : ((bt a0 x4_2) == 95) = false := beq_eq_false_iff_ne.mpr c22
                                          have c22b1 : ((bt a0 x4_2) != 95) = true := bne_iff_ne.mpr c22
                                          have H' := Aside0.mk H
                                          clear H
                                          go_wp2
                                          go_meet
                                          case rel => exact ⟨_, (((bt a0 x4_2) != 46)), (by first | rfl | (simp; done) | (simp [*]; done)), H', ⟨by have := HJ1.out; have := HK2.out; have := HJ5.out; first | omega | exact Nat.le_refl _⟩, by repeat (first | exact Drawn0.refl _ | apply Drawn0.step)⟩
                                  · rw [if_neg c19] at H
                                    have c19b0 : decide (48 ≤ (bt a0 x4_2)) = false := decide_eq_false c19
                                    clear c19
                                    by_cases c23 : (bt a0 x4_2) = 45
                                    · rw [if_pos c23] at H
                                      have c23b0 : ((bt a0 x4_2) == 45) = true := beq_iff_eq.mpr c23
                                      have c23b1 : ((bt a0 x4_2) != 45) = false := bne_eq_false_iff_eq.mpr c23
                                      clear c23
                                      have H' := Aside0.mk H
                                      clear H
                                      go_wp2
                                      go_meet
                                      case rel => exact ⟨_, (false), (by first | rfl | (simp; done) | (simp [*]; done)), H', ⟨by have := HJ1.out; have := HK2.out; have := HJ5.out; first | omega | exact Nat.le_refl _⟩, by repeat (first | exact Drawn0.refl _ | apply Drawn0.step)⟩
                                    · rw [if_neg c23] at H
                                      have c23b0 : ((bt a0 x4_2) == 45) = false := beq_eq_false_iff_ne.mpr c23
                                      have c23b1 : ((bt a0 x4_2) != 45) = true := bne_iff_ne.mpr c23
                                      by_cases c24 : (bt a0 x4_2) = 95
                                      · rw [if_pos c24] at H
                                        have c24b0 : ((bt a0 x4_2) == 95) = true := beq_iff_eq.mpr c24
                                        have c24b1 : ((bt a0 x4_2) != 95) = false := bne_eq_false_iff_eq.mpr c24
                                        clear c24
                                        have H' := Aside0.mk H
                                        clear H
                                        go_wp2
                                        go_meet
                                        case rel => exact ⟨_, (false), (by first | rfl | (simp; done) | (simp [*]; done)), H', ⟨by have := HJ1.out; have := HK2.out; have := HJ5.out; first | omega | exact Nat.le_refl _⟩, by repeat (first | exact Drawn0.refl _ | apply Drawn0.step)⟩
                                      · rw [if_neg c24] at H
                                        have c24b0 : ((bt a0 x4_2) == 95) = false := beq_eq_false_iff_ne.mpr c24
                                        have c24b1 : ((bt a0 x4_2) != 95) = true := bne_iff_ne.mpr c24
                                        have H' := Aside0.mk H
                                        clear H
                                        go_wp2
                                        go_meet
                                        case rel => exact ⟨_, (((bt a0 x4_2) != 46)), (by first | rfl | (simp; done) | (simp [*]; done)), H', ⟨by have := HJ1.out; have := HK2.out; have := HJ5.out; first | omega | exact Nat.le_refl _⟩, by repeat (first | exact Drawn0.refl _ | apply Drawn0.step)⟩
                              · rw [if_neg c17] at H
                                have c17b0 : decide (65 ≤ (bt a0 x4_2)) = false := decide_eq_false c17
                                clear c17
                                by_cases c25 : (bt a0 x4_2) ≥ 48
                                · rw [if_pos c25] at H
                                  have c25b0 : decide (48 ≤ (bt a0 x4_2)) = true := decide_eq_true c25
                                  clear c25
                                  by_cases c26 : ((bt a0 x4_2) ≤ 57)
                                  · rw [if_pos c26] at H
                                    have c26b0 : decide ((bt a0 x4_2) ≤ 57) = true := decide_eq_true c26
                                    clear c26
                                    have H' := Aside0.mk H
                                    clear H
                                    go_wp2
                                    go_meet
                                    case rel => exact ⟨_, (false), (by first | rfl | (simp; done) | (simp [*]; done)), H', ⟨by have := HJ1.out; have := HK2.out; have := HJ5.out; first | omega | exact Nat.le_refl _⟩, by repeat (first | exact Drawn0.refl _ | apply Drawn0.step)⟩
                                  · rw [if_neg c26] at H
                                    have c26b0 : decide ((bt a0 x4_2) ≤ 57) = false := decide_eq_false c26
                                    clear c26
                                    by_cases c27 : (bt a0 x4_2) = 45
                                    · rw [if_pos c27] at H
                                      have c27b0 : ((bt a0 x4_2) == 45) = true := beq_iff_eq.mpr c27
                                      have c27b1 : ((bt a0 x4_2) != 45) = false := bne_eq_false_iff_eq.mpr c27
                                      clear c27
                                      have H' := Aside0.mk H
                                      clear H
                                      go_wp2
                                      go_meet
                                      case rel => exact ⟨_, (false), (by first | rfl | (simp; done) | (simp [*]; done)), H', ⟨by have := HJ1.out; have := HK2.out; have := HJ5.out; first | omega | exact Nat.le_refl _⟩, by repeat (first | exact Drawn0.refl _ | apply Drawn0.step)⟩
                                    · rw [if_neg c27] at H
                                      have c27b0 : ((bt a0 x4_2) == 45) = false := beq_eq_false_iff_ne.mpr c27
                                      have c27b1 : ((bt a0 x4_2) != 45) = true := bne_iff_ne.mpr c27
                                      by_cases c28 : (bt a0 x4_2) = 95
                                      · rw [if_pos c28] at H
                                        have c28b0 : ((bt a0 x4_2) == 95) = true := beq_iff_eq.mpr c28
                                        have c28b1 : ((bt a0 x4_2) != 95) = false := bne_eq_false_iff_eq.mpr c28
                                        clear c28
                                        have H' := Aside0.mk H
                                        clear H
                                        go_wp2
                                        go_meet
                                        case rel => exact ⟨_, (false), (by first | rfl | (simp; done) | (simp [*]; done)), H', ⟨by have := HJ1.out; have := HK2.out; have := HJ5.out; first | omega | exact Nat.le_refl _⟩, by repeat (first | exact Drawn0.refl _ | apply Drawn0.step)⟩
                                      · rw [if_neg c28] at H
                                        have c28b0 : ((bt a0 x4_2) == 95) = false := beq_eq_false_iff_ne.mpr c28
                                        have c28b1 : ((bt a0 x4_2) != 95) = true := bne_iff_ne.mpr c28
                                        have H' := Aside0.mk H
                                        clear H
                                        go_wp2
                                        go_meet
                                        case rel => exact ⟨_, (((bt a0 x4_2) != 46)), (by first | rfl | (simp; done) | (simp [*]; done)), H', ⟨by have := HJ1.out; have := HK2.out; have := HJ5.out; first | omega | exact Nat.le_refl _⟩, by repeat (first | exact Drawn0.refl _ | apply Drawn0.step)⟩
                                · rw [if_neg c25] at H
                                  have c25b0 : decide (48 ≤ (bt a0 x4_2)) = false := decide_eq_false c25
                                  clear c25
                                  by_cases c29 : (bt a0 x4_2) = 45
                                  · rw [if_pos c29] at H
                                    have c29b0 : ((bt a0 x4_2) == 45) = true := beq_iff_eq.mpr c29
                                    have c29b1 : ((bt a0 x4_2) != 45) = false := bne_eq_false_iff_eq.mpr c29
                                    clear c29
                                    have H' := Aside0.mk H
                                    clear H
                                    go_wp2
                                    go_meet
                                    case rel => exact ⟨_, (false), (by first | rfl | (simp; done) | (simp [*]; done)), H', ⟨by have := HJ1.out; have := HK2.out; have := HJ5.out; first | omega | exact Nat.le_refl _⟩, by repeat (first | exact Drawn0.refl _ | apply Drawn0.step)⟩
                                  · rw [if_neg c29] at H
                                    have c29b0 : ((bt a0 x4_2) == 45) = false := beq_eq_false_iff_ne.mpr c29
                                    have c29b1 : ((bt a0 x4_2) != 45) = true := bne_iff_ne.mpr c29
                                    by_cases c30 : (bt a0 x4_2) = 95
                                    · rw [if_pos c30] at H
                                      have c30b0 : ((bt a0 x4_2) == 95) = true := beq_iff_eq.mpr c30
                                      have c30b1 : ((bt a0 x4_2) != 95) = false := bne_eq_false_iff_eq.mpr c30
                                      clear c30
                                      have H' := Aside0.mk H
                                      clear H
                                      go_wp2
                                      go_meet
                                      case rel => exact ⟨_, (false), (by first | rfl | (simp; done) | (simp [*]; done)), H', ⟨by have := HJ1.out; have := HK2.out; have := HJ5.out; first | omega | exact Nat.le_refl _⟩, by repeat (first | exact Drawn0.refl _ | apply Drawn0.step)⟩
                                    · rw [if_neg c30] at H
                                      have c30b0 : ((bt a0 x4_2) == 95) = false := beq_eq_false_iff_ne.mpr c30
                                      have c30b1 : ((bt a0 x4_2) != 95) = true := bne_iff_ne.mpr c30
                                      have H' := Aside0.mk H
                                      clear H
                                      go_wp2
                                      go_meet
                                      case rel => exact ⟨_, (((bt a0 x4_2) != 46)), (by first | rfl | (simp; done) | (simp [*]; done)), H', ⟨by have := HJ1.out; have := HK2.out; have := HJ5.out; first | omega | exact Nat.le_refl _⟩, by repeat (first | exact Drawn0.refl _ | apply Drawn0.step)⟩
                          · rw [if_neg c15] at H
                            have c15b0 : decide (97 ≤ (bt a0 x4_2)) = false := decide_eq_false c15
                            clear c15
                            (first | rw [c15b0] | (simp only [i64_w, i32_w]; rw [c15b0]) | skip)
                            by_cases c31 : (bt a0 x4_2) ≥ 65
                            · rw [if_pos c31] at H
                              have c31b0 : decide (65 ≤ (bt a0 x4_2)) = true := decide_eq_true c31
                              clear c31
                              by_cases c32 : ((bt a0 x4_2) ≤ 90)
                              · rw [if_pos c32] at H
                                have c32b0 : decide ((bt a0 x4_2) ≤ 90) = true := decide_eq_true c32
                                clear c32
                                have H' := Aside0.mk H
                                clear H
                                go_wp2
                                go_meet
                                case rel => exact ⟨_, (false), (by first | rfl | (simp; done) | (simp [*]; done)), H', ⟨by have := HJ1.out; have := HK2.out; have := HJ5.out; first | omega | exact Nat.le_refl _⟩, by repeat (first | exact Drawn0.refl _ | apply Drawn0.step)⟩
                              · rw [if_neg c32] at H
                                have c32b0 : decide ((bt a0 x4_2) ≤ 90) = false := decide_eq_false c32
                                clear c32
                                by_cases c33 : (bt a0 x4_2) ≥ 48
                                · rw [if_pos c33] at H
                                  have c33b0 : decide (48 ≤ (bt a0 x4_2)) = true := decide_eq_true c33
                                  clear c33
                                  by_cases c34 : ((bt a0 x4_2) ≤ 57)
                                  · rw [if_pos c34] at H
                                    have c34b0 : decide ((bt a0 x4_2) ≤ 57) = true := decide_eq_true c34
                                    clear c34
                                    have H' := Aside0.mk H
                                    clear H
                                    go_wp2
                                    go_meet
                                    case rel => exact ⟨_, (false), (by first | rfl | (simp; done) | (simp [*]; done)), H', ⟨by have := HJ1.out; have := HK2.out; have := HJ5.out; first | omega | exact Nat.le_refl _⟩, by repeat (first | exact Drawn0.refl _ | apply Drawn0.step)⟩
                                  · rw [if_neg c34] at H
                                    have c34b0 : decide ((bt a0 x4_2) ≤ 57) = false := decide_eq_false c34
                                    clear c34
                                    by_cases c35 : (bt a0 x4_2) = 45
                                    · rw [if_pos c35] at H
                                      have c35b0 : ((bt a0 x4_2) == 45) = true := beq_iff_eq.mpr c35
                                      have c35b1 : ((bt a0 x4_2) != 45) = false := bne_eq_false_iff_eq.mpr c35
                                      clear c35
                                      have H' := Aside0.mk H
                                      clear H
                                      go_wp2
                                      go_meet
                                      case rel => exact ⟨_, (false), (by first | rfl | (simp; done) | (simp [*]; done)), H', ⟨by have := HJ1.out; have := HK2.out; have := HJ5.out; first | omega | exact Nat.le_refl _⟩, by repeat (first | exact Drawn0.refl _ | apply Drawn0.step)⟩
                                    · rw [if_neg c35] at H
                                      have c35b0 : ((bt a0 x4_2) == 45) = false := beq_eq_false_iff_ne.mpr c35
                                      have c35b1 : ((bt a0 x4_2) != 45) = true := bne_iff_ne.mpr c35
                                      by_cases c36 : (bt a0 x4_2) = 95
                                      · rw [if_pos c36] at H
                                        have c36b0 : ((bt a0 x4_2) == 95) = true := beq_iff_eq.mpr c36
                                        have c36b1 : ((bt a0 x4_2) != 95) = false := bne_eq_false_iff_eq.mpr c36
                                        clear c36
                                        have H' := Aside0.mk H
                                        clear H
                                        go_wp2
                                        go_meet
                                        case rel => exact ⟨_, (false), (by first | rfl | (simp; done) | (simp [*]; done)), H', ⟨by have := HJ1.out; have := HK2.out; have := HJ5.out; first | omega | exact Nat.le_refl _⟩, by repeat (first | exact Drawn0.refl _ | apply Drawn0.step)⟩
                                      · rw [if_neg c36] at H
                                        have c36b0 : ((bt a0 x4_2) == 95) = false := beq_eq_false_iff_ne.mpr c36
                                        have c36b1 : ((bt a0 x4_2) != 95) = true := bne_iff_ne.mpr c36
                                        have H' := Aside0.mk H
                                        clear H
                                        go_wp2
                                        go_meet
                                        case rel => exact ⟨_, (((bt a0 x4_2) != 46)), (by first | rfl | (simp; done) | (simp [*]; done)), H', ⟨by have := HJ1.out; have := HK2.out; have := HJ5.out; first | omega | exact Nat.le_refl _⟩, by repeat (first | exact Drawn0.refl _ | apply Drawn0.step)⟩
                                · rw [if_neg c33] at H
                                  have c33b0 : decide (48 ≤ (bt a0 x4_2)) = false := decide_eq_false c33
                                  clear c33
                                  by_cases c37 : (bt a0 x4_2) = 45
                                  · rw [if_pos c37] at H
                                    have c37b0 : ((bt a0 x4_2) == 45) = true := beq_iff_eq.mpr c37
                                    have c37b1 : ((bt a0 x4_2) != 45) = false := bne_eq_false_iff_eq.mpr c37
                                    clear c37
                                    have H' := Aside0.mk H
                                    clear H
                                    go_wp2
                                    go_meet
                                    case rel => exact ⟨_, (false), (by first | rfl | (simp; done) | (simp [*]; done)), H', ⟨by have := HJ1.out; have := HK2.out; have := HJ5.out; first | omega | exact Nat.le_refl _⟩, by repeat (first | exact Drawn0.refl _ | apply Drawn0.step)⟩
                                  · rw [if_neg c37] at H
                                    have c37b0 : ((bt a0 x4_2) == 45) = false := beq_eq_false_iff_ne.mpr c37
                                    have c37b1 : ((bt a0 x4_2) != 45) = true := bne_iff_ne.mpr c37
                                    by_cases c38 : (bt a0 x4_2) = 95
                                    · rw [if_pos c38] at H
                                      have c38b0 : ((bt a0 x4_2) == 95) = true := beq_iff_eq.mpr c38
                                      have c38b1 : ((bt a0 x4_2) != 95) = false := bne_eq_false_iff_eq.mpr c38
                                      clear c38
                                      have H' := Aside0.mk H
                                      clear H
                                      go_wp2
                                      go_meet
                                      case rel => exact ⟨_, (false), (by first | rfl | (simp; done) | (simp [*]; done)), H', ⟨by have := HJ1.out; have := HK2.out; have := HJ5.out; first | omega | exact Nat.le_refl _⟩, by repeat (first | exact Drawn0.refl _ | apply Drawn0.step)⟩
                                    · rw [if_neg c38] at H
                                      have c38b0 : ((bt a0 x4_2) == 95) = false := beq_eq_false_iff_ne.mpr c38
                                      have c38b1 : ((bt a0 x4_2) != 95) = true := bne_iff_ne.mpr c38
                                      have H' := Aside0.mk H
                                      clear H
                                      go_wp2
                                      go_meet
                                      case rel => exact ⟨_, (((bt a0 x4_2) != 46)), (by first | rfl | (simp; done) | (simp [*]; done)), H', ⟨by have := HJ1.out; have := HK2.out; have := HJ5.out; first | omega | exact Nat.le_refl _⟩, by repeat (first | exact Drawn0.refl _ | apply Drawn0.step)⟩
                            · rw [if_neg c31] at H
                              have c31b0 : decide (65 ≤ (bt a0 x4_2)) = false := decide_eq_false c31
                              clear c31
                              by_cases c39 : (bt a0 x4_2) ≥ 48
                              · rw [if_pos c39] at H
                                have c39b0 : decide (48 ≤ (bt a0 x4_2)) = true := decide_eq_true c39
                                clear c39
                                by_cases c40 : ((bt a0 x4_2) ≤ 57)
                                · rw [if_pos c40] at H
                                  have c40b0 : decide ((bt a0 x4_2) ≤ 57) = true := decide_eq_true c40
                                  clear c40
                                  have H' := Aside0.mk H
                                  clear H
                                  go_wp2
                                  go_meet
                                  case rel => exact ⟨_, (false), (by first | rfl | (simp; done) | (simp [*]; done)), H', ⟨by have := HJ1.out; have := HK2.out; have := HJ5.out; first | omega | exact Nat.le_refl _⟩, by repeat (first | exact Drawn0.refl _ | apply Drawn0.step)⟩
                                · rw [if_neg c40] at H
                                  have c40b0 : decide ((bt a0 x4_2) ≤ 57) = false := decide_eq_false c40
                                  clear c40
                                  by_cases c41 : (bt a0 x4_2) = 45
                                  · rw [if_pos c41] at H
                                    have c41b0 : ((bt a0 x4_2) == 45) = true := beq_iff_eq.mpr c41
                                    have c41b1 : ((bt a0 x4_2) != 45) = false := bne_eq_false_iff_eq.mpr c41
                                    clear c41
                                    have H' := Aside0.mk H
                                    clear H
                                    go_wp2
                                    go_meet
                                    case rel => exact ⟨_, (false), (by first | rfl | (simp; done) | (simp [*]; done)), H', ⟨by have := HJ1.out; have := HK2.out; have := HJ5.out; first | omega | exact Nat.le_refl _⟩, by repeat (first | exact Drawn0.refl _ | apply Drawn0.step)⟩
                                  · rw [if_neg c41] at H
                                    have c41b0 : ((bt a0 x4_2) == 45) = false := beq_eq_false_iff_ne.mpr c41
                                    have c41b1 : ((bt a0 x4_2) != 45) = true := bne_iff_ne.mpr c41
                                    by_cases c42 : (bt a0 x4_2) = 95
                                    · rw [if_pos c42] at H
                                      have c42b0 : ((bt a0 x4_2) == 95) = true := beq_iff_eq.mpr c42
                                      have c42b1 : ((bt a0 x4_2) != 95) = false := bne_eq_false_iff_eq.mpr c42
                                      clear c42
                                      have H' := Aside0.mk H
                                      clear H
                                      go_wp2
                                      go_meet
                                      case rel => exact ⟨_, (false), (by first | rfl | (simp; done) | (simp [*]; done)), H', ⟨by have := HJ1.out; have := HK2.out; have := HJ5.out; first | omega | exact Nat.le_refl _⟩, by repeat (first | exact Drawn0.refl _ | apply Drawn0.step)⟩
                                    · rw [if_neg c42] at H
                                      have c42b0 : ((bt a0 x4_2) == 95) = false := beq_eq_false_iff_ne.mpr c42
                                      have c42b1 : ((bt a0 x4_2) != 95) = true := bne_iff_ne.mpr c42
                                      have H' := Aside0.mk H
                                      clear H
                                      go_wp2
                                      go_meet
                                      case rel => exact ⟨_, (((bt a0 x4_2) != 46)), (by first | rfl | (simp; done) | (simp [*]; done)), H', ⟨by have := HJ1.out; have := HK2.out; have := HJ5.out; first | omega | exact Nat.le_refl _⟩, by repeat (first | exact Drawn0.refl _ | apply Drawn0.step)⟩
                              · rw [if_neg c39] at H
                                have c39b0 : decide (48 ≤ (bt a0 x4_2)) = false := decide_eq_false c39
                                clear c39
                                by_cases c43 : (bt a0 x4_2) = 45
                                · rw [if_pos c43] at H
                                  have c43b0 : ((bt a0 x4_2) == 45) = true := beq_iff_eq.mpr c43
                                  have c43b1 : ((bt a0 x4_2) != 45) = false := bne_eq_false_iff_eq.mpr c43
                                  clear c43
                                  have H' := Aside0.mk H
                                  clear H
                                  go_wp2
                                  go_meet
                                  case rel => exact ⟨_, (false), (by first | rfl | (simp; done) | (simp [*]; done)), H', ⟨by have := HJ1.out; have := HK2.out; have := HJ5.out; first | omega | exact Nat.le_refl _⟩, by repeat (first | exact Drawn0.refl _ | apply Drawn0.step)⟩
                                · rw [if_neg c43] at H
                                  have c43b0 : ((bt a0 x4_2) == 45) = false := beq_eq_false_iff_ne.mpr c43
                                  have c43b1 : ((bt a0 x4_2) != 45) = true := bne_iff_ne.mpr c43
                                  by_cases c44 : (bt a0 x4_2) = 95
                                  · rw [if_pos c44] at H
                                    have c44b0 : ((bt a0 x4_2) == 95) = true := beq_iff_eq.mpr c44
                                    have c44b1 : ((bt a0 x4_2) != 95) = false := bne_eq_false_iff_eq.mpr c44
                                    clear c44
                                    have H' := Aside0.mk H
                                    clear H
                                    go_wp2
                                    go_meet
                                    case rel => exact ⟨_, (false), (by first | rfl | (simp; done) | (simp [*]; done)), H', ⟨by have := HJ1.out; have := HK2.out; have := HJ5.out; first | omega | exact Nat.le_refl _⟩, by repeat (first | exact Drawn0.refl _ | apply Drawn0.step)⟩
                                  · rw [if_neg c44] at H
                                    have c44b0 : ((bt a0 x4_2) == 95) = false := beq_eq_false_iff_ne.mpr c44
                                    have c44b1 : ((bt a0 x4_2) != 95) = true := bne_iff_ne.mpr c44
                                    have H' := Aside0.mk H
                                    clear H
                                    go_wp2
                                    go_meet
                                    case rel => exact ⟨_, (((bt a0 x4_2) != 46)), (by first | rfl | (simp; done) | (simp [*]; done)), H', ⟨by have := HJ1.out; have := HK2.out; have := HJ5.out; first | omega | exact Nat.le_refl _⟩, by repeat (first | exact Drawn0.refl _ | apply Drawn0.step)⟩
                        case rest =>
                          clear HC14
                          try clear c1
                          try clear p1
                          try clear q1
                          try clear hx1
                          try clear c2
                          try clear p2
                          try clear c3
                          try clear c3b0
                          try clear c3b1
                          try clear c4
                          try clear c5
                          try clear c5b0
                          try clear c7
                          try clear c7b0
                          try clear c8
                          try clear c8b0
                          try clear c9
                          try clear p9
                          try clear q9
                          try clear hx9
                          try clear c10
                          try clear c11
                          try clear c11b0
                          try clear c12
                          try clear c12b0
                          try clear p13
                          try clear q13
                          try clear hx13
                          try clear c15
                          try clear c15b0
                          try clear c16
                          try clear c16b0
                          try clear c17
                          try clear c17b0
                          try clear c18
                          try clear c18b0
                          try clear c19
                          try clear c19b0
                          try clear c20
                          try clear c20b0
                          try clear c21
                          try clear c21b0
                          try clear c21b1
                          try clear c22
                          try clear c22b0
                          try clear c22b1
                          try clear c23
                          try clear c23b0
                          try clear c23b1
                          try clear c24
                          try clear c24b0
                          try clear c24b1
                          try clear c25
                          try clear c25b0
                          try clear c26
                          try clear c26b0
                          try clear c27
                          try clear c27b0
                          try clear c27b1
                          try clear c28
                          try clear c28b0
                          try clear c28b1
                          try clear c29
                          try clear c29b0
                          try clear c29b1
                          try clear c30
                          try clear c30b0
                          try clear c30b1
                          try clear c31
                          try clear c31b0
                          try clear c32
                          try clear c32b0
                          try clear c33
                          try clear c33b0
                          try clear c34
                          try clear c34b0
                          try clear c35
                          try clear c35b0
                          try clear c35b1
                          try clear c36
                          try clear c36b0
                          try clear c36b1
                          try clear c37
                          try clear c37b0
                          try clear c37b1
                          try clear c38
                          try clear c38b0
                          try clear c38b1
                          try clear c39
                          try clear c39b0
                          try clear c40
                          try clear c40b0
                          try clear c41
                          try clear c41b0
                          try clear c41b1
                          try clear c42
                          try clear c42b0
                          try clear c42b1
                          try clear c43
                          try clear c43b0
                          try clear c43b1
                          try clear c44
                          try clear c44b0
                          try clear c44b1
                          try clear p13
                          try clear p2
                          try clear p9
                          try clear q13
                          try clear q9
                          obtain ⟨kq, x69_13, rfl, HA, HJ13, ⟨mc13, rfl⟩⟩ := hcut
                          cases kq with
                          | zero => exact absurd HA.out (by simp [bastionref17_Path.j3])
                          | succ kj13 =>
                            have H := HA.out
                            clear HA
                            simp only [bastionref17_Path.j3] at H
                            by_cases c45 : x69_13 = true
                            · subst c45
                              have H1 : (some false) = some r := by rw [if_pos rfl] at H; exact H
                              clear H
                              have H := H1
                              clear H1
                              obtain rfl := Option.some.inj H
                              go_wp2
                              go_ret
                              exact ⟨by first | rfl | (simp; done) | (simp [*]; done), by repeat (first | exact Drawn0.refl _ | apply Drawn0.step)⟩
                            · replace c45 := Bool.eq_false_iff.mpr c45
                              subst c45
                              have H1 : (bastionref17_Path.l0 kj13 a0 x3_2 (wrap64 (x4_2 + 1))) = some r := by rw [if_neg (show ¬ (false = true) by decide)] at H; exact H
                              clear H
                              have H := H1
                              clear H1
                              have H' := Aside0.mk H
                              clear H
                              go_wp2
                              go_roundg kj13
                              case measure => have := HJ1.out; have := HK2.out; have := HJ5.out; have := HJ13.out; omega
                              case rel => exact ⟨(x3_2), (wrap64 (x4_2 + 1)), (by first | rfl | (simp; done) | (simp [*]; done)), (by first | rfl | (simp; done) | (simp [*]; done)), H', ⟨by have := HJ1.out; have := HK2.out; have := HJ5.out; have := HJ13.out; omega⟩, by repeat (first | exact Drawn0.refl _ | apply Drawn0.step)⟩
                      · rw [if_neg c12] at H
                        exact absurd H (by simp)
                    · rw [if_neg c11] at H
                      exact absurd H (by simp)
                  · replace c10 := Bool.eq_false_iff.mpr c10
                    subst c10
                    have H1 : (if 0 ≤ x3_2 then (if x3_2 ≤ x4_2 then (if x4_2 ≤ (a0.size : Int) then (if (a0.extract (x3_2 : Int).toNat (x4_2 : Int).toNat).toList = ([] : List UInt8) then (some false) else (if (a0.extract (x3_2 : Int).toNat (x4_2 : Int).toNat).toList = ([46] : List UInt8) then (some false) else (if (a0.extract (x3_2 : Int).toNat (x4_2 : Int).toNat).toList = ([46, 46] : List UInt8) then (some false) else (bastionref17_Path.l0 kj5 a0 (wrap64 (x4_2 + 1)) (wrap64 (x4_2 + 1)))))) else (none)) else (none)) else (none)) = some r := by rw [if_neg (show ¬ (false = true) by decide)] at H; exact H
                    clear H
                    have H := H1
                    clear H1
                    by_cases c46 : 0 ≤ x3_2
                    · rw [if_pos c46] at H
                      have c46b0 := eq_true c46
                      have c46b1 : decide (0 ≤ x3_2) = true := decide_eq_true c46
                      clear c46
                      by_cases c47 : x3_2 ≤ x4_2
                      · rw [if_pos c47] at H
                        have c47b0 := eq_true c47
                        have c47b1 : decide (x3_2 ≤ x4_2) = true := decide_eq_true c47
                        clear c47
                        by_cases c48 : x4_2 ≤ (a0.size : Int)
                        · rw [if_pos c48] at H
                          have c48b0 := eq_true c48
                          have c48b1 : decide (x4_2 ≤ (a0.size : Int)) = true := decide_eq_true c48
                          clear c48
                          by_cases c49 : (a0.extract (x3_2 : Int).toNat (x4_2 : Int).toNat).toList = ([] : List UInt8)
                          · rw [if_pos c49] at H
                            have c49b0 : ((a0.extract (x3_2 : Int).toNat (x4_2 : Int).toNat).toList == ([] : List UInt8)) = true := beq_iff_eq.mpr c49
                            have c49b1 : ((a0.extract (x3_2 : Int).toNat (x4_2 : Int).toNat).toList != ([] : List UInt8)) = false := bne_eq_false_iff_eq.mpr c49
                            clear c49
                            obtain rfl := Option.some.inj H
                            go_wp2
                            go_ret
                            exact ⟨by first | rfl | (simp; done) | (simp [*]; done), by repeat (first | exact Drawn0.refl _ | apply Drawn0.step)⟩
                          · rw [if_neg c49] at H
                            have c49b0 : ((a0.extract (x3_2 : Int).toNat (x4_2 : Int).toNat).toList == ([] : List UInt8)) = false := beq_eq_false_iff_ne.mpr c49
                            have c49b1 : ((a0.extract (x3_2 : Int).toNat (x4_2 : Int).toNat).toList != ([] : List UInt8)) = true := bne_iff_ne.mpr c49
                            by_cases c50 : (a0.extract (x3_2 : Int).toNat (x4_2 : Int).toNat).toList = ([46] : List UInt8)
                            · rw [if_pos c50] at H
                              have c50b0 : ((a0.extract (x3_2 : Int).toNat (x4_2 : Int).toNat).toList == ([46] : List UInt8)) = true := beq_iff_eq.mpr c50
                              have c50b1 : ((a0.extract (x3_2 : Int).toNat (x4_2 : Int).toNat).toList != ([46] : List UInt8)) = false := bne_eq_false_iff_eq.mpr c50
                              clear c50
                              obtain rfl := Option.some.inj H
                              go_wp2
                              go_ret
                              exact ⟨by first | rfl | (simp; done) | (simp [*]; done), by repeat (first | exact Drawn0.refl _ | apply Drawn0.step)⟩
                            · rw [if_neg c50] at H
                              have c50b0 : ((a0.extract (x3_2 : Int).toNat (x4_2 : Int).toNat).toList == ([46] : List UInt8)) = false := beq_eq_false_iff_ne.mpr c50
                              have c50b1 : ((a0.extract (x3_2 : Int).toNat (x4_2 : Int).toNat).toList != ([46] : List UInt8)) = true := bne_iff_ne.mpr c50
                              by_cases c51 : (a0.extract (x3_2 : Int).toNat (x4_2 : Int).toNat).toList = ([46, 46] : List UInt8)
                              · rw [if_pos c51] at H
                                have c51b0 : ((a0.extract (x3_2 : Int).toNat (x4_2 : Int).toNat).toList == ([46, 46] : List UInt8)) = true := beq_iff_eq.mpr c51
                                have c51b1 : ((a0.extract (x3_2 : Int).toNat (x4_2 : Int).toNat).toList != ([46, 46] : List UInt8)) = false := bne_eq_false_iff_eq.mpr c51
                                clear c51
                                obtain rfl := Option.some.inj H
                                go_wp2
                                go_ret
                                exact ⟨by first | rfl | (simp; done) | (simp [*]; done), by repeat (first | exact Drawn0.refl _ | apply Drawn0.step)⟩
                              · rw [if_neg c51] at H
                                have c51b0 : ((a0.extract (x3_2 : Int).toNat (x4_2 : Int).toNat).toList == ([46, 46] : List UInt8)) = false := beq_eq_false_iff_ne.mpr c51
                                have c51b1 : ((a0.extract (x3_2 : Int).toNat (x4_2 : Int).toNat).toList != ([46, 46] : List UInt8)) = true := bne_iff_ne.mpr c51
                                have H' := Aside0.mk H
                                clear H
                                go_wp2
                                go_roundg kj5
                                case measure => have := HJ1.out; have := HK2.out; have := HJ5.out; omega
                                case rel => exact ⟨(wrap64 (x4_2 + 1)), (wrap64 (x4_2 + 1)), (by first | rfl | (simp; done) | (simp [*]; done)), (by first | rfl | (simp; done) | (simp [*]; done)), H', ⟨by have := HJ1.out; have := HK2.out; have := HJ5.out; omega⟩, by repeat (first | exact Drawn0.refl _ | apply Drawn0.step)⟩
                        · rw [if_neg c48] at H
                          exact absurd H (by simp)
                      · rw [if_neg c47] at H
                        exact absurd H (by simp)
                    · rw [if_neg c46] at H
                      exact absurd H (by simp)
            · rw [if_neg c5] at H
              have c5b0 : decide (x4_2 ≤ (a0.size : Int)) = false := decide_eq_false c5
              clear c5
              obtain rfl := Option.some.inj H
              go_wp2
              go_ret
              exact ⟨by first | rfl | (simp; done) | (simp [*]; done), by repeat (first | exact Drawn0.refl _ | apply Drawn0.step)⟩

end Go.Proofs.Ytgbkoeinfhlpoaa.F
