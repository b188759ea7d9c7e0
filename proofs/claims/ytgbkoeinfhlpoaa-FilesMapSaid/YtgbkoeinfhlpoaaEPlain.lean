/- files.plain: may a byte stand in a path's part. -/
import Derived.Test.YtgbkoeinfhlpoaaEDef
import Derived.Deep.QuietTactic
import Derived.BigQuiet
namespace Go.Proofs.Ytgbkoeinfhlpoaa.F
open Go.RowKit
set_option linter.unusedVariables false
set_option linter.unusedSimpArgs false

def plainI (n : Int) : Bool := decide ((97 ≤ n ∧ n ≤ 122) ∨ (65 ≤ n ∧ n ≤ 90) ∨ (48 ≤ n ∧ n ≤ 57) ∨ n = 45 ∨ n = 95 ∨ n = 46)

theorem plainI_byte (c : UInt8) : plainI (c.toNat : Int) = plainB c := by
  unfold plainI plainB
  rw [Bool.eq_iff_iff]
  simp [UInt8.le_iff_toNat_le, ← UInt8.toNat_inj]
  omega

set_option maxHeartbeats 1000000 in
set_option maxRecDepth 100000 in
theorem pl_A (n : Int) (h0 : 0 ≤ n) (h1 : n ≤ 255) (h2 : n < 45) (w : World) :
    Calls Try.prog 53 #[.int .u8 n] w fun e w' => e = .returned (.bool false) ∧ w' = w := by
  have e45 : (n == 45) = false := beq_eq_false_iff_ne.mpr (by omega)
  have e95 : (n == 95) = false := beq_eq_false_iff_ne.mpr (by omega)
  have e46 : (n == 46) = false := beq_eq_false_iff_ne.mpr (by omega)
  have d97 : decide (97 ≤ n) = false := decide_eq_false (by omega)
  have d65 : decide (65 ≤ n) = false := decide_eq_false (by omega)
  have d48 : decide (48 ≤ n) = false := decide_eq_false (by omega)
  have d122 : decide (n ≤ 122) = true := decide_eq_true (by omega)
  have d90 : decide (n ≤ 90) = true := decide_eq_true (by omega)
  have d57 : decide (n ≤ 57) = true := decide_eq_true (by omega)
  go_enter Try.func53, Try.ntmps53
  go_wp2
  repeat (go_quiet (fail); try go_wp2)
  go_ret
  exact ⟨rfl, rfl⟩
set_option maxHeartbeats 1000000 in
set_option maxRecDepth 100000 in
theorem pl_B (n : Int) (h0 : 0 ≤ n) (h1 : n ≤ 255) (h2 : 45 ≤ n) (h3 : n ≤ 45) (w : World) :
    Calls Try.prog 53 #[.int .u8 n] w fun e w' => e = .returned (.bool true) ∧ w' = w := by
  have e45 : (n == 45) = true := beq_iff_eq.mpr (by omega)
  have e95 : (n == 95) = false := beq_eq_false_iff_ne.mpr (by omega)
  have e46 : (n == 46) = false := beq_eq_false_iff_ne.mpr (by omega)
  have d97 : decide (97 ≤ n) = false := decide_eq_false (by omega)
  have d65 : decide (65 ≤ n) = false := decide_eq_false (by omega)
  have d48 : decide (48 ≤ n) = false := decide_eq_false (by omega)
  have d122 : decide (n ≤ 122) = true := decide_eq_true (by omega)
  have d90 : decide (n ≤ 90) = true := decide_eq_true (by omega)
  have d57 : decide (n ≤ 57) = true := decide_eq_true (by omega)
  go_enter Try.func53, Try.ntmps53
  go_wp2
  repeat (go_quiet (fail); try go_wp2)
  go_ret
  exact ⟨rfl, rfl⟩
set_option maxHeartbeats 1000000 in
set_option maxRecDepth 100000 in
theorem pl_C (n : Int) (h0 : 0 ≤ n) (h1 : n ≤ 255) (h2 : 46 ≤ n) (h3 : n ≤ 46) (w : World) :
    Calls Try.prog 53 #[.int .u8 n] w fun e w' => e = .returned (.bool true) ∧ w' = w := by
  have e45 : (n == 45) = false := beq_eq_false_iff_ne.mpr (by omega)
  have e95 : (n == 95) = false := beq_eq_false_iff_ne.mpr (by omega)
  have e46 : (n == 46) = true := beq_iff_eq.mpr (by omega)
  have d97 : decide (97 ≤ n) = false := decide_eq_false (by omega)
  have d65 : decide (65 ≤ n) = false := decide_eq_false (by omega)
  have d48 : decide (48 ≤ n) = false := decide_eq_false (by omega)
  have d122 : decide (n ≤ 122) = true := decide_eq_true (by omega)
  have d90 : decide (n ≤ 90) = true := decide_eq_true (by omega)
  have d57 : decide (n ≤ 57) = true := decide_eq_true (by omega)
  go_enter Try.func53, Try.ntmps53
  go_wp2
  repeat (go_quiet (fail); try go_wp2)
  go_ret
  exact ⟨rfl, rfl⟩
set_option maxHeartbeats 1000000 in
set_option maxRecDepth 100000 in
theorem pl_D (n : Int) (h0 : 0 ≤ n) (h1 : n ≤ 255) (h2 : 47 ≤ n) (h3 : n ≤ 47) (w : World) :
    Calls Try.prog 53 #[.int .u8 n] w fun e w' => e = .returned (.bool false) ∧ w' = w := by
  have e45 : (n == 45) = false := beq_eq_false_iff_ne.mpr (by omega)
  have e95 : (n == 95) = false := beq_eq_false_iff_ne.mpr (by omega)
  have e46 : (n == 46) = false := beq_eq_false_iff_ne.mpr (by omega)
  have d97 : decide (97 ≤ n) = false := decide_eq_false (by omega)
  have d65 : decide (65 ≤ n) = false := decide_eq_false (by omega)
  have d48 : decide (48 ≤ n) = false := decide_eq_false (by omega)
  have d122 : decide (n ≤ 122) = true := decide_eq_true (by omega)
  have d90 : decide (n ≤ 90) = true := decide_eq_true (by omega)
  have d57 : decide (n ≤ 57) = true := decide_eq_true (by omega)
  go_enter Try.func53, Try.ntmps53
  go_wp2
  repeat (go_quiet (fail); try go_wp2)
  go_ret
  exact ⟨rfl, rfl⟩
set_option maxHeartbeats 1000000 in
set_option maxRecDepth 100000 in
theorem pl_E (n : Int) (h0 : 0 ≤ n) (h1 : n ≤ 255) (h2 : 48 ≤ n) (h3 : n ≤ 57) (w : World) :
    Calls Try.prog 53 #[.int .u8 n] w fun e w' => e = .returned (.bool true) ∧ w' = w := by
  have e45 : (n == 45) = false := beq_eq_false_iff_ne.mpr (by omega)
  have e95 : (n == 95) = false := beq_eq_false_iff_ne.mpr (by omega)
  have e46 : (n == 46) = false := beq_eq_false_iff_ne.mpr (by omega)
  have d97 : decide (97 ≤ n) = false := decide_eq_false (by omega)
  have d65 : decide (65 ≤ n) = false := decide_eq_false (by omega)
  have d48 : decide (48 ≤ n) = true := decide_eq_true (by omega)
  have d122 : decide (n ≤ 122) = true := decide_eq_true (by omega)
  have d90 : decide (n ≤ 90) = true := decide_eq_true (by omega)
  have d57 : decide (n ≤ 57) = true := decide_eq_true (by omega)
  go_enter Try.func53, Try.ntmps53
  go_wp2
  repeat (go_quiet (fail); try go_wp2)
  go_ret
  exact ⟨rfl, rfl⟩
set_option maxHeartbeats 1000000 in
set_option maxRecDepth 100000 in
theorem pl_F (n : Int) (h0 : 0 ≤ n) (h1 : n ≤ 255) (h2 : 58 ≤ n) (h3 : n ≤ 64) (w : World) :
    Calls Try.prog 53 #[.int .u8 n] w fun e w' => e = .returned (.bool false) ∧ w' = w := by
  have e45 : (n == 45) = false := beq_eq_false_iff_ne.mpr (by omega)
  have e95 : (n == 95) = false := beq_eq_false_iff_ne.mpr (by omega)
  have e46 : (n == 46) = false := beq_eq_false_iff_ne.mpr (by omega)
  have d97 : decide (97 ≤ n) = false := decide_eq_false (by omega)
  have d65 : decide (65 ≤ n) = false := decide_eq_false (by omega)
  have d48 : decide (48 ≤ n) = true := decide_eq_true (by omega)
  have d122 : decide (n ≤ 122) = true := decide_eq_true (by omega)
  have d90 : decide (n ≤ 90) = true := decide_eq_true (by omega)
  have d57 : decide (n ≤ 57) = false := decide_eq_false (by omega)
  go_enter Try.func53, Try.ntmps53
  go_wp2
  repeat (go_quiet (fail); try go_wp2)
  go_ret
  exact ⟨rfl, rfl⟩
set_option maxHeartbeats 1000000 in
set_option maxRecDepth 100000 in
theorem pl_G (n : Int) (h0 : 0 ≤ n) (h1 : n ≤ 255) (h2 : 65 ≤ n) (h3 : n ≤ 90) (w : World) :
    Calls Try.prog 53 #[.int .u8 n] w fun e w' => e = .returned (.bool true) ∧ w' = w := by
  have e45 : (n == 45) = false := beq_eq_false_iff_ne.mpr (by omega)
  have e95 : (n == 95) = false := beq_eq_false_iff_ne.mpr (by omega)
  have e46 : (n == 46) = false := beq_eq_false_iff_ne.mpr (by omega)
  have d97 : decide (97 ≤ n) = false := decide_eq_false (by omega)
  have d65 : decide (65 ≤ n) = true := decide_eq_true (by omega)
  have d48 : decide (48 ≤ n) = true := decide_eq_true (by omega)
  have d122 : decide (n ≤ 122) = true := decide_eq_true (by omega)
  have d90 : decide (n ≤ 90) = true := decide_eq_true (by omega)
  have d57 : decide (n ≤ 57) = false := decide_eq_false (by omega)
  go_enter Try.func53, Try.ntmps53
  go_wp2
  repeat (go_quiet (fail); try go_wp2)
  go_ret
  exact ⟨rfl, rfl⟩
set_option maxHeartbeats 1000000 in
set_option maxRecDepth 100000 in
theorem pl_H (n : Int) (h0 : 0 ≤ n) (h1 : n ≤ 255) (h2 : 91 ≤ n) (h3 : n ≤ 94) (w : World) :
    Calls Try.prog 53 #[.int .u8 n] w fun e w' => e = .returned (.bool false) ∧ w' = w := by
  have e45 : (n == 45) = false := beq_eq_false_iff_ne.mpr (by omega)
  have e95 : (n == 95) = false := beq_eq_false_iff_ne.mpr (by omega)
  have e46 : (n == 46) = false := beq_eq_false_iff_ne.mpr (by omega)
  have d97 : decide (97 ≤ n) = false := decide_eq_false (by omega)
  have d65 : decide (65 ≤ n) = true := decide_eq_true (by omega)
  have d48 : decide (48 ≤ n) = true := decide_eq_true (by omega)
  have d122 : decide (n ≤ 122) = true := decide_eq_true (by omega)
  have d90 : decide (n ≤ 90) = false := decide_eq_false (by omega)
  have d57 : decide (n ≤ 57) = false := decide_eq_false (by omega)
  go_enter Try.func53, Try.ntmps53
  go_wp2
  repeat (go_quiet (fail); try go_wp2)
  go_ret
  exact ⟨rfl, rfl⟩
set_option maxHeartbeats 1000000 in
set_option maxRecDepth 100000 in
theorem pl_I (n : Int) (h0 : 0 ≤ n) (h1 : n ≤ 255) (h2 : 95 ≤ n) (h3 : n ≤ 95) (w : World) :
    Calls Try.prog 53 #[.int .u8 n] w fun e w' => e = .returned (.bool true) ∧ w' = w := by
  have e45 : (n == 45) = false := beq_eq_false_iff_ne.mpr (by omega)
  have e95 : (n == 95) = true := beq_iff_eq.mpr (by omega)
  have e46 : (n == 46) = false := beq_eq_false_iff_ne.mpr (by omega)
  have d97 : decide (97 ≤ n) = false := decide_eq_false (by omega)
  have d65 : decide (65 ≤ n) = true := decide_eq_true (by omega)
  have d48 : decide (48 ≤ n) = true := decide_eq_true (by omega)
  have d122 : decide (n ≤ 122) = true := decide_eq_true (by omega)
  have d90 : decide (n ≤ 90) = false := decide_eq_false (by omega)
  have d57 : decide (n ≤ 57) = false := decide_eq_false (by omega)
  go_enter Try.func53, Try.ntmps53
  go_wp2
  repeat (go_quiet (fail); try go_wp2)
  go_ret
  exact ⟨rfl, rfl⟩
set_option maxHeartbeats 1000000 in
set_option maxRecDepth 100000 in
theorem pl_J (n : Int) (h0 : 0 ≤ n) (h1 : n ≤ 255) (h2 : 96 ≤ n) (h3 : n ≤ 96) (w : World) :
    Calls Try.prog 53 #[.int .u8 n] w fun e w' => e = .returned (.bool false) ∧ w' = w := by
  have e45 : (n == 45) = false := beq_eq_false_iff_ne.mpr (by omega)
  have e95 : (n == 95) = false := beq_eq_false_iff_ne.mpr (by omega)
  have e46 : (n == 46) = false := beq_eq_false_iff_ne.mpr (by omega)
  have d97 : decide (97 ≤ n) = false := decide_eq_false (by omega)
  have d65 : decide (65 ≤ n) = true := decide_eq_true (by omega)
  have d48 : decide (48 ≤ n) = true := decide_eq_true (by omega)
  have d122 : decide (n ≤ 122) = true := decide_eq_true (by omega)
  have d90 : decide (n ≤ 90) = false := decide_eq_false (by omega)
  have d57 : decide (n ≤ 57) = false := decide_eq_false (by omega)
  go_enter Try.func53, Try.ntmps53
  go_wp2
  repeat (go_quiet (fail); try go_wp2)
  go_ret
  exact ⟨rfl, rfl⟩
set_option maxHeartbeats 1000000 in
set_option maxRecDepth 100000 in
theorem pl_K (n : Int) (h0 : 0 ≤ n) (h1 : n ≤ 255) (h2 : 97 ≤ n) (h3 : n ≤ 122) (w : World) :
    Calls Try.prog 53 #[.int .u8 n] w fun e w' => e = .returned (.bool true) ∧ w' = w := by
  have e45 : (n == 45) = false := beq_eq_false_iff_ne.mpr (by omega)
  have e95 : (n == 95) = false := beq_eq_false_iff_ne.mpr (by omega)
  have e46 : (n == 46) = false := beq_eq_false_iff_ne.mpr (by omega)
  have d97 : decide (97 ≤ n) = true := decide_eq_true (by omega)
  have d65 : decide (65 ≤ n) = true := decide_eq_true (by omega)
  have d48 : decide (48 ≤ n) = true := decide_eq_true (by omega)
  have d122 : decide (n ≤ 122) = true := decide_eq_true (by omega)
  have d90 : decide (n ≤ 90) = false := decide_eq_false (by omega)
  have d57 : decide (n ≤ 57) = false := decide_eq_false (by omega)
  go_enter Try.func53, Try.ntmps53
  go_wp2
  repeat (go_quiet (fail); try go_wp2)
  go_ret
  exact ⟨rfl, rfl⟩
set_option maxHeartbeats 1000000 in
set_option maxRecDepth 100000 in
theorem pl_L (n : Int) (h0 : 0 ≤ n) (h1 : n ≤ 255) (h2 : 123 ≤ n) (w : World) :
    Calls Try.prog 53 #[.int .u8 n] w fun e w' => e = .returned (.bool false) ∧ w' = w := by
  have e45 : (n == 45) = false := beq_eq_false_iff_ne.mpr (by omega)
  have e95 : (n == 95) = false := beq_eq_false_iff_ne.mpr (by omega)
  have e46 : (n == 46) = false := beq_eq_false_iff_ne.mpr (by omega)
  have d97 : decide (97 ≤ n) = true := decide_eq_true (by omega)
  have d65 : decide (65 ≤ n) = true := decide_eq_true (by omega)
  have d48 : decide (48 ≤ n) = true := decide_eq_true (by omega)
  have d122 : decide (n ≤ 122) = false := decide_eq_false (by omega)
  have d90 : decide (n ≤ 90) = false := decide_eq_false (by omega)
  have d57 : decide (n ≤ 57) = false := decide_eq_false (by omega)
  go_enter Try.func53, Try.ntmps53
  go_wp2
  repeat (go_quiet (fail); try go_wp2)
  go_ret
  exact ⟨rfl, rfl⟩
theorem plain_calls (n : Int) (h0 : 0 ≤ n) (h1 : n ≤ 255) (w : World) :
    Calls Try.prog 53 #[.int .u8 n] w fun e w' => e = .returned (.bool (plainI n)) ∧ w' = w := by
  have t : ∀ b, b = plainI n → (Calls Try.prog 53 #[.int .u8 n] w fun e w' => e = .returned (.bool b) ∧ w' = w) → Calls Try.prog 53 #[.int .u8 n] w fun e w' => e = .returned (.bool (plainI n)) ∧ w' = w := fun b hb h => by rw [← hb]; exact h
  by_cases cA : n < 45
  · exact t _ (by unfold plainI; rw [decide_eq_false]; omega) (pl_A n h0 h1 (by omega) w)
  by_cases cB : n ≤ 45
  · exact t _ (by unfold plainI; rw [decide_eq_true]; omega) (pl_B n h0 h1 (by omega) (by omega) w)
  by_cases cC : n ≤ 46
  · exact t _ (by unfold plainI; rw [decide_eq_true]; omega) (pl_C n h0 h1 (by omega) (by omega) w)
  by_cases cD : n ≤ 47
  · exact t _ (by unfold plainI; rw [decide_eq_false]; omega) (pl_D n h0 h1 (by omega) (by omega) w)
  by_cases cE : n ≤ 57
  · exact t _ (by unfold plainI; rw [decide_eq_true]; omega) (pl_E n h0 h1 (by omega) (by omega) w)
  by_cases cF : n ≤ 64
  · exact t _ (by unfold plainI; rw [decide_eq_false]; omega) (pl_F n h0 h1 (by omega) (by omega) w)
  by_cases cG : n ≤ 90
  · exact t _ (by unfold plainI; rw [decide_eq_true]; omega) (pl_G n h0 h1 (by omega) (by omega) w)
  by_cases cH : n ≤ 94
  · exact t _ (by unfold plainI; rw [decide_eq_false]; omega) (pl_H n h0 h1 (by omega) (by omega) w)
  by_cases cI : n ≤ 95
  · exact t _ (by unfold plainI; rw [decide_eq_true]; omega) (pl_I n h0 h1 (by omega) (by omega) w)
  by_cases cJ : n ≤ 96
  · exact t _ (by unfold plainI; rw [decide_eq_false]; omega) (pl_J n h0 h1 (by omega) (by omega) w)
  by_cases cK : n ≤ 122
  · exact t _ (by unfold plainI; rw [decide_eq_true]; omega) (pl_K n h0 h1 (by omega) (by omega) w)
  exact t _ (by unfold plainI; rw [decide_eq_false]; omega) (pl_L n h0 h1 (by omega) w)
#print axioms plain_calls
end Go.Proofs.Ytgbkoeinfhlpoaa.F
