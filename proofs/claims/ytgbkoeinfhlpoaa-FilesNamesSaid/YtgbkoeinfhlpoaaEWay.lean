/- strings.HasPrefix, files.under, files.way; strings.Compare. -/
import Derived.Test.YtgbkoeinfhlpoaaEDef
import Derived.Shelf.Abstract
import Derived.Lib.Strings
import Derived.Lib.Bytealg
import Derived.Deep.QuietTactic
import Derived.BigQuiet
namespace Go.Proofs.Ytgbkoeinfhlpoaa.F
open Go.RowKit Go.Shelf Go.Proofs.YtgbkoeinfhlpoaaW.PrintWords Go.Proofs.YtgbkoeinfhlpoaaW.PrintLast Go.Proofs.YtgbkoeinfhlpoaaW.PrintMore
set_option linter.unusedVariables false
set_option linter.unusedSimpArgs false

def preB (s p : ByteArray) : Bool := p.toList.isPrefixOf s.toList

theorem preB_short (s p : ByteArray) (h : s.size < p.size) : preB s p = false := by
  unfold preB
  cases hc : p.toList.isPrefixOf s.toList with
  | false => rfl
  | true =>
    have := (List.isPrefixOf_iff_prefix.mp hc).length_le
    rw [Lib.toList_data, Lib.toList_data, ← Lib.size_eq, ← Lib.size_eq] at this
    omega
theorem preB_long (s p : ByteArray) (h : p.size ≤ s.size) : preB s p = ((s.extract 0 p.size).toList == p.toList) := by
  unfold preB
  rw [Lib.extract_toList, List.drop_zero, Nat.sub_zero, Lib.size_eq, Lib.toList_data, Lib.toList_data]
  rw [Bool.eq_iff_iff, List.isPrefixOf_iff_prefix, beq_iff_eq]
  constructor
  · intro h1
    exact (List.prefix_iff_eq_take.mp h1).symm
  · intro h1
    exact List.prefix_iff_eq_take.mpr h1.symm

set_option maxHeartbeats 1000000 in
set_option maxRecDepth 100000 in
theorem HasPrefix0 (s p : ByteArray) (w : World) :
    Calls Try.prog 133 #[.string s, .string p] w fun e w' => e = .returned (.bool (preB s p)) ∧ w' = w := by
  by_cases h : p.size ≤ s.size
  · rw [preB_long s p h]
    have h1 : decide ((p.size : Int) ≤ (s.size : Int)) = true := decide_eq_true (by omega)
    have h2 : (p.size : Int) ≤ (s.size : Int) := by omega
    have h3 : decide (p.size ≤ s.size) = true := decide_eq_true h
    generalize hb : ((s.extract 0 p.size).toList == p.toList) = b
    go_enter Try.func133, Try.ntmps133
    go_wp2
    go_ret
    exact ⟨rfl, rfl⟩
  · rw [preB_short s p (by omega)]
    have h1 : decide ((p.size : Int) ≤ (s.size : Int)) = false := decide_eq_false (by omega)
    have h3 : decide (p.size ≤ s.size) = false := decide_eq_false h
    go_enter Try.func133, Try.ntmps133
    go_wp2
    go_ret
    exact ⟨rfl, rfl⟩

set_option maxHeartbeats 1000000 in
set_option maxRecDepth 100000 in
theorem HasPrefix_calls (s p : ByteArray) (w : World) :
    Calls Try.prog 106 #[.string s, .string p] w fun e w' => e = .returned (.bool (preB s p)) ∧ w' = w := by
  have hc := HasPrefix0 s p w
  generalize preB s p = b at hc ⊢
  go_enter Try.func106, Try.ntmps106
  go_wp2_with (go_at_call 133; refine hc.mono ?_; rintro e w' ⟨rfl, rfl⟩)
  go_ret
  exact ⟨rfl, rfl⟩

theorem append_list (q r : ByteArray) : (q ++ r).toList = q.toList ++ r.toList := by
  rw [Lib.toList_data, Lib.toList_data, Lib.toList_data]
  simp [ByteArray.data_append]

set_option maxHeartbeats 1000000 in
set_option maxRecDepth 100000 in
theorem under_calls (p q : ByteArray) (hq : q.size ≤ 1000000) (w : World) :
    Calls Try.prog 83 #[.string p, .string q] w fun e w' => e = .returned (.bool (underB p.toList q.toList)) ∧ w' = w := by
  have hc := HasPrefix_calls p (q ++ ⟨#[47]⟩) w
  have e : preB p (q ++ ⟨#[47]⟩) = underB p.toList q.toList := by
    unfold preB underB
    rw [append_list]
    have : (⟨#[47]⟩ : ByteArray).toList = [47] := by rw [Lib.toList_data]
    rw [this]
  rw [e] at hc
  clear e
  generalize underB p.toList q.toList = b at hc ⊢
  go_enter Try.func83, Try.ntmps83
  go_wp2_with fail
  refine hc.mono ?_
  rintro e w' ⟨rfl, rfl⟩
  go_wp2_with fail
  go_ret
  exact ⟨rfl, rfl⟩

set_option maxHeartbeats 1000000 in
set_option maxRecDepth 100000 in
theorem way_calls (p q : ByteArray) (hp : p.size ≤ 1000000) (hq : q.size ≤ 1000000) (w : World) :
    Calls Try.prog 45 #[.string p, .string q] w fun e w' => e = .returned (.bool (wayB p.toList q.toList)) ∧ w' = w := by
  have h1 := under_calls p q hq w
  have h2 := under_calls q p hp w
  unfold wayB
  cases hb : (p.toList == q.toList) with
  | true =>
    clear h1 h2
    simp only [Bool.true_or]
    go_enter Try.func45, Try.ntmps45
    go_wp2
    go_ret
    exact ⟨rfl, rfl⟩
  | false =>
    simp only [Bool.false_or]
    cases hu : underB p.toList q.toList with
    | true =>
      rw [hu] at h1
      clear h2 hu
      simp only [Bool.true_or]
      go_enter Try.func45, Try.ntmps45
      go_wp2_with fail
      refine h1.mono ?_
      rintro e w' ⟨rfl, rfl⟩
      go_wp2_with fail
      go_ret
      exact ⟨rfl, rfl⟩
    | false =>
      rw [hu] at h1
      clear hu
      simp only [Bool.false_or]
      generalize underB q.toList p.toList = b at h2 ⊢
      go_enter Try.func45, Try.ntmps45
      go_wp2_with fail
      refine h1.mono ?_
      rintro e w' ⟨rfl, rfl⟩
      go_wp2_with fail
      refine h2.mono ?_
      rintro e w' ⟨rfl, rfl⟩
      go_wp2_with fail
      go_ret
      exact ⟨rfl, rfl⟩

set_option maxHeartbeats 1000000 in
set_option maxRecDepth 100000 in
theorem CompareString_calls (a b : ByteArray) (w : World) :
    Calls Try.prog 86 #[.string a, .string b] w fun e w' => e = .returned (.int .i64 (Lib.compareBytes a.toList b.toList)) ∧ w' = w := by
  rw [Lib.toList_data, Lib.toList_data]
  go_enter Try.func86, Try.ntmps86
  go_wp2
  rw [run_callFunc_extern Try.func117 (by kernel_rfl) (by kernel_rfl) (by kernel_rfl) (e := Extern.BytealgCompare.compare) (by kernel_rfl), Lib.run_compareString]
  simp only [Result.andThen]
  rw [Oper.upon_value]
  go_wp2
  go_ret
  exact ⟨rfl, rfl⟩

set_option maxHeartbeats 1000000 in
set_option maxRecDepth 100000 in
theorem Compare_calls (a b : ByteArray) (w : World) :
    Calls Try.prog 48 #[.string a, .string b] w fun e w' => e = .returned (.int .i64 (Lib.compareBytes a.toList b.toList)) ∧ w' = w := by
  have hc := CompareString_calls a b w
  generalize Lib.compareBytes a.toList b.toList = r at hc ⊢
  go_enter Try.func48, Try.ntmps48
  go_wp2_with (go_at_call 86; refine hc.mono ?_; rintro e w' ⟨rfl, rfl⟩)
  go_ret
  exact ⟨rfl, rfl⟩

theorem cmp_spec : ∀ (p q : List UInt8), (Lib.compareBytes p q < 0 ↔ ltB p q = true) ∧ (Lib.compareBytes p q = 0 ↔ p = q)
  | [], [] => by simp [Lib.compareBytes, ltB, Op.bytesLess]
  | [], _ :: _ => by simp [Lib.compareBytes, ltB, Op.bytesLess]
  | _ :: _, [] => by simp [Lib.compareBytes, ltB, Op.bytesLess]
  | x :: a, y :: b => by
    have ih := cmp_spec a b
    unfold Lib.compareBytes
    unfold ltB at ih ⊢
    unfold Op.bytesLess
    by_cases h1 : x < y
    · rw [if_pos h1]
      have h3 : x ≠ y := fun e => by subst e; exact UInt8.lt_irrefl x h1
      simp [h1, h3]
    · rw [if_neg h1]
      by_cases h2 : y < x
      · rw [if_pos h2]
        have h3 : x ≠ y := fun e => by subst e; exact UInt8.lt_irrefl x h2
        simp [h1, h3]
      · rw [if_neg h2]
        have h3 : x = y := UInt8.le_antisymm (UInt8.not_lt.mp h2) (UInt8.not_lt.mp h1)
        subst h3
        simp [h1]
        exact ih

#print axioms way_calls
#print axioms Compare_calls
end Go.Proofs.Ytgbkoeinfhlpoaa.F
