/- bastionref17.Under. -/
import Derived.Test.YtgbkoeinfhlpoaaECheck
namespace Go.Proofs.Ytgbkoeinfhlpoaa.F
open Go.RowKit Go.Shelf Go.Proofs.YtgbkoeinfhlpoaaW.PrintWords Go.Proofs.YtgbkoeinfhlpoaaW.PrintLast Go.Proofs.YtgbkoeinfhlpoaaW.PrintMore
set_option linter.unusedVariables false
set_option linter.unusedSimpArgs false

def bastionref17_Under.f (a0 a1 : ByteArray) : Option Bool := some (underB a0.toList a1.toList)

theorem under_bytes (p q : ByteArray) : underB p.toList q.toList = (decide (q.size < p.size) && (((p.extract 0 q.size).toList == q.toList) && (bt p (q.size : Int) == 47))) := by
  have hi := under_iff p.toList q.toList
  rw [Lib.toList_data, Lib.toList_data] at hi ⊢
  have hp : p.data.toList.length = p.size := (Lib.size_eq p).symm
  have hq : q.data.toList.length = q.size := (Lib.size_eq q).symm
  rw [hq, hp] at hi
  by_cases h1 : q.size < p.size
  · have hb : bt p (q.size : Int) = 47 ↔ p.data.toList[q.size]? = some 47 := by
      have h' : q.size < p.data.toList.length := by omega
      rw [List.getElem?_eq_getElem h']
      have e : bt p (q.size : Int) = (p[q.size].toNat : Int) := by simp [bt, h1]
      rw [e]
      have e2 : p.data.toList[q.size] = p[q.size] := rfl
      rw [e2]
      constructor
      · intro h1
        have : p[q.size].toNat = (47 : UInt8).toNat := by
          have : ((47 : UInt8).toNat : Int) = 47 := rfl
          omega
        rw [UInt8.toNat_inj.mp this]
      · intro h1
        rw [Option.some.inj h1]
        rfl
    have he : ((p.extract 0 q.size).toList == q.data.toList) = (p.data.toList.take q.size == q.data.toList) := by
      rw [Lib.extract_toList]; simp
    rw [he, decide_eq_true h1, Bool.true_and]
    by_cases h2 : p.data.toList.take q.size = q.data.toList
    · by_cases h3 : bt p (q.size : Int) = 47
      · rw [hi.mpr ⟨h1, hb.mp h3, h2⟩]
        simp [h2, h3]
      · rw [show (bt p (q.size : Int) == 47) = false by simp [h3], Bool.and_false]
        cases hu : underB p.data.toList q.data.toList with
        | false => rfl
        | true => exact absurd (hb.mpr (hi.mp hu).2.1) h3
    · rw [show (p.data.toList.take q.size == q.data.toList) = false by simp [h2], Bool.false_and]
      cases hu : underB p.data.toList q.data.toList with
      | false => rfl
      | true => exact absurd (hi.mp hu).2.2 h2
  · rw [decide_eq_false h1, Bool.false_and]
    cases hu : underB p.data.toList q.data.toList with
    | false => rfl
    | true => exact absurd (hi.mp hu).1 h1

set_option maxHeartbeats 1000000 in
set_option maxRecDepth 100000 in
theorem bastionref17_Under.calls (a0 : ByteArray) (a1 : ByteArray) (r : Bool) (w : World) (h : bastionref17_Under.f a0 a1 = some r) :
    Calls Try.prog 94 #[.string a0, .string a1] w fun e w' => e = .returned (.bool r) ∧ Drawn0 w w' := by
  obtain rfl : underB a0.toList a1.toList = r := by simpa [bastionref17_Under.f] using h
  clear h
  rw [under_bytes]
  by_cases h1 : a1.size < a0.size
  · have d0 : decide ((a1.size : Int) < (a0.size : Int)) = true := decide_eq_true (by omega)
    have d1 : decide (a1.size < a0.size) = true := decide_eq_true h1
    have d2 : (a1.size : Int) < (a0.size : Int) := by omega
    have d3 : decide ((a1.size : Int) ≤ (a0.size : Int)) = true := decide_eq_true (by omega)
    have d4 : (a1.size : Int) ≤ (a0.size : Int) := by omega
    rw [d1, Bool.true_and]
    cases hb : ((a0.extract 0 a1.size).toList == a1.toList) with
    | true =>
      rw [Bool.true_and]
      have hx := bt_at a0 (a1.size : Int)
      go_enter Try.func94, Try.ntmps94
      go_wp2
      go_ret
      exact ⟨by rw [← hx (by simpa using h1)]; rfl, Drawn0.refl _⟩
    | false =>
      rw [Bool.false_and]
      go_enter Try.func94, Try.ntmps94
      go_wp2
      go_ret
      exact ⟨rfl, Drawn0.refl _⟩
  · have d0 : decide ((a1.size : Int) < (a0.size : Int)) = false := decide_eq_false (by omega)
    have d1 : decide (a1.size < a0.size) = false := decide_eq_false h1
    rw [d1, Bool.false_and]
    go_enter Try.func94, Try.ntmps94
    go_wp2
    go_ret
    exact ⟨rfl, Drawn0.refl _⟩

#print axioms bastionref17_Under.calls
end Go.Proofs.Ytgbkoeinfhlpoaa.F
