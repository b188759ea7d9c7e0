/- The closures of files.Put and files.Lay: is a file in the way. -/
import Derived.Test.YtgbkoeinfhlpoaaEIdx
import Derived.Test.YtgbkoeinfhlpoaaEWay
namespace Go.Proofs.Ytgbkoeinfhlpoaa.F
open Go.RowKit Go.Shelf Go.Proofs.YtgbkoeinfhlpoaaW.PrintWords Go.Proofs.YtgbkoeinfhlpoaaW.PrintLast Go.Proofs.YtgbkoeinfhlpoaaW.PrintMore
set_option linter.unusedVariables false
set_option linter.unusedSimpArgs false

theorem enters54 : ∀ args w, (callFunc 54 args).run Try.prog w = .ok (.enter 54 args) w := enters_of Try.func54 (by kernel_rfl) rfl
theorem enters44 : ∀ args w, (callFunc 44 args).run Try.prog w = .ok (.enter 44 args) w := enters_of Try.func44 (by kernel_rfl) rfl

set_option maxHeartbeats 1000000 in
set_option maxRecDepth 100000 in
theorem asks54 (l : List S33) (q : ByteArray) (B : Nat) (w : World) (hB : B < w.heap.size) (hcell : w.cell? ⟨B, 0, none⟩ = some (.string q)) (hq : q.size ≤ 1000000) (hl : ∀ x ∈ l, x.f0.size ≤ 1000000) :
    Asks 54 #[.pointer (some ⟨B, 0, none⟩)] (fun x => x.p != q.toList && wayB x.p q.toList) l w := fun W x hx hb => by
  have hc : W.cell? ⟨B, 0, none⟩ = some (.string q) := (hb.cell (p := ⟨B, 0, none⟩) hB).trans hcell
  have hBW : B < W.heap.size := Nat.lt_of_lt_of_le hB hb.size
  have hne : B ≠ W.heap.size := by omega
  have hu33 := Try.underlying33
  have hw := way_calls x.f0 q (hl x hx) hq (W.alloc (.cells #[.string x.f0, .string x.f1] 33))
  have hB0 : Below W.heap.size W (W.alloc (.cells #[.string x.f0, .string x.f1] 33)) := (Below.refl _ W).alloc (Nat.le_refl _) _
  show Calls Try.prog 54 #[.agg #[.string x.f0, .string x.f1], .pointer (some ⟨B, 0, none⟩)] W _
  clear hl hx hb hcell
  unfold S33.p
  cases he : (x.f0.toList == q.toList) with
  | true =>
    have h1 : (x.f0.toList != q.toList) = false := by simp [bne, he]
    clear hw
    simp only [h1, Bool.false_and]
    go_enter Try.func54, Try.ntmps54
    go_wp2
    go_ret
    exact ⟨rfl, hB0⟩
  | false =>
    have h1 : (x.f0.toList != q.toList) = true := by simp [bne, he]
    simp only [h1, Bool.true_and]
    generalize wayB x.f0.toList q.toList = b at hw ⊢
    go_enter Try.func54, Try.ntmps54
    go_wp2_with fail
    refine hw.mono ?_
    rintro e w' ⟨rfl, rfl⟩
    go_wp2_with fail
    go_ret
    exact ⟨rfl, hB0⟩

set_option maxHeartbeats 1000000 in
set_option maxRecDepth 100000 in
theorem asks44 (l : List S33) (f : S33) (B : Nat) (w : World) (hB : B < w.heap.size) (hcell : w.cell? ⟨B, 0, none⟩ = some (.string f.f0)) (hq : f.f0.size ≤ 1000000) (hl : ∀ x ∈ l, x.f0.size ≤ 1000000) :
    Asks 44 #[.pointer (some ⟨B, 0, none⟩)] (fun g => wayB f.p g.p) l w := fun W x hx hb => by
  have hc : W.cell? ⟨B, 0, none⟩ = some (.string f.f0) := (hb.cell (p := ⟨B, 0, none⟩) hB).trans hcell
  have hBW : B < W.heap.size := Nat.lt_of_lt_of_le hB hb.size
  have hne : B ≠ W.heap.size := by omega
  have hu33 := Try.underlying33
  have hw := way_calls f.f0 x.f0 hq (hl x hx) (W.alloc (.cells #[.string x.f0, .string x.f1] 33))
  have hB0 : Below W.heap.size W (W.alloc (.cells #[.string x.f0, .string x.f1] 33)) := (Below.refl _ W).alloc (Nat.le_refl _) _
  show Calls Try.prog 44 #[.agg #[.string x.f0, .string x.f1], .pointer (some ⟨B, 0, none⟩)] W fun e w' => e = .returned (.bool (wayB f.f0.toList x.f0.toList)) ∧ Below W.heap.size W w'
  clear hl hx hb hcell
  generalize wayB f.f0.toList x.f0.toList = b at hw ⊢
  go_enter Try.func44, Try.ntmps44
  go_wp2_with fail
  refine hw.mono ?_
  rintro e w' ⟨rfl, rfl⟩
  go_wp2_with fail
  go_ret
  exact ⟨rfl, hB0⟩

#print axioms asks54
#print axioms asks44
end Go.Proofs.Ytgbkoeinfhlpoaa.F
