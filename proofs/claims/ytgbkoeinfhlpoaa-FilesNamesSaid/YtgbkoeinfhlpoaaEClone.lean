/- slices.Clone at files: a row of its own with the same files. -/
import Derived.Test.YtgbkoeinfhlpoaaEDef
import Derived.Shelf.Abstract
import Derived.WalkLawsBesides
import Derived.WalkSpells
namespace Go.Proofs.Ytgbkoeinfhlpoaa.F
open Go.RowKit Go.Shelf Go.Proofs.YtgbkoeinfhlpoaaW.PrintWords Go.Proofs.YtgbkoeinfhlpoaaW.PrintLast Go.Proofs.YtgbkoeinfhlpoaaW.PrintMore
set_option linter.unusedVariables false
set_option linter.unusedSimpArgs false

theorem K_M {w w' : World} {base : Nat} {ok : Nat → Prop} {x : S33} {cs : List Value} (h : k33.K w x cs) : k33.M w' base ok x cs := by
  obtain rfl := k33_open h
  exact k33_mkM _ _ _ _

theorem own_empty (w : World) : k33.R 33 (w.alloc (.cells #[] 33)) w.heap.size (fun _ => True) (.slice (some ⟨w.heap.size, 0, none⟩) 0 0) [] :=
  ⟨fun _ _ => trivial, [], by
    have h2 := World.ownsRow_lit (base := w.heap.size) (e := 33) (size := k33.sz) w (([] : List Value).toArray) 0 (Nat.le_refl _) (by simp [maxLen]) (by simp)
    simpa using h2, Reps.none _ _⟩

set_option maxHeartbeats 2000000 in
set_option maxRecDepth 100000 in
theorem Clone_some (ad : Addr) (c : Nat) (l : List S33) (w : World) (hr : Kd.C k33 w (some ad) l.length l) (hl : l.length ≤ 1000000) :
    Calls Try.prog 42 #[.slice (some ad) l.length c] w fun e w' => ∃ v : Value, e = .returned v ∧ Kd.R k33 33 w' w.heap.size (fun _ => True) v l ∧ Below w.heap.size w w' := by
  have hu33 := Try.underlying33
  have hB0 : Below w.heap.size w (w.alloc (.cells #[] 33)) := (Below.refl _ w).alloc (Nat.le_refl _) _
  have HR := Aside0.mk (Kd.C_below hr hB0)
  have HO := Aside0.mk (own_empty w)
  have HB := Aside0.mk hB0
  have q22 : ∀ (w : World) (a : Option Addr) (n c n' c' : Nat), (binOp .eql 22 (.slice a n c) (.slice none n' c')).run Try.prog w = .ok (.bool a.isNone) w := fun w a n c n' c' => Lib.run_eql_slice_nil w _ _ a n c n' c' Try.underlying22
  clear hr hB0
  go_enter Try.func42, Try.ntmps42
  go_wp2_with (at_builtin; refine Kd.R_append_rows k33 (w0 := w) w.heap.size rfl (.tmp 5) (.tmp 6) 22 33 (.agg #[.string ⟨#[]⟩, .string ⟨#[]⟩]) 32 rfl Try.underlying22 info33 rfl (by decide) (by omega) _ ([] : List S33) l (some ad) l.length c (fun _ => True) (fun _ => False) rfl rfl HO.out HR.out (fun _ _ h => K_M h) (fun _ h => h.elim) (fun _ _ => trivial) HB.out (by simp) (by simp; omega) ?_; intro v1 w1 hR1 hB1 _ _)
  go_ret
  exact ⟨_, rfl, by simpa using hR1, hB1⟩

set_option maxHeartbeats 2000000 in
set_option maxRecDepth 100000 in
theorem Clone_calls (A : Option Addr) (c : Nat) (l : List S33) (w : World) (hr : Kd.C k33 w A l.length l) (hl : l.length ≤ 1000000) :
    Calls Try.prog 42 #[.slice A l.length c] w fun e w' => ∃ v : Value, e = .returned v ∧ Kd.R k33 33 w' w.heap.size (fun _ => True) v l ∧ Below w.heap.size w w' := by
  cases A with
  | some ad => exact Clone_some ad c l w hr hl
  | none =>
    have h0 : l.length = 0 := by
      rcases Nat.eq_zero_or_pos l.length with h | h
      · exact h
      · obtain ⟨ad, e, _⟩ := hr.2.2 h
        cases e
    obtain rfl : l = [] := List.eq_nil_of_length_eq_zero h0
    have q22 : ∀ (w : World) (a : Option Addr) (n c n' c' : Nat), (binOp .eql 22 (.slice a n c) (.slice none n' c')).run Try.prog w = .ok (.bool a.isNone) w := fun w a n c n' c' => Lib.run_eql_slice_nil w _ _ a n c n' c' Try.underlying22
    clear hr h0 hl
    go_enter Try.func42, Try.ntmps42
    go_wp2
    go_ret
    exact ⟨_, rfl, Kd.R_nil _ _ _ _ _, Below.refl _ _⟩

#print axioms Clone_calls
end Go.Proofs.Ytgbkoeinfhlpoaa.F
