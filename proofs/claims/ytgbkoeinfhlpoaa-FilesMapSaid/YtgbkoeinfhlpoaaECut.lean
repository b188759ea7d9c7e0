/- strings.Cut at the separator of one byte 47: what stands ahead of it, what behind it, and whether it stands there. -/
import Derived.Test.YtgbkoeinfhlpoaaEDef
import Derived.Shelf.Abstract
import Derived.Shelf.RegionOpen
import Derived.Lib.Bytealg
import Derived.Lib.Strings
namespace Go.Proofs.Ytgbkoeinfhlpoaa.F
open Go.RowKit Go.Shelf Go.Proofs.YtgbkoeinfhlpoaaW.PrintWords Go.Proofs.YtgbkoeinfhlpoaaW.PrintLast Go.Proofs.YtgbkoeinfhlpoaaW.PrintMore
set_option linter.unusedVariables false
set_option linter.unusedSimpArgs false

def slash : ByteArray := ⟨#[47]⟩

/-- The place of the first byte 47, or -1. -/
def at47 (s : ByteArray) : Int := Lib.indexByte s.data.toList 47

set_option maxHeartbeats 1000000 in
set_option maxRecDepth 100000 in
theorem IndexByte47 (s : ByteArray) (w : World) :
    Calls Try.prog 146 #[.string s, .int .u8 47] w fun e w' => e = .returned (.int .i64 (at47 s)) ∧ w' = w := by
  go_enter Try.func146, Try.ntmps146
  go_wp2
  rw [run_callFunc_extern Try.func151 (by kernel_rfl) (by kernel_rfl) (by kernel_rfl) (e := Extern.BytealgIndexByte.indexByte) (by kernel_rfl), Lib.run_indexByteString]
  simp only [Result.andThen]
  rw [Oper.upon_value]
  go_wp2
  go_ret
  exact ⟨rfl, rfl⟩

theorem at47_slash : at47 slash = 0 := by decide

theorem bytes_ext {a b : ByteArray} (h : a.toList = b.toList) : a = b := by
  rw [Lib.toList_data, Lib.toList_data] at h
  cases a; cases b
  congr
  exact Array.toList_inj.mp h
theorem slash_list : slash.toList = [47] := by rw [Lib.toList_data]; rfl

set_option maxHeartbeats 1000000 in
set_option maxRecDepth 100000 in
theorem Index47 (s : ByteArray) (w : World) :
    Calls Try.prog 139 #[.string s, .string slash] w fun e w' => e = .returned (.int .i64 (at47 s)) ∧ w' = w := by
  have hc := IndexByte47 s w
  by_cases hs : s = slash
  · subst hs
    rw [at47_slash] at hc ⊢
    unfold slash at hc ⊢
    go_enter Try.func139, Try.ntmps139
    go_wp2
    go_ret
    exact ⟨rfl, rfl⟩
  · have hne : (([47] : List UInt8) == s.toList) = false := by
      rw [beq_eq_false_iff_ne]
      intro h
      exact hs (bytes_ext (by rw [slash_list, h]))
    clear hs
    generalize at47 s = r at hc ⊢
    unfold slash
    go_enter Try.func139, Try.ntmps139
    go_wp2_with (go_at_call 146; refine hc.mono ?_; rintro e w' ⟨rfl, rfl⟩)
    go_ret
    exact ⟨rfl, rfl⟩

/-- What strings.Cut answers. -/
def cutV (s : ByteArray) : Value :=
  if at47 s < 0 then .tuple #[.string s, .string ⟨#[]⟩, .bool false]
  else .tuple #[.string (s.extract 0 (at47 s).toNat), .string (s.extract ((at47 s).toNat + 1) s.size), .bool true]

theorem indexByte_ge : ∀ (l : List UInt8) (c : UInt8), -1 ≤ Lib.indexByte l c ∧ Lib.indexByte l c < l.length
  | [], c => by simp [Lib.indexByte]
  | b :: l, c => by
    have h := indexByte_ge l c
    unfold Lib.indexByte
    split
    · simp only [List.length_cons]; omega
    · split
      · simp only [List.length_cons]; omega
      · simp only [List.length_cons]; omega
theorem at47_ge (s : ByteArray) : -1 ≤ at47 s ∧ at47 s < s.size := by
  have h := indexByte_ge s.data.toList 47
  unfold at47
  have e : s.data.toList.length = s.size := (Lib.size_eq s).symm
  omega

set_option maxHeartbeats 1000000 in
set_option maxRecDepth 100000 in
theorem Cut0 (s : ByteArray) (hs : s.size ≤ 140737488351232) (w : World) :
    Calls Try.prog 118 #[.string s, .string slash] w fun e w' => e = .returned (cutV s) ∧ ∃ n, w' = w.drewN n := by
  have hc := Index47 s w
  obtain ⟨h1, h2⟩ := at47_ge s
  unfold cutV
  by_cases hm : at47 s < 0
  · rw [if_pos hm]
    obtain e : at47 s = -1 := by omega
    rw [e] at hc
    clear h1 h2 hm e
    unfold slash at hc ⊢
    go_enter Try.func118, Try.ntmps118
    go_wp2_with (go_at_call 139; refine hc.mono ?_; rintro e w' ⟨rfl, rfl⟩)
    go_ret3
    exact ⟨rfl, 0, rfl⟩
  · rw [if_neg hm]
    obtain ⟨i, hi⟩ : ∃ i : Nat, at47 s = i := ⟨(at47 s).toNat, by omega⟩
    rw [hi] at hc h2 hm ⊢
    clear hi h1
    have c1 : (0 : Int) ≤ ↑i := by omega
    have c2 : (↑i : Int) ≤ ↑s.size := by omega
    have c3 : (0 : Int) ≤ ↑i + 1 := by omega
    have c4 : (↑i + 1 : Int) ≤ ↑s.size := by omega
    clear hm h2
    unfold slash at hc ⊢
    go_enter Try.func118, Try.ntmps118
    go_wp2_with (go_at_call 139; refine hc.mono ?_; rintro e w' ⟨rfl, rfl⟩)
    go_quiet (fail)
    go_wp2
    go_ret3
    exact ⟨rfl, _, rfl⟩

set_option maxHeartbeats 1000000 in
set_option maxRecDepth 100000 in
theorem Cut_calls (s : ByteArray) (hs : s.size ≤ 140737488351232) (w : World) :
    Calls Try.prog 88 #[.string s, .string slash] w fun e w' => e = .returned (cutV s) ∧ ∃ n, w' = w.drewN n := by
  have hc := Cut0 s hs w
  unfold cutV at hc ⊢
  by_cases hm : at47 s < 0
  · rw [if_pos hm] at hc ⊢
    clear hm
    unfold slash at hc ⊢
    go_enter Try.func88, Try.ntmps88
    go_wp2_with (go_at_call 118; refine hc.mono ?_; rintro e w' ⟨rfl, n, rfl⟩)
    go_ret3
    exact ⟨rfl, n, rfl⟩
  · rw [if_neg hm] at hc ⊢
    clear hm
    generalize s.extract 0 (at47 s).toNat = a at hc ⊢
    generalize s.extract ((at47 s).toNat + 1) s.size = b at hc ⊢
    unfold slash at hc ⊢
    go_enter Try.func88, Try.ntmps88
    go_wp2_with (go_at_call 118; refine hc.mono ?_; rintro e w' ⟨rfl, n, rfl⟩)
    go_ret3
    exact ⟨rfl, n, rfl⟩

#print axioms Cut_calls
end Go.Proofs.Ytgbkoeinfhlpoaa.F
