/- slices.SortFunc at files: the shelf's law at this program's own numbers (the table was printed by the kit's tool). -/
import Derived.Shelf.SlSortCmp.WholeK
import Derived.Test.YtgbkoeinfhlpoaaEWay
namespace Go.Proofs.Ytgbkoeinfhlpoaa.F
open Go.RowKit Go.Shelf Go.Lib Go.Sort Go.Proofs Go.Proofs.YtgbkoeinfhlpoaaW.PrintWords Go.Proofs.YtgbkoeinfhlpoaaW.PrintLast Go.Proofs.YtgbkoeinfhlpoaaW.PrintMore
set_option linter.unusedVariables false
set_option linter.unusedSimpArgs false

def sortFile_ren : Go.Shelf.Ren := ⟨fun | 6 => 46 | 15 => 85 | 14 => 84 | 28 => 115 | 29 => 116 | 20 => 107 | 21 => 108 | 22 => 109 | 23 => 110 | 24 => 111 | 25 => 112 | 26 => 113 | 27 => 114 | 46 => 134 | 47 => 135 | 48 => 136 | 49 => 137 | 50 => 138 | 57 => 145 | n => n, fun | 22 => 22 | 24 => 33 | 25 => 61 | 3 => 3 | 39 => 50 | 0 => 0 | 53 => 122 | 55 => 101 | 4 => 4 | 46 => 116 | 45 => 115 | 50 => 67 | 5 => 5 | 9 => 9 | 66 => 135 | 70 => 139 | 76 => 144 | 77 => 109 | n => n, fun | n => n⟩
theorem sortFile : Go.Proofs.SlLaysF0.n6 Try.prog sortFile_ren := {
  mixed := by kernel_rfl
  f6 := ⟨Try.f46.name, by decide, Try.func46.trans (congrArg some (by kernel_rfl))⟩
  f14 := ⟨Try.f84.name, by decide, Try.func84.trans (congrArg some (by kernel_rfl))⟩
  f15 := Try.func85.trans (congrArg some (by kernel_rfl))
  f20 := ⟨Try.f107.name, by decide, Try.func107.trans (congrArg some (by kernel_rfl))⟩
  f21 := ⟨Try.f108.name, by decide, Try.func108.trans (congrArg some (by kernel_rfl))⟩
  f22 := ⟨Try.f109.name, by decide, Try.func109.trans (congrArg some (by kernel_rfl))⟩
  f23 := ⟨Try.f110.name, by decide, Try.func110.trans (congrArg some (by kernel_rfl))⟩
  f24 := ⟨Try.f111.name, by decide, Try.func111.trans (congrArg some (by kernel_rfl))⟩
  f25 := ⟨Try.f112.name, by decide, Try.func112.trans (congrArg some (by kernel_rfl))⟩
  f26 := ⟨Try.f113.name, by decide, Try.func113.trans (congrArg some (by kernel_rfl))⟩
  f27 := ⟨Try.f114.name, by decide, Try.func114.trans (congrArg some (by kernel_rfl))⟩
  f28 := Try.func115.trans (congrArg some (by kernel_rfl))
  f29 := Try.func116.trans (congrArg some (by kernel_rfl))
  f46 := ⟨Try.f134.name, by decide, Try.func134.trans (congrArg some (by kernel_rfl))⟩
  f47 := Try.func135.trans (congrArg some (by kernel_rfl))
  f48 := Try.func136.trans (congrArg some (by kernel_rfl))
  f49 := ⟨Try.f137.name, by decide, Try.func137.trans (congrArg some (by kernel_rfl))⟩
  f50 := ⟨Try.f138.name, by decide, Try.func138.trans (congrArg some (by kernel_rfl))⟩
  f57 := ⟨Try.f145.name, by decide, Try.func145.trans (congrArg some (by kernel_rfl))⟩
  t0 := Try.underlying0
  a0 := Try.isAgg0
  z0 := Try.sizeOf0
  v0 := Try.zeroValue0
  t3 := Try.underlying3
  a3 := Try.isAgg3
  z3 := Try.sizeOf3
  v3 := Try.zeroValue3
  t4 := Try.underlying4
  a4 := Try.isAgg4
  z4 := Try.sizeOf4
  v4 := Try.zeroValue4
  t5 := Try.underlying5
  a5 := Try.isAgg5
  z5 := Try.sizeOf5
  v5 := Try.zeroValue5
  t9 := Try.underlying9
  a9 := Try.isAgg9
  z9 := Try.sizeOf9
  v9 := Try.zeroValue9
  t22 := Try.underlying22
  a22 := Try.isAgg22
  z22 := Try.sizeOf22
  v22 := Try.zeroValue22
  t25 := Try.underlying61
  a25 := Try.isAgg61
  z25 := Try.sizeOf61
  v25 := Try.zeroValue61
  t39 := Try.underlying50
  a39 := Try.isAgg50
  z39 := Try.sizeOf50
  v39 := Try.zeroValue50
  t45 := Try.underlying115
  a45 := Try.isAgg115
  z45 := Try.sizeOf115
  v45 := Try.zeroValue115
  t46 := Try.underlying116
  a46 := Try.isAgg116
  z46 := Try.sizeOf116
  v46 := Try.zeroValue116
  t50 := Try.underlying67
  a50 := Try.isAgg67
  z50 := Try.sizeOf67
  v50 := Try.zeroValue67
  t53 := Try.underlying122
  a53 := Try.isAgg122
  z53 := Try.sizeOf122
  v53 := Try.zeroValue122
  t55 := Try.underlying101
  a55 := Try.isAgg101
  z55 := Try.sizeOf101
  v55 := Try.zeroValue101
  t66 := Try.underlying135
  a66 := Try.isAgg135
  z66 := Try.sizeOf135
  v66 := Try.zeroValue135
  t70 := Try.underlying139
  a70 := Try.isAgg139
  z70 := Try.sizeOf139
  v70 := Try.zeroValue139
  t76 := Try.underlying144
  a76 := Try.isAgg144
  z76 := Try.sizeOf144
  v76 := Try.zeroValue144
  t77 := Try.underlying109
  a77 := Try.isAgg109
  z77 := Try.sizeOf109
  v77 := Try.zeroValue109 }

/-! ### the order of paths -/
theorem ltB_eq (p q : List UInt8) : ltB p q = decide (p < q) := bytesLess_eq p q
theorem ltB_irrefl (p : List UInt8) : ltB p p = false := by rw [ltB_eq]; exact decide_eq_false (List.lt_irrefl p)
theorem ltB_trans {p q r : List UInt8} (h1 : ltB p q = true) (h2 : ltB q r = true) : ltB p r = true := by
  rw [ltB_eq, decide_eq_true_eq] at *
  exact List.lt_trans h1 h2
theorem ltB_asymm {p q : List UInt8} (h1 : ltB p q = true) : ltB q p = false := by
  rw [ltB_eq, decide_eq_true_eq] at *
  rw [decide_eq_false_iff_not]
  exact fun h => List.lt_irrefl p (List.lt_trans h1 h)
theorem ltB_eq_of {p q : List UInt8} (h1 : ltB p q = false) (h2 : ltB q p = false) : p = q := by
  rw [ltB_eq, decide_eq_false_iff_not, List.not_lt] at *
  exact List.le_antisymm h2 h1
theorem ltB_ntrans {p q r : List UInt8} (h1 : ltB p q = false) (h2 : ltB q r = false) : ltB p r = false := by
  rw [ltB_eq, decide_eq_false_iff_not, List.not_lt] at *
  exact List.le_trans h2 h1

/-! ### a file's two cells, and a list's -/
def encF (x : S33) : List Value := [.string x.f0, .string x.f1]
def flatF (l : List S33) : List Value := l.flatMap encF
theorem flatF_len : ∀ (l : List S33), (flatF l).length = l.length * 2
  | [] => rfl
  | x :: t => by
    have := flatF_len t
    simp only [flatF, List.flatMap_cons, List.length_append, List.length_cons] at *
    simp only [encF, List.length_cons, List.length_nil]
    omega
theorem reps_flat {R : S33 → List Value → Prop} (hR : ∀ p c, R p c → c = encF p) : ∀ (l : List S33) (cs : List Value), Reps R 2 l cs → cs = flatF l
  | [], cs, h => by
    have := h.1
    simp only [List.length_nil, Nat.zero_mul] at this
    exact List.eq_nil_of_length_eq_zero this
  | x :: t, cs, h => by
    have h0 := hR _ _ (h.2 0 x rfl)
    have ht : Reps R 2 t (cs.drop 2) := by
      refine ⟨by rw [List.length_drop, h.1, List.length_cons]; omega, fun j p hj => ?_⟩
      have := h.2 (j + 1) p (by simpa using hj)
      rwa [List.drop_drop, show 2 + j * 2 = (j + 1) * 2 by omega]
    have h1 := reps_flat hR t _ ht
    rw [Nat.zero_mul, List.drop_zero] at h0
    calc cs = cs.take 2 ++ cs.drop 2 := (List.take_append_drop 2 cs).symm
      _ = encF x ++ flatF t := by rw [h0, h1]
      _ = flatF (x :: t) := rfl
theorem flat_reps {R : S33 → List Value → Prop} (hR : ∀ p, R p (encF p)) : ∀ (l : List S33), Reps R 2 l (flatF l)
  | [] => Reps.none _ _
  | x :: t => Reps.front (hR x) rfl (flat_reps hR t) rfl
theorem flatF_get (x : S33) : ∀ (l : List S33) (t : Nat), (flatF l)[t]! = if t < l.length * 2 then (encF (l.getD (t / 2) z33))[t % 2]! else (flatF l)[t]! := by
  intro l
  induction l with
  | nil => intro t; simp
  | cons y ys ih =>
    intro t
    rcases t with _ | _ | t
    · simp [flatF, encF]
    · simp [flatF, encF]
    · have h := ih t
      have e1 : (t + 2) / 2 = t / 2 + 1 := by omega
      have e2 : (t + 2) % 2 = t % 2 := by omega
      by_cases hc : t < ys.length * 2
      · rw [if_pos hc] at h
        rw [if_pos (by simp only [List.length_cons]; omega), e1, e2]
        simp only [List.getD_cons_succ]
        rw [← h]
        simp [flatF, encF]
      · rw [if_neg (by simp only [List.length_cons]; omega)]

instance : Inhabited S33 := ⟨z33⟩
theorem flatK_flat (l : List S33) : flatK encF 2 l.toArray = (flatF l).toArray := by
  apply ext_get!
  · rw [size_flatK]; simp [flatF_len]
  · intro t ht
    rw [size_flatK] at ht
    rw [get_flatK _ _ _ _ ht]
    have h := flatF_get z33 l t
    have ht' : t < l.length * 2 := by simpa using ht
    rw [if_pos ht'] at h
    have hh : t / 2 < l.length := by omega
    rw [show ((flatF l).toArray)[t]! = (flatF l)[t]! by simp, h]
    simp [getElem!_pos, hh, List.getD_eq_getElem?_getD]

#print axioms flatK_flat
end Go.Proofs.Ytgbkoeinfhlpoaa.F
