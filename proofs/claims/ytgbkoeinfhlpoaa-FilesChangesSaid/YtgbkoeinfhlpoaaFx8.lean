-- printed by a program of this session (a turned copy of the kit's printing program) out of the translation: not trusted, Lean checks it
import Derived.Test.YtgbkoeinfhlpoaaFx0
import Derived.Test.YtgbkoeinfhlpoaaFx2
import Derived.Test.YtgbkoeinfhlpoaaFx6
import Derived.Test.YtgbkoeinfhlpoaaFx7
import Derived.Test.YtgbkoeinfhlpoaaEDel
import Derived.Test.YtgbkoeinfhlpoaaELay
import Derived.Test.YtgbkoeinfhlpoaaEPut
namespace Go.Proofs.Ytgbkoeinfhlpoaa.F
open Go.RowKit Go.Proofs.YtgbkoeinfhlpoaaW.PrintWords Go.Proofs.YtgbkoeinfhlpoaaW.PrintLast Go.Proofs.YtgbkoeinfhlpoaaW.PrintMore
attribute [local go_sem] max2_int min2_int max_two min_two max_three min_three max_four min_four   -- for this text's walks alone
set_option linter.unusedVariables false
set_option linter.unusedSimpArgs false

/-! ### bastionlaw17_FilesChanges: function 5 -/
mutual
def bastionlaw17_FilesChanges.l0 : Nat → List (S33) → List (S33) → ByteArray → ByteArray → List (S33) → List (S33) → Int → Option (Bool)
  | 0, _, _, _, _, _, _, _ => none
  | k + 1, x0, x1, x2, x3, x9, x10, x11 => if x11 < 2 then ((files_Put.f x9 x2 x3).bind fun bt249 => ((bastionref17_Put.f k x0 x2 x3).bind fun bt253 => ((files_Del.f x9 x2).bind fun bt257 => ((bastionref17_Del.f k x0 x2).bind fun bt261 => ((files_Lay.f x9 x10).bind fun bt265 => ((bastionref17_Lay.f k x0 x1).bind fun bt269 => (if bt249.2 = bt253.2 then (if bt257.2 = bt261.2 then (if bt265.2 = bt269.2 then ((bastionref17_Same.f k bt249.1 bt253.1).bind fun t273 => (if t273 = true then ((bastionref17_Same.f k bt257.1 bt261.1).bind fun t274 => (if t274 = true then ((bastionref17_Same.f k bt265.1 bt269.1).bind fun t275 => (if t275 = true then ((bastionref17_Same.f k x9 x0).bind fun t276 => (if t276 = true then ((bastionref17_Same.f k x10 x1).bind fun t277 => (if t277 = true then (bastionlaw17_FilesChanges.l1 k x0 x1 x2 x3 x9 x10 x11 bt249.1 bt257.1 bt265.1 0) else (none))) else (none))) else (none))) else (none))) else (none))) else (none)) else (none)) else (none)))))))) else (some true)
def bastionlaw17_FilesChanges.l1 : Nat → List (S33) → List (S33) → ByteArray → ByteArray → List (S33) → List (S33) → Int → List (S33) → List (S33) → List (S33) → Int → Option (Bool)
  | 0, _, _, _, _, _, _, _, _, _, _, _ => none
  | k + 1, x0, x1, x2, x3, x9, x10, x11, x12, x16, x20, x24 => if x24 < (x12.length : Int) then (if 0 ≤ x24 then (bastionlaw17_FilesChanges.l1 k x0 x1 x2 x3 x9 x10 x11 (x12.set (x24 : Int).toNat (⟨(⟨#[63]⟩ : ByteArray), (rd_T33 x12 x24).f1⟩ : S33)) x16 x20 (wrap64 (x24 + 1))) else (none)) else (bastionlaw17_FilesChanges.l2 k x0 x1 x2 x3 x9 x10 x11 x16 x20 0)
def bastionlaw17_FilesChanges.l2 : Nat → List (S33) → List (S33) → ByteArray → ByteArray → List (S33) → List (S33) → Int → List (S33) → List (S33) → Int → Option (Bool)
  | 0, _, _, _, _, _, _, _, _, _, _ => none
  | k + 1, x0, x1, x2, x3, x9, x10, x11, x16, x20, x25 => if x25 < (x16.length : Int) then (if 0 ≤ x25 then (bastionlaw17_FilesChanges.l2 k x0 x1 x2 x3 x9 x10 x11 (x16.set (x25 : Int).toNat (⟨(⟨#[63]⟩ : ByteArray), (rd_T33 x16 x25).f1⟩ : S33)) x20 (wrap64 (x25 + 1))) else (none)) else (bastionlaw17_FilesChanges.l3 k x0 x1 x2 x3 x9 x10 x11 x20 0)
def bastionlaw17_FilesChanges.l3 : Nat → List (S33) → List (S33) → ByteArray → ByteArray → List (S33) → List (S33) → Int → List (S33) → Int → Option (Bool)
  | 0, _, _, _, _, _, _, _, _, _ => none
  | k + 1, x0, x1, x2, x3, x9, x10, x11, x20, x26 => if x26 < (x20.length : Int) then (if 0 ≤ x26 then (bastionlaw17_FilesChanges.l3 k x0 x1 x2 x3 x9 x10 x11 (x20.set (x26 : Int).toNat (⟨(⟨#[63]⟩ : ByteArray), (rd_T33 x20 x26).f1⟩ : S33)) (wrap64 (x26 + 1))) else (none)) else (bastionlaw17_FilesChanges.l0 k x0 x1 x2 x3 x9 x10 (wrap64 (x11 + 1)))
end
def bastionlaw17_FilesChanges.f (k : Nat) (l0 : List (S33)) (l1 : List (S33)) (a2 : ByteArray) (a3 : ByteArray) : Option (Bool) := (bastionlaw17_large.f k l0).bind fun t235 => (if t235 = true then (some true) else ((bastionlaw17_large.f k l1).bind fun t236 => (if t236 = true then (some true) else (if (a2.size : Int) > 300 then (some true) else (if (a3.size : Int) > 5000 then (some true) else ((some (([] : List (S33)) : List (S33))).bind fun y237 => (if y237.length + l0.length < 4398046511104 then ((some (([] : List (S33)) : List (S33))).bind fun y243 => (if y243.length + l1.length < 4398046511104 then (bastionlaw17_FilesChanges.l0 k l0 l1 a2 a3 (y237 ++ l0) (y243 ++ l1) 0) else (none))) else (none))))))))
theorem bastionlaw17_FilesChanges.mono_l : ∀ k, (∀ y0 y1 y2 y3 y4 y5 y6, LeO (bastionlaw17_FilesChanges.l0 k y0 y1 y2 y3 y4 y5 y6) (bastionlaw17_FilesChanges.l0 (k + 1) y0 y1 y2 y3 y4 y5 y6)) ∧ (∀ y0 y1 y2 y3 y4 y5 y6 y7 y8 y9 y10, LeO (bastionlaw17_FilesChanges.l1 k y0 y1 y2 y3 y4 y5 y6 y7 y8 y9 y10) (bastionlaw17_FilesChanges.l1 (k + 1) y0 y1 y2 y3 y4 y5 y6 y7 y8 y9 y10)) ∧ (∀ y0 y1 y2 y3 y4 y5 y6 y7 y8 y9, LeO (bastionlaw17_FilesChanges.l2 k y0 y1 y2 y3 y4 y5 y6 y7 y8 y9) (bastionlaw17_FilesChanges.l2 (k + 1) y0 y1 y2 y3 y4 y5 y6 y7 y8 y9)) ∧ (∀ y0 y1 y2 y3 y4 y5 y6 y7 y8, LeO (bastionlaw17_FilesChanges.l3 k y0 y1 y2 y3 y4 y5 y6 y7 y8) (bastionlaw17_FilesChanges.l3 (k + 1) y0 y1 y2 y3 y4 y5 y6 y7 y8))
  | 0 => ⟨fun _ _ _ _ _ _ _ r h => by simp [bastionlaw17_FilesChanges.l0] at h, fun _ _ _ _ _ _ _ _ _ _ _ r h => by simp [bastionlaw17_FilesChanges.l1] at h, fun _ _ _ _ _ _ _ _ _ _ r h => by simp [bastionlaw17_FilesChanges.l2] at h, fun _ _ _ _ _ _ _ _ _ r h => by simp [bastionlaw17_FilesChanges.l3] at h⟩
  | k + 1 => by
    obtain ⟨ih0, ih1, ih2, ih3⟩ := bastionlaw17_FilesChanges.mono_l k
    refine ⟨?_, ?_, ?_, ?_⟩
    · intro y0 y1 y2 y3 y4 y5 y6
      unfold bastionlaw17_FilesChanges.l0
      repeat' first
      | (with_reducible exact ih0 _ _ _ _ _ _ _)
      | (with_reducible exact ih1 _ _ _ _ _ _ _ _ _ _ _)
      | (with_reducible exact ih2 _ _ _ _ _ _ _ _ _ _)
      | (with_reducible exact ih3 _ _ _ _ _ _ _ _ _)
      | (with_reducible exact bastionlaw17_large.mono _ _)
      | (with_reducible exact bastionref17_Del.mono _ _ _)
      | (with_reducible exact bastionref17_Lay.mono _ _ _)
      | (with_reducible exact bastionref17_Put.mono _ _ _ _)
      | (with_reducible exact bastionref17_Same.mono _ _ _)
      | (with_reducible exact LeO.refl _)
      | (with_reducible exact LeO.none _)
      | (with_reducible refine LeO.ite ?_ ?_)
      | (with_reducible refine LeO.bind ?_ (fun _ => ?_))
      | exact ih0 _ _ _ _ _ _ _
      | exact ih1 _ _ _ _ _ _ _ _ _ _ _
      | exact ih2 _ _ _ _ _ _ _ _ _ _
      | exact ih3 _ _ _ _ _ _ _ _ _
      | exact bastionlaw17_large.mono _ _
      | exact bastionref17_Del.mono _ _ _
      | exact bastionref17_Lay.mono _ _ _
      | exact bastionref17_Put.mono _ _ _ _
      | exact bastionref17_Same.mono _ _ _
      | exact LeO.none _
      | refine LeO.ite ?_ ?_
      | refine LeO.bind ?_ (fun _ => ?_)
    · intro y0 y1 y2 y3 y4 y5 y6 y7 y8 y9 y10
      unfold bastionlaw17_FilesChanges.l1
      repeat' first
      | (with_reducible exact ih0 _ _ _ _ _ _ _)
      | (with_reducible exact ih1 _ _ _ _ _ _ _ _ _ _ _)
      | (with_reducible exact ih2 _ _ _ _ _ _ _ _ _ _)
      | (with_reducible exact ih3 _ _ _ _ _ _ _ _ _)
      | (with_reducible exact bastionlaw17_large.mono _ _)
      | (with_reducible exact bastionref17_Del.mono _ _ _)
      | (with_reducible exact bastionref17_Lay.mono _ _ _)
      | (with_reducible exact bastionref17_Put.mono _ _ _ _)
      | (with_reducible exact bastionref17_Same.mono _ _ _)
      | (with_reducible exact LeO.refl _)
      | (with_reducible exact LeO.none _)
      | (with_reducible refine LeO.ite ?_ ?_)
      | (with_reducible refine LeO.bind ?_ (fun _ => ?_))
      | exact ih0 _ _ _ _ _ _ _
      | exact ih1 _ _ _ _ _ _ _ _ _ _ _
      | exact ih2 _ _ _ _ _ _ _ _ _ _
      | exact ih3 _ _ _ _ _ _ _ _ _
      | exact bastionlaw17_large.mono _ _
      | exact bastionref17_Del.mono _ _ _
      | exact bastionref17_Lay.mono _ _ _
      | exact bastionref17_Put.mono _ _ _ _
      | exact bastionref17_Same.mono _ _ _
      | exact LeO.none _
      | refine LeO.ite ?_ ?_
      | refine LeO.bind ?_ (fun _ => ?_)
    · intro y0 y1 y2 y3 y4 y5 y6 y7 y8 y9
      unfold bastionlaw17_FilesChanges.l2
      repeat' first
      | (with_reducible exact ih0 _ _ _ _ _ _ _)
      | (with_reducible exact ih1 _ _ _ _ _ _ _ _ _ _ _)
      | (with_reducible exact ih2 _ _ _ _ _ _ _ _ _ _)
      | (with_reducible exact ih3 _ _ _ _ _ _ _ _ _)
      | (with_reducible exact bastionlaw17_large.mono _ _)
      | (with_reducible exact bastionref17_Del.mono _ _ _)
      | (with_reducible exact bastionref17_Lay.mono _ _ _)
      | (with_reducible exact bastionref17_Put.mono _ _ _ _)
      | (with_reducible exact bastionref17_Same.mono _ _ _)
      | (with_reducible exact LeO.refl _)
      | (with_reducible exact LeO.none _)
      | (with_reducible refine LeO.ite ?_ ?_)
      | (with_reducible refine LeO.bind ?_ (fun _ => ?_))
      | exact ih0 _ _ _ _ _ _ _
      | exact ih1 _ _ _ _ _ _ _ _ _ _ _
      | exact ih2 _ _ _ _ _ _ _ _ _ _
      | exact ih3 _ _ _ _ _ _ _ _ _
      | exact bastionlaw17_large.mono _ _
      | exact bastionref17_Del.mono _ _ _
      | exact bastionref17_Lay.mono _ _ _
      | exact bastionref17_Put.mono _ _ _ _
      | exact bastionref17_Same.mono _ _ _
      | exact LeO.none _
      | refine LeO.ite ?_ ?_
      | refine LeO.bind ?_ (fun _ => ?_)
    · intro y0 y1 y2 y3 y4 y5 y6 y7 y8
      unfold bastionlaw17_FilesChanges.l3
      repeat' first
      | (with_reducible exact ih0 _ _ _ _ _ _ _)
      | (with_reducible exact ih1 _ _ _ _ _ _ _ _ _ _ _)
      | (with_reducible exact ih2 _ _ _ _ _ _ _ _ _ _)
      | (with_reducible exact ih3 _ _ _ _ _ _ _ _ _)
      | (with_reducible exact bastionlaw17_large.mono _ _)
      | (with_reducible exact bastionref17_Del.mono _ _ _)
      | (with_reducible exact bastionref17_Lay.mono _ _ _)
      | (with_reducible exact bastionref17_Put.mono _ _ _ _)
      | (with_reducible exact bastionref17_Same.mono _ _ _)
      | (with_reducible exact LeO.refl _)
      | (with_reducible exact LeO.none _)
      | (with_reducible refine LeO.ite ?_ ?_)
      | (with_reducible refine LeO.bind ?_ (fun _ => ?_))
      | exact ih0 _ _ _ _ _ _ _
      | exact ih1 _ _ _ _ _ _ _ _ _ _ _
      | exact ih2 _ _ _ _ _ _ _ _ _ _
      | exact ih3 _ _ _ _ _ _ _ _ _
      | exact bastionlaw17_large.mono _ _
      | exact bastionref17_Del.mono _ _ _
      | exact bastionref17_Lay.mono _ _ _
      | exact bastionref17_Put.mono _ _ _ _
      | exact bastionref17_Same.mono _ _ _
      | exact LeO.none _
      | refine LeO.ite ?_ ?_
      | refine LeO.bind ?_ (fun _ => ?_)
theorem bastionlaw17_FilesChanges.mono : ∀ a0 a1 a2 a3 k, LeO (bastionlaw17_FilesChanges.f k a0 a1 a2 a3) (bastionlaw17_FilesChanges.f (k + 1) a0 a1 a2 a3) := by
  intro a0 a1 a2 a3 k
  obtain ⟨ih0, ih1, ih2, ih3⟩ := bastionlaw17_FilesChanges.mono_l k
  unfold bastionlaw17_FilesChanges.f
  repeat' first
      | (with_reducible exact ih0 _ _ _ _ _ _ _)
      | (with_reducible exact ih1 _ _ _ _ _ _ _ _ _ _ _)
      | (with_reducible exact ih2 _ _ _ _ _ _ _ _ _ _)
      | (with_reducible exact ih3 _ _ _ _ _ _ _ _ _)
      | (with_reducible exact bastionlaw17_large.mono _ _)
      | (with_reducible exact bastionref17_Del.mono _ _ _)
      | (with_reducible exact bastionref17_Lay.mono _ _ _)
      | (with_reducible exact bastionref17_Put.mono _ _ _ _)
      | (with_reducible exact bastionref17_Same.mono _ _ _)
      | (with_reducible exact LeO.refl _)
      | (with_reducible exact LeO.none _)
      | (with_reducible refine LeO.ite ?_ ?_)
      | (with_reducible refine LeO.bind ?_ (fun _ => ?_))
      | exact ih0 _ _ _ _ _ _ _
      | exact ih1 _ _ _ _ _ _ _ _ _ _ _
      | exact ih2 _ _ _ _ _ _ _ _ _ _
      | exact ih3 _ _ _ _ _ _ _ _ _
      | exact bastionlaw17_large.mono _ _
      | exact bastionref17_Del.mono _ _ _
      | exact bastionref17_Lay.mono _ _ _
      | exact bastionref17_Put.mono _ _ _ _
      | exact bastionref17_Same.mono _ _ _
      | exact LeO.none _
      | refine LeO.ite ?_ ?_
      | refine LeO.bind ?_ (fun _ => ?_)
set_option maxHeartbeats 8000000 in
set_option maxRecDepth 100000 in
theorem bastionlaw17_FilesChanges.calls (k : Nat) (A0 : Option Addr) (c0 : Nat) (l0 : List (S33)) (A1 : Option Addr) (c1 : Nat) (l1 : List (S33)) (a2 : ByteArray) (a3 : ByteArray) (r : Bool) (w : World) (hr0 : Kd.C k33 w A0 l0.length l0) (hc0 : l0.length ≤ c0) (hr1 : Kd.C k33 w A1 l1.length l1) (hc1 : l1.length ≤ c1) (h : bastionlaw17_FilesChanges.f k l0 l1 a2 a3 = some r) :
    Calls Try.prog 5 #[.slice A0 l0.length c0, .slice A1 l1.length c1, .string a2, .string a3] w fun e w' => e = .returned (.bool r) ∧ Below w.heap.size w w' := by
  have HR0 := Aside0.mk hr0
  have HC0 := Aside0.mk hc0
  clear hr0 hc0
  have HR1 := Aside0.mk hr1
  have HC1 := Aside0.mk hc1
  clear hr1 hc1
  have HB := Aside0.mk (Below.refl w.heap.size w)
  have H : ((bastionlaw17_large.f k l0).bind fun t235 => (if t235 = true then (some true) else ((bastionlaw17_large.f k l1).bind fun t236 => (if t236 = true then (some true) else (if (a2.size : Int) > 300 then (some true) else (if (a3.size : Int) > 5000 then (some true) else ((some (([] : List (S33)) : List (S33))).bind fun y237 => (if y237.length + l0.length < 4398046511104 then ((some (([] : List (S33)) : List (S33))).bind fun y243 => (if y243.length + l1.length < 4398046511104 then (bastionlaw17_FilesChanges.l0 k l0 l1 a2 a3 (y237 ++ l0) (y243 ++ l1) 0) else (none))) else (none))))))))) = some r := h
  clear h
  replace H := Option.bind_eq_some_iff.mp H
  obtain ⟨t235, A50, H⟩ := H
  replace H : (if t235 = true then (some true) else ((bastionlaw17_large.f k l1).bind fun t236 => (if t236 = true then (some true) else (if (a2.size : Int) > 300 then (some true) else (if (a3.size : Int) > 5000 then (some true) else ((some (([] : List (S33)) : List (S33))).bind fun y237 => (if y237.length + l0.length < 4398046511104 then ((some (([] : List (S33)) : List (S33))).bind fun y243 => (if y243.length + l1.length < 4398046511104 then (bastionlaw17_FilesChanges.l0 k l0 l1 a2 a3 (y237 ++ l0) (y243 ++ l1) 0) else (none))) else (none)))))))) = some r := H
  have A5 := Aside0.mk A50
  clear A50
  by_cases c6 : t235 = true
  · subst c6
    have H1 : (some true) = some r := by rw [if_pos rfl] at H; exact H
    clear H
    have H := H1
    clear H1
    obtain rfl := Option.some.inj H
    go_enter Try.func5, Try.ntmps5
    go_wp2_with (first | ((with_reducible refine gate_callee (f := 15) rfl ?_); refine goesL_ (some 28) rfl rfl Try.func15 (by kernel_rfl) rfl #[.slice A0 l0.length c0] rfl (by (try simp only [List.map_toArray, List.map_cons, List.map_nil]); first | done | rfl | (simp only [List.length_drop, List.length_take]; rfl)) ?_; (with_reducible refine (bastionlaw17_large.calls k _ _ l0 true _ ?side1 ?side2 A5.out).mono ?_); (case side1 => repeat (first | exact HR0.out | (with_reducible refine Kd.C_alloc ?_ _) | (with_reducible refine Kd.C_drewN ?_ _) | (with_reducible refine Kd.C_drew ?_))); (case side2 => exact HC0.out); rintro e w' ⟨rfl, ⟨nd, rfl⟩⟩; refine ⟨_, rfl, ?_⟩))
    go_ret
    exact ⟨by first | rfl | (simp [errW_none, errW_some] <;> rfl) | (simp [*, errW_none, errW_some] <;> rfl), by repeat (first | (with_reducible first | exact HB.out | apply below_alloc | apply pw_below_drewN | apply below_drew1) | exact HB.out)⟩
  · replace c6 := Bool.eq_false_iff.mpr c6
    subst c6
    have H1 : ((bastionlaw17_large.f k l1).bind fun t236 => (if t236 = true then (some true) else (if (a2.size : Int) > 300 then (some true) else (if (a3.size : Int) > 5000 then (some true) else ((some (([] : List (S33)) : List (S33))).bind fun y237 => (if y237.length + l0.length < 4398046511104 then ((some (([] : List (S33)) : List (S33))).bind fun y243 => (if y243.length + l1.length < 4398046511104 then (bastionlaw17_FilesChanges.l0 k l0 l1 a2 a3 (y237 ++ l0) (y243 ++ l1) 0) else (none))) else (none))))))) = some r := by rw [if_neg (show ¬ (false = true) by decide)] at H; exact H
    clear H
    have H := H1
    clear H1
    replace H := Option.bind_eq_some_iff.mp H
    obtain ⟨t236, A70, H⟩ := H
    replace H : (if t236 = true then (some true) else (if (a2.size : Int) > 300 then (some true) else (if (a3.size : Int) > 5000 then (some true) else ((some (([] : List (S33)) : List (S33))).bind fun y237 => (if y237.length + l0.length < 4398046511104 then ((some (([] : List (S33)) : List (S33))).bind fun y243 => (if y243.length + l1.length < 4398046511104 then (bastionlaw17_FilesChanges.l0 k l0 l1 a2 a3 (y237 ++ l0) (y243 ++ l1) 0) else (none))) else (none)))))) = some r := H
    have A7 := Aside0.mk A70
    clear A70
    by_cases c8 : t236 = true
    · subst c8
      have H1 : (some true) = some r := by rw [if_pos rfl] at H; exact H
      clear H
      have H := H1
      clear H1
      obtain rfl := Option.some.inj H
      go_enter Try.func5, Try.ntmps5
      go_wp2_with (first | ((with_reducible refine gate_callee (f := 15) rfl ?_); refine goesL_ (some 28) rfl rfl Try.func15 (by kernel_rfl) rfl #[.slice A0 l0.length c0] rfl (by (try simp only [List.map_toArray, List.map_cons, List.map_nil]); first | done | rfl | (simp only [List.length_drop, List.length_take]; rfl)) ?_; (with_reducible refine (bastionlaw17_large.calls k _ _ l0 false _ ?side1 ?side2 A5.out).mono ?_); (case side1 => repeat (first | exact HR0.out | (with_reducible refine Kd.C_alloc ?_ _) | (with_reducible refine Kd.C_drewN ?_ _) | (with_reducible refine Kd.C_drew ?_))); (case side2 => exact HC0.out); rintro e w' ⟨rfl, ⟨nd, rfl⟩⟩; refine ⟨_, rfl, ?_⟩) | (go_at_call 15; (with_reducible refine (bastionlaw17_large.calls k _ _ l1 true _ ?side1 ?side2 A7.out).mono ?_); (case side1 => repeat (first | exact HR1.out | (with_reducible refine Kd.C_alloc ?_ _) | (with_reducible refine Kd.C_drewN ?_ _) | (with_reducible refine Kd.C_drew ?_))); (case side2 => exact HC1.out); rintro e w' ⟨rfl, ⟨nd, rfl⟩⟩))
      go_ret
      exact ⟨by first | rfl | (simp [errW_none, errW_some] <;> rfl) | (simp [*, errW_none, errW_some] <;> rfl), by repeat (first | (with_reducible first | exact HB.out | apply below_alloc | apply pw_below_drewN | apply below_drew1) | exact HB.out)⟩
    · replace c8 := Bool.eq_false_iff.mpr c8
      subst c8
      have H1 : (if (a2.size : Int) > 300 then (some true) else (if (a3.size : Int) > 5000 then (some true) else ((some (([] : List (S33)) : List (S33))).bind fun y237 => (if y237.length + l0.length < 4398046511104 then ((some (([] : List (S33)) : List (S33))).bind fun y243 => (if y243.length + l1.length < 4398046511104 then (bastionlaw17_FilesChanges.l0 k l0 l1 a2 a3 (y237 ++ l0) (y243 ++ l1) 0) else (none))) else (none))))) = some r := by rw [if_neg (show ¬ (false = true) by decide)] at H; exact H
      clear H
      have H := H1
      clear H1
      by_cases c9 : (a2.size : Int) > 300
      · rw [if_pos c9] at H
        have c9b0 : decide (300 < (a2.size : Int)) = true := decide_eq_true c9
        have c9b1 : decide (300 < a2.size) = true := decide_eq_true (by omega)
        clear c9
        obtain rfl := Option.some.inj H
        go_enter Try.func5, Try.ntmps5
        go_wp2_with (first | ((with_reducible refine gate_callee (f := 15) rfl ?_); refine goesL_ (some 28) rfl rfl Try.func15 (by kernel_rfl) rfl #[.slice A0 l0.length c0] rfl (by (try simp only [List.map_toArray, List.map_cons, List.map_nil]); first | done | rfl | (simp only [List.length_drop, List.length_take]; rfl)) ?_; (with_reducible refine (bastionlaw17_large.calls k _ _ l0 false _ ?side1 ?side2 A5.out).mono ?_); (case side1 => repeat (first | exact HR0.out | (with_reducible refine Kd.C_alloc ?_ _) | (with_reducible refine Kd.C_drewN ?_ _) | (with_reducible refine Kd.C_drew ?_))); (case side2 => exact HC0.out); rintro e w' ⟨rfl, ⟨nd, rfl⟩⟩; refine ⟨_, rfl, ?_⟩) | (go_at_call 15; (with_reducible refine (bastionlaw17_large.calls k _ _ l1 false _ ?side1 ?side2 A7.out).mono ?_); (case side1 => repeat (first | exact HR1.out | (with_reducible refine Kd.C_alloc ?_ _) | (with_reducible refine Kd.C_drewN ?_ _) | (with_reducible refine Kd.C_drew ?_))); (case side2 => exact HC1.out); rintro e w' ⟨rfl, ⟨nd, rfl⟩⟩))
        go_ret
        exact ⟨by first | rfl | (simp [errW_none, errW_some] <;> rfl) | (simp [*, errW_none, errW_some] <;> rfl), by repeat (first | (with_reducible first | exact HB.out | apply below_alloc | apply pw_below_drewN | apply below_drew1) | exact HB.out)⟩
      · rw [if_neg c9] at H
        have c9b0 : decide (300 < (a2.size : Int)) = false := decide_eq_false c9
        have c9b1 : decide (300 < a2.size) = false := decide_eq_false (by omega)
        clear c9
        by_cases c10 : (a3.size : Int) > 5000
        · rw [if_pos c10] at H
          have c10b0 : decide (5000 < (a3.size : Int)) = true := decide_eq_true c10
          have c10b1 : decide (5000 < a3.size) = true := decide_eq_true (by omega)
          clear c10
          obtain rfl := Option.some.inj H
          go_enter Try.func5, Try.ntmps5
          go_wp2_with (first | ((with_reducible refine gate_callee (f := 15) rfl ?_); refine goesL_ (some 28) rfl rfl Try.func15 (by kernel_rfl) rfl #[.slice A0 l0.length c0] rfl (by (try simp only [List.map_toArray, List.map_cons, List.map_nil]); first | done | rfl | (simp only [List.length_drop, List.length_take]; rfl)) ?_; (with_reducible refine (bastionlaw17_large.calls k _ _ l0 false _ ?side1 ?side2 A5.out).mono ?_); (case side1 => repeat (first | exact HR0.out | (with_reducible refine Kd.C_alloc ?_ _) | (with_reducible refine Kd.C_drewN ?_ _) | (with_reducible refine Kd.C_drew ?_))); (case side2 => exact HC0.out); rintro e w' ⟨rfl, ⟨nd, rfl⟩⟩; refine ⟨_, rfl, ?_⟩) | (go_at_call 15; (with_reducible refine (bastionlaw17_large.calls k _ _ l1 false _ ?side1 ?side2 A7.out).mono ?_); (case side1 => repeat (first | exact HR1.out | (with_reducible refine Kd.C_alloc ?_ _) | (with_reducible refine Kd.C_drewN ?_ _) | (with_reducible refine Kd.C_drew ?_))); (case side2 => exact HC1.out); rintro e w' ⟨rfl, ⟨nd, rfl⟩⟩))
          go_ret
          exact ⟨by first | rfl | (simp [errW_none, errW_some] <;> rfl) | (simp [*, errW_none, errW_some] <;> rfl), by repeat (first | (with_reducible first | exact HB.out | apply below_alloc | apply pw_below_drewN | apply below_drew1) | exact HB.out)⟩
        · rw [if_neg c10] at H
          have c10b0 : decide (5000 < (a3.size : Int)) = false := decide_eq_false c10
          have c10b1 : decide (5000 < a3.size) = false := decide_eq_false (by omega)
          clear c10
          obtain ⟨y237, hy237⟩ : ∃ y_ : List (S33), y_ = (([] : List (S33))) := ⟨_, rfl⟩
          replace H : (if y237.length + l0.length < 4398046511104 then ((some (([] : List (S33)) : List (S33))).bind fun y243 => (if y243.length + l1.length < 4398046511104 then (bastionlaw17_FilesChanges.l0 k l0 l1 a2 a3 (y237 ++ l0) (y243 ++ l1) 0) else (none))) else (none)) = some r := by first | (rw [hy237]; with_reducible exact H) | (have H2_ := (Option.bind_some _ _).symm.trans H; rw [hy237]; with_reducible exact H2_) | (have H2_ := (Option.bind_some _ _).symm.trans H; with_reducible exact H2_) | with_reducible exact H | (rw [hy237]; exact H) | exact H
          have Ny237 := Aside0.mk hy237
          clear hy237
          by_cases c11 : y237.length + l0.length < 4398046511104
          · rw [if_pos c11] at H
            have LMc11 := Aside0.mk c11
            clear c11
            obtain ⟨y240, hy240⟩ : ∃ y_ : List (S33), y_ = (y237 ++ l0) := ⟨_, rfl⟩
            replace H : ((some (([] : List (S33)) : List (S33))).bind fun y243 => (if y243.length + l1.length < 4398046511104 then (bastionlaw17_FilesChanges.l0 k l0 l1 a2 a3 y240 (y243 ++ l1) 0) else (none))) = some r := by first | (rw [hy240]; with_reducible exact H) | (have H2_ := (Option.bind_some _ _).symm.trans H; rw [hy240]; with_reducible exact H2_) | (have H2_ := (Option.bind_some _ _).symm.trans H; with_reducible exact H2_) | with_reducible exact H | (rw [hy240]; exact H) | exact H
            have Ny240 := Aside0.mk hy240
            clear hy240
            obtain ⟨y243, hy243⟩ : ∃ y_ : List (S33), y_ = (([] : List (S33))) := ⟨_, rfl⟩
            replace H : (if y243.length + l1.length < 4398046511104 then (bastionlaw17_FilesChanges.l0 k l0 l1 a2 a3 y240 (y243 ++ l1) 0) else (none)) = some r := by first | (rw [hy243]; with_reducible exact H) | (have H2_ := (Option.bind_some _ _).symm.trans H; rw [hy243]; with_reducible exact H2_) | (have H2_ := (Option.bind_some _ _).symm.trans H; with_reducible exact H2_) | with_reducible exact H | (rw [hy243]; exact H) | exact H
            have Ny243 := Aside0.mk hy243
            clear hy243
            by_cases c12 : y243.length + l1.length < 4398046511104
            · rw [if_pos c12] at H
              have LMc12 := Aside0.mk c12
              clear c12
              obtain ⟨y246, hy246⟩ : ∃ y_ : List (S33), y_ = (y243 ++ l1) := ⟨_, rfl⟩
              replace H : (bastionlaw17_FilesChanges.l0 k l0 l1 a2 a3 y240 y246 0) = some r := by first | (rw [hy246]; with_reducible exact H) | (have H2_ := (Option.bind_some _ _).symm.trans H; rw [hy246]; with_reducible exact H2_) | (have H2_ := (Option.bind_some _ _).symm.trans H; with_reducible exact H2_) | with_reducible exact H | (rw [hy246]; exact H) | exact H
              have Ny246 := Aside0.mk hy246
              clear hy246
              have H' := Aside0.mk H
              clear H
              go_enter Try.func5, Try.ntmps5
              go_wp2_with (first | ((with_reducible refine gate_callee (f := 15) rfl ?_); refine goesL_ (some 28) rfl rfl Try.func15 (by kernel_rfl) rfl #[.slice A0 l0.length c0] rfl (by (try simp only [List.map_toArray, List.map_cons, List.map_nil]); first | done | rfl | (simp only [List.length_drop, List.length_take]; rfl)) ?_; (with_reducible refine (bastionlaw17_large.calls k _ _ l0 false _ ?side1 ?side2 A5.out).mono ?_); (case side1 => repeat (first | exact HR0.out | (with_reducible refine Kd.C_alloc ?_ _) | (with_reducible refine Kd.C_drewN ?_ _) | (with_reducible refine Kd.C_drew ?_))); (case side2 => exact HC0.out); rintro e w' ⟨rfl, ⟨nd, rfl⟩⟩; refine ⟨_, rfl, ?_⟩) | (go_at_call 15; (with_reducible refine (bastionlaw17_large.calls k _ _ l1 false _ ?side1 ?side2 A7.out).mono ?_); (case side1 => repeat (first | exact HR1.out | (with_reducible refine Kd.C_alloc ?_ _) | (with_reducible refine Kd.C_drewN ?_ _) | (with_reducible refine Kd.C_drew ?_))); (case side2 => exact HC1.out); rintro e w' ⟨rfl, ⟨nd, rfl⟩⟩) | ((with_reducible refine gate_dst (N := 43) rfl ?_); (try (refine gate_guard (by rfl) ?_; dsimp only)); refine Kd.R_lit k33 _ 33 ?hg (N := 43) ?hd (xs := ([] : List (S33))) (inner := []) (ok := fun _ => True) (okp := fun _ => True) ?hr ?hp (fun _ hk => hk) trivial (Below.refl _ _) (Nat.le_refl _) (by simp) ?_; (case hd => rfl); (case hg => rfl); (case hr => first | (go_simp; done) | (go_simp; rfl)); (case hp => exact (Reps.none _ _)); intro v238 w13 ho14 hb hg_ hnew_; clear hg_ hnew_; (first | rw [← Ny237.out] at ho14 | (simp only [Int.reduceToNat] at ho14; rw [← Ny237.out] at ho14)); have n0_ := Aside0.mk (Kd.R_lower ho14 (below_size (by repeat (first | (with_reducible first | exact HB.out | apply below_alloc | apply pw_below_drewN | apply below_drew1) | exact HB.out)))); have n1_ := Aside0.mk (below_step (by repeat (first | (with_reducible first | exact HB.out | apply below_alloc | apply pw_below_drewN | apply below_drew1) | exact HB.out)) hb); clear HB; have HO239 := n0_; have HB := n1_; clear n0_ n1_; clear hb ho14) | ((with_reducible refine gate_builtin (b := .append) (xs := #[.tmp 43, .tmp 44]) rfl ?_); (try (refine gate_guard (by rfl) ?_; dsimp only)); at_builtin; refine Kd.R_append_rows k33 (w0 := w) w.heap.size rfl (.tmp 43) (.tmp 44) 22 33 (.agg #[(.string ⟨#[]⟩), (.string ⟨#[]⟩)]) 32 rfl Try.underlying22 info33 rfl (by decide) (by omega) v238 y237 l0 _ _ _ (fun _ => True) (fun _ => False) rfl rfl ?aO ?aR (fun _ _ h => h) (fun _ h => h.elim) ?aF ?aB ?aS ?aL ?_; (case aR => repeat (first | exact (Kd.C_below HR0.out HB.out) | (with_reducible refine Kd.C_alloc ?_ _) | (with_reducible refine Kd.C_drewN ?_ _) | (with_reducible refine Kd.C_drew ?_))); (case aB => exact (by repeat (first | (with_reducible first | exact HB.out | apply below_alloc | apply pw_below_drewN | apply below_drew1) | exact HB.out))); (case aF => exact (fun _ _ => trivial)); (case aO => exact (by (with_reducible repeat (first | apply Kd.R_alloc | apply Kd.R_drewN | apply Kd.R_drew)); exact HO239.out)); (case aS => exact (below_size (by repeat (first | (with_reducible first | exact HB.out | apply below_alloc | apply pw_below_drewN | apply below_drew1) | exact HB.out)))); (case aL => have := LMc11.out; omega); intro v241 w15 ho hb hg hat; rw [← Ny240.out] at ho; have n0_ := Aside0.mk (hb); have n1_ := Aside0.mk (ho); clear HB; clear HO239; have HB := n0_; have HO242 := n1_; clear n0_ n1_; clear ho hb hg hat) | ((with_reducible refine gate_dst (N := 46) rfl ?_); (try (refine gate_guard (by rfl) ?_; dsimp only)); refine Kd.R_lit k33 _ 33 ?hg (N := 46) ?hd (xs := ([] : List (S33))) (inner := []) (ok := fun _ => True) (okp := fun _ => True) ?hr ?hp (fun _ hk => hk) trivial (Below.refl _ _) (Nat.le_refl _) (by simp) ?_; (case hd => rfl); (case hg => rfl); (case hr => first | (go_simp; done) | (go_simp; rfl)); (case hp => exact (Reps.none _ _)); intro v244 w16 ho17 hb hg_ hnew_; clear hg_ hnew_; (first | rw [← Ny243.out] at ho17 | (simp only [Int.reduceToNat] at ho17; rw [← Ny243.out] at ho17)); have n0_ := Aside0.mk (Kd.R_elder' (by (with_reducible repeat (first | apply Kd.R_alloc | apply Kd.R_drewN | apply Kd.R_drew)); exact HO242.out) (Kd.R_base ho17) hb); have n1_ := Aside0.mk (Kd.R_lower (Kd.R_new' ho17 (Kd.R_lt (by (with_reducible repeat (first | apply Kd.R_alloc | apply Kd.R_drewN | apply Kd.R_drew)); exact HO242.out))) (below_size (by repeat (first | (with_reducible first | exact HB.out | apply below_alloc | apply pw_below_drewN | apply below_drew1) | exact HB.out)))); have n2_ := Aside0.mk (below_step (by repeat (first | (with_reducible first | exact HB.out | apply below_alloc | apply pw_below_drewN | apply below_drew1) | exact HB.out)) hb); clear HO242; clear HB; have HO242 := n0_; have HO245 := n1_; have HB := n2_; clear n0_ n1_ n2_; clear hb ho17) | ((with_reducible refine gate_builtin (b := .append) (xs := #[.tmp 46, .tmp 47]) rfl ?_); (try (refine gate_guard (by rfl) ?_; dsimp only)); at_builtin; refine Kd.R_append_rows k33 (w0 := w) w.heap.size rfl (.tmp 46) (.tmp 47) 22 33 (.agg #[(.string ⟨#[]⟩), (.string ⟨#[]⟩)]) 32 rfl Try.underlying22 info33 rfl (by decide) (by omega) v244 y243 l1 _ _ _ (fun k_ => some k_ ≠ (v241 : Value).ownBlock) (fun _ => False) rfl rfl ?aO ?aR (fun _ _ h => h) (fun _ h => h.elim) ?aF ?aB ?aS ?aL ?_; (case aR => repeat (first | exact (Kd.C_below HR1.out HB.out) | (with_reducible refine Kd.C_alloc ?_ _) | (with_reducible refine Kd.C_drewN ?_ _) | (with_reducible refine Kd.C_drew ?_))); (case aB => exact (by repeat (first | (with_reducible first | exact HB.out | apply below_alloc | apply pw_below_drewN | apply below_drew1) | exact HB.out))); (case aF => exact (fun k_ hk => Kd.fresh' (Kd.R_lt (by (with_reducible repeat (first | apply Kd.R_alloc | apply Kd.R_drewN | apply Kd.R_drew)); exact HO242.out)) k_ hk)); (case aO => exact (by (with_reducible repeat (first | apply Kd.R_alloc | apply Kd.R_drewN | apply Kd.R_drew)); exact Kd.R_mono HO245.out (fun _ hk => hk.2))); (case aS => exact (below_size (by repeat (first | (with_reducible first | exact HB.out | apply below_alloc | apply pw_below_drewN | apply below_drew1) | exact HB.out)))); (case aL => have := LMc12.out; omega); intro v247 w18 ho hb hg hat; rw [← Ny246.out] at ho; have n0_ := Aside0.mk (Kd.R_after (ok := (fun _ => True)) (by (with_reducible repeat (first | apply Kd.R_alloc | apply Kd.R_drewN | apply Kd.R_drew)); exact HO242.out) hg hat); have n1_ := Aside0.mk (hb); have n2_ := Aside0.mk (ho); clear HO242; clear HB; clear HO245; have HO242 := n0_; have HB := n1_; have HO248 := n2_; clear n0_ n1_ n2_; clear ho hb hg hat))
              go_loopg [11] k (fun kq v11 w' => ∃ (x9_1 : List (S33)) (x10_1 : List (S33)) (x11_1 : Int), v11 = .int .i64 x11_1 ∧ Aside0 (bastionlaw17_FilesChanges.l0 kq l0 l1 a2 a3 x9_1 x10_1 x11_1 = some r) ∧ Aside0 (kq ≤ k) ∧ Aside0 (Kd.R k33 33 w' w.heap.size (fun k_ => some k_ ≠ (v247 : Value).ownBlock) v241 x9_1) ∧ Aside0 (Kd.R k33 33 w' w.heap.size (fun k_ => some k_ ≠ (v241 : Value).ownBlock) v247 x10_1) ∧ Aside0 (Below w.heap.size w w'))
              case atStart => exact ⟨(y240), (y246), (0), (by first | rfl | (simp; done) | (simp [*]; done)), H', ⟨Nat.le_refl _⟩, ⟨by (with_reducible repeat (first | apply Kd.R_alloc | apply Kd.R_drewN | apply Kd.R_drew)); exact Kd.R_mono HO242.out (fun _ hk => hk.2)⟩, ⟨by (with_reducible repeat (first | apply Kd.R_alloc | apply Kd.R_drewN | apply Kd.R_drew)); exact HO248.out⟩, ⟨by repeat (first | (with_reducible first | exact HB.out | apply below_alloc | apply pw_below_drewN | apply below_drew1) | exact HB.out)⟩⟩
              case round =>
                clear H'
                try clear c1
                try clear p2
                try clear c5
                try clear c6
                try clear c8
                try clear c9
                try clear c9b0
                try clear c9b1
                try clear c10
                try clear c10b0
                try clear c10b1
                try clear c11
                try clear c12
                try clear c15
                obtain ⟨x9_1, x10_1, x11_1, rfl, HA, HK1, HO_9, HO_10, HB⟩ := hrel
                cases gk with
                | zero => exact absurd HA.out (by simp [bastionlaw17_FilesChanges.l0])
                | succ k1 =>
                  have H := HA.out
                  clear HA
                  simp only [bastionlaw17_FilesChanges.l0] at H
                  by_cases c19 : x11_1 < 2
                  · rw [if_pos c19] at H
                    have c19b0 : decide (x11_1 < 2) = true := decide_eq_true c19
                    clear c19
                    replace H := Option.bind_eq_some_iff.mp H
                    obtain ⟨⟨t249, t250⟩, A200, H⟩ := H
                    replace H : ((bastionref17_Put.f k1 l0 a2 a3).bind fun bt253 => ((files_Del.f x9_1 a2).bind fun bt257 => ((bastionref17_Del.f k1 l0 a2).bind fun bt261 => ((files_Lay.f x9_1 x10_1).bind fun bt265 => ((bastionref17_Lay.f k1 l0 l1).bind fun bt269 => (if t250 = bt253.2 then (if bt257.2 = bt261.2 then (if bt265.2 = bt269.2 then ((bastionref17_Same.f k1 t249 bt253.1).bind fun t273 => (if t273 = true then ((bastionref17_Same.f k1 bt257.1 bt261.1).bind fun t274 => (if t274 = true then ((bastionref17_Same.f k1 bt265.1 bt269.1).bind fun t275 => (if t275 = true then ((bastionref17_Same.f k1 x9_1 l0).bind fun t276 => (if t276 = true then ((bastionref17_Same.f k1 x10_1 l1).bind fun t277 => (if t277 = true then (bastionlaw17_FilesChanges.l1 k1 l0 l1 a2 a3 x9_1 x10_1 x11_1 t249 bt257.1 bt265.1 0) else (none))) else (none))) else (none))) else (none))) else (none))) else (none)) else (none)) else (none))))))) = some r := H
                    have A20 := Aside0.mk A200
                    clear A200
                    replace H := Option.bind_eq_some_iff.mp H
                    obtain ⟨⟨t253, t254⟩, A210, H⟩ := H
                    replace H : ((files_Del.f x9_1 a2).bind fun bt257 => ((bastionref17_Del.f k1 l0 a2).bind fun bt261 => ((files_Lay.f x9_1 x10_1).bind fun bt265 => ((bastionref17_Lay.f k1 l0 l1).bind fun bt269 => (if t250 = t254 then (if bt257.2 = bt261.2 then (if bt265.2 = bt269.2 then ((bastionref17_Same.f k1 t249 t253).bind fun t273 => (if t273 = true then ((bastionref17_Same.f k1 bt257.1 bt261.1).bind fun t274 => (if t274 = true then ((bastionref17_Same.f k1 bt265.1 bt269.1).bind fun t275 => (if t275 = true then ((bastionref17_Same.f k1 x9_1 l0).bind fun t276 => (if t276 = true then ((bastionref17_Same.f k1 x10_1 l1).bind fun t277 => (if t277 = true then (bastionlaw17_FilesChanges.l1 k1 l0 l1 a2 a3 x9_1 x10_1 x11_1 t249 bt257.1 bt265.1 0) else (none))) else (none))) else (none))) else (none))) else (none))) else (none)) else (none)) else (none)))))) = some r := H
                    have A21 := Aside0.mk A210
                    clear A210
                    replace H := Option.bind_eq_some_iff.mp H
                    obtain ⟨⟨t257, t258⟩, A220, H⟩ := H
                    replace H : ((bastionref17_Del.f k1 l0 a2).bind fun bt261 => ((files_Lay.f x9_1 x10_1).bind fun bt265 => ((bastionref17_Lay.f k1 l0 l1).bind fun bt269 => (if t250 = t254 then (if t258 = bt261.2 then (if bt265.2 = bt269.2 then ((bastionref17_Same.f k1 t249 t253).bind fun t273 => (if t273 = true then ((bastionref17_Same.f k1 t257 bt261.1).bind fun t274 => (if t274 = true then ((bastionref17_Same.f k1 bt265.1 bt269.1).bind fun t275 => (if t275 = true then ((bastionref17_Same.f k1 x9_1 l0).bind fun t276 => (if t276 = true then ((bastionref17_Same.f k1 x10_1 l1).bind fun t277 => (if t277 = true then (bastionlaw17_FilesChanges.l1 k1 l0 l1 a2 a3 x9_1 x10_1 x11_1 t249 t257 bt265.1 0) else (none))) else (none))) else (none))) else (none))) else (none))) else (none)) else (none)) else (none))))) = some r := H
                    have A22 := Aside0.mk A220
                    clear A220
                    replace H := Option.bind_eq_some_iff.mp H
                    obtain ⟨⟨t261, t262⟩, A230, H⟩ := H
                    replace H : ((files_Lay.f x9_1 x10_1).bind fun bt265 => ((bastionref17_Lay.f k1 l0 l1).bind fun bt269 => (if t250 = t254 then (if t258 = t262 then (if bt265.2 = bt269.2 then ((bastionref17_Same.f k1 t249 t253).bind fun t273 => (if t273 = true then ((bastionref17_Same.f k1 t257 t261).bind fun t274 => (if t274 = true then ((bastionref17_Same.f k1 bt265.1 bt269.1).bind fun t275 => (if t275 = true then ((bastionref17_Same.f k1 x9_1 l0).bind fun t276 => (if t276 = true then ((bastionref17_Same.f k1 x10_1 l1).bind fun t277 => (if t277 = true then (bastionlaw17_FilesChanges.l1 k1 l0 l1 a2 a3 x9_1 x10_1 x11_1 t249 t257 bt265.1 0) else (none))) else (none))) else (none))) else (none))) else (none))) else (none)) else (none)) else (none)))) = some r := H
                    have A23 := Aside0.mk A230
                    clear A230
                    replace H := Option.bind_eq_some_iff.mp H
                    obtain ⟨⟨t265, t266⟩, A240, H⟩ := H
                    replace H : ((bastionref17_Lay.f k1 l0 l1).bind fun bt269 => (if t250 = t254 then (if t258 = t262 then (if t266 = bt269.2 then ((bastionref17_Same.f k1 t249 t253).bind fun t273 => (if t273 = true then ((bastionref17_Same.f k1 t257 t261).bind fun t274 => (if t274 = true then ((bastionref17_Same.f k1 t265 bt269.1).bind fun t275 => (if t275 = true then ((bastionref17_Same.f k1 x9_1 l0).bind fun t276 => (if t276 = true then ((bastionref17_Same.f k1 x10_1 l1).bind fun t277 => (if t277 = true then (bastionlaw17_FilesChanges.l1 k1 l0 l1 a2 a3 x9_1 x10_1 x11_1 t249 t257 t265 0) else (none))) else (none))) else (none))) else (none))) else (none))) else (none)) else (none)) else (none))) = some r := H
                    have A24 := Aside0.mk A240
                    clear A240
                    replace H := Option.bind_eq_some_iff.mp H
                    obtain ⟨⟨t269, t270⟩, A250, H⟩ := H
                    replace H : (if t250 = t254 then (if t258 = t262 then (if t266 = t270 then ((bastionref17_Same.f k1 t249 t253).bind fun t273 => (if t273 = true then ((bastionref17_Same.f k1 t257 t261).bind fun t274 => (if t274 = true then ((bastionref17_Same.f k1 t265 t269).bind fun t275 => (if t275 = true then ((bastionref17_Same.f k1 x9_1 l0).bind fun t276 => (if t276 = true then ((bastionref17_Same.f k1 x10_1 l1).bind fun t277 => (if t277 = true then (bastionlaw17_FilesChanges.l1 k1 l0 l1 a2 a3 x9_1 x10_1 x11_1 t249 t257 t265 0) else (none))) else (none))) else (none))) else (none))) else (none))) else (none)) else (none)) else (none)) = some r := H
                    have A25 := Aside0.mk A250
                    clear A250
                    by_cases c26 : t250 = t254
                    · rw [if_pos c26] at H
                      have c26b0 : (t250 == t254) = true := beq_iff_eq.mpr c26
                      have c26b1 : (t250 != t254) = false := bne_eq_false_iff_eq.mpr c26
                      clear c26
                      by_cases c27 : t258 = t262
                      · rw [if_pos c27] at H
                        have c27b0 : (t258 == t262) = true := beq_iff_eq.mpr c27
                        have c27b1 : (t258 != t262) = false := bne_eq_false_iff_eq.mpr c27
                        clear c27
                        by_cases c28 : t266 = t270
                        · rw [if_pos c28] at H
                          have c28b0 : (t266 == t270) = true := beq_iff_eq.mpr c28
                          have c28b1 : (t266 != t270) = false := bne_eq_false_iff_eq.mpr c28
                          clear c28
                          replace H := Option.bind_eq_some_iff.mp H
                          obtain ⟨t273, A290, H⟩ := H
                          replace H : (if t273 = true then ((bastionref17_Same.f k1 t257 t261).bind fun t274 => (if t274 = true then ((bastionref17_Same.f k1 t265 t269).bind fun t275 => (if t275 = true then ((bastionref17_Same.f k1 x9_1 l0).bind fun t276 => (if t276 = true then ((bastionref17_Same.f k1 x10_1 l1).bind fun t277 => (if t277 = true then (bastionlaw17_FilesChanges.l1 k1 l0 l1 a2 a3 x9_1 x10_1 x11_1 t249 t257 t265 0) else (none))) else (none))) else (none))) else (none))) else (none)) = some r := H
                          have A29 := Aside0.mk A290
                          clear A290
                          by_cases c30 : t273 = true
                          · subst c30
                            have H1 : ((bastionref17_Same.f k1 t257 t261).bind fun t274 => (if t274 = true then ((bastionref17_Same.f k1 t265 t269).bind fun t275 => (if t275 = true then ((bastionref17_Same.f k1 x9_1 l0).bind fun t276 => (if t276 = true then ((bastionref17_Same.f k1 x10_1 l1).bind fun t277 => (if t277 = true then (bastionlaw17_FilesChanges.l1 k1 l0 l1 a2 a3 x9_1 x10_1 x11_1 t249 t257 t265 0) else (none))) else (none))) else (none))) else (none))) = some r := by rw [if_pos rfl] at H; exact H
                            clear H
                            have H := H1
                            clear H1
                            replace H := Option.bind_eq_some_iff.mp H
                            obtain ⟨t274, A310, H⟩ := H
                            replace H : (if t274 = true then ((bastionref17_Same.f k1 t265 t269).bind fun t275 => (if t275 = true then ((bastionref17_Same.f k1 x9_1 l0).bind fun t276 => (if t276 = true then ((bastionref17_Same.f k1 x10_1 l1).bind fun t277 => (if t277 = true then (bastionlaw17_FilesChanges.l1 k1 l0 l1 a2 a3 x9_1 x10_1 x11_1 t249 t257 t265 0) else (none))) else (none))) else (none))) else (none)) = some r := H
                            have A31 := Aside0.mk A310
                            clear A310
                            by_cases c32 : t274 = true
                            · subst c32
                              have H1 : ((bastionref17_Same.f k1 t265 t269).bind fun t275 => (if t275 = true then ((bastionref17_Same.f k1 x9_1 l0).bind fun t276 => (if t276 = true then ((bastionref17_Same.f k1 x10_1 l1).bind fun t277 => (if t277 = true then (bastionlaw17_FilesChanges.l1 k1 l0 l1 a2 a3 x9_1 x10_1 x11_1 t249 t257 t265 0) else (none))) else (none))) else (none))) = some r := by rw [if_pos rfl] at H; exact H
                              clear H
                              have H := H1
                              clear H1
                              replace H := Option.bind_eq_some_iff.mp H
                              obtain ⟨t275, A330, H⟩ := H
                              replace H : (if t275 = true then ((bastionref17_Same.f k1 x9_1 l0).bind fun t276 => (if t276 = true then ((bastionref17_Same.f k1 x10_1 l1).bind fun t277 => (if t277 = true then (bastionlaw17_FilesChanges.l1 k1 l0 l1 a2 a3 x9_1 x10_1 x11_1 t249 t257 t265 0) else (none))) else (none))) else (none)) = some r := H
                              have A33 := Aside0.mk A330
                              clear A330
                              by_cases c34 : t275 = true
                              · subst c34
                                have H1 : ((bastionref17_Same.f k1 x9_1 l0).bind fun t276 => (if t276 = true then ((bastionref17_Same.f k1 x10_1 l1).bind fun t277 => (if t277 = true then (bastionlaw17_FilesChanges.l1 k1 l0 l1 a2 a3 x9_1 x10_1 x11_1 t249 t257 t265 0) else (none))) else (none))) = some r := by rw [if_pos rfl] at H; exact H
                                clear H
                                have H := H1
                                clear H1
                                replace H := Option.bind_eq_some_iff.mp H
                                obtain ⟨t276, A350, H⟩ := H
                                replace H : (if t276 = true then ((bastionref17_Same.f k1 x10_1 l1).bind fun t277 => (if t277 = true then (bastionlaw17_FilesChanges.l1 k1 l0 l1 a2 a3 x9_1 x10_1 x11_1 t249 t257 t265 0) else (none))) else (none)) = some r := H
                                have A35 := Aside0.mk A350
                                clear A350
                                by_cases c36 : t276 = true
                                · subst c36
                                  have H1 : ((bastionref17_Same.f k1 x10_1 l1).bind fun t277 => (if t277 = true then (bastionlaw17_FilesChanges.l1 k1 l0 l1 a2 a3 x9_1 x10_1 x11_1 t249 t257 t265 0) else (none))) = some r := by rw [if_pos rfl] at H; exact H
                                  clear H
                                  have H := H1
                                  clear H1
                                  replace H := Option.bind_eq_some_iff.mp H
                                  obtain ⟨t277, A370, H⟩ := H
                                  replace H : (if t277 = true then (bastionlaw17_FilesChanges.l1 k1 l0 l1 a2 a3 x9_1 x10_1 x11_1 t249 t257 t265 0) else (none)) = some r := H
                                  have A37 := Aside0.mk A370
                                  clear A370
                                  by_cases c38 : t277 = true
                                  · subst c38
                                    have H1 : (bastionlaw17_FilesChanges.l1 k1 l0 l1 a2 a3 x9_1 x10_1 x11_1 t249 t257 t265 0) = some r := by rw [if_pos rfl] at H; exact H
                                    clear H
                                    have H := H1
                                    clear H1
                                    have H' := Aside0.mk H
                                    clear H
                                    obtain ⟨Ao39, co39, eo39⟩ := Kd.R_slice HO_9.out
                                    subst eo39
                                    go_wp2_with (first | ((with_reducible refine gate_callee (f := 22) rfl ?_); refine goesL_ (some 57) rfl rfl Try.func22 (by kernel_rfl) rfl #[.slice Ao39 x9_1.length co39, .string a2, .string a3] rfl (by (try simp only [List.map_toArray, List.map_cons, List.map_nil]); first | done | rfl | (simp only [List.length_drop, List.length_take]; rfl)) ?_; (with_reducible refine (files_Put.calls _ _ x9_1 a2 a3 t249 t250 _ ?side1 ?side2 A20.out).mono ?_); (case side1 => repeat (first | exact (Kd.R_reads' HO_9.out).2.2 | (with_reducible refine Kd.C_alloc ?_ _) | (with_reducible refine Kd.C_drewN ?_ _) | (with_reducible refine Kd.C_drew ?_))); (case side2 => exact (Kd.R_reads' HO_9.out).2.1); rintro e w40 ⟨v251, rfl, ho0, hb⟩; refine ⟨_, rfl, ?_⟩; have n0_ := Aside0.mk (Kd.R_elder' (by (with_reducible repeat (first | apply Kd.R_alloc | apply Kd.R_drewN | apply Kd.R_drew)); exact HO_9.out) (Kd.R_base ho0) hb); have n1_ := Aside0.mk (Kd.R_elder' (by (with_reducible repeat (first | apply Kd.R_alloc | apply Kd.R_drewN | apply Kd.R_drew)); exact HO_10.out) (Kd.R_base ho0) hb); have n2_ := Aside0.mk (Kd.R_lower (Kd.R_new' (Kd.R_new' ho0 (Kd.R_lt (by (with_reducible repeat (first | apply Kd.R_alloc | apply Kd.R_drewN | apply Kd.R_drew)); exact HO_9.out))) (Kd.R_lt (by (with_reducible repeat (first | apply Kd.R_alloc | apply Kd.R_drewN | apply Kd.R_drew)); exact HO_10.out))) (below_size (by repeat (first | (with_reducible first | exact HB.out | apply below_alloc | apply pw_below_drewN | apply below_drew1) | exact HB.out)))); have n3_ := Aside0.mk (below_step (by repeat (first | (with_reducible first | exact HB.out | apply below_alloc | apply pw_below_drewN | apply below_drew1) | exact HB.out)) hb); clear HO_9; clear HO_10; clear HB; have HO_9 := n0_; have HO_10 := n1_; have HO252 := n2_; have HB := n3_; clear n0_ n1_ n2_ n3_; (try clear hb); (try clear hb2); (try clear hk); (try clear hi); (try clear ho0)) | ((with_reducible refine gate_callee (f := 24) rfl ?_); refine goesL_ (some 64) rfl rfl Try.func24 (by kernel_rfl) rfl #[.slice A0 l0.length c0, .string a2, .string a3] rfl (by (try simp only [List.map_toArray, List.map_cons, List.map_nil]); first | done | rfl | (simp only [List.length_drop, List.length_take]; rfl)) ?_; (with_reducible refine (bastionref17_Put.calls k1 _ _ l0 a2 a3 t253 t254 _ ?side1 ?side2 A21.out).mono ?_); (case side1 => repeat (first | exact (Kd.C_below HR0.out HB.out) | (with_reducible refine Kd.C_alloc ?_ _) | (with_reducible refine Kd.C_drewN ?_ _) | (with_reducible refine Kd.C_drew ?_))); (case side2 => exact HC0.out); rintro e w41 ⟨v255, rfl, ho0, hb⟩; refine ⟨_, rfl, ?_⟩; have n0_ := Aside0.mk (Kd.R_elder' (by (with_reducible repeat (first | apply Kd.R_alloc | apply Kd.R_drewN | apply Kd.R_drew)); exact HO_9.out) (Kd.R_base ho0) hb); have n1_ := Aside0.mk (Kd.R_elder' (by (with_reducible repeat (first | apply Kd.R_alloc | apply Kd.R_drewN | apply Kd.R_drew)); exact HO_10.out) (Kd.R_base ho0) hb); have n2_ := Aside0.mk (Kd.R_elder' (by (with_reducible repeat (first | apply Kd.R_alloc | apply Kd.R_drewN | apply Kd.R_drew)); exact HO252.out) (Kd.R_base ho0) hb); have n3_ := Aside0.mk (Kd.R_lower (Kd.R_new' (Kd.R_new' (Kd.R_new' ho0 (Kd.R_lt (by (with_reducible repeat (first | apply Kd.R_alloc | apply Kd.R_drewN | apply Kd.R_drew)); exact HO_9.out))) (Kd.R_lt (by (with_reducible repeat (first | apply Kd.R_alloc | apply Kd.R_drewN | apply Kd.R_drew)); exact HO_10.out))) (Kd.R_lt (by (with_reducible repeat (first | apply Kd.R_alloc | apply Kd.R_drewN | apply Kd.R_drew)); exact HO252.out))) (below_size (by repeat (first | (with_reducible first | exact HB.out | apply below_alloc | apply pw_below_drewN | apply below_drew1) | exact HB.out)))); have n4_ := Aside0.mk (below_step (by repeat (first | (with_reducible first | exact HB.out | apply below_alloc | apply pw_below_drewN | apply below_drew1) | exact HB.out)) hb); clear HO_9; clear HO_10; clear HO252; clear HB; have HO_9 := n0_; have HO_10 := n1_; have HO252 := n2_; have HO256 := n3_; have HB := n4_; clear n0_ n1_ n2_ n3_ n4_; (try clear hb); (try clear hb2); (try clear hk); (try clear hi); (try clear ho0)) | ((with_reducible refine gate_callee (f := 23) rfl ?_); refine goesL_ (some 70) rfl rfl Try.func23 (by kernel_rfl) rfl #[.slice Ao39 x9_1.length co39, .string a2] rfl (by (try simp only [List.map_toArray, List.map_cons, List.map_nil]); first | done | rfl | (simp only [List.length_drop, List.length_take]; rfl)) ?_; (with_reducible refine (files_Del.calls _ _ x9_1 a2 t257 t258 _ ?side1 ?side2 A22.out).mono ?_); (case side1 => repeat (first | exact (Kd.R_reads' HO_9.out).2.2 | (with_reducible refine Kd.C_alloc ?_ _) | (with_reducible refine Kd.C_drewN ?_ _) | (with_reducible refine Kd.C_drew ?_))); (case side2 => exact (Kd.R_reads' HO_9.out).2.1); rintro e w42 ⟨v259, rfl, ho0, hb⟩; refine ⟨_, rfl, ?_⟩; have n0_ := Aside0.mk (Kd.R_elder' (by (with_reducible repeat (first | apply Kd.R_alloc | apply Kd.R_drewN | apply Kd.R_drew)); exact HO_9.out) (Kd.R_base ho0) hb); have n1_ := Aside0.mk (Kd.R_elder' (by (with_reducible repeat (first | apply Kd.R_alloc | apply Kd.R_drewN | apply Kd.R_drew)); exact HO_10.out) (Kd.R_base ho0) hb); have n2_ := Aside0.mk (Kd.R_elder' (by (with_reducible repeat (first | apply Kd.R_alloc | apply Kd.R_drewN | apply Kd.R_drew)); exact HO252.out) (Kd.R_base ho0) hb); have n3_ := Aside0.mk (Kd.R_elder' (by (with_reducible repeat (first | apply Kd.R_alloc | apply Kd.R_drewN | apply Kd.R_drew)); exact HO256.out) (Kd.R_base ho0) hb); have n4_ := Aside0.mk (Kd.R_lower (Kd.R_new' (Kd.R_new' (Kd.R_new' (Kd.R_new' ho0 (Kd.R_lt (by (with_reducible repeat (first | apply Kd.R_alloc | apply Kd.R_drewN | apply Kd.R_drew)); exact HO_9.out))) (Kd.R_lt (by (with_reducible repeat (first | apply Kd.R_alloc | apply Kd.R_drewN | apply Kd.R_drew)); exact HO_10.out))) (Kd.R_lt (by (with_reducible repeat (first | apply Kd.R_alloc | apply Kd.R_drewN | apply Kd.R_drew)); exact HO252.out))) (Kd.R_lt (by (with_reducible repeat (first | apply Kd.R_alloc | apply Kd.R_drewN | apply Kd.R_drew)); exact HO256.out))) (below_size (by repeat (first | (with_reducible first | exact HB.out | apply below_alloc | apply pw_below_drewN | apply below_drew1) | exact HB.out)))); have n5_ := Aside0.mk (below_step (by repeat (first | (with_reducible first | exact HB.out | apply below_alloc | apply pw_below_drewN | apply below_drew1) | exact HB.out)) hb); clear HO_9; clear HO_10; clear HO252; clear HO256; clear HB; have HO_9 := n0_; have HO_10 := n1_; have HO252 := n2_; have HO256 := n3_; have HO260 := n4_; have HB := n5_; clear n0_ n1_ n2_ n3_ n4_ n5_; (try clear hb); (try clear hb2); (try clear hk); (try clear hi); (try clear ho0)) | ((with_reducible refine gate_callee (f := 25) rfl ?_); refine goesL_ (some 76) rfl rfl Try.func25 (by kernel_rfl) rfl #[.slice A0 l0.length c0, .string a2] rfl (by (try simp only [List.map_toArray, List.map_cons, List.map_nil]); first | done | rfl | (simp only [List.length_drop, List.length_take]; rfl)) ?_; (with_reducible refine (bastionref17_Del.calls k1 _ _ l0 a2 t261 t262 _ ?side1 ?side2 A23.out).mono ?_); (case side1 => repeat (first | exact (Kd.C_below HR0.out HB.out) | (with_reducible refine Kd.C_alloc ?_ _) | (with_reducible refine Kd.C_drewN ?_ _) | (with_reducible refine Kd.C_drew ?_))); (case side2 => exact HC0.out); rintro e w43 ⟨v263, rfl, ho0, hb⟩; refine ⟨_, rfl, ?_⟩; have n0_ := Aside0.mk (Kd.R_elder' (by (with_reducible repeat (first | apply Kd.R_alloc | apply Kd.R_drewN | apply Kd.R_drew)); exact HO_9.out) (Kd.R_base ho0) hb); have n1_ := Aside0.mk (Kd.R_elder' (by (with_reducible repeat (first | apply Kd.R_alloc | apply Kd.R_drewN | apply Kd.R_drew)); exact HO_10.out) (Kd.R_base ho0) hb); have n2_ := Aside0.mk (Kd.R_elder' (by (with_reducible repeat (first | apply Kd.R_alloc | apply Kd.R_drewN | apply Kd.R_drew)); exact HO252.out) (Kd.R_base ho0) hb); have n3_ := Aside0.mk (Kd.R_elder' (by (with_reducible repeat (first | apply Kd.R_alloc | apply Kd.R_drewN | apply Kd.R_drew)); exact HO256.out) (Kd.R_base ho0) hb); have n4_ := Aside0.mk (Kd.R_elder' (by (with_reducible repeat (first | apply Kd.R_alloc | apply Kd.R_drewN | apply Kd.R_drew)); exact HO260.out) (Kd.R_base ho0) hb); have n5_ := Aside0.mk (Kd.R_lower (Kd.R_new' (Kd.R_new' (Kd.R_new' (Kd.R_new' (Kd.R_new' ho0 (Kd.R_lt (by (with_reducible repeat (first | apply Kd.R_alloc | apply Kd.R_drewN | apply Kd.R_drew)); exact HO_9.out))) (Kd.R_lt (by (with_reducible repeat (first | apply Kd.R_alloc | apply Kd.R_drewN | apply Kd.R_drew)); exact HO_10.out))) (Kd.R_lt (by (with_reducible repeat (first | apply Kd.R_alloc | apply Kd.R_drewN | apply Kd.R_drew)); exact HO252.out))) (Kd.R_lt (by (with_reducible repeat (first | apply Kd.R_alloc | apply Kd.R_drewN | apply Kd.R_drew)); exact HO256.out))) (Kd.R_lt (by (with_reducible repeat (first | apply Kd.R_alloc | apply Kd.R_drewN | apply Kd.R_drew)); exact HO260.out))) (below_size (by repeat (first | (with_reducible first | exact HB.out | apply below_alloc | apply pw_below_drewN | apply below_drew1) | exact HB.out)))); have n6_ := Aside0.mk (below_step (by repeat (first | (with_reducible first | exact HB.out | apply below_alloc | apply pw_below_drewN | apply below_drew1) | exact HB.out)) hb); clear HO_9; clear HO_10; clear HO252; clear HO256; clear HO260; clear HB; have HO_9 := n0_; have HO_10 := n1_; have HO252 := n2_; have HO256 := n3_; have HO260 := n4_; have HO264 := n5_; have HB := n6_; clear n0_ n1_ n2_ n3_ n4_ n5_ n6_; (try clear hb); (try clear hb2); (try clear hk); (try clear hi); (try clear ho0); obtain ⟨Ao44, co44, eo44⟩ := Kd.R_slice HO_10.out; subst eo44) | ((with_reducible refine gate_callee (f := 17) rfl ?_); refine goesL_ (some 82) rfl rfl Try.func17 (by kernel_rfl) rfl #[.slice Ao39 x9_1.length co39, .slice Ao44 x10_1.length co44] rfl (by (try simp only [List.map_toArray, List.map_cons, List.map_nil]); first | done | rfl | (simp only [List.length_drop, List.length_take]; rfl)) ?_; (with_reducible refine (files_Lay.calls _ _ x9_1 _ _ x10_1 t265 t266 _ ?side1 ?side2 ?side3 ?side4 A24.out).mono ?_); (case side1 => repeat (first | exact (Kd.R_reads' HO_9.out).2.2 | (with_reducible refine Kd.C_alloc ?_ _) | (with_reducible refine Kd.C_drewN ?_ _) | (with_reducible refine Kd.C_drew ?_))); (case side2 => exact (Kd.R_reads' HO_9.out).2.1); (case side3 => repeat (first | exact (Kd.R_reads' HO_10.out).2.2 | (with_reducible refine Kd.C_alloc ?_ _) | (with_reducible refine Kd.C_drewN ?_ _) | (with_reducible refine Kd.C_drew ?_))); (case side4 => exact (Kd.R_reads' HO_10.out).2.1); rintro e w45 ⟨v267, rfl, ho0, hb⟩; refine ⟨_, rfl, ?_⟩; have n0_ := Aside0.mk (Kd.R_elder' (by (with_reducible repeat (first | apply Kd.R_alloc | apply Kd.R_drewN | apply Kd.R_drew)); exact HO_9.out) (Kd.R_base ho0) hb); have n1_ := Aside0.mk (Kd.R_elder' (by (with_reducible repeat (first | apply Kd.R_alloc | apply Kd.R_drewN | apply Kd.R_drew)); exact HO_10.out) (Kd.R_base ho0) hb); have n2_ := Aside0.mk (Kd.R_elder' (by (with_reducible repeat (first | apply Kd.R_alloc | apply Kd.R_drewN | apply Kd.R_drew)); exact HO252.out) (Kd.R_base ho0) hb); have n3_ := Aside0.mk (Kd.R_elder' (by (with_reducible repeat (first | apply Kd.R_alloc | apply Kd.R_drewN | apply Kd.R_drew)); exact HO256.out) (Kd.R_base ho0) hb); have n4_ := Aside0.mk (Kd.R_elder' (by (with_reducible repeat (first | apply Kd.R_alloc | apply Kd.R_drewN | apply Kd.R_drew)); exact HO260.out) (Kd.R_base ho0) hb); have n5_ := Aside0.mk (Kd.R_elder' (by (with_reducible repeat (first | apply Kd.R_alloc | apply Kd.R_drewN | apply Kd.R_drew)); exact HO264.out) (Kd.R_base ho0) hb); have n6_ := Aside0.mk (Kd.R_lower (Kd.R_new' (Kd.R_new' (Kd.R_new' (Kd.R_new' (Kd.R_new' (Kd.R_new' ho0 (Kd.R_lt (by (with_reducible repeat (first | apply Kd.R_alloc | apply Kd.R_drewN | apply Kd.R_drew)); exact HO_9.out))) (Kd.R_lt (by (with_reducible repeat (first | apply Kd.R_alloc | apply Kd.R_drewN | apply Kd.R_drew)); exact HO_10.out))) (Kd.R_lt (by (with_reducible repeat (first | apply Kd.R_alloc | apply Kd.R_drewN | apply Kd.R_drew)); exact HO252.out))) (Kd.R_lt (by (with_reducible repeat (first | apply Kd.R_alloc | apply Kd.R_drewN | apply Kd.R_drew)); exact HO256.out))) (Kd.R_lt (by (with_reducible repeat (first | apply Kd.R_alloc | apply Kd.R_drewN | apply Kd.R_drew)); exact HO260.out))) (Kd.R_lt (by (with_reducible repeat (first | apply Kd.R_alloc | apply Kd.R_drewN | apply Kd.R_drew)); exact HO264.out))) (below_size (by repeat (first | (with_reducible first | exact HB.out | apply below_alloc | apply pw_below_drewN | apply below_drew1) | exact HB.out)))); have n7_ := Aside0.mk (below_step (by repeat (first | (with_reducible first | exact HB.out | apply below_alloc | apply pw_below_drewN | apply below_drew1) | exact HB.out)) hb); clear HO_9; clear HO_10; clear HO252; clear HO256; clear HO260; clear HO264; clear HB; have HO_9 := n0_; have HO_10 := n1_; have HO252 := n2_; have HO256 := n3_; have HO260 := n4_; have HO264 := n5_; have HO268 := n6_; have HB := n7_; clear n0_ n1_ n2_ n3_ n4_ n5_ n6_ n7_; (try clear hb); (try clear hb2); (try clear hk); (try clear hi); (try clear ho0)) | ((with_reducible refine gate_callee (f := 26) rfl ?_); refine goesL_ (some 88) rfl rfl Try.func26 (by kernel_rfl) rfl #[.slice A0 l0.length c0, .slice A1 l1.length c1] rfl (by (try simp only [List.map_toArray, List.map_cons, List.map_nil]); first | done | rfl | (simp only [List.length_drop, List.length_take]; rfl)) ?_; (with_reducible refine (bastionref17_Lay.calls k1 _ _ l0 _ _ l1 t269 t270 _ ?side1 ?side2 ?side3 ?side4 A25.out).mono ?_); (case side1 => repeat (first | exact (Kd.C_below HR0.out HB.out) | (with_reducible refine Kd.C_alloc ?_ _) | (with_reducible refine Kd.C_drewN ?_ _) | (with_reducible refine Kd.C_drew ?_))); (case side2 => exact HC0.out); (case side3 => repeat (first | exact (Kd.C_below HR1.out HB.out) | (with_reducible refine Kd.C_alloc ?_ _) | (with_reducible refine Kd.C_drewN ?_ _) | (with_reducible refine Kd.C_drew ?_))); (case side4 => exact HC1.out); rintro e w46 ⟨v271, rfl, ho0, hb⟩; refine ⟨_, rfl, ?_⟩; have n0_ := Aside0.mk (Kd.R_elder' (by (with_reducible repeat (first | apply Kd.R_alloc | apply Kd.R_drewN | apply Kd.R_drew)); exact HO_9.out) (Kd.R_base ho0) hb); have n1_ := Aside0.mk (Kd.R_elder' (by (with_reducible repeat (first | apply Kd.R_alloc | apply Kd.R_drewN | apply Kd.R_drew)); exact HO_10.out) (Kd.R_base ho0) hb); have n2_ := Aside0.mk (Kd.R_elder' (by (with_reducible repeat (first | apply Kd.R_alloc | apply Kd.R_drewN | apply Kd.R_drew)); exact HO252.out) (Kd.R_base ho0) hb); have n3_ := Aside0.mk (Kd.R_elder' (by (with_reducible repeat (first | apply Kd.R_alloc | apply Kd.R_drewN | apply Kd.R_drew)); exact HO256.out) (Kd.R_base ho0) hb); have n4_ := Aside0.mk (Kd.R_elder' (by (with_reducible repeat (first | apply Kd.R_alloc | apply Kd.R_drewN | apply Kd.R_drew)); exact HO260.out) (Kd.R_base ho0) hb); have n5_ := Aside0.mk (Kd.R_elder' (by (with_reducible repeat (first | apply Kd.R_alloc | apply Kd.R_drewN | apply Kd.R_drew)); exact HO264.out) (Kd.R_base ho0) hb); have n6_ := Aside0.mk (Kd.R_elder' (by (with_reducible repeat (first | apply Kd.R_alloc | apply Kd.R_drewN | apply Kd.R_drew)); exact HO268.out) (Kd.R_base ho0) hb); have n7_ := Aside0.mk (Kd.R_lower (Kd.R_new' (Kd.R_new' (Kd.R_new' (Kd.R_new' (Kd.R_new' (Kd.R_new' (Kd.R_new' ho0 (Kd.R_lt (by (with_reducible repeat (first | apply Kd.R_alloc | apply Kd.R_drewN | apply Kd.R_drew)); exact HO_9.out))) (Kd.R_lt (by (with_reducible repeat (first | apply Kd.R_alloc | apply Kd.R_drewN | apply Kd.R_drew)); exact HO_10.out))) (Kd.R_lt (by (with_reducible repeat (first | apply Kd.R_alloc | apply Kd.R_drewN | apply Kd.R_drew)); exact HO252.out))) (Kd.R_lt (by (with_reducible repeat (first | apply Kd.R_alloc | apply Kd.R_drewN | apply Kd.R_drew)); exact HO256.out))) (Kd.R_lt (by (with_reducible repeat (first | apply Kd.R_alloc | apply Kd.R_drewN | apply Kd.R_drew)); exact HO260.out))) (Kd.R_lt (by (with_reducible repeat (first | apply Kd.R_alloc | apply Kd.R_drewN | apply Kd.R_drew)); exact HO264.out))) (Kd.R_lt (by (with_reducible repeat (first | apply Kd.R_alloc | apply Kd.R_drewN | apply Kd.R_drew)); exact HO268.out))) (below_size (by repeat (first | (with_reducible first | exact HB.out | apply below_alloc | apply pw_below_drewN | apply below_drew1) | exact HB.out)))); have n8_ := Aside0.mk (below_step (by repeat (first | (with_reducible first | exact HB.out | apply below_alloc | apply pw_below_drewN | apply below_drew1) | exact HB.out)) hb); clear HO_9; clear HO_10; clear HO252; clear HO256; clear HO260; clear HO264; clear HO268; clear HB; have HO_9 := n0_; have HO_10 := n1_; have HO252 := n2_; have HO256 := n3_; have HO260 := n4_; have HO264 := n5_; have HO268 := n6_; have HO272 := n7_; have HB := n8_; clear n0_ n1_ n2_ n3_ n4_ n5_ n6_ n7_ n8_; (try clear hb); (try clear hb2); (try clear hk); (try clear hi); (try clear ho0); obtain ⟨Ao47, co47, eo47⟩ := Kd.R_slice HO252.out; subst eo47; obtain ⟨Ao48, co48, eo48⟩ := Kd.R_slice HO256.out; subst eo48) | (go_at_call 27; (with_reducible refine (bastionref17_Same.calls k1 _ _ t249 _ _ t253 true _ ?side1 ?side2 ?side3 ?side4 A29.out).mono ?_); (case side1 => repeat (first | exact (Kd.R_reads' HO252.out).2.2 | (with_reducible refine Kd.C_alloc ?_ _) | (with_reducible refine Kd.C_drewN ?_ _) | (with_reducible refine Kd.C_drew ?_))); (case side2 => exact (Kd.R_reads' HO252.out).2.1); (case side3 => repeat (first | exact (Kd.R_reads' HO256.out).2.2 | (with_reducible refine Kd.C_alloc ?_ _) | (with_reducible refine Kd.C_drewN ?_ _) | (with_reducible refine Kd.C_drew ?_))); (case side4 => exact (Kd.R_reads' HO256.out).2.1); rintro e w' ⟨rfl, ⟨nd, rfl⟩⟩; obtain ⟨Ao49, co49, eo49⟩ := Kd.R_slice HO260.out; subst eo49; obtain ⟨Ao50, co50, eo50⟩ := Kd.R_slice HO264.out; subst eo50) | (go_at_call 27; (with_reducible refine (bastionref17_Same.calls k1 _ _ t257 _ _ t261 true _ ?side1 ?side2 ?side3 ?side4 A31.out).mono ?_); (case side1 => repeat (first | exact (Kd.R_reads' HO260.out).2.2 | (with_reducible refine Kd.C_alloc ?_ _) | (with_reducible refine Kd.C_drewN ?_ _) | (with_reducible refine Kd.C_drew ?_))); (case side2 => exact (Kd.R_reads' HO260.out).2.1); (case side3 => repeat (first | exact (Kd.R_reads' HO264.out).2.2 | (with_reducible refine Kd.C_alloc ?_ _) | (with_reducible refine Kd.C_drewN ?_ _) | (with_reducible refine Kd.C_drew ?_))); (case side4 => exact (Kd.R_reads' HO264.out).2.1); rintro e w' ⟨rfl, ⟨nd, rfl⟩⟩; obtain ⟨Ao51, co51, eo51⟩ := Kd.R_slice HO268.out; subst eo51; obtain ⟨Ao52, co52, eo52⟩ := Kd.R_slice HO272.out; subst eo52) | (go_at_call 27; (with_reducible refine (bastionref17_Same.calls k1 _ _ t265 _ _ t269 true _ ?side1 ?side2 ?side3 ?side4 A33.out).mono ?_); (case side1 => repeat (first | exact (Kd.R_reads' HO268.out).2.2 | (with_reducible refine Kd.C_alloc ?_ _) | (with_reducible refine Kd.C_drewN ?_ _) | (with_reducible refine Kd.C_drew ?_))); (case side2 => exact (Kd.R_reads' HO268.out).2.1); (case side3 => repeat (first | exact (Kd.R_reads' HO272.out).2.2 | (with_reducible refine Kd.C_alloc ?_ _) | (with_reducible refine Kd.C_drewN ?_ _) | (with_reducible refine Kd.C_drew ?_))); (case side4 => exact (Kd.R_reads' HO272.out).2.1); rintro e w' ⟨rfl, ⟨nd, rfl⟩⟩) | (go_at_call 27; (with_reducible refine (bastionref17_Same.calls k1 _ _ x9_1 _ _ l0 true _ ?side1 ?side2 ?side3 ?side4 A35.out).mono ?_); (case side1 => repeat (first | exact (Kd.R_reads' HO_9.out).2.2 | (with_reducible refine Kd.C_alloc ?_ _) | (with_reducible refine Kd.C_drewN ?_ _) | (with_reducible refine Kd.C_drew ?_))); (case side2 => exact (Kd.R_reads' HO_9.out).2.1); (case side3 => repeat (first | exact (Kd.C_below HR0.out (by repeat (first | (with_reducible first | exact HB.out | apply below_alloc | apply pw_below_drewN | apply below_drew1) | exact HB.out))) | (with_reducible refine Kd.C_alloc ?_ _) | (with_reducible refine Kd.C_drewN ?_ _) | (with_reducible refine Kd.C_drew ?_))); (case side4 => exact HC0.out); rintro e w' ⟨rfl, ⟨nd, rfl⟩⟩) | (go_at_call 27; (with_reducible refine (bastionref17_Same.calls k1 _ _ x10_1 _ _ l1 true _ ?side1 ?side2 ?side3 ?side4 A37.out).mono ?_); (case side1 => repeat (first | exact (Kd.R_reads' HO_10.out).2.2 | (with_reducible refine Kd.C_alloc ?_ _) | (with_reducible refine Kd.C_drewN ?_ _) | (with_reducible refine Kd.C_drew ?_))); (case side2 => exact (Kd.R_reads' HO_10.out).2.1); (case side3 => repeat (first | exact (Kd.C_below HR1.out (by repeat (first | (with_reducible first | exact HB.out | apply below_alloc | apply pw_below_drewN | apply below_drew1) | exact HB.out))) | (with_reducible refine Kd.C_alloc ?_ _) | (with_reducible refine Kd.C_drewN ?_ _) | (with_reducible refine Kd.C_drew ?_))); (case side4 => exact HC1.out); rintro e w' ⟨rfl, ⟨nd, rfl⟩⟩))
                                    go_loopg [24] k1 (fun kq v24 w' => ∃ (x12_2 : List (S33)) (x24_2 : Int), v24 = .int .i64 x24_2 ∧ Aside0 (bastionlaw17_FilesChanges.l1 kq l0 l1 a2 a3 x9_1 x10_1 x11_1 x12_2 t257 t265 x24_2 = some r) ∧ Aside0 (kq ≤ k1) ∧ Aside0 (Kd.R k33 33 w' w.heap.size (fun k_ => some k_ ≠ ((.slice Ao44 x10_1.length co44) : Value).ownBlock ∧ some k_ ≠ ((.slice Ao47 t249.length co47) : Value).ownBlock ∧ some k_ ≠ ((.slice Ao49 t257.length co49) : Value).ownBlock ∧ some k_ ≠ ((.slice Ao51 t265.length co51) : Value).ownBlock) (.slice Ao39 x9_1.length co39) x9_1) ∧ Aside0 (Kd.R k33 33 w' w.heap.size (fun k_ => some k_ ≠ ((.slice Ao39 x9_1.length co39) : Value).ownBlock ∧ some k_ ≠ ((.slice Ao47 t249.length co47) : Value).ownBlock ∧ some k_ ≠ ((.slice Ao49 t257.length co49) : Value).ownBlock ∧ some k_ ≠ ((.slice Ao51 t265.length co51) : Value).ownBlock) (.slice Ao44 x10_1.length co44) x10_1) ∧ Aside0 (Kd.R k33 33 w' w.heap.size (fun k_ => some k_ ≠ ((.slice Ao39 x9_1.length co39) : Value).ownBlock ∧ some k_ ≠ ((.slice Ao44 x10_1.length co44) : Value).ownBlock ∧ some k_ ≠ ((.slice Ao49 t257.length co49) : Value).ownBlock ∧ some k_ ≠ ((.slice Ao51 t265.length co51) : Value).ownBlock) (.slice Ao47 t249.length co47) x12_2) ∧ Aside0 (Kd.R k33 33 w' w.heap.size (fun k_ => some k_ ≠ ((.slice Ao39 x9_1.length co39) : Value).ownBlock ∧ some k_ ≠ ((.slice Ao44 x10_1.length co44) : Value).ownBlock ∧ some k_ ≠ ((.slice Ao47 t249.length co47) : Value).ownBlock ∧ some k_ ≠ ((.slice Ao51 t265.length co51) : Value).ownBlock) (.slice Ao49 t257.length co49) t257) ∧ Aside0 (Kd.R k33 33 w' w.heap.size (fun k_ => some k_ ≠ ((.slice Ao39 x9_1.length co39) : Value).ownBlock ∧ some k_ ≠ ((.slice Ao44 x10_1.length co44) : Value).ownBlock ∧ some k_ ≠ ((.slice Ao47 t249.length co47) : Value).ownBlock ∧ some k_ ≠ ((.slice Ao49 t257.length co49) : Value).ownBlock) (.slice Ao51 t265.length co51) t265) ∧ Aside0 (Below w.heap.size w w'))
                                    case atStart => exact ⟨(t249), (0), (by first | rfl | (simp; done) | (simp [*]; done)), H', ⟨Nat.le_refl _⟩, ⟨by (with_reducible repeat (first | apply Kd.R_alloc | apply Kd.R_drewN | apply Kd.R_drew)); exact Kd.R_mono HO_9.out (fun _ hk => ⟨hk.1.1.1.1.1.1, ⟨hk.1.1.1.1.1.2, ⟨hk.1.1.1.2, hk.1.2⟩⟩⟩)⟩, ⟨by (with_reducible repeat (first | apply Kd.R_alloc | apply Kd.R_drewN | apply Kd.R_drew)); exact Kd.R_mono HO_10.out (fun _ hk => ⟨hk.1.1.1.1.1.1, ⟨hk.1.1.1.1.1.2, ⟨hk.1.1.1.2, hk.1.2⟩⟩⟩)⟩, ⟨by (with_reducible repeat (first | apply Kd.R_alloc | apply Kd.R_drewN | apply Kd.R_drew)); exact Kd.R_mono HO252.out (fun _ hk => ⟨hk.1.1.1.1.1.1.2, ⟨hk.1.1.1.1.1.2, ⟨hk.1.1.1.2, hk.1.2⟩⟩⟩)⟩, ⟨by (with_reducible repeat (first | apply Kd.R_alloc | apply Kd.R_drewN | apply Kd.R_drew)); exact Kd.R_mono HO260.out (fun _ hk => ⟨hk.1.1.1.1.1.1.2, ⟨hk.1.1.1.1.1.2, ⟨hk.1.1.1.1.2, hk.1.2⟩⟩⟩)⟩, ⟨by (with_reducible repeat (first | apply Kd.R_alloc | apply Kd.R_drewN | apply Kd.R_drew)); exact Kd.R_mono HO268.out (fun _ hk => ⟨hk.1.1.1.1.1.1.2, ⟨hk.1.1.1.1.1.2, ⟨hk.1.1.1.1.2, hk.1.1.2⟩⟩⟩)⟩, ⟨by repeat (first | (with_reducible first | exact HB.out | apply below_alloc | apply pw_below_drewN | apply below_drew1) | exact HB.out)⟩⟩
                                    case round =>
                                      clear H'
                                      try clear c1
                                      try clear c2
                                      try clear p2
                                      try clear c3
                                      try clear c5
                                      try clear c6
                                      try clear c8
                                      try clear c9
                                      try clear c9b0
                                      try clear c9b1
                                      try clear c10
                                      try clear c10b0
                                      try clear c10b1
                                      try clear c11
                                      try clear c12
                                      try clear c15
                                      try clear c17
                                      try clear c19
                                      try clear c19b0
                                      try clear c22
                                      try clear c23
                                      try clear c24
                                      try clear c25
                                      try clear c26
                                      try clear c26b0
                                      try clear c26b1
                                      try clear c27
                                      try clear c27b0
                                      try clear c27b1
                                      try clear c28
                                      try clear c28b0
                                      try clear c28b1
                                      try clear c30
                                      try clear c32
                                      try clear c34
                                      try clear c36
                                      try clear c38
                                      try clear p2
                                      obtain ⟨x12_2, x24_2, rfl, HA, HK2, HO_9, HO_10, HO_12, HO_16, HO_20, HB⟩ := hrel
                                      have hl12_2 := (Kd.R_reads' HO_12.out).1
                                      rw [hl12_2] at HO_12
                                      (try simp only [hl12_2])
                                      (try simp only [hl12_2] at HO_9)
                                      (try simp only [hl12_2] at HO_10)
                                      (try simp only [hl12_2] at HO_16)
                                      (try simp only [hl12_2] at HO_20)
                                      cases gk with
                                      | zero => exact absurd HA.out (by simp [bastionlaw17_FilesChanges.l1])
                                      | succ k2 =>
                                        have H := HA.out
                                        clear HA
                                        simp only [bastionlaw17_FilesChanges.l1] at H
                                        by_cases c53 : x24_2 < (x12_2.length : Int)
                                        · rw [if_pos c53] at H
                                          have c53b0 : decide (x24_2 < (x12_2.length : Int)) = true := decide_eq_true c53
                                          clear c53
                                          by_cases c54 : 0 ≤ x24_2
                                          · rw [if_pos c54] at H
                                            have c54b0 : decide (0 ≤ x24_2) = true := decide_eq_true c54
                                            clear c54
                                            obtain ⟨y278, hy278⟩ : ∃ y_ : List (S33), y_ = (x12_2.set (x24_2 : Int).toNat (⟨(⟨#[63]⟩ : ByteArray), (rd_T33 x12_2 x24_2).f1⟩ : S33)) := ⟨_, rfl⟩
                                            replace H : (bastionlaw17_FilesChanges.l1 k2 l0 l1 a2 a3 x9_1 x10_1 x11_1 y278 t257 t265 (wrap64 (x24_2 + 1))) = some r := by first | (rw [hy278]; with_reducible exact H) | (have H2_ := (Option.bind_some _ _).symm.trans H; rw [hy278]; with_reducible exact H2_) | (have H2_ := (Option.bind_some _ _).symm.trans H; with_reducible exact H2_) | with_reducible exact H | (rw [hy278]; exact H) | exact H
                                            have Ny278 := Aside0.mk hy278
                                            clear hy278
                                            have H' := Aside0.mk H
                                            clear H
                                            have p55 : 0 ≤ (x24_2 : Int) := of_decide_eq_true (by first | (with_reducible assumption) | assumption)
                                            have q55 : (x24_2 : Int) < ((x12_2.length : Int) : Int) := of_decide_eq_true (by first | (with_reducible assumption) | assumption)
                                            obtain ⟨go55, co55, eo55, gb55, gl55, cl55, HG55⟩ := Kd.R_form HO_12.out (by omega)
                                            (first | cases eo55 | (injection eo55 with ea_ en_ ec_; (first | subst ea_ | (injection ea_ with ea_; subst ea_)); subst ec_; clear en_))
                                            have GB55 := Aside0.mk gb55
                                            have GG55 := Aside0.mk HG55
                                            clear gb55 gl55 HG55
                                            obtain ⟨ce55, hcl55, hM55, hcc55, hfr55⟩ := Kd.R_elem HO_12.out z33 (x24_2 : Int) p55 q55
                                            obtain rfl := k33_openM hM55
                                            have hx55_0 : wr.cell? ⟨go55, (x24_2 : Int).toNat * 2, none⟩ = some (.string ((rd_T33 x12_2 x24_2).f0)) := hcc55 0 _ rfl
                                            have hx55_1 : wr.cell? ⟨go55, (x24_2 : Int).toNat * 2 + 1, none⟩ = some (.string ((rd_T33 x12_2 x24_2).f1)) := hcc55 1 _ rfl
                                            have hf55_0 : wr.frozen? ⟨go55, (x24_2 : Int).toNat * 2, none⟩ = false := hfr55 0
                                            have hf55_1 : wr.frozen? ⟨go55, (x24_2 : Int).toNat * 2 + 1, none⟩ = false := hfr55 1
                                            clear hcl55 hcc55 hfr55 hM55
                                            replace p55 := eq_true p55
                                            replace q55 := eq_true q55
                                            have HX56 := Aside0.mk (show Kd.R k33 33 wr w.heap.size (fun k_ => some k_ ≠ (.slice Ao39 x9_1.length co39 : Value).ownBlock ∧ some k_ ≠ (.slice Ao44 x10_1.length co44 : Value).ownBlock ∧ some k_ ≠ (.slice Ao49 t257.length co49 : Value).ownBlock ∧ some k_ ≠ (.slice Ao51 t265.length co51 : Value).ownBlock) (.slice (some ⟨go55, 0, none⟩) x12_2.length co47) x12_2 from (by (with_reducible repeat (first | apply Kd.R_alloc | apply Kd.R_drewN | apply Kd.R_drew)); exact HO_12.out))
                                            obtain ⟨ce56, hcl56, hM56, hcc56, hfr56⟩ := Kd.R_elem HX56.out z33 (x24_2 : Int) (of_decide_eq_true (by first | (with_reducible assumption) | assumption)) (by have h_ : (x24_2 : Int) < ((x12_2.length : Int) : Int) := of_decide_eq_true (by first | (with_reducible assumption) | assumption); first | exact h_ | (have e_ := (Kd.R_reads' HO_12.out).1; omega) | simpa using h_)
                                            obtain rfl := k33_openM hM56
                                            have HP56 := Kd.R_seg HX56.out (x24_2 : Int) (of_decide_eq_true (by first | (with_reducible assumption) | assumption)) (by have h_ : (x24_2 : Int) < ((x12_2.length : Int) : Int) := of_decide_eq_true (by first | (with_reducible assumption) | assumption); first | exact h_ | (have e_ := (Kd.R_reads' HO_12.out).1; omega) | simpa using h_) (seg := [.string (⟨#[63]⟩ : ByteArray)]) (j := 0) hcl56 hcc56 (show 1 ≤ 2 from by decide) (x' := (⟨(⟨#[63]⟩ : ByteArray), (rd_T33 x12_2 x24_2).f1⟩ : S33)) (k33_mkM _ _ _ (⟨(⟨#[63]⟩ : ByteArray), (rd_T33 x12_2 x24_2).f1⟩ : S33) ) (fun _ hk => hk)
                                            have hx56_0 := hcc56 0 _ rfl
                                            (try simp only [show (k33).sz = 2 from rfl, Nat.mul_one, Nat.add_zero] at hx56_0)
                                            have hf56_0 := hfr56 0
                                            (try simp only [show (k33).sz = 2 from rfl, Nat.mul_one, Nat.add_zero] at hf56_0)
                                            clear hcl56 hcc56 hfr56 hM56
                                            go_wp2_with (first | ((with_reducible refine gate_store (t := 9) (p := 143) rfl ?_); refine store_event (t := 9) (p := 143) (v := ?vo_w57) (w1 := (wr.setCell ⟨go55, (x24_2 : Int).toNat * 2, none⟩ (.string (⟨#[63]⟩ : ByteArray)))) ?hg ?ho ?hn ?hr ?_; (case ho => rfl); (case hg => rfl); (case hn => rfl); (case hr => first | (go_simp; done) | (go_simp; rfl)); intro w57 hw; have hg : wr.grownBy w57 (some go55) := (by rw [hw]; exact HP56.2); have hp_ : Kd.R k33 33 w57 w.heap.size (fun k_ => some k_ ≠ (.slice Ao39 x9_1.length co39 : Value).ownBlock ∧ some k_ ≠ (.slice Ao44 x10_1.length co44 : Value).ownBlock ∧ some k_ ≠ (.slice Ao49 t257.length co49 : Value).ownBlock ∧ some k_ ≠ (.slice Ao51 t265.length co51 : Value).ownBlock) (.slice (some ⟨go55, 0, none⟩) x12_2.length co47) y278 := (by rw [hw, Ny278.out]; exact HP56.1); clear HP56; have n0_ := Aside0.mk (Kd.R_after (v := (.slice (some ⟨go55, 0, none⟩) x12_2.length co47)) (v1 := (.slice (some ⟨go55, 0, none⟩) x12_2.length co47)) (ok := (fun k_ => some k_ ≠ (.slice Ao44 x10_1.length co44 : Value).ownBlock ∧ some k_ ≠ (.slice Ao49 t257.length co49 : Value).ownBlock ∧ some k_ ≠ (.slice Ao51 t265.length co51 : Value).ownBlock)) (by (with_reducible repeat (first | apply Kd.R_alloc | apply Kd.R_drewN | apply Kd.R_drew)); exact Kd.R_mono HO_9.out (fun _ hk => ⟨⟨hk.1, ⟨hk.2.2.1, hk.2.2.2⟩⟩, hk.2.1⟩)) hg (.inl rfl)); have n1_ := Aside0.mk (Kd.R_after (v := (.slice (some ⟨go55, 0, none⟩) x12_2.length co47)) (v1 := (.slice (some ⟨go55, 0, none⟩) x12_2.length co47)) (ok := (fun k_ => some k_ ≠ (.slice Ao39 x9_1.length co39 : Value).ownBlock ∧ some k_ ≠ (.slice Ao49 t257.length co49 : Value).ownBlock ∧ some k_ ≠ (.slice Ao51 t265.length co51 : Value).ownBlock)) (by (with_reducible repeat (first | apply Kd.R_alloc | apply Kd.R_drewN | apply Kd.R_drew)); exact Kd.R_mono HO_10.out (fun _ hk => ⟨⟨hk.1, ⟨hk.2.2.1, hk.2.2.2⟩⟩, hk.2.1⟩)) hg (.inl rfl)); have n2_ := Aside0.mk (hp_); have n3_ := Aside0.mk (Kd.R_after (v := (.slice (some ⟨go55, 0, none⟩) x12_2.length co47)) (v1 := (.slice (some ⟨go55, 0, none⟩) x12_2.length co47)) (ok := (fun k_ => some k_ ≠ (.slice Ao39 x9_1.length co39 : Value).ownBlock ∧ some k_ ≠ (.slice Ao44 x10_1.length co44 : Value).ownBlock ∧ some k_ ≠ (.slice Ao51 t265.length co51 : Value).ownBlock)) (by (with_reducible repeat (first | apply Kd.R_alloc | apply Kd.R_drewN | apply Kd.R_drew)); exact Kd.R_mono HO_16.out (fun _ hk => ⟨⟨hk.1, ⟨hk.2.1, hk.2.2.2⟩⟩, hk.2.2.1⟩)) hg (.inl rfl)); have n4_ := Aside0.mk (Kd.R_after (v := (.slice (some ⟨go55, 0, none⟩) x12_2.length co47)) (v1 := (.slice (some ⟨go55, 0, none⟩) x12_2.length co47)) (ok := (fun k_ => some k_ ≠ (.slice Ao39 x9_1.length co39 : Value).ownBlock ∧ some k_ ≠ (.slice Ao44 x10_1.length co44 : Value).ownBlock ∧ some k_ ≠ (.slice Ao49 t257.length co49 : Value).ownBlock)) (by (with_reducible repeat (first | apply Kd.R_alloc | apply Kd.R_drewN | apply Kd.R_drew)); exact Kd.R_mono HO_20.out (fun _ hk => ⟨⟨hk.1, ⟨hk.2.1, hk.2.2.2⟩⟩, hk.2.2.1⟩)) hg (.inl rfl)); have n5_ := Aside0.mk ((by rw [hw]; exact below_set (HB.out) GB55.out : Below w.heap.size w w57)); clear HO_9; clear HO_10; clear HO_12; clear HO_16; clear HO_20; clear HB; have HO_9 := n0_; have HO_10 := n1_; have HO_12 := n2_; have HO_16 := n3_; have HO_20 := n4_; have HB := n5_; clear n0_ n1_ n2_ n3_ n4_ n5_; clear hg hw hp_))
                                            (try simp only [← hl12_2])
                                            go_roundg k2
                                            case measure => have := HK1.out; have := HK2.out; omega
                                            case rel => exact ⟨(y278), (wrap64 (x24_2 + 1)), (by first | rfl | (simp; done) | (simp [*]; done)), H', ⟨by have := HK1.out; have := HK2.out; omega⟩, ⟨by (try simp only [hl12_2]); (with_reducible repeat (first | apply Kd.R_alloc | apply Kd.R_drewN | apply Kd.R_drew)); exact Kd.R_mono HO_9.out (fun _ hk => ⟨hk.1.1, ⟨hk.2, ⟨hk.1.2.1, hk.1.2.2⟩⟩⟩)⟩, ⟨by (try simp only [hl12_2]); (with_reducible repeat (first | apply Kd.R_alloc | apply Kd.R_drewN | apply Kd.R_drew)); exact Kd.R_mono HO_10.out (fun _ hk => ⟨hk.1.1, ⟨hk.2, ⟨hk.1.2.1, hk.1.2.2⟩⟩⟩)⟩, ⟨by (try simp only [hl12_2]); (with_reducible repeat (first | apply Kd.R_alloc | apply Kd.R_drewN | apply Kd.R_drew)); exact HO_12.out⟩, ⟨by (try simp only [hl12_2]); (with_reducible repeat (first | apply Kd.R_alloc | apply Kd.R_drewN | apply Kd.R_drew)); exact Kd.R_mono HO_16.out (fun _ hk => ⟨hk.1.1, ⟨hk.1.2.1, ⟨hk.2, hk.1.2.2⟩⟩⟩)⟩, ⟨by (try simp only [hl12_2]); (with_reducible repeat (first | apply Kd.R_alloc | apply Kd.R_drewN | apply Kd.R_drew)); exact Kd.R_mono HO_20.out (fun _ hk => ⟨hk.1.1, ⟨hk.1.2.1, ⟨hk.2, hk.1.2.2⟩⟩⟩)⟩, ⟨by repeat (first | (with_reducible first | exact HB.out | apply below_alloc | apply pw_below_drewN | apply below_drew1) | exact HB.out)⟩⟩
                                          · rw [if_neg c54] at H
                                            exact absurd H (by simp)
                                        · rw [if_neg c53] at H
                                          have c53b0 : decide (x24_2 < (x12_2.length : Int)) = false := decide_eq_false c53
                                          clear c53
                                          have H' := Aside0.mk H
                                          clear H
                                          go_wp2
                                          go_loopg [25] k2 (fun kq v25 w' => ∃ (x16_3 : List (S33)) (x25_3 : Int), v25 = .int .i64 x25_3 ∧ Aside0 (bastionlaw17_FilesChanges.l2 kq l0 l1 a2 a3 x9_1 x10_1 x11_1 x16_3 t265 x25_3 = some r) ∧ Aside0 (kq ≤ k2) ∧ Aside0 (Kd.R k33 33 w' w.heap.size (fun k_ => some k_ ≠ ((.slice Ao44 x10_1.length co44) : Value).ownBlock ∧ some k_ ≠ ((.slice Ao49 t257.length co49) : Value).ownBlock ∧ some k_ ≠ ((.slice Ao51 t265.length co51) : Value).ownBlock) (.slice Ao39 x9_1.length co39) x9_1) ∧ Aside0 (Kd.R k33 33 w' w.heap.size (fun k_ => some k_ ≠ ((.slice Ao39 x9_1.length co39) : Value).ownBlock ∧ some k_ ≠ ((.slice Ao49 t257.length co49) : Value).ownBlock ∧ some k_ ≠ ((.slice Ao51 t265.length co51) : Value).ownBlock) (.slice Ao44 x10_1.length co44) x10_1) ∧ Aside0 (Kd.R k33 33 w' w.heap.size (fun k_ => some k_ ≠ ((.slice Ao39 x9_1.length co39) : Value).ownBlock ∧ some k_ ≠ ((.slice Ao44 x10_1.length co44) : Value).ownBlock ∧ some k_ ≠ ((.slice Ao51 t265.length co51) : Value).ownBlock) (.slice Ao49 t257.length co49) x16_3) ∧ Aside0 (Kd.R k33 33 w' w.heap.size (fun k_ => some k_ ≠ ((.slice Ao39 x9_1.length co39) : Value).ownBlock ∧ some k_ ≠ ((.slice Ao44 x10_1.length co44) : Value).ownBlock ∧ some k_ ≠ ((.slice Ao49 t257.length co49) : Value).ownBlock) (.slice Ao51 t265.length co51) t265) ∧ Aside0 (Below w.heap.size w w'))
                                          case atStart => exact ⟨(t257), (0), (by first | rfl | (simp; done) | (simp [*]; done)), H', ⟨Nat.le_refl _⟩, ⟨by (try simp only [hl12_2]); (with_reducible repeat (first | apply Kd.R_alloc | apply Kd.R_drewN | apply Kd.R_drew)); exact Kd.R_mono HO_9.out (fun _ hk => ⟨hk.1, ⟨hk.2.2.1, hk.2.2.2⟩⟩)⟩, ⟨by (try simp only [hl12_2]); (with_reducible repeat (first | apply Kd.R_alloc | apply Kd.R_drewN | apply Kd.R_drew)); exact Kd.R_mono HO_10.out (fun _ hk => ⟨hk.1, ⟨hk.2.2.1, hk.2.2.2⟩⟩)⟩, ⟨by (try simp only [hl12_2]); (with_reducible repeat (first | apply Kd.R_alloc | apply Kd.R_drewN | apply Kd.R_drew)); exact Kd.R_mono HO_16.out (fun _ hk => ⟨hk.1, ⟨hk.2.1, hk.2.2.2⟩⟩)⟩, ⟨by (try simp only [hl12_2]); (with_reducible repeat (first | apply Kd.R_alloc | apply Kd.R_drewN | apply Kd.R_drew)); exact Kd.R_mono HO_20.out (fun _ hk => ⟨hk.1, ⟨hk.2.1, hk.2.2.2⟩⟩)⟩, ⟨by repeat (first | (with_reducible first | exact HB.out | apply below_alloc | apply pw_below_drewN | apply below_drew1) | exact HB.out)⟩⟩
                                          case round =>
                                            clear H'
                                            try clear c1
                                            try clear c2
                                            try clear p2
                                            try clear c3
                                            try clear c5
                                            try clear p5
                                            try clear q5
                                            try clear hx5
                                            try clear hf5
                                            try clear c6
                                            try clear p6
                                            try clear c8
                                            try clear c9
                                            try clear c9b0
                                            try clear c9b1
                                            try clear c10
                                            try clear c10b0
                                            try clear c10b1
                                            try clear c11
                                            try clear c12
                                            try clear c15
                                            try clear c17
                                            try clear c19
                                            try clear c19b0
                                            try clear c22
                                            try clear c23
                                            try clear c24
                                            try clear c25
                                            try clear c26
                                            try clear c26b0
                                            try clear c26b1
                                            try clear c27
                                            try clear c27b0
                                            try clear c27b1
                                            try clear c28
                                            try clear c28b0
                                            try clear c28b1
                                            try clear c30
                                            try clear c32
                                            try clear c34
                                            try clear c36
                                            try clear c38
                                            try clear c53
                                            try clear c53b0
                                            try clear c54
                                            try clear c54b0
                                            try clear c55
                                            try clear p55
                                            try clear q55
                                            try clear hx55
                                            try clear hf55
                                            try clear c56
                                            try clear hx56
                                            try clear hf56
                                            try clear hx55_0
                                            try clear hx55_1
                                            try clear hx56_0
                                            try clear p2
                                            try clear p55
                                            try clear q55
                                            obtain ⟨x16_3, x25_3, rfl, HA, HK3, HO_9, HO_10, HO_16, HO_20, HB⟩ := hrel
                                            have hl16_3 := (Kd.R_reads' HO_16.out).1
                                            rw [hl16_3] at HO_16
                                            (try simp only [hl16_3])
                                            (try simp only [hl16_3] at HO_9)
                                            (try simp only [hl16_3] at HO_10)
                                            (try simp only [hl16_3] at HO_20)
                                            cases gk with
                                            | zero => exact absurd HA.out (by simp [bastionlaw17_FilesChanges.l2])
                                            | succ k3 =>
                                              have H := HA.out
                                              clear HA
                                              simp only [bastionlaw17_FilesChanges.l2] at H
                                              by_cases c58 : x25_3 < (x16_3.length : Int)
                                              · rw [if_pos c58] at H
                                                have c58b0 : decide (x25_3 < (x16_3.length : Int)) = true := decide_eq_true c58
                                                clear c58
                                                by_cases c59 : 0 ≤ x25_3
                                                · rw [if_pos c59] at H
                                                  have c59b0 : decide (0 ≤ x25_3) = true := decide_eq_true c59
                                                  clear c59
                                                  obtain ⟨y279, hy279⟩ : ∃ y_ : List (S33), y_ = (x16_3.set (x25_3 : Int).toNat (⟨(⟨#[63]⟩ : ByteArray), (rd_T33 x16_3 x25_3).f1⟩ : S33)) := ⟨_, rfl⟩
                                                  replace H : (bastionlaw17_FilesChanges.l2 k3 l0 l1 a2 a3 x9_1 x10_1 x11_1 y279 t265 (wrap64 (x25_3 + 1))) = some r := by first | (rw [hy279]; with_reducible exact H) | (have H2_ := (Option.bind_some _ _).symm.trans H; rw [hy279]; with_reducible exact H2_) | (have H2_ := (Option.bind_some _ _).symm.trans H; with_reducible exact H2_) | with_reducible exact H | (rw [hy279]; exact H) | exact H
                                                  have Ny279 := Aside0.mk hy279
                                                  clear hy279
                                                  have H' := Aside0.mk H
                                                  clear H
                                                  have p60 : 0 ≤ (x25_3 : Int) := of_decide_eq_true (by first | (with_reducible assumption) | assumption)
                                                  have q60 : (x25_3 : Int) < ((x16_3.length : Int) : Int) := of_decide_eq_true (by first | (with_reducible assumption) | assumption)
                                                  obtain ⟨go60, co60, eo60, gb60, gl60, cl60, HG60⟩ := Kd.R_form HO_16.out (by omega)
                                                  (first | cases eo60 | (injection eo60 with ea_ en_ ec_; (first | subst ea_ | (injection ea_ with ea_; subst ea_)); subst ec_; clear en_))
                                                  have GB60 := Aside0.mk gb60
                                                  have GG60 := Aside0.mk HG60
                                                  clear gb60 gl60 HG60
                                                  obtain ⟨ce60, hcl60, hM60, hcc60, hfr60⟩ := Kd.R_elem HO_16.out z33 (x25_3 : Int) p60 q60
                                                  obtain rfl := k33_openM hM60
                                                  have hx60_0 : wr.cell? ⟨go60, (x25_3 : Int).toNat * 2, none⟩ = some (.string ((rd_T33 x16_3 x25_3).f0)) := hcc60 0 _ rfl
                                                  have hx60_1 : wr.cell? ⟨go60, (x25_3 : Int).toNat * 2 + 1, none⟩ = some (.string ((rd_T33 x16_3 x25_3).f1)) := hcc60 1 _ rfl
                                                  have hf60_0 : wr.frozen? ⟨go60, (x25_3 : Int).toNat * 2, none⟩ = false := hfr60 0
                                                  have hf60_1 : wr.frozen? ⟨go60, (x25_3 : Int).toNat * 2 + 1, none⟩ = false := hfr60 1
                                                  clear hcl60 hcc60 hfr60 hM60
                                                  replace p60 := eq_true p60
                                                  replace q60 := eq_true q60
                                                  have HX61 := Aside0.mk (show Kd.R k33 33 wr w.heap.size (fun k_ => some k_ ≠ (.slice Ao39 x9_1.length co39 : Value).ownBlock ∧ some k_ ≠ (.slice Ao44 x10_1.length co44 : Value).ownBlock ∧ some k_ ≠ (.slice Ao51 t265.length co51 : Value).ownBlock) (.slice (some ⟨go60, 0, none⟩) x16_3.length co49) x16_3 from (by (with_reducible repeat (first | apply Kd.R_alloc | apply Kd.R_drewN | apply Kd.R_drew)); exact HO_16.out))
                                                  obtain ⟨ce61, hcl61, hM61, hcc61, hfr61⟩ := Kd.R_elem HX61.out z33 (x25_3 : Int) (of_decide_eq_true (by first | (with_reducible assumption) | assumption)) (by have h_ : (x25_3 : Int) < ((x16_3.length : Int) : Int) := of_decide_eq_true (by first | (with_reducible assumption) | assumption); first | exact h_ | (have e_ := (Kd.R_reads' HO_16.out).1; omega) | simpa using h_)
                                                  obtain rfl := k33_openM hM61
                                                  have HP61 := Kd.R_seg HX61.out (x25_3 : Int) (of_decide_eq_true (by first | (with_reducible assumption) | assumption)) (by have h_ : (x25_3 : Int) < ((x16_3.length : Int) : Int) := of_decide_eq_true (by first | (with_reducible assumption) | assumption); first | exact h_ | (have e_ := (Kd.R_reads' HO_16.out).1; omega) | simpa using h_) (seg := [.string (⟨#[63]⟩ : ByteArray)]) (j := 0) hcl61 hcc61 (show 1 ≤ 2 from by decide) (x' := (⟨(⟨#[63]⟩ : ByteArray), (rd_T33 x16_3 x25_3).f1⟩ : S33)) (k33_mkM _ _ _ (⟨(⟨#[63]⟩ : ByteArray), (rd_T33 x16_3 x25_3).f1⟩ : S33) ) (fun _ hk => hk)
                                                  have hx61_0 := hcc61 0 _ rfl
                                                  (try simp only [show (k33).sz = 2 from rfl, Nat.mul_one, Nat.add_zero] at hx61_0)
                                                  have hf61_0 := hfr61 0
                                                  (try simp only [show (k33).sz = 2 from rfl, Nat.mul_one, Nat.add_zero] at hf61_0)
                                                  clear hcl61 hcc61 hfr61 hM61
                                                  go_wp2_with (first | ((with_reducible refine gate_store (t := 9) (p := 153) rfl ?_); refine store_event (t := 9) (p := 153) (v := ?vo_w62) (w1 := (wr.setCell ⟨go60, (x25_3 : Int).toNat * 2, none⟩ (.string (⟨#[63]⟩ : ByteArray)))) ?hg ?ho ?hn ?hr ?_; (case ho => rfl); (case hg => rfl); (case hn => rfl); (case hr => first | (go_simp; done) | (go_simp; rfl)); intro w62 hw; have hg : wr.grownBy w62 (some go60) := (by rw [hw]; exact HP61.2); have hp_ : Kd.R k33 33 w62 w.heap.size (fun k_ => some k_ ≠ (.slice Ao39 x9_1.length co39 : Value).ownBlock ∧ some k_ ≠ (.slice Ao44 x10_1.length co44 : Value).ownBlock ∧ some k_ ≠ (.slice Ao51 t265.length co51 : Value).ownBlock) (.slice (some ⟨go60, 0, none⟩) x16_3.length co49) y279 := (by rw [hw, Ny279.out]; exact HP61.1); clear HP61; have n0_ := Aside0.mk (Kd.R_after (v := (.slice (some ⟨go60, 0, none⟩) x16_3.length co49)) (v1 := (.slice (some ⟨go60, 0, none⟩) x16_3.length co49)) (ok := (fun k_ => some k_ ≠ (.slice Ao44 x10_1.length co44 : Value).ownBlock ∧ some k_ ≠ (.slice Ao51 t265.length co51 : Value).ownBlock)) (by (with_reducible repeat (first | apply Kd.R_alloc | apply Kd.R_drewN | apply Kd.R_drew)); exact Kd.R_mono HO_9.out (fun _ hk => ⟨⟨hk.1, hk.2.2⟩, hk.2.1⟩)) hg (.inl rfl)); have n1_ := Aside0.mk (Kd.R_after (v := (.slice (some ⟨go60, 0, none⟩) x16_3.length co49)) (v1 := (.slice (some ⟨go60, 0, none⟩) x16_3.length co49)) (ok := (fun k_ => some k_ ≠ (.slice Ao39 x9_1.length co39 : Value).ownBlock ∧ some k_ ≠ (.slice Ao51 t265.length co51 : Value).ownBlock)) (by (with_reducible repeat (first | apply Kd.R_alloc | apply Kd.R_drewN | apply Kd.R_drew)); exact Kd.R_mono HO_10.out (fun _ hk => ⟨⟨hk.1, hk.2.2⟩, hk.2.1⟩)) hg (.inl rfl)); have n2_ := Aside0.mk (hp_); have n3_ := Aside0.mk (Kd.R_after (v := (.slice (some ⟨go60, 0, none⟩) x16_3.length co49)) (v1 := (.slice (some ⟨go60, 0, none⟩) x16_3.length co49)) (ok := (fun k_ => some k_ ≠ (.slice Ao39 x9_1.length co39 : Value).ownBlock ∧ some k_ ≠ (.slice Ao44 x10_1.length co44 : Value).ownBlock)) (by (with_reducible repeat (first | apply Kd.R_alloc | apply Kd.R_drewN | apply Kd.R_drew)); exact Kd.R_mono HO_20.out (fun _ hk => ⟨⟨hk.1, hk.2.1⟩, hk.2.2⟩)) hg (.inl rfl)); have n4_ := Aside0.mk ((by rw [hw]; exact below_set (HB.out) GB60.out : Below w.heap.size w w62)); clear HO_9; clear HO_10; clear HO_16; clear HO_20; clear HB; have HO_9 := n0_; have HO_10 := n1_; have HO_16 := n2_; have HO_20 := n3_; have HB := n4_; clear n0_ n1_ n2_ n3_ n4_; clear hg hw hp_))
                                                  (try simp only [← hl16_3])
                                                  go_roundg k3
                                                  case measure => have := HK1.out; have := HK2.out; have := HK3.out; omega
                                                  case rel => exact ⟨(y279), (wrap64 (x25_3 + 1)), (by first | rfl | (simp; done) | (simp [*]; done)), H', ⟨by have := HK1.out; have := HK2.out; have := HK3.out; omega⟩, ⟨by (try simp only [hl12_2]); (try simp only [hl16_3]); (with_reducible repeat (first | apply Kd.R_alloc | apply Kd.R_drewN | apply Kd.R_drew)); exact Kd.R_mono HO_9.out (fun _ hk => ⟨hk.1.1, ⟨hk.2, hk.1.2⟩⟩)⟩, ⟨by (try simp only [hl12_2]); (try simp only [hl16_3]); (with_reducible repeat (first | apply Kd.R_alloc | apply Kd.R_drewN | apply Kd.R_drew)); exact Kd.R_mono HO_10.out (fun _ hk => ⟨hk.1.1, ⟨hk.2, hk.1.2⟩⟩)⟩, ⟨by (try simp only [hl12_2]); (try simp only [hl16_3]); (with_reducible repeat (first | apply Kd.R_alloc | apply Kd.R_drewN | apply Kd.R_drew)); exact HO_16.out⟩, ⟨by (try simp only [hl12_2]); (try simp only [hl16_3]); (with_reducible repeat (first | apply Kd.R_alloc | apply Kd.R_drewN | apply Kd.R_drew)); exact Kd.R_mono HO_20.out (fun _ hk => ⟨hk.1.1, ⟨hk.1.2, hk.2⟩⟩)⟩, ⟨by repeat (first | (with_reducible first | exact HB.out | apply below_alloc | apply pw_below_drewN | apply below_drew1) | exact HB.out)⟩⟩
                                                · rw [if_neg c59] at H
                                                  exact absurd H (by simp)
                                              · rw [if_neg c58] at H
                                                have c58b0 : decide (x25_3 < (x16_3.length : Int)) = false := decide_eq_false c58
                                                clear c58
                                                have H' := Aside0.mk H
                                                clear H
                                                go_wp2
                                                go_loopg [26] k3 (fun kq v26 w' => ∃ (x20_4 : List (S33)) (x26_4 : Int), v26 = .int .i64 x26_4 ∧ Aside0 (bastionlaw17_FilesChanges.l3 kq l0 l1 a2 a3 x9_1 x10_1 x11_1 x20_4 x26_4 = some r) ∧ Aside0 (kq ≤ k3) ∧ Aside0 (Kd.R k33 33 w' w.heap.size (fun k_ => some k_ ≠ ((.slice Ao44 x10_1.length co44) : Value).ownBlock ∧ some k_ ≠ ((.slice Ao51 t265.length co51) : Value).ownBlock) (.slice Ao39 x9_1.length co39) x9_1) ∧ Aside0 (Kd.R k33 33 w' w.heap.size (fun k_ => some k_ ≠ ((.slice Ao39 x9_1.length co39) : Value).ownBlock ∧ some k_ ≠ ((.slice Ao51 t265.length co51) : Value).ownBlock) (.slice Ao44 x10_1.length co44) x10_1) ∧ Aside0 (Kd.R k33 33 w' w.heap.size (fun k_ => some k_ ≠ ((.slice Ao39 x9_1.length co39) : Value).ownBlock ∧ some k_ ≠ ((.slice Ao44 x10_1.length co44) : Value).ownBlock) (.slice Ao51 t265.length co51) x20_4) ∧ Aside0 (Below w.heap.size w w'))
                                                case atStart => exact ⟨(t265), (0), (by first | rfl | (simp; done) | (simp [*]; done)), H', ⟨Nat.le_refl _⟩, ⟨by (try simp only [hl12_2]); (try simp only [hl16_3]); (with_reducible repeat (first | apply Kd.R_alloc | apply Kd.R_drewN | apply Kd.R_drew)); exact Kd.R_mono HO_9.out (fun _ hk => ⟨hk.1, hk.2.2⟩)⟩, ⟨by (try simp only [hl12_2]); (try simp only [hl16_3]); (with_reducible repeat (first | apply Kd.R_alloc | apply Kd.R_drewN | apply Kd.R_drew)); exact Kd.R_mono HO_10.out (fun _ hk => ⟨hk.1, hk.2.2⟩)⟩, ⟨by (try simp only [hl12_2]); (try simp only [hl16_3]); (with_reducible repeat (first | apply Kd.R_alloc | apply Kd.R_drewN | apply Kd.R_drew)); exact Kd.R_mono HO_20.out (fun _ hk => ⟨hk.1, hk.2.1⟩)⟩, ⟨by repeat (first | (with_reducible first | exact HB.out | apply below_alloc | apply pw_below_drewN | apply below_drew1) | exact HB.out)⟩⟩
                                                case round =>
                                                  clear H'
                                                  try clear c1
                                                  try clear c2
                                                  try clear p2
                                                  try clear c3
                                                  try clear c5
                                                  try clear p5
                                                  try clear q5
                                                  try clear hx5
                                                  try clear hf5
                                                  try clear c6
                                                  try clear p6
                                                  try clear q6
                                                  try clear hx6
                                                  try clear hf6
                                                  try clear c8
                                                  try clear c9
                                                  try clear c9b0
                                                  try clear c9b1
                                                  try clear c10
                                                  try clear c10b0
                                                  try clear c10b1
                                                  try clear c11
                                                  try clear c12
                                                  try clear c15
                                                  try clear c17
                                                  try clear c19
                                                  try clear c19b0
                                                  try clear c22
                                                  try clear c23
                                                  try clear c24
                                                  try clear c25
                                                  try clear c26
                                                  try clear c26b0
                                                  try clear c26b1
                                                  try clear c27
                                                  try clear c27b0
                                                  try clear c27b1
                                                  try clear c28
                                                  try clear c28b0
                                                  try clear c28b1
                                                  try clear c30
                                                  try clear c32
                                                  try clear c34
                                                  try clear c36
                                                  try clear c38
                                                  try clear c53
                                                  try clear c53b0
                                                  try clear c54
                                                  try clear c54b0
                                                  try clear c55
                                                  try clear p55
                                                  try clear q55
                                                  try clear hx55
                                                  try clear hf55
                                                  try clear c56
                                                  try clear hx56
                                                  try clear hf56
                                                  try clear c58
                                                  try clear c58b0
                                                  try clear c59
                                                  try clear c59b0
                                                  try clear c60
                                                  try clear p60
                                                  try clear q60
                                                  try clear hx60
                                                  try clear hf60
                                                  try clear c61
                                                  try clear hx61
                                                  try clear hf61
                                                  try clear hx55_0
                                                  try clear hx55_1
                                                  try clear hx56_0
                                                  try clear hx60_0
                                                  try clear hx60_1
                                                  try clear hx61_0
                                                  try clear p2
                                                  try clear p5
                                                  try clear p55
                                                  try clear p6
                                                  try clear p60
                                                  try clear q5
                                                  try clear q55
                                                  try clear q60
                                                  obtain ⟨x20_4, x26_4, rfl, HA, HK4, HO_9, HO_10, HO_20, HB⟩ := hrel
                                                  have hl20_4 := (Kd.R_reads' HO_20.out).1
                                                  rw [hl20_4] at HO_20
                                                  (try simp only [hl20_4])
                                                  (try simp only [hl20_4] at HO_9)
                                                  (try simp only [hl20_4] at HO_10)
                                                  cases gk with
                                                  | zero => exact absurd HA.out (by simp [bastionlaw17_FilesChanges.l3])
                                                  | succ k4 =>
                                                    have H := HA.out
                                                    clear HA
                                                    simp only [bastionlaw17_FilesChanges.l3] at H
                                                    by_cases c63 : x26_4 < (x20_4.length : Int)
                                                    · rw [if_pos c63] at H
                                                      have c63b0 : decide (x26_4 < (x20_4.length : Int)) = true := decide_eq_true c63
                                                      clear c63
                                                      by_cases c64 : 0 ≤ x26_4
                                                      · rw [if_pos c64] at H
                                                        have c64b0 : decide (0 ≤ x26_4) = true := decide_eq_true c64
                                                        clear c64
                                                        obtain ⟨y280, hy280⟩ : ∃ y_ : List (S33), y_ = (x20_4.set (x26_4 : Int).toNat (⟨(⟨#[63]⟩ : ByteArray), (rd_T33 x20_4 x26_4).f1⟩ : S33)) := ⟨_, rfl⟩
                                                        replace H : (bastionlaw17_FilesChanges.l3 k4 l0 l1 a2 a3 x9_1 x10_1 x11_1 y280 (wrap64 (x26_4 + 1))) = some r := by first | (rw [hy280]; with_reducible exact H) | (have H2_ := (Option.bind_some _ _).symm.trans H; rw [hy280]; with_reducible exact H2_) | (have H2_ := (Option.bind_some _ _).symm.trans H; with_reducible exact H2_) | with_reducible exact H | (rw [hy280]; exact H) | exact H
                                                        have Ny280 := Aside0.mk hy280
                                                        clear hy280
                                                        have H' := Aside0.mk H
                                                        clear H
                                                        have p65 : 0 ≤ (x26_4 : Int) := of_decide_eq_true (by first | (with_reducible assumption) | assumption)
                                                        have q65 : (x26_4 : Int) < ((x20_4.length : Int) : Int) := of_decide_eq_true (by first | (with_reducible assumption) | assumption)
                                                        obtain ⟨go65, co65, eo65, gb65, gl65, cl65, HG65⟩ := Kd.R_form HO_20.out (by omega)
                                                        (first | cases eo65 | (injection eo65 with ea_ en_ ec_; (first | subst ea_ | (injection ea_ with ea_; subst ea_)); subst ec_; clear en_))
                                                        have GB65 := Aside0.mk gb65
                                                        have GG65 := Aside0.mk HG65
                                                        clear gb65 gl65 HG65
                                                        obtain ⟨ce65, hcl65, hM65, hcc65, hfr65⟩ := Kd.R_elem HO_20.out z33 (x26_4 : Int) p65 q65
                                                        obtain rfl := k33_openM hM65
                                                        have hx65_0 : wr.cell? ⟨go65, (x26_4 : Int).toNat * 2, none⟩ = some (.string ((rd_T33 x20_4 x26_4).f0)) := hcc65 0 _ rfl
                                                        have hx65_1 : wr.cell? ⟨go65, (x26_4 : Int).toNat * 2 + 1, none⟩ = some (.string ((rd_T33 x20_4 x26_4).f1)) := hcc65 1 _ rfl
                                                        have hf65_0 : wr.frozen? ⟨go65, (x26_4 : Int).toNat * 2, none⟩ = false := hfr65 0
                                                        have hf65_1 : wr.frozen? ⟨go65, (x26_4 : Int).toNat * 2 + 1, none⟩ = false := hfr65 1
                                                        clear hcl65 hcc65 hfr65 hM65
                                                        replace p65 := eq_true p65
                                                        replace q65 := eq_true q65
                                                        have HX66 := Aside0.mk (show Kd.R k33 33 wr w.heap.size (fun k_ => some k_ ≠ (.slice Ao39 x9_1.length co39 : Value).ownBlock ∧ some k_ ≠ (.slice Ao44 x10_1.length co44 : Value).ownBlock) (.slice (some ⟨go65, 0, none⟩) x20_4.length co51) x20_4 from (by (with_reducible repeat (first | apply Kd.R_alloc | apply Kd.R_drewN | apply Kd.R_drew)); exact HO_20.out))
                                                        obtain ⟨ce66, hcl66, hM66, hcc66, hfr66⟩ := Kd.R_elem HX66.out z33 (x26_4 : Int) (of_decide_eq_true (by first | (with_reducible assumption) | assumption)) (by have h_ : (x26_4 : Int) < ((x20_4.length : Int) : Int) := of_decide_eq_true (by first | (with_reducible assumption) | assumption); first | exact h_ | (have e_ := (Kd.R_reads' HO_20.out).1; omega) | simpa using h_)
                                                        obtain rfl := k33_openM hM66
                                                        have HP66 := Kd.R_seg HX66.out (x26_4 : Int) (of_decide_eq_true (by first | (with_reducible assumption) | assumption)) (by have h_ : (x26_4 : Int) < ((x20_4.length : Int) : Int) := of_decide_eq_true (by first | (with_reducible assumption) | assumption); first | exact h_ | (have e_ := (Kd.R_reads' HO_20.out).1; omega) | simpa using h_) (seg := [.string (⟨#[63]⟩ : ByteArray)]) (j := 0) hcl66 hcc66 (show 1 ≤ 2 from by decide) (x' := (⟨(⟨#[63]⟩ : ByteArray), (rd_T33 x20_4 x26_4).f1⟩ : S33)) (k33_mkM _ _ _ (⟨(⟨#[63]⟩ : ByteArray), (rd_T33 x20_4 x26_4).f1⟩ : S33) ) (fun _ hk => hk)
                                                        have hx66_0 := hcc66 0 _ rfl
                                                        (try simp only [show (k33).sz = 2 from rfl, Nat.mul_one, Nat.add_zero] at hx66_0)
                                                        have hf66_0 := hfr66 0
                                                        (try simp only [show (k33).sz = 2 from rfl, Nat.mul_one, Nat.add_zero] at hf66_0)
                                                        clear hcl66 hcc66 hfr66 hM66
                                                        go_wp2_with (first | ((with_reducible refine gate_store (t := 9) (p := 163) rfl ?_); refine store_event (t := 9) (p := 163) (v := ?vo_w67) (w1 := (wr.setCell ⟨go65, (x26_4 : Int).toNat * 2, none⟩ (.string (⟨#[63]⟩ : ByteArray)))) ?hg ?ho ?hn ?hr ?_; (case ho => rfl); (case hg => rfl); (case hn => rfl); (case hr => first | (go_simp; done) | (go_simp; rfl)); intro w67 hw; have hg : wr.grownBy w67 (some go65) := (by rw [hw]; exact HP66.2); have hp_ : Kd.R k33 33 w67 w.heap.size (fun k_ => some k_ ≠ (.slice Ao39 x9_1.length co39 : Value).ownBlock ∧ some k_ ≠ (.slice Ao44 x10_1.length co44 : Value).ownBlock) (.slice (some ⟨go65, 0, none⟩) x20_4.length co51) y280 := (by rw [hw, Ny280.out]; exact HP66.1); clear HP66; have n0_ := Aside0.mk (Kd.R_after (v := (.slice (some ⟨go65, 0, none⟩) x20_4.length co51)) (v1 := (.slice (some ⟨go65, 0, none⟩) x20_4.length co51)) (ok := (fun k_ => some k_ ≠ (.slice Ao44 x10_1.length co44 : Value).ownBlock)) (by (with_reducible repeat (first | apply Kd.R_alloc | apply Kd.R_drewN | apply Kd.R_drew)); exact HO_9.out) hg (.inl rfl)); have n1_ := Aside0.mk (Kd.R_after (v := (.slice (some ⟨go65, 0, none⟩) x20_4.length co51)) (v1 := (.slice (some ⟨go65, 0, none⟩) x20_4.length co51)) (ok := (fun k_ => some k_ ≠ (.slice Ao39 x9_1.length co39 : Value).ownBlock)) (by (with_reducible repeat (first | apply Kd.R_alloc | apply Kd.R_drewN | apply Kd.R_drew)); exact HO_10.out) hg (.inl rfl)); have n2_ := Aside0.mk (hp_); have n3_ := Aside0.mk ((by rw [hw]; exact below_set (HB.out) GB65.out : Below w.heap.size w w67)); clear HO_9; clear HO_10; clear HO_20; clear HB; have HO_9 := n0_; have HO_10 := n1_; have HO_20 := n2_; have HB := n3_; clear n0_ n1_ n2_ n3_; clear hg hw hp_))
                                                        (try simp only [← hl20_4])
                                                        go_roundg k4
                                                        case measure => have := HK1.out; have := HK2.out; have := HK3.out; have := HK4.out; omega
                                                        case rel => exact ⟨(y280), (wrap64 (x26_4 + 1)), (by first | rfl | (simp; done) | (simp [*]; done)), H', ⟨by have := HK1.out; have := HK2.out; have := HK3.out; have := HK4.out; omega⟩, ⟨by (try simp only [hl12_2]); (try simp only [hl16_3]); (try simp only [hl20_4]); (with_reducible repeat (first | apply Kd.R_alloc | apply Kd.R_drewN | apply Kd.R_drew)); exact HO_9.out⟩, ⟨by (try simp only [hl12_2]); (try simp only [hl16_3]); (try simp only [hl20_4]); (with_reducible repeat (first | apply Kd.R_alloc | apply Kd.R_drewN | apply Kd.R_drew)); exact HO_10.out⟩, ⟨by (try simp only [hl12_2]); (try simp only [hl16_3]); (try simp only [hl20_4]); (with_reducible repeat (first | apply Kd.R_alloc | apply Kd.R_drewN | apply Kd.R_drew)); exact HO_20.out⟩, ⟨by repeat (first | (with_reducible first | exact HB.out | apply below_alloc | apply pw_below_drewN | apply below_drew1) | exact HB.out)⟩⟩
                                                      · rw [if_neg c64] at H
                                                        exact absurd H (by simp)
                                                    · rw [if_neg c63] at H
                                                      have c63b0 : decide (x26_4 < (x20_4.length : Int)) = false := decide_eq_false c63
                                                      clear c63
                                                      have H' := Aside0.mk H
                                                      clear H
                                                      go_wp2
                                                      (try simp only [← hl12_2, ← hl16_3, ← hl20_4])
                                                      go_roundg k4
                                                      case measure => have := HK1.out; have := HK2.out; have := HK3.out; have := HK4.out; omega
                                                      case rel => exact ⟨(x9_1), (x10_1), (wrap64 (x11_1 + 1)), (by first | rfl | (simp; done) | (simp [*]; done)), H', ⟨by have := HK1.out; have := HK2.out; have := HK3.out; have := HK4.out; omega⟩, ⟨by (try simp only [hl12_2]); (try simp only [hl16_3]); (try simp only [hl20_4]); (with_reducible repeat (first | apply Kd.R_alloc | apply Kd.R_drewN | apply Kd.R_drew)); exact Kd.R_mono HO_9.out (fun _ hk => hk.1)⟩, ⟨by (try simp only [hl12_2]); (try simp only [hl16_3]); (try simp only [hl20_4]); (with_reducible repeat (first | apply Kd.R_alloc | apply Kd.R_drewN | apply Kd.R_drew)); exact Kd.R_mono HO_10.out (fun _ hk => hk.1)⟩, ⟨by repeat (first | (with_reducible first | exact HB.out | apply below_alloc | apply pw_below_drewN | apply below_drew1) | exact HB.out)⟩⟩
                                  · replace c38 := Bool.eq_false_iff.mpr c38
                                    subst c38
                                    have H1 : (none) = some r := by rw [if_neg (show ¬ (false = true) by decide)] at H; exact H
                                    clear H
                                    have H := H1
                                    clear H1
                                    exact absurd H (by simp)
                                · replace c36 := Bool.eq_false_iff.mpr c36
                                  subst c36
                                  have H1 : (none) = some r := by rw [if_neg (show ¬ (false = true) by decide)] at H; exact H
                                  clear H
                                  have H := H1
                                  clear H1
                                  exact absurd H (by simp)
                              · replace c34 := Bool.eq_false_iff.mpr c34
                                subst c34
                                have H1 : (none) = some r := by rw [if_neg (show ¬ (false = true) by decide)] at H; exact H
                                clear H
                                have H := H1
                                clear H1
                                exact absurd H (by simp)
                            · replace c32 := Bool.eq_false_iff.mpr c32
                              subst c32
                              have H1 : (none) = some r := by rw [if_neg (show ¬ (false = true) by decide)] at H; exact H
                              clear H
                              have H := H1
                              clear H1
                              exact absurd H (by simp)
                          · replace c30 := Bool.eq_false_iff.mpr c30
                            subst c30
                            have H1 : (none) = some r := by rw [if_neg (show ¬ (false = true) by decide)] at H; exact H
                            clear H
                            have H := H1
                            clear H1
                            exact absurd H (by simp)
                        · rw [if_neg c28] at H
                          exact absurd H (by simp)
                      · rw [if_neg c27] at H
                        exact absurd H (by simp)
                    · rw [if_neg c26] at H
                      exact absurd H (by simp)
                  · rw [if_neg c19] at H
                    have c19b0 : decide (x11_1 < 2) = false := decide_eq_false c19
                    clear c19
                    obtain rfl := Option.some.inj H
                    go_wp2
                    go_ret
                    exact ⟨by first | rfl | (simp [errW_none, errW_some] <;> rfl) | (simp [*, errW_none, errW_some] <;> rfl), by repeat (first | (with_reducible first | exact HB.out | apply below_alloc | apply pw_below_drewN | apply below_drew1) | exact HB.out)⟩
            · rw [if_neg c12] at H
              exact absurd H (by simp)
          · rw [if_neg c11] at H
            exact absurd H (by simp)

end Go.Proofs.Ytgbkoeinfhlpoaa.F
