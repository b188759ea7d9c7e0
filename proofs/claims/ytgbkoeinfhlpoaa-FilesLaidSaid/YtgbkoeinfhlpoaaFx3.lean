-- printed by a program of this session (a turned copy of the kit's printing program) out of the translation: not trusted, Lean checks it
import Derived.Test.YtgbkoeinfhlpoaaFx0
import Derived.Test.YtgbkoeinfhlpoaaFx2
import Derived.Test.YtgbkoeinfhlpoaaECheck
import Derived.Test.YtgbkoeinfhlpoaaEGet
import Derived.Test.YtgbkoeinfhlpoaaELay
namespace Go.Proofs.Ytgbkoeinfhlpoaa.F
open Go.RowKit Go.Proofs.YtgbkoeinfhlpoaaW.PrintWords Go.Proofs.YtgbkoeinfhlpoaaW.PrintLast Go.Proofs.YtgbkoeinfhlpoaaW.PrintMore
attribute [local go_sem] max2_int min2_int max_two min_two max_three min_three max_four min_four   -- for this text's walks alone
set_option linter.unusedVariables false
set_option linter.unusedSimpArgs false

/-! ### bastionlaw17_FilesLaid: function 3 -/
mutual
def bastionlaw17_FilesLaid.l0 : Nat → List (S33) → List (S33) → List (S33) → Int → Option (Bool)
  | 0, _, _, _, _ => none
  | k + 1, x0, x1, x11, x15 => if x15 < (x1.length : Int) then (if 0 ≤ x15 then ((files_Get.f x11 ((rd_T33 x1 x15).f0)).bind fun bt169 => (if bt169.2 = true then (if bt169.1.toList = ((rd_T33 x1 x15).f1).toList then (bastionlaw17_FilesLaid.l0 k x0 x1 x11 (wrap64 (x15 + 1))) else (none)) else (none))) else (none)) else (bastionlaw17_FilesLaid.l1 k x0 x1 x11 0)
def bastionlaw17_FilesLaid.l1 : Nat → List (S33) → List (S33) → List (S33) → Int → Option (Bool)
  | 0, _, _, _, _ => none
  | k + 1, x0, x1, x11, x18 => if x18 < (x11.length : Int) then (if 0 ≤ x18 then ((files_Get.f x1 ((rd_T33 x11 x18).f0)).bind fun bt173 => ((files_Get.f x0 ((rd_T33 x11 x18).f0)).bind fun bt176 => (if bt173.2 = true then (if (bt173.1.toList = ((rd_T33 x11 x18).f1).toList) then (bastionlaw17_FilesLaid.l1 k x0 x1 x11 (wrap64 (x18 + 1))) else (if bt176.2 = true then (if (bt176.1.toList = ((rd_T33 x11 x18).f1).toList) then (bastionlaw17_FilesLaid.l1 k x0 x1 x11 (wrap64 (x18 + 1))) else (none)) else (none))) else (if bt176.2 = true then (if (bt176.1.toList = ((rd_T33 x11 x18).f1).toList) then (bastionlaw17_FilesLaid.l1 k x0 x1 x11 (wrap64 (x18 + 1))) else (none)) else (none))))) else (none)) else (some true)
end
def bastionlaw17_FilesLaid.f (k : Nat) (l0 : List (S33)) (l1 : List (S33)) : Option (Bool) := (bastionlaw17_works.f).bind fun t136 => (if t136 = true then ((bastionlaw17_large.f k l0).bind fun t137 => (if t137 = true then ((bastionlaw17_works.f).bind fun t138 => (some t138)) else ((bastionlaw17_large.f k l1).bind fun t139 => (if t139 = true then ((bastionlaw17_works.f).bind fun t140 => (some t140)) else ((files_Check.f l0).bind fun t141 => (if t141 = 0 then ((files_Check.f l1).bind fun t142 => (if t142 = 0 then ((files_Lay.f l0 ([] : List (S33))).bind fun bt143 => ((files_Lay.f ([] : List (S33)) l0).bind fun bt147 => ((files_Lay.f l0 l0).bind fun bt151 => (if bt143.2 = 0 then (if bt147.2 = 0 then (if bt151.2 = 0 then ((files_Same.f k bt143.1 l0).bind fun t155 => (if t155 = true then ((files_Same.f k bt147.1 l0).bind fun t156 => (if t156 = true then ((files_Same.f k bt151.1 l0).bind fun t157 => (if t157 = true then ((files_Lay.f l0 l1).bind fun bt158 => (if bt158.2 = 0 then ((files_Lay.f bt158.1 l1).bind fun bt162 => (if bt162.2 = 0 then ((files_Same.f k bt162.1 bt158.1).bind fun t166 => (if t166 = true then ((files_Check.f bt158.1).bind fun t167 => (if t167 = 0 then (bastionlaw17_FilesLaid.l0 k l0 l1 bt158.1 0) else (none))) else (none))) else (none))) else (if bt158.2 = 3 then (some ((bt158.1.length : Int) == 0)) else (none)))) else (none))) else (none))) else (none))) else (none)) else (none)) else (none))))) else ((bastionlaw17_works.f).bind fun t181 => (some t181)))) else ((bastionlaw17_works.f).bind fun t182 => (some t182)))))))) else ((bastionlaw17_works.f).bind fun t183 => (some t183)))
theorem bastionlaw17_FilesLaid.mono_l : ∀ k, (∀ y0 y1 y2 y3, LeO (bastionlaw17_FilesLaid.l0 k y0 y1 y2 y3) (bastionlaw17_FilesLaid.l0 (k + 1) y0 y1 y2 y3)) ∧ (∀ y0 y1 y2 y3, LeO (bastionlaw17_FilesLaid.l1 k y0 y1 y2 y3) (bastionlaw17_FilesLaid.l1 (k + 1) y0 y1 y2 y3))
  | 0 => ⟨fun _ _ _ _ r h => by simp [bastionlaw17_FilesLaid.l0] at h, fun _ _ _ _ r h => by simp [bastionlaw17_FilesLaid.l1] at h⟩
  | k + 1 => by
    obtain ⟨ih0, ih1⟩ := bastionlaw17_FilesLaid.mono_l k
    refine ⟨?_, ?_⟩
    · intro y0 y1 y2 y3
      unfold bastionlaw17_FilesLaid.l0
      repeat' first
      | (with_reducible exact ih0 _ _ _ _)
      | (with_reducible exact ih1 _ _ _ _)
      | (with_reducible exact bastionlaw17_large.mono _ _)
      | (with_reducible exact files_Same.mono _ _ _)
      | (with_reducible exact LeO.refl _)
      | (with_reducible exact LeO.none _)
      | (with_reducible refine LeO.ite ?_ ?_)
      | (with_reducible refine LeO.bind ?_ (fun _ => ?_))
      | exact ih0 _ _ _ _
      | exact ih1 _ _ _ _
      | exact bastionlaw17_large.mono _ _
      | exact files_Same.mono _ _ _
      | exact LeO.none _
      | refine LeO.ite ?_ ?_
      | refine LeO.bind ?_ (fun _ => ?_)
    · intro y0 y1 y2 y3
      unfold bastionlaw17_FilesLaid.l1
      repeat' first
      | (with_reducible exact ih0 _ _ _ _)
      | (with_reducible exact ih1 _ _ _ _)
      | (with_reducible exact bastionlaw17_large.mono _ _)
      | (with_reducible exact files_Same.mono _ _ _)
      | (with_reducible exact LeO.refl _)
      | (with_reducible exact LeO.none _)
      | (with_reducible refine LeO.ite ?_ ?_)
      | (with_reducible refine LeO.bind ?_ (fun _ => ?_))
      | exact ih0 _ _ _ _
      | exact ih1 _ _ _ _
      | exact bastionlaw17_large.mono _ _
      | exact files_Same.mono _ _ _
      | exact LeO.none _
      | refine LeO.ite ?_ ?_
      | refine LeO.bind ?_ (fun _ => ?_)
theorem bastionlaw17_FilesLaid.mono : ∀ a0 a1 k, LeO (bastionlaw17_FilesLaid.f k a0 a1) (bastionlaw17_FilesLaid.f (k + 1) a0 a1) := by
  intro a0 a1 k
  obtain ⟨ih0, ih1⟩ := bastionlaw17_FilesLaid.mono_l k
  unfold bastionlaw17_FilesLaid.f
  repeat' first
      | (with_reducible exact ih0 _ _ _ _)
      | (with_reducible exact ih1 _ _ _ _)
      | (with_reducible exact bastionlaw17_large.mono _ _)
      | (with_reducible exact files_Same.mono _ _ _)
      | (with_reducible exact LeO.refl _)
      | (with_reducible exact LeO.none _)
      | (with_reducible refine LeO.ite ?_ ?_)
      | (with_reducible refine LeO.bind ?_ (fun _ => ?_))
      | exact ih0 _ _ _ _
      | exact ih1 _ _ _ _
      | exact bastionlaw17_large.mono _ _
      | exact files_Same.mono _ _ _
      | exact LeO.none _
      | refine LeO.ite ?_ ?_
      | refine LeO.bind ?_ (fun _ => ?_)
set_option maxHeartbeats 8000000 in
set_option maxRecDepth 100000 in
theorem bastionlaw17_FilesLaid.calls (k : Nat) (A0 : Option Addr) (c0 : Nat) (l0 : List (S33)) (A1 : Option Addr) (c1 : Nat) (l1 : List (S33)) (r : Bool) (w : World) (hr0 : Kd.C k33 w A0 l0.length l0) (hc0 : l0.length ≤ c0) (hr1 : Kd.C k33 w A1 l1.length l1) (hc1 : l1.length ≤ c1) (h : bastionlaw17_FilesLaid.f k l0 l1 = some r) :
    Calls Try.prog 3 #[.slice A0 l0.length c0, .slice A1 l1.length c1] w fun e w' => e = .returned (.bool r) ∧ Below w.heap.size w w' := by
  have HR0 := Aside0.mk hr0
  have HC0 := Aside0.mk hc0
  clear hr0 hc0
  have HR1 := Aside0.mk hr1
  have HC1 := Aside0.mk hc1
  clear hr1 hc1
  have HB := Aside0.mk (Below.refl w.heap.size w)
  have H : ((bastionlaw17_works.f).bind fun t136 => (if t136 = true then ((bastionlaw17_large.f k l0).bind fun t137 => (if t137 = true then ((bastionlaw17_works.f).bind fun t138 => (some t138)) else ((bastionlaw17_large.f k l1).bind fun t139 => (if t139 = true then ((bastionlaw17_works.f).bind fun t140 => (some t140)) else ((files_Check.f l0).bind fun t141 => (if t141 = 0 then ((files_Check.f l1).bind fun t142 => (if t142 = 0 then ((files_Lay.f l0 ([] : List (S33))).bind fun bt143 => ((files_Lay.f ([] : List (S33)) l0).bind fun bt147 => ((files_Lay.f l0 l0).bind fun bt151 => (if bt143.2 = 0 then (if bt147.2 = 0 then (if bt151.2 = 0 then ((files_Same.f k bt143.1 l0).bind fun t155 => (if t155 = true then ((files_Same.f k bt147.1 l0).bind fun t156 => (if t156 = true then ((files_Same.f k bt151.1 l0).bind fun t157 => (if t157 = true then ((files_Lay.f l0 l1).bind fun bt158 => (if bt158.2 = 0 then ((files_Lay.f bt158.1 l1).bind fun bt162 => (if bt162.2 = 0 then ((files_Same.f k bt162.1 bt158.1).bind fun t166 => (if t166 = true then ((files_Check.f bt158.1).bind fun t167 => (if t167 = 0 then (bastionlaw17_FilesLaid.l0 k l0 l1 bt158.1 0) else (none))) else (none))) else (none))) else (if bt158.2 = 3 then (some ((bt158.1.length : Int) == 0)) else (none)))) else (none))) else (none))) else (none))) else (none)) else (none)) else (none))))) else ((bastionlaw17_works.f).bind fun t181 => (some t181)))) else ((bastionlaw17_works.f).bind fun t182 => (some t182)))))))) else ((bastionlaw17_works.f).bind fun t183 => (some t183)))) = some r := h
  clear h
  replace H := Option.bind_eq_some_iff.mp H
  obtain ⟨t136, A30, H⟩ := H
  replace H : (if t136 = true then ((bastionlaw17_large.f k l0).bind fun t137 => (if t137 = true then ((bastionlaw17_works.f).bind fun t138 => (some t138)) else ((bastionlaw17_large.f k l1).bind fun t139 => (if t139 = true then ((bastionlaw17_works.f).bind fun t140 => (some t140)) else ((files_Check.f l0).bind fun t141 => (if t141 = 0 then ((files_Check.f l1).bind fun t142 => (if t142 = 0 then ((files_Lay.f l0 ([] : List (S33))).bind fun bt143 => ((files_Lay.f ([] : List (S33)) l0).bind fun bt147 => ((files_Lay.f l0 l0).bind fun bt151 => (if bt143.2 = 0 then (if bt147.2 = 0 then (if bt151.2 = 0 then ((files_Same.f k bt143.1 l0).bind fun t155 => (if t155 = true then ((files_Same.f k bt147.1 l0).bind fun t156 => (if t156 = true then ((files_Same.f k bt151.1 l0).bind fun t157 => (if t157 = true then ((files_Lay.f l0 l1).bind fun bt158 => (if bt158.2 = 0 then ((files_Lay.f bt158.1 l1).bind fun bt162 => (if bt162.2 = 0 then ((files_Same.f k bt162.1 bt158.1).bind fun t166 => (if t166 = true then ((files_Check.f bt158.1).bind fun t167 => (if t167 = 0 then (bastionlaw17_FilesLaid.l0 k l0 l1 bt158.1 0) else (none))) else (none))) else (none))) else (if bt158.2 = 3 then (some ((bt158.1.length : Int) == 0)) else (none)))) else (none))) else (none))) else (none))) else (none)) else (none)) else (none))))) else ((bastionlaw17_works.f).bind fun t181 => (some t181)))) else ((bastionlaw17_works.f).bind fun t182 => (some t182)))))))) else ((bastionlaw17_works.f).bind fun t183 => (some t183))) = some r := H
  have A3 := Aside0.mk A30
  clear A30
  by_cases c4 : t136 = true
  · subst c4
    have H1 : ((bastionlaw17_large.f k l0).bind fun t137 => (if t137 = true then ((bastionlaw17_works.f).bind fun t138 => (some t138)) else ((bastionlaw17_large.f k l1).bind fun t139 => (if t139 = true then ((bastionlaw17_works.f).bind fun t140 => (some t140)) else ((files_Check.f l0).bind fun t141 => (if t141 = 0 then ((files_Check.f l1).bind fun t142 => (if t142 = 0 then ((files_Lay.f l0 ([] : List (S33))).bind fun bt143 => ((files_Lay.f ([] : List (S33)) l0).bind fun bt147 => ((files_Lay.f l0 l0).bind fun bt151 => (if bt143.2 = 0 then (if bt147.2 = 0 then (if bt151.2 = 0 then ((files_Same.f k bt143.1 l0).bind fun t155 => (if t155 = true then ((files_Same.f k bt147.1 l0).bind fun t156 => (if t156 = true then ((files_Same.f k bt151.1 l0).bind fun t157 => (if t157 = true then ((files_Lay.f l0 l1).bind fun bt158 => (if bt158.2 = 0 then ((files_Lay.f bt158.1 l1).bind fun bt162 => (if bt162.2 = 0 then ((files_Same.f k bt162.1 bt158.1).bind fun t166 => (if t166 = true then ((files_Check.f bt158.1).bind fun t167 => (if t167 = 0 then (bastionlaw17_FilesLaid.l0 k l0 l1 bt158.1 0) else (none))) else (none))) else (none))) else (if bt158.2 = 3 then (some ((bt158.1.length : Int) == 0)) else (none)))) else (none))) else (none))) else (none))) else (none)) else (none)) else (none))))) else ((bastionlaw17_works.f).bind fun t181 => (some t181)))) else ((bastionlaw17_works.f).bind fun t182 => (some t182)))))))) = some r := by rw [if_pos rfl] at H; exact H
    clear H
    have H := H1
    clear H1
    replace H := Option.bind_eq_some_iff.mp H
    obtain ⟨t137, A50, H⟩ := H
    replace H : (if t137 = true then ((bastionlaw17_works.f).bind fun t138 => (some t138)) else ((bastionlaw17_large.f k l1).bind fun t139 => (if t139 = true then ((bastionlaw17_works.f).bind fun t140 => (some t140)) else ((files_Check.f l0).bind fun t141 => (if t141 = 0 then ((files_Check.f l1).bind fun t142 => (if t142 = 0 then ((files_Lay.f l0 ([] : List (S33))).bind fun bt143 => ((files_Lay.f ([] : List (S33)) l0).bind fun bt147 => ((files_Lay.f l0 l0).bind fun bt151 => (if bt143.2 = 0 then (if bt147.2 = 0 then (if bt151.2 = 0 then ((files_Same.f k bt143.1 l0).bind fun t155 => (if t155 = true then ((files_Same.f k bt147.1 l0).bind fun t156 => (if t156 = true then ((files_Same.f k bt151.1 l0).bind fun t157 => (if t157 = true then ((files_Lay.f l0 l1).bind fun bt158 => (if bt158.2 = 0 then ((files_Lay.f bt158.1 l1).bind fun bt162 => (if bt162.2 = 0 then ((files_Same.f k bt162.1 bt158.1).bind fun t166 => (if t166 = true then ((files_Check.f bt158.1).bind fun t167 => (if t167 = 0 then (bastionlaw17_FilesLaid.l0 k l0 l1 bt158.1 0) else (none))) else (none))) else (none))) else (if bt158.2 = 3 then (some ((bt158.1.length : Int) == 0)) else (none)))) else (none))) else (none))) else (none))) else (none)) else (none)) else (none))))) else ((bastionlaw17_works.f).bind fun t181 => (some t181)))) else ((bastionlaw17_works.f).bind fun t182 => (some t182))))))) = some r := H
    have A5 := Aside0.mk A50
    clear A50
    by_cases c6 : t137 = true
    · subst c6
      have H1 : ((bastionlaw17_works.f).bind fun t138 => (some t138)) = some r := by rw [if_pos rfl] at H; exact H
      clear H
      have H := H1
      clear H1
      replace H := Option.bind_eq_some_iff.mp H
      obtain ⟨t138, A70, H⟩ := H
      replace H : (some t138) = some r := H
      have A7 := Aside0.mk A70
      clear A70
      obtain rfl := Option.some.inj H
      go_enter Try.func3, Try.ntmps3
      go_wp2_with (first | ((with_reducible refine gate_callee (f := 14) rfl ?_); refine goesL_ (some 23) rfl rfl Try.func14 (by kernel_rfl) rfl #[] rfl (by (try simp only [List.map_toArray, List.map_cons, List.map_nil]); first | done | rfl | (simp only [List.length_drop, List.length_take]; rfl)) ?_; (with_reducible refine (bastionlaw17_works.calls  true _ A3.out).mono ?_); rintro e w8 ⟨rfl, hb⟩; refine ⟨_, rfl, ?_⟩; have n0_ := Aside0.mk (below_step (by repeat (first | (with_reducible first | exact HB.out | apply below_alloc | apply pw_below_drewN | apply below_drew1) | exact HB.out)) hb); clear HB; have HB := n0_; clear n0_; (try clear hb); (try clear hb2); (try clear hk); (try clear hi)) | (go_at_call 15; (with_reducible refine (bastionlaw17_large.calls k _ _ l0 true _ ?side1 ?side2 A5.out).mono ?_); (case side1 => repeat (first | exact (Kd.C_below HR0.out HB.out) | (with_reducible refine Kd.C_alloc ?_ _) | (with_reducible refine Kd.C_drewN ?_ _) | (with_reducible refine Kd.C_drew ?_))); (case side2 => exact HC0.out); rintro e w' ⟨rfl, ⟨nd, rfl⟩⟩) | ((with_reducible refine gate_callee (f := 14) rfl ?_); refine goesL_ (some 43) rfl rfl Try.func14 (by kernel_rfl) rfl #[] rfl (by (try simp only [List.map_toArray, List.map_cons, List.map_nil]); first | done | rfl | (simp only [List.length_drop, List.length_take]; rfl)) ?_; (with_reducible refine (bastionlaw17_works.calls  t138 _ A7.out).mono ?_); rintro e w9 ⟨rfl, hb⟩; refine ⟨_, rfl, ?_⟩; have n0_ := Aside0.mk (below_step (by repeat (first | (with_reducible first | exact HB.out | apply below_alloc | apply pw_below_drewN | apply below_drew1) | exact HB.out)) hb); clear HB; have HB := n0_; clear n0_; (try clear hb); (try clear hb2); (try clear hk); (try clear hi)))
      go_ret
      exact ⟨by first | rfl | (simp [errW_none, errW_some] <;> rfl) | (simp [*, errW_none, errW_some] <;> rfl), by repeat (first | (with_reducible first | exact HB.out | apply below_alloc | apply pw_below_drewN | apply below_drew1) | exact HB.out)⟩
    · replace c6 := Bool.eq_false_iff.mpr c6
      subst c6
      have H1 : ((bastionlaw17_large.f k l1).bind fun t139 => (if t139 = true then ((bastionlaw17_works.f).bind fun t140 => (some t140)) else ((files_Check.f l0).bind fun t141 => (if t141 = 0 then ((files_Check.f l1).bind fun t142 => (if t142 = 0 then ((files_Lay.f l0 ([] : List (S33))).bind fun bt143 => ((files_Lay.f ([] : List (S33)) l0).bind fun bt147 => ((files_Lay.f l0 l0).bind fun bt151 => (if bt143.2 = 0 then (if bt147.2 = 0 then (if bt151.2 = 0 then ((files_Same.f k bt143.1 l0).bind fun t155 => (if t155 = true then ((files_Same.f k bt147.1 l0).bind fun t156 => (if t156 = true then ((files_Same.f k bt151.1 l0).bind fun t157 => (if t157 = true then ((files_Lay.f l0 l1).bind fun bt158 => (if bt158.2 = 0 then ((files_Lay.f bt158.1 l1).bind fun bt162 => (if bt162.2 = 0 then ((files_Same.f k bt162.1 bt158.1).bind fun t166 => (if t166 = true then ((files_Check.f bt158.1).bind fun t167 => (if t167 = 0 then (bastionlaw17_FilesLaid.l0 k l0 l1 bt158.1 0) else (none))) else (none))) else (none))) else (if bt158.2 = 3 then (some ((bt158.1.length : Int) == 0)) else (none)))) else (none))) else (none))) else (none))) else (none)) else (none)) else (none))))) else ((bastionlaw17_works.f).bind fun t181 => (some t181)))) else ((bastionlaw17_works.f).bind fun t182 => (some t182)))))) = some r := by rw [if_neg (show ¬ (false = true) by decide)] at H; exact H
      clear H
      have H := H1
      clear H1
      replace H := Option.bind_eq_some_iff.mp H
      obtain ⟨t139, A100, H⟩ := H
      replace H : (if t139 = true then ((bastionlaw17_works.f).bind fun t140 => (some t140)) else ((files_Check.f l0).bind fun t141 => (if t141 = 0 then ((files_Check.f l1).bind fun t142 => (if t142 = 0 then ((files_Lay.f l0 ([] : List (S33))).bind fun bt143 => ((files_Lay.f ([] : List (S33)) l0).bind fun bt147 => ((files_Lay.f l0 l0).bind fun bt151 => (if bt143.2 = 0 then (if bt147.2 = 0 then (if bt151.2 = 0 then ((files_Same.f k bt143.1 l0).bind fun t155 => (if t155 = true then ((files_Same.f k bt147.1 l0).bind fun t156 => (if t156 = true then ((files_Same.f k bt151.1 l0).bind fun t157 => (if t157 = true then ((files_Lay.f l0 l1).bind fun bt158 => (if bt158.2 = 0 then ((files_Lay.f bt158.1 l1).bind fun bt162 => (if bt162.2 = 0 then ((files_Same.f k bt162.1 bt158.1).bind fun t166 => (if t166 = true then ((files_Check.f bt158.1).bind fun t167 => (if t167 = 0 then (bastionlaw17_FilesLaid.l0 k l0 l1 bt158.1 0) else (none))) else (none))) else (none))) else (if bt158.2 = 3 then (some ((bt158.1.length : Int) == 0)) else (none)))) else (none))) else (none))) else (none))) else (none)) else (none)) else (none))))) else ((bastionlaw17_works.f).bind fun t181 => (some t181)))) else ((bastionlaw17_works.f).bind fun t182 => (some t182))))) = some r := H
      have A10 := Aside0.mk A100
      clear A100
      by_cases c11 : t139 = true
      · subst c11
        have H1 : ((bastionlaw17_works.f).bind fun t140 => (some t140)) = some r := by rw [if_pos rfl] at H; exact H
        clear H
        have H := H1
        clear H1
        replace H := Option.bind_eq_some_iff.mp H
        obtain ⟨t140, A120, H⟩ := H
        replace H : (some t140) = some r := H
        have A12 := Aside0.mk A120
        clear A120
        obtain rfl := Option.some.inj H
        go_enter Try.func3, Try.ntmps3
        go_wp2_with (first | ((with_reducible refine gate_callee (f := 14) rfl ?_); refine goesL_ (some 23) rfl rfl Try.func14 (by kernel_rfl) rfl #[] rfl (by (try simp only [List.map_toArray, List.map_cons, List.map_nil]); first | done | rfl | (simp only [List.length_drop, List.length_take]; rfl)) ?_; (with_reducible refine (bastionlaw17_works.calls  true _ A3.out).mono ?_); rintro e w13 ⟨rfl, hb⟩; refine ⟨_, rfl, ?_⟩; have n0_ := Aside0.mk (below_step (by repeat (first | (with_reducible first | exact HB.out | apply below_alloc | apply pw_below_drewN | apply below_drew1) | exact HB.out)) hb); clear HB; have HB := n0_; clear n0_; (try clear hb); (try clear hb2); (try clear hk); (try clear hi)) | (go_at_call 15; (with_reducible refine (bastionlaw17_large.calls k _ _ l0 false _ ?side1 ?side2 A5.out).mono ?_); (case side1 => repeat (first | exact (Kd.C_below HR0.out HB.out) | (with_reducible refine Kd.C_alloc ?_ _) | (with_reducible refine Kd.C_drewN ?_ _) | (with_reducible refine Kd.C_drew ?_))); (case side2 => exact HC0.out); rintro e w' ⟨rfl, ⟨nd, rfl⟩⟩) | (go_at_call 15; (with_reducible refine (bastionlaw17_large.calls k _ _ l1 true _ ?side1 ?side2 A10.out).mono ?_); (case side1 => repeat (first | exact (Kd.C_below HR1.out (by repeat (first | (with_reducible first | exact HB.out | apply below_alloc | apply pw_below_drewN | apply below_drew1) | exact HB.out))) | (with_reducible refine Kd.C_alloc ?_ _) | (with_reducible refine Kd.C_drewN ?_ _) | (with_reducible refine Kd.C_drew ?_))); (case side2 => exact HC1.out); rintro e w' ⟨rfl, ⟨nd, rfl⟩⟩) | ((with_reducible refine gate_callee (f := 14) rfl ?_); refine goesL_ (some 43) rfl rfl Try.func14 (by kernel_rfl) rfl #[] rfl (by (try simp only [List.map_toArray, List.map_cons, List.map_nil]); first | done | rfl | (simp only [List.length_drop, List.length_take]; rfl)) ?_; (with_reducible refine (bastionlaw17_works.calls  t140 _ A12.out).mono ?_); rintro e w14 ⟨rfl, hb⟩; refine ⟨_, rfl, ?_⟩; have n0_ := Aside0.mk (below_step (by repeat (first | (with_reducible first | exact HB.out | apply below_alloc | apply pw_below_drewN | apply below_drew1) | exact HB.out)) hb); clear HB; have HB := n0_; clear n0_; (try clear hb); (try clear hb2); (try clear hk); (try clear hi)))
        go_ret
        exact ⟨by first | rfl | (simp [errW_none, errW_some] <;> rfl) | (simp [*, errW_none, errW_some] <;> rfl), by repeat (first | (with_reducible first | exact HB.out | apply below_alloc | apply pw_below_drewN | apply below_drew1) | exact HB.out)⟩
      · replace c11 := Bool.eq_false_iff.mpr c11
        subst c11
        have H1 : ((files_Check.f l0).bind fun t141 => (if t141 = 0 then ((files_Check.f l1).bind fun t142 => (if t142 = 0 then ((files_Lay.f l0 ([] : List (S33))).bind fun bt143 => ((files_Lay.f ([] : List (S33)) l0).bind fun bt147 => ((files_Lay.f l0 l0).bind fun bt151 => (if bt143.2 = 0 then (if bt147.2 = 0 then (if bt151.2 = 0 then ((files_Same.f k bt143.1 l0).bind fun t155 => (if t155 = true then ((files_Same.f k bt147.1 l0).bind fun t156 => (if t156 = true then ((files_Same.f k bt151.1 l0).bind fun t157 => (if t157 = true then ((files_Lay.f l0 l1).bind fun bt158 => (if bt158.2 = 0 then ((files_Lay.f bt158.1 l1).bind fun bt162 => (if bt162.2 = 0 then ((files_Same.f k bt162.1 bt158.1).bind fun t166 => (if t166 = true then ((files_Check.f bt158.1).bind fun t167 => (if t167 = 0 then (bastionlaw17_FilesLaid.l0 k l0 l1 bt158.1 0) else (none))) else (none))) else (none))) else (if bt158.2 = 3 then (some ((bt158.1.length : Int) == 0)) else (none)))) else (none))) else (none))) else (none))) else (none)) else (none)) else (none))))) else ((bastionlaw17_works.f).bind fun t181 => (some t181)))) else ((bastionlaw17_works.f).bind fun t182 => (some t182)))) = some r := by rw [if_neg (show ¬ (false = true) by decide)] at H; exact H
        clear H
        have H := H1
        clear H1
        replace H := Option.bind_eq_some_iff.mp H
        obtain ⟨t141, A150, H⟩ := H
        replace H : (if t141 = 0 then ((files_Check.f l1).bind fun t142 => (if t142 = 0 then ((files_Lay.f l0 ([] : List (S33))).bind fun bt143 => ((files_Lay.f ([] : List (S33)) l0).bind fun bt147 => ((files_Lay.f l0 l0).bind fun bt151 => (if bt143.2 = 0 then (if bt147.2 = 0 then (if bt151.2 = 0 then ((files_Same.f k bt143.1 l0).bind fun t155 => (if t155 = true then ((files_Same.f k bt147.1 l0).bind fun t156 => (if t156 = true then ((files_Same.f k bt151.1 l0).bind fun t157 => (if t157 = true then ((files_Lay.f l0 l1).bind fun bt158 => (if bt158.2 = 0 then ((files_Lay.f bt158.1 l1).bind fun bt162 => (if bt162.2 = 0 then ((files_Same.f k bt162.1 bt158.1).bind fun t166 => (if t166 = true then ((files_Check.f bt158.1).bind fun t167 => (if t167 = 0 then (bastionlaw17_FilesLaid.l0 k l0 l1 bt158.1 0) else (none))) else (none))) else (none))) else (if bt158.2 = 3 then (some ((bt158.1.length : Int) == 0)) else (none)))) else (none))) else (none))) else (none))) else (none)) else (none)) else (none))))) else ((bastionlaw17_works.f).bind fun t181 => (some t181)))) else ((bastionlaw17_works.f).bind fun t182 => (some t182))) = some r := H
        have A15 := Aside0.mk A150
        clear A150
        by_cases c16 : t141 = 0
        · rw [if_pos c16] at H
          have c16b0 : (t141 == 0) = true := beq_iff_eq.mpr c16
          have c16b1 : (t141 != 0) = false := bne_eq_false_iff_eq.mpr c16
          clear c16
          replace H := Option.bind_eq_some_iff.mp H
          obtain ⟨t142, A170, H⟩ := H
          replace H : (if t142 = 0 then ((files_Lay.f l0 ([] : List (S33))).bind fun bt143 => ((files_Lay.f ([] : List (S33)) l0).bind fun bt147 => ((files_Lay.f l0 l0).bind fun bt151 => (if bt143.2 = 0 then (if bt147.2 = 0 then (if bt151.2 = 0 then ((files_Same.f k bt143.1 l0).bind fun t155 => (if t155 = true then ((files_Same.f k bt147.1 l0).bind fun t156 => (if t156 = true then ((files_Same.f k bt151.1 l0).bind fun t157 => (if t157 = true then ((files_Lay.f l0 l1).bind fun bt158 => (if bt158.2 = 0 then ((files_Lay.f bt158.1 l1).bind fun bt162 => (if bt162.2 = 0 then ((files_Same.f k bt162.1 bt158.1).bind fun t166 => (if t166 = true then ((files_Check.f bt158.1).bind fun t167 => (if t167 = 0 then (bastionlaw17_FilesLaid.l0 k l0 l1 bt158.1 0) else (none))) else (none))) else (none))) else (if bt158.2 = 3 then (some ((bt158.1.length : Int) == 0)) else (none)))) else (none))) else (none))) else (none))) else (none)) else (none)) else (none))))) else ((bastionlaw17_works.f).bind fun t181 => (some t181))) = some r := H
          have A17 := Aside0.mk A170
          clear A170
          by_cases c18 : t142 = 0
          · rw [if_pos c18] at H
            have c18b0 : (t142 == 0) = true := beq_iff_eq.mpr c18
            have c18b1 : (t142 != 0) = false := bne_eq_false_iff_eq.mpr c18
            clear c18
            replace H := Option.bind_eq_some_iff.mp H
            obtain ⟨⟨t143, t144⟩, A190, H⟩ := H
            replace H : ((files_Lay.f ([] : List (S33)) l0).bind fun bt147 => ((files_Lay.f l0 l0).bind fun bt151 => (if t144 = 0 then (if bt147.2 = 0 then (if bt151.2 = 0 then ((files_Same.f k t143 l0).bind fun t155 => (if t155 = true then ((files_Same.f k bt147.1 l0).bind fun t156 => (if t156 = true then ((files_Same.f k bt151.1 l0).bind fun t157 => (if t157 = true then ((files_Lay.f l0 l1).bind fun bt158 => (if bt158.2 = 0 then ((files_Lay.f bt158.1 l1).bind fun bt162 => (if bt162.2 = 0 then ((files_Same.f k bt162.1 bt158.1).bind fun t166 => (if t166 = true then ((files_Check.f bt158.1).bind fun t167 => (if t167 = 0 then (bastionlaw17_FilesLaid.l0 k l0 l1 bt158.1 0) else (none))) else (none))) else (none))) else (if bt158.2 = 3 then (some ((bt158.1.length : Int) == 0)) else (none)))) else (none))) else (none))) else (none))) else (none)) else (none)) else (none)))) = some r := H
            have A19 := Aside0.mk A190
            clear A190
            replace H := Option.bind_eq_some_iff.mp H
            obtain ⟨⟨t147, t148⟩, A200, H⟩ := H
            replace H : ((files_Lay.f l0 l0).bind fun bt151 => (if t144 = 0 then (if t148 = 0 then (if bt151.2 = 0 then ((files_Same.f k t143 l0).bind fun t155 => (if t155 = true then ((files_Same.f k t147 l0).bind fun t156 => (if t156 = true then ((files_Same.f k bt151.1 l0).bind fun t157 => (if t157 = true then ((files_Lay.f l0 l1).bind fun bt158 => (if bt158.2 = 0 then ((files_Lay.f bt158.1 l1).bind fun bt162 => (if bt162.2 = 0 then ((files_Same.f k bt162.1 bt158.1).bind fun t166 => (if t166 = true then ((files_Check.f bt158.1).bind fun t167 => (if t167 = 0 then (bastionlaw17_FilesLaid.l0 k l0 l1 bt158.1 0) else (none))) else (none))) else (none))) else (if bt158.2 = 3 then (some ((bt158.1.length : Int) == 0)) else (none)))) else (none))) else (none))) else (none))) else (none)) else (none)) else (none))) = some r := H
            have A20 := Aside0.mk A200
            clear A200
            replace H := Option.bind_eq_some_iff.mp H
            obtain ⟨⟨t151, t152⟩, A210, H⟩ := H
            replace H : (if t144 = 0 then (if t148 = 0 then (if t152 = 0 then ((files_Same.f k t143 l0).bind fun t155 => (if t155 = true then ((files_Same.f k t147 l0).bind fun t156 => (if t156 = true then ((files_Same.f k t151 l0).bind fun t157 => (if t157 = true then ((files_Lay.f l0 l1).bind fun bt158 => (if bt158.2 = 0 then ((files_Lay.f bt158.1 l1).bind fun bt162 => (if bt162.2 = 0 then ((files_Same.f k bt162.1 bt158.1).bind fun t166 => (if t166 = true then ((files_Check.f bt158.1).bind fun t167 => (if t167 = 0 then (bastionlaw17_FilesLaid.l0 k l0 l1 bt158.1 0) else (none))) else (none))) else (none))) else (if bt158.2 = 3 then (some ((bt158.1.length : Int) == 0)) else (none)))) else (none))) else (none))) else (none))) else (none)) else (none)) else (none)) = some r := H
            have A21 := Aside0.mk A210
            clear A210
            by_cases c22 : t144 = 0
            · rw [if_pos c22] at H
              have c22b0 : (t144 == 0) = true := beq_iff_eq.mpr c22
              have c22b1 : (t144 != 0) = false := bne_eq_false_iff_eq.mpr c22
              clear c22
              by_cases c23 : t148 = 0
              · rw [if_pos c23] at H
                have c23b0 : (t148 == 0) = true := beq_iff_eq.mpr c23
                have c23b1 : (t148 != 0) = false := bne_eq_false_iff_eq.mpr c23
                clear c23
                by_cases c24 : t152 = 0
                · rw [if_pos c24] at H
                  have c24b0 : (t152 == 0) = true := beq_iff_eq.mpr c24
                  have c24b1 : (t152 != 0) = false := bne_eq_false_iff_eq.mpr c24
                  clear c24
                  replace H := Option.bind_eq_some_iff.mp H
                  obtain ⟨t155, A250, H⟩ := H
                  replace H : (if t155 = true then ((files_Same.f k t147 l0).bind fun t156 => (if t156 = true then ((files_Same.f k t151 l0).bind fun t157 => (if t157 = true then ((files_Lay.f l0 l1).bind fun bt158 => (if bt158.2 = 0 then ((files_Lay.f bt158.1 l1).bind fun bt162 => (if bt162.2 = 0 then ((files_Same.f k bt162.1 bt158.1).bind fun t166 => (if t166 = true then ((files_Check.f bt158.1).bind fun t167 => (if t167 = 0 then (bastionlaw17_FilesLaid.l0 k l0 l1 bt158.1 0) else (none))) else (none))) else (none))) else (if bt158.2 = 3 then (some ((bt158.1.length : Int) == 0)) else (none)))) else (none))) else (none))) else (none)) = some r := H
                  have A25 := Aside0.mk A250
                  clear A250
                  by_cases c26 : t155 = true
                  · subst c26
                    have H1 : ((files_Same.f k t147 l0).bind fun t156 => (if t156 = true then ((files_Same.f k t151 l0).bind fun t157 => (if t157 = true then ((files_Lay.f l0 l1).bind fun bt158 => (if bt158.2 = 0 then ((files_Lay.f bt158.1 l1).bind fun bt162 => (if bt162.2 = 0 then ((files_Same.f k bt162.1 bt158.1).bind fun t166 => (if t166 = true then ((files_Check.f bt158.1).bind fun t167 => (if t167 = 0 then (bastionlaw17_FilesLaid.l0 k l0 l1 bt158.1 0) else (none))) else (none))) else (none))) else (if bt158.2 = 3 then (some ((bt158.1.length : Int) == 0)) else (none)))) else (none))) else (none))) = some r := by rw [if_pos rfl] at H; exact H
                    clear H
                    have H := H1
                    clear H1
                    replace H := Option.bind_eq_some_iff.mp H
                    obtain ⟨t156, A270, H⟩ := H
                    replace H : (if t156 = true then ((files_Same.f k t151 l0).bind fun t157 => (if t157 = true then ((files_Lay.f l0 l1).bind fun bt158 => (if bt158.2 = 0 then ((files_Lay.f bt158.1 l1).bind fun bt162 => (if bt162.2 = 0 then ((files_Same.f k bt162.1 bt158.1).bind fun t166 => (if t166 = true then ((files_Check.f bt158.1).bind fun t167 => (if t167 = 0 then (bastionlaw17_FilesLaid.l0 k l0 l1 bt158.1 0) else (none))) else (none))) else (none))) else (if bt158.2 = 3 then (some ((bt158.1.length : Int) == 0)) else (none)))) else (none))) else (none)) = some r := H
                    have A27 := Aside0.mk A270
                    clear A270
                    by_cases c28 : t156 = true
                    · subst c28
                      have H1 : ((files_Same.f k t151 l0).bind fun t157 => (if t157 = true then ((files_Lay.f l0 l1).bind fun bt158 => (if bt158.2 = 0 then ((files_Lay.f bt158.1 l1).bind fun bt162 => (if bt162.2 = 0 then ((files_Same.f k bt162.1 bt158.1).bind fun t166 => (if t166 = true then ((files_Check.f bt158.1).bind fun t167 => (if t167 = 0 then (bastionlaw17_FilesLaid.l0 k l0 l1 bt158.1 0) else (none))) else (none))) else (none))) else (if bt158.2 = 3 then (some ((bt158.1.length : Int) == 0)) else (none)))) else (none))) = some r := by rw [if_pos rfl] at H; exact H
                      clear H
                      have H := H1
                      clear H1
                      replace H := Option.bind_eq_some_iff.mp H
                      obtain ⟨t157, A290, H⟩ := H
                      replace H : (if t157 = true then ((files_Lay.f l0 l1).bind fun bt158 => (if bt158.2 = 0 then ((files_Lay.f bt158.1 l1).bind fun bt162 => (if bt162.2 = 0 then ((files_Same.f k bt162.1 bt158.1).bind fun t166 => (if t166 = true then ((files_Check.f bt158.1).bind fun t167 => (if t167 = 0 then (bastionlaw17_FilesLaid.l0 k l0 l1 bt158.1 0) else (none))) else (none))) else (none))) else (if bt158.2 = 3 then (some ((bt158.1.length : Int) == 0)) else (none)))) else (none)) = some r := H
                      have A29 := Aside0.mk A290
                      clear A290
                      by_cases c30 : t157 = true
                      · subst c30
                        have H1 : ((files_Lay.f l0 l1).bind fun bt158 => (if bt158.2 = 0 then ((files_Lay.f bt158.1 l1).bind fun bt162 => (if bt162.2 = 0 then ((files_Same.f k bt162.1 bt158.1).bind fun t166 => (if t166 = true then ((files_Check.f bt158.1).bind fun t167 => (if t167 = 0 then (bastionlaw17_FilesLaid.l0 k l0 l1 bt158.1 0) else (none))) else (none))) else (none))) else (if bt158.2 = 3 then (some ((bt158.1.length : Int) == 0)) else (none)))) = some r := by rw [if_pos rfl] at H; exact H
                        clear H
                        have H := H1
                        clear H1
                        replace H := Option.bind_eq_some_iff.mp H
                        obtain ⟨⟨t158, t159⟩, A310, H⟩ := H
                        replace H : (if t159 = 0 then ((files_Lay.f t158 l1).bind fun bt162 => (if bt162.2 = 0 then ((files_Same.f k bt162.1 t158).bind fun t166 => (if t166 = true then ((files_Check.f t158).bind fun t167 => (if t167 = 0 then (bastionlaw17_FilesLaid.l0 k l0 l1 t158 0) else (none))) else (none))) else (none))) else (if t159 = 3 then (some ((t158.length : Int) == 0)) else (none))) = some r := H
                        have A31 := Aside0.mk A310
                        clear A310
                        by_cases c32 : t159 = 0
                        · rw [if_pos c32] at H
                          have c32b0 : (t159 == 0) = true := beq_iff_eq.mpr c32
                          have c32b1 : (t159 != 0) = false := bne_eq_false_iff_eq.mpr c32
                          clear c32
                          replace H := Option.bind_eq_some_iff.mp H
                          obtain ⟨⟨t162, t163⟩, A330, H⟩ := H
                          replace H : (if t163 = 0 then ((files_Same.f k t162 t158).bind fun t166 => (if t166 = true then ((files_Check.f t158).bind fun t167 => (if t167 = 0 then (bastionlaw17_FilesLaid.l0 k l0 l1 t158 0) else (none))) else (none))) else (none)) = some r := H
                          have A33 := Aside0.mk A330
                          clear A330
                          by_cases c34 : t163 = 0
                          · rw [if_pos c34] at H
                            have c34b0 : (t163 == 0) = true := beq_iff_eq.mpr c34
                            have c34b1 : (t163 != 0) = false := bne_eq_false_iff_eq.mpr c34
                            clear c34
                            replace H := Option.bind_eq_some_iff.mp H
                            obtain ⟨t166, A350, H⟩ := H
                            replace H : (if t166 = true then ((files_Check.f t158).bind fun t167 => (if t167 = 0 then (bastionlaw17_FilesLaid.l0 k l0 l1 t158 0) else (none))) else (none)) = some r := H
                            have A35 := Aside0.mk A350
                            clear A350
                            by_cases c36 : t166 = true
                            · subst c36
                              have H1 : ((files_Check.f t158).bind fun t167 => (if t167 = 0 then (bastionlaw17_FilesLaid.l0 k l0 l1 t158 0) else (none))) = some r := by rw [if_pos rfl] at H; exact H
                              clear H
                              have H := H1
                              clear H1
                              replace H := Option.bind_eq_some_iff.mp H
                              obtain ⟨t167, A370, H⟩ := H
                              replace H : (if t167 = 0 then (bastionlaw17_FilesLaid.l0 k l0 l1 t158 0) else (none)) = some r := H
                              have A37 := Aside0.mk A370
                              clear A370
                              by_cases c38 : t167 = 0
                              · rw [if_pos c38] at H
                                have c38b0 : (t167 == 0) = true := beq_iff_eq.mpr c38
                                have c38b1 : (t167 != 0) = false := bne_eq_false_iff_eq.mpr c38
                                clear c38
                                have H' := Aside0.mk H
                                clear H
                                go_enter Try.func3, Try.ntmps3
                                go_wp2_with (first | ((with_reducible refine gate_callee (f := 14) rfl ?_); refine goesL_ (some 23) rfl rfl Try.func14 (by kernel_rfl) rfl #[] rfl (by (try simp only [List.map_toArray, List.map_cons, List.map_nil]); first | done | rfl | (simp only [List.length_drop, List.length_take]; rfl)) ?_; (with_reducible refine (bastionlaw17_works.calls  true _ A3.out).mono ?_); rintro e w39 ⟨rfl, hb⟩; refine ⟨_, rfl, ?_⟩; have n0_ := Aside0.mk (below_step (by repeat (first | (with_reducible first | exact HB.out | apply below_alloc | apply pw_below_drewN | apply below_drew1) | exact HB.out)) hb); clear HB; have HB := n0_; clear n0_; (try clear hb); (try clear hb2); (try clear hk); (try clear hi)) | (go_at_call 15; (with_reducible refine (bastionlaw17_large.calls k _ _ l0 false _ ?side1 ?side2 A5.out).mono ?_); (case side1 => repeat (first | exact (Kd.C_below HR0.out HB.out) | (with_reducible refine Kd.C_alloc ?_ _) | (with_reducible refine Kd.C_drewN ?_ _) | (with_reducible refine Kd.C_drew ?_))); (case side2 => exact HC0.out); rintro e w' ⟨rfl, ⟨nd, rfl⟩⟩) | (go_at_call 15; (with_reducible refine (bastionlaw17_large.calls k _ _ l1 false _ ?side1 ?side2 A10.out).mono ?_); (case side1 => repeat (first | exact (Kd.C_below HR1.out (by repeat (first | (with_reducible first | exact HB.out | apply below_alloc | apply pw_below_drewN | apply below_drew1) | exact HB.out))) | (with_reducible refine Kd.C_alloc ?_ _) | (with_reducible refine Kd.C_drewN ?_ _) | (with_reducible refine Kd.C_drew ?_))); (case side2 => exact HC1.out); rintro e w' ⟨rfl, ⟨nd, rfl⟩⟩) | (go_at_call 16; (with_reducible refine (files_Check.calls _ _ l0 t141 _ ?side1 ?side2 A15.out).mono ?_); (case side1 => repeat (first | exact (Kd.C_below HR0.out (by repeat (first | (with_reducible first | exact HB.out | apply below_alloc | apply pw_below_drewN | apply below_drew1) | exact HB.out))) | (with_reducible refine Kd.C_alloc ?_ _) | (with_reducible refine Kd.C_drewN ?_ _) | (with_reducible refine Kd.C_drew ?_))); (case side2 => exact HC0.out); rintro e w40 ⟨rfl, hb⟩; have n0_ := Aside0.mk (below_step (by repeat (first | (with_reducible first | exact HB.out | apply below_alloc | apply pw_below_drewN | apply below_drew1) | exact HB.out)) hb); clear HB; have HB := n0_; clear n0_; (try clear hb); (try clear hb2); (try clear hk); (try clear hi)) | (go_at_call 16; (with_reducible refine (files_Check.calls _ _ l1 t142 _ ?side1 ?side2 A17.out).mono ?_); (case side1 => repeat (first | exact (Kd.C_below HR1.out HB.out) | (with_reducible refine Kd.C_alloc ?_ _) | (with_reducible refine Kd.C_drewN ?_ _) | (with_reducible refine Kd.C_drew ?_))); (case side2 => exact HC1.out); rintro e w41 ⟨rfl, hb⟩; have n0_ := Aside0.mk (below_step (by repeat (first | (with_reducible first | exact HB.out | apply below_alloc | apply pw_below_drewN | apply below_drew1) | exact HB.out)) hb); clear HB; have HB := n0_; clear n0_; (try clear hb); (try clear hb2); (try clear hk); (try clear hi)) | ((with_reducible refine gate_callee (f := 17) rfl ?_); refine goesL_ (some 46) rfl rfl Try.func17 (by kernel_rfl) rfl #[.slice A0 l0.length c0, .slice none 0 0] rfl (by (try simp only [List.map_toArray, List.map_cons, List.map_nil]); first | done | rfl | (simp only [List.length_drop, List.length_take]; rfl)) ?_; (refine (files_Lay.calls _ _ l0 _ _ ([] : List (S33)) t143 t144 _ ?side1 ?side2 ?side3 ?side4 A19.out).mono ?_); (case side1 => repeat (first | exact (Kd.C_below HR0.out HB.out) | (with_reducible refine Kd.C_alloc ?_ _) | (with_reducible refine Kd.C_drewN ?_ _) | (with_reducible refine Kd.C_drew ?_))); (case side2 => exact HC0.out); (case side3 => exact Kd.C_nil _ _); (case side4 => exact Nat.le_refl _); rintro e w42 ⟨v145, rfl, ho0, hb⟩; refine ⟨_, rfl, ?_⟩; have n0_ := Aside0.mk (Kd.R_lower ho0 (below_size (by repeat (first | (with_reducible first | exact HB.out | apply below_alloc | apply pw_below_drewN | apply below_drew1) | exact HB.out)))); have n1_ := Aside0.mk (below_step (by repeat (first | (with_reducible first | exact HB.out | apply below_alloc | apply pw_below_drewN | apply below_drew1) | exact HB.out)) hb); clear HB; have HO146 := n0_; have HB := n1_; clear n0_ n1_; (try clear hb); (try clear hb2); (try clear hk); (try clear hi); (try clear ho0)) | ((with_reducible refine gate_callee (f := 17) rfl ?_); refine goesL_ (some 51) rfl rfl Try.func17 (by kernel_rfl) rfl #[.slice none 0 0, .slice A0 l0.length c0] rfl (by (try simp only [List.map_toArray, List.map_cons, List.map_nil]); first | done | rfl | (simp only [List.length_drop, List.length_take]; rfl)) ?_; (refine (files_Lay.calls _ _ ([] : List (S33)) _ _ l0 t147 t148 _ ?side1 ?side2 ?side3 ?side4 A20.out).mono ?_); (case side1 => exact Kd.C_nil _ _); (case side2 => exact Nat.le_refl _); (case side3 => repeat (first | exact (Kd.C_below HR0.out HB.out) | (with_reducible refine Kd.C_alloc ?_ _) | (with_reducible refine Kd.C_drewN ?_ _) | (with_reducible refine Kd.C_drew ?_))); (case side4 => exact HC0.out); rintro e w43 ⟨v149, rfl, ho0, hb⟩; refine ⟨_, rfl, ?_⟩; have n0_ := Aside0.mk (Kd.R_elder' (by (with_reducible repeat (first | apply Kd.R_alloc | apply Kd.R_drewN | apply Kd.R_drew)); exact HO146.out) (Kd.R_base ho0) hb); have n1_ := Aside0.mk (Kd.R_lower (Kd.R_new' ho0 (Kd.R_lt (by (with_reducible repeat (first | apply Kd.R_alloc | apply Kd.R_drewN | apply Kd.R_drew)); exact HO146.out))) (below_size (by repeat (first | (with_reducible first | exact HB.out | apply below_alloc | apply pw_below_drewN | apply below_drew1) | exact HB.out)))); have n2_ := Aside0.mk (below_step (by repeat (first | (with_reducible first | exact HB.out | apply below_alloc | apply pw_below_drewN | apply below_drew1) | exact HB.out)) hb); clear HO146; clear HB; have HO146 := n0_; have HO150 := n1_; have HB := n2_; clear n0_ n1_ n2_; (try clear hb); (try clear hb2); (try clear hk); (try clear hi); (try clear ho0)) | ((with_reducible refine gate_callee (f := 17) rfl ?_); refine goesL_ (some 57) rfl rfl Try.func17 (by kernel_rfl) rfl #[.slice A0 l0.length c0, .slice A0 l0.length c0] rfl (by (try simp only [List.map_toArray, List.map_cons, List.map_nil]); first | done | rfl | (simp only [List.length_drop, List.length_take]; rfl)) ?_; (with_reducible refine (files_Lay.calls _ _ l0 _ _ l0 t151 t152 _ ?side1 ?side2 ?side3 ?side4 A21.out).mono ?_); (case side1 => repeat (first | exact (Kd.C_below HR0.out HB.out) | (with_reducible refine Kd.C_alloc ?_ _) | (with_reducible refine Kd.C_drewN ?_ _) | (with_reducible refine Kd.C_drew ?_))); (case side2 => exact HC0.out); (case side3 => repeat (first | exact (Kd.C_below HR0.out HB.out) | (with_reducible refine Kd.C_alloc ?_ _) | (with_reducible refine Kd.C_drewN ?_ _) | (with_reducible refine Kd.C_drew ?_))); (case side4 => exact HC0.out); rintro e w44 ⟨v153, rfl, ho0, hb⟩; refine ⟨_, rfl, ?_⟩; have n0_ := Aside0.mk (Kd.R_elder' (by (with_reducible repeat (first | apply Kd.R_alloc | apply Kd.R_drewN | apply Kd.R_drew)); exact HO146.out) (Kd.R_base ho0) hb); have n1_ := Aside0.mk (Kd.R_elder' (by (with_reducible repeat (first | apply Kd.R_alloc | apply Kd.R_drewN | apply Kd.R_drew)); exact HO150.out) (Kd.R_base ho0) hb); have n2_ := Aside0.mk (Kd.R_lower (Kd.R_new' (Kd.R_new' ho0 (Kd.R_lt (by (with_reducible repeat (first | apply Kd.R_alloc | apply Kd.R_drewN | apply Kd.R_drew)); exact HO146.out))) (Kd.R_lt (by (with_reducible repeat (first | apply Kd.R_alloc | apply Kd.R_drewN | apply Kd.R_drew)); exact HO150.out))) (below_size (by repeat (first | (with_reducible first | exact HB.out | apply below_alloc | apply pw_below_drewN | apply below_drew1) | exact HB.out)))); have n3_ := Aside0.mk (below_step (by repeat (first | (with_reducible first | exact HB.out | apply below_alloc | apply pw_below_drewN | apply below_drew1) | exact HB.out)) hb); clear HO146; clear HO150; clear HB; have HO146 := n0_; have HO150 := n1_; have HO154 := n2_; have HB := n3_; clear n0_ n1_ n2_ n3_; (try clear hb); (try clear hb2); (try clear hk); (try clear hi); (try clear ho0); obtain ⟨Ao45, co45, eo45⟩ := Kd.R_slice HO146.out; subst eo45) | (go_at_call 18; (with_reducible refine (files_Same.calls k _ _ t143 _ _ l0 true _ ?side1 ?side2 ?side3 ?side4 A25.out).mono ?_); (case side1 => repeat (first | exact (Kd.R_reads' HO146.out).2.2 | (with_reducible refine Kd.C_alloc ?_ _) | (with_reducible refine Kd.C_drewN ?_ _) | (with_reducible refine Kd.C_drew ?_))); (case side2 => exact (Kd.R_reads' HO146.out).2.1); (case side3 => repeat (first | exact (Kd.C_below HR0.out HB.out) | (with_reducible refine Kd.C_alloc ?_ _) | (with_reducible refine Kd.C_drewN ?_ _) | (with_reducible refine Kd.C_drew ?_))); (case side4 => exact HC0.out); rintro e w' ⟨rfl, ⟨nd, rfl⟩⟩; obtain ⟨Ao46, co46, eo46⟩ := Kd.R_slice HO150.out; subst eo46) | (go_at_call 18; (with_reducible refine (files_Same.calls k _ _ t147 _ _ l0 true _ ?side1 ?side2 ?side3 ?side4 A27.out).mono ?_); (case side1 => repeat (first | exact (Kd.R_reads' HO150.out).2.2 | (with_reducible refine Kd.C_alloc ?_ _) | (with_reducible refine Kd.C_drewN ?_ _) | (with_reducible refine Kd.C_drew ?_))); (case side2 => exact (Kd.R_reads' HO150.out).2.1); (case side3 => repeat (first | exact (Kd.C_below HR0.out (by repeat (first | (with_reducible first | exact HB.out | apply below_alloc | apply pw_below_drewN | apply below_drew1) | exact HB.out))) | (with_reducible refine Kd.C_alloc ?_ _) | (with_reducible refine Kd.C_drewN ?_ _) | (with_reducible refine Kd.C_drew ?_))); (case side4 => exact HC0.out); rintro e w' ⟨rfl, ⟨nd, rfl⟩⟩; obtain ⟨Ao47, co47, eo47⟩ := Kd.R_slice HO154.out; subst eo47) | (go_at_call 18; (with_reducible refine (files_Same.calls k _ _ t151 _ _ l0 true _ ?side1 ?side2 ?side3 ?side4 A29.out).mono ?_); (case side1 => repeat (first | exact (Kd.R_reads' HO154.out).2.2 | (with_reducible refine Kd.C_alloc ?_ _) | (with_reducible refine Kd.C_drewN ?_ _) | (with_reducible refine Kd.C_drew ?_))); (case side2 => exact (Kd.R_reads' HO154.out).2.1); (case side3 => repeat (first | exact (Kd.C_below HR0.out (by repeat (first | (with_reducible first | exact HB.out | apply below_alloc | apply pw_below_drewN | apply below_drew1) | exact HB.out))) | (with_reducible refine Kd.C_alloc ?_ _) | (with_reducible refine Kd.C_drewN ?_ _) | (with_reducible refine Kd.C_drew ?_))); (case side4 => exact HC0.out); rintro e w' ⟨rfl, ⟨nd, rfl⟩⟩) | ((with_reducible refine gate_callee (f := 17) rfl ?_); refine goesL_ (some 91) rfl rfl Try.func17 (by kernel_rfl) rfl #[.slice A0 l0.length c0, .slice A1 l1.length c1] rfl (by (try simp only [List.map_toArray, List.map_cons, List.map_nil]); first | done | rfl | (simp only [List.length_drop, List.length_take]; rfl)) ?_; (with_reducible refine (files_Lay.calls _ _ l0 _ _ l1 t158 t159 _ ?side1 ?side2 ?side3 ?side4 A31.out).mono ?_); (case side1 => repeat (first | exact (Kd.C_below HR0.out (by repeat (first | (with_reducible first | exact HB.out | apply below_alloc | apply pw_below_drewN | apply below_drew1) | exact HB.out))) | (with_reducible refine Kd.C_alloc ?_ _) | (with_reducible refine Kd.C_drewN ?_ _) | (with_reducible refine Kd.C_drew ?_))); (case side2 => exact HC0.out); (case side3 => repeat (first | exact (Kd.C_below HR1.out (by repeat (first | (with_reducible first | exact HB.out | apply below_alloc | apply pw_below_drewN | apply below_drew1) | exact HB.out))) | (with_reducible refine Kd.C_alloc ?_ _) | (with_reducible refine Kd.C_drewN ?_ _) | (with_reducible refine Kd.C_drew ?_))); (case side4 => exact HC1.out); rintro e w48 ⟨v160, rfl, ho0, hb⟩; refine ⟨_, rfl, ?_⟩; have n0_ := Aside0.mk (Kd.R_elder' (by (with_reducible repeat (first | apply Kd.R_alloc | apply Kd.R_drewN | apply Kd.R_drew)); exact HO146.out) (Kd.R_base ho0) hb); have n1_ := Aside0.mk (Kd.R_elder' (by (with_reducible repeat (first | apply Kd.R_alloc | apply Kd.R_drewN | apply Kd.R_drew)); exact HO150.out) (Kd.R_base ho0) hb); have n2_ := Aside0.mk (Kd.R_elder' (by (with_reducible repeat (first | apply Kd.R_alloc | apply Kd.R_drewN | apply Kd.R_drew)); exact HO154.out) (Kd.R_base ho0) hb); have n3_ := Aside0.mk (Kd.R_lower (Kd.R_new' (Kd.R_new' (Kd.R_new' ho0 (Kd.R_lt (by (with_reducible repeat (first | apply Kd.R_alloc | apply Kd.R_drewN | apply Kd.R_drew)); exact HO146.out))) (Kd.R_lt (by (with_reducible repeat (first | apply Kd.R_alloc | apply Kd.R_drewN | apply Kd.R_drew)); exact HO150.out))) (Kd.R_lt (by (with_reducible repeat (first | apply Kd.R_alloc | apply Kd.R_drewN | apply Kd.R_drew)); exact HO154.out))) (below_size (by repeat (first | (with_reducible first | exact HB.out | apply below_alloc | apply pw_below_drewN | apply below_drew1) | exact HB.out)))); have n4_ := Aside0.mk (below_step (by repeat (first | (with_reducible first | exact HB.out | apply below_alloc | apply pw_below_drewN | apply below_drew1) | exact HB.out)) hb); clear HO146; clear HO150; clear HO154; clear HB; have HO146 := n0_; have HO150 := n1_; have HO154 := n2_; have HO161 := n3_; have HB := n4_; clear n0_ n1_ n2_ n3_ n4_; (try clear hb); (try clear hb2); (try clear hk); (try clear hi); (try clear ho0); obtain ⟨Ao49, co49, eo49⟩ := Kd.R_slice HO161.out; subst eo49) | ((with_reducible refine gate_callee (f := 17) rfl ?_); refine goesL_ (some 106) rfl rfl Try.func17 (by kernel_rfl) rfl #[.slice Ao49 t158.length co49, .slice A1 l1.length c1] rfl (by (try simp only [List.map_toArray, List.map_cons, List.map_nil]); first | done | rfl | (simp only [List.length_drop, List.length_take]; rfl)) ?_; (with_reducible refine (files_Lay.calls _ _ t158 _ _ l1 t162 t163 _ ?side1 ?side2 ?side3 ?side4 A33.out).mono ?_); (case side1 => repeat (first | exact (Kd.R_reads' HO161.out).2.2 | (with_reducible refine Kd.C_alloc ?_ _) | (with_reducible refine Kd.C_drewN ?_ _) | (with_reducible refine Kd.C_drew ?_))); (case side2 => exact (Kd.R_reads' HO161.out).2.1); (case side3 => repeat (first | exact (Kd.C_below HR1.out HB.out) | (with_reducible refine Kd.C_alloc ?_ _) | (with_reducible refine Kd.C_drewN ?_ _) | (with_reducible refine Kd.C_drew ?_))); (case side4 => exact HC1.out); rintro e w50 ⟨v164, rfl, ho0, hb⟩; refine ⟨_, rfl, ?_⟩; have n0_ := Aside0.mk (Kd.R_elder' (by (with_reducible repeat (first | apply Kd.R_alloc | apply Kd.R_drewN | apply Kd.R_drew)); exact HO146.out) (Kd.R_base ho0) hb); have n1_ := Aside0.mk (Kd.R_elder' (by (with_reducible repeat (first | apply Kd.R_alloc | apply Kd.R_drewN | apply Kd.R_drew)); exact HO150.out) (Kd.R_base ho0) hb); have n2_ := Aside0.mk (Kd.R_elder' (by (with_reducible repeat (first | apply Kd.R_alloc | apply Kd.R_drewN | apply Kd.R_drew)); exact HO154.out) (Kd.R_base ho0) hb); have n3_ := Aside0.mk (Kd.R_elder' (by (with_reducible repeat (first | apply Kd.R_alloc | apply Kd.R_drewN | apply Kd.R_drew)); exact HO161.out) (Kd.R_base ho0) hb); have n4_ := Aside0.mk (Kd.R_lower (Kd.R_new' (Kd.R_new' (Kd.R_new' (Kd.R_new' ho0 (Kd.R_lt (by (with_reducible repeat (first | apply Kd.R_alloc | apply Kd.R_drewN | apply Kd.R_drew)); exact HO146.out))) (Kd.R_lt (by (with_reducible repeat (first | apply Kd.R_alloc | apply Kd.R_drewN | apply Kd.R_drew)); exact HO150.out))) (Kd.R_lt (by (with_reducible repeat (first | apply Kd.R_alloc | apply Kd.R_drewN | apply Kd.R_drew)); exact HO154.out))) (Kd.R_lt (by (with_reducible repeat (first | apply Kd.R_alloc | apply Kd.R_drewN | apply Kd.R_drew)); exact HO161.out))) (below_size (by repeat (first | (with_reducible first | exact HB.out | apply below_alloc | apply pw_below_drewN | apply below_drew1) | exact HB.out)))); have n5_ := Aside0.mk (below_step (by repeat (first | (with_reducible first | exact HB.out | apply below_alloc | apply pw_below_drewN | apply below_drew1) | exact HB.out)) hb); clear HO146; clear HO150; clear HO154; clear HO161; clear HB; have HO146 := n0_; have HO150 := n1_; have HO154 := n2_; have HO161 := n3_; have HO165 := n4_; have HB := n5_; clear n0_ n1_ n2_ n3_ n4_ n5_; (try clear hb); (try clear hb2); (try clear hk); (try clear hi); (try clear ho0); obtain ⟨Ao51, co51, eo51⟩ := Kd.R_slice HO165.out; subst eo51) | (go_at_call 18; (with_reducible refine (files_Same.calls k _ _ t162 _ _ t158 true _ ?side1 ?side2 ?side3 ?side4 A35.out).mono ?_); (case side1 => repeat (first | exact (Kd.R_reads' HO165.out).2.2 | (with_reducible refine Kd.C_alloc ?_ _) | (with_reducible refine Kd.C_drewN ?_ _) | (with_reducible refine Kd.C_drew ?_))); (case side2 => exact (Kd.R_reads' HO165.out).2.1); (case side3 => repeat (first | exact (Kd.R_reads' HO161.out).2.2 | (with_reducible refine Kd.C_alloc ?_ _) | (with_reducible refine Kd.C_drewN ?_ _) | (with_reducible refine Kd.C_drew ?_))); (case side4 => exact (Kd.R_reads' HO161.out).2.1); rintro e w' ⟨rfl, ⟨nd, rfl⟩⟩) | (go_at_call 16; (with_reducible refine (files_Check.calls _ _ t158 t167 _ ?side1 ?side2 A37.out).mono ?_); (case side1 => repeat (first | exact (Kd.R_reads' HO161.out).2.2 | (with_reducible refine Kd.C_alloc ?_ _) | (with_reducible refine Kd.C_drewN ?_ _) | (with_reducible refine Kd.C_drew ?_))); (case side2 => exact (Kd.R_reads' HO161.out).2.1); rintro e w52 ⟨rfl, hb⟩; have n0_ := Aside0.mk (Kd.R_below (by (with_reducible repeat (first | apply Kd.R_alloc | apply Kd.R_drewN | apply Kd.R_drew)); exact HO146.out) hb); have n1_ := Aside0.mk (Kd.R_below (by (with_reducible repeat (first | apply Kd.R_alloc | apply Kd.R_drewN | apply Kd.R_drew)); exact HO150.out) hb); have n2_ := Aside0.mk (Kd.R_below (by (with_reducible repeat (first | apply Kd.R_alloc | apply Kd.R_drewN | apply Kd.R_drew)); exact HO154.out) hb); have n3_ := Aside0.mk (Kd.R_below (by (with_reducible repeat (first | apply Kd.R_alloc | apply Kd.R_drewN | apply Kd.R_drew)); exact HO161.out) hb); have n4_ := Aside0.mk (Kd.R_below (by (with_reducible repeat (first | apply Kd.R_alloc | apply Kd.R_drewN | apply Kd.R_drew)); exact HO165.out) hb); have n5_ := Aside0.mk (below_step (by repeat (first | (with_reducible first | exact HB.out | apply below_alloc | apply pw_below_drewN | apply below_drew1) | exact HB.out)) hb); clear HO146; clear HO150; clear HO154; clear HO161; clear HO165; clear HB; have HO146 := n0_; have HO150 := n1_; have HO154 := n2_; have HO161 := n3_; have HO165 := n4_; have HB := n5_; clear n0_ n1_ n2_ n3_ n4_ n5_; (try clear hb); (try clear hb2); (try clear hk); (try clear hi)))
                                go_loopg [15] k (fun kq v15 w' => ∃ (x15_1 : Int), v15 = .int .i64 x15_1 ∧ Aside0 (bastionlaw17_FilesLaid.l0 kq l0 l1 t158 x15_1 = some r) ∧ Aside0 (kq ≤ k) ∧ Aside0 (Kd.R k33 33 w' w.heap.size (fun _ => True) (.slice Ao49 t158.length co49) t158) ∧ Aside0 (Below w.heap.size w w'))
                                case atStart => exact ⟨(0), (by first | rfl | (simp; done) | (simp [*]; done)), H', ⟨Nat.le_refl _⟩, ⟨by (with_reducible repeat (first | apply Kd.R_alloc | apply Kd.R_drewN | apply Kd.R_drew)); exact Kd.R_mono HO161.out (fun _ hk => trivial)⟩, ⟨by repeat (first | (with_reducible first | exact HB.out | apply below_alloc | apply pw_below_drewN | apply below_drew1) | exact HB.out)⟩⟩
                                case round =>
                                  clear H'
                                  try clear c1
                                  try clear c2
                                  try clear p2
                                  try clear c3
                                  try clear c4
                                  try clear c6
                                  try clear c11
                                  try clear c14
                                  try clear c16
                                  try clear c16b0
                                  try clear c16b1
                                  try clear c17
                                  try clear c18
                                  try clear c18b0
                                  try clear c18b1
                                  try clear c22
                                  try clear c22b0
                                  try clear c22b1
                                  try clear c23
                                  try clear c23b0
                                  try clear c23b1
                                  try clear c24
                                  try clear c24b0
                                  try clear c24b1
                                  try clear c26
                                  try clear c28
                                  try clear c30
                                  try clear c32
                                  try clear c32b0
                                  try clear c32b1
                                  try clear c34
                                  try clear c34b0
                                  try clear c34b1
                                  try clear c36
                                  try clear c38
                                  try clear c38b0
                                  try clear c38b1
                                  obtain ⟨x15_1, rfl, HA, HK1, HO_11, HB⟩ := hrel
                                  cases gk with
                                  | zero => exact absurd HA.out (by simp [bastionlaw17_FilesLaid.l0])
                                  | succ k1 =>
                                    have H := HA.out
                                    clear HA
                                    simp only [bastionlaw17_FilesLaid.l0] at H
                                    by_cases c53 : x15_1 < (l1.length : Int)
                                    · rw [if_pos c53] at H
                                      have c53b0 : decide (x15_1 < (l1.length : Int)) = true := decide_eq_true c53
                                      clear c53
                                      by_cases c54 : 0 ≤ x15_1
                                      · rw [if_pos c54] at H
                                        have c54b0 : decide (0 ≤ x15_1) = true := decide_eq_true c54
                                        clear c54
                                        replace H := Option.bind_eq_some_iff.mp H
                                        obtain ⟨⟨t169, t170⟩, A550, H⟩ := H
                                        replace H : (if t170 = true then (if t169.toList = ((rd_T33 l1 x15_1).f1).toList then (bastionlaw17_FilesLaid.l0 k1 l0 l1 t158 (wrap64 (x15_1 + 1))) else (none)) else (none)) = some r := H
                                        have A55 := Aside0.mk A550
                                        clear A550
                                        by_cases c56 : t170 = true
                                        · subst c56
                                          have H1 : (if t169.toList = ((rd_T33 l1 x15_1).f1).toList then (bastionlaw17_FilesLaid.l0 k1 l0 l1 t158 (wrap64 (x15_1 + 1))) else (none)) = some r := by rw [if_pos rfl] at H; exact H
                                          clear H
                                          have H := H1
                                          clear H1
                                          by_cases c57 : t169.toList = ((rd_T33 l1 x15_1).f1).toList
                                          · rw [if_pos c57] at H
                                            have c57b0 : (t169.toList == ((rd_T33 l1 x15_1).f1).toList) = true := beq_iff_eq.mpr c57
                                            have c57b1 : (t169.toList != ((rd_T33 l1 x15_1).f1).toList) = false := bne_eq_false_iff_eq.mpr c57
                                            clear c57
                                            have H' := Aside0.mk H
                                            clear H
                                            have p168 : 0 ≤ (x15_1 : Int) := of_decide_eq_true (by first | (with_reducible assumption) | assumption)
                                            have q168 : x15_1 < (l1.length : Int) := of_decide_eq_true (by first | (with_reducible assumption) | assumption)
                                            obtain ⟨ad168, e168, hx168_0, hx168_1⟩ := at_T33 HR1.out x15_1 p168 q168
                                            cases e168
                                            replace hx168_0 := (HB.out.cell (World.block_lt_of_cell? w _ hx168_0)).trans hx168_0
                                            replace hx168_1 := (HB.out.cell (World.block_lt_of_cell? w _ hx168_1)).trans hx168_1
                                            replace p168 := eq_true p168
                                            replace q168 := eq_true q168
                                            go_wp2_with (first | ((with_reducible refine gate_callee (f := 19) rfl ?_); refine goesL_ (some 135) rfl rfl Try.func19 (by kernel_rfl) rfl #[.slice Ao49 t158.length co49, .string ((rd_T33 l1 x15_1).f0)] rfl (by (try simp only [List.map_toArray, List.map_cons, List.map_nil]); first | done | rfl | (simp only [List.length_drop, List.length_take]; rfl)) ?_; (with_reducible refine (files_Get.calls _ _ t158 ((rd_T33 l1 x15_1).f0) t169 true _ ?side1 ?side2 A55.out).mono ?_); (case side1 => repeat (first | exact (Kd.R_reads' HO_11.out).2.2 | (with_reducible refine Kd.C_alloc ?_ _) | (with_reducible refine Kd.C_drewN ?_ _) | (with_reducible refine Kd.C_drew ?_))); (case side2 => exact (Kd.R_reads' HO_11.out).2.1); rintro e w58 ⟨rfl, hb⟩; refine ⟨_, rfl, ?_⟩; have n0_ := Aside0.mk (Kd.R_below (by (with_reducible repeat (first | apply Kd.R_alloc | apply Kd.R_drewN | apply Kd.R_drew)); exact HO_11.out) hb); have n1_ := Aside0.mk (below_step (by repeat (first | (with_reducible first | exact HB.out | apply below_alloc | apply pw_below_drewN | apply below_drew1) | exact HB.out)) hb); clear HO_11; clear HB; have HO_11 := n0_; have HB := n1_; clear n0_ n1_; (try clear hb); (try clear hb2); (try clear hk); (try clear hi); have p171 : 0 ≤ (x15_1 : Int) := of_decide_eq_true (by first | (with_reducible assumption) | assumption); have q171 : x15_1 < (l1.length : Int) := of_decide_eq_true (by first | (with_reducible assumption) | assumption); obtain ⟨ad171, e171, hx171_0, hx171_1⟩ := at_T33 HR1.out x15_1 p171 q171; obtain rfl : ad168 = ad171 := (by injection e171); replace hx171_0 := (HB.out.cell (World.block_lt_of_cell? w _ hx171_0)).trans hx171_0; replace hx171_1 := (HB.out.cell (World.block_lt_of_cell? w _ hx171_1)).trans hx171_1; replace p171 := eq_true p171; replace q171 := eq_true q171))
                                            go_roundg k1
                                            case measure => have := HK1.out; omega
                                            case rel => exact ⟨(wrap64 (x15_1 + 1)), (by first | rfl | (simp; done) | (simp [*]; done)), H', ⟨by have := HK1.out; omega⟩, ⟨by (with_reducible repeat (first | apply Kd.R_alloc | apply Kd.R_drewN | apply Kd.R_drew)); exact HO_11.out⟩, ⟨by repeat (first | (with_reducible first | exact HB.out | apply below_alloc | apply pw_below_drewN | apply below_drew1) | exact HB.out)⟩⟩
                                          · rw [if_neg c57] at H
                                            exact absurd H (by simp)
                                        · replace c56 := Bool.eq_false_iff.mpr c56
                                          subst c56
                                          have H1 : (none) = some r := by rw [if_neg (show ¬ (false = true) by decide)] at H; exact H
                                          clear H
                                          have H := H1
                                          clear H1
                                          exact absurd H (by simp)
                                      · rw [if_neg c54] at H
                                        exact absurd H (by simp)
                                    · rw [if_neg c53] at H
                                      have c53b0 : decide (x15_1 < (l1.length : Int)) = false := decide_eq_false c53
                                      clear c53
                                      have H' := Aside0.mk H
                                      clear H
                                      go_wp2
                                      go_loopg [18] k1 (fun kq v18 w' => ∃ (x18_2 : Int), v18 = .int .i64 x18_2 ∧ Aside0 (bastionlaw17_FilesLaid.l1 kq l0 l1 t158 x18_2 = some r) ∧ Aside0 (kq ≤ k1) ∧ Aside0 (Kd.R k33 33 w' w.heap.size (fun _ => True) (.slice Ao49 t158.length co49) t158) ∧ Aside0 (Below w.heap.size w w'))
                                      case atStart => exact ⟨(0), (by first | rfl | (simp; done) | (simp [*]; done)), H', ⟨Nat.le_refl _⟩, ⟨by (with_reducible repeat (first | apply Kd.R_alloc | apply Kd.R_drewN | apply Kd.R_drew)); exact HO_11.out⟩, ⟨by repeat (first | (with_reducible first | exact HB.out | apply below_alloc | apply pw_below_drewN | apply below_drew1) | exact HB.out)⟩⟩
                                      case round =>
                                        clear H'
                                        try clear c1
                                        try clear p1
                                        try clear q1
                                        try clear hx1
                                        try clear c2
                                        try clear p2
                                        try clear c3
                                        try clear c4
                                        try clear c5
                                        try clear c6
                                        try clear p6
                                        try clear c11
                                        try clear c14
                                        try clear c16
                                        try clear c16b0
                                        try clear c16b1
                                        try clear p16
                                        try clear q16
                                        try clear hx16
                                        try clear c17
                                        try clear p17
                                        try clear q17
                                        try clear hx17
                                        try clear c18
                                        try clear c18b0
                                        try clear c18b1
                                        try clear c19
                                        try clear c22
                                        try clear c22b0
                                        try clear c22b1
                                        try clear c23
                                        try clear c23b0
                                        try clear c23b1
                                        try clear c24
                                        try clear c24b0
                                        try clear c24b1
                                        try clear c26
                                        try clear c28
                                        try clear c30
                                        try clear c32
                                        try clear c32b0
                                        try clear c32b1
                                        try clear c34
                                        try clear c34b0
                                        try clear c34b1
                                        try clear c36
                                        try clear c38
                                        try clear c38b0
                                        try clear c38b1
                                        try clear c53
                                        try clear c53b0
                                        try clear c54
                                        try clear c54b0
                                        try clear c56
                                        try clear c57
                                        try clear c57b0
                                        try clear c57b1
                                        try clear hx168_0
                                        try clear hx168_1
                                        try clear hx171_0
                                        try clear hx171_1
                                        try clear p168
                                        try clear p171
                                        try clear p2
                                        try clear q168
                                        try clear q171
                                        obtain ⟨x18_2, rfl, HA, HK2, HO_11, HB⟩ := hrel
                                        cases gk with
                                        | zero => exact absurd HA.out (by simp [bastionlaw17_FilesLaid.l1])
                                        | succ k2 =>
                                          have H := HA.out
                                          clear HA
                                          simp only [bastionlaw17_FilesLaid.l1] at H
                                          by_cases c59 : x18_2 < (t158.length : Int)
                                          · rw [if_pos c59] at H
                                            have c59b0 : decide (x18_2 < (t158.length : Int)) = true := decide_eq_true c59
                                            clear c59
                                            by_cases c60 : 0 ≤ x18_2
                                            · rw [if_pos c60] at H
                                              have c60b0 : decide (0 ≤ x18_2) = true := decide_eq_true c60
                                              clear c60
                                              replace H := Option.bind_eq_some_iff.mp H
                                              obtain ⟨⟨t173, t174⟩, A610, H⟩ := H
                                              replace H : ((files_Get.f l0 ((rd_T33 t158 x18_2).f0)).bind fun bt176 => (if t174 = true then (if (t173.toList = ((rd_T33 t158 x18_2).f1).toList) then (bastionlaw17_FilesLaid.l1 k2 l0 l1 t158 (wrap64 (x18_2 + 1))) else (if bt176.2 = true then (if (bt176.1.toList = ((rd_T33 t158 x18_2).f1).toList) then (bastionlaw17_FilesLaid.l1 k2 l0 l1 t158 (wrap64 (x18_2 + 1))) else (none)) else (none))) else (if bt176.2 = true then (if (bt176.1.toList = ((rd_T33 t158 x18_2).f1).toList) then (bastionlaw17_FilesLaid.l1 k2 l0 l1 t158 (wrap64 (x18_2 + 1))) else (none)) else (none)))) = some r := H
                                              have A61 := Aside0.mk A610
                                              clear A610
                                              replace H := Option.bind_eq_some_iff.mp H
                                              obtain ⟨⟨t176, t177⟩, A620, H⟩ := H
                                              replace H : (if t174 = true then (if (t173.toList = ((rd_T33 t158 x18_2).f1).toList) then (bastionlaw17_FilesLaid.l1 k2 l0 l1 t158 (wrap64 (x18_2 + 1))) else (if t177 = true then (if (t176.toList = ((rd_T33 t158 x18_2).f1).toList) then (bastionlaw17_FilesLaid.l1 k2 l0 l1 t158 (wrap64 (x18_2 + 1))) else (none)) else (none))) else (if t177 = true then (if (t176.toList = ((rd_T33 t158 x18_2).f1).toList) then (bastionlaw17_FilesLaid.l1 k2 l0 l1 t158 (wrap64 (x18_2 + 1))) else (none)) else (none))) = some r := H
                                              have A62 := Aside0.mk A620
                                              clear A620
                                              by_cases c63 : t174 = true
                                              · subst c63
                                                have H1 : (if (t173.toList = ((rd_T33 t158 x18_2).f1).toList) then (bastionlaw17_FilesLaid.l1 k2 l0 l1 t158 (wrap64 (x18_2 + 1))) else (if t177 = true then (if (t176.toList = ((rd_T33 t158 x18_2).f1).toList) then (bastionlaw17_FilesLaid.l1 k2 l0 l1 t158 (wrap64 (x18_2 + 1))) else (none)) else (none))) = some r := by rw [if_pos rfl] at H; exact H
                                                clear H
                                                have H := H1
                                                clear H1
                                                by_cases c64 : (t173.toList = ((rd_T33 t158 x18_2).f1).toList)
                                                · rw [if_pos c64] at H
                                                  have c64b0 : (t173.toList == ((rd_T33 t158 x18_2).f1).toList) = true := beq_iff_eq.mpr c64
                                                  have c64b1 : (t173.toList != ((rd_T33 t158 x18_2).f1).toList) = false := bne_eq_false_iff_eq.mpr c64
                                                  clear c64
                                                  have H' := Aside0.mk H
                                                  clear H
                                                  have p172 : 0 ≤ (x18_2 : Int) := of_decide_eq_true (by first | (with_reducible assumption) | assumption)
                                                  have q172 : x18_2 < (t158.length : Int) := of_decide_eq_true (by first | (with_reducible assumption) | assumption)
                                                  obtain ⟨ad172, e172, hx172_0, hx172_1⟩ := at_T33 (Kd.R_reads' HO_11.out).2.2 x18_2 p172 q172
                                                  cases e172
                                                  replace p172 := eq_true p172
                                                  replace q172 := eq_true q172
                                                  go_wp2_with (first | ((with_reducible refine gate_callee (f := 19) rfl ?_); refine goesL_ (some 162) rfl rfl Try.func19 (by kernel_rfl) rfl #[.slice A1 l1.length c1, .string ((rd_T33 t158 x18_2).f0)] rfl (by (try simp only [List.map_toArray, List.map_cons, List.map_nil]); first | done | rfl | (simp only [List.length_drop, List.length_take]; rfl)) ?_; (with_reducible refine (files_Get.calls _ _ l1 ((rd_T33 t158 x18_2).f0) t173 true _ ?side1 ?side2 A61.out).mono ?_); (case side1 => repeat (first | exact (Kd.C_below HR1.out HB.out) | (with_reducible refine Kd.C_alloc ?_ _) | (with_reducible refine Kd.C_drewN ?_ _) | (with_reducible refine Kd.C_drew ?_))); (case side2 => exact HC1.out); rintro e w65 ⟨rfl, hb⟩; refine ⟨_, rfl, ?_⟩; have n0_ := Aside0.mk (Kd.R_below (by (with_reducible repeat (first | apply Kd.R_alloc | apply Kd.R_drewN | apply Kd.R_drew)); exact HO_11.out) hb); have n1_ := Aside0.mk (below_step (by repeat (first | (with_reducible first | exact HB.out | apply below_alloc | apply pw_below_drewN | apply below_drew1) | exact HB.out)) hb); clear HO_11; clear HB; have HO_11 := n0_; have HB := n1_; clear n0_ n1_; (try clear hb); (try clear hb2); (try clear hk); (try clear hi); have p175 : 0 ≤ (x18_2 : Int) := of_decide_eq_true (by first | (with_reducible assumption) | assumption); have q175 : x18_2 < (t158.length : Int) := of_decide_eq_true (by first | (with_reducible assumption) | assumption); obtain ⟨ad175, e175, hx175_0, hx175_1⟩ := at_T33 (Kd.R_reads' HO_11.out).2.2 x18_2 p175 q175; obtain rfl : ad172 = ad175 := (by injection e175); replace p175 := eq_true p175; replace q175 := eq_true q175) | ((with_reducible refine gate_callee (f := 19) rfl ?_); refine goesL_ (some 172) rfl rfl Try.func19 (by kernel_rfl) rfl #[.slice A0 l0.length c0, .string ((rd_T33 t158 x18_2).f0)] rfl (by (try simp only [List.map_toArray, List.map_cons, List.map_nil]); first | done | rfl | (simp only [List.length_drop, List.length_take]; rfl)) ?_; (with_reducible refine (files_Get.calls _ _ l0 ((rd_T33 t158 x18_2).f0) t176 t177 _ ?side1 ?side2 A62.out).mono ?_); (case side1 => repeat (first | exact (Kd.C_below HR0.out HB.out) | (with_reducible refine Kd.C_alloc ?_ _) | (with_reducible refine Kd.C_drewN ?_ _) | (with_reducible refine Kd.C_drew ?_))); (case side2 => exact HC0.out); rintro e w66 ⟨rfl, hb⟩; refine ⟨_, rfl, ?_⟩; have n0_ := Aside0.mk (Kd.R_below (by (with_reducible repeat (first | apply Kd.R_alloc | apply Kd.R_drewN | apply Kd.R_drew)); exact HO_11.out) hb); have n1_ := Aside0.mk (below_step (by repeat (first | (with_reducible first | exact HB.out | apply below_alloc | apply pw_below_drewN | apply below_drew1) | exact HB.out)) hb); clear HO_11; clear HB; have HO_11 := n0_; have HB := n1_; clear n0_ n1_; (try clear hb); (try clear hb2); (try clear hk); (try clear hi); have p178 : 0 ≤ (x18_2 : Int) := of_decide_eq_true (by first | (with_reducible assumption) | assumption); have q178 : x18_2 < (t158.length : Int) := of_decide_eq_true (by first | (with_reducible assumption) | assumption); obtain ⟨ad178, e178, hx178_0, hx178_1⟩ := at_T33 (Kd.R_reads' HO_11.out).2.2 x18_2 p178 q178; obtain rfl : ad172 = ad178 := (by injection e178); replace p178 := eq_true p178; replace q178 := eq_true q178))
                                                  go_roundg k2
                                                  case measure => have := HK1.out; have := HK2.out; omega
                                                  case rel => exact ⟨(wrap64 (x18_2 + 1)), (by first | rfl | (simp; done) | (simp [*]; done)), H', ⟨by have := HK1.out; have := HK2.out; omega⟩, ⟨by (with_reducible repeat (first | apply Kd.R_alloc | apply Kd.R_drewN | apply Kd.R_drew)); exact HO_11.out⟩, ⟨by repeat (first | (with_reducible first | exact HB.out | apply below_alloc | apply pw_below_drewN | apply below_drew1) | exact HB.out)⟩⟩
                                                · rw [if_neg c64] at H
                                                  have c64b0 : (t173.toList == ((rd_T33 t158 x18_2).f1).toList) = false := beq_eq_false_iff_ne.mpr c64
                                                  have c64b1 : (t173.toList != ((rd_T33 t158 x18_2).f1).toList) = true := bne_iff_ne.mpr c64
                                                  by_cases c67 : t177 = true
                                                  · subst c67
                                                    have H1 : (if (t176.toList = ((rd_T33 t158 x18_2).f1).toList) then (bastionlaw17_FilesLaid.l1 k2 l0 l1 t158 (wrap64 (x18_2 + 1))) else (none)) = some r := by rw [if_pos rfl] at H; exact H
                                                    clear H
                                                    have H := H1
                                                    clear H1
                                                    by_cases c68 : (t176.toList = ((rd_T33 t158 x18_2).f1).toList)
                                                    · rw [if_pos c68] at H
                                                      have c68b0 : (t176.toList == ((rd_T33 t158 x18_2).f1).toList) = true := beq_iff_eq.mpr c68
                                                      have c68b1 : (t176.toList != ((rd_T33 t158 x18_2).f1).toList) = false := bne_eq_false_iff_eq.mpr c68
                                                      clear c68
                                                      have H' := Aside0.mk H
                                                      clear H
                                                      have p172 : 0 ≤ (x18_2 : Int) := of_decide_eq_true (by first | (with_reducible assumption) | assumption)
                                                      have q172 : x18_2 < (t158.length : Int) := of_decide_eq_true (by first | (with_reducible assumption) | assumption)
                                                      obtain ⟨ad172, e172, hx172_0, hx172_1⟩ := at_T33 (Kd.R_reads' HO_11.out).2.2 x18_2 p172 q172
                                                      cases e172
                                                      replace p172 := eq_true p172
                                                      replace q172 := eq_true q172
                                                      go_wp2_with (first | ((with_reducible refine gate_callee (f := 19) rfl ?_); refine goesL_ (some 162) rfl rfl Try.func19 (by kernel_rfl) rfl #[.slice A1 l1.length c1, .string ((rd_T33 t158 x18_2).f0)] rfl (by (try simp only [List.map_toArray, List.map_cons, List.map_nil]); first | done | rfl | (simp only [List.length_drop, List.length_take]; rfl)) ?_; (with_reducible refine (files_Get.calls _ _ l1 ((rd_T33 t158 x18_2).f0) t173 true _ ?side1 ?side2 A61.out).mono ?_); (case side1 => repeat (first | exact (Kd.C_below HR1.out HB.out) | (with_reducible refine Kd.C_alloc ?_ _) | (with_reducible refine Kd.C_drewN ?_ _) | (with_reducible refine Kd.C_drew ?_))); (case side2 => exact HC1.out); rintro e w69 ⟨rfl, hb⟩; refine ⟨_, rfl, ?_⟩; have n0_ := Aside0.mk (Kd.R_below (by (with_reducible repeat (first | apply Kd.R_alloc | apply Kd.R_drewN | apply Kd.R_drew)); exact HO_11.out) hb); have n1_ := Aside0.mk (below_step (by repeat (first | (with_reducible first | exact HB.out | apply below_alloc | apply pw_below_drewN | apply below_drew1) | exact HB.out)) hb); clear HO_11; clear HB; have HO_11 := n0_; have HB := n1_; clear n0_ n1_; (try clear hb); (try clear hb2); (try clear hk); (try clear hi); have p175 : 0 ≤ (x18_2 : Int) := of_decide_eq_true (by first | (with_reducible assumption) | assumption); have q175 : x18_2 < (t158.length : Int) := of_decide_eq_true (by first | (with_reducible assumption) | assumption); obtain ⟨ad175, e175, hx175_0, hx175_1⟩ := at_T33 (Kd.R_reads' HO_11.out).2.2 x18_2 p175 q175; obtain rfl : ad172 = ad175 := (by injection e175); replace p175 := eq_true p175; replace q175 := eq_true q175) | ((with_reducible refine gate_callee (f := 19) rfl ?_); refine goesL_ (some 172) rfl rfl Try.func19 (by kernel_rfl) rfl #[.slice A0 l0.length c0, .string ((rd_T33 t158 x18_2).f0)] rfl (by (try simp only [List.map_toArray, List.map_cons, List.map_nil]); first | done | rfl | (simp only [List.length_drop, List.length_take]; rfl)) ?_; (with_reducible refine (files_Get.calls _ _ l0 ((rd_T33 t158 x18_2).f0) t176 true _ ?side1 ?side2 A62.out).mono ?_); (case side1 => repeat (first | exact (Kd.C_below HR0.out HB.out) | (with_reducible refine Kd.C_alloc ?_ _) | (with_reducible refine Kd.C_drewN ?_ _) | (with_reducible refine Kd.C_drew ?_))); (case side2 => exact HC0.out); rintro e w70 ⟨rfl, hb⟩; refine ⟨_, rfl, ?_⟩; have n0_ := Aside0.mk (Kd.R_below (by (with_reducible repeat (first | apply Kd.R_alloc | apply Kd.R_drewN | apply Kd.R_drew)); exact HO_11.out) hb); have n1_ := Aside0.mk (below_step (by repeat (first | (with_reducible first | exact HB.out | apply below_alloc | apply pw_below_drewN | apply below_drew1) | exact HB.out)) hb); clear HO_11; clear HB; have HO_11 := n0_; have HB := n1_; clear n0_ n1_; (try clear hb); (try clear hb2); (try clear hk); (try clear hi); have p178 : 0 ≤ (x18_2 : Int) := of_decide_eq_true (by first | (with_reducible assumption) | assumption); have q178 : x18_2 < (t158.length : Int) := of_decide_eq_true (by first | (with_reducible assumption) | assumption); obtain ⟨ad178, e178, hx178_0, hx178_1⟩ := at_T33 (Kd.R_reads' HO_11.out).2.2 x18_2 p178 q178; obtain rfl : ad172 = ad178 := (by injection e178); replace p178 := eq_true p178; replace q178 := eq_true q178; have p179 : 0 ≤ (x18_2 : Int) := of_decide_eq_true (by first | (with_reducible assumption) | assumption); have q179 : x18_2 < (t158.length : Int) := of_decide_eq_true (by first | (with_reducible assumption) | assumption); obtain ⟨ad179, e179, hx179_0, hx179_1⟩ := at_T33 (Kd.R_reads' HO_11.out).2.2 x18_2 p179 q179; obtain rfl : ad172 = ad179 := (by injection e179); replace p179 := eq_true p179; replace q179 := eq_true q179))
                                                      go_roundg k2
                                                      case measure => have := HK1.out; have := HK2.out; omega
                                                      case rel => exact ⟨(wrap64 (x18_2 + 1)), (by first | rfl | (simp; done) | (simp [*]; done)), H', ⟨by have := HK1.out; have := HK2.out; omega⟩, ⟨by (with_reducible repeat (first | apply Kd.R_alloc | apply Kd.R_drewN | apply Kd.R_drew)); exact HO_11.out⟩, ⟨by repeat (first | (with_reducible first | exact HB.out | apply below_alloc | apply pw_below_drewN | apply below_drew1) | exact HB.out)⟩⟩
                                                    · rw [if_neg c68] at H
                                                      exact absurd H (by simp)
                                                  · replace c67 := Bool.eq_false_iff.mpr c67
                                                    subst c67
                                                    have H1 : (none) = some r := by rw [if_neg (show ¬ (false = true) by decide)] at H; exact H
                                                    clear H
                                                    have H := H1
                                                    clear H1
                                                    exact absurd H (by simp)
                                              · replace c63 := Bool.eq_false_iff.mpr c63
                                                subst c63
                                                have H1 : (if t177 = true then (if (t176.toList = ((rd_T33 t158 x18_2).f1).toList) then (bastionlaw17_FilesLaid.l1 k2 l0 l1 t158 (wrap64 (x18_2 + 1))) else (none)) else (none)) = some r := by rw [if_neg (show ¬ (false = true) by decide)] at H; exact H
                                                clear H
                                                have H := H1
                                                clear H1
                                                by_cases c71 : t177 = true
                                                · subst c71
                                                  have H1 : (if (t176.toList = ((rd_T33 t158 x18_2).f1).toList) then (bastionlaw17_FilesLaid.l1 k2 l0 l1 t158 (wrap64 (x18_2 + 1))) else (none)) = some r := by rw [if_pos rfl] at H; exact H
                                                  clear H
                                                  have H := H1
                                                  clear H1
                                                  by_cases c72 : (t176.toList = ((rd_T33 t158 x18_2).f1).toList)
                                                  · rw [if_pos c72] at H
                                                    have c72b0 : (t176.toList == ((rd_T33 t158 x18_2).f1).toList) = true := beq_iff_eq.mpr c72
                                                    have c72b1 : (t176.toList != ((rd_T33 t158 x18_2).f1).toList) = false := bne_eq_false_iff_eq.mpr c72
                                                    clear c72
                                                    have H' := Aside0.mk H
                                                    clear H
                                                    have p172 : 0 ≤ (x18_2 : Int) := of_decide_eq_true (by first | (with_reducible assumption) | assumption)
                                                    have q172 : x18_2 < (t158.length : Int) := of_decide_eq_true (by first | (with_reducible assumption) | assumption)
                                                    obtain ⟨ad172, e172, hx172_0, hx172_1⟩ := at_T33 (Kd.R_reads' HO_11.out).2.2 x18_2 p172 q172
                                                    cases e172
                                                    replace p172 := eq_true p172
                                                    replace q172 := eq_true q172
                                                    go_wp2_with (first | ((with_reducible refine gate_callee (f := 19) rfl ?_); refine goesL_ (some 162) rfl rfl Try.func19 (by kernel_rfl) rfl #[.slice A1 l1.length c1, .string ((rd_T33 t158 x18_2).f0)] rfl (by (try simp only [List.map_toArray, List.map_cons, List.map_nil]); first | done | rfl | (simp only [List.length_drop, List.length_take]; rfl)) ?_; (with_reducible refine (files_Get.calls _ _ l1 ((rd_T33 t158 x18_2).f0) t173 false _ ?side1 ?side2 A61.out).mono ?_); (case side1 => repeat (first | exact (Kd.C_below HR1.out HB.out) | (with_reducible refine Kd.C_alloc ?_ _) | (with_reducible refine Kd.C_drewN ?_ _) | (with_reducible refine Kd.C_drew ?_))); (case side2 => exact HC1.out); rintro e w73 ⟨rfl, hb⟩; refine ⟨_, rfl, ?_⟩; have n0_ := Aside0.mk (Kd.R_below (by (with_reducible repeat (first | apply Kd.R_alloc | apply Kd.R_drewN | apply Kd.R_drew)); exact HO_11.out) hb); have n1_ := Aside0.mk (below_step (by repeat (first | (with_reducible first | exact HB.out | apply below_alloc | apply pw_below_drewN | apply below_drew1) | exact HB.out)) hb); clear HO_11; clear HB; have HO_11 := n0_; have HB := n1_; clear n0_ n1_; (try clear hb); (try clear hb2); (try clear hk); (try clear hi); have p175 : 0 ≤ (x18_2 : Int) := of_decide_eq_true (by first | (with_reducible assumption) | assumption); have q175 : x18_2 < (t158.length : Int) := of_decide_eq_true (by first | (with_reducible assumption) | assumption); obtain ⟨ad175, e175, hx175_0, hx175_1⟩ := at_T33 (Kd.R_reads' HO_11.out).2.2 x18_2 p175 q175; obtain rfl : ad172 = ad175 := (by injection e175); replace p175 := eq_true p175; replace q175 := eq_true q175) | ((with_reducible refine gate_callee (f := 19) rfl ?_); refine goesL_ (some 172) rfl rfl Try.func19 (by kernel_rfl) rfl #[.slice A0 l0.length c0, .string ((rd_T33 t158 x18_2).f0)] rfl (by (try simp only [List.map_toArray, List.map_cons, List.map_nil]); first | done | rfl | (simp only [List.length_drop, List.length_take]; rfl)) ?_; (with_reducible refine (files_Get.calls _ _ l0 ((rd_T33 t158 x18_2).f0) t176 true _ ?side1 ?side2 A62.out).mono ?_); (case side1 => repeat (first | exact (Kd.C_below HR0.out HB.out) | (with_reducible refine Kd.C_alloc ?_ _) | (with_reducible refine Kd.C_drewN ?_ _) | (with_reducible refine Kd.C_drew ?_))); (case side2 => exact HC0.out); rintro e w74 ⟨rfl, hb⟩; refine ⟨_, rfl, ?_⟩; have n0_ := Aside0.mk (Kd.R_below (by (with_reducible repeat (first | apply Kd.R_alloc | apply Kd.R_drewN | apply Kd.R_drew)); exact HO_11.out) hb); have n1_ := Aside0.mk (below_step (by repeat (first | (with_reducible first | exact HB.out | apply below_alloc | apply pw_below_drewN | apply below_drew1) | exact HB.out)) hb); clear HO_11; clear HB; have HO_11 := n0_; have HB := n1_; clear n0_ n1_; (try clear hb); (try clear hb2); (try clear hk); (try clear hi); have p180 : 0 ≤ (x18_2 : Int) := of_decide_eq_true (by first | (with_reducible assumption) | assumption); have q180 : x18_2 < (t158.length : Int) := of_decide_eq_true (by first | (with_reducible assumption) | assumption); obtain ⟨ad180, e180, hx180_0, hx180_1⟩ := at_T33 (Kd.R_reads' HO_11.out).2.2 x18_2 p180 q180; obtain rfl : ad172 = ad180 := (by injection e180); replace p180 := eq_true p180; replace q180 := eq_true q180))
                                                    go_roundg k2
                                                    case measure => have := HK1.out; have := HK2.out; omega
                                                    case rel => exact ⟨(wrap64 (x18_2 + 1)), (by first | rfl | (simp; done) | (simp [*]; done)), H', ⟨by have := HK1.out; have := HK2.out; omega⟩, ⟨by (with_reducible repeat (first | apply Kd.R_alloc | apply Kd.R_drewN | apply Kd.R_drew)); exact HO_11.out⟩, ⟨by repeat (first | (with_reducible first | exact HB.out | apply below_alloc | apply pw_below_drewN | apply below_drew1) | exact HB.out)⟩⟩
                                                  · rw [if_neg c72] at H
                                                    exact absurd H (by simp)
                                                · replace c71 := Bool.eq_false_iff.mpr c71
                                                  subst c71
                                                  have H1 : (none) = some r := by rw [if_neg (show ¬ (false = true) by decide)] at H; exact H
                                                  clear H
                                                  have H := H1
                                                  clear H1
                                                  exact absurd H (by simp)
                                            · rw [if_neg c60] at H
                                              exact absurd H (by simp)
                                          · rw [if_neg c59] at H
                                            have c59b0 : decide (x18_2 < (t158.length : Int)) = false := decide_eq_false c59
                                            clear c59
                                            obtain rfl := Option.some.inj H
                                            go_wp2
                                            go_ret
                                            exact ⟨by first | rfl | (simp [errW_none, errW_some] <;> rfl) | (simp [*, errW_none, errW_some] <;> rfl), by repeat (first | (with_reducible first | exact HB.out | apply below_alloc | apply pw_below_drewN | apply below_drew1) | exact HB.out)⟩
                              · rw [if_neg c38] at H
                                exact absurd H (by simp)
                            · replace c36 := Bool.eq_false_iff.mpr c36
                              subst c36
                              have H1 : (none) = some r := by rw [if_neg (show ¬ (false = true) by decide)] at H; exact H
                              clear H
                              have H := H1
                              clear H1
                              exact absurd H (by simp)
                          · rw [if_neg c34] at H
                            exact absurd H (by simp)
                        · rw [if_neg c32] at H
                          have c32b0 : (t159 == 0) = false := beq_eq_false_iff_ne.mpr c32
                          have c32b1 : (t159 != 0) = true := bne_iff_ne.mpr c32
                          by_cases c75 : t159 = 3
                          · rw [if_pos c75] at H
                            have c75b0 : (t159 == 3) = true := beq_iff_eq.mpr c75
                            have c75b1 : (t159 != 3) = false := bne_eq_false_iff_eq.mpr c75
                            clear c75
                            obtain rfl := Option.some.inj H
                            go_enter Try.func3, Try.ntmps3
                            go_wp2_with (first | ((with_reducible refine gate_callee (f := 14) rfl ?_); refine goesL_ (some 23) rfl rfl Try.func14 (by kernel_rfl) rfl #[] rfl (by (try simp only [List.map_toArray, List.map_cons, List.map_nil]); first | done | rfl | (simp only [List.length_drop, List.length_take]; rfl)) ?_; (with_reducible refine (bastionlaw17_works.calls  true _ A3.out).mono ?_); rintro e w76 ⟨rfl, hb⟩; refine ⟨_, rfl, ?_⟩; have n0_ := Aside0.mk (below_step (by repeat (first | (with_reducible first | exact HB.out | apply below_alloc | apply pw_below_drewN | apply below_drew1) | exact HB.out)) hb); clear HB; have HB := n0_; clear n0_; (try clear hb); (try clear hb2); (try clear hk); (try clear hi)) | (go_at_call 15; (with_reducible refine (bastionlaw17_large.calls k _ _ l0 false _ ?side1 ?side2 A5.out).mono ?_); (case side1 => repeat (first | exact (Kd.C_below HR0.out HB.out) | (with_reducible refine Kd.C_alloc ?_ _) | (with_reducible refine Kd.C_drewN ?_ _) | (with_reducible refine Kd.C_drew ?_))); (case side2 => exact HC0.out); rintro e w' ⟨rfl, ⟨nd, rfl⟩⟩) | (go_at_call 15; (with_reducible refine (bastionlaw17_large.calls k _ _ l1 false _ ?side1 ?side2 A10.out).mono ?_); (case side1 => repeat (first | exact (Kd.C_below HR1.out (by repeat (first | (with_reducible first | exact HB.out | apply below_alloc | apply pw_below_drewN | apply below_drew1) | exact HB.out))) | (with_reducible refine Kd.C_alloc ?_ _) | (with_reducible refine Kd.C_drewN ?_ _) | (with_reducible refine Kd.C_drew ?_))); (case side2 => exact HC1.out); rintro e w' ⟨rfl, ⟨nd, rfl⟩⟩) | (go_at_call 16; (with_reducible refine (files_Check.calls _ _ l0 t141 _ ?side1 ?side2 A15.out).mono ?_); (case side1 => repeat (first | exact (Kd.C_below HR0.out (by repeat (first | (with_reducible first | exact HB.out | apply below_alloc | apply pw_below_drewN | apply below_drew1) | exact HB.out))) | (with_reducible refine Kd.C_alloc ?_ _) | (with_reducible refine Kd.C_drewN ?_ _) | (with_reducible refine Kd.C_drew ?_))); (case side2 => exact HC0.out); rintro e w77 ⟨rfl, hb⟩; have n0_ := Aside0.mk (below_step (by repeat (first | (with_reducible first | exact HB.out | apply below_alloc | apply pw_below_drewN | apply below_drew1) | exact HB.out)) hb); clear HB; have HB := n0_; clear n0_; (try clear hb); (try clear hb2); (try clear hk); (try clear hi)) | (go_at_call 16; (with_reducible refine (files_Check.calls _ _ l1 t142 _ ?side1 ?side2 A17.out).mono ?_); (case side1 => repeat (first | exact (Kd.C_below HR1.out HB.out) | (with_reducible refine Kd.C_alloc ?_ _) | (with_reducible refine Kd.C_drewN ?_ _) | (with_reducible refine Kd.C_drew ?_))); (case side2 => exact HC1.out); rintro e w78 ⟨rfl, hb⟩; have n0_ := Aside0.mk (below_step (by repeat (first | (with_reducible first | exact HB.out | apply below_alloc | apply pw_below_drewN | apply below_drew1) | exact HB.out)) hb); clear HB; have HB := n0_; clear n0_; (try clear hb); (try clear hb2); (try clear hk); (try clear hi)) | ((with_reducible refine gate_callee (f := 17) rfl ?_); refine goesL_ (some 46) rfl rfl Try.func17 (by kernel_rfl) rfl #[.slice A0 l0.length c0, .slice none 0 0] rfl (by (try simp only [List.map_toArray, List.map_cons, List.map_nil]); first | done | rfl | (simp only [List.length_drop, List.length_take]; rfl)) ?_; (refine (files_Lay.calls _ _ l0 _ _ ([] : List (S33)) t143 t144 _ ?side1 ?side2 ?side3 ?side4 A19.out).mono ?_); (case side1 => repeat (first | exact (Kd.C_below HR0.out HB.out) | (with_reducible refine Kd.C_alloc ?_ _) | (with_reducible refine Kd.C_drewN ?_ _) | (with_reducible refine Kd.C_drew ?_))); (case side2 => exact HC0.out); (case side3 => exact Kd.C_nil _ _); (case side4 => exact Nat.le_refl _); rintro e w79 ⟨v145, rfl, ho0, hb⟩; refine ⟨_, rfl, ?_⟩; have n0_ := Aside0.mk (Kd.R_lower ho0 (below_size (by repeat (first | (with_reducible first | exact HB.out | apply below_alloc | apply pw_below_drewN | apply below_drew1) | exact HB.out)))); have n1_ := Aside0.mk (below_step (by repeat (first | (with_reducible first | exact HB.out | apply below_alloc | apply pw_below_drewN | apply below_drew1) | exact HB.out)) hb); clear HB; have HO146 := n0_; have HB := n1_; clear n0_ n1_; (try clear hb); (try clear hb2); (try clear hk); (try clear hi); (try clear ho0)) | ((with_reducible refine gate_callee (f := 17) rfl ?_); refine goesL_ (some 51) rfl rfl Try.func17 (by kernel_rfl) rfl #[.slice none 0 0, .slice A0 l0.length c0] rfl (by (try simp only [List.map_toArray, List.map_cons, List.map_nil]); first | done | rfl | (simp only [List.length_drop, List.length_take]; rfl)) ?_; (refine (files_Lay.calls _ _ ([] : List (S33)) _ _ l0 t147 t148 _ ?side1 ?side2 ?side3 ?side4 A20.out).mono ?_); (case side1 => exact Kd.C_nil _ _); (case side2 => exact Nat.le_refl _); (case side3 => repeat (first | exact (Kd.C_below HR0.out HB.out) | (with_reducible refine Kd.C_alloc ?_ _) | (with_reducible refine Kd.C_drewN ?_ _) | (with_reducible refine Kd.C_drew ?_))); (case side4 => exact HC0.out); rintro e w80 ⟨v149, rfl, ho0, hb⟩; refine ⟨_, rfl, ?_⟩; have n0_ := Aside0.mk (Kd.R_elder' (by (with_reducible repeat (first | apply Kd.R_alloc | apply Kd.R_drewN | apply Kd.R_drew)); exact HO146.out) (Kd.R_base ho0) hb); have n1_ := Aside0.mk (Kd.R_lower (Kd.R_new' ho0 (Kd.R_lt (by (with_reducible repeat (first | apply Kd.R_alloc | apply Kd.R_drewN | apply Kd.R_drew)); exact HO146.out))) (below_size (by repeat (first | (with_reducible first | exact HB.out | apply below_alloc | apply pw_below_drewN | apply below_drew1) | exact HB.out)))); have n2_ := Aside0.mk (below_step (by repeat (first | (with_reducible first | exact HB.out | apply below_alloc | apply pw_below_drewN | apply below_drew1) | exact HB.out)) hb); clear HO146; clear HB; have HO146 := n0_; have HO150 := n1_; have HB := n2_; clear n0_ n1_ n2_; (try clear hb); (try clear hb2); (try clear hk); (try clear hi); (try clear ho0)) | ((with_reducible refine gate_callee (f := 17) rfl ?_); refine goesL_ (some 57) rfl rfl Try.func17 (by kernel_rfl) rfl #[.slice A0 l0.length c0, .slice A0 l0.length c0] rfl (by (try simp only [List.map_toArray, List.map_cons, List.map_nil]); first | done | rfl | (simp only [List.length_drop, List.length_take]; rfl)) ?_; (with_reducible refine (files_Lay.calls _ _ l0 _ _ l0 t151 t152 _ ?side1 ?side2 ?side3 ?side4 A21.out).mono ?_); (case side1 => repeat (first | exact (Kd.C_below HR0.out HB.out) | (with_reducible refine Kd.C_alloc ?_ _) | (with_reducible refine Kd.C_drewN ?_ _) | (with_reducible refine Kd.C_drew ?_))); (case side2 => exact HC0.out); (case side3 => repeat (first | exact (Kd.C_below HR0.out HB.out) | (with_reducible refine Kd.C_alloc ?_ _) | (with_reducible refine Kd.C_drewN ?_ _) | (with_reducible refine Kd.C_drew ?_))); (case side4 => exact HC0.out); rintro e w81 ⟨v153, rfl, ho0, hb⟩; refine ⟨_, rfl, ?_⟩; have n0_ := Aside0.mk (Kd.R_elder' (by (with_reducible repeat (first | apply Kd.R_alloc | apply Kd.R_drewN | apply Kd.R_drew)); exact HO146.out) (Kd.R_base ho0) hb); have n1_ := Aside0.mk (Kd.R_elder' (by (with_reducible repeat (first | apply Kd.R_alloc | apply Kd.R_drewN | apply Kd.R_drew)); exact HO150.out) (Kd.R_base ho0) hb); have n2_ := Aside0.mk (Kd.R_lower (Kd.R_new' (Kd.R_new' ho0 (Kd.R_lt (by (with_reducible repeat (first | apply Kd.R_alloc | apply Kd.R_drewN | apply Kd.R_drew)); exact HO146.out))) (Kd.R_lt (by (with_reducible repeat (first | apply Kd.R_alloc | apply Kd.R_drewN | apply Kd.R_drew)); exact HO150.out))) (below_size (by repeat (first | (with_reducible first | exact HB.out | apply below_alloc | apply pw_below_drewN | apply below_drew1) | exact HB.out)))); have n3_ := Aside0.mk (below_step (by repeat (first | (with_reducible first | exact HB.out | apply below_alloc | apply pw_below_drewN | apply below_drew1) | exact HB.out)) hb); clear HO146; clear HO150; clear HB; have HO146 := n0_; have HO150 := n1_; have HO154 := n2_; have HB := n3_; clear n0_ n1_ n2_ n3_; (try clear hb); (try clear hb2); (try clear hk); (try clear hi); (try clear ho0); obtain ⟨Ao82, co82, eo82⟩ := Kd.R_slice HO146.out; subst eo82) | (go_at_call 18; (with_reducible refine (files_Same.calls k _ _ t143 _ _ l0 true _ ?side1 ?side2 ?side3 ?side4 A25.out).mono ?_); (case side1 => repeat (first | exact (Kd.R_reads' HO146.out).2.2 | (with_reducible refine Kd.C_alloc ?_ _) | (with_reducible refine Kd.C_drewN ?_ _) | (with_reducible refine Kd.C_drew ?_))); (case side2 => exact (Kd.R_reads' HO146.out).2.1); (case side3 => repeat (first | exact (Kd.C_below HR0.out HB.out) | (with_reducible refine Kd.C_alloc ?_ _) | (with_reducible refine Kd.C_drewN ?_ _) | (with_reducible refine Kd.C_drew ?_))); (case side4 => exact HC0.out); rintro e w' ⟨rfl, ⟨nd, rfl⟩⟩; obtain ⟨Ao83, co83, eo83⟩ := Kd.R_slice HO150.out; subst eo83) | (go_at_call 18; (with_reducible refine (files_Same.calls k _ _ t147 _ _ l0 true _ ?side1 ?side2 ?side3 ?side4 A27.out).mono ?_); (case side1 => repeat (first | exact (Kd.R_reads' HO150.out).2.2 | (with_reducible refine Kd.C_alloc ?_ _) | (with_reducible refine Kd.C_drewN ?_ _) | (with_reducible refine Kd.C_drew ?_))); (case side2 => exact (Kd.R_reads' HO150.out).2.1); (case side3 => repeat (first | exact (Kd.C_below HR0.out (by repeat (first | (with_reducible first | exact HB.out | apply below_alloc | apply pw_below_drewN | apply below_drew1) | exact HB.out))) | (with_reducible refine Kd.C_alloc ?_ _) | (with_reducible refine Kd.C_drewN ?_ _) | (with_reducible refine Kd.C_drew ?_))); (case side4 => exact HC0.out); rintro e w' ⟨rfl, ⟨nd, rfl⟩⟩; obtain ⟨Ao84, co84, eo84⟩ := Kd.R_slice HO154.out; subst eo84) | (go_at_call 18; (with_reducible refine (files_Same.calls k _ _ t151 _ _ l0 true _ ?side1 ?side2 ?side3 ?side4 A29.out).mono ?_); (case side1 => repeat (first | exact (Kd.R_reads' HO154.out).2.2 | (with_reducible refine Kd.C_alloc ?_ _) | (with_reducible refine Kd.C_drewN ?_ _) | (with_reducible refine Kd.C_drew ?_))); (case side2 => exact (Kd.R_reads' HO154.out).2.1); (case side3 => repeat (first | exact (Kd.C_below HR0.out (by repeat (first | (with_reducible first | exact HB.out | apply below_alloc | apply pw_below_drewN | apply below_drew1) | exact HB.out))) | (with_reducible refine Kd.C_alloc ?_ _) | (with_reducible refine Kd.C_drewN ?_ _) | (with_reducible refine Kd.C_drew ?_))); (case side4 => exact HC0.out); rintro e w' ⟨rfl, ⟨nd, rfl⟩⟩) | ((with_reducible refine gate_callee (f := 17) rfl ?_); refine goesL_ (some 91) rfl rfl Try.func17 (by kernel_rfl) rfl #[.slice A0 l0.length c0, .slice A1 l1.length c1] rfl (by (try simp only [List.map_toArray, List.map_cons, List.map_nil]); first | done | rfl | (simp only [List.length_drop, List.length_take]; rfl)) ?_; (with_reducible refine (files_Lay.calls _ _ l0 _ _ l1 t158 t159 _ ?side1 ?side2 ?side3 ?side4 A31.out).mono ?_); (case side1 => repeat (first | exact (Kd.C_below HR0.out (by repeat (first | (with_reducible first | exact HB.out | apply below_alloc | apply pw_below_drewN | apply below_drew1) | exact HB.out))) | (with_reducible refine Kd.C_alloc ?_ _) | (with_reducible refine Kd.C_drewN ?_ _) | (with_reducible refine Kd.C_drew ?_))); (case side2 => exact HC0.out); (case side3 => repeat (first | exact (Kd.C_below HR1.out (by repeat (first | (with_reducible first | exact HB.out | apply below_alloc | apply pw_below_drewN | apply below_drew1) | exact HB.out))) | (with_reducible refine Kd.C_alloc ?_ _) | (with_reducible refine Kd.C_drewN ?_ _) | (with_reducible refine Kd.C_drew ?_))); (case side4 => exact HC1.out); rintro e w85 ⟨v160, rfl, ho0, hb⟩; refine ⟨_, rfl, ?_⟩; have n0_ := Aside0.mk (Kd.R_elder' (by (with_reducible repeat (first | apply Kd.R_alloc | apply Kd.R_drewN | apply Kd.R_drew)); exact HO146.out) (Kd.R_base ho0) hb); have n1_ := Aside0.mk (Kd.R_elder' (by (with_reducible repeat (first | apply Kd.R_alloc | apply Kd.R_drewN | apply Kd.R_drew)); exact HO150.out) (Kd.R_base ho0) hb); have n2_ := Aside0.mk (Kd.R_elder' (by (with_reducible repeat (first | apply Kd.R_alloc | apply Kd.R_drewN | apply Kd.R_drew)); exact HO154.out) (Kd.R_base ho0) hb); have n3_ := Aside0.mk (Kd.R_lower (Kd.R_new' (Kd.R_new' (Kd.R_new' ho0 (Kd.R_lt (by (with_reducible repeat (first | apply Kd.R_alloc | apply Kd.R_drewN | apply Kd.R_drew)); exact HO146.out))) (Kd.R_lt (by (with_reducible repeat (first | apply Kd.R_alloc | apply Kd.R_drewN | apply Kd.R_drew)); exact HO150.out))) (Kd.R_lt (by (with_reducible repeat (first | apply Kd.R_alloc | apply Kd.R_drewN | apply Kd.R_drew)); exact HO154.out))) (below_size (by repeat (first | (with_reducible first | exact HB.out | apply below_alloc | apply pw_below_drewN | apply below_drew1) | exact HB.out)))); have n4_ := Aside0.mk (below_step (by repeat (first | (with_reducible first | exact HB.out | apply below_alloc | apply pw_below_drewN | apply below_drew1) | exact HB.out)) hb); clear HO146; clear HO150; clear HO154; clear HB; have HO146 := n0_; have HO150 := n1_; have HO154 := n2_; have HO161 := n3_; have HB := n4_; clear n0_ n1_ n2_ n3_ n4_; (try clear hb); (try clear hb2); (try clear hk); (try clear hi); (try clear ho0); obtain ⟨Ao86, co86, eo86⟩ := Kd.R_slice HO161.out; subst eo86))
                            go_ret
                            exact ⟨by first | rfl | (simp [errW_none, errW_some] <;> rfl) | (simp [*, errW_none, errW_some] <;> rfl), by repeat (first | (with_reducible first | exact HB.out | apply below_alloc | apply pw_below_drewN | apply below_drew1) | exact HB.out)⟩
                          · rw [if_neg c75] at H
                            exact absurd H (by simp)
                      · replace c30 := Bool.eq_false_iff.mpr c30
                        subst c30
                        have H1 : (none) = some r := by rw [if_neg (show ¬ (false = true) by decide)] at H; exact H
                        clear H
                        have H := H1
                        clear H1
                        exact absurd H (by simp)
                    · replace c28 := Bool.eq_false_iff.mpr c28
                      subst c28
                      have H1 : (none) = some r := by rw [if_neg (show ¬ (false = true) by decide)] at H; exact H
                      clear H
                      have H := H1
                      clear H1
                      exact absurd H (by simp)
                  · replace c26 := Bool.eq_false_iff.mpr c26
                    subst c26
                    have H1 : (none) = some r := by rw [if_neg (show ¬ (false = true) by decide)] at H; exact H
                    clear H
                    have H := H1
                    clear H1
                    exact absurd H (by simp)
                · rw [if_neg c24] at H
                  exact absurd H (by simp)
              · rw [if_neg c23] at H
                exact absurd H (by simp)
            · rw [if_neg c22] at H
              exact absurd H (by simp)
          · rw [if_neg c18] at H
            have c18b0 : (t142 == 0) = false := beq_eq_false_iff_ne.mpr c18
            have c18b1 : (t142 != 0) = true := bne_iff_ne.mpr c18
            replace H := Option.bind_eq_some_iff.mp H
            obtain ⟨t181, A870, H⟩ := H
            replace H : (some t181) = some r := H
            have A87 := Aside0.mk A870
            clear A870
            obtain rfl := Option.some.inj H
            go_enter Try.func3, Try.ntmps3
            go_wp2_with (first | ((with_reducible refine gate_callee (f := 14) rfl ?_); refine goesL_ (some 23) rfl rfl Try.func14 (by kernel_rfl) rfl #[] rfl (by (try simp only [List.map_toArray, List.map_cons, List.map_nil]); first | done | rfl | (simp only [List.length_drop, List.length_take]; rfl)) ?_; (with_reducible refine (bastionlaw17_works.calls  true _ A3.out).mono ?_); rintro e w88 ⟨rfl, hb⟩; refine ⟨_, rfl, ?_⟩; have n0_ := Aside0.mk (below_step (by repeat (first | (with_reducible first | exact HB.out | apply below_alloc | apply pw_below_drewN | apply below_drew1) | exact HB.out)) hb); clear HB; have HB := n0_; clear n0_; (try clear hb); (try clear hb2); (try clear hk); (try clear hi)) | (go_at_call 15; (with_reducible refine (bastionlaw17_large.calls k _ _ l0 false _ ?side1 ?side2 A5.out).mono ?_); (case side1 => repeat (first | exact (Kd.C_below HR0.out HB.out) | (with_reducible refine Kd.C_alloc ?_ _) | (with_reducible refine Kd.C_drewN ?_ _) | (with_reducible refine Kd.C_drew ?_))); (case side2 => exact HC0.out); rintro e w' ⟨rfl, ⟨nd, rfl⟩⟩) | (go_at_call 15; (with_reducible refine (bastionlaw17_large.calls k _ _ l1 false _ ?side1 ?side2 A10.out).mono ?_); (case side1 => repeat (first | exact (Kd.C_below HR1.out (by repeat (first | (with_reducible first | exact HB.out | apply below_alloc | apply pw_below_drewN | apply below_drew1) | exact HB.out))) | (with_reducible refine Kd.C_alloc ?_ _) | (with_reducible refine Kd.C_drewN ?_ _) | (with_reducible refine Kd.C_drew ?_))); (case side2 => exact HC1.out); rintro e w' ⟨rfl, ⟨nd, rfl⟩⟩) | (go_at_call 16; (with_reducible refine (files_Check.calls _ _ l0 t141 _ ?side1 ?side2 A15.out).mono ?_); (case side1 => repeat (first | exact (Kd.C_below HR0.out (by repeat (first | (with_reducible first | exact HB.out | apply below_alloc | apply pw_below_drewN | apply below_drew1) | exact HB.out))) | (with_reducible refine Kd.C_alloc ?_ _) | (with_reducible refine Kd.C_drewN ?_ _) | (with_reducible refine Kd.C_drew ?_))); (case side2 => exact HC0.out); rintro e w89 ⟨rfl, hb⟩; have n0_ := Aside0.mk (below_step (by repeat (first | (with_reducible first | exact HB.out | apply below_alloc | apply pw_below_drewN | apply below_drew1) | exact HB.out)) hb); clear HB; have HB := n0_; clear n0_; (try clear hb); (try clear hb2); (try clear hk); (try clear hi)) | (go_at_call 16; (with_reducible refine (files_Check.calls _ _ l1 t142 _ ?side1 ?side2 A17.out).mono ?_); (case side1 => repeat (first | exact (Kd.C_below HR1.out HB.out) | (with_reducible refine Kd.C_alloc ?_ _) | (with_reducible refine Kd.C_drewN ?_ _) | (with_reducible refine Kd.C_drew ?_))); (case side2 => exact HC1.out); rintro e w90 ⟨rfl, hb⟩; have n0_ := Aside0.mk (below_step (by repeat (first | (with_reducible first | exact HB.out | apply below_alloc | apply pw_below_drewN | apply below_drew1) | exact HB.out)) hb); clear HB; have HB := n0_; clear n0_; (try clear hb); (try clear hb2); (try clear hk); (try clear hi)) | ((with_reducible refine gate_callee (f := 14) rfl ?_); refine goesL_ (some 43) rfl rfl Try.func14 (by kernel_rfl) rfl #[] rfl (by (try simp only [List.map_toArray, List.map_cons, List.map_nil]); first | done | rfl | (simp only [List.length_drop, List.length_take]; rfl)) ?_; (with_reducible refine (bastionlaw17_works.calls  t181 _ A87.out).mono ?_); rintro e w91 ⟨rfl, hb⟩; refine ⟨_, rfl, ?_⟩; have n0_ := Aside0.mk (below_step (by repeat (first | (with_reducible first | exact HB.out | apply below_alloc | apply pw_below_drewN | apply below_drew1) | exact HB.out)) hb); clear HB; have HB := n0_; clear n0_; (try clear hb); (try clear hb2); (try clear hk); (try clear hi)))
            go_ret
            exact ⟨by first | rfl | (simp [errW_none, errW_some] <;> rfl) | (simp [*, errW_none, errW_some] <;> rfl), by repeat (first | (with_reducible first | exact HB.out | apply below_alloc | apply pw_below_drewN | apply below_drew1) | exact HB.out)⟩
        · rw [if_neg c16] at H
          have c16b0 : (t141 == 0) = false := beq_eq_false_iff_ne.mpr c16
          have c16b1 : (t141 != 0) = true := bne_iff_ne.mpr c16
          replace H := Option.bind_eq_some_iff.mp H
          obtain ⟨t182, A920, H⟩ := H
          replace H : (some t182) = some r := H
          have A92 := Aside0.mk A920
          clear A920
          obtain rfl := Option.some.inj H
          go_enter Try.func3, Try.ntmps3
          go_wp2_with (first | ((with_reducible refine gate_callee (f := 14) rfl ?_); refine goesL_ (some 23) rfl rfl Try.func14 (by kernel_rfl) rfl #[] rfl (by (try simp only [List.map_toArray, List.map_cons, List.map_nil]); first | done | rfl | (simp only [List.length_drop, List.length_take]; rfl)) ?_; (with_reducible refine (bastionlaw17_works.calls  true _ A3.out).mono ?_); rintro e w93 ⟨rfl, hb⟩; refine ⟨_, rfl, ?_⟩; have n0_ := Aside0.mk (below_step (by repeat (first | (with_reducible first | exact HB.out | apply below_alloc | apply pw_below_drewN | apply below_drew1) | exact HB.out)) hb); clear HB; have HB := n0_; clear n0_; (try clear hb); (try clear hb2); (try clear hk); (try clear hi)) | (go_at_call 15; (with_reducible refine (bastionlaw17_large.calls k _ _ l0 false _ ?side1 ?side2 A5.out).mono ?_); (case side1 => repeat (first | exact (Kd.C_below HR0.out HB.out) | (with_reducible refine Kd.C_alloc ?_ _) | (with_reducible refine Kd.C_drewN ?_ _) | (with_reducible refine Kd.C_drew ?_))); (case side2 => exact HC0.out); rintro e w' ⟨rfl, ⟨nd, rfl⟩⟩) | (go_at_call 15; (with_reducible refine (bastionlaw17_large.calls k _ _ l1 false _ ?side1 ?side2 A10.out).mono ?_); (case side1 => repeat (first | exact (Kd.C_below HR1.out (by repeat (first | (with_reducible first | exact HB.out | apply below_alloc | apply pw_below_drewN | apply below_drew1) | exact HB.out))) | (with_reducible refine Kd.C_alloc ?_ _) | (with_reducible refine Kd.C_drewN ?_ _) | (with_reducible refine Kd.C_drew ?_))); (case side2 => exact HC1.out); rintro e w' ⟨rfl, ⟨nd, rfl⟩⟩) | (go_at_call 16; (with_reducible refine (files_Check.calls _ _ l0 t141 _ ?side1 ?side2 A15.out).mono ?_); (case side1 => repeat (first | exact (Kd.C_below HR0.out (by repeat (first | (with_reducible first | exact HB.out | apply below_alloc | apply pw_below_drewN | apply below_drew1) | exact HB.out))) | (with_reducible refine Kd.C_alloc ?_ _) | (with_reducible refine Kd.C_drewN ?_ _) | (with_reducible refine Kd.C_drew ?_))); (case side2 => exact HC0.out); rintro e w94 ⟨rfl, hb⟩; have n0_ := Aside0.mk (below_step (by repeat (first | (with_reducible first | exact HB.out | apply below_alloc | apply pw_below_drewN | apply below_drew1) | exact HB.out)) hb); clear HB; have HB := n0_; clear n0_; (try clear hb); (try clear hb2); (try clear hk); (try clear hi)) | ((with_reducible refine gate_callee (f := 14) rfl ?_); refine goesL_ (some 43) rfl rfl Try.func14 (by kernel_rfl) rfl #[] rfl (by (try simp only [List.map_toArray, List.map_cons, List.map_nil]); first | done | rfl | (simp only [List.length_drop, List.length_take]; rfl)) ?_; (with_reducible refine (bastionlaw17_works.calls  t182 _ A92.out).mono ?_); rintro e w95 ⟨rfl, hb⟩; refine ⟨_, rfl, ?_⟩; have n0_ := Aside0.mk (below_step (by repeat (first | (with_reducible first | exact HB.out | apply below_alloc | apply pw_below_drewN | apply below_drew1) | exact HB.out)) hb); clear HB; have HB := n0_; clear n0_; (try clear hb); (try clear hb2); (try clear hk); (try clear hi)))
          go_ret
          exact ⟨by first | rfl | (simp [errW_none, errW_some] <;> rfl) | (simp [*, errW_none, errW_some] <;> rfl), by repeat (first | (with_reducible first | exact HB.out | apply below_alloc | apply pw_below_drewN | apply below_drew1) | exact HB.out)⟩
  · replace c4 := Bool.eq_false_iff.mpr c4
    subst c4
    have H1 : ((bastionlaw17_works.f).bind fun t183 => (some t183)) = some r := by rw [if_neg (show ¬ (false = true) by decide)] at H; exact H
    clear H
    have H := H1
    clear H1
    replace H := Option.bind_eq_some_iff.mp H
    obtain ⟨t183, A960, H⟩ := H
    replace H : (some t183) = some r := H
    have A96 := Aside0.mk A960
    clear A960
    obtain rfl := Option.some.inj H
    go_enter Try.func3, Try.ntmps3
    go_wp2_with (first | ((with_reducible refine gate_callee (f := 14) rfl ?_); refine goesL_ (some 23) rfl rfl Try.func14 (by kernel_rfl) rfl #[] rfl (by (try simp only [List.map_toArray, List.map_cons, List.map_nil]); first | done | rfl | (simp only [List.length_drop, List.length_take]; rfl)) ?_; (with_reducible refine (bastionlaw17_works.calls  false _ A3.out).mono ?_); rintro e w97 ⟨rfl, hb⟩; refine ⟨_, rfl, ?_⟩; have n0_ := Aside0.mk (below_step (by repeat (first | (with_reducible first | exact HB.out | apply below_alloc | apply pw_below_drewN | apply below_drew1) | exact HB.out)) hb); clear HB; have HB := n0_; clear n0_; (try clear hb); (try clear hb2); (try clear hk); (try clear hi)) | ((with_reducible refine gate_callee (f := 14) rfl ?_); refine goesL_ (some 43) rfl rfl Try.func14 (by kernel_rfl) rfl #[] rfl (by (try simp only [List.map_toArray, List.map_cons, List.map_nil]); first | done | rfl | (simp only [List.length_drop, List.length_take]; rfl)) ?_; (with_reducible refine (bastionlaw17_works.calls  t183 _ A96.out).mono ?_); rintro e w98 ⟨rfl, hb⟩; refine ⟨_, rfl, ?_⟩; have n0_ := Aside0.mk (below_step (by repeat (first | (with_reducible first | exact HB.out | apply below_alloc | apply pw_below_drewN | apply below_drew1) | exact HB.out)) hb); clear HB; have HB := n0_; clear n0_; (try clear hb); (try clear hb2); (try clear hk); (try clear hi)))
    go_ret
    exact ⟨by first | rfl | (simp [errW_none, errW_some] <;> rfl) | (simp [*, errW_none, errW_some] <;> rfl), by repeat (first | (with_reducible first | exact HB.out | apply below_alloc | apply pw_below_drewN | apply below_drew1) | exact HB.out)⟩

-- OF THIS SESSION: function 23 (files_Del) in Derived.Test.YtgbkoeinfhlpoaaEDel

end Go.Proofs.Ytgbkoeinfhlpoaa.F
