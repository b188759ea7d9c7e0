-- printed by a program of this session (a turned copy of the kit's printing program) out of the translation: not trusted, Lean checks it
import Derived.Test.YtgbkoeinfhlpoaaFx0
import Derived.Test.YtgbkoeinfhlpoaaFx1
import Derived.Test.YtgbkoeinfhlpoaaFx2
import Derived.Test.YtgbkoeinfhlpoaaFx9
import Derived.Test.YtgbkoeinfhlpoaaFx13
import Derived.Test.YtgbkoeinfhlpoaaFx18
import Derived.Test.YtgbkoeinfhlpoaaFx27
import Derived.Test.YtgbkoeinfhlpoaaERuns
namespace Go.Proofs.Ytgbkoeinfhlpoaa.F
open Go.RowKit Go.Proofs.YtgbkoeinfhlpoaaW.PrintWords Go.Proofs.YtgbkoeinfhlpoaaW.PrintLast Go.Proofs.YtgbkoeinfhlpoaaW.PrintMore
attribute [local go_sem] max2_int min2_int max_two min_two max_three min_three max_four min_four   -- for this text's walks alone
set_option linter.unusedVariables false
set_option linter.unusedSimpArgs false

/-! ### bastionlaw18_PackWrites: function 7 -/
def bastionlaw18_PackWrites.f (k : Nat) (l0 : List (S33)) (a1 : ByteArray) : Option (Bool) := (bastionlaw18_large.f k l0).bind fun t256 => (if t256 = true then ((bastionlaw18_awake.f k).bind fun t257 => (some t257)) else (if (a1.size : Int) > 40000 then ((bastionlaw18_awake.f k).bind fun t258 => (some t258)) else ((some (([] : List (S33)) : List (S33))).bind fun y259 => (if y259.length + l0.length < 4398046511104 then ((some (y259 ++ l0 : List (S33))).bind fun y262 => ((pack_Pack.f k y262).bind fun bt265 => ((bastionref18_Pack.f k l0).bind fun bt267 => (if bt265.1.toList = bt267.1.toList then (if bt265.2 = bt267.2 then ((pack_Runs.f a1).bind fun t269 => ((bastionref18_Runs.f k a1).bind fun t270 => (if t269.toList = t270.toList then ((bastionref17_Same.f k y262 l0).bind fun t271 => (if t271 = true then ((bastionlaw18_awake.f k).bind fun t272 => (some t272)) else (none))) else (none)))) else (none)) else (none))))) else (none)))))
theorem bastionlaw18_PackWrites.mono : ∀ a0 a1 k, LeO (bastionlaw18_PackWrites.f k a0 a1) (bastionlaw18_PackWrites.f (k + 1) a0 a1) := by
  intro a0 a1 k
  unfold bastionlaw18_PackWrites.f
  repeat' first
      | (with_reducible exact bastionlaw18_awake.mono _)
      | (with_reducible exact bastionlaw18_large.mono _ _)
      | (with_reducible exact bastionref17_Same.mono _ _ _)
      | (with_reducible exact bastionref18_Pack.mono _ _)
      | (with_reducible exact bastionref18_Runs.mono _ _)
      | (with_reducible exact pack_Pack.mono _ _)
      | (with_reducible exact LeO.refl _)
      | (with_reducible exact LeO.none _)
      | (with_reducible refine LeO.ite ?_ ?_)
      | (with_reducible refine LeO.bind ?_ (fun _ => ?_))
      | exact bastionlaw18_awake.mono _
      | exact bastionlaw18_large.mono _ _
      | exact bastionref17_Same.mono _ _ _
      | exact bastionref18_Pack.mono _ _
      | exact bastionref18_Runs.mono _ _
      | exact pack_Pack.mono _ _
      | exact LeO.none _
      | refine LeO.ite ?_ ?_
      | refine LeO.bind ?_ (fun _ => ?_)
set_option maxHeartbeats 8000000 in
set_option maxRecDepth 100000 in
theorem bastionlaw18_PackWrites.calls (k : Nat) (A0 : Option Addr) (c0 : Nat) (l0 : List (S33)) (a1 : ByteArray) (r : Bool) (w : World) (hr0 : Kd.C k33 w A0 l0.length l0) (hc0 : l0.length ≤ c0) (h : bastionlaw18_PackWrites.f k l0 a1 = some r) :
    Calls Try.prog 7 #[.slice A0 l0.length c0, .string a1] w fun e w' => e = .returned (.bool r) ∧ Below w.heap.size w w' := by
  have HR0 := Aside0.mk hr0
  have HC0 := Aside0.mk hc0
  clear hr0 hc0
  have HB := Aside0.mk (Below.refl w.heap.size w)
  have H : ((bastionlaw18_large.f k l0).bind fun t256 => (if t256 = true then ((bastionlaw18_awake.f k).bind fun t257 => (some t257)) else (if (a1.size : Int) > 40000 then ((bastionlaw18_awake.f k).bind fun t258 => (some t258)) else ((some (([] : List (S33)) : List (S33))).bind fun y259 => (if y259.length + l0.length < 4398046511104 then ((some (y259 ++ l0 : List (S33))).bind fun y262 => ((pack_Pack.f k y262).bind fun bt265 => ((bastionref18_Pack.f k l0).bind fun bt267 => (if bt265.1.toList = bt267.1.toList then (if bt265.2 = bt267.2 then ((pack_Runs.f a1).bind fun t269 => ((bastionref18_Runs.f k a1).bind fun t270 => (if t269.toList = t270.toList then ((bastionref17_Same.f k y262 l0).bind fun t271 => (if t271 = true then ((bastionlaw18_awake.f k).bind fun t272 => (some t272)) else (none))) else (none)))) else (none)) else (none))))) else (none)))))) = some r := h
  clear h
  replace H := Option.bind_eq_some_iff.mp H
  obtain ⟨t256, A30, H⟩ := H
  replace H : (if t256 = true then ((bastionlaw18_awake.f k).bind fun t257 => (some t257)) else (if (a1.size : Int) > 40000 then ((bastionlaw18_awake.f k).bind fun t258 => (some t258)) else ((some (([] : List (S33)) : List (S33))).bind fun y259 => (if y259.length + l0.length < 4398046511104 then ((some (y259 ++ l0 : List (S33))).bind fun y262 => ((pack_Pack.f k y262).bind fun bt265 => ((bastionref18_Pack.f k l0).bind fun bt267 => (if bt265.1.toList = bt267.1.toList then (if bt265.2 = bt267.2 then ((pack_Runs.f a1).bind fun t269 => ((bastionref18_Runs.f k a1).bind fun t270 => (if t269.toList = t270.toList then ((bastionref17_Same.f k y262 l0).bind fun t271 => (if t271 = true then ((bastionlaw18_awake.f k).bind fun t272 => (some t272)) else (none))) else (none)))) else (none)) else (none))))) else (none))))) = some r := H
  have A3 := Aside0.mk A30
  clear A30
  by_cases c4 : t256 = true
  · subst c4
    have H1 : ((bastionlaw18_awake.f k).bind fun t257 => (some t257)) = some r := by rw [if_pos rfl] at H; exact H
    clear H
    have H := H1
    clear H1
    replace H := Option.bind_eq_some_iff.mp H
    obtain ⟨t257, A50, H⟩ := H
    replace H : (some t257) = some r := H
    have A5 := Aside0.mk A50
    clear A50
    obtain rfl := Option.some.inj H
    go_enter Try.func7, Try.ntmps7
    go_wp2_with (first | ((with_reducible refine gate_callee (f := 28) rfl ?_); refine goesL_ (some 11) rfl rfl Try.func28 (by kernel_rfl) rfl #[.slice A0 l0.length c0] rfl (by (try simp only [List.map_toArray, List.map_cons, List.map_nil]); first | done | rfl | (simp only [List.length_drop, List.length_take]; rfl)) ?_; (with_reducible refine (bastionlaw18_large.calls k _ _ l0 true _ ?side1 ?side2 A3.out).mono ?_); (case side1 => repeat (first | exact HR0.out | (with_reducible refine Kd.C_alloc ?_ _) | (with_reducible refine Kd.C_drewN ?_ _) | (with_reducible refine Kd.C_drew ?_))); (case side2 => exact HC0.out); rintro e w' ⟨rfl, ⟨nd, rfl⟩⟩; refine ⟨_, rfl, ?_⟩) | ((with_reducible refine gate_callee (f := 29) rfl ?_); refine goesL_ (some 17) rfl rfl Try.func29 (by kernel_rfl) rfl #[] rfl (by (try simp only [List.map_toArray, List.map_cons, List.map_nil]); first | done | rfl | (simp only [List.length_drop, List.length_take]; rfl)) ?_; (with_reducible refine (bastionlaw18_awake.calls k  t257 _ A5.out).mono ?_); rintro e w6 ⟨rfl, hb⟩; refine ⟨_, rfl, ?_⟩; have n0_ := Aside0.mk (below_step (by repeat (first | (with_reducible first | exact HB.out | apply below_alloc | apply pw_below_drewN | apply below_drew1) | exact HB.out)) hb); clear HB; have HB := n0_; clear n0_; (try clear hb); (try clear hb2); (try clear hk); (try clear hi)))
    go_ret
    exact ⟨by first | rfl | (simp [errW_none, errW_some] <;> rfl) | (simp [*, errW_none, errW_some] <;> rfl), by repeat (first | (with_reducible first | exact HB.out | apply below_alloc | apply pw_below_drewN | apply below_drew1) | exact HB.out)⟩
  · replace c4 := Bool.eq_false_iff.mpr c4
    subst c4
    have H1 : (if (a1.size : Int) > 40000 then ((bastionlaw18_awake.f k).bind fun t258 => (some t258)) else ((some (([] : List (S33)) : List (S33))).bind fun y259 => (if y259.length + l0.length < 4398046511104 then ((some (y259 ++ l0 : List (S33))).bind fun y262 => ((pack_Pack.f k y262).bind fun bt265 => ((bastionref18_Pack.f k l0).bind fun bt267 => (if bt265.1.toList = bt267.1.toList then (if bt265.2 = bt267.2 then ((pack_Runs.f a1).bind fun t269 => ((bastionref18_Runs.f k a1).bind fun t270 => (if t269.toList = t270.toList then ((bastionref17_Same.f k y262 l0).bind fun t271 => (if t271 = true then ((bastionlaw18_awake.f k).bind fun t272 => (some t272)) else (none))) else (none)))) else (none)) else (none))))) else (none)))) = some r := by rw [if_neg (show ¬ (false = true) by decide)] at H; exact H
    clear H
    have H := H1
    clear H1
    by_cases c7 : (a1.size : Int) > 40000
    · rw [if_pos c7] at H
      have c7b0 : decide (40000 < (a1.size : Int)) = true := decide_eq_true c7
      have c7b1 : decide (40000 < a1.size) = true := decide_eq_true (by omega)
      clear c7
      replace H := Option.bind_eq_some_iff.mp H
      obtain ⟨t258, A80, H⟩ := H
      replace H : (some t258) = some r := H
      have A8 := Aside0.mk A80
      clear A80
      obtain rfl := Option.some.inj H
      go_enter Try.func7, Try.ntmps7
      go_wp2_with (first | ((with_reducible refine gate_callee (f := 28) rfl ?_); refine goesL_ (some 11) rfl rfl Try.func28 (by kernel_rfl) rfl #[.slice A0 l0.length c0] rfl (by (try simp only [List.map_toArray, List.map_cons, List.map_nil]); first | done | rfl | (simp only [List.length_drop, List.length_take]; rfl)) ?_; (with_reducible refine (bastionlaw18_large.calls k _ _ l0 false _ ?side1 ?side2 A3.out).mono ?_); (case side1 => repeat (first | exact HR0.out | (with_reducible refine Kd.C_alloc ?_ _) | (with_reducible refine Kd.C_drewN ?_ _) | (with_reducible refine Kd.C_drew ?_))); (case side2 => exact HC0.out); rintro e w' ⟨rfl, ⟨nd, rfl⟩⟩; refine ⟨_, rfl, ?_⟩) | ((with_reducible refine gate_callee (f := 29) rfl ?_); refine goesL_ (some 17) rfl rfl Try.func29 (by kernel_rfl) rfl #[] rfl (by (try simp only [List.map_toArray, List.map_cons, List.map_nil]); first | done | rfl | (simp only [List.length_drop, List.length_take]; rfl)) ?_; (with_reducible refine (bastionlaw18_awake.calls k  t258 _ A8.out).mono ?_); rintro e w9 ⟨rfl, hb⟩; refine ⟨_, rfl, ?_⟩; have n0_ := Aside0.mk (below_step (by repeat (first | (with_reducible first | exact HB.out | apply below_alloc | apply pw_below_drewN | apply below_drew1) | exact HB.out)) hb); clear HB; have HB := n0_; clear n0_; (try clear hb); (try clear hb2); (try clear hk); (try clear hi)))
      go_ret
      exact ⟨by first | rfl | (simp [errW_none, errW_some] <;> rfl) | (simp [*, errW_none, errW_some] <;> rfl), by repeat (first | (with_reducible first | exact HB.out | apply below_alloc | apply pw_below_drewN | apply below_drew1) | exact HB.out)⟩
    · rw [if_neg c7] at H
      have c7b0 : decide (40000 < (a1.size : Int)) = false := decide_eq_false c7
      have c7b1 : decide (40000 < a1.size) = false := decide_eq_false (by omega)
      clear c7
      obtain ⟨y259, hy259⟩ : ∃ y_ : List (S33), y_ = (([] : List (S33))) := ⟨_, rfl⟩
      replace H : (if y259.length + l0.length < 4398046511104 then ((some (y259 ++ l0 : List (S33))).bind fun y262 => ((pack_Pack.f k y262).bind fun bt265 => ((bastionref18_Pack.f k l0).bind fun bt267 => (if bt265.1.toList = bt267.1.toList then (if bt265.2 = bt267.2 then ((pack_Runs.f a1).bind fun t269 => ((bastionref18_Runs.f k a1).bind fun t270 => (if t269.toList = t270.toList then ((bastionref17_Same.f k y262 l0).bind fun t271 => (if t271 = true then ((bastionlaw18_awake.f k).bind fun t272 => (some t272)) else (none))) else (none)))) else (none)) else (none))))) else (none)) = some r := by first | (rw [hy259]; with_reducible exact H) | (have H2_ := (Option.bind_some _ _).symm.trans H; rw [hy259]; with_reducible exact H2_) | (have H2_ := (Option.bind_some _ _).symm.trans H; with_reducible exact H2_) | with_reducible exact H | (rw [hy259]; exact H) | exact H
      have Ny259 := Aside0.mk hy259
      clear hy259
      by_cases c10 : y259.length + l0.length < 4398046511104
      · rw [if_pos c10] at H
        have LMc10 := Aside0.mk c10
        clear c10
        obtain ⟨y262, hy262⟩ : ∃ y_ : List (S33), y_ = (y259 ++ l0) := ⟨_, rfl⟩
        replace H : ((pack_Pack.f k y262).bind fun bt265 => ((bastionref18_Pack.f k l0).bind fun bt267 => (if bt265.1.toList = bt267.1.toList then (if bt265.2 = bt267.2 then ((pack_Runs.f a1).bind fun t269 => ((bastionref18_Runs.f k a1).bind fun t270 => (if t269.toList = t270.toList then ((bastionref17_Same.f k y262 l0).bind fun t271 => (if t271 = true then ((bastionlaw18_awake.f k).bind fun t272 => (some t272)) else (none))) else (none)))) else (none)) else (none)))) = some r := by first | (rw [hy262]; with_reducible exact H) | (have H2_ := (Option.bind_some _ _).symm.trans H; rw [hy262]; with_reducible exact H2_) | (have H2_ := (Option.bind_some _ _).symm.trans H; with_reducible exact H2_) | with_reducible exact H | (rw [hy262]; exact H) | exact H
        have Ny262 := Aside0.mk hy262
        clear hy262
        replace H := Option.bind_eq_some_iff.mp H
        obtain ⟨⟨t265, t266⟩, A110, H⟩ := H
        replace H : ((bastionref18_Pack.f k l0).bind fun bt267 => (if t265.toList = bt267.1.toList then (if t266 = bt267.2 then ((pack_Runs.f a1).bind fun t269 => ((bastionref18_Runs.f k a1).bind fun t270 => (if t269.toList = t270.toList then ((bastionref17_Same.f k y262 l0).bind fun t271 => (if t271 = true then ((bastionlaw18_awake.f k).bind fun t272 => (some t272)) else (none))) else (none)))) else (none)) else (none))) = some r := H
        have A11 := Aside0.mk A110
        clear A110
        replace H := Option.bind_eq_some_iff.mp H
        obtain ⟨⟨t267, t268⟩, A120, H⟩ := H
        replace H : (if t265.toList = t267.toList then (if t266 = t268 then ((pack_Runs.f a1).bind fun t269 => ((bastionref18_Runs.f k a1).bind fun t270 => (if t269.toList = t270.toList then ((bastionref17_Same.f k y262 l0).bind fun t271 => (if t271 = true then ((bastionlaw18_awake.f k).bind fun t272 => (some t272)) else (none))) else (none)))) else (none)) else (none)) = some r := H
        have A12 := Aside0.mk A120
        clear A120
        by_cases c13 : t265.toList = t267.toList
        · rw [if_pos c13] at H
          have c13b0 : (t265.toList == t267.toList) = true := beq_iff_eq.mpr c13
          have c13b1 : (t265.toList != t267.toList) = false := bne_eq_false_iff_eq.mpr c13
          clear c13
          by_cases c14 : t266 = t268
          · rw [if_pos c14] at H
            have c14b0 : (t266 == t268) = true := beq_iff_eq.mpr c14
            have c14b1 : (t266 != t268) = false := bne_eq_false_iff_eq.mpr c14
            clear c14
            replace H := Option.bind_eq_some_iff.mp H
            obtain ⟨t269, A150, H⟩ := H
            replace H : ((bastionref18_Runs.f k a1).bind fun t270 => (if t269.toList = t270.toList then ((bastionref17_Same.f k y262 l0).bind fun t271 => (if t271 = true then ((bastionlaw18_awake.f k).bind fun t272 => (some t272)) else (none))) else (none))) = some r := H
            have A15 := Aside0.mk A150
            clear A150
            replace H := Option.bind_eq_some_iff.mp H
            obtain ⟨t270, A160, H⟩ := H
            replace H : (if t269.toList = t270.toList then ((bastionref17_Same.f k y262 l0).bind fun t271 => (if t271 = true then ((bastionlaw18_awake.f k).bind fun t272 => (some t272)) else (none))) else (none)) = some r := H
            have A16 := Aside0.mk A160
            clear A160
            by_cases c17 : t269.toList = t270.toList
            · rw [if_pos c17] at H
              have c17b0 : (t269.toList == t270.toList) = true := beq_iff_eq.mpr c17
              have c17b1 : (t269.toList != t270.toList) = false := bne_eq_false_iff_eq.mpr c17
              clear c17
              replace H := Option.bind_eq_some_iff.mp H
              obtain ⟨t271, A180, H⟩ := H
              replace H : (if t271 = true then ((bastionlaw18_awake.f k).bind fun t272 => (some t272)) else (none)) = some r := H
              have A18 := Aside0.mk A180
              clear A180
              by_cases c19 : t271 = true
              · subst c19
                have H1 : ((bastionlaw18_awake.f k).bind fun t272 => (some t272)) = some r := by rw [if_pos rfl] at H; exact H
                clear H
                have H := H1
                clear H1
                replace H := Option.bind_eq_some_iff.mp H
                obtain ⟨t272, A200, H⟩ := H
                replace H : (some t272) = some r := H
                have A20 := Aside0.mk A200
                clear A200
                obtain rfl := Option.some.inj H
                go_enter Try.func7, Try.ntmps7
                go_wp2_with (first | ((with_reducible refine gate_callee (f := 28) rfl ?_); refine goesL_ (some 11) rfl rfl Try.func28 (by kernel_rfl) rfl #[.slice A0 l0.length c0] rfl (by (try simp only [List.map_toArray, List.map_cons, List.map_nil]); first | done | rfl | (simp only [List.length_drop, List.length_take]; rfl)) ?_; (with_reducible refine (bastionlaw18_large.calls k _ _ l0 false _ ?side1 ?side2 A3.out).mono ?_); (case side1 => repeat (first | exact HR0.out | (with_reducible refine Kd.C_alloc ?_ _) | (with_reducible refine Kd.C_drewN ?_ _) | (with_reducible refine Kd.C_drew ?_))); (case side2 => exact HC0.out); rintro e w' ⟨rfl, ⟨nd, rfl⟩⟩; refine ⟨_, rfl, ?_⟩) | ((with_reducible refine gate_dst (N := 18) rfl ?_); (try (refine gate_guard (by rfl) ?_; dsimp only)); refine Kd.R_lit k33 _ 33 ?hg (N := 18) ?hd (xs := ([] : List (S33))) (inner := []) (ok := fun _ => True) (okp := fun _ => True) ?hr ?hp (fun _ hk => hk) trivial (Below.refl _ _) (Nat.le_refl _) (by simp) ?_; (case hd => rfl); (case hg => rfl); (case hr => first | (go_simp; done) | (go_simp; rfl)); (case hp => exact (Reps.none _ _)); intro v260 w21 ho22 hb hg_ hnew_; clear hg_ hnew_; (first | rw [← Ny259.out] at ho22 | (simp only [Int.reduceToNat] at ho22; rw [← Ny259.out] at ho22)); have n0_ := Aside0.mk (Kd.R_lower ho22 (below_size (by repeat (first | (with_reducible first | exact HB.out | apply below_alloc | apply pw_below_drewN | apply below_drew1) | exact HB.out)))); have n1_ := Aside0.mk (below_step (by repeat (first | (with_reducible first | exact HB.out | apply below_alloc | apply pw_below_drewN | apply below_drew1) | exact HB.out)) hb); clear HB; have HO261 := n0_; have HB := n1_; clear n0_ n1_; clear hb ho22) | ((with_reducible refine gate_builtin (b := .append) (xs := #[.tmp 18, .tmp 19]) rfl ?_); (try (refine gate_guard (by rfl) ?_; dsimp only)); at_builtin; refine Kd.R_append_rows k33 (w0 := w) w.heap.size rfl (.tmp 18) (.tmp 19) 22 33 (.agg #[(.string ⟨#[]⟩), (.string ⟨#[]⟩)]) 32 rfl Try.underlying22 info33 rfl (by decide) (by omega) v260 y259 l0 _ _ _ (fun _ => True) (fun _ => False) rfl rfl ?aO ?aR (fun _ _ h => h) (fun _ h => h.elim) ?aF ?aB ?aS ?aL ?_; (case aR => repeat (first | exact (Kd.C_below HR0.out HB.out) | (with_reducible refine Kd.C_alloc ?_ _) | (with_reducible refine Kd.C_drewN ?_ _) | (with_reducible refine Kd.C_drew ?_))); (case aB => exact (by repeat (first | (with_reducible first | exact HB.out | apply below_alloc | apply pw_below_drewN | apply below_drew1) | exact HB.out))); (case aF => exact (fun _ _ => trivial)); (case aO => exact (by (with_reducible repeat (first | apply Kd.R_alloc | apply Kd.R_drewN | apply Kd.R_drew)); exact HO261.out)); (case aS => exact (below_size (by repeat (first | (with_reducible first | exact HB.out | apply below_alloc | apply pw_below_drewN | apply below_drew1) | exact HB.out)))); (case aL => have := LMc10.out; omega); intro v263 w23 ho hb hg hat; rw [← Ny262.out] at ho; have n0_ := Aside0.mk (hb); have n1_ := Aside0.mk (ho); clear HB; clear HO261; have HB := n0_; have HO264 := n1_; clear n0_ n1_; clear ho hb hg hat; obtain ⟨Ao24, co24, eo24⟩ := Kd.R_slice HO264.out; subst eo24) | ((with_reducible refine gate_callee (f := 30) rfl ?_); refine goesL_ (some 23) rfl rfl Try.func30 (by kernel_rfl) rfl #[.slice Ao24 y262.length co24] rfl (by (try simp only [List.map_toArray, List.map_cons, List.map_nil]); first | done | rfl | (simp only [List.length_drop, List.length_take]; rfl)) ?_; (with_reducible refine (pack_Pack.calls k _ _ y262 t265 t266 _ ?side1 ?side2 A11.out).mono ?_); (case side1 => repeat (first | exact (Kd.R_reads' HO264.out).2.2 | (with_reducible refine Kd.C_alloc ?_ _) | (with_reducible refine Kd.C_drewN ?_ _) | (with_reducible refine Kd.C_drew ?_))); (case side2 => exact (Kd.R_reads' HO264.out).2.1); rintro e w25 ⟨rfl, hb⟩; refine ⟨_, rfl, ?_⟩; have n0_ := Aside0.mk (Kd.R_below (by (with_reducible repeat (first | apply Kd.R_alloc | apply Kd.R_drewN | apply Kd.R_drew)); exact HO264.out) hb); have n1_ := Aside0.mk (below_step (by repeat (first | (with_reducible first | exact HB.out | apply below_alloc | apply pw_below_drewN | apply below_drew1) | exact HB.out)) hb); clear HO264; clear HB; have HO264 := n0_; have HB := n1_; clear n0_ n1_; (try clear hb); (try clear hb2); (try clear hk); (try clear hi)) | ((with_reducible refine gate_callee (f := 31) rfl ?_); refine goesL_ (some 28) rfl rfl Try.func31 (by kernel_rfl) rfl #[.slice A0 l0.length c0] rfl (by (try simp only [List.map_toArray, List.map_cons, List.map_nil]); first | done | rfl | (simp only [List.length_drop, List.length_take]; rfl)) ?_; (with_reducible refine (bastionref18_Pack.calls k _ _ l0 t267 t268 _ ?side1 ?side2 A12.out).mono ?_); (case side1 => repeat (first | exact (Kd.C_below HR0.out HB.out) | (with_reducible refine Kd.C_alloc ?_ _) | (with_reducible refine Kd.C_drewN ?_ _) | (with_reducible refine Kd.C_drew ?_))); (case side2 => exact HC0.out); rintro e w26 ⟨rfl, hb⟩; refine ⟨_, rfl, ?_⟩; have n0_ := Aside0.mk (Kd.R_below (by (with_reducible repeat (first | apply Kd.R_alloc | apply Kd.R_drewN | apply Kd.R_drew)); exact HO264.out) hb); have n1_ := Aside0.mk (below_step (by repeat (first | (with_reducible first | exact HB.out | apply below_alloc | apply pw_below_drewN | apply below_drew1) | exact HB.out)) hb); clear HO264; clear HB; have HO264 := n0_; have HB := n1_; clear n0_ n1_; (try clear hb); (try clear hb2); (try clear hk); (try clear hi)) | (go_at_call 32; (with_reducible refine (pack_Runs.calls a1 t269 _ A15.out).mono ?_); rintro e w27 ⟨rfl, hb⟩; have n0_ := Aside0.mk (Kd.R_below (by (with_reducible repeat (first | apply Kd.R_alloc | apply Kd.R_drewN | apply Kd.R_drew)); exact HO264.out) hb); have n1_ := Aside0.mk (below_step (by repeat (first | (with_reducible first | exact HB.out | apply below_alloc | apply pw_below_drewN | apply below_drew1) | exact HB.out)) hb); clear HO264; clear HB; have HO264 := n0_; have HB := n1_; clear n0_ n1_; (try clear hb); (try clear hb2); (try clear hk); (try clear hi)) | (go_at_call 33; (with_reducible refine (bastionref18_Runs.calls k a1 t270 _ A16.out).mono ?_); rintro e w28 ⟨rfl, hb⟩; have n0_ := Aside0.mk (Kd.R_below (by (with_reducible repeat (first | apply Kd.R_alloc | apply Kd.R_drewN | apply Kd.R_drew)); exact HO264.out) hb); have n1_ := Aside0.mk (below_step (by repeat (first | (with_reducible first | exact HB.out | apply below_alloc | apply pw_below_drewN | apply below_drew1) | exact HB.out)) hb); clear HO264; clear HB; have HO264 := n0_; have HB := n1_; clear n0_ n1_; (try clear hb); (try clear hb2); (try clear hk); (try clear hi)) | (go_at_call 27; (with_reducible refine (bastionref17_Same.calls k _ _ y262 _ _ l0 true _ ?side1 ?side2 ?side3 ?side4 A18.out).mono ?_); (case side1 => repeat (first | exact (Kd.R_reads' HO264.out).2.2 | (with_reducible refine Kd.C_alloc ?_ _) | (with_reducible refine Kd.C_drewN ?_ _) | (with_reducible refine Kd.C_drew ?_))); (case side2 => exact (Kd.R_reads' HO264.out).2.1); (case side3 => repeat (first | exact (Kd.C_below HR0.out HB.out) | (with_reducible refine Kd.C_alloc ?_ _) | (with_reducible refine Kd.C_drewN ?_ _) | (with_reducible refine Kd.C_drew ?_))); (case side4 => exact HC0.out); rintro e w' ⟨rfl, ⟨nd, rfl⟩⟩) | (go_at_call 29; (with_reducible refine (bastionlaw18_awake.calls k  t272 _ A20.out).mono ?_); rintro e w29 ⟨rfl, hb⟩; have n0_ := Aside0.mk (Kd.R_below (by (with_reducible repeat (first | apply Kd.R_alloc | apply Kd.R_drewN | apply Kd.R_drew)); exact HO264.out) hb); have n1_ := Aside0.mk (below_step (by repeat (first | (with_reducible first | exact HB.out | apply below_alloc | apply pw_below_drewN | apply below_drew1) | exact HB.out)) hb); clear HO264; clear HB; have HO264 := n0_; have HB := n1_; clear n0_ n1_; (try clear hb); (try clear hb2); (try clear hk); (try clear hi)))
                go_ret
                exact ⟨by first | rfl | (simp [errW_none, errW_some] <;> rfl) | (simp [*, errW_none, errW_some] <;> rfl), by repeat (first | (with_reducible first | exact HB.out | apply below_alloc | apply pw_below_drewN | apply below_drew1) | exact HB.out)⟩
              · replace c19 := Bool.eq_false_iff.mpr c19
                subst c19
                have H1 : (none) = some r := by rw [if_neg (show ¬ (false = true) by decide)] at H; exact H
                clear H
                have H := H1
                clear H1
                exact absurd H (by simp)
            · rw [if_neg c17] at H
              exact absurd H (by simp)
          · rw [if_neg c14] at H
            exact absurd H (by simp)
        · rw [if_neg c13] at H
          exact absurd H (by simp)
      · rw [if_neg c10] at H
        exact absurd H (by simp)

end Go.Proofs.Ytgbkoeinfhlpoaa.F
