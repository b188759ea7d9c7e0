/- files.Lay. -/
import Derived.Test.YtgbkoeinfhlpoaaELayA
namespace Go.Proofs.Ytgbkoeinfhlpoaa.F
open Go.RowKit Go.Shelf Go.Proofs.YtgbkoeinfhlpoaaW.PrintWords Go.Proofs.YtgbkoeinfhlpoaaW.PrintLast Go.Proofs.YtgbkoeinfhlpoaaW.PrintMore
set_option linter.unusedVariables false
set_option linter.unusedSimpArgs false

set_option maxHeartbeats 2000000 in
set_option maxRecDepth 100000 in
theorem Lay_bad1 (A0 : Option Addr) (c0 : Nat) (l0 : List S33) (A1 : Option Addr) (c1 : Nat) (l1 : List S33) (w : World) (hr0 : Kd.C k33 w A0 l0.length l0) (h : checkE l0 ≠ 0) :
    Calls Try.prog 17 #[.slice A0 l0.length c0, .slice A1 l1.length c1] w fun e w' => e = .returned (.tuple #[.slice none 0 0, .int .i64 4]) ∧ Below w.heap.size w w' := by
  have hc := Check_calls A0 c0 l0 w hr0
  have d0 : (checkE l0 == 0) = false := beq_eq_false_iff_ne.mpr h
  have d1 : (checkE l0 != 0) = true := by simp [h]
  generalize checkE l0 = x at hc d0 d1 h
  clear hr0
  go_enter Try.func17, Try.ntmps17
  go_wp2_with (go_at_call 16; refine hc.mono ?_; rintro e w1 ⟨rfl, hb⟩)
  go_ret2
  exact ⟨rfl, hb⟩

set_option maxHeartbeats 2000000 in
set_option maxRecDepth 100000 in
theorem Lay_bad2 (A0 : Option Addr) (c0 : Nat) (l0 : List S33) (A1 : Option Addr) (c1 : Nat) (l1 : List S33) (w : World) (hr0 : Kd.C k33 w A0 l0.length l0) (hr1 : Kd.C k33 w A1 l1.length l1) (h0 : checkE l0 = 0) (h : checkE l1 ≠ 0) :
    Calls Try.prog 17 #[.slice A0 l0.length c0, .slice A1 l1.length c1] w fun e w' => e = .returned (.tuple #[.slice none 0 0, .int .i64 4]) ∧ Below w.heap.size w w' := by
  have hc := Check_calls A0 c0 l0 w hr0
  rw [h0] at hc
  have hc1 := Aside0.mk (fun (W : World) (hb : Below w.heap.size w W) => Check_calls A1 c1 l1 W (Kd.C_below hr1 hb))
  have d0 : (checkE l1 == 0) = false := beq_eq_false_iff_ne.mpr h
  have d1 : (checkE l1 != 0) = true := by simp [h]
  generalize checkE l1 = x at hc1 d0 d1 h
  clear hr0 hr1
  go_enter Try.func17, Try.ntmps17
  go_wp2_with fail
  refine hc.mono ?_
  rintro e w1 ⟨rfl, hb⟩
  go_wp2_with fail
  refine (hc1.out w1 hb).mono ?_
  rintro e w2 ⟨rfl, hb2⟩
  go_wp2_with fail
  go_ret2
  exact ⟨rfl, hb.trans (hb2.mono hb.size)⟩

set_option maxHeartbeats 4000000 in
set_option maxRecDepth 100000 in
theorem Lay_good (A0 : Option Addr) (c0 : Nat) (l0 : List S33) (A1 : Option Addr) (c1 : Nat) (l1 : List S33) (w : World) (hr0 : Kd.C k33 w A0 l0.length l0) (hr1 : Kd.C k33 w A1 l1.length l1) (h0 : checkE l0 = 0) (h1 : checkE l1 = 0) :
    Calls Try.prog 17 #[.slice A0 l0.length c0, .slice A1 l1.length c1] w fun e w' => ∃ v : Value, e = .returned (.tuple #[v, .int .i64 (layE l0 l1).2]) ∧ Kd.R k33 33 w' w.heap.size (fun _ => True) v (layE l0 l1).1 ∧ Below w.heap.size w w' := by
  have hu33 := Try.underlying33
  have G0 := Aside0.mk (good_of h0)
  have G1 := Aside0.mk (good_of h1)
  have hc := Check_calls A0 c0 l0 w hr0
  have hc1 := Aside0.mk (fun (W : World) (hb : Below w.heap.size w W) => Check_calls A1 c1 l1 W (Kd.C_below hr1 hb))
  have hcl := Aside0.mk (fun (W : World) (hb : Below w.heap.size w W) => Clone_calls A1 c1 l1 W (Kd.C_below hr1 hb) (by have := (good_of h1).len; omega))
  have hco := Aside0.mk (fun (W : World) (hb : Below w.heap.size w W) (f : S33) (B : Nat) (hf : f ∈ l0) (hB : B < W.heap.size) (hcell : W.cell? ⟨B, 0, none⟩ = some (.string f.f0)) =>
    ContainsFunc_calls 44 #[.pointer (some ⟨B, 0, none⟩)] (fun g => wayB f.p g.p) enters44 A1 c1 l1 W (Kd.C_below hr1 hb) (asks44 l1 f B W hB hcell (by have := path_short ((good_of h0).file f hf); omega) (fun x hx => by have := path_short ((good_of h1).file x hx); omega)))
  have HR := Aside0.mk hr0
  rw [h0] at hc
  rw [h1] at hc1
  clear hr0 hr1
  go_enter Try.func17, Try.ntmps17
  go_wp2_with fail
  refine hc.mono ?_
  rintro e w1 ⟨rfl, hb⟩
  go_wp2_with fail
  refine (hc1.out w1 hb).mono ?_
  rintro e w2 ⟨rfl, hb2⟩
  replace hb2 := Aside0.mk (hb.trans (hb2.mono hb.size))
  go_wp2_with fail
  refine (hcl.out w2 hb2.out).mono ?_
  rintro e w3 ⟨v, rfl, hv, hb3⟩
  replace hb3 := Aside0.mk (hb2.out.trans (hb3.mono hb2.out.size))
  replace hv := Aside0.mk (Kd.R_lower hv hb2.out.size)
  go_wp2_with fail
  go_loopg [6, 22] (l0.length + 1) (fun gg s6 s22 wr => ∃ (k : Nat) (u : Value), k ≤ l0.length ∧ l0.length - k ≤ gg ∧ s22 = .int .i64 k ∧ s6 = u ∧ Aside0 (Kd.R k33 33 wr w.heap.size (fun _ => True) u (l1 ++ (l0.take k).filter (fun f => !l1.any (fun g => wayB f.p g.p)))) ∧ Aside0 (Below w.heap.size w wr))
  case atStart => exact ⟨0, v, by omega, by omega, rfl, rfl, ⟨by simpa using hv.out⟩, hb3⟩
  case round =>
    obtain ⟨k, u, hk, hg, rfl, rfl, HV, HB⟩ := hrel
    by_cases hlt : k < l0.length
    · have hltz : (k : Int) < (l0.length : Int) := by omega
      obtain ⟨ad, e, hx0, hx1⟩ := at_T33 HR.out (k : Int) (by omega) (by omega)
      cases e
      rw [getD_rd, Int.toNat_natCast] at hx0 hx1
      replace hx0 := (HB.out.cell (World.block_lt_of_cell? w _ hx0)).trans hx0
      replace hx1 := (HB.out.cell (World.block_lt_of_cell? w _ hx1)).trans hx1
      have HT := Aside0.mk (show l0.take (k + 1) = l0.take k ++ [l0.getD k z33] by rw [List.take_add_one]; simp [hlt])
      have HM := Aside0.mk (show l0.getD k z33 ∈ l0 by simp [hlt])
      generalize l0.getD k z33 = y at hx0 hx1 HT HM
      have hB0 : Below w.heap.size w (wr.alloc (.cells #[.string y.f0, .string y.f1] 33)) := HB.out.alloc HB.out.size _
      have hcon := hco.out _ hB0 y wr.heap.size HM.out (by simp) (by simp)
      have HLEN := Aside0.mk (show (l1 ++ (l0.take k).filter (fun f => !l1.any (fun g => wayB f.p g.p))).length ≤ 1000 by
        have h1 := G0.out.len
        have h2 := G1.out.len
        have h3 := List.length_filter_le (fun f => !l1.any (fun g => wayB f.p g.p)) (l0.take k)
        rw [List.length_take] at h3
        rw [List.length_append]
        omega)
      cases hany : l1.any (fun g => wayB y.p g.p) with
      | true =>
        rw [hany] at hcon
        have HF := Aside0.mk (show (l0.take (k + 1)).filter (fun f => !l1.any (fun g => wayB f.p g.p)) = (l0.take k).filter (fun f => !l1.any (fun g => wayB f.p g.p)) by
          rw [HT.out, List.filter_append]
          simp [hany])
        clear hany
        go_wp2_with fail
        refine hcon.mono ?_
        rintro e w4 ⟨rfl, hb4⟩
        have HB4 := Aside0.mk (hB0.trans (hb4.mono hB0.size))
        have HV4 := Aside0.mk (Kd.R_below (Kd.R_alloc HV.out (.cells #[.string y.f0, .string y.f1] 33)) hb4)
        go_wp2_with fail
        go_roundg (l0.length - (k + 1))
        case measure => omega
        case rel => exact ⟨k + 1, u6, by omega, by omega, (by have := G0.out.len; congr 1; (try simp only [wrap64]); try omega), rfl, ⟨by rw [HF.out]; exact HV4.out⟩, HB4⟩
      | false =>
        rw [hany] at hcon
        have HF := Aside0.mk (show (l0.take (k + 1)).filter (fun f => !l1.any (fun g => wayB f.p g.p)) = (l0.take k).filter (fun f => !l1.any (fun g => wayB f.p g.p)) ++ [y] by
          rw [HT.out, List.filter_append]
          simp [hany])
        clear hany
        go_wp2_with fail
        refine hcon.mono ?_
        rintro e w4 ⟨rfl, hb4⟩
        have HB4 := Aside0.mk (hB0.trans (hb4.mono hB0.size))
        have HV4 := Aside0.mk (Kd.R_below (Kd.R_alloc HV.out (.cells #[.string y.f0, .string y.f1] 33)) hb4)
        have hy0 : w4.cell? ⟨wr.heap.size, 0, none⟩ = some (.string y.f0) := (hb4.cell (by simp)).trans (by simp)
        have hy1 : w4.cell? ⟨wr.heap.size, 1, none⟩ = some (.string y.f1) := (hb4.cell (by simp)).trans (by simp)
        clear hb4
        go_wp2_with (at_builtin; refine Kd.R_append k33 (w0 := w) w.heap.size rfl (.tmp 30) (.tmp 32) 22 33 (.agg #[.string ⟨#[]⟩, .string ⟨#[]⟩]) 32 rfl Try.underlying22 info33 rfl (by decide) (by omega) u6 _ y [.string y.f0, .string y.f1] (fun _ => True) (fun _ => False) rfl rfl (k33_mkM _ _ _ _) (fun _ h => h.elim) (fun _ _ => trivial) HV4.out HB4.out HB4.out.size (by have := HLEN.out; omega) ?_; intro v1 w5 hR1 hB1 _ _)
        go_roundg (l0.length - (k + 1))
        case measure => omega
        case rel => exact ⟨k + 1, v1, by omega, by omega, (by have := G0.out.len; congr 1; (try simp only [wrap64]); try omega), rfl, ⟨by rw [HF.out, ← List.append_assoc]; exact hR1⟩, ⟨hB1⟩⟩
    · have hltz : ¬ (k : Int) < (l0.length : Int) := by omega
      have hkk : k = l0.length := by omega
      subst hkk
      have HO := Aside0.mk (show l1 ++ (l0.take l0.length).filter (fun f => !l1.any (fun g => wayB f.p g.p)) = overF l0 l1 by rw [List.take_length]; rfl)
      rw [HO.out] at HV
      have HLEN := Aside0.mk (show (overF l0 l1).length ≤ 1000 by
        have h1 := G0.out.len
        have h2 := G1.out.len
        have h3 := List.length_filter_le (fun f => !l1.any (fun g => wayB f.p g.p)) l0
        unfold overF
        rw [List.length_append]
        omega)
      have HD := Aside0.mk (show ∀ f ∈ overF l0 l1, f.f1.size ≤ 4096 by
        intro f hf
        unfold overF at hf
        rcases List.mem_append.mp hf with hf | hf
        · exact data_short (G1.out.file f hf)
        · exact data_short (G0.out.file f (List.mem_filter.mp hf).1))
      have HA := Aside0.mk (over_apart G0.out.rising G1.out.rising)
      obtain ⟨A, c, rfl, hAc, hC⟩ := Kd.R_reads HV.out
      have hfull := full_calls A c (overF l0 l1) wr hC HD.out
      have hsort := Aside0.mk (fun (W : World) (hb : Below wr.heap.size wr W) => SortFunc_calls w.heap.size (.slice A (overF l0 l1).length c) (overF l0 l1) W (Kd.R_below HV.out hb) (by have := HLEN.out; omega))
      clear hC
      by_cases hf : fullE (overF l0 l1) = 0
      · have HE := Aside0.mk (show layE l0 l1 = ((overF l0 l1).mergeSort leF, 0) by unfold layE; rw [if_pos ⟨h0, h1⟩, if_pos hf])
        rw [hf] at hfull
        clear hf
        go_wp2_with (go_at_call 41; refine hfull.mono ?_; rintro e w4 ⟨rfl, hb4⟩)
        refine (hsort.out w4 hb4).mono ?_
        rintro e w5 ⟨rfl, l', hp, hs, hR, hb5⟩
        go_wp2_with fail
        go_ret2
        have he : l' = (overF l0 l1).mergeSort leF := sorted_one HA.out hp (List.mergeSort_perm _ _) hs (merge_sorted _)
        refine ⟨.slice A (overF l0 l1).length c, by rw [HE.out]; rfl, by rw [HE.out]; show Kd.R k33 33 w5 w.heap.size (fun _ => True) _ ((overF l0 l1).mergeSort leF); rw [← he]; exact hR, (HB.out.trans (hb4.mono HB.out.size)).trans hb5⟩
      · have HE := Aside0.mk (show layE l0 l1 = ([], 3) by unfold layE; rw [if_pos ⟨h0, h1⟩, if_neg hf])
        have hf3 : fullE (overF l0 l1) = 3 := by
          unfold fullE at hf ⊢
          by_cases hc : (overF l0 l1).length ≤ 64 ∧ sizeF (overF l0 l1) ≤ 16384
          · rw [if_pos hc] at hf; exact absurd rfl hf
          · rw [if_neg hc]
        rw [hf3] at hfull
        clear hf hf3
        go_wp2_with (go_at_call 41; refine hfull.mono ?_; rintro e w4 ⟨rfl, hb4⟩)
        go_ret2
        exact ⟨.slice none 0 0, by rw [HE.out]; rfl, by rw [HE.out]; exact Kd.R_nil _ _ _ _ _, HB.out.trans (hb4.mono HB.out.size)⟩

theorem files_Lay.calls (A0 : Option Addr) (c0 : Nat) (l0 : List S33) (A1 : Option Addr) (c1 : Nat) (l1 : List S33) (r1 : List S33) (r2 : Int) (w : World) (hr0 : Kd.C k33 w A0 l0.length l0) (hc0 : l0.length ≤ c0) (hr1 : Kd.C k33 w A1 l1.length l1) (hc1 : l1.length ≤ c1) (h : files_Lay.f l0 l1 = some (r1, r2)) :
    Calls Try.prog 17 #[.slice A0 l0.length c0, .slice A1 l1.length c1] w fun e w' => ∃ v0_ : Value, e = .returned (.tuple #[v0_, .int .i64 r2]) ∧ Kd.R k33 33 w' w.heap.size (fun _ => True) v0_ r1 ∧ Below w.heap.size w w' := by
  have H : layE l0 l1 = (r1, r2) := by simpa [files_Lay.f] using h
  by_cases h0 : checkE l0 = 0
  · by_cases h1 : checkE l1 = 0
    · refine (Lay_good A0 c0 l0 A1 c1 l1 w hr0 hr1 h0 h1).mono ?_
      rintro e w' ⟨v, he, hv, hb⟩
      rw [H] at he hv
      exact ⟨v, he, hv, hb⟩
    · have : layE l0 l1 = ([], 4) := by unfold layE; rw [if_neg (fun hc => h1 hc.2)]
      rw [this] at H
      cases H
      refine (Lay_bad2 A0 c0 l0 A1 c1 l1 w hr0 hr1 h0 h1).mono ?_
      rintro e w' ⟨rfl, hb⟩
      exact ⟨_, rfl, Kd.R_nil _ _ _ _ _, hb⟩
  · have : layE l0 l1 = ([], 4) := by unfold layE; rw [if_neg (fun hc => h0 hc.1)]
    rw [this] at H
    cases H
    refine (Lay_bad1 A0 c0 l0 A1 c1 l1 w hr0 h0).mono ?_
    rintro e w' ⟨rfl, hb⟩
    exact ⟨_, rfl, Kd.R_nil _ _ _ _ _, hb⟩

#print axioms files_Lay.calls

end Go.Proofs.Ytgbkoeinfhlpoaa.F
