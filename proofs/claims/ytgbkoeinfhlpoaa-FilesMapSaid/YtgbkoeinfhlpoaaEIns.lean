/- slices.Insert of one file into a row of the call's own: the walks. -/
import Derived.Test.YtgbkoeinfhlpoaaEInsA
import Derived.Shelf.Spec.SlicesInsert
namespace Go.Proofs.Ytgbkoeinfhlpoaa.F
open Go.RowKit Go.Shelf Go.Proofs Go.Proofs.YtgbkoeinfhlpoaaW.PrintWords Go.Proofs.YtgbkoeinfhlpoaaW.PrintLast Go.Proofs.YtgbkoeinfhlpoaaW.PrintMore
set_option linter.unusedVariables false
set_option linter.unusedSimpArgs false

set_option maxHeartbeats 4000000 in
set_option maxRecDepth 100000 in
/-- At the end. -/
theorem Insert_end (base : Nat) (v : Value) (l : List S33) (x : S33) (B : Nat) (w : World) (hr : Kd.R k33 33 w base (fun _ => True) v l) (hB : w.heap[B]? = some (.cells #[.string x.f0, .string x.f1] 33 (0, 0))) (hbase : base ≤ w.heap.size) (hl : l.length ≤ 1000000) :
    Calls Try.prog 56 #[v, .int .i64 l.length, .slice (some ⟨B, 0, none⟩) 1 1] w fun e w' => ∃ v', e = .returned v' ∧ Kd.R k33 33 w' base (fun _ => True) v' (l ++ [x]) ∧ Below base w w' := by
  have hu33 := Try.underlying33
  obtain ⟨A, c, rfl, hc, _⟩ := Kd.R_reads hr
  have hcz : (l.length : Int) ≤ (c : Int) := by omega
  have HR := Aside0.mk hr
  have HX := Aside0.mk (lit_C hB)
  clear hr hB
  by_cases hcl : c = l.length
  · subst hcl
    go_enter Try.func56, Try.ntmps56
    go_wp2_with (at_builtin; refine Kd.R_append_rows k33 (w0 := w) base rfl (.tmp 23) (.tmp 24) 22 33 (.agg #[.string ⟨#[]⟩, .string ⟨#[]⟩]) 32 rfl Try.underlying22 info33 rfl (by decide) (by omega) _ l [x] (some ⟨B, 0, none⟩) 1 1 (fun _ => True) (fun _ => False) rfl rfl HR.out HX.out (fun _ _ h => K_M h) (fun _ h => h.elim) (fun _ _ => trivial) (Below.refl _ _) hbase (by omega) ?_; intro v1 w1 hR1 hB1 _ _)
    go_ret
    exact ⟨_, rfl, hR1, hB1⟩
  · go_enter Try.func56, Try.ntmps56
    go_wp2_with (at_builtin; refine Kd.R_append_rows k33 (w0 := w) base rfl (.tmp 23) (.tmp 24) 22 33 (.agg #[.string ⟨#[]⟩, .string ⟨#[]⟩]) 32 rfl Try.underlying22 info33 rfl (by decide) (by omega) _ l [x] (some ⟨B, 0, none⟩) 1 1 (fun _ => True) (fun _ => False) rfl rfl HR.out HX.out (fun _ _ h => K_M h) (fun _ h => h.elim) (fun _ _ => trivial) (Below.refl _ _) hbase (by omega) ?_; intro v1 w1 hR1 hB1 _ _)
    go_ret
    exact ⟨_, rfl, hR1, hB1⟩

set_option maxHeartbeats 4000000 in
set_option maxRecDepth 100000 in
/-- There is room: in place. -/
theorem Insert_shift (base g cap : Nat) (l : List S33) (i : Nat) (x : S33) (B : Nat) (w : World) (cur : Array Value) (hr : OwnF w base g cap cur l) (hB : w.heap[B]? = some (.cells #[.string x.f0, .string x.f1] 33 (0, 0))) (hBg : B ≠ g) (hbase : base ≤ w.heap.size) (hl : l.length ≤ 1000000) (hi : i < l.length) (hroom : l.length + 1 ≤ cap) :
    Calls Try.prog 56 #[.slice (some ⟨g, 0, none⟩) l.length cap, .int .i64 i, .slice (some ⟨B, 0, none⟩) 1 1] w fun e w' => ∃ v', e = .returned v' ∧ Kd.R k33 33 w' base (fun _ => True) v' (l.take i ++ x :: l.drop i) ∧ Below base w w' := by
  have hu33 := Try.underlying33
  have mixed : Try.prog.follows Departure.mixedOrders = true := by kernel_rfl
  have hcap : cap ≤ 9223372036854775807 := by have := hr.max; unfold maxLen at this; omega
  obtain ⟨c1, H1⟩ := hr.drew.storePast (l.drop i) (i + 1) (by omega) (by simp only [List.length_drop]; omega)
  have hl1 : (l.take (i + 1) ++ l.drop i).length = l.length + 1 := by simp only [List.length_append, List.length_take, List.length_drop]; omega
  obtain ⟨c2, H2⟩ := H1.store [x] i (by rw [hl1]; simp; omega)
  have hl2 : (l.take (i + 1) ++ l.drop i).take i ++ [x] ++ (l.take (i + 1) ++ l.drop i).drop (i + [x].length) = l.take i ++ x :: l.drop i := by
    rw [List.take_append_of_le_length (by simp only [List.length_take]; omega), List.take_take, Nat.min_eq_left (by omega), List.length_singleton, List.drop_left' (by simp only [List.length_take]; omega)]
    simp
  rw [hl2] at H2
  have hcp1 : ∀ ty dl dc sl sc, min sl dl = l.length - i → (Builtin.copy_ #[22, 22] ty #[.slice (some ⟨g, (i + 1) * 2, none⟩) dl dc, .slice (some ⟨g, i * 2, none⟩) sl sc]).run Try.prog w.drew = .ok (goInt (Nat.min sl dl)) (w.drew.setCells g ((i + 1) * 2) (flatF (l.drop i))) := fun ty dl dc sl sc hm =>
    copy33 w.drew ty g _ _ dc ⟨g, i * 2, none⟩ _ sc (flatF (l.drop i)) (by simp only [flatF_len, List.length_drop]; show _ = min _ _ * 2; omega)
      (fun j v hj => by rw [Addr.add_lit]; exact hr.drew.cell _ v (by rw [← List.getElem?_drop, flatF_drop]; exact hj))
      (fun j hj => hr.drew.room _ (by rw [flatF_len, List.length_drop] at hj; omega)) (fun j hj => hr.drew.plain _) (flatF_one _)
  obtain ⟨W1, hW1⟩ : ∃ W1, W1 = w.drew.setCells g ((i + 1) * 2) (flatF (l.drop i)) := ⟨_, rfl⟩
  have hb1 : Below base w W1 := by rw [hW1]; exact (pw_below_drewN (Below.refl _ _) 1).trans (below_put hr.base _ _)
  rw [← hW1] at hcp1 H1 H2
  have hBW : W1.heap[B]? = some (.cells #[.string x.f0, .string x.f1] 33 (0, 0)) := by rw [hW1, setCells_far _ _ B hBg]; exact hB
  have hcp2 : ∀ ty dc, (Builtin.copy_ #[22, 22] ty #[.slice (some ⟨g, i * 2, none⟩) (l.length + 1 - i) dc, .slice (some ⟨B, 0, none⟩) 1 1]).run Try.prog W1 = .ok (goInt (Nat.min 1 (l.length + 1 - i))) (W1.setCells g (i * 2) (flatF [x])) := fun ty dc =>
    copy33 W1 ty g _ _ dc ⟨B, 0, none⟩ 1 1 (flatF [x]) (by simp only [flatF_len, List.length_singleton]; show _ = min _ _ * 2; omega)
      (fun j v hj => by rw [Addr.add_lit, Nat.zero_add, cell_of_row W1 B j _ _ _ hBW, ← hj]; simp [flatF, encF])
      (fun j hj => H1.room _ (by rw [flatF_len, List.length_singleton] at hj; omega)) (fun j hj => H1.plain _) (flatF_one _)
  have hov : ∀ lb cb, (callFunc 91 #[.slice (some ⟨B, 0, none⟩) 1 1, .slice (some ⟨g, (i + 1) * 2, none⟩) lb cb]).run Try.prog w = .ok (.value (.bool false)) w := fun lb cb => by
    rw [run_callFunc_extern Try.func91 (by kernel_rfl) (by kernel_rfl) (by kernel_rfl) (e := Extern.SlicesOverlaps.overlaps #[22, 22] #[4]) (by kernel_rfl),
      Lib.run_overlaps_apart w 22 4 33 Try.underlying22 2 size33 ⟨B, 0, none⟩ ⟨g, (i + 1) * 2, none⟩ 1 1 lb cb hBg 33 33 2 (cap * 2) (by simp [World.shape?, hB]) (by simp [World.shape?, hr.blk, hr.size]) (by omega) (by simp [World.frozen?, hB]) (by simp [World.frozen?, hB])]
    rfl
  have HE := Aside0.mk (show Kd.R k33 33 (W1.setCells g (i * 2) (flatF [x])) base (fun _ => True) (.slice (some ⟨g, 0, none⟩) (l.length + 1) cap) (l.take i ++ x :: l.drop i) ∧ Below base w (W1.setCells g (i * 2) (flatF [x])) by
    refine ⟨?_, hb1.trans (below_put hr.base _ _)⟩
    have := R_of H2
    rwa [show (l.take i ++ x :: l.drop i).length = l.length + 1 by simp only [List.length_append, List.length_take, List.length_cons, List.length_drop]; omega] at this)
  have HC1 := Aside0.mk hcp1
  have hw1 : IntKind.i64.wrap ((i : Int) + 1) = (i : Int) + 1 := by rw [IntKind.wrap_i64]; omega
  have hw2 : IntKind.i64.wrap ((l.length : Int) + 1) = (l.length : Int) + 1 := by rw [IntKind.wrap_i64]; omega
  have hz2 : ¬ ((i : Int) = (l.length : Int)) := by omega
  have hz3 : ¬ ((cap : Int) < (l.length : Int) + 1) := by omega
  have hz4 : (l.length : Int) + 1 ≤ (cap : Int) := by omega
  have hz5 : (0 : Int) ≤ (l.length : Int) + 1 := by omega
  have hz6 : (0 : Int) ≤ (i : Int) + 1 := by omega
  have hz7 : (i : Int) + 1 ≤ (l.length : Int) + 1 := by omega
  have hz8 : (i : Int) ≤ (l.length : Int) + 1 := by omega
  have hz9 : (i : Int) ≤ (l.length : Int) := by omega
  have hz10 : ((i : Int) + 1).toNat = i + 1 := by omega
  have hz11 : ((l.length : Int) + 1).toNat = l.length + 1 := by omega
  have hz12 : ¬ (cap = i + 1) := by omega
  have hz13 : ¬ (cap = i) := by omega
  have HW := Aside0.mk hW1
  have HR := Aside0.mk hr
  have HB1 := Aside0.mk H1
  have HB2 := Aside0.mk H2
  clear hW1 hr H1 H2 hb1 hBW hB hl1 hl2 hcp1
  go_enter Try.func56, Try.ntmps56
  go_wp2_with (simp only [hov])
  go_region_law_o (refine step_copy_runI rfl _ _ 22 22 rfl (.slice (some ⟨g, (i + 1) * 2, none⟩) (l.length + 1 - (i + 1)) (cap - (i + 1))) (.slice (some ⟨g, i * 2, none⟩) (l.length + 1 - i) (cap - i)) (by simp [Act.eval, Act.put]) (by simp [Act.eval, Act.put]) (HC1.out _ _ _ _ _ (by omega)) ?_)
  go_wp2_with (at_builtin; refine wpList_copy_runI _ rfl _ _ 22 22 rfl _ _ rfl rfl (hcp2 _ _) ?_)
  go_ret
  exact ⟨_, rfl, HE.out.1, HE.out.2⟩

set_option maxHeartbeats 4000000 in
set_option maxRecDepth 100000 in
/-- There is no room: a new row. -/
theorem Insert_grow (base g cap : Nat) (l : List S33) (i : Nat) (x : S33) (B : Nat) (w : World) (cur : Array Value) (hr : OwnF w base g cap cur l) (hB : w.heap[B]? = some (.cells #[.string x.f0, .string x.f1] 33 (0, 0))) (hbase : base ≤ w.heap.size) (hl : l.length ≤ 1000000) (hi : i < l.length) (hroom : cap < l.length + 1) :
    Calls Try.prog 56 #[.slice (some ⟨g, 0, none⟩) l.length cap, .int .i64 i, .slice (some ⟨B, 0, none⟩) 1 1] w fun e w' => ∃ v', e = .returned v' ∧ Kd.R k33 33 w' base (fun _ => True) v' (l.take i ++ x :: l.drop i) ∧ Below base w w' := by
  have hu33 := Try.underlying33
  have mixed : Try.prog.follows Departure.mixedOrders = true := by kernel_rfl
  obtain rfl : cap = l.length := by have := hr.len; omega
  have hgw : g < w.heap.size := hr.lt
  have hBw : B < w.heap.size := (Array.getElem?_eq_some_iff.1 hB).1
  obtain ⟨i0, hi0, hz0, hzs, hzb⟩ := info_parts info33
  have hold : (Builtin.firstCells i0.size i (.slice (some ⟨g, 0, none⟩) i l.length)).run Try.prog w.drew = .ok (flatF (l.take i)).toArray w.drew := by
    rw [hzs]
    exact run_firstCells_some w.drew 2 i ⟨g, 0, none⟩ i l.length (flatF (l.take i)) (by rw [flatF_len, List.length_take]; omega) (fun j v hj => by
      rw [Addr.add_lit, Nat.zero_add]
      refine hr.drew.cell j v ?_
      rw [← flatF_take, List.getElem?_take] at hj
      split at hj
      · exact hj
      · cases hj)
  obtain ⟨G, hG⟩ : ∃ G, G = grownCap w (l.length + 1) l.length 33 := ⟨_, rfl⟩
  have hGn : l.length + 1 ≤ G := by rw [hG]; exact grownCap_ge w _ _ _
  have hGm : G ≤ maxLen := by rw [hG]; exact grownCap_le_maxLen w (l.length + 1) l.length 33 (by unfold maxLen; omega)
  have hG63 : G ≤ 9223372036854775807 := by unfold maxLen at hGm; omega
  obtain ⟨ROW, hROW⟩ : ∃ ROW : Array Value, ROW = (flatF (l.take i)).toArray ++ Builtin.zeroCells (Value.agg #[.string ⟨#[]⟩, .string ⟨#[]⟩]).cells (l.length + 1 - i) ++ Builtin.zeroCells (Value.agg #[.string ⟨#[]⟩, .string ⟨#[]⟩]).cells (G - (l.length + 1)) := ⟨_, rfl⟩
  have hRL : ROW.toList = flatF (l.take i ++ List.replicate (l.length + 1 - i) z33) ++ flatF (List.replicate (G - (l.length + 1)) z33) := by
    rw [hROW, Array.toList_append, Array.toList_append, zeros_flat, zeros_flat, flatF_append]
  have hLL : (l.take i ++ List.replicate (l.length + 1 - i) z33).length = l.length + 1 := by simp only [List.length_append, List.length_take, List.length_replicate]; omega
  have hrz : ∀ ty, (Builtin.append_ #[22, 3] ty #[.slice (some ⟨g, 0, none⟩) i l.length, .int .i64 ((l.length : Int) + 1 - (i : Int))]).run Try.prog w = .ok (.slice (some ⟨w.heap.size, 0, none⟩) (l.length + 1) G) ((w.alloc (.cells ROW 33)).drew) := fun ty => by
    have h := Lib.run_append_grow_zeros w 22 3 ty 33 i0 _ .i64 .i64 Try.underlying22 Try.underlying3 hi0 hz0 (some ⟨g, 0, none⟩) i l.length (flatF (l.take i)) hold (l.length + 1 - i) (by omega) (by omega) (by omega) (by omega) (by rw [hzb]; omega) (by rw [hzb, show i + (l.length + 1 - i) = l.length + 1 by omega]; exact growslice_fits (by omega) (by omega))
    rw [show i + (l.length + 1 - i) = l.length + 1 by omega, ← hG, ← hROW] at h
    rw [show (l.length : Int) + 1 - (i : Int) = ((l.length + 1 - i : Nat) : Int) by omega]
    exact h
  have H0 : OwnF ((w.alloc (.cells ROW 33)).drew) base w.heap.size G ROW (l.take i ++ List.replicate (l.length + 1 - i) z33) := by
    refine ⟨?_, hbase, by rw [hLL]; exact hGn, hGm, ?_, ?_⟩
    · show (w.heap.push _)[w.heap.size]? = _
      rw [Array.getElem?_push_size]
    · have := congrArg List.length hRL
      rw [List.length_append, flatF_len, flatF_len, hLL, List.length_replicate] at this
      simp only [Array.length_toList] at this
      omega
    · rw [hRL, List.take_left' (by rw [flatF_len])]
  obtain ⟨c1, H1⟩ := H0.store [x] i (by rw [hLL]; simp; omega)
  have hl1 : ((l.take i ++ List.replicate (l.length + 1 - i) z33).take i ++ [x] ++ (l.take i ++ List.replicate (l.length + 1 - i) z33).drop (i + [x].length)).length = l.length + 1 := by
    simp only [List.length_append, List.length_take, List.length_drop, List.length_replicate, List.length_singleton]; omega
  have ht1 : ((l.take i ++ List.replicate (l.length + 1 - i) z33).take i ++ [x] ++ (l.take i ++ List.replicate (l.length + 1 - i) z33).drop (i + [x].length)).take (i + 1) = l.take i ++ [x] := by
    rw [List.take_left' (by simp only [List.length_append, List.length_take, List.length_replicate, List.length_singleton]; omega), List.take_left' (by simp only [List.length_take]; omega)]
  obtain ⟨c2, H2⟩ := H1.drew.storePast (l.drop i) (i + 1) (by rw [hl1]; omega) (by simp only [List.length_drop]; omega)
  rw [ht1, show l.take i ++ [x] ++ l.drop i = l.take i ++ x :: l.drop i by simp] at H2
  have hcpA : ∀ ty dc, (Builtin.copy_ #[22, 22] ty #[.slice (some ⟨w.heap.size, i * 2, none⟩) (l.length + 1 - i) dc, .slice (some ⟨B, 0, none⟩) 1 1]).run Try.prog ((w.alloc (.cells ROW 33)).drew) = .ok (goInt (Nat.min 1 (l.length + 1 - i))) (((w.alloc (.cells ROW 33)).drew).setCells w.heap.size (i * 2) (flatF [x])) := fun ty dc =>
    copy33 _ ty _ _ _ dc ⟨B, 0, none⟩ 1 1 (flatF [x]) (by simp only [flatF_len, List.length_singleton]; show _ = min _ _ * 2; omega)
      (fun j v hj => by rw [Addr.add_lit, Nat.zero_add]; show (w.alloc _).cell? _ = _; rw [World.cell?_alloc_past (w := w) _ B j hBw]; rw [cell_of_row w B j _ _ _ hB, ← hj]; simp [flatF, encF])
      (fun j hj => H0.room _ (by rw [flatF_len, List.length_singleton] at hj; omega)) (fun j hj => H0.plain _) (flatF_one _)
  obtain ⟨W1, hW1⟩ : ∃ W1, W1 = (((w.alloc (.cells ROW 33)).drew).setCells w.heap.size (i * 2) (flatF [x])) := ⟨_, rfl⟩
  rw [← hW1] at hcpA H1 H2
  have hb1 : Below base w W1 := by rw [hW1]; exact (pw_below_drewN ((Below.refl _ _).alloc hbase _) 1).trans (below_put hbase _ _)
  have hgc : ∀ j v, (flatF (l.drop i))[j]? = some v → W1.drew.cell? ⟨g, i * 2 + j, none⟩ = some v := fun j v hj => by
    show W1.cell? _ = _
    rw [hW1, World.cell?_setCells_out _ _ _ _ _ (fun h _ => absurd h (by show ¬ g = w.heap.size; omega)), show ((w.alloc (.cells ROW 33)).drew).cell? _ = (w.alloc (.cells ROW 33)).cell? _ from rfl, World.cell?_alloc_past (w := w) _ g _ hgw]
    exact hr.drew.cell _ v (by rw [← List.getElem?_drop, flatF_drop]; exact hj)
  have hcpB : ∀ ty dc sc, (Builtin.copy_ #[22, 22] ty #[.slice (some ⟨w.heap.size, (i + 1) * 2, none⟩) (l.length + 1 - (i + 1)) dc, .slice (some ⟨g, i * 2, none⟩) (l.length - i) sc]).run Try.prog W1.drew = .ok (goInt (Nat.min (l.length - i) (l.length + 1 - (i + 1)))) (W1.drew.setCells w.heap.size ((i + 1) * 2) (flatF (l.drop i))) := fun ty dc sc =>
    copy33 W1.drew ty _ _ _ dc ⟨g, i * 2, none⟩ _ sc (flatF (l.drop i)) (by simp only [flatF_len, List.length_drop]; show _ = min _ _ * 2; omega)
      (fun j v hj => by rw [Addr.add_lit]; exact hgc j v hj)
      (fun j hj => H1.drew.room _ (by rw [flatF_len, List.length_drop] at hj; omega)) (fun j hj => H1.drew.plain _) (flatF_one _)
  have HE := Aside0.mk (show Kd.R k33 33 (W1.drew.setCells w.heap.size ((i + 1) * 2) (flatF (l.drop i))) base (fun _ => True) (.slice (some ⟨w.heap.size, 0, none⟩) (l.length + 1) G) (l.take i ++ x :: l.drop i) ∧ Below base w (W1.drew.setCells w.heap.size ((i + 1) * 2) (flatF (l.drop i))) by
    refine ⟨?_, (pw_below_drewN hb1 1).trans (below_put hbase _ _)⟩
    have := R_of H2
    rwa [show (l.take i ++ x :: l.drop i).length = l.length + 1 by simp only [List.length_append, List.length_take, List.length_cons, List.length_drop]; omega] at this)
  have HCB := Aside0.mk hcpB
  have hw1 : IntKind.i64.wrap ((i : Int) + 1) = (i : Int) + 1 := by rw [IntKind.wrap_i64]; omega
  have hw2 : IntKind.i64.wrap ((l.length : Int) + 1) = (l.length : Int) + 1 := by rw [IntKind.wrap_i64]; omega
  have hw3 : IntKind.i64.wrap ((l.length : Int) + 1 - (i : Int)) = (l.length : Int) + 1 - (i : Int) := by rw [IntKind.wrap_i64]; omega
  have hz2 : ¬ ((i : Int) = (l.length : Int)) := by omega
  have hz4 : (l.length : Int) < (l.length : Int) + 1 := by omega
  have hz6 : (0 : Int) ≤ (i : Int) + 1 := by omega
  have hz7 : (i : Int) + 1 ≤ (l.length : Int) + 1 := by omega
  have hz8 : (i : Int) ≤ (l.length : Int) + 1 := by omega
  have hz9 : (i : Int) ≤ (l.length : Int) := by omega
  have hz10 : ((i : Int) + 1).toNat = i + 1 := by omega
  have hz12 : ¬ (G = i + 1) := by omega
  have hz13 : ¬ (G = i) := by omega
  have hz14 : ¬ (l.length = i) := by omega
  have HW := Aside0.mk hW1
  clear hW1 hr H1 H2 hb1 hB hl1 hcpB hgc ht1 H0 hLL hRL hROW hG hold hi0 hz0 hzs hzb
  go_enter Try.func56, Try.ntmps56
  go_wp2_with (first
    | (at_builtin; refine Lib.wpList_append_run _ rfl _ _ _ _ rfl _ _ rfl rfl _ _ (hrz _) ?_)
    | (at_builtin; refine wpList_copy_runI _ rfl _ _ 22 22 rfl _ _ rfl rfl (hcpA _ _) ?_))
  go_region_law_o (refine step_copy_runI rfl _ _ 22 22 rfl (.slice (some ⟨w.heap.size, (i + 1) * 2, none⟩) (l.length + 1 - (i + 1)) (G - (i + 1))) (.slice (some ⟨g, i * 2, none⟩) (l.length - i) (l.length - i)) (by simp [Act.eval, Act.put]) (by simp [Act.eval, Act.put]) (HCB.out 3 (G - (i + 1)) (l.length - i)) ?_)
  go_wp2
  go_ret
  exact ⟨_, rfl, HE.out.1, HE.out.2⟩

end Go.Proofs.Ytgbkoeinfhlpoaa.F
