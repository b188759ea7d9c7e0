/- slices.Insert of one file into a row of the call's own: the rows that the runs of stores leave. -/
/- slices.Insert of one file into a row of the call's own: the walks. -/
/- files.Put. -/
import Derived.Test.YtgbkoeinfhlpoaaERow
import Derived.Shelf.Spec.SlicesInsert
import Derived.Test.YtgbkoeinfhlpoaaEDel
import Derived.Test.YtgbkoeinfhlpoaaEAny
namespace Go.Proofs.Ytgbkoeinfhlpoaa.F
open Go.RowKit Go.Shelf Go.Proofs Go.Proofs.YtgbkoeinfhlpoaaW.PrintWords Go.Proofs.YtgbkoeinfhlpoaaW.PrintLast Go.Proofs.YtgbkoeinfhlpoaaW.PrintMore
set_option linter.unusedVariables false
set_option linter.unusedSimpArgs false

theorem split_flat {c : List Value} {l : List S33} (h : c.take (l.length * 2) = flatF l) : c = flatF l ++ c.drop (l.length * 2) := by
  rw [← h, List.take_append_drop]

/-- A run of stores within the row. -/
theorem put_run {c : List Value} {l m : List S33} {k : Nat} (h : c.take (l.length * 2) = flatF l) (hk : k + m.length ≤ l.length) :
    (c.take (k * 2) ++ flatF m ++ c.drop (k * 2 + (flatF m).length)).take ((l.take k ++ m ++ l.drop (k + m.length)).length * 2) = flatF (l.take k ++ m ++ l.drop (k + m.length)) := by
  have e := split_flat h
  have h1 : c.take (k * 2) = flatF (l.take k) := by
    rw [← flatF_take, ← h, List.take_take, Nat.min_eq_left (by omega)]
  have h2 : c.drop (k * 2 + (flatF m).length) = flatF (l.drop (k + m.length)) ++ c.drop (l.length * 2) := by
    rw [flatF_len, show k * 2 + m.length * 2 = (k + m.length) * 2 by omega]
    conv => lhs; rw [e]
    rw [List.drop_append_of_le_length (by rw [flatF_len]; omega), flatF_drop]
  rw [h1, h2, ← List.append_assoc, ← flatF_append, ← flatF_append, List.take_left' (flatF_len _)]

/-- A run of stores from within the row on past its end. -/
theorem put_past {c : List Value} {l m : List S33} {k : Nat} (h : c.take (l.length * 2) = flatF l) (hk : k ≤ l.length) :
    (c.take (k * 2) ++ flatF m ++ c.drop (k * 2 + (flatF m).length)).take ((l.take k ++ m).length * 2) = flatF (l.take k ++ m) := by
  have h1 : c.take (k * 2) = flatF (l.take k) := by
    rw [← flatF_take, ← h, List.take_take, Nat.min_eq_left (by omega)]
  rw [h1, ← flatF_append, List.take_left' (flatF_len _)]

theorem flat_one (x : S33) : flatF [x] = encF x := by simp [flatF]

theorem OwnF.store {w : World} {base g cap : Nat} {cur : Array Value} {l : List S33} (h : OwnF w base g cap cur l) (m : List S33) (k : Nat) (hk : k + m.length ≤ l.length) :
    ∃ cur', OwnF (w.setCells g (k * 2) (flatF m)) base g cap cur' (l.take k ++ m ++ l.drop (k + m.length)) :=
  h.put (k * 2) (flatF m) (by have := h.len; rw [flatF_len]; omega) (by have := h.len; simp only [List.length_append, List.length_take, List.length_drop]; omega) (fun c _ ht => put_run ht hk)
theorem OwnF.storePast {w : World} {base g cap : Nat} {cur : Array Value} {l : List S33} (h : OwnF w base g cap cur l) (m : List S33) (k : Nat) (hk : k ≤ l.length) (hc : k + m.length ≤ cap) :
    ∃ cur', OwnF (w.setCells g (k * 2) (flatF m)) base g cap cur' (l.take k ++ m) :=
  h.put (k * 2) (flatF m) (by rw [flatF_len]; omega) (by simp only [List.length_append, List.length_take]; omega) (fun c _ ht => put_past ht hk)

theorem zeros_flat (k : Nat) : (Builtin.zeroCells (Value.agg #[.string ⟨#[]⟩, .string ⟨#[]⟩]).cells k).toList = flatF (List.replicate k z33) := by
  apply List.ext_getElem
  · rw [flatF_len]; simp [Builtin.zeroCells, Value.cells]
  · intro i h1 h2
    have hi : i < k * 2 := by rw [flatF_len] at h2; simpa using h2
    have hg := flatF_get z33 (List.replicate k z33) i
    rw [if_pos (by simpa using hi)] at hg
    have e1 : (flatF (List.replicate k z33))[i] = (flatF (List.replicate k z33))[i]! := by rw [getElem!_pos]
    have hd : i / 2 < k := by omega
    rw [e1, hg]
    have e2 : (List.replicate k z33).getD (i / 2) z33 = z33 := by simp [List.getD_eq_getElem?_getD, hd]
    rw [e2]
    have e3 : Value.cells (.agg #[.string ⟨#[]⟩, .string ⟨#[]⟩]) = #[.string ⟨#[]⟩, .string ⟨#[]⟩] := by simp [Value.cells]
    simp only [Builtin.zeroCells, e3, Array.toList_map, List.getElem_map, Array.getElem_toList, Array.getElem_range]
    have h3 : i % 2 = 0 ∨ i % 2 = 1 := by omega
    rcases h3 with h3 | h3 <;> simp [h3, encF, z33]

/-- A lit row of one file, read. -/
theorem lit_C {w : World} {B : Nat} {x : S33} {t : TypeId} {fz : Nat × Nat} (hB : w.heap[B]? = some (.cells #[.string x.f0, .string x.f1] t fz)) : Kd.C k33 w (some ⟨B, 0, none⟩) 1 [x] := by
  refine ⟨rfl, by omega, fun _ => ⟨⟨B, 0, none⟩, rfl, fun j p hj => ?_⟩⟩
  have h0 : j = 0 := by
    have := (List.getElem?_eq_some_iff.1 hj).1
    simp at this
    omega
  subst h0
  obtain rfl : x = p := by simpa using hj
  refine ⟨[.string x.f0, .string x.f1], rfl, k33_mk _ _, fun i u hu => ?_⟩
  have := (List.getElem?_eq_some_iff.1 hu).1
  rw [Addr.add_lit, Nat.zero_mul, Nat.zero_add, Nat.zero_add, cell_of_row w B i _ _ _ hB, ← hu]
  simp

#print axioms OwnF.store
#print axioms lit_C
end Go.Proofs.Ytgbkoeinfhlpoaa.F

namespace Go.Proofs.Ytgbkoeinfhlpoaa.F
open Go.RowKit Go.Shelf Go.Proofs Go.Proofs.YtgbkoeinfhlpoaaW.PrintWords Go.Proofs.YtgbkoeinfhlpoaaW.PrintLast Go.Proofs.YtgbkoeinfhlpoaaW.PrintMore
set_option linter.unusedVariables false
set_option linter.unusedSimpArgs false

set_option maxHeartbeats 4000000 in
set_option maxRecDepth 100000 in
/-- At the end. -/
theorem Insert_end (base : Nat) (v : Value) (l : List S33) (x : S33) (B : Nat) (w : World) (hr : Kd.R k33 33 w base (fun _ => True) v l) (hB : w.heap[B]? = some (.cells #[.string x.f0, .string x.f1] 33 (0, 0))) (hbase : base ≤ w.heap.size) (hl : l.length ≤ 1000000) :
    Calls Try.prog 56 #[v, .int .i64 l.length, .slice (some ⟨B, 0, none⟩) 1 1] w fun e w' => ∃ v', e = .returned v' ∧ Kd.R k33 33 w' base (fun _ => True) v' (l ++ [x]) ∧ Below base w w' := by
  have hu33 := Try.underlying33
  obtain ⟨A, c, rfl, hc, _⟩ := Kd.R_reads hr
  have hcz : (l.length : Int) ≤ (c : Int) := by omega
  have HR := Aside0.mk hr
  have HX := Aside0.mk (lit_C hB)
  clear hr hB
  by_cases hcl : c = l.length
  · subst hcl
    go_enter Try.func56, Try.ntmps56
    go_wp2_with (at_builtin; refine Kd.R_append_rows k33 (w0 := w) base rfl (.tmp 23) (.tmp 24) 22 33 (.agg #[.string ⟨#[]⟩, .string ⟨#[]⟩]) 32 rfl Try.underlying22 info33 rfl (by decide) (by omega) _ l [x] (some ⟨B, 0, none⟩) 1 1 (fun _ => True) (fun _ => False) rfl rfl HR.out HX.out (fun _ _ h => K_M h) (fun _ h => h.elim) (fun _ _ => trivial) (Below.refl _ _) hbase (by omega) ?_; intro v1 w1 hR1 hB1 _ _)
    go_ret
    exact ⟨_, rfl, hR1, hB1⟩
  · go_enter Try.func56, Try.ntmps56
    go_wp2_with (at_builtin; refine Kd.R_append_rows k33 (w0 := w) base rfl (.tmp 23) (.tmp 24) 22 33 (.agg #[.string ⟨#[]⟩, .string ⟨#[]⟩]) 32 rfl Try.underlying22 info33 rfl (by decide) (by omega) _ l [x] (some ⟨B, 0, none⟩) 1 1 (fun _ => True) (fun _ => False) rfl rfl HR.out HX.out (fun _ _ h => K_M h) (fun _ h => h.elim) (fun _ _ => trivial) (Below.refl _ _) hbase (by omega) ?_; intro v1 w1 hR1 hB1 _ _)
    go_ret
    exact ⟨_, rfl, hR1, hB1⟩

set_option maxHeartbeats 4000000 in
set_option maxRecDepth 100000 in
/-- There is room: in place. -/
theorem Insert_shift (base g cap : Nat) (l : List S33) (i : Nat) (x : S33) (B : Nat) (w : World) (cur : Array Value) (hr : OwnF w base g cap cur l) (hB : w.heap[B]? = some (.cells #[.string x.f0, .string x.f1] 33 (0, 0))) (hBg : B ≠ g) (hbase : base ≤ w.heap.size) (hl : l.length ≤ 1000000) (hi : i < l.length) (hroom : l.length + 1 ≤ cap) :
    Calls Try.prog 56 #[.slice (some ⟨g, 0, none⟩) l.length cap, .int .i64 i, .slice (some ⟨B, 0, none⟩) 1 1] w fun e w' => ∃ v', e = .returned v' ∧ Kd.R k33 33 w' base (fun _ => True) v' (l.take i ++ x :: l.drop i) ∧ Below base w w' := by
  have hu33 := Try.underlying33
  have mixed : Try.prog.follows Departure.mixedOrders = true := by kernel_rfl
  have hcap : cap ≤ 9223372036854775807 := by have := hr.max; unfold maxLen at this; omega
  obtain ⟨c1, H1⟩ := hr.drew.storePast (l.drop i) (i + 1) (by omega) (by simp only [List.length_drop]; omega)
  have hl1 : (l.take (i + 1) ++ l.drop i).length = l.length + 1 := by simp only [List.length_append, List.length_take, List.length_drop]; omega
  obtain ⟨c2, H2⟩ := H1.store [x] i (by rw [hl1]; simp; omega)
  have hl2 : (l.take (i + 1) ++ l.drop i).take i ++ [x] ++ (l.take (i + 1) ++ l.drop i).drop (i + [x].length) = l.take i ++ x :: l.drop i := by
    rw [List.take_append_of_le_length (by simp only [List.length_take]; omega), List.take_take, Nat.min_eq_left (by omega), List.length_singleton, List.drop_left' (by simp only [List.length_take]; omega)]
    simp
  rw [hl2] at H2
  have hcp1 : ∀ ty dl dc sl sc, min sl dl = l.length - i → (Builtin.copy_ #[22, 22] ty #[.slice (some ⟨g, (i + 1) * 2, none⟩) dl dc, .slice (some ⟨g, i * 2, none⟩) sl sc]).run Try.prog w.drew = .ok (goInt (Nat.min sl dl)) (w.drew.setCells g ((i + 1) * 2) (flatF (l.drop i))) := fun ty dl dc sl sc hm =>
    copy33 w.drew ty g _ _ dc ⟨g, i * 2, none⟩ _ sc (flatF (l.drop i)) (by simp only [flatF_len, List.length_drop]; show _ = min _ _ * 2; omega)
      (fun j v hj => by rw [Addr.add_lit]; exact hr.drew.cell _ v (by rw [← List.getElem?_drop, flatF_drop]; exact hj))
      (fun j hj => hr.drew.room _ (by rw [flatF_len, List.length_drop] at hj; omega)) (fun j hj => hr.drew.plain _) (flatF_one _)
  obtain ⟨W1, hW1⟩ : ∃ W1, W1 = w.drew.setCells g ((i + 1) * 2) (flatF (l.drop i)) := ⟨_, rfl⟩
  have hb1 : Below base w W1 := by rw [hW1]; exact (pw_below_drewN (Below.refl _ _) 1).trans (below_put hr.base _ _)
  rw [← hW1] at hcp1 H1 H2
  have hBW : W1.heap[B]? = some (.cells #[.string x.f0, .string x.f1] 33 (0, 0)) := by rw [hW1, setCells_far _ _ B hBg]; exact hB
  have hcp2 : ∀ ty dc, (Builtin.copy_ #[22, 22] ty #[.slice (some ⟨g, i * 2, none⟩) (l.length + 1 - i) dc, .slice (some ⟨B, 0, none⟩) 1 1]).run Try.prog W1 = .ok (goInt (Nat.min 1 (l.length + 1 - i))) (W1.setCells g (i * 2) (flatF [x])) := fun ty dc =>
    copy33 W1 ty g _ _ dc ⟨B, 0, none⟩ 1 1 (flatF [x]) (by simp only [flatF_len, List.length_singleton]; show _ = min _ _ * 2; omega)
      (fun j v hj => by rw [Addr.add_lit, Nat.zero_add, cell_of_row W1 B j _ _ _ hBW, ← hj]; simp [flatF, encF])
      (fun j hj => H1.room _ (by rw [flatF_len, List.length_singleton] at hj; omega)) (fun j hj => H1.plain _) (flatF_one _)
  have hov : ∀ lb cb, (callFunc 91 #[.slice (some ⟨B, 0, none⟩) 1 1, .slice (some ⟨g, (i + 1) * 2, none⟩) lb cb]).run Try.prog w = .ok (.value (.bool false)) w := fun lb cb => by
    rw [run_callFunc_extern Try.func91 (by kernel_rfl) (by kernel_rfl) (by kernel_rfl) (e := Extern.SlicesOverlaps.overlaps #[22, 22] #[4]) (by kernel_rfl),
      Lib.run_overlaps_apart w 22 4 33 Try.underlying22 2 size33 ⟨B, 0, none⟩ ⟨g, (i + 1) * 2, none⟩ 1 1 lb cb hBg 33 33 2 (cap * 2) (by simp [World.shape?, hB]) (by simp [World.shape?, hr.blk, hr.size]) (by omega) (by simp [World.frozen?, hB]) (by simp [World.frozen?, hB])]
    rfl
  have HE := Aside0.mk (show Kd.R k33 33 (W1.setCells g (i * 2) (flatF [x])) base (fun _ => True) (.slice (some ⟨g, 0, none⟩) (l.length + 1) cap) (l.take i ++ x :: l.drop i) ∧ Below base w (W1.setCells g (i * 2) (flatF [x])) by
    refine ⟨?_, hb1.trans (below_put hr.base _ _)⟩
    have := R_of H2
    rwa [show (l.take i ++ x :: l.drop i).length = l.length + 1 by simp only [List.length_append, List.length_take, List.length_cons, List.length_drop]; omega] at this)
  have HC1 := Aside0.mk hcp1
  have hw1 : IntKind.i64.wrap ((i : Int) + 1) = (i : Int) + 1 := by rw [IntKind.wrap_i64]; omega
  have hw2 : IntKind.i64.wrap ((l.length : Int) + 1) = (l.length : Int) + 1 := by rw [IntKind.wrap_i64]; omega
  have hz2 : ¬ ((i : Int) = (l.length : Int)) := by omega
  have hz3 : ¬ ((cap : Int) < (l.length : Int) + 1) := by omega
  have hz4 : (l.length : Int) + 1 ≤ (cap : Int) := by omega
  have hz5 : (0 : Int) ≤ (l.length : Int) + 1 := by omega
  have hz6 : (0 : Int) ≤ (i : Int) + 1 := by omega
  have hz7 : (i : Int) + 1 ≤ (l.length : Int) + 1 := by omega
  have hz8 : (i : Int) ≤ (l.length : Int) + 1 := by omega
  have hz9 : (i : Int) ≤ (l.length : Int) := by omega
  have hz10 : ((i : Int) + 1).toNat = i + 1 := by omega
  have hz11 : ((l.length : Int) + 1).toNat = l.length + 1 := by omega
  have hz12 : ¬ (cap = i + 1) := by omega
  have hz13 : ¬ (cap = i) := by omega
  have HW := Aside0.mk hW1
  have HR := Aside0.mk hr
  have HB1 := Aside0.mk H1
  have HB2 := Aside0.mk H2
  clear hW1 hr H1 H2 hb1 hBW hB hl1 hl2 hcp1
  go_enter Try.func56, Try.ntmps56
  go_wp2_with (simp only [hov])
  go_region_law_o (refine step_copy_runI rfl _ _ 22 22 rfl (.slice (some ⟨g, (i + 1) * 2, none⟩) (l.length + 1 - (i + 1)) (cap - (i + 1))) (.slice (some ⟨g, i * 2, none⟩) (l.length + 1 - i) (cap - i)) (by simp [Act.eval, Act.put]) (by simp [Act.eval, Act.put]) (HC1.out _ _ _ _ _ (by omega)) ?_)
  go_wp2_with (at_builtin; refine wpList_copy_runI _ rfl _ _ 22 22 rfl _ _ rfl rfl (hcp2 _ _) ?_)
  go_ret
  exact ⟨_, rfl, HE.out.1, HE.out.2⟩

set_option maxHeartbeats 4000000 in
set_option maxRecDepth 100000 in
/-- There is no room: a new row. -/
theorem Insert_grow (base g cap : Nat) (l : List S33) (i : Nat) (x : S33) (B : Nat) (w : World) (cur : Array Value) (hr : OwnF w base g cap cur l) (hB : w.heap[B]? = some (.cells #[.string x.f0, .string x.f1] 33 (0, 0))) (hbase : base ≤ w.heap.size) (hl : l.length ≤ 1000000) (hi : i < l.length) (hroom : cap < l.length + 1) :
    Calls Try.prog 56 #[.slice (some ⟨g, 0, none⟩) l.length cap, .int .i64 i, .slice (some ⟨B, 0, none⟩) 1 1] w fun e w' => ∃ v', e = .returned v' ∧ Kd.R k33 33 w' base (fun _ => True) v' (l.take i ++ x :: l.drop i) ∧ Below base w w' := by
  have hu33 := Try.underlying33
  have mixed : Try.prog.follows Departure.mixedOrders = true := by kernel_rfl
  obtain rfl : cap = l.length := by have := hr.len; omega
  have hgw : g < w.heap.size := hr.lt
  have hBw : B < w.heap.size := (Array.getElem?_eq_some_iff.1 hB).1
  obtain ⟨i0, hi0, hz0, hzs, hzb⟩ := info_parts info33
  have hold : (Builtin.firstCells i0.size i (.slice (some ⟨g, 0, none⟩) i l.length)).run Try.prog w.drew = .ok (flatF (l.take i)).toArray w.drew := by
    rw [hzs]
    exact run_firstCells_some w.drew 2 i ⟨g, 0, none⟩ i l.length (flatF (l.take i)) (by rw [flatF_len, List.length_take]; omega) (fun j v hj => by
      rw [Addr.add_lit, Nat.zero_add]
      refine hr.drew.cell j v ?_
      rw [← flatF_take, List.getElem?_take] at hj
      split at hj
      · exact hj
      · cases hj)
  obtain ⟨G, hG⟩ : ∃ G, G = grownCap w (l.length + 1) l.length 33 := ⟨_, rfl⟩
  have hGn : l.length + 1 ≤ G := by rw [hG]; exact grownCap_ge w _ _ _
  have hGm : G ≤ maxLen := by rw [hG]; exact grownCap_le_maxLen w (l.length + 1) l.length 33 (by unfold maxLen; omega)
  have hG63 : G ≤ 9223372036854775807 := by unfold maxLen at hGm; omega
  obtain ⟨ROW, hROW⟩ : ∃ ROW : Array Value, ROW = (flatF (l.take i)).toArray ++ Builtin.zeroCells (Value.agg #[.string ⟨#[]⟩, .string ⟨#[]⟩]).cells (l.length + 1 - i) ++ Builtin.zeroCells (Value.agg #[.string ⟨#[]⟩, .string ⟨#[]⟩]).cells (G - (l.length + 1)) := ⟨_, rfl⟩
  have hRL : ROW.toList = flatF (l.take i ++ List.replicate (l.length + 1 - i) z33) ++ flatF (List.replicate (G - (l.length + 1)) z33) := by
    rw [hROW, Array.toList_append, Array.toList_append, zeros_flat, zeros_flat, flatF_append]
  have hLL : (l.take i ++ List.replicate (l.length + 1 - i) z33).length = l.length + 1 := by simp only [List.length_append, List.length_take, List.length_replicate]; omega
  have hrz : ∀ ty, (Builtin.append_ #[22, 3] ty #[.slice (some ⟨g, 0, none⟩) i l.length, .int .i64 ((l.length : Int) + 1 - (i : Int))]).run Try.prog w = .ok (.slice (some ⟨w.heap.size, 0, none⟩) (l.length + 1) G) ((w.alloc (.cells ROW 33)).drew) := fun ty => by
    have h := Lib.run_append_grow_zeros w 22 3 ty 33 i0 _ .i64 .i64 Try.underlying22 Try.underlying3 hi0 hz0 (some ⟨g, 0, none⟩) i l.length (flatF (l.take i)) hold (l.length + 1 - i) (by omega) (by omega) (by omega) (by omega) (by rw [hzb]; omega) (by rw [hzb, show i + (l.length + 1 - i) = l.length + 1 by omega]; exact growslice_fits (by omega) (by omega))
    rw [show i + (l.length + 1 - i) = l.length + 1 by omega, ← hG, ← hROW] at h
    rw [show (l.length : Int) + 1 - (i : Int) = ((l.length + 1 - i : Nat) : Int) by omega]
    exact h
  have H0 : OwnF ((w.alloc (.cells ROW 33)).drew) base w.heap.size G ROW (l.take i ++ List.replicate (l.length + 1 - i) z33) := by
    refine ⟨?_, hbase, by rw [hLL]; exact hGn, hGm, ?_, ?_⟩
    · show (w.heap.push _)[w.heap.size]? = _
      rw [Array.getElem?_push_size]
    · have := congrArg List.length hRL
      rw [List.length_append, flatF_len, flatF_len, hLL, List.length_replicate] at this
      simp only [Array.length_toList] at this
      omega
    · rw [hRL, List.take_left' (by rw [flatF_len])]
  obtain ⟨c1, H1⟩ := H0.store [x] i (by rw [hLL]; simp; omega)
  have hl1 : ((l.take i ++ List.replicate (l.length + 1 - i) z33).take i ++ [x] ++ (l.take i ++ List.replicate (l.length + 1 - i) z33).drop (i + [x].length)).length = l.length + 1 := by
    simp only [List.length_append, List.length_take, List.length_drop, List.length_replicate, List.length_singleton]; omega
  have ht1 : ((l.take i ++ List.replicate (l.length + 1 - i) z33).take i ++ [x] ++ (l.take i ++ List.replicate (l.length + 1 - i) z33).drop (i + [x].length)).take (i + 1) = l.take i ++ [x] := by
    rw [List.take_left' (by simp only [List.length_append, List.length_take, List.length_replicate, List.length_singleton]; omega), List.take_left' (by simp only [List.length_take]; omega)]
  obtain ⟨c2, H2⟩ := H1.drew.storePast (l.drop i) (i + 1) (by rw [hl1]; omega) (by simp only [List.length_drop]; omega)
  rw [ht1, show l.take i ++ [x] ++ l.drop i = l.take i ++ x :: l.drop i by simp] at H2
  have hcpA : ∀ ty dc, (Builtin.copy_ #[22, 22] ty #[.slice (some ⟨w.heap.size, i * 2, none⟩) (l.length + 1 - i) dc, .slice (some ⟨B, 0, none⟩) 1 1]).run Try.prog ((w.alloc (.cells ROW 33)).drew) = .ok (goInt (Nat.min 1 (l.length + 1 - i))) (((w.alloc (.cells ROW 33)).drew).setCells w.heap.size (i * 2) (flatF [x])) := fun ty dc =>
    copy33 _ ty _ _ _ dc ⟨B, 0, none⟩ 1 1 (flatF [x]) (by simp only [flatF_len, List.length_singleton]; show _ = min _ _ * 2; omega)
      (fun j v hj => by rw [Addr.add_lit, Nat.zero_add]; show (w.alloc _).cell? _ = _; rw [World.cell?_alloc_past (w := w) _ B j hBw]; rw [cell_of_row w B j _ _ _ hB, ← hj]; simp [flatF, encF])
      (fun j hj => H0.room _ (by rw [flatF_len, List.length_singleton] at hj; omega)) (fun j hj => H0.plain _) (flatF_one _)
  obtain ⟨W1, hW1⟩ : ∃ W1, W1 = (((w.alloc (.cells ROW 33)).drew).setCells w.heap.size (i * 2) (flatF [x])) := ⟨_, rfl⟩
  rw [← hW1] at hcpA H1 H2
  have hb1 : Below base w W1 := by rw [hW1]; exact (pw_below_drewN ((Below.refl _ _).alloc hbase _) 1).trans (below_put hbase _ _)
  have hgc : ∀ j v, (flatF (l.drop i))[j]? = some v → W1.drew.cell? ⟨g, i * 2 + j, none⟩ = some v := fun j v hj => by
    show W1.cell? _ = _
    rw [hW1, World.cell?_setCells_out _ _ _ _ _ (fun h _ => absurd h (by show ¬ g = w.heap.size; omega)), show ((w.alloc (.cells ROW 33)).drew).cell? _ = (w.alloc (.cells ROW 33)).cell? _ from rfl, World.cell?_alloc_past (w := w) _ g _ hgw]
    exact hr.drew.cell _ v (by rw [← List.getElem?_drop, flatF_drop]; exact hj)
  have hcpB : ∀ ty dc sc, (Builtin.copy_ #[22, 22] ty #[.slice (some ⟨w.heap.size, (i + 1) * 2, none⟩) (l.length + 1 - (i + 1)) dc, .slice (some ⟨g, i * 2, none⟩) (l.length - i) sc]).run Try.prog W1.drew = .ok (goInt (Nat.min (l.length - i) (l.length + 1 - (i + 1)))) (W1.drew.setCells w.heap.size ((i + 1) * 2) (flatF (l.drop i))) := fun ty dc sc =>
    copy33 W1.drew ty _ _ _ dc ⟨g, i * 2, none⟩ _ sc (flatF (l.drop i)) (by simp only [flatF_len, List.length_drop]; show _ = min _ _ * 2; omega)
      (fun j v hj => by rw [Addr.add_lit]; exact hgc j v hj)
      (fun j hj => H1.drew.room _ (by rw [flatF_len, List.length_drop] at hj; omega)) (fun j hj => H1.drew.plain _) (flatF_one _)
  have HE := Aside0.mk (show Kd.R k33 33 (W1.drew.setCells w.heap.size ((i + 1) * 2) (flatF (l.drop i))) base (fun _ => True) (.slice (some ⟨w.heap.size, 0, none⟩) (l.length + 1) G) (l.take i ++ x :: l.drop i) ∧ Below base w (W1.drew.setCells w.heap.size ((i + 1) * 2) (flatF (l.drop i))) by
    refine ⟨?_, (pw_below_drewN hb1 1).trans (below_put hbase _ _)⟩
    have := R_of H2
    rwa [show (l.take i ++ x :: l.drop i).length = l.length + 1 by simp only [List.length_append, List.length_take, List.length_cons, List.length_drop]; omega] at this)
  have HCB := Aside0.mk hcpB
  have hw1 : IntKind.i64.wrap ((i : Int) + 1) = (i : Int) + 1 := by rw [IntKind.wrap_i64]; omega
  have hw2 : IntKind.i64.wrap ((l.length : Int) + 1) = (l.length : Int) + 1 := by rw [IntKind.wrap_i64]; omega
  have hw3 : IntKind.i64.wrap ((l.length : Int) + 1 - (i : Int)) = (l.length : Int) + 1 - (i : Int) := by rw [IntKind.wrap_i64]; omega
  have hz2 : ¬ ((i : Int) = (l.length : Int)) := by omega
  have hz4 : (l.length : Int) < (l.length : Int) + 1 := by omega
  have hz6 : (0 : Int) ≤ (i : Int) + 1 := by omega
  have hz7 : (i : Int) + 1 ≤ (l.length : Int) + 1 := by omega
  have hz8 : (i : Int) ≤ (l.length : Int) + 1 := by omega
  have hz9 : (i : Int) ≤ (l.length : Int) := by omega
  have hz10 : ((i : Int) + 1).toNat = i + 1 := by omega
  have hz12 : ¬ (G = i + 1) := by omega
  have hz13 : ¬ (G = i) := by omega
  have hz14 : ¬ (l.length = i) := by omega
  have HW := Aside0.mk hW1
  clear hW1 hr H1 H2 hb1 hB hl1 hcpB hgc ht1 H0 hLL hRL hROW hG hold hi0 hz0 hzs hzb
  go_enter Try.func56, Try.ntmps56
  go_wp2_with (first
    | (at_builtin; refine Lib.wpList_append_run _ rfl _ _ _ _ rfl _ _ rfl rfl _ _ (hrz _) ?_)
    | (at_builtin; refine wpList_copy_runI _ rfl _ _ 22 22 rfl _ _ rfl rfl (hcpA _ _) ?_))
  go_region_law_o (refine step_copy_runI rfl _ _ 22 22 rfl (.slice (some ⟨w.heap.size, (i + 1) * 2, none⟩) (l.length + 1 - (i + 1)) (G - (i + 1))) (.slice (some ⟨g, i * 2, none⟩) (l.length - i) (l.length - i)) (by simp [Act.eval, Act.put]) (by simp [Act.eval, Act.put]) (HCB.out 3 (G - (i + 1)) (l.length - i)) ?_)
  go_wp2
  go_ret
  exact ⟨_, rfl, HE.out.1, HE.out.2⟩

end Go.Proofs.Ytgbkoeinfhlpoaa.F

namespace Go.Proofs.Ytgbkoeinfhlpoaa.F
open Go.RowKit Go.Shelf Go.Proofs.YtgbkoeinfhlpoaaW.PrintWords Go.Proofs.YtgbkoeinfhlpoaaW.PrintLast Go.Proofs.YtgbkoeinfhlpoaaW.PrintMore
set_option linter.unusedVariables false
set_option linter.unusedSimpArgs false

theorem Insert_calls (base : Nat) (v : Value) (l : List S33) (i : Nat) (x : S33) (B : Nat) (w : World) (hr : Kd.R k33 33 w base (fun _ => True) v l) (hB : w.heap[B]? = some (.cells #[.string x.f0, .string x.f1] 33 (0, 0))) (hBv : some B ≠ v.ownBlock) (hbase : base ≤ w.heap.size) (hl : l.length ≤ 1000000) (hi : i ≤ l.length) :
    Calls Try.prog 56 #[v, .int .i64 i, .slice (some ⟨B, 0, none⟩) 1 1] w fun e w' => ∃ v', e = .returned v' ∧ Kd.R k33 33 w' base (fun _ => True) v' (l.take i ++ x :: l.drop i) ∧ Below base w w' := by
  rcases Nat.eq_or_lt_of_le hi with rfl | hlt
  · have := Insert_end base v l x B w hr hB hbase hl
    rwa [List.take_length, List.drop_length]
  · rcases of_R hr with ⟨_, rfl⟩ | ⟨g, cap, cur, rfl, hO⟩
    · cases hlt
    · rcases Nat.lt_or_ge cap (l.length + 1) with h | h
      · exact Insert_grow base g cap l i x B w cur hO hB hbase hl hlt h
      · exact Insert_shift base g cap l i x B w cur hO hB (fun e => hBv (by rw [e]; rfl)) hbase hl hlt h

/-- Where the halving ends, the file goes in. -/
theorem insF_at : ∀ (l : List S33) (f : S33) (i : Nat), i ≤ l.length → Parted l f.p i i →
    insF l f = if (decide (i < l.length) && ((l.getD i z33).p == f.p)) = true then l.take i ++ [f] ++ l.drop (i + 1) else l.take i ++ f :: l.drop i
  | [], f, i, hi, hp => by
    have : i = 0 := by simpa using hi
    subst this
    simp [insF]
  | g :: t, f, 0, hi, hp => by
    have h0 := hp.2 0 (Nat.le_refl _) (by simp)
    simp only [List.getD_cons_zero] at h0 ⊢
    unfold insF
    by_cases he : g.p = f.p
    · rw [if_pos he, if_pos (by simp [he])]
      simp
    · rw [if_neg he, if_neg (by simp [h0]), if_neg (by simp [he])]
      simp
  | g :: t, f, i + 1, hi, hp => by
    have h0 := hp.1 0 (by omega)
    simp only [List.getD_cons_zero] at h0
    have he : g.p ≠ f.p := fun e => by rw [e, ltB_irrefl] at h0; cases h0
    have ih := insF_at t f i (by simpa using hi) ⟨fun j hj => by have := hp.1 (j + 1) (by omega); simpa using this, fun j h1 h2 => by have := hp.2 (j + 1) (by omega) (by simpa using h2); simpa using this⟩
    unfold insF
    rw [if_neg he, if_pos h0, ih]
    simp only [List.getD_cons_succ, List.length_cons, Nat.add_lt_add_iff_right]
    split <;> simp

theorem insF_mem : ∀ (l : List S33) (f x : S33), x ∈ insF l f → x = f ∨ x ∈ l
  | [], f, x, h => by simp [insF] at h; exact .inl h
  | g :: t, f, x, h => by
    unfold insF at h
    split at h
    · rcases List.mem_cons.mp h with h | h
      · exact .inl h
      · exact .inr (List.mem_cons_of_mem _ h)
    · split at h
      · rcases List.mem_cons.mp h with h | h
        · exact .inr (by rw [h]; exact List.mem_cons_self)
        · rcases insF_mem t f x h with h | h
          · exact .inl h
          · exact .inr (List.mem_cons_of_mem _ h)
      · rcases List.mem_cons.mp h with h | h
        · exact .inl h
        · exact .inr h
theorem insF_len : ∀ (l : List S33) (f : S33), (insF l f).length ≤ l.length + 1
  | [], f => by simp [insF]
  | g :: t, f => by
    have := insF_len t f
    unfold insF
    split
    · simp
    · split
      · simp only [List.length_cons]; omega
      · simp

theorem file_cases (f : S33) : fileE f = 0 ∨ fileE f = 40 ∨ fileE f = 63 := by
  unfold fileE
  split
  · split <;> simp
  · simp
theorem full_cases (l : List S33) : fullE l = 0 ∨ fullE l = 3 := by
  unfold fullE
  split <;> simp

set_option maxHeartbeats 4000000 in
set_option maxRecDepth 100000 in
theorem Put_bad (A0 : Option Addr) (c0 : Nat) (l0 : List S33) (a1 a2 : ByteArray) (w : World) (hr0 : Kd.C k33 w A0 l0.length l0) (h0 : checkE l0 ≠ 0) :
    Calls Try.prog 22 #[.slice A0 l0.length c0, .string a1, .string a2] w fun e w' => e = .returned (.tuple #[.slice none 0 0, .int .i64 4]) ∧ Below w.heap.size w w' := by
  have hB0 : Below w.heap.size w (w.alloc (.cells #[.string a1] 9)) := (Below.refl _ w).alloc (Nat.le_refl _) _
  have hc := Check_calls A0 c0 l0 (w.alloc (.cells #[.string a1] 9)) (Kd.C_below hr0 hB0)
  have d0 : (checkE l0 == 0) = false := beq_eq_false_iff_ne.mpr h0
  have d1 : (checkE l0 != 0) = true := by simp [h0]
  generalize checkE l0 = x at hc d0 d1 h0
  clear hr0
  go_enter Try.func22, Try.ntmps22
  go_wp2_with (go_at_call 16; refine hc.mono ?_; rintro e w1 ⟨rfl, hb⟩)
  go_ret2
  exact ⟨rfl, hB0.trans (hb.mono (by simp))⟩

set_option maxHeartbeats 4000000 in
set_option maxRecDepth 100000 in
theorem Put_file (A0 : Option Addr) (c0 : Nat) (l0 : List S33) (a1 a2 : ByteArray) (w : World) (hr0 : Kd.C k33 w A0 l0.length l0) (h0 : checkE l0 = 0) (h1 : fileE ⟨a1, a2⟩ ≠ 0) :
    Calls Try.prog 22 #[.slice A0 l0.length c0, .string a1, .string a2] w fun e w' => e = .returned (.tuple #[.slice none 0 0, .int .i64 (fileE ⟨a1, a2⟩)]) ∧ Below w.heap.size w w' := by
  have hu33 := Try.underlying33
  have hB0 : Below w.heap.size w (w.alloc (.cells #[.string a1] 9)) := (Below.refl _ w).alloc (Nat.le_refl _) _
  have hc := Check_calls A0 c0 l0 (w.alloc (.cells #[.string a1] 9)) (Kd.C_below hr0 hB0)
  rw [h0] at hc
  have hf := Aside0.mk (fun W => file_calls ⟨a1, a2⟩ W)
  have d0 : (fileE ⟨a1, a2⟩ == 0) = false := beq_eq_false_iff_ne.mpr h1
  have d1 : (fileE ⟨a1, a2⟩ != 0) = true := by simp [h1]
  generalize fileE ⟨a1, a2⟩ = x at hf d0 d1 h1
  clear hr0
  go_enter Try.func22, Try.ntmps22
  go_wp2_with fail
  refine hc.mono ?_
  rintro e w1 ⟨rfl, hb⟩
  have hx0 : w1.cell? ⟨w.heap.size, 0, none⟩ = some (.string a1) := (hb.cell (by simp)).trans (by simp)
  have HB1 := Aside0.mk (hB0.trans (hb.mono (by simp)))
  clear hb hc
  have hfc := hf.out (w1.alloc (.cells #[.string a1, .string a2] 33))
  go_wp2_with fail
  refine hfc.mono ?_
  rintro e w2 ⟨rfl, hb2⟩
  have HB2 := Aside0.mk ((HB1.out.alloc HB1.out.size (.cells #[.string a1, .string a2] 33)).trans (hb2.mono (by have := HB1.out.size; simp; omega)))
  go_wp2_with fail
  go_ret2
  exact ⟨rfl, HB2.out⟩

set_option maxHeartbeats 4000000 in
set_option maxRecDepth 100000 in
theorem Put_way (A0 : Option Addr) (c0 : Nat) (l0 : List S33) (a1 a2 : ByteArray) (w : World) (hr0 : Kd.C k33 w A0 l0.length l0) (h0 : checkE l0 = 0) (h1 : fileE ⟨a1, a2⟩ = 0) (h2 : l0.any (fun g => g.p != a1.toList && wayB g.p a1.toList) = true) :
    Calls Try.prog 22 #[.slice A0 l0.length c0, .string a1, .string a2] w fun e w' => e = .returned (.tuple #[.slice none 0 0, .int .i64 50]) ∧ Below w.heap.size w w' := by
  have hu33 := Try.underlying33
  have G := Aside0.mk (good_of h0)
  have hB0 : Below w.heap.size w (w.alloc (.cells #[.string a1] 9)) := (Below.refl _ w).alloc (Nat.le_refl _) _
  have hc := Check_calls A0 c0 l0 (w.alloc (.cells #[.string a1] 9)) (Kd.C_below hr0 hB0)
  rw [h0] at hc
  have hf := Aside0.mk (fun W => file_calls ⟨a1, a2⟩ W)
  rw [h1] at hf
  have hco := Aside0.mk (fun (W : World) (hb : Below w.heap.size w W) (B : Nat) (hB : B < W.heap.size) (hcell : W.cell? ⟨B, 0, none⟩ = some (.string a1)) =>
    ContainsFunc_calls 54 #[.pointer (some ⟨B, 0, none⟩)] (fun x => x.p != a1.toList && wayB x.p a1.toList) enters54 A0 c0 l0 W (Kd.C_below hr0 hb) (asks54 l0 a1 B W hB hcell (by have := path_short h1; simp at this; omega) (fun x hx => by have := path_short (G.out.file x hx); omega)))
  rw [h2] at hco
  clear hr0 h2
  go_enter Try.func22, Try.ntmps22
  go_wp2_with fail
  refine hc.mono ?_
  rintro e w1 ⟨rfl, hb⟩
  have hx0 : w1.cell? ⟨w.heap.size, 0, none⟩ = some (.string a1) := (hb.cell (by simp)).trans (by simp)
  have HB1 := Aside0.mk (hB0.trans (hb.mono (by simp)))
  have hlt1 : w.heap.size < w1.heap.size := by have := hb.size; simp at this; omega
  clear hb hc
  have hfc := hf.out (w1.alloc (.cells #[.string a1, .string a2] 33))
  go_wp2_with fail
  refine hfc.mono ?_
  rintro e w2 ⟨rfl, hb2⟩
  have HB2 := Aside0.mk ((HB1.out.alloc HB1.out.size (.cells #[.string a1, .string a2] 33)).trans (hb2.mono (by have := HB1.out.size; simp; omega)))
  have hx2 : w2.cell? ⟨w.heap.size, 0, none⟩ = some (.string a1) := (hb2.cell (by simp; omega)).trans (by rw [World.cell?_alloc_past _ _ _ hlt1]; exact hx0)
  have hcon := hco.out w2 HB2.out w.heap.size (by have := hb2.size; simp at this; omega) hx2
  clear hb2 hfc
  go_wp2_with fail
  refine hcon.mono ?_
  rintro e w3 ⟨rfl, hb3⟩
  have HB3 := Aside0.mk (HB2.out.trans (hb3.mono HB2.out.size))
  clear hb3
  go_wp2_with fail
  go_ret2
  exact ⟨rfl, HB3.out⟩

set_option maxHeartbeats 8000000 in
set_option maxRecDepth 100000 in
theorem Put_good (A0 : Option Addr) (c0 : Nat) (l0 : List S33) (a1 a2 : ByteArray) (w : World) (hr0 : Kd.C k33 w A0 l0.length l0) (h0 : checkE l0 = 0) (h1 : fileE ⟨a1, a2⟩ = 0) (h2 : l0.any (fun g => g.p != a1.toList && wayB g.p a1.toList) = false) :
    Calls Try.prog 22 #[.slice A0 l0.length c0, .string a1, .string a2] w fun e w' => ∃ v : Value, e = .returned (.tuple #[v, .int .i64 (fullE (insF l0 ⟨a1, a2⟩))]) ∧ Kd.R k33 33 w' w.heap.size (fun _ => True) v (if fullE (insF l0 ⟨a1, a2⟩) = 0 then insF l0 ⟨a1, a2⟩ else []) ∧ Below w.heap.size w w' := by
  have hu33 := Try.underlying33
  have G := Aside0.mk (good_of h0)
  have hlen : l0.length ≤ 1000000 := by have := G.out.len; omega
  have hB0 : Below w.heap.size w (w.alloc (.cells #[.string a1] 9)) := (Below.refl _ w).alloc (Nat.le_refl _) _
  have hc := Check_calls A0 c0 l0 (w.alloc (.cells #[.string a1] 9)) (Kd.C_below hr0 hB0)
  rw [h0] at hc
  have hf := Aside0.mk (fun W => file_calls ⟨a1, a2⟩ W)
  rw [h1] at hf
  have hco := Aside0.mk (fun (W : World) (hb : Below w.heap.size w W) (B : Nat) (hB : B < W.heap.size) (hcell : W.cell? ⟨B, 0, none⟩ = some (.string a1)) =>
    ContainsFunc_calls 54 #[.pointer (some ⟨B, 0, none⟩)] (fun x => x.p != a1.toList && wayB x.p a1.toList) enters54 A0 c0 l0 W (Kd.C_below hr0 hb) (asks54 l0 a1 B W hB hcell (by have := path_short h1; simp at this; omega) (fun x hx => by have := path_short (G.out.file x hx); omega)))
  rw [h2] at hco
  have hcl := Aside0.mk (fun (W : World) (hb : Below w.heap.size w W) => Clone_calls A0 c0 l0 W (Kd.C_below hr0 hb) hlen)
  have HD := Aside0.mk (show ∀ f ∈ insF l0 ⟨a1, a2⟩, f.f1.size ≤ 4096 by
    intro f hf
    rcases insF_mem _ _ _ hf with rfl | hf
    · exact data_short h1
    · exact data_short (G.out.file f hf))
  have HFD := Aside0.mk (fun (A : Option Addr) (c : Nat) (W : World) (hr : Kd.C k33 W A l0.length l0) => find_calls A c l0 a1 W hr hlen (good_mono G.out a1.toList))
  have HH := Aside0.mk h2
  clear hr0 h2
  go_enter Try.func22, Try.ntmps22
  go_wp2_with fail
  refine hc.mono ?_
  rintro e w1 ⟨rfl, hb⟩
  have hx0 : w1.cell? ⟨w.heap.size, 0, none⟩ = some (.string a1) := (hb.cell (by simp)).trans (by simp)
  have HB1 := Aside0.mk (hB0.trans (hb.mono (by simp)))
  have hlt1 : w.heap.size < w1.heap.size := by have := hb.size; simp at this; omega
  clear hb hc
  have hfc := hf.out (w1.alloc (.cells #[.string a1, .string a2] 33))
  go_wp2_with fail
  refine hfc.mono ?_
  rintro e w2 ⟨rfl, hb2⟩
  have HB2 := Aside0.mk ((HB1.out.alloc HB1.out.size (.cells #[.string a1, .string a2] 33)).trans (hb2.mono (by have := HB1.out.size; simp; omega)))
  have hx2 : w2.cell? ⟨w.heap.size, 0, none⟩ = some (.string a1) := (hb2.cell (by simp; omega)).trans (by rw [World.cell?_alloc_past _ _ _ hlt1]; exact hx0)
  have hy2 : w2.cell? ⟨w1.heap.size, 0, none⟩ = some (.string a1) := (hb2.cell (by simp)).trans (by simp)
  have hz2 : w2.cell? ⟨w1.heap.size, 1, none⟩ = some (.string a2) := (hb2.cell (by simp)).trans (by simp)
  have hlt2 : w1.heap.size < w2.heap.size := by have := hb2.size; simp at this; omega
  have hcon := hco.out w2 HB2.out w.heap.size (by omega) hx2
  clear hb2 hfc hx0
  go_wp2_with fail
  refine hcon.mono ?_
  rintro e w3 ⟨rfl, hb3⟩
  have HB3 := Aside0.mk (HB2.out.trans (hb3.mono HB2.out.size))
  have hx3 := Aside0.mk ((hb3.cell (p := ⟨w.heap.size, 0, none⟩) (by show w.heap.size < _; omega)).trans hx2)
  have hy3 := Aside0.mk ((hb3.cell (p := ⟨w1.heap.size, 0, none⟩) hlt2).trans hy2)
  have hz3 := Aside0.mk ((hb3.cell (p := ⟨w1.heap.size, 1, none⟩) hlt2).trans hz2)
  have hlt3 : w1.heap.size < w3.heap.size := Nat.lt_of_lt_of_le hlt2 hb3.size
  clear hb3 hx2 hy2 hz2 hcon
  have hclc := hcl.out w3 HB3.out
  go_wp2_with fail
  refine hclc.mono ?_
  rintro e w4 ⟨v, rfl, hv, hb4⟩
  have HB4 := Aside0.mk (HB3.out.trans (hb4.mono HB3.out.size))
  have HBv := Aside0.mk (Kd.R_base hv)
  have HV4 := Aside0.mk (Kd.R_lower hv HB3.out.size)
  have hx4 := (hb4.cell (p := ⟨w.heap.size, 0, none⟩) (by show w.heap.size < _; omega)).trans hx3.out
  have hy4 := Aside0.mk ((hb4.cell (p := ⟨w1.heap.size, 0, none⟩) hlt3).trans hy3.out)
  have hz4 := Aside0.mk ((hb4.cell (p := ⟨w1.heap.size, 1, none⟩) hlt3).trans hz3.out)
  have hlt4 : w3.heap.size ≤ w4.heap.size := hb4.size
  obtain ⟨A, c, rfl, hAc, hC⟩ := Kd.R_reads hv
  have hfind := HFD.out A c w4 hC
  clear hb4 hv hC hclc
  go_wp2_with fail
  refine hfind.mono ?_
  rintro e w5 ⟨⟨i, hi, hp, rfl⟩, hb5⟩
  have HI := Aside0.mk (insF_at l0 ⟨a1, a2⟩ i hi hp)
  have HB5 := Aside0.mk (HB4.out.trans (hb5.mono HB4.out.size))
  have HV5 := Aside0.mk (Kd.R_below HV4.out hb5)
  have hy5 := (hb5.cell (p := ⟨w1.heap.size, 0, none⟩) (by show w1.heap.size < _; omega)).trans hy4.out
  have hz5 := (hb5.cell (p := ⟨w1.heap.size, 1, none⟩) (by show w1.heap.size < _; omega)).trans hz4.out
  have hlt5 : w4.heap.size ≤ w5.heap.size := hb5.size
  clear hb5 hfind hx4 hp
  change Aside0 (insF l0 ⟨a1, a2⟩ = if (decide (i < l0.length) && ((l0.getD i z33).p == a1.toList)) = true then _ else _) at HI
  cases hhit : (decide (i < l0.length) && ((l0.getD i z33).p == a1.toList)) with
  | true =>
    rw [hhit, if_pos rfl] at HI
    have hil : i < l0.length := by rw [Bool.and_eq_true, decide_eq_true_eq] at hhit; exact hhit.1
    have hilz : (i : Int) < (l0.length : Int) := by omega
    rcases of_R HV5.out with ⟨h, _⟩ | ⟨g, cap, cur, hv, hO⟩
    · exfalso
      injection h with _ h _
      omega
    injection hv with hv1 _ hv3
    subst hv1; subst hv3
    have hc0 := hO.cell (i * 2) (.string (l0.getD i z33).f0) (by
      rw [List.getElem?_eq_getElem (by rw [flatF_len]; omega), ← getElem!_pos, flatF_get z33, if_pos (by omega), show i * 2 / 2 = i by omega, show i * 2 % 2 = 0 by omega]; rfl)
    have hc1 := hO.cell (i * 2 + 1) (.string (l0.getD i z33).f1) (by
      rw [List.getElem?_eq_getElem (by rw [flatF_len]; omega), ← getElem!_pos, flatF_get z33, if_pos (by omega), show (i * 2 + 1) / 2 = i by omega, show (i * 2 + 1) % 2 = 1 by omega]; rfl)
    have hz0 := hO.plain (i * 2)
    have hz1 := hO.plain (i * 2 + 1)
    generalize (l0.getD i z33).f0 = y0 at hc0
    generalize (l0.getD i z33).f1 = y1 at hc1
    obtain ⟨cur6, hO6⟩ := hO.store [⟨a1, a2⟩] i (by simp; omega)
    change OwnF _ _ _ _ _ (l0.take i ++ [⟨a1, a2⟩] ++ l0.drop (i + 1)) at hO6
    rw [← HI.out] at hO6
    have hL : (insF l0 ⟨a1, a2⟩).length = l0.length := by
      rw [HI.out]; simp only [List.length_append, List.length_take, List.length_drop, List.length_singleton]; omega
    have hR6 := R_of hO6
    rw [hL] at hR6
    have HB6 := Aside0.mk (HB5.out.trans (below_put hO.base (i * 2) (flatF [⟨a1, a2⟩])))
    have hfull := full_calls (some ⟨g, 0, none⟩) c (insF l0 ⟨a1, a2⟩) _ (by have := (Kd.R_reads' hR6).2.2; exact this) HD.out
    rw [hL] at hfull
    have HR6 := Aside0.mk hR6
    clear hR6 hO6 hO hhit
    rcases full_cases (insF l0 ⟨a1, a2⟩) with hf0 | hf0
    · rw [hf0] at hfull
      go_wp2_with fail
      refine hfull.mono ?_
      rintro e w7 ⟨rfl, hb7⟩
      go_wp2_with fail
      go_ret2
      exact ⟨.slice (some ⟨g, 0, none⟩) l0.length c, rfl, Kd.R_below HR6.out hb7, HB6.out.trans (hb7.mono HB6.out.size)⟩
    · rw [hf0] at hfull
      go_wp2_with fail
      refine hfull.mono ?_
      rintro e w7 ⟨rfl, hb7⟩
      go_wp2_with fail
      go_ret2
      exact ⟨.slice none 0 0, rfl, Kd.R_nil _ _ _ _ _, HB6.out.trans (hb7.mono HB6.out.size)⟩
  | false =>
    rw [hhit, if_neg (by simp)] at HI
    have hins := Insert_calls w.heap.size (.slice A l0.length c) l0 i ⟨a1, a2⟩ w5.heap.size (w5.alloc (.cells #[.string a1, .string a2] 33)) (Kd.R_alloc HV5.out _) (by show (w5.heap.push _)[w5.heap.size]? = _; rw [Array.getElem?_push_size]) (by
      intro h
      have := Kd.R_lt HV5.out _ h.symm
      omega) (by have := HB5.out.size; simp; omega) hlen hi
    have HB5a := Aside0.mk (HB5.out.alloc HB5.out.size (.cells #[.string a1, .string a2] 33))
    rw [← HI.out] at hins
    clear hhit
    go_wp2_with fail
    refine hins.mono ?_
    rintro e w6 ⟨u, rfl, hu, hb6⟩
    have HB6 := Aside0.mk (HB5a.out.trans hb6)
    obtain ⟨A', c', rfl, _, hC6⟩ := Kd.R_reads hu
    have HR6 := Aside0.mk hu
    have hfull := full_calls A' c' (insF l0 ⟨a1, a2⟩) w6 hC6 HD.out
    clear hC6 hu hb6 hins
    rcases full_cases (insF l0 ⟨a1, a2⟩) with hf0 | hf0
    · rw [hf0] at hfull
      go_wp2_with fail
      refine hfull.mono ?_
      rintro e w7 ⟨rfl, hb7⟩
      go_wp2_with fail
      go_ret2
      exact ⟨.slice A' (insF l0 ⟨a1, a2⟩).length c', rfl, Kd.R_below HR6.out hb7, HB6.out.trans (hb7.mono HB6.out.size)⟩
    · rw [hf0] at hfull
      go_wp2_with fail
      refine hfull.mono ?_
      rintro e w7 ⟨rfl, hb7⟩
      go_wp2_with fail
      go_ret2
      exact ⟨.slice none 0 0, rfl, Kd.R_nil _ _ _ _ _, HB6.out.trans (hb7.mono HB6.out.size)⟩

theorem files_Put.calls (A0 : Option Addr) (c0 : Nat) (l0 : List S33) (a1 : ByteArray) (a2 : ByteArray) (r1 : List S33) (r2 : Int) (w : World) (hr0 : Kd.C k33 w A0 l0.length l0) (hc0 : l0.length ≤ c0) (h : files_Put.f l0 a1 a2 = some (r1, r2)) :
    Calls Try.prog 22 #[.slice A0 l0.length c0, .string a1, .string a2] w fun e w' => ∃ v0_ : Value, e = .returned (.tuple #[v0_, .int .i64 r2]) ∧ Kd.R k33 33 w' w.heap.size (fun _ => True) v0_ r1 ∧ Below w.heap.size w w' := by
  have H : putE l0 ⟨a1, a2⟩ = (r1, r2) := by simpa [files_Put.f] using h
  unfold putE at H
  by_cases h0 : checkE l0 = 0
  · rw [if_pos h0] at H
    by_cases h1 : fileE ⟨a1, a2⟩ = 0
    · rw [if_pos h1] at H
      change (if l0.any (fun g => g.p != a1.toList && wayB g.p a1.toList) = true then _ else _) = _ at H
      cases h2 : l0.any (fun g => g.p != a1.toList && wayB g.p a1.toList) with
      | true =>
        rw [h2, if_pos rfl] at H
        cases H
        refine (Put_way A0 c0 l0 a1 a2 w hr0 h0 h1 h2).mono ?_
        rintro e w' ⟨rfl, hb⟩
        exact ⟨_, rfl, Kd.R_nil _ _ _ _ _, hb⟩
      | false =>
        rw [h2, if_neg (by simp)] at H
        refine (Put_good A0 c0 l0 a1 a2 w hr0 h0 h1 h2).mono ?_
        rintro e w' ⟨v, rfl, hv, hb⟩
        rcases full_cases (insF l0 ⟨a1, a2⟩) with hf | hf
        · rw [if_pos hf] at H hv
          cases H
          exact ⟨v, by rw [hf], hv, hb⟩
        · rw [if_neg (by omega)] at H hv
          cases H
          exact ⟨v, by rw [hf], hv, hb⟩
    · rw [if_neg h1] at H
      cases H
      refine (Put_file A0 c0 l0 a1 a2 w hr0 h0 h1).mono ?_
      rintro e w' ⟨rfl, hb⟩
      exact ⟨_, rfl, Kd.R_nil _ _ _ _ _, hb⟩
  · rw [if_neg h0] at H
    cases H
    refine (Put_bad A0 c0 l0 a1 a2 w hr0 h0).mono ?_
    rintro e w' ⟨rfl, hb⟩
    exact ⟨_, rfl, Kd.R_nil _ _ _ _ _, hb⟩

#print axioms files_Put.calls
end Go.Proofs.Ytgbkoeinfhlpoaa.F
