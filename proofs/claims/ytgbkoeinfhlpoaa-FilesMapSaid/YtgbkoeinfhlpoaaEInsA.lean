/- slices.Insert of one file into a row of the call's own: the rows that the runs of stores leave. -/
import Derived.Test.YtgbkoeinfhlpoaaERow
namespace Go.Proofs.Ytgbkoeinfhlpoaa.F
open Go.RowKit Go.Shelf Go.Proofs Go.Proofs.YtgbkoeinfhlpoaaW.PrintWords Go.Proofs.YtgbkoeinfhlpoaaW.PrintLast Go.Proofs.YtgbkoeinfhlpoaaW.PrintMore
set_option linter.unusedVariables false
set_option linter.unusedSimpArgs false

theorem split_flat {c : List Value} {l : List S33} (h : c.take (l.length * 2) = flatF l) : c = flatF l ++ c.drop (l.length * 2) := by
  rw [← h, List.take_append_drop]

/-- A run of stores within the row. -/
theorem put_run {c : List Value} {l m : List S33} {k : Nat} (h : c.take (l.length * 2) = flatF l) (hk : k + m.length ≤ l.length) :
    (c.take (k * 2) ++ flatF m ++ c.drop (k * 2 + (flatF m).length)).take ((l.take k ++ m ++ l.drop (k + m.length)).length * 2) = flatF (l.take k ++ m ++ l.drop (k + m.length)) := by
  have e := split_flat h
  have h1 : c.take (k * 2) = flatF (l.take k) := by
    rw [← flatF_take, ← h, List.take_take, Nat.min_eq_left (by omega)]
  have h2 : c.drop (k * 2 + (flatF m).length) = flatF (l.drop (k + m.length)) ++ c.drop (l.length * 2) := by
    rw [flatF_len, show k * 2 + m.length * 2 = (k + m.length) * 2 by omega]
    conv => lhs; rw [e]
    rw [List.drop_append_of_le_length (by rw [flatF_len]; omega), flatF_drop]
  rw [h1, h2, ← List.append_assoc, ← flatF_append, ← flatF_append, List.take_left' (flatF_len _)]

/-- A run of stores from within the row on past its end. -/
theorem put_past {c : List Value} {l m : List S33} {k : Nat} (h : c.take (l.length * 2) = flatF l) (hk : k ≤ l.length) :
    (c.take (k * 2) ++ flatF m ++ c.drop (k * 2 + (flatF m).length)).take ((l.take k ++ m).length * 2) = flatF (l.take k ++ m) := by
  have h1 : c.take (k * 2) = flatF (l.take k) := by
    rw [← flatF_take, ← h, List.take_take, Nat.min_eq_left (by omega)]
  rw [h1, ← flatF_append, List.take_left' (flatF_len _)]

theorem flat_one (x : S33) : flatF [x] = encF x := by simp [flatF]

theorem OwnF.store {w : World} {base g cap : Nat} {cur : Array Value} {l : List S33} (h : OwnF w base g cap cur l) (m : List S33) (k : Nat) (hk : k + m.length ≤ l.length) :
    ∃ cur', OwnF (w.setCells g (k * 2) (flatF m)) base g cap cur' (l.take k ++ m ++ l.drop (k + m.length)) :=
  h.put (k * 2) (flatF m) (by have := h.len; rw [flatF_len]; omega) (by have := h.len; simp only [List.length_append, List.length_take, List.length_drop]; omega) (fun c _ ht => put_run ht hk)
theorem OwnF.storePast {w : World} {base g cap : Nat} {cur : Array Value} {l : List S33} (h : OwnF w base g cap cur l) (m : List S33) (k : Nat) (hk : k ≤ l.length) (hc : k + m.length ≤ cap) :
    ∃ cur', OwnF (w.setCells g (k * 2) (flatF m)) base g cap cur' (l.take k ++ m) :=
  h.put (k * 2) (flatF m) (by rw [flatF_len]; omega) (by simp only [List.length_append, List.length_take]; omega) (fun c _ ht => put_past ht hk)

theorem zeros_flat (k : Nat) : (Builtin.zeroCells (Value.agg #[.string ⟨#[]⟩, .string ⟨#[]⟩]).cells k).toList = flatF (List.replicate k z33) := by
  apply List.ext_getElem
  · rw [flatF_len]; simp [Builtin.zeroCells, Value.cells]
  · intro i h1 h2
    have hi : i < k * 2 := by rw [flatF_len] at h2; simpa using h2
    have hg := flatF_get z33 (List.replicate k z33) i
    rw [if_pos (by simpa using hi)] at hg
    have e1 : (flatF (List.replicate k z33))[i] = (flatF (List.replicate k z33))[i]! := by rw [getElem!_pos]
    have hd : i / 2 < k := by omega
    rw [e1, hg]
    have e2 : (List.replicate k z33).getD (i / 2) z33 = z33 := by simp [List.getD_eq_getElem?_getD, hd]
    rw [e2]
    have e3 : Value.cells (.agg #[.string ⟨#[]⟩, .string ⟨#[]⟩]) = #[.string ⟨#[]⟩, .string ⟨#[]⟩] := by simp [Value.cells]
    simp only [Builtin.zeroCells, e3, Array.toList_map, List.getElem_map, Array.getElem_toList, Array.getElem_range]
    have h3 : i % 2 = 0 ∨ i % 2 = 1 := by omega
    rcases h3 with h3 | h3 <;> simp [h3, encF, z33]

/-- A lit row of one file, read. -/
theorem lit_C {w : World} {B : Nat} {x : S33} {t : TypeId} {fz : Nat × Nat} (hB : w.heap[B]? = some (.cells #[.string x.f0, .string x.f1] t fz)) : Kd.C k33 w (some ⟨B, 0, none⟩) 1 [x] := by
  refine ⟨rfl, by omega, fun _ => ⟨⟨B, 0, none⟩, rfl, fun j p hj => ?_⟩⟩
  have h0 : j = 0 := by
    have := (List.getElem?_eq_some_iff.1 hj).1
    simp at this
    omega
  subst h0
  obtain rfl : x = p := by simpa using hj
  refine ⟨[.string x.f0, .string x.f1], rfl, k33_mk _ _, fun i u hu => ?_⟩
  have := (List.getElem?_eq_some_iff.1 hu).1
  rw [Addr.add_lit, Nat.zero_mul, Nat.zero_add, Nat.zero_add, cell_of_row w B i _ _ _ hB, ← hu]
  simp

#print axioms OwnF.store
#print axioms lit_C
end Go.Proofs.Ytgbkoeinfhlpoaa.F
