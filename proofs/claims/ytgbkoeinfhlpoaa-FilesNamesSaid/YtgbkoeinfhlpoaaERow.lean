/- A row of files of the call's own, cell by cell: what a store into it leaves; copy and clear at elements of two cells. -/
import Derived.Test.YtgbkoeinfhlpoaaESort
import Derived.Lib.SliceRun
import Derived.Lib.AppendZerosOnto
import Derived.Lib.Overlaps
import Derived.Laws.NewBlocks
import Derived.Shelf.RegionOpenPlain
namespace Go.Proofs.Ytgbkoeinfhlpoaa.F
open Go.RowKit Go.Shelf Go.Proofs Go.Proofs.YtgbkoeinfhlpoaaW.PrintWords Go.Proofs.YtgbkoeinfhlpoaaW.PrintLast Go.Proofs.YtgbkoeinfhlpoaaW.PrintMore
set_option linter.unusedVariables false
set_option linter.unusedSimpArgs false

theorem flatF_one (l : List S33) : ∀ v ∈ flatF l, v.oneCell' = true := by
  intro v hv
  unfold flatF at hv
  rw [List.mem_flatMap] at hv
  obtain ⟨x, _, hx⟩ := hv
  simp only [encF, List.mem_cons, List.not_mem_nil, or_false] at hx
  rcases hx with rfl | rfl <;> rfl
theorem flatF_append (a b : List S33) : flatF (a ++ b) = flatF a ++ flatF b := by simp [flatF]
theorem flatF_take (l : List S33) (k : Nat) : (flatF l).take (k * 2) = flatF (l.take k) := by
  induction l generalizing k with
  | nil => simp [flatF]
  | cons x t ih =>
    cases k with
    | zero => simp [flatF]
    | succ k =>
      have := ih k
      rw [List.take_succ_cons, show (k + 1) * 2 = k * 2 + 1 + 1 by omega]
      simp only [flatF, List.flatMap_cons, encF, List.cons_append, List.nil_append, List.take_succ_cons] at *
      rw [this]
theorem flatF_drop (l : List S33) (k : Nat) : (flatF l).drop (k * 2) = flatF (l.drop k) := by
  induction l generalizing k with
  | nil => simp [flatF]
  | cons x t ih =>
    cases k with
    | zero => simp
    | succ k =>
      have := ih k
      rw [List.drop_succ_cons, show (k + 1) * 2 = k * 2 + 1 + 1 by omega]
      simp only [flatF, List.flatMap_cons, encF, List.cons_append, List.nil_append, List.drop_succ_cons] at *
      rw [this]

/-- A row of the call's own, at its block. -/
structure OwnF (w : World) (base g cap : Nat) (cur : Array Value) (l : List S33) : Prop where
  blk : w.heap[g]? = some (.cells cur 33 (0, 0))
  base : base ≤ g
  len : l.length ≤ cap
  max : cap ≤ maxLen
  size : cur.size = cap * 2
  take : cur.toList.take (l.length * 2) = flatF l

theorem R_of {w : World} {base g cap : Nat} {cur : Array Value} {l : List S33} (h : OwnF w base g cap cur l) : Kd.R k33 33 w base (fun _ => True) (.slice (some ⟨g, 0, none⟩) l.length cap) l :=
  ⟨fun _ _ => trivial, flatF l, ⟨flatF_len l, .inr ⟨g, cap, cur, rfl, h.base, h.blk, h.len, h.max, h.size, h.take⟩⟩, flat_reps (fun p => k33_mkM _ _ _ p) _⟩
theorem of_R {w : World} {base : Nat} {ok : Nat → Prop} {v : Value} {l : List S33} (h : Kd.R k33 33 w base ok v l) : (v = .slice none 0 0 ∧ l = []) ∨ ∃ g cap cur, v = .slice (some ⟨g, 0, none⟩) l.length cap ∧ OwnF w base g cap cur l := by
  obtain ⟨hok, inner, hown, hrep⟩ := h
  have hin := inner_flat hrep
  subst hin
  rcases hown.2 with ⟨rfl, h0⟩ | ⟨g, cap, cur, rfl, hb, hg, h1, h2, h3, h4⟩
  · exact .inl ⟨rfl, List.eq_nil_of_length_eq_zero h0⟩
  · exact .inr ⟨g, cap, cur, rfl, hg, hb, h1, h2, h3, h4⟩

theorem OwnF.cell {w : World} {base g cap : Nat} {cur : Array Value} {l : List S33} (h : OwnF w base g cap cur l) (j : Nat) (v : Value) (hv : (flatF l)[j]? = some v) : w.cell? ⟨g, j, none⟩ = some v := by
  have hj : j < l.length * 2 := by rw [← flatF_len]; exact (List.getElem?_eq_some_iff.1 hv).1
  rw [cell_of_row w g j cur 33 (0, 0) h.blk, ← Array.getElem?_toList, ← hv, ← h.take, List.getElem?_take, if_pos hj]
theorem OwnF.room {w : World} {base g cap : Nat} {cur : Array Value} {l : List S33} (h : OwnF w base g cap cur l) (j : Nat) (hj : j < cap * 2) : (w.cell? ⟨g, j, none⟩).isSome = true := by
  rw [cell_of_row w g j cur 33 (0, 0) h.blk]
  simp [h.size, hj]
theorem OwnF.plain {w : World} {base g cap : Nat} {cur : Array Value} {l : List S33} (h : OwnF w base g cap cur l) (j : Nat) : w.frozen? ⟨g, j, none⟩ = false := by
  simp [World.frozen?, h.blk]
theorem OwnF.lt {w : World} {base g cap : Nat} {cur : Array Value} {l : List S33} (h : OwnF w base g cap cur l) : g < w.heap.size := (Array.getElem?_eq_some_iff.1 h.blk).1
theorem OwnF.drew {w : World} {base g cap : Nat} {cur : Array Value} {l : List S33} (h : OwnF w base g cap cur l) : OwnF w.drew base g cap cur l := ⟨h.blk, h.base, h.len, h.max, h.size, h.take⟩

/-- What a run of stores into the row leaves. -/
theorem OwnF.put {w : World} {base g cap : Nat} {cur : Array Value} {l l' : List S33} (h : OwnF w base g cap cur l) (o : Nat) (vs : List Value) (ho : o + vs.length ≤ cap * 2) (hl : l'.length ≤ cap)
    (ht : ∀ c : List Value, c.length = cap * 2 → c.take (l.length * 2) = flatF l → (c.take o ++ vs ++ c.drop (o + vs.length)).take (l'.length * 2) = flatF l') :
    ∃ cur', OwnF (w.setCells g o vs) base g cap cur' l' := by
  obtain ⟨cur', h1, h2, h3⟩ := setCells_row vs o w cur h.blk (by rw [h.size]; exact ho)
  exact ⟨cur', h1, h.base, hl, h.max, h2.trans h.size, by rw [h3]; exact ht _ (by simp [h.size]) h.take⟩

theorem below_put {w : World} {base g : Nat} (hg : base ≤ g) (o : Nat) (vs : List Value) : Below base w (w.setCells g o vs) := by
  obtain ⟨s1, s2, s3, s4⟩ := setCells_same g vs o w
  exact ⟨s1, s2, s3, Nat.le_of_eq s4.symm, fun k hk => setCells_far vs o k (by omega)⟩

theorem size33i : (Try.prog.info? 33).map (·.size) = some 2 := by kernel_rfl

/-- copy between two rows of files. -/
theorem copy33 (w : World) (ty : TypeId) (b o dLen dCap : Nat) (a : Addr) (sLen sCap : Nat) (cs : List Value) (hn : cs.length = Nat.min sLen dLen * 2)
    (hsrc : ∀ j v, cs[j]? = some v → w.cell? (a.add j) = some v) (hc : ∀ j, j < cs.length → (w.cell? ⟨b, o + j, none⟩).isSome = true) (hf : ∀ j, j < cs.length → w.frozen? ⟨b, o + j, none⟩ = false) (h1 : ∀ v ∈ cs, v.oneCell' = true) :
    (Builtin.copy_ #[22, 22] ty #[.slice (some ⟨b, o, none⟩) dLen dCap, .slice (some a) sLen sCap]).run Try.prog w = .ok (goInt (Nat.min sLen dLen)) (w.setCells b o cs) := by
  have hl := run_loadCells_list (P := Try.prog) w a cs hsrc
  have hst := run_storeCells_cells (P := Try.prog) b o cs 0 w (by simpa using hc) (by simpa using hf) h1
  simp only [Nat.add_zero] at hst
  obtain ⟨i, hi, hs⟩ := Option.map_eq_some_iff.1 size33i
  rw [hn] at hl
  simp [Builtin.copy_, run_underlying Try.underlying22, Builtin.lenOf, Builtin.firstCells, Go.sizeOf, typeInfo, hi, hs, hl, hst]

/-- clear of one file's cells. -/
theorem clear33 (w : World) (ty : TypeId) (b o c : Nat) (hc : ∀ j, j < 2 → (w.cell? ⟨b, o + j, none⟩).isSome = true) (hf : ∀ j, j < 2 → w.frozen? ⟨b, o + j, none⟩ = false) :
    (Builtin.clear_ #[22] ty #[.slice (some ⟨b, o, none⟩) 1 c]).run Try.prog w = .ok (.tuple #[]) (w.setCells b o [.string ⟨#[]⟩, .string ⟨#[]⟩]) := by
  have hst := run_storeCells_cells (P := Try.prog) b o [.string ⟨#[]⟩, .string ⟨#[]⟩] 0 w (by simpa using hc) (by simpa using hf) (by simp [Value.oneCell'])
  simp only [Nat.add_zero] at hst
  have hz : ∀ w, (zeroValue 33).run Try.prog w = .ok (.agg #[.string ⟨#[]⟩, .string ⟨#[]⟩]) w := fun w => by kernel_rfl
  have hzc : (Builtin.zeroCells (Value.agg #[.string ⟨#[]⟩, .string ⟨#[]⟩]).cells 1).toList = [.string ⟨#[]⟩, .string ⟨#[]⟩] := by
    simp [Builtin.zeroCells, Value.cells, Array.range, Array.ofFn_succ]
  simp [Builtin.clear_, run_underlying Try.underlying22, hz, hzc, hst]

#print axioms clear33
#print axioms copy33
end Go.Proofs.Ytgbkoeinfhlpoaa.F
