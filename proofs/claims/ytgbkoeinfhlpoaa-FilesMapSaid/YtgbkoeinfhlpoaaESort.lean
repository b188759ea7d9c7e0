/- slices.SortFunc at files: a row of the call's own is put into the order of the paths. -/
import Derived.Test.YtgbkoeinfhlpoaaESortA
import Derived.Shelf.SlSortCmp.NoneTotal
import Derived.Test.YtgbkoeinfhlpoaaEClone
namespace Go.Proofs.Ytgbkoeinfhlpoaa.F
open Go.RowKit Go.Shelf Go.Proofs.YtgbkoeinfhlpoaaW.PrintWords Go.Proofs.YtgbkoeinfhlpoaaW.PrintLast Go.Proofs.YtgbkoeinfhlpoaaW.PrintMore
set_option linter.unusedVariables false
set_option linter.unusedSimpArgs false

def cmpF (x y : S33) : Int := Lib.compareBytes x.p y.p
theorem cmpF_lt (x y : S33) : Go.Proofs.ltOf cmpF x y = ltB x.p y.p := by
  have h := (cmp_spec x.p y.p).1
  unfold Go.Proofs.ltOf cmpF
  cases hb : ltB x.p y.p with
  | true => exact decide_eq_true (h.mpr hb)
  | false => exact decide_eq_false (fun hc => by rw [h.mp hc] at hb; cases hb)
theorem swoF : Go.Sort.SWO (Go.Proofs.ltOf cmpF) where
  irrefl x := by rw [cmpF_lt]; exact ltB_irrefl _
  trans x y z h1 h2 := by rw [cmpF_lt] at *; exact ltB_trans h1 h2
  ntrans x y z h1 h2 := by rw [cmpF_lt] at *; exact ltB_ntrans h1 h2

set_option maxHeartbeats 1000000 in
set_option maxRecDepth 100000 in
theorem cmp47 (x y : S33) (W : World) : Calls Try.prog 47 #[.agg #[.string x.f0, .string x.f1], .agg #[.string y.f0, .string y.f1]] W fun e w' => e = .returned (.int .i64 (cmpF x y)) ∧ ∃ q os', w' = Go.Sort.grow (W.drewN q) os' := by
  have hu33 := Try.underlying33
  have hcon := fun W' => Compare_calls x.f0 y.f0 W'
  unfold cmpF S33.p
  generalize Lib.compareBytes x.f0.toList y.f0.toList = r at hcon ⊢
  go_enter Try.func47, Try.ntmps47
  go_wp2_with (go_at_call 48; refine (hcon _).mono ?_; rintro e w' ⟨rfl, rfl⟩)
  go_ret
  exact ⟨rfl, 0, _, by rw [Go.Sort.alloc_eq_grow, Go.Sort.alloc_eq_grow, Go.Sort.grow_grow]; rfl⟩

theorem enters47 : ∀ args w, (callFunc 47 args).run Try.prog w = .ok (.enter 47 args) w := enters_of Try.func47 (by kernel_rfl) rfl
theorem agg33 (w : World) : (isAgg 33).run Try.prog w = .ok true w := by kernel_rfl
theorem size33 (w : World) : (Go.sizeOf 33).run Try.prog w = .ok 2 w := by kernel_rfl

theorem inner_flat {w : World} {base : Nat} {ok : Nat → Prop} {l : List S33} {inner : List Value} (h : Reps (k33.M w base ok) 2 l inner) : inner = flatF l :=
  reps_flat (fun p c hc => k33_openM hc) l inner h

theorem holds_flat {w : World} {base g cap : Nat} {l : List S33} (h : w.ownsRow base 33 2 (.slice (some ⟨g, 0, none⟩) l.length cap) l.length (flatF l)) : Go.Sort.HoldsK encF 2 w g 0 l.toArray := by
  unfold Go.Sort.HoldsK
  rw [flatK_flat]
  intro j hj
  have hj' : j < l.length * 2 := by rw [← flatF_len]; simpa using hj
  have hl : j < (flatF l).length := by rw [flatF_len]; exact hj'
  refine ⟨?_, ?_⟩
  · rw [Nat.zero_add, h.cellAt j hj']
    simp [hl]
  · rcases h.2 with ⟨h0, _⟩ | ⟨g', cap', cur, hv, _, hg, _⟩
    · cases h0
    · cases hv
      simp [World.frozen?, hg]

theorem heap_sortedF {w : World} {g n : Nat} {os : Array Obj} {cur : Array Value} {e : TypeId} {fr : Nat × Nat} (d : Array Value) (hb : w.heap[g]? = some (.cells cur e fr)) :
    (Go.Sort.grow (Go.Sort.putRow id (Go.Sort.ahead w n) g 0 d) os).heap[g]? = some (.cells (Go.Sort.putCells id 0 d cur) e fr) := by
  have hg : g < w.heap.size := (Array.getElem?_eq_some_iff.1 hb).1
  rw [Go.Sort.heap_grow_old _ _ (by simpa using hg)]
  simp [Go.Sort.putRow, Go.Sort.mapBlock, Go.Sort.ahead, Array.getElem?_modify, hb, Go.Sort.onCells]

theorem grownBy_sortedF {w : World} {g n : Nat} {os : Array Obj} (d : Array Value) : w.grownBy (Go.Sort.grow (Go.Sort.putRow id (Go.Sort.ahead w n) g 0 d) os) (some g) := by
  refine ⟨rfl, rfl, rfl, by simp, fun k hk hne => ?_⟩
  rw [Go.Sort.heap_grow_old _ _ (by simpa using hk)]
  have : g ≠ k := fun e => hne (by rw [e])
  simp [Go.Sort.putRow, Go.Sort.mapBlock, Go.Sort.ahead, Array.getElem?_modify, this]

theorem take_putCellsF (cur : Array Value) (ts : List Value) (h : ts.length ≤ cur.size) : (Go.Sort.putCells id 0 ts.toArray cur).toList.take ts.length = ts := by
  apply List.ext_getElem?
  intro j
  by_cases hj : j < ts.length
  · rw [List.getElem?_take_of_lt hj, Array.getElem?_toList]
    simp [Go.Sort.putCells, hj, show j < cur.size by omega]
  · rw [List.getElem?_take_eq_none (by omega), List.getElem?_eq_none (by omega)]

theorem own_sortedF {w : World} {base g cap n : Nat} {os : Array Obj} {l l' : List S33} (hl : l'.length = l.length) (h : w.ownsRow base 33 2 (.slice (some ⟨g, 0, none⟩) l.length cap) l.length (flatF l)) :
    (Go.Sort.grow (Go.Sort.putRow id (Go.Sort.ahead w n) g 0 (flatF l').toArray) os).ownsRow base 33 2 (.slice (some ⟨g, 0, none⟩) l.length cap) l.length (flatF l') := by
  rcases h.2 with ⟨h0, _⟩ | ⟨g', cap', cur, hv, hb, hg, h1, h2, h3, h4⟩
  · cases h0
  · cases hv
    refine ⟨by rw [flatF_len, hl], .inr ⟨g, cap, _, rfl, hb, heap_sortedF _ hg, h1, h2, by simpa [Go.Sort.putCells] using h3, ?_⟩⟩
    have := take_putCellsF cur (flatF l') (by rw [flatF_len, h3, hl]; omega)
    rwa [flatF_len, hl] at this

/-- Sorted by path: no later one is less than an earlier one. -/
def SortedP (l : List S33) : Prop := l.Pairwise (fun f g => ltB g.p f.p = false)

theorem sorted_of {d' : Array S33} (h : Go.Sort.SortedIn (Go.Proofs.ltOf cmpF) 0 d'.size d') : SortedP d'.toList := by
  unfold SortedP
  rw [List.pairwise_iff_getElem]
  intro i j hi hj hij
  have := h i j (Nat.zero_le _) hij (by simpa using hj)
  rw [cmpF_lt] at this
  simpa [getElem!_pos, show i < d'.size by simpa using hi, show j < d'.size by simpa using hj] using this

set_option maxHeartbeats 1000000 in
theorem SortFunc_calls (base : Nat) (v : Value) (l : List S33) (w : World) (hr : Kd.R k33 33 w base (fun _ => True) v l) (hl : l.length ≤ 1000000) :
    Calls Try.prog 46 #[v, .func (.func 47) #[] #[]] w fun e w' => e = .returned (.tuple #[]) ∧ ∃ l' : List S33, l'.Perm l ∧ SortedP l' ∧ Kd.R k33 33 w' base (fun _ => True) v l' ∧ Below base w w' := by
  obtain ⟨hok, inner, hown, hrep⟩ := hr
  have hin := inner_flat hrep
  subst hin
  rcases hown.2 with ⟨rfl, h0⟩ | ⟨g, cap, cur, rfl, hb, hg, h1, h2, h3, h4⟩
  · -- a nil row
    obtain rfl : l = [] := List.eq_nil_of_length_eq_zero h0
    have hcon := Go.Proofs.AnyF.slices_SortFunc_none sortFile none 0 (.func (.func 47) #[] #[]) w
    refine (show Calls Try.prog 46 #[.slice none 0 0, .func (.func 47) #[] #[]] w _ from hcon).mono ?_
    rintro e w' ⟨rfl, rfl⟩
    exact ⟨rfl, [], List.Perm.refl _, List.Pairwise.nil, Kd.R_nil k33 33 _ base (fun _ => True), Below.refl base _⟩
  · have hlt : g < w.heap.size := (Array.getElem?_eq_some_iff.1 hg).1
    have hcon := Go.Proofs.AnyQ.slices_SortFunc sortFile 2 agg33 size33 encF (fun _ => rfl) (fun x v hv => by simp [encF] at hv; rcases hv with rfl | rfl <;> rfl) cmpF swoF 47 #[] g 0 cap l.toArray w enters47 (fun _ _ _ _ x y => cmp47 x y _) (holds_flat hown) hlt (by simp; omega)
    change Calls Try.prog 46 _ _ _ at hcon
    refine (show Calls Try.prog 46 #[.slice (some ⟨g, 0, none⟩) l.length cap, .func (.func 47) #[] #[]] w _ from hcon).mono ?_
    rintro e w' ⟨rfl, d', n, os, hp, hs, rfl⟩
    refine ⟨rfl, d'.toList, ?_, ?_, ?_, ?_⟩
    · have := hp.2.2
      have hsz : d'.size = l.length := by have := hp.1; simpa using this
      simpa [Array.extract_eq_self_of_le, hsz] using this
    · have hsz : d'.size = l.toArray.size := hp.1
      rw [← hsz] at hs
      exact sorted_of hs
    · have hsz : d'.toList.length = l.length := by have := hp.1; simpa using this
      have e : Go.Proofs.sortWorldK encF 2 w g 0 n d' os = Go.Sort.grow (Go.Sort.putRow id (Go.Sort.ahead w n) g 0 (flatF d'.toList).toArray) os := by
        unfold Go.Proofs.sortWorldK Go.Sort.putRowK
        rw [← flatK_flat]
      refine ⟨fun _ _ => trivial, flatF d'.toList, ?_, flat_reps (fun p => k33_mkM _ _ _ p) _⟩
      rw [e, hsz]
      exact own_sortedF hsz hown
    · have e : Go.Proofs.sortWorldK encF 2 w g 0 n d' os = Go.Sort.grow (Go.Sort.putRow id (Go.Sort.ahead w n) g 0 (Go.Sort.flatK encF 2 d')) os := rfl
      rw [e]
      have hgb := grownBy_sortedF (w := w) (g := g) (n := n) (os := os) (Go.Sort.flatK encF 2 d')
      exact (Below.refl base w).grown hgb (by omega) (fun k hk => by cases hk; exact hb)

#print axioms SortFunc_calls
end Go.Proofs.Ytgbkoeinfhlpoaa.F
