/- slices.SortFunc at files: the shelf's law at this program's own numbers (the table was printed by the kit's tool). -/
/- slices.SortFunc at files: a row of the call's own is put into the order of the paths. -/
import Derived.Shelf.SlSortCmp.WholeK
import Derived.Test.YtgbkoeinfhlpoaaEWay
import Derived.Shelf.SlSortCmp.NoneTotal
import Derived.Test.YtgbkoeinfhlpoaaEClone
namespace Go.Proofs.Ytgbkoeinfhlpoaa.F
open Go.RowKit Go.Shelf Go.Lib Go.Sort Go.Proofs Go.Proofs.YtgbkoeinfhlpoaaW.PrintWords Go.Proofs.YtgbkoeinfhlpoaaW.PrintLast Go.Proofs.YtgbkoeinfhlpoaaW.PrintMore
set_option linter.unusedVariables false
set_option linter.unusedSimpArgs false

def sortFile_ren : Go.Shelf.Ren := ⟨fun | 6 => 46 | 15 => 85 | 14 => 84 | 28 => 115 | 29 => 116 | 20 => 107 | 21 => 108 | 22 => 109 | 23 => 110 | 24 => 111 | 25 => 112 | 26 => 113 | 27 => 114 | 46 => 134 | 47 => 135 | 48 => 136 | 49 => 137 | 50 => 138 | 57 => 145 | n => n, fun | 22 => 22 | 24 => 33 | 25 => 61 | 3 => 3 | 39 => 50 | 0 => 0 | 53 => 122 | 55 => 101 | 4 => 4 | 46 => 116 | 45 => 115 | 50 => 67 | 5 => 5 | 9 => 9 | 66 => 135 | 70 => 139 | 76 => 144 | 77 => 109 | n => n, fun | n => n⟩
theorem sortFile : Go.Proofs.SlLaysF0.n6 Try.prog sortFile_ren := {
  mixed := by kernel_rfl
  f6 := ⟨Try.f46.name, by decide, Try.func46.trans (congrArg some (by kernel_rfl))⟩
  f14 := ⟨Try.f84.name, by decide, Try.func84.trans (congrArg some (by kernel_rfl))⟩
  f15 := Try.func85.trans (congrArg some (by kernel_rfl))
  f20 := ⟨Try.f107.name, by decide, Try.func107.trans (congrArg some (by kernel_rfl))⟩
  f21 := ⟨Try.f108.name, by decide, Try.func108.trans (congrArg some (by kernel_rfl))⟩
  f22 := ⟨Try.f109.name, by decide, Try.func109.trans (congrArg some (by kernel_rfl))⟩
  f23 := ⟨Try.f110.name, by decide, Try.func110.trans (congrArg some (by kernel_rfl))⟩
  f24 := ⟨Try.f111.name, by decide, Try.func111.trans (congrArg some (by kernel_rfl))⟩
  f25 := ⟨Try.f112.name, by decide, Try.func112.trans (congrArg some (by kernel_rfl))⟩
  f26 := ⟨Try.f113.name, by decide, Try.func113.trans (congrArg some (by kernel_rfl))⟩
  f27 := ⟨Try.f114.name, by decide, Try.func114.trans (congrArg some (by kernel_rfl))⟩
  f28 := Try.func115.trans (congrArg some (by kernel_rfl))
  f29 := Try.func116.trans (congrArg some (by kernel_rfl))
  f46 := ⟨Try.f134.name, by decide, Try.func134.trans (congrArg some (by kernel_rfl))⟩
  f47 := Try.func135.trans (congrArg some (by kernel_rfl))
  f48 := Try.func136.trans (congrArg some (by kernel_rfl))
  f49 := ⟨Try.f137.name, by decide, Try.func137.trans (congrArg some (by kernel_rfl))⟩
  f50 := ⟨Try.f138.name, by decide, Try.func138.trans (congrArg some (by kernel_rfl))⟩
  f57 := ⟨Try.f145.name, by decide, Try.func145.trans (congrArg some (by kernel_rfl))⟩
  t0 := Try.underlying0
  a0 := Try.isAgg0
  z0 := Try.sizeOf0
  v0 := Try.zeroValue0
  t3 := Try.underlying3
  a3 := Try.isAgg3
  z3 := Try.sizeOf3
  v3 := Try.zeroValue3
  t4 := Try.underlying4
  a4 := Try.isAgg4
  z4 := Try.sizeOf4
  v4 := Try.zeroValue4
  t5 := Try.underlying5
  a5 := Try.isAgg5
  z5 := Try.sizeOf5
  v5 := Try.zeroValue5
  t9 := Try.underlying9
  a9 := Try.isAgg9
  z9 := Try.sizeOf9
  v9 := Try.zeroValue9
  t22 := Try.underlying22
  a22 := Try.isAgg22
  z22 := Try.sizeOf22
  v22 := Try.zeroValue22
  t25 := Try.underlying61
  a25 := Try.isAgg61
  z25 := Try.sizeOf61
  v25 := Try.zeroValue61
  t39 := Try.underlying50
  a39 := Try.isAgg50
  z39 := Try.sizeOf50
  v39 := Try.zeroValue50
  t45 := Try.underlying115
  a45 := Try.isAgg115
  z45 := Try.sizeOf115
  v45 := Try.zeroValue115
  t46 := Try.underlying116
  a46 := Try.isAgg116
  z46 := Try.sizeOf116
  v46 := Try.zeroValue116
  t50 := Try.underlying67
  a50 := Try.isAgg67
  z50 := Try.sizeOf67
  v50 := Try.zeroValue67
  t53 := Try.underlying122
  a53 := Try.isAgg122
  z53 := Try.sizeOf122
  v53 := Try.zeroValue122
  t55 := Try.underlying101
  a55 := Try.isAgg101
  z55 := Try.sizeOf101
  v55 := Try.zeroValue101
  t66 := Try.underlying135
  a66 := Try.isAgg135
  z66 := Try.sizeOf135
  v66 := Try.zeroValue135
  t70 := Try.underlying139
  a70 := Try.isAgg139
  z70 := Try.sizeOf139
  v70 := Try.zeroValue139
  t76 := Try.underlying144
  a76 := Try.isAgg144
  z76 := Try.sizeOf144
  v76 := Try.zeroValue144
  t77 := Try.underlying109
  a77 := Try.isAgg109
  z77 := Try.sizeOf109
  v77 := Try.zeroValue109 }

/-! ### the order of paths -/
theorem ltB_eq (p q : List UInt8) : ltB p q = decide (p < q) := bytesLess_eq p q
theorem ltB_irrefl (p : List UInt8) : ltB p p = false := by rw [ltB_eq]; exact decide_eq_false (List.lt_irrefl p)
theorem ltB_trans {p q r : List UInt8} (h1 : ltB p q = true) (h2 : ltB q r = true) : ltB p r = true := by
  rw [ltB_eq, decide_eq_true_eq] at *
  exact List.lt_trans h1 h2
theorem ltB_asymm {p q : List UInt8} (h1 : ltB p q = true) : ltB q p = false := by
  rw [ltB_eq, decide_eq_true_eq] at *
  rw [decide_eq_false_iff_not]
  exact fun h => List.lt_irrefl p (List.lt_trans h1 h)
theorem ltB_eq_of {p q : List UInt8} (h1 : ltB p q = false) (h2 : ltB q p = false) : p = q := by
  rw [ltB_eq, decide_eq_false_iff_not, List.not_lt] at *
  exact List.le_antisymm h2 h1
theorem ltB_ntrans {p q r : List UInt8} (h1 : ltB p q = false) (h2 : ltB q r = false) : ltB p r = false := by
  rw [ltB_eq, decide_eq_false_iff_not, List.not_lt] at *
  exact List.le_trans h2 h1

/-! ### a file's two cells, and a list's -/
def encF (x : S33) : List Value := [.string x.f0, .string x.f1]
def flatF (l : List S33) : List Value := l.flatMap encF
theorem flatF_len : ∀ (l : List S33), (flatF l).length = l.length * 2
  | [] => rfl
  | x :: t => by
    have := flatF_len t
    simp only [flatF, List.flatMap_cons, List.length_append, List.length_cons] at *
    simp only [encF, List.length_cons, List.length_nil]
    omega
theorem reps_flat {R : S33 → List Value → Prop} (hR : ∀ p c, R p c → c = encF p) : ∀ (l : List S33) (cs : List Value), Reps R 2 l cs → cs = flatF l
  | [], cs, h => by
    have := h.1
    simp only [List.length_nil, Nat.zero_mul] at this
    exact List.eq_nil_of_length_eq_zero this
  | x :: t, cs, h => by
    have h0 := hR _ _ (h.2 0 x rfl)
    have ht : Reps R 2 t (cs.drop 2) := by
      refine ⟨by rw [List.length_drop, h.1, List.length_cons]; omega, fun j p hj => ?_⟩
      have := h.2 (j + 1) p (by simpa using hj)
      rwa [List.drop_drop, show 2 + j * 2 = (j + 1) * 2 by omega]
    have h1 := reps_flat hR t _ ht
    rw [Nat.zero_mul, List.drop_zero] at h0
    calc cs = cs.take 2 ++ cs.drop 2 := (List.take_append_drop 2 cs).symm
      _ = encF x ++ flatF t := by rw [h0, h1]
      _ = flatF (x :: t) := rfl
theorem flat_reps {R : S33 → List Value → Prop} (hR : ∀ p, R p (encF p)) : ∀ (l : List S33), Reps R 2 l (flatF l)
  | [] => Reps.none _ _
  | x :: t => Reps.front (hR x) rfl (flat_reps hR t) rfl
theorem flatF_get (x : S33) : ∀ (l : List S33) (t : Nat), (flatF l)[t]! = if t < l.length * 2 then (encF (l.getD (t / 2) z33))[t % 2]! else (flatF l)[t]! := by
  intro l
  induction l with
  | nil => intro t; simp
  | cons y ys ih =>
    intro t
    rcases t with _ | _ | t
    · simp [flatF, encF]
    · simp [flatF, encF]
    · have h := ih t
      have e1 : (t + 2) / 2 = t / 2 + 1 := by omega
      have e2 : (t + 2) % 2 = t % 2 := by omega
      by_cases hc : t < ys.length * 2
      · rw [if_pos hc] at h
        rw [if_pos (by simp only [List.length_cons]; omega), e1, e2]
        simp only [List.getD_cons_succ]
        rw [← h]
        simp [flatF, encF]
      · rw [if_neg (by simp only [List.length_cons]; omega)]

instance : Inhabited S33 := ⟨z33⟩
theorem flatK_flat (l : List S33) : flatK encF 2 l.toArray = (flatF l).toArray := by
  apply ext_get!
  · rw [size_flatK]; simp [flatF_len]
  · intro t ht
    rw [size_flatK] at ht
    rw [get_flatK _ _ _ _ ht]
    have h := flatF_get z33 l t
    have ht' : t < l.length * 2 := by simpa using ht
    rw [if_pos ht'] at h
    have hh : t / 2 < l.length := by omega
    rw [show ((flatF l).toArray)[t]! = (flatF l)[t]! by simp, h]
    simp [getElem!_pos, hh, List.getD_eq_getElem?_getD]

#print axioms flatK_flat
end Go.Proofs.Ytgbkoeinfhlpoaa.F

namespace Go.Proofs.Ytgbkoeinfhlpoaa.F
open Go.RowKit Go.Shelf Go.Proofs.YtgbkoeinfhlpoaaW.PrintWords Go.Proofs.YtgbkoeinfhlpoaaW.PrintLast Go.Proofs.YtgbkoeinfhlpoaaW.PrintMore
set_option linter.unusedVariables false
set_option linter.unusedSimpArgs false

def cmpF (x y : S33) : Int := Lib.compareBytes x.p y.p
theorem cmpF_lt (x y : S33) : Go.Proofs.ltOf cmpF x y = ltB x.p y.p := by
  have h := (cmp_spec x.p y.p).1
  unfold Go.Proofs.ltOf cmpF
  cases hb : ltB x.p y.p with
  | true => exact decide_eq_true (h.mpr hb)
  | false => exact decide_eq_false (fun hc => by rw [h.mp hc] at hb; cases hb)
theorem swoF : Go.Sort.SWO (Go.Proofs.ltOf cmpF) where
  irrefl x := by rw [cmpF_lt]; exact ltB_irrefl _
  trans x y z h1 h2 := by rw [cmpF_lt] at *; exact ltB_trans h1 h2
  ntrans x y z h1 h2 := by rw [cmpF_lt] at *; exact ltB_ntrans h1 h2

set_option maxHeartbeats 1000000 in
set_option maxRecDepth 100000 in
theorem cmp47 (x y : S33) (W : World) : Calls Try.prog 47 #[.agg #[.string x.f0, .string x.f1], .agg #[.string y.f0, .string y.f1]] W fun e w' => e = .returned (.int .i64 (cmpF x y)) ∧ ∃ q os', w' = Go.Sort.grow (W.drewN q) os' := by
  have hu33 := Try.underlying33
  have hcon := fun W' => Compare_calls x.f0 y.f0 W'
  unfold cmpF S33.p
  generalize Lib.compareBytes x.f0.toList y.f0.toList = r at hcon ⊢
  go_enter Try.func47, Try.ntmps47
  go_wp2_with (go_at_call 48; refine (hcon _).mono ?_; rintro e w' ⟨rfl, rfl⟩)
  go_ret
  exact ⟨rfl, 0, _, by rw [Go.Sort.alloc_eq_grow, Go.Sort.alloc_eq_grow, Go.Sort.grow_grow]; rfl⟩

theorem enters47 : ∀ args w, (callFunc 47 args).run Try.prog w = .ok (.enter 47 args) w := enters_of Try.func47 (by kernel_rfl) rfl
theorem agg33 (w : World) : (isAgg 33).run Try.prog w = .ok true w := by kernel_rfl
theorem size33 (w : World) : (Go.sizeOf 33).run Try.prog w = .ok 2 w := by kernel_rfl

theorem inner_flat {w : World} {base : Nat} {ok : Nat → Prop} {l : List S33} {inner : List Value} (h : Reps (k33.M w base ok) 2 l inner) : inner = flatF l :=
  reps_flat (fun p c hc => k33_openM hc) l inner h

theorem holds_flat {w : World} {base g cap : Nat} {l : List S33} (h : w.ownsRow base 33 2 (.slice (some ⟨g, 0, none⟩) l.length cap) l.length (flatF l)) : Go.Sort.HoldsK encF 2 w g 0 l.toArray := by
  unfold Go.Sort.HoldsK
  rw [flatK_flat]
  intro j hj
  have hj' : j < l.length * 2 := by rw [← flatF_len]; simpa using hj
  have hl : j < (flatF l).length := by rw [flatF_len]; exact hj'
  refine ⟨?_, ?_⟩
  · rw [Nat.zero_add, h.cellAt j hj']
    simp [hl]
  · rcases h.2 with ⟨h0, _⟩ | ⟨g', cap', cur, hv, _, hg, _⟩
    · cases h0
    · cases hv
      simp [World.frozen?, hg]

theorem heap_sortedF {w : World} {g n : Nat} {os : Array Obj} {cur : Array Value} {e : TypeId} {fr : Nat × Nat} (d : Array Value) (hb : w.heap[g]? = some (.cells cur e fr)) :
    (Go.Sort.grow (Go.Sort.putRow id (Go.Sort.ahead w n) g 0 d) os).heap[g]? = some (.cells (Go.Sort.putCells id 0 d cur) e fr) := by
  have hg : g < w.heap.size := (Array.getElem?_eq_some_iff.1 hb).1
  rw [Go.Sort.heap_grow_old _ _ (by simpa using hg)]
  simp [Go.Sort.putRow, Go.Sort.mapBlock, Go.Sort.ahead, Array.getElem?_modify, hb, Go.Sort.onCells]

theorem grownBy_sortedF {w : World} {g n : Nat} {os : Array Obj} (d : Array Value) : w.grownBy (Go.Sort.grow (Go.Sort.putRow id (Go.Sort.ahead w n) g 0 d) os) (some g) := by
  refine ⟨rfl, rfl, rfl, by simp, fun k hk hne => ?_⟩
  rw [Go.Sort.heap_grow_old _ _ (by simpa using hk)]
  have : g ≠ k := fun e => hne (by rw [e])
  simp [Go.Sort.putRow, Go.Sort.mapBlock, Go.Sort.ahead, Array.getElem?_modify, this]

theorem take_putCellsF (cur : Array Value) (ts : List Value) (h : ts.length ≤ cur.size) : (Go.Sort.putCells id 0 ts.toArray cur).toList.take ts.length = ts := by
  apply List.ext_getElem?
  intro j
  by_cases hj : j < ts.length
  · rw [List.getElem?_take_of_lt hj, Array.getElem?_toList]
    simp [Go.Sort.putCells, hj, show j < cur.size by omega]
  · rw [List.getElem?_take_eq_none (by omega), List.getElem?_eq_none (by omega)]

theorem own_sortedF {w : World} {base g cap n : Nat} {os : Array Obj} {l l' : List S33} (hl : l'.length = l.length) (h : w.ownsRow base 33 2 (.slice (some ⟨g, 0, none⟩) l.length cap) l.length (flatF l)) :
    (Go.Sort.grow (Go.Sort.putRow id (Go.Sort.ahead w n) g 0 (flatF l').toArray) os).ownsRow base 33 2 (.slice (some ⟨g, 0, none⟩) l.length cap) l.length (flatF l') := by
  rcases h.2 with ⟨h0, _⟩ | ⟨g', cap', cur, hv, hb, hg, h1, h2, h3, h4⟩
  · cases h0
  · cases hv
    refine ⟨by rw [flatF_len, hl], .inr ⟨g, cap, _, rfl, hb, heap_sortedF _ hg, h1, h2, by simpa [Go.Sort.putCells] using h3, ?_⟩⟩
    have := take_putCellsF cur (flatF l') (by rw [flatF_len, h3, hl]; omega)
    rwa [flatF_len, hl] at this

/-- Sorted by path: no later one is less than an earlier one. -/
def SortedP (l : List S33) : Prop := l.Pairwise (fun f g => ltB g.p f.p = false)

theorem sorted_of {d' : Array S33} (h : Go.Sort.SortedIn (Go.Proofs.ltOf cmpF) 0 d'.size d') : SortedP d'.toList := by
  unfold SortedP
  rw [List.pairwise_iff_getElem]
  intro i j hi hj hij
  have := h i j (Nat.zero_le _) hij (by simpa using hj)
  rw [cmpF_lt] at this
  simpa [getElem!_pos, show i < d'.size by simpa using hi, show j < d'.size by simpa using hj] using this

set_option maxHeartbeats 1000000 in
theorem SortFunc_calls (base : Nat) (v : Value) (l : List S33) (w : World) (hr : Kd.R k33 33 w base (fun _ => True) v l) (hl : l.length ≤ 1000000) :
    Calls Try.prog 46 #[v, .func (.func 47) #[] #[]] w fun e w' => e = .returned (.tuple #[]) ∧ ∃ l' : List S33, l'.Perm l ∧ SortedP l' ∧ Kd.R k33 33 w' base (fun _ => True) v l' ∧ Below base w w' := by
  obtain ⟨hok, inner, hown, hrep⟩ := hr
  have hin := inner_flat hrep
  subst hin
  rcases hown.2 with ⟨rfl, h0⟩ | ⟨g, cap, cur, rfl, hb, hg, h1, h2, h3, h4⟩
  · -- a nil row
    obtain rfl : l = [] := List.eq_nil_of_length_eq_zero h0
    have hcon := Go.Proofs.AnyF.slices_SortFunc_none sortFile none 0 (.func (.func 47) #[] #[]) w
    refine (show Calls Try.prog 46 #[.slice none 0 0, .func (.func 47) #[] #[]] w _ from hcon).mono ?_
    rintro e w' ⟨rfl, rfl⟩
    exact ⟨rfl, [], List.Perm.refl _, List.Pairwise.nil, Kd.R_nil k33 33 _ base (fun _ => True), Below.refl base _⟩
  · have hlt : g < w.heap.size := (Array.getElem?_eq_some_iff.1 hg).1
    have hcon := Go.Proofs.AnyQ.slices_SortFunc sortFile 2 agg33 size33 encF (fun _ => rfl) (fun x v hv => by simp [encF] at hv; rcases hv with rfl | rfl <;> rfl) cmpF swoF 47 #[] g 0 cap l.toArray w enters47 (fun _ _ _ _ x y => cmp47 x y _) (holds_flat hown) hlt (by simp; omega)
    change Calls Try.prog 46 _ _ _ at hcon
    refine (show Calls Try.prog 46 #[.slice (some ⟨g, 0, none⟩) l.length cap, .func (.func 47) #[] #[]] w _ from hcon).mono ?_
    rintro e w' ⟨rfl, d', n, os, hp, hs, rfl⟩
    refine ⟨rfl, d'.toList, ?_, ?_, ?_, ?_⟩
    · have := hp.2.2
      have hsz : d'.size = l.length := by have := hp.1; simpa using this
      simpa [Array.extract_eq_self_of_le, hsz] using this
    · have hsz : d'.size = l.toArray.size := hp.1
      rw [← hsz] at hs
      exact sorted_of hs
    · have hsz : d'.toList.length = l.length := by have := hp.1; simpa using this
      have e : Go.Proofs.sortWorldK encF 2 w g 0 n d' os = Go.Sort.grow (Go.Sort.putRow id (Go.Sort.ahead w n) g 0 (flatF d'.toList).toArray) os := by
        unfold Go.Proofs.sortWorldK Go.Sort.putRowK
        rw [← flatK_flat]
      refine ⟨fun _ _ => trivial, flatF d'.toList, ?_, flat_reps (fun p => k33_mkM _ _ _ p) _⟩
      rw [e, hsz]
      exact own_sortedF hsz hown
    · have e : Go.Proofs.sortWorldK encF 2 w g 0 n d' os = Go.Sort.grow (Go.Sort.putRow id (Go.Sort.ahead w n) g 0 (Go.Sort.flatK encF 2 d')) os := rfl
      rw [e]
      have hgb := grownBy_sortedF (w := w) (g := g) (n := n) (os := os) (Go.Sort.flatK encF 2 d')
      exact (Below.refl base w).grown hgb (by omega) (fun k hk => by cases hk; exact hb)

#print axioms SortFunc_calls
end Go.Proofs.Ytgbkoeinfhlpoaa.F
