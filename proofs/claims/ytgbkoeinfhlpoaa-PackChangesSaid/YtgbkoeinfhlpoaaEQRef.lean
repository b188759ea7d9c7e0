/- strings.HasPrefix, files.under, files.way; strings.Compare. -/
/- The closures of files.Put and files.Lay: is a file in the way. -/
/- Plain laws on trees of files, for the laws of layer 18 (lines of ESortA, ELayA, EDel, ELawKit, without the sort). -/
/- The document's answers for layer 17 (path, file, way, size, check), at the numbers of the laws of layer 18 (lines of ERefA, ERefB). -/
import Derived.Test.YtgbkoeinfhlpoaaEDef
import Derived.Shelf.Abstract
import Derived.Lib.Strings
import Derived.Lib.Bytealg
import Derived.Deep.QuietTactic
import Derived.BigQuiet
import Derived.Test.YtgbkoeinfhlpoaaECheck
import Derived.Sort.Walk0
import Derived.Test.YtgbkoeinfhlpoaaFx19
import Derived.Test.YtgbkoeinfhlpoaaFx20
import Derived.Test.YtgbkoeinfhlpoaaFx22
import Derived.Test.YtgbkoeinfhlpoaaFx23
import Derived.Test.YtgbkoeinfhlpoaaFx24
namespace Go.Proofs.Ytgbkoeinfhlpoaa.F
open Go.RowKit Go.Shelf Go.Proofs.YtgbkoeinfhlpoaaW.PrintWords Go.Proofs.YtgbkoeinfhlpoaaW.PrintLast Go.Proofs.YtgbkoeinfhlpoaaW.PrintMore
set_option linter.unusedVariables false
set_option linter.unusedSimpArgs false

def preB (s p : ByteArray) : Bool := p.toList.isPrefixOf s.toList

theorem preB_short (s p : ByteArray) (h : s.size < p.size) : preB s p = false := by
  unfold preB
  cases hc : p.toList.isPrefixOf s.toList with
  | false => rfl
  | true =>
    have := (List.isPrefixOf_iff_prefix.mp hc).length_le
    rw [Lib.toList_data, Lib.toList_data, ← Lib.size_eq, ← Lib.size_eq] at this
    omega
theorem preB_long (s p : ByteArray) (h : p.size ≤ s.size) : preB s p = ((s.extract 0 p.size).toList == p.toList) := by
  unfold preB
  rw [Lib.extract_toList, List.drop_zero, Nat.sub_zero, Lib.size_eq, Lib.toList_data, Lib.toList_data]
  rw [Bool.eq_iff_iff, List.isPrefixOf_iff_prefix, beq_iff_eq]
  constructor
  · intro h1
    exact (List.prefix_iff_eq_take.mp h1).symm
  · intro h1
    exact List.prefix_iff_eq_take.mpr h1.symm

set_option maxHeartbeats 1000000 in
set_option maxRecDepth 100000 in
theorem HasPrefix0 (s p : ByteArray) (w : World) :
    Calls Try.prog 133 #[.string s, .string p] w fun e w' => e = .returned (.bool (preB s p)) ∧ w' = w := by
  by_cases h : p.size ≤ s.size
  · rw [preB_long s p h]
    have h1 : decide ((p.size : Int) ≤ (s.size : Int)) = true := decide_eq_true (by omega)
    have h2 : (p.size : Int) ≤ (s.size : Int) := by omega
    have h3 : decide (p.size ≤ s.size) = true := decide_eq_true h
    generalize hb : ((s.extract 0 p.size).toList == p.toList) = b
    go_enter Try.func133, Try.ntmps133
    go_wp2
    go_ret
    exact ⟨rfl, rfl⟩
  · rw [preB_short s p (by omega)]
    have h1 : decide ((p.size : Int) ≤ (s.size : Int)) = false := decide_eq_false (by omega)
    have h3 : decide (p.size ≤ s.size) = false := decide_eq_false h
    go_enter Try.func133, Try.ntmps133
    go_wp2
    go_ret
    exact ⟨rfl, rfl⟩

set_option maxHeartbeats 1000000 in
set_option maxRecDepth 100000 in
theorem HasPrefix_calls (s p : ByteArray) (w : World) :
    Calls Try.prog 106 #[.string s, .string p] w fun e w' => e = .returned (.bool (preB s p)) ∧ w' = w := by
  have hc := HasPrefix0 s p w
  generalize preB s p = b at hc ⊢
  go_enter Try.func106, Try.ntmps106
  go_wp2_with (go_at_call 133; refine hc.mono ?_; rintro e w' ⟨rfl, rfl⟩)
  go_ret
  exact ⟨rfl, rfl⟩

theorem append_list (q r : ByteArray) : (q ++ r).toList = q.toList ++ r.toList := by
  rw [Lib.toList_data, Lib.toList_data, Lib.toList_data]
  simp [ByteArray.data_append]

set_option maxHeartbeats 1000000 in
set_option maxRecDepth 100000 in
theorem under_calls (p q : ByteArray) (hq : q.size ≤ 1000000) (w : World) :
    Calls Try.prog 83 #[.string p, .string q] w fun e w' => e = .returned (.bool (underB p.toList q.toList)) ∧ w' = w := by
  have hc := HasPrefix_calls p (q ++ ⟨#[47]⟩) w
  have e : preB p (q ++ ⟨#[47]⟩) = underB p.toList q.toList := by
    unfold preB underB
    rw [append_list]
    have : (⟨#[47]⟩ : ByteArray).toList = [47] := by rw [Lib.toList_data]
    rw [this]
  rw [e] at hc
  clear e
  generalize underB p.toList q.toList = b at hc ⊢
  go_enter Try.func83, Try.ntmps83
  go_wp2_with fail
  refine hc.mono ?_
  rintro e w' ⟨rfl, rfl⟩
  go_wp2_with fail
  go_ret
  exact ⟨rfl, rfl⟩

set_option maxHeartbeats 1000000 in
set_option maxRecDepth 100000 in
theorem way_calls (p q : ByteArray) (hp : p.size ≤ 1000000) (hq : q.size ≤ 1000000) (w : World) :
    Calls Try.prog 45 #[.string p, .string q] w fun e w' => e = .returned (.bool (wayB p.toList q.toList)) ∧ w' = w := by
  have h1 := under_calls p q hq w
  have h2 := under_calls q p hp w
  unfold wayB
  cases hb : (p.toList == q.toList) with
  | true =>
    clear h1 h2
    simp only [Bool.true_or]
    go_enter Try.func45, Try.ntmps45
    go_wp2
    go_ret
    exact ⟨rfl, rfl⟩
  | false =>
    simp only [Bool.false_or]
    cases hu : underB p.toList q.toList with
    | true =>
      rw [hu] at h1
      clear h2 hu
      simp only [Bool.true_or]
      go_enter Try.func45, Try.ntmps45
      go_wp2_with fail
      refine h1.mono ?_
      rintro e w' ⟨rfl, rfl⟩
      go_wp2_with fail
      go_ret
      exact ⟨rfl, rfl⟩
    | false =>
      rw [hu] at h1
      clear hu
      simp only [Bool.false_or]
      generalize underB q.toList p.toList = b at h2 ⊢
      go_enter Try.func45, Try.ntmps45
      go_wp2_with fail
      refine h1.mono ?_
      rintro e w' ⟨rfl, rfl⟩
      go_wp2_with fail
      refine h2.mono ?_
      rintro e w' ⟨rfl, rfl⟩
      go_wp2_with fail
      go_ret
      exact ⟨rfl, rfl⟩

set_option maxHeartbeats 1000000 in
set_option maxRecDepth 100000 in
theorem CompareString_calls (a b : ByteArray) (w : World) :
    Calls Try.prog 86 #[.string a, .string b] w fun e w' => e = .returned (.int .i64 (Lib.compareBytes a.toList b.toList)) ∧ w' = w := by
  rw [Lib.toList_data, Lib.toList_data]
  go_enter Try.func86, Try.ntmps86
  go_wp2
  rw [run_callFunc_extern Try.func117 (by kernel_rfl) (by kernel_rfl) (by kernel_rfl) (e := Extern.BytealgCompare.compare) (by kernel_rfl), Lib.run_compareString]
  simp only [Result.andThen]
  rw [Oper.upon_value]
  go_wp2
  go_ret
  exact ⟨rfl, rfl⟩

set_option maxHeartbeats 1000000 in
set_option maxRecDepth 100000 in
theorem Compare_calls (a b : ByteArray) (w : World) :
    Calls Try.prog 48 #[.string a, .string b] w fun e w' => e = .returned (.int .i64 (Lib.compareBytes a.toList b.toList)) ∧ w' = w := by
  have hc := CompareString_calls a b w
  generalize Lib.compareBytes a.toList b.toList = r at hc ⊢
  go_enter Try.func48, Try.ntmps48
  go_wp2_with (go_at_call 86; refine hc.mono ?_; rintro e w' ⟨rfl, rfl⟩)
  go_ret
  exact ⟨rfl, rfl⟩

theorem cmp_spec : ∀ (p q : List UInt8), (Lib.compareBytes p q < 0 ↔ ltB p q = true) ∧ (Lib.compareBytes p q = 0 ↔ p = q)
  | [], [] => by simp [Lib.compareBytes, ltB, Op.bytesLess]
  | [], _ :: _ => by simp [Lib.compareBytes, ltB, Op.bytesLess]
  | _ :: _, [] => by simp [Lib.compareBytes, ltB, Op.bytesLess]
  | x :: a, y :: b => by
    have ih := cmp_spec a b
    unfold Lib.compareBytes
    unfold ltB at ih ⊢
    unfold Op.bytesLess
    by_cases h1 : x < y
    · rw [if_pos h1]
      have h3 : x ≠ y := fun e => by subst e; exact UInt8.lt_irrefl x h1
      simp [h1, h3]
    · rw [if_neg h1]
      by_cases h2 : y < x
      · rw [if_pos h2]
        have h3 : x ≠ y := fun e => by subst e; exact UInt8.lt_irrefl x h2
        simp [h1, h3]
      · rw [if_neg h2]
        have h3 : x = y := UInt8.le_antisymm (UInt8.not_lt.mp h2) (UInt8.not_lt.mp h1)
        subst h3
        simp [h1]
        exact ih

#print axioms way_calls
#print axioms Compare_calls
end Go.Proofs.Ytgbkoeinfhlpoaa.F

namespace Go.Proofs.Ytgbkoeinfhlpoaa.F
open Go.RowKit Go.Shelf Go.Proofs.YtgbkoeinfhlpoaaW.PrintWords Go.Proofs.YtgbkoeinfhlpoaaW.PrintLast Go.Proofs.YtgbkoeinfhlpoaaW.PrintMore
set_option linter.unusedVariables false
set_option linter.unusedSimpArgs false

theorem enters54 : ∀ args w, (callFunc 54 args).run Try.prog w = .ok (.enter 54 args) w := enters_of Try.func54 (by kernel_rfl) rfl
theorem enters44 : ∀ args w, (callFunc 44 args).run Try.prog w = .ok (.enter 44 args) w := enters_of Try.func44 (by kernel_rfl) rfl

set_option maxHeartbeats 1000000 in
set_option maxRecDepth 100000 in
theorem asks54 (l : List S33) (q : ByteArray) (B : Nat) (w : World) (hB : B < w.heap.size) (hcell : w.cell? ⟨B, 0, none⟩ = some (.string q)) (hq : q.size ≤ 1000000) (hl : ∀ x ∈ l, x.f0.size ≤ 1000000) :
    Asks 54 #[.pointer (some ⟨B, 0, none⟩)] (fun x => x.p != q.toList && wayB x.p q.toList) l w := fun W x hx hb => by
  have hc : W.cell? ⟨B, 0, none⟩ = some (.string q) := (hb.cell (p := ⟨B, 0, none⟩) hB).trans hcell
  have hBW : B < W.heap.size := Nat.lt_of_lt_of_le hB hb.size
  have hne : B ≠ W.heap.size := by omega
  have hu33 := Try.underlying33
  have hw := way_calls x.f0 q (hl x hx) hq (W.alloc (.cells #[.string x.f0, .string x.f1] 33))
  have hB0 : Below W.heap.size W (W.alloc (.cells #[.string x.f0, .string x.f1] 33)) := (Below.refl _ W).alloc (Nat.le_refl _) _
  show Calls Try.prog 54 #[.agg #[.string x.f0, .string x.f1], .pointer (some ⟨B, 0, none⟩)] W _
  clear hl hx hb hcell
  unfold S33.p
  cases he : (x.f0.toList == q.toList) with
  | true =>
    have h1 : (x.f0.toList != q.toList) = false := by simp [bne, he]
    clear hw
    simp only [h1, Bool.false_and]
    go_enter Try.func54, Try.ntmps54
    go_wp2
    go_ret
    exact ⟨rfl, hB0⟩
  | false =>
    have h1 : (x.f0.toList != q.toList) = true := by simp [bne, he]
    simp only [h1, Bool.true_and]
    generalize wayB x.f0.toList q.toList = b at hw ⊢
    go_enter Try.func54, Try.ntmps54
    go_wp2_with fail
    refine hw.mono ?_
    rintro e w' ⟨rfl, rfl⟩
    go_wp2_with fail
    go_ret
    exact ⟨rfl, hB0⟩

set_option maxHeartbeats 1000000 in
set_option maxRecDepth 100000 in
theorem asks44 (l : List S33) (f : S33) (B : Nat) (w : World) (hB : B < w.heap.size) (hcell : w.cell? ⟨B, 0, none⟩ = some (.string f.f0)) (hq : f.f0.size ≤ 1000000) (hl : ∀ x ∈ l, x.f0.size ≤ 1000000) :
    Asks 44 #[.pointer (some ⟨B, 0, none⟩)] (fun g => wayB f.p g.p) l w := fun W x hx hb => by
  have hc : W.cell? ⟨B, 0, none⟩ = some (.string f.f0) := (hb.cell (p := ⟨B, 0, none⟩) hB).trans hcell
  have hBW : B < W.heap.size := Nat.lt_of_lt_of_le hB hb.size
  have hne : B ≠ W.heap.size := by omega
  have hu33 := Try.underlying33
  have hw := way_calls f.f0 x.f0 hq (hl x hx) (W.alloc (.cells #[.string x.f0, .string x.f1] 33))
  have hB0 : Below W.heap.size W (W.alloc (.cells #[.string x.f0, .string x.f1] 33)) := (Below.refl _ W).alloc (Nat.le_refl _) _
  show Calls Try.prog 44 #[.agg #[.string x.f0, .string x.f1], .pointer (some ⟨B, 0, none⟩)] W fun e w' => e = .returned (.bool (wayB f.f0.toList x.f0.toList)) ∧ Below W.heap.size W w'
  clear hl hx hb hcell
  generalize wayB f.f0.toList x.f0.toList = b at hw ⊢
  go_enter Try.func44, Try.ntmps44
  go_wp2_with fail
  refine hw.mono ?_
  rintro e w' ⟨rfl, rfl⟩
  go_wp2_with fail
  go_ret
  exact ⟨rfl, hB0⟩

#print axioms asks54
#print axioms asks44
end Go.Proofs.Ytgbkoeinfhlpoaa.F

namespace Go.Proofs.Ytgbkoeinfhlpoaa.F
open Go.RowKit Go.Shelf Go.Proofs.YtgbkoeinfhlpoaaW.PrintWords Go.Proofs.YtgbkoeinfhlpoaaW.PrintLast Go.Proofs.YtgbkoeinfhlpoaaW.PrintMore
set_option linter.unusedVariables false
set_option linter.unusedSimpArgs false
set_option linter.unusedSectionVars false

theorem ltB_eq (p q : List UInt8) : ltB p q = decide (p < q) := Go.Proofs.bytesLess_eq p q
theorem ltB_irrefl (p : List UInt8) : ltB p p = false := by rw [ltB_eq]; exact decide_eq_false (List.lt_irrefl p)
theorem ltB_trans {p q r : List UInt8} (h1 : ltB p q = true) (h2 : ltB q r = true) : ltB p r = true := by
  rw [ltB_eq, decide_eq_true_eq] at *
  exact List.lt_trans h1 h2
theorem ltB_asymm {p q : List UInt8} (h1 : ltB p q = true) : ltB q p = false := by
  rw [ltB_eq, decide_eq_true_eq] at *
  rw [decide_eq_false_iff_not]
  exact fun h => List.lt_irrefl p (List.lt_trans h1 h)
theorem ltB_eq_of {p q : List UInt8} (h1 : ltB p q = false) (h2 : ltB q p = false) : p = q := by
  rw [ltB_eq, decide_eq_false_iff_not, List.not_lt] at *
  exact List.le_antisymm h2 h1
theorem ltB_ntrans {p q r : List UInt8} (h1 : ltB p q = false) (h2 : ltB q r = false) : ltB p r = false := by
  rw [ltB_eq, decide_eq_false_iff_not, List.not_lt] at *
  exact List.le_trans h2 h1

theorem firstE_all : ∀ (l : List S33), firstE l = 0 → ∀ f ∈ l, fileE f = 0
  | [], _, f, hf => by cases hf
  | x :: t, h, f, hf => by
    unfold firstE at h
    by_cases hx : fileE x = 0
    · rw [if_pos hx] at h
      rcases List.mem_cons.mp hf with rfl | hf
      · exact hx
      · exact firstE_all t h f hf
    · rw [if_neg hx] at h
      exact absurd h hx

structure Good (l : List S33) : Prop where
  file : ∀ f ∈ l, fileE f = 0
  rising : risingB l = true
  way : someWay l = false
  len : l.length ≤ 64
  size : sizeF l ≤ 16384

theorem good_of {l : List S33} (h : checkE l = 0) : Good l := by
  unfold checkE at h
  by_cases h1 : firstE l = 0
  · rw [if_pos h1] at h
    by_cases h2 : risingB l = true
    · rw [if_pos h2] at h
      by_cases h3 : someWay l = true
      · rw [if_pos h3] at h; cases h
      · rw [if_neg h3] at h
        unfold fullE at h
        by_cases h4 : l.length ≤ 64 ∧ sizeF l ≤ 16384
        · exact ⟨firstE_all l h1, h2, by simpa using h3, h4.1, h4.2⟩
        · rw [if_neg h4] at h; cases h
    · rw [if_neg h2] at h; cases h
  · rw [if_neg h1] at h; exact absurd h h1

/-- Rising: each path is less than every later one. -/
theorem rising_pair : ∀ (l : List S33), risingB l = true → l.Pairwise (fun f g => ltB f.p g.p = true)
  | [], _ => List.Pairwise.nil
  | [f], _ => List.pairwise_singleton _ _
  | f :: g :: t, h => by
    unfold risingB at h
    rw [Bool.and_eq_true] at h
    have ih := rising_pair (g :: t) h.2
    refine List.Pairwise.cons (fun x hx => ?_) ih
    rcases List.mem_cons.mp hx with rfl | hx
    · exact h.1
    · exact ltB_trans h.1 (List.rel_of_pairwise_cons ih hx)
theorem pair_rising : ∀ (l : List S33), l.Pairwise (fun f g => ltB f.p g.p = true) → risingB l = true
  | [], _ => rfl
  | [f], _ => rfl
  | f :: g :: t, h => by
    unfold risingB
    rw [Bool.and_eq_true]
    exact ⟨List.rel_of_pairwise_cons h List.mem_cons_self, pair_rising (g :: t) h.tail⟩

theorem good_apart {l : List S33} (G : Good l) : l.Pairwise (fun f g => f.p ≠ g.p) :=
  (rising_pair l G.rising).imp (fun h e => by rw [e, ltB_irrefl] at h; cases h)

/-- No path stands twice. -/
def Apart (l : List S33) : Prop := l.Pairwise (fun f g => f.p ≠ g.p)

theorem wayB_self (p : List UInt8) : wayB p p = true := by simp [wayB]
theorem wayB_comm (p q : List UInt8) : wayB p q = wayB q p := by
  unfold wayB
  rw [show (p == q) = (q == p) by rw [Bool.eq_iff_iff]; simp only [beq_iff_eq]; exact eq_comm, Bool.or_assoc, Bool.or_assoc, Bool.or_comm (underB p q)]

theorem getE_mem {l : List S33} (hd : Apart l) {f : S33} (hf : f ∈ l) : getE l f.p = (f.f1, true) := by
  unfold getE
  have h : l.find? (fun g => g.p == f.p) = some f := by
    induction l with
    | nil => cases hf
    | cons x t ih =>
      rcases List.mem_cons.mp hf with rfl | hf
      · simp
      · have hne := List.rel_of_pairwise_cons hd hf
        rw [List.find?_cons_of_neg (by simpa using hne)]
        exact ih hd.tail hf
  rw [h]
theorem getE_not {l : List S33} {p : List UInt8} (h : ∀ f ∈ l, f.p ≠ p) : getE l p = (⟨#[]⟩, false) := by
  unfold getE
  have : l.find? (fun g => g.p == p) = none := by
    rw [List.find?_eq_none]
    intro x hx
    simpa using h x hx
  rw [this]

theorem someWay_false {l : List S33} : someWay l = false ↔ ∀ f ∈ l, ∀ g ∈ l, underB f.p g.p = false := by
  unfold someWay
  simp [List.any_eq_false]

theorem fullE_zero {l : List S33} : fullE l = 0 ↔ l.length ≤ 64 ∧ sizeF l ≤ 16384 := by
  unfold fullE
  split <;> simp_all

theorem firstE_of {l : List S33} (h : ∀ f ∈ l, fileE f = 0) : firstE l = 0 := by
  induction l with
  | nil => rfl
  | cons x t ih =>
    unfold firstE
    rw [if_pos (h x List.mem_cons_self)]
    exact ih (fun f hf => h f (List.mem_cons_of_mem _ hf))
theorem check_of {l : List S33} (G : Good l) : checkE l = 0 := by
  unfold checkE
  rw [if_pos (firstE_of G.file), if_pos G.rising, if_neg (by rw [G.way]; simp), fullE_zero]
  exact ⟨G.len, G.size⟩

theorem Good.apart {l : List S33} (G : Good l) : Apart l := good_apart G
theorem sizeF_append : ∀ (a b : List S33), sizeF (a ++ b) = sizeF a + sizeF b
  | [], b => by simp [sizeF]
  | x :: t, b => by simp [sizeF, sizeF_append t b, Nat.add_assoc]
theorem lt_ne {p q : List UInt8} (h : ltB p q = true) : p ≠ q := fun e => by rw [e, ltB_irrefl] at h; cases h
theorem under_self (p : List UInt8) : underB p p = false := by
  cases h : underB p p with
  | false => rfl
  | true =>
    have := ((under_iff p p).mp h).1
    omega


#print axioms check_of
end Go.Proofs.Ytgbkoeinfhlpoaa.F

namespace Go.Proofs.Ytgbkoeinfhlpoaa.F
open Go.RowKit Go.Shelf Go.Proofs.YtgbkoeinfhlpoaaW.PrintWords Go.Proofs.YtgbkoeinfhlpoaaW.PrintLast Go.Proofs.YtgbkoeinfhlpoaaW.PrintMore
set_option linter.unusedVariables false
set_option linter.unusedSimpArgs false
set_option linter.unusedSectionVars false

theorem wrap_succJ {j : Nat} (h : j < 4611686018427387904) : wrap64 ((j : Int) + 1) = ((j + 1 : Nat) : Int) := by
  unfold wrap64
  omega


/-- A path's rest, where cur of its part is read. -/
def restB : List UInt8 → List UInt8 → Bool
  | cur, [] => partB cur
  | cur, c :: r => if c = 47 then partB cur && restB [] r else plainB c && restB (cur ++ [c]) r

theorem plain47 : plainB 47 = false := by decide

theorem split_pre : ∀ (cur rest : List UInt8), (∀ c ∈ cur, c ≠ 47) → ∀ p ps, splitS rest = p :: ps → splitS (cur ++ rest) = (cur ++ p) :: ps
  | [], rest, _, p, ps, h => h
  | c :: cur, rest, hc, p, ps, h => by
    have ih := split_pre cur rest (fun x hx => hc x (List.mem_cons_of_mem _ hx)) p ps h
    show splitS (c :: (cur ++ rest)) = _
    unfold splitS
    rw [if_neg (hc c List.mem_cons_self), ih]
    rfl
theorem split_some : ∀ (l : List UInt8), ∃ p ps, splitS l = p :: ps
  | [] => ⟨[], [], rfl⟩
  | c :: t => by
    obtain ⟨p, ps, h⟩ := split_some t
    unfold splitS
    by_cases hc : c = 47
    · rw [if_pos hc]; exact ⟨_, _, rfl⟩
    · rw [if_neg hc, h]; exact ⟨_, _, rfl⟩
theorem restB_split : ∀ (rest cur : List UInt8), (∀ c ∈ cur, c ≠ 47) → restB cur rest = (splitS (cur ++ rest)).all partB
  | [], cur, hc => by
    rw [split_pre cur [] hc [] [] rfl]
    simp [restB]
  | c :: r, cur, hc => by
    unfold restB
    by_cases h : c = 47
    · subst h
      rw [if_pos rfl, split_pre cur (47 :: r) hc [] (splitS r) (by rw [splitS, if_pos rfl]), List.all_cons, List.append_nil, restB_split r [] (by simp)]
      rfl
    · rw [if_neg h, restB_split r (cur ++ [c]) (by intro x hx; rcases List.mem_append.mp hx with hx | hx; · exact hc x hx
                                                   · rw [List.mem_singleton.mp hx]; exact h), List.append_assoc]
      show (plainB c && (splitS (cur ++ c :: r)).all partB) = _
      obtain ⟨p, ps, hr⟩ := split_some r
      have h1 : splitS (c :: r) = (c :: p) :: ps := by unfold splitS; rw [if_neg h, hr]
      rw [split_pre cur (c :: r) hc _ _ h1, List.all_cons]
      cases hp : plainB c with
      | true => rfl
      | false =>
        have : partB (cur ++ c :: p) = false := by
          unfold partB
          simp [hp]
        rw [this]; rfl

theorem j2_plain (k : Nat) (x0 : ByteArray) (f i : Int) (h0 : 0 ≤ i) (h1 : i < (x0.size : Int)) :
    bastionref17_Path.j2 (k + 1) x0 f i true = bastionref17_Path.j3 k x0 f i (!plainI (bt x0 i)) := by
  unfold bastionref17_Path.j2
  rw [if_pos rfl, if_pos h0, if_pos h1]
  generalize bt x0 i = n
  have hy : ∀ (h : (97 ≤ n ∧ n ≤ 122) ∨ (65 ≤ n ∧ n ≤ 90) ∨ (48 ≤ n ∧ n ≤ 57) ∨ n = 45 ∨ n = 95), bastionref17_Path.j3 k x0 f i false = bastionref17_Path.j3 k x0 f i (!plainI n) := by
    intro h
    have : plainI n = true := by unfold plainI; rw [decide_eq_true_eq]; omega
    rw [this]; rfl
  have hn : ∀ (h : ¬ ((97 ≤ n ∧ n ≤ 122) ∨ (65 ≤ n ∧ n ≤ 90) ∨ (48 ≤ n ∧ n ≤ 57) ∨ n = 45 ∨ n = 95)), bastionref17_Path.j3 k x0 f i (n != 46) = bastionref17_Path.j3 k x0 f i (!plainI n) := by
    intro h
    by_cases h46 : n = 46
    · subst h46; rfl
    · have : plainI n = false := by unfold plainI; rw [decide_eq_false_iff_not]; omega
      rw [this, show (n != 46) = true by simp [h46]]; rfl
  repeat' split
  all_goals first | exact hy (by omega) | exact hn (by omega)

theorem bt_list (x0 : ByteArray) (i : Nat) (h : i < x0.size) : ∃ c r, x0.data.toList.drop i = c :: r ∧ r = x0.data.toList.drop (i + 1) ∧ bt x0 (i : Int) = (c.toNat : Int) := by
  have h' : i < x0.data.toList.length := by rw [← Lib.size_eq]; exact h
  refine ⟨x0.data.toList[i], _, List.drop_eq_getElem_cons h', rfl, ?_⟩
  have e : bt x0 (i : Int) = (x0[i].toNat : Int) := by simp [bt, h]
  rw [e]; rfl

theorem take_snoc (l : List UInt8) (f i : Nat) (c : UInt8) (r : List UInt8) (hfi : f ≤ i) (h : l.drop i = c :: r) : (l.drop f).take (i + 1 - f) = (l.drop f).take (i - f) ++ [c] := by
  rw [show i + 1 - f = (i - f) + 1 by omega, List.take_add_one]
  congr 1
  rw [List.getElem?_drop, show f + (i - f) = i by omega]
  have : (l.drop i)[0]? = some c := by rw [h]; rfl
  rw [List.getElem?_drop, Nat.add_zero] at this
  rw [this]; rfl

theorem part_spec (cur : List UInt8) (hc : ∀ c ∈ cur, plainB c = true) : partB cur = (cur != [] && cur != [46] && cur != [46, 46]) := by
  unfold partB
  rw [show cur.all plainB = true from List.all_eq_true.mpr hc, Bool.and_true]

theorem path_go (x0 : ByteArray) (hsz : x0.size ≤ 1000) : ∀ (n f i k : Nat), x0.size + 1 - i ≤ n → f ≤ i → i ≤ x0.size → (∀ c ∈ (x0.data.toList.drop f).take (i - f), plainB c = true) → 3 * n + 3 < k →
    bastionref17_Path.l0 k x0 (f : Int) (i : Int) = some (restB ((x0.data.toList.drop f).take (i - f)) (x0.data.toList.drop i))
  | 0, f, i, k, hn, _, hi, _, _ => by omega
  | n + 1, f, i, k, hn, hfi, hi, hp, hk => by
    obtain ⟨k, rfl⟩ : ∃ k', k = k' + 3 := ⟨k - 3, by omega⟩
    have hlen : x0.data.toList.length = x0.size := (Lib.size_eq x0).symm
    have hext : (x0.extract ((f : Int)).toNat ((i : Int)).toNat).toList = (x0.data.toList.drop f).take (i - f) := by
      rw [Int.toNat_natCast, Int.toNat_natCast, Lib.extract_toList]
    -- the part's end
    have hend : ∀ (rest : Bool), bastionref17_Path.l0 (k + 1) x0 ((i + 1 : Nat) : Int) ((i + 1 : Nat) : Int) = some rest →
        bastionref17_Path.j2 (k + 2) x0 (f : Int) (i : Int) false = some (partB ((x0.data.toList.drop f).take (i - f)) && rest) := by
      intro rest hr
      rw [part_spec _ hp]
      unfold bastionref17_Path.j2
      rw [if_neg (by simp), if_pos (by omega), if_pos (by omega), if_pos (by omega), hext, wrap_succJ (by omega), hr]
      generalize (x0.data.toList.drop f).take (i - f) = cur
      by_cases h1 : cur = []
      · rw [if_pos h1]; simp [h1]
      · rw [if_neg h1]
        by_cases h2 : cur = [46]
        · rw [if_pos h2]; simp [h2]
        · rw [if_neg h2]
          by_cases h3 : cur = [46, 46]
          · rw [if_pos h3]; simp [h3]
          · rw [if_neg h3]; simp [h1, h2, h3]
    show bastionref17_Path.l0 ((k + 2) + 1) _ _ _ = _
    unfold bastionref17_Path.l0
    rw [if_pos (by omega)]
    by_cases hlt : i < x0.size
    · rw [if_pos (by omega), if_pos (by omega)]
      obtain ⟨c, r, hd, hr, hb⟩ := bt_list x0 i hlt
      rw [hb, hd]
      by_cases h47 : c = 47
      · subst h47
        rw [show (((47 : UInt8).toNat : Int) != 47) = false by decide]
        have ih := path_go x0 hsz n (i + 1) (i + 1) (k + 1) (by omega) (Nat.le_refl _) (by omega) (by simp) (by omega)
        rw [Nat.sub_self, List.take_zero, ← hr] at ih
        rw [hend _ ih, restB, if_pos rfl]
      · have hne : ((c.toNat : Int) != 47) = true := by
          have : c.toNat ≠ 47 := fun e => h47 (UInt8.toNat_inj.mp e)
          have h2 : (c.toNat : Int) ≠ 47 := by omega
          simp [h2]
        rw [hne, show k + 2 = (k + 1) + 1 from rfl, j2_plain (k + 1) x0 _ _ (by omega) (by omega), hb, plainI_byte]
        unfold bastionref17_Path.j3
        unfold restB
        rw [if_neg h47]
        cases hpl : plainB c with
        | false => simp
        | true =>
          have ih := path_go x0 hsz n f (i + 1) k (by omega) (by omega) (by omega) (by
            rw [take_snoc _ _ _ _ _ hfi hd]
            intro x hx
            rcases List.mem_append.mp hx with hx | hx
            · exact hp x hx
            · rw [List.mem_singleton.mp hx]; exact hpl) (by omega)
          rw [take_snoc _ _ _ _ _ hfi hd, ← hr] at ih
          simp only [Bool.not_true, Bool.false_eq_true, if_false, Bool.true_and]
          rw [wrap_succJ (by omega)]
          exact ih
    · rw [if_neg (by omega)]
      have hie : i = x0.size := by omega
      have hr : bastionref17_Path.l0 (k + 1) x0 ((i + 1 : Nat) : Int) ((i + 1 : Nat) : Int) = some true := by
        unfold bastionref17_Path.l0
        rw [if_neg (by omega)]
      rw [hend true hr, Bool.and_true, show x0.data.toList.drop i = [] from List.drop_eq_nil_of_le (by omega), restB]

theorem j0_eq (k : Nat) (x0 : ByteArray) (b : Bool) : bastionref17_Path.j0 (k + 1) x0 b = if b = true then some false else bastionref17_Path.l0 k x0 0 0 := by
  unfold bastionref17_Path.j0; rfl
theorem refPath (x0 : ByteArray) (k : Nat) (hk : 200 ≤ k) : bastionref17_Path.f k x0 = some (pathB x0.toList) := by
  obtain ⟨k, rfl⟩ : ∃ k', k = k' + 1 := ⟨k - 1, by omega⟩
  unfold bastionref17_Path.f
  have hlen : x0.toList.length = x0.size := by rw [Lib.toList_data, ← Lib.size_eq]
  unfold pathB
  rw [hlen]
  by_cases h : (x0.size : Int) > 48
  · rw [if_pos h, decide_eq_false (by omega), Bool.false_and]
    rw [j0_eq, if_pos rfl]
  · rw [if_neg h, decide_eq_true (by omega), Bool.true_and]
    rw [j0_eq]
    by_cases he : x0.toList = []
    · rw [show (x0.toList == []) = true by simp [he], if_pos rfl, he]
      rfl
    · rw [show (x0.toList == []) = false by simp [he], if_neg (by simp)]
      have := path_go x0 (by omega) (x0.size + 1) 0 0 k (by omega) (Nat.le_refl _) (Nat.zero_le _) (by simp) (by omega)
      rw [show ((0 : Nat) : Int) = 0 from rfl] at this
      rw [this, Nat.sub_self, List.take_zero, List.drop_zero, restB_split _ [] (by simp), Lib.toList_data]
      rfl

theorem refFile (a0 a1 : ByteArray) (k : Nat) (hk : 200 ≤ k) : bastionref17_file.f k a0 a1 = some (fileE ⟨a0, a1⟩) := by
  unfold bastionref17_file.f fileE
  rw [refPath a0 k hk, Option.bind_some]
  show (if pathB a0.toList = true then _ else _) = some (if pathB a0.toList = true then (if a1.size ≤ 4096 then 0 else 40) else 63)
  by_cases h : pathB a0.toList = true
  · rw [if_pos h, if_pos h]
    by_cases h2 : a1.size ≤ 4096
    · rw [if_pos h2, if_neg (by omega)]
    · rw [if_neg h2, if_pos (by omega)]
  · rw [if_neg h, if_neg h]

theorem refWay (a0 a1 : ByteArray) : bastionref17_Way.f a0 a1 = some (wayB a0.toList a1.toList) := by
  unfold bastionref17_Way.f bastionref17_Under.f wayB
  simp only [Option.bind_some]
  by_cases h : a0.toList = a1.toList
  · rw [if_pos h]; simp [h]
  · rw [if_neg h, show (a0.toList == a1.toList) = false by simp [h], Bool.false_or]
    cases underB a0.toList a1.toList <;> simp

theorem sizeF_take (l : List S33) (j : Nat) (h : j < l.length) : sizeF (l.take (j + 1)) = sizeF (l.take j) + (l.getD j z33).f1.size := by
  rw [List.take_add_one, List.getElem?_eq_getElem h, sizeF_append]
  simp [sizeF, List.getD_eq_getElem?_getD, h]
theorem size_go (l : List S33) (hs : sizeF l ≤ 4611686018427387903) (hl : l.length ≤ 4611686018427387903) : ∀ (k j : Nat), l.length - j < k → bastionref17_Size.l0 k l (sizeF (l.take j) : Int) (j : Int) = some (sizeF l : Int)
  | 0, j, h => by omega
  | k + 1, j, h => by
    unfold bastionref17_Size.l0
    by_cases h1 : j < l.length
    · rw [if_pos (by omega), if_pos (by omega), getD_rd, wrap_succJ (by omega)]
      have hle : sizeF (l.take (j + 1)) ≤ sizeF l := by
        conv => rhs; rw [← List.take_append_drop (j + 1) l, sizeF_append]
        omega
      have e : wrap64 ((sizeF (l.take j) : Int) + ((l.getD j z33).f1.size : Int)) = (sizeF (l.take (j + 1)) : Int) := by
        rw [sizeF_take l j h1] at hle ⊢
        unfold wrap64
        omega
      rw [e]
      exact size_go l hs hl k (j + 1) (by omega)
    · rw [if_neg (by omega), List.take_of_length_le (by omega)]
theorem refSize (l : List S33) (hs : sizeF l ≤ 4611686018427387903) (hl : l.length ≤ 4611686018427387903) (k : Nat) (hk : l.length < k) : bastionref17_Size.f k l = some (sizeF l : Int) := by
  unfold bastionref17_Size.f
  exact size_go l hs hl k 0 (by omega)

#print axioms refFile
#print axioms refSize


/-! ### Check -/
section
variable (l : List S33) (hl : l.length ≤ 1000000000)
include hl
theorem chk_l2_end (k j : Nat) (hk : l.length + 5 < k) (hj : l.length ≤ j) (hf : ∀ f ∈ l, fileE f = 0) : bastionref17_Check.l2 (k + 1) l (j : Int) = some (fullE l) := by
  unfold bastionref17_Check.l2
  rw [if_neg (by omega)]
  unfold fullE
  by_cases h1 : (l.length : Int) > 64
  · rw [if_pos h1, if_neg (by omega)]
  · have hs := sizeF_le 4096 l (fun f hf' => data_short (hf f hf'))
    rw [if_neg h1, refSize l (by omega) (by omega) k (by omega), Option.bind_some]
    by_cases h2 : (sizeF l : Int) > 16384
    · rw [if_pos h2, if_neg (by omega)]
    · rw [if_neg h2, if_pos (by omega)]

/-- Is some file ahead of the j-th, from the i-th on, in its way? -/
theorem chk_l3 (j : Nat) (hj : j < l.length) (k' : Nat) (next : Option Int) (hnext : ∀ k, k' ≤ k → bastionref17_Check.l2 k l ((j + 1 : Nat) : Int) = next) :
    ∀ (n i k : Nat), j - i ≤ n → i ≤ j → k' + n + 1 ≤ k →
      ((∃ t, i ≤ t ∧ t < j ∧ wayB (l.getD j z33).p (l.getD t z33).p = true) ∧ bastionref17_Check.l3 k l (j : Int) (i : Int) = some 50) ∨
      ((¬ ∃ t, i ≤ t ∧ t < j ∧ wayB (l.getD j z33).p (l.getD t z33).p = true) ∧ bastionref17_Check.l3 k l (j : Int) (i : Int) = next)
  | n, i, 0, _, _, hk => by omega
  | n, i, k + 1, hn, hi, hk => by
    unfold bastionref17_Check.l3
    by_cases h1 : i < j
    · obtain ⟨n, rfl⟩ : ∃ m, n = m + 1 := ⟨n - 1, by omega⟩
      rw [if_pos (by omega), if_pos (by omega), if_pos (by omega), if_pos (by omega), if_pos (by omega), getD_rd, getD_rd, refWay, Option.bind_some, wrap_succJ (by omega)]
      change ((∃ t, i ≤ t ∧ t < j ∧ wayB (l.getD j z33).p (l.getD t z33).p = true) ∧ (if wayB (l.getD j z33).p (l.getD i z33).p = true then some 50 else bastionref17_Check.l3 k l (j : Int) ((i + 1 : Nat) : Int)) = some 50) ∨ ((¬ ∃ t, i ≤ t ∧ t < j ∧ wayB (l.getD j z33).p (l.getD t z33).p = true) ∧ (if wayB (l.getD j z33).p (l.getD i z33).p = true then some 50 else bastionref17_Check.l3 k l (j : Int) ((i + 1 : Nat) : Int)) = next)
      by_cases h2 : wayB (l.getD j z33).p (l.getD i z33).p = true
      · rw [if_pos h2]
        exact .inl ⟨⟨i, Nat.le_refl _, h1, h2⟩, rfl⟩
      · rw [if_neg h2]
        rcases chk_l3 j hj k' next hnext n (i + 1) k (by omega) (by omega) (by omega) with ⟨⟨t, a, b, c⟩, h⟩ | ⟨hno, h⟩
        · exact .inl ⟨⟨t, by omega, b, c⟩, h⟩
        · refine .inr ⟨?_, h⟩
          rintro ⟨t, a, b, c⟩
          rcases Nat.eq_or_lt_of_le a with rfl | hlt
          · exact h2 c
          · exact hno ⟨t, hlt, b, c⟩
    · rw [if_neg (by omega), wrap_succJ (by omega), hnext k (by omega)]
      refine .inr ⟨?_, rfl⟩
      rintro ⟨t, a, b, _⟩; omega

theorem chk_l2 (hf : ∀ f ∈ l, fileE f = 0) : ∀ (n j k : Nat), l.length - j ≤ n → j ≤ l.length → (n + 1) * (l.length + 5) + l.length + 10 ≤ k →
      ((∃ s t, j ≤ s ∧ s < l.length ∧ t < s ∧ wayB (l.getD s z33).p (l.getD t z33).p = true) ∧ bastionref17_Check.l2 k l (j : Int) = some 50) ∨
      ((¬ ∃ s t, j ≤ s ∧ s < l.length ∧ t < s ∧ wayB (l.getD s z33).p (l.getD t z33).p = true) ∧ bastionref17_Check.l2 k l (j : Int) = some (fullE l))
  | n, j, 0, _, _, hk => by omega
  | 0, j, k + 1, hn, hj, hk => by
    refine .inr ⟨?_, chk_l2_end l hl k j (by omega) (by omega) hf⟩
    rintro ⟨s, t, a, b, _⟩; omega
  | n + 1, j, k + 1, hn, hj, hk => by
    by_cases h1 : j < l.length
    · unfold bastionref17_Check.l2
      rw [if_pos (by omega)]
      have h3 : (n + 1 + 1) * (l.length + 5) = (n + 1) * (l.length + 5) + (l.length + 5) := by rw [Nat.add_mul, Nat.one_mul]
      rcases Classical.em (∃ s t, j + 1 ≤ s ∧ s < l.length ∧ t < s ∧ wayB (l.getD s z33).p (l.getD t z33).p = true) with hE | hE
      · have hnext : ∀ k, (n + 1) * (l.length + 5) + l.length + 10 ≤ k → bastionref17_Check.l2 k l ((j + 1 : Nat) : Int) = some 50 := fun k hk => by
          rcases chk_l2 hf n (j + 1) k (by omega) (by omega) hk with ⟨_, h⟩ | ⟨h, _⟩
          · exact h
          · exact absurd hE h
        obtain ⟨s, t, a, b, c, d⟩ := hE
        refine .inl ⟨⟨s, t, by omega, b, c, d⟩, ?_⟩
        rcases chk_l3 l hl j h1 _ _ hnext j 0 k (by omega) (Nat.zero_le _) (by omega) with ⟨_, h⟩ | ⟨_, h⟩ <;> exact h
      · have hnext : ∀ k, (n + 1) * (l.length + 5) + l.length + 10 ≤ k → bastionref17_Check.l2 k l ((j + 1 : Nat) : Int) = some (fullE l) := fun k hk => by
          rcases chk_l2 hf n (j + 1) k (by omega) (by omega) hk with ⟨h, _⟩ | ⟨_, h⟩
          · exact absurd h hE
          · exact h
        rcases chk_l3 l hl j h1 _ _ hnext j 0 k (by omega) (Nat.zero_le _) (by omega) with ⟨⟨t, _, b, c⟩, h⟩ | ⟨hno, h⟩
        · exact .inl ⟨⟨j, t, Nat.le_refl _, h1, b, c⟩, h⟩
        · refine .inr ⟨?_, h⟩
          rintro ⟨s, t, a, b, c, d⟩
          rcases Nat.eq_or_lt_of_le a with rfl | hlt
          · exact hno ⟨t, Nat.zero_le _, c, d⟩
          · exact hE ⟨s, t, hlt, b, c, d⟩
    · refine .inr ⟨?_, chk_l2_end l hl k j (by omega) (by omega) hf⟩
      rintro ⟨s, t, a, b, _⟩; omega

theorem way_some (hr : risingB l = true) : (∃ s t, 0 ≤ s ∧ s < l.length ∧ t < s ∧ wayB (l.getD s z33).p (l.getD t z33).p = true) ↔ someWay l = true := by
  have hd : Apart l := (rising_pair l hr).imp lt_ne
  constructor
  · rintro ⟨s, t, _, hs, hts, hw⟩
    have hms : l.getD s z33 ∈ l := by simp [hs]
    have hmt : l.getD t z33 ∈ l := by simp [show t < l.length by omega]
    have hne : (l.getD s z33).p ≠ (l.getD t z33).p := by
      have := List.pairwise_iff_getElem.mp hd t s (by omega) hs hts
      simp only [List.getD_eq_getElem?_getD, List.getElem?_eq_getElem hs, List.getElem?_eq_getElem (show t < l.length by omega), Option.getD_some]
      exact fun e => this e.symm
    unfold wayB at hw
    simp only [Bool.or_eq_true, beq_iff_eq] at hw
    unfold someWay
    rw [List.any_eq_true]
    rcases hw with (hw | hw) | hw
    · exact absurd hw hne
    · exact ⟨_, hms, List.any_eq_true.mpr ⟨_, hmt, hw⟩⟩
    · exact ⟨_, hmt, List.any_eq_true.mpr ⟨_, hms, hw⟩⟩
  · intro h
    unfold someWay at h
    obtain ⟨f, hf, h⟩ := List.any_eq_true.mp h
    obtain ⟨g, hg, h⟩ := List.any_eq_true.mp h
    obtain ⟨a, ha, rfl⟩ := List.mem_iff_getElem.mp hf
    obtain ⟨b, hb, rfl⟩ := List.mem_iff_getElem.mp hg
    have ea : l.getD a z33 = l[a] := by simp [List.getD_eq_getElem?_getD, ha]
    have eb : l.getD b z33 = l[b] := by simp [List.getD_eq_getElem?_getD, hb]
    rcases Nat.lt_trichotomy a b with hab | hab | hab
    · refine ⟨b, a, Nat.zero_le _, hb, hab, ?_⟩
      rw [ea, eb]; unfold wayB; simp [h]
    · subst hab
      rw [under_self] at h; cases h
    · refine ⟨a, b, Nat.zero_le _, ha, hab, ?_⟩
      rw [ea, eb]; unfold wayB; simp [h]

theorem chk_l1 (hf : ∀ f ∈ l, fileE f = 0) : ∀ (n j k : Nat), l.length - j ≤ n → 1 ≤ j → (∀ i, i + 1 < j → i + 1 < l.length → ltB (gp l i) (gp l (i + 1)) = true) → (l.length + 1) * (l.length + 5) + l.length + 11 + n ≤ k →
      bastionref17_Check.l1 k l (j : Int) = if risingB l = true then (if someWay l = true then some 50 else some (fullE l)) else some 4
  | n, j, 0, _, _, _, hk => by omega
  | n, j, k + 1, hn, hj, hr, hk => by
    unfold bastionref17_Check.l1
    by_cases h1 : j < l.length
    · obtain ⟨n, rfl⟩ : ∃ m, n = m + 1 := ⟨n - 1, by omega⟩
      have hw : wrap64 ((j : Int) - 1) = ((j - 1 : Nat) : Int) := by unfold wrap64; omega
      rw [if_pos (by omega), hw, if_pos (by omega), if_pos (by omega), if_pos (by omega), getD_rd, getD_rd, wrap_succJ (by omega)]
      change (if ltB (gp l (j - 1)) (gp l j) = true then bastionref17_Check.l1 k l ((j + 1 : Nat) : Int) else some 4) = _
      by_cases h2 : ltB (gp l (j - 1)) (gp l j) = true
      · rw [if_pos h2]
        refine chk_l1 hf n (j + 1) k (by omega) (by omega) (fun i hi hi2 => ?_) (by omega)
        rcases Nat.lt_or_ge (i + 1) j with h | h
        · exact hr i h hi2
        · obtain rfl : j = i + 1 := by omega
          exact h2
      · rw [if_neg h2, if_neg]
        intro hc
        have := (rising_iff l).mp hc (j - 1) (by omega)
        rw [show j - 1 + 1 = j by omega] at this
        exact h2 this
    · have hrise : risingB l = true := (rising_iff l).mpr (fun i hi => hr i (by omega) hi)
      rw [if_neg (by omega), if_pos hrise]
      have := chk_l2 l hl hf l.length 0 k (by omega) (Nat.zero_le _) (by omega)
      rw [show ((0 : Nat) : Int) = 0 from rfl] at this
      have hw := way_some l hl hrise
      rcases this with ⟨h, e⟩ | ⟨h, e⟩
      · rw [e, if_pos (hw.mp h)]
      · rw [e, if_neg (fun h2 => h (hw.mpr h2))]

theorem chk_l0 : ∀ (n j k : Nat), l.length - j ≤ n → (∀ i, i < j → i < l.length → fileE (l.getD i z33) = 0) → (l.length + 1) * (l.length + 5) + 2 * l.length + 300 + n ≤ k →
      bastionref17_Check.l0 k l (j : Int) = some (checkE l)
  | n, j, 0, _, _, hk => by omega
  | n, j, k + 1, hn, hf, hk => by
    unfold bastionref17_Check.l0
    by_cases h1 : j < l.length
    · obtain ⟨n, rfl⟩ : ∃ m, n = m + 1 := ⟨n - 1, by omega⟩
      rw [if_pos (by omega), if_pos (by omega), getD_rd, refFile _ _ k (by omega), Option.bind_some, wrap_succJ (by omega)]
      change (if fileE (l.getD j z33) = 0 then _ else some (fileE (l.getD j z33))) = _
      by_cases h2 : fileE (l.getD j z33) = 0
      · rw [if_pos h2]
        refine chk_l0 n (j + 1) k (by omega) (fun i hi hi2 => ?_) (by omega)
        rcases Nat.lt_or_ge i j with h | h
        · exact hf i h hi2
        · obtain rfl : i = j := by omega
          exact h2
      · rw [if_neg h2]
        have := firstE_hit l j h1 (fun i hi => hf i hi (by omega)) h2
        unfold checkE
        rw [if_neg (by rw [this]; exact h2), this]
    · have hz : firstE l = 0 := firstE_zero l (fun i hi => hf i (by omega) hi)
      rw [if_neg (by omega)]
      have := chk_l1 l hl (firstE_all l hz) l.length 1 k (by omega) (Nat.le_refl _) (fun i hi _ => by omega) (by omega)
      rw [show ((1 : Nat) : Int) = 1 from rfl] at this
      rw [this]
      unfold checkE
      rw [if_pos hz]
      by_cases hr : risingB l = true
      · rw [if_pos hr, if_pos hr]
        by_cases hs : someWay l = true
        · rw [if_pos hs, if_pos hs]
        · rw [if_neg hs, if_neg hs]
      · rw [if_neg hr, if_neg hr]
end

/-- Rounds enough for a list. -/
def big (n : Nat) : Nat := (n + 1) * (n + 5) + 3 * n + 300
theorem big_mono {n m : Nat} (h : n ≤ m) : big n ≤ big m := by
  unfold big
  have := Nat.mul_le_mul (show n + 1 ≤ m + 1 by omega) (show n + 5 ≤ m + 5 by omega)
  omega
theorem refCheck (l : List S33) (hl : l.length ≤ 1000000000) (k : Nat) (hk : big l.length ≤ k) : bastionref17_Check.f k l = some (checkE l) := by
  unfold bastionref17_Check.f
  unfold big at hk
  exact chk_l0 l hl l.length 0 k (by omega) (fun i hi => by omega) (by omega)

#print axioms refCheck
end Go.Proofs.Ytgbkoeinfhlpoaa.F
