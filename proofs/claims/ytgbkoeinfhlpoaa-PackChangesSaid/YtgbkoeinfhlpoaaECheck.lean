/- slices.IndexFunc and slices.ContainsFunc at files, over any closure that answers a predicate and leaves elder memory alone. -/
/- files.file, files.Size, files.full: may a file be; the bytes of files; are they too many. -/
/- files.Check: is a list a tree, and if not, what is the first thing against it. -/
/- bastionref17.Under. -/
import Derived.Test.YtgbkoeinfhlpoaaEDef
import Derived.Shelf.Abstract
import Derived.Test.YtgbkoeinfhlpoaaEPath
import Derived.Maps.Own
import Derived.Maps.Views
import Derived.WalkLawsBesides
import Derived.LoopTactic
namespace Go.Proofs.Ytgbkoeinfhlpoaa.F
open Go.RowKit Go.Proofs.YtgbkoeinfhlpoaaW.PrintWords Go.Proofs.YtgbkoeinfhlpoaaW.PrintLast Go.Proofs.YtgbkoeinfhlpoaaW.PrintMore
set_option linter.unusedVariables false
set_option linter.unusedSimpArgs false

/-- What a closure over files answers, whatever elder memory it is called in. -/
def Asks (g : Nat) (cb : Array Value) (p : S33 → Bool) (l : List S33) (w : World) : Prop :=
  ∀ (W : World) (x : S33), x ∈ l → Below w.heap.size w W → Calls Try.prog g (#[.agg #[.string x.f0, .string x.f1]] ++ cb) W fun e w' => e = .returned (.bool (p x)) ∧ Below W.heap.size W w'

def idxI (p : S33 → Bool) (l : List S33) : Int := if l.any p then (l.findIdx p : Int) else -1

theorem getD_rd (l : List S33) (k : Nat) : rd_T33 l (k : Int) = l.getD k z33 := by simp [rd_T33]

theorem idxI_hit {p : S33 → Bool} {l : List S33} {k : Nat} (hk : k < l.length) (h0 : ∀ j, j < k → p (l.getD j z33) = false) (h1 : p (l.getD k z33) = true) : idxI p l = (k : Int) := by
  have hm : l.getD k z33 ∈ l := by simp [List.getD_eq_getElem?_getD, List.getElem?_eq_getElem hk]
  unfold idxI
  rw [if_pos (List.any_eq_true.mpr ⟨_, hm, h1⟩)]
  congr 1
  refine (List.findIdx_eq hk).mpr ⟨?_, fun j hj => ?_⟩
  · simpa [List.getD_eq_getElem?_getD, List.getElem?_eq_getElem hk] using h1
  · have hjl : j < l.length := by omega
    simpa [List.getD_eq_getElem?_getD, List.getElem?_eq_getElem hjl] using h0 j hj
theorem idxI_miss {p : S33 → Bool} {l : List S33} (h0 : ∀ j, j < l.length → p (l.getD j z33) = false) : idxI p l = -1 := by
  unfold idxI
  rw [if_neg]
  intro h
  obtain ⟨x, hx, hp⟩ := List.any_eq_true.mp h
  obtain ⟨j, hj, rfl⟩ := List.mem_iff_getElem.mp hx
  have := h0 j hj
  simp [List.getD_eq_getElem?_getD, List.getElem?_eq_getElem hj] at this
  simp_all

set_option maxHeartbeats 2000000 in
set_option maxRecDepth 100000 in
theorem IndexFunc_calls (g : Nat) (cb : Array Value) (p : S33 → Bool) (eg : ∀ args w, (callFunc g args).run Try.prog w = .ok (.enter g args) w) (A : Option Addr) (c : Nat) (l : List S33) (w : World) (hr : Kd.C k33 w A l.length l) (hp : Asks g cb p l w) :
    Calls Try.prog 50 #[.slice A l.length c, .func (.func g) #[] cb] w fun e w' => e = .returned (.int .i64 (idxI p l)) ∧ Below w.heap.size w w' := by
  have HR := Aside0.mk hr
  have HP := Aside0.mk hp
  have hbig : l.length ≤ 9223372036854775807 := hr.2.1
  have hu33 := Try.underlying33
  clear hr hp
  go_enter Try.func50, Try.ntmps50
  go_wp2
  go_loopg [5, 8] l.length (fun gg _ s8 wr => ∃ k : Nat, k ≤ l.length ∧ l.length - k ≤ gg ∧ s8 = .int .i64 k ∧ Aside0 (Below w.heap.size w wr) ∧ Aside0 (∀ j, j < k → p (l.getD j z33) = false))
  case atStart => exact ⟨0, Nat.zero_le _, by omega, rfl, ⟨Below.refl _ w⟩, ⟨fun j hj => absurd hj (Nat.not_lt_zero _)⟩⟩
  case round =>
    obtain ⟨k, hk, hg, rfl, HB, HA⟩ := hrel
    by_cases hlt : k < l.length
    · have hltz : (k : Int) < (l.length : Int) := by omega
      have hcall := HP.out wr (l.getD k z33) (by simp [List.getD_eq_getElem?_getD, List.getElem?_eq_getElem hlt]) HB.out
      obtain ⟨ad, e, hx0, hx1⟩ := at_T33 HR.out (k : Int) (by omega) (by omega)
      cases e
      rw [getD_rd, Int.toNat_natCast] at hx0 hx1
      replace hx0 := (HB.out.cell (World.block_lt_of_cell? w _ hx0)).trans hx0
      replace hx1 := (HB.out.cell (World.block_lt_of_cell? w _ hx1)).trans hx1
      generalize hy : l.getD k z33 = y at hx0 hx1 hcall
      have HY := Aside0.mk hy
      clear hy
      cases hq : p y with
      | true =>
        rw [hq] at hcall
        go_wp2_with (go_at_fn g; refine hcall.mono ?_; rintro e w' ⟨rfl, hb'⟩)
        go_ret
        refine ⟨?_, HB.out.trans (hb'.mono HB.out.size)⟩
        rw [idxI_hit hlt HA.out (by rw [HY.out]; exact hq)]
        rfl
      | false =>
        rw [hq] at hcall
        go_wp2_with (go_at_fn g; refine hcall.mono ?_; rintro e w' ⟨rfl, hb'⟩)
        go_roundg (l.length - (k + 1))
        case measure => omega
        case rel =>
          refine ⟨k + 1, by omega, by omega, by go_num, ⟨HB.out.trans (hb'.mono HB.out.size)⟩, ⟨fun j hj => ?_⟩⟩
          by_cases e : j = k
          · subst e
            rw [HY.out]; exact hq
          · exact HA.out j (by omega)
    · have hltz : ¬ (k : Int) < (l.length : Int) := by omega
      have hkl : k = l.length := by omega
      have HK := Aside0.mk hkl
      clear hkl
      go_wp2
      go_ret
      refine ⟨?_, HB.out⟩
      rw [idxI_miss (fun j hj => HA.out j (by have := HK.out; omega))]
      rfl

theorem idxI_nonneg (p : S33 → Bool) (l : List S33) : decide (0 ≤ idxI p l) = l.any p := by
  unfold idxI
  cases h : l.any p <;> simp

set_option maxHeartbeats 2000000 in
set_option maxRecDepth 100000 in
theorem ContainsFunc_calls (g : Nat) (cb : Array Value) (p : S33 → Bool) (eg : ∀ args w, (callFunc g args).run Try.prog w = .ok (.enter g args) w) (A : Option Addr) (c : Nat) (l : List S33) (w : World) (hr : Kd.C k33 w A l.length l) (hp : Asks g cb p l w) :
    Calls Try.prog 43 #[.slice A l.length c, .func (.func g) #[] cb] w fun e w' => e = .returned (.bool (l.any p)) ∧ Below w.heap.size w w' := by
  have hc := IndexFunc_calls g cb p eg A c l w hr hp
  rw [← idxI_nonneg p l]
  generalize idxI p l = r at hc ⊢
  clear hr hp
  go_enter Try.func43, Try.ntmps43
  go_wp2_with (go_at_call 50; refine hc.mono ?_; rintro e w' ⟨rfl, hb'⟩)
  go_ret
  exact ⟨rfl, hb'⟩

#print axioms ContainsFunc_calls
end Go.Proofs.Ytgbkoeinfhlpoaa.F

namespace Go.Proofs.Ytgbkoeinfhlpoaa.F
open Go.RowKit Go.Shelf Go.Proofs.YtgbkoeinfhlpoaaW.PrintWords Go.Proofs.YtgbkoeinfhlpoaaW.PrintLast Go.Proofs.YtgbkoeinfhlpoaaW.PrintMore
set_option linter.unusedVariables false
set_option linter.unusedSimpArgs false

set_option maxHeartbeats 2000000 in
set_option maxRecDepth 100000 in
theorem file_calls (x : S33) (w : World) :
    Calls Try.prog 40 #[.agg #[.string x.f0, .string x.f1]] w fun e w' => e = .returned (.int .i64 (fileE x)) ∧ Below w.heap.size w w' := by
  have hu33 := Try.underlying33
  have hp := files_Path.calls x.f0 (pathB x.p) (w.alloc (.cells #[.string x.f0, .string x.f1] 33)) rfl
  unfold fileE
  have hB0 : Below w.heap.size w (w.alloc (.cells #[.string x.f0, .string x.f1] 33)) := (Below.refl _ w).alloc (Nat.le_refl _) _
  cases hb : pathB x.p with
  | false =>
    rw [hb] at hp
    simp only [if_neg (show ¬ (false = true) by simp)]
    clear hb
    go_enter Try.func40, Try.ntmps40
    go_wp2_with (go_at_call 21; refine hp.mono ?_; rintro e w1 ⟨rfl, hb'⟩)
    go_ret
    exact ⟨rfl, hB0.trans (hb'.mono (by simp))⟩
  | true =>
    rw [hb] at hp
    simp only [if_true]
    clear hb
    by_cases hs : x.f1.size ≤ 4096
    · rw [if_pos hs]
      have hd : decide ((4096 : Int) < (x.f1.size : Int)) = false := decide_eq_false (by omega)
      have hd2 : decide (4096 < x.f1.size) = false := decide_eq_false (by omega)
      go_enter Try.func40, Try.ntmps40
      go_wp2_with (go_at_call 21; refine hp.mono ?_; rintro e w1 ⟨rfl, hb'⟩; have hx0 := (hb'.cell (p := ⟨w.heap.size, 0, none⟩) (by simp)).trans (show (w.alloc (.cells #[.string x.f0, .string x.f1] 33)).cell? ⟨w.heap.size, 0, none⟩ = some (.string x.f0) by simp); have hx1 := (hb'.cell (p := ⟨w.heap.size, 1, none⟩) (by simp)).trans (show (w.alloc (.cells #[.string x.f0, .string x.f1] 33)).cell? ⟨w.heap.size, 1, none⟩ = some (.string x.f1) by simp))
      go_ret
      exact ⟨rfl, hB0.trans (hb'.mono (by simp))⟩
    · rw [if_neg hs]
      have hd : decide ((4096 : Int) < (x.f1.size : Int)) = true := decide_eq_true (by omega)
      have hd2 : decide (4096 < x.f1.size) = true := decide_eq_true (by omega)
      go_enter Try.func40, Try.ntmps40
      go_wp2_with (go_at_call 21; refine hp.mono ?_; rintro e w1 ⟨rfl, hb'⟩; have hx0 := (hb'.cell (p := ⟨w.heap.size, 0, none⟩) (by simp)).trans (show (w.alloc (.cells #[.string x.f0, .string x.f1] 33)).cell? ⟨w.heap.size, 0, none⟩ = some (.string x.f0) by simp); have hx1 := (hb'.cell (p := ⟨w.heap.size, 1, none⟩) (by simp)).trans (show (w.alloc (.cells #[.string x.f0, .string x.f1] 33)).cell? ⟨w.heap.size, 1, none⟩ = some (.string x.f1) by simp))
      go_ret
      exact ⟨rfl, hB0.trans (hb'.mono (by simp))⟩

/-- The sum that the loop makes, as the machine adds. -/
def sizeW (l : List S33) (k : Nat) : Int := ((l.take k).map fun f => (f.f1.size : Int)).foldl (fun a b => wrap64 (a + b)) 0
theorem sizeW_succ (l : List S33) (k : Nat) (h : k < l.length) : sizeW l (k + 1) = wrap64 (sizeW l k + ((l.getD k z33).f1.size : Int)) := by
  unfold sizeW
  rw [List.take_add_one, List.getElem?_eq_getElem h, List.map_append, List.foldl_append]
  simp [List.getD_eq_getElem?_getD, List.getElem?_eq_getElem h]

set_option maxHeartbeats 2000000 in
set_option maxRecDepth 100000 in
theorem Size_calls (A : Option Addr) (c : Nat) (l : List S33) (w : World) (hr : Kd.C k33 w A l.length l) :
    Calls Try.prog 82 #[.slice A l.length c] w fun e w' => e = .returned (.int .i64 (sizeW l l.length)) ∧ Below w.heap.size w w' := by
  have HR := Aside0.mk hr
  have hbig : l.length ≤ 9223372036854775807 := hr.2.1
  have hu33 := Try.underlying33
  clear hr
  go_enter Try.func82, Try.ntmps82
  go_wp2
  go_loopg [3, 5, 8] l.length (fun gg s3 _ s8 wr => ∃ k : Nat, k ≤ l.length ∧ l.length - k ≤ gg ∧ s3 = .int .i64 (sizeW l k) ∧ s8 = .int .i64 k ∧ Aside0 (Below w.heap.size w wr))
  case atStart => exact ⟨0, Nat.zero_le _, by omega, rfl, rfl, ⟨Below.refl _ w⟩⟩
  case round =>
    obtain ⟨k, hk, hg, rfl, rfl, HB⟩ := hrel
    by_cases hlt : k < l.length
    · have hltz : (k : Int) < (l.length : Int) := by omega
      obtain ⟨ad, e, hx0, hx1⟩ := at_T33 HR.out (k : Int) (by omega) (by omega)
      cases e
      rw [getD_rd, Int.toNat_natCast] at hx0 hx1
      replace hx0 := (HB.out.cell (World.block_lt_of_cell? w _ hx0)).trans hx0
      replace hx1 := (HB.out.cell (World.block_lt_of_cell? w _ hx1)).trans hx1
      have hsu := sizeW_succ l k hlt
      generalize l.getD k z33 = y at hx0 hx1 hsu
      generalize sizeW l k = a at hsu
      have HS := Aside0.mk hsu
      clear hsu
      go_wp2
      go_roundg (l.length - (k + 1))
      case measure => omega
      case rel =>
        exact ⟨k + 1, by omega, by omega, by rw [HS.out], by go_num, ⟨by repeat (first | exact HB.out | apply below_alloc)⟩⟩
    · have hltz : ¬ (k : Int) < (l.length : Int) := by omega
      have HK := Aside0.mk (show k = l.length by omega)
      go_wp2
      go_ret
      exact ⟨by rw [← HK.out]; rfl, HB.out⟩

theorem sizeF_getD : ∀ (l : List S33), (l.map fun f => (f.f1.size : Int)).foldr (· + ·) 0 = (sizeF l : Int)
  | [] => rfl
  | f :: t => by
    simp only [List.map_cons, List.foldr_cons, sizeF_getD t, sizeF]
    omega
theorem fold_nonneg : ∀ (t : List Int), (∀ y ∈ t, 0 ≤ y) → 0 ≤ t.foldr (· + ·) 0
  | [], _ => by simp
  | z :: t, h => by
    have h1 := fold_nonneg t (fun y hy => h y (by simp [hy]))
    have h2 := h z (by simp)
    simp only [List.foldr_cons]
    omega
theorem fold_wrap (l : List Int) : ∀ (a : Int), 0 ≤ a → (∀ x ∈ l, 0 ≤ x) → a + l.foldr (· + ·) 0 ≤ 9223372036854775807 → l.foldl (fun a b => wrap64 (a + b)) a = a + l.foldr (· + ·) 0 := by
  induction l with
  | nil => intro a _ _ _; simp
  | cons x t ih =>
    intro a ha hx hb
    have h0 : 0 ≤ x := hx x (by simp)
    have ht : 0 ≤ t.foldr (· + ·) 0 := fold_nonneg t (fun y hy => hx y (by simp [hy]))
    simp only [List.foldl_cons, List.foldr_cons] at hb ⊢
    have e : wrap64 (a + x) = a + x := by unfold wrap64; omega
    rw [e, ih (a + x) (by omega) (fun y hy => hx y (by simp [hy])) (by omega)]
    omega

theorem sizeF_le (n : Nat) : ∀ (l : List S33), (∀ f ∈ l, f.f1.size ≤ n) → sizeF l ≤ n * l.length
  | [], _ => by simp [sizeF]
  | f :: t, h => by
    have h1 := sizeF_le n t (fun g hg => h g (by simp [hg]))
    have h2 := h f (by simp)
    simp only [sizeF, List.length_cons, Nat.mul_add]
    omega
theorem sizeW_eq (l : List S33) (h : sizeF l ≤ 9223372036854775807) : sizeW l l.length = (sizeF l : Int) := by
  unfold sizeW
  rw [List.take_length, fold_wrap _ 0 (by omega) (fun x hx => by
    obtain ⟨f, _, rfl⟩ := List.mem_map.mp hx
    omega) (by rw [sizeF_getD]; omega), sizeF_getD]
  omega

set_option maxHeartbeats 2000000 in
set_option maxRecDepth 100000 in
theorem full_calls (A : Option Addr) (c : Nat) (l : List S33) (w : World) (hr : Kd.C k33 w A l.length l) (hl : ∀ f ∈ l, f.f1.size ≤ 4096) :
    Calls Try.prog 41 #[.slice A l.length c] w fun e w' => e = .returned (.int .i64 (fullE l)) ∧ Below w.heap.size w w' := by
  have hs := Size_calls A c l w hr
  unfold fullE
  by_cases h64 : l.length ≤ 64
  · have hz := sizeF_le 4096 l hl
    have hb : sizeF l ≤ 262144 := by omega
    rw [sizeW_eq l (by omega)] at hs
    have d1 : decide ((64 : Int) < (l.length : Int)) = false := decide_eq_false (by omega)
    have d2 : decide (64 < l.length) = false := decide_eq_false (by omega)
    by_cases hm : sizeF l ≤ 16384
    · rw [if_pos ⟨h64, hm⟩]
      have d3 : decide ((16384 : Int) < (sizeF l : Int)) = false := decide_eq_false (by omega)
      clear hl hr hz
      generalize sizeF l = n at hs hm hb d3
      go_enter Try.func41, Try.ntmps41
      go_wp2_with (go_at_call 82; refine hs.mono ?_; rintro e w1 ⟨rfl, hb'⟩)
      go_ret
      exact ⟨rfl, hb'⟩
    · rw [if_neg (fun h => hm h.2)]
      have d3 : decide ((16384 : Int) < (sizeF l : Int)) = true := decide_eq_true (by omega)
      clear hl hr hz
      generalize sizeF l = n at hs hm hb d3
      go_enter Try.func41, Try.ntmps41
      go_wp2_with (go_at_call 82; refine hs.mono ?_; rintro e w1 ⟨rfl, hb'⟩)
      go_ret
      exact ⟨rfl, hb'⟩
  · rw [if_neg (fun h => h64 h.1)]
    have d1 : decide ((64 : Int) < (l.length : Int)) = true := decide_eq_true (by omega)
    have d2 : decide (64 < l.length) = true := decide_eq_true (by omega)
    clear hl hr hs
    go_enter Try.func41, Try.ntmps41
    go_wp2
    go_ret
    exact ⟨rfl, Below.refl _ _⟩

#print axioms full_calls
end Go.Proofs.Ytgbkoeinfhlpoaa.F

namespace Go.Proofs.Ytgbkoeinfhlpoaa.F
open Go.RowKit Go.Shelf Go.WideMaps Go.Maps Go.Proofs.YtgbkoeinfhlpoaaW.PrintWords Go.Proofs.YtgbkoeinfhlpoaaW.PrintLast Go.Proofs.YtgbkoeinfhlpoaaW.PrintMore
set_option linter.unusedVariables false
set_option linter.unusedSimpArgs false

def gp (l : List S33) (j : Nat) : List UInt8 := (l.getD j z33).p

theorem firstE_zero : ∀ (l : List S33), (∀ j, j < l.length → fileE (l.getD j z33) = 0) → firstE l = 0
  | [], _ => rfl
  | f :: t, h => by
    have h0 := h 0 (by simp)
    simp at h0
    unfold firstE
    rw [if_pos h0]
    exact firstE_zero t (fun j hj => by have := h (j + 1) (by simp; omega); simpa using this)
theorem firstE_hit : ∀ (l : List S33) (k : Nat), k < l.length → (∀ j, j < k → fileE (l.getD j z33) = 0) → fileE (l.getD k z33) ≠ 0 → firstE l = fileE (l.getD k z33)
  | [], k, hk, _, _ => by simp at hk
  | f :: t, 0, hk, _, h => by
    simp at h
    unfold firstE
    rw [if_neg h]
    simp
  | f :: t, k + 1, hk, h0, h => by
    have h1 := h0 0 (by omega)
    simp at h1
    unfold firstE
    rw [if_pos h1, firstE_hit t k (by simpa using hk) (fun j hj => by have := h0 (j + 1) (by omega); simpa using this) (by simpa using h)]
    simp
theorem rising_iff : ∀ (l : List S33), risingB l = true ↔ ∀ j, j + 1 < l.length → ltB (gp l j) (gp l (j + 1)) = true
  | [] => by simp [risingB]
  | [_] => by simp [risingB]
  | f :: g :: t => by
    unfold risingB
    rw [Bool.and_eq_true, rising_iff (g :: t)]
    constructor
    · rintro ⟨h1, h2⟩ j hj
      cases j with
      | zero => simpa [gp] using h1
      | succ j => have := h2 j (by simpa using hj); simpa [gp] using this
    · intro h
      refine ⟨by simpa [gp] using h 0 (by simp), fun j hj => ?_⟩
      have := h (j + 1) (by simp at hj ⊢; omega)
      simpa [gp] using this

theorem lawK : Keyed Try.prog 9 := string_keyed Try.underlying9
theorem zeroE (w : World) : (zeroValue 3).run Try.prog w = .ok (.int .i64 0) w := by kernel_rfl

def nOf (l : List S33) (p : List UInt8) : Nat := l.countP (fun f => f.f0.data.toList == p)
/-- The map counts the files at each path. -/
def Cnt (D : DataW Unit) (l : List S33) : Prop := IsMap D ∧ ∀ p : List UInt8, D.atKey (.string p) (.lit (.int .i64 0)) = .lit (.int .i64 (nOf l p : Int))

theorem path_short {y : S33} (h : fileE y = 0) : y.f0.size ≤ 48 := by
  unfold fileE at h
  by_cases hb : pathB y.p = true
  · unfold pathB at hb
    rw [Bool.and_eq_true] at hb
    have := of_decide_eq_true hb.1
    unfold S33.p at this
    rw [Lib.toList_data, ← Lib.size_eq] at this
    exact this
  · rw [if_neg hb] at h
    omega
theorem data_short {y : S33} (h : fileE y = 0) : y.f1.size ≤ 4096 := by
  unfold fileE at h
  by_cases hb : pathB y.p = true
  · rw [if_pos hb] at h
    by_cases hs : y.f1.size ≤ 4096
    · exact hs
    · rw [if_neg hs] at h
      omega
  · rw [if_neg hb] at h
    omega
theorem nOf_le (l : List S33) (k : Nat) (p : List UInt8) : nOf (l.take k) p ≤ k := by
  unfold nOf
  exact Nat.le_trans List.countP_le_length (by rw [List.length_take]; omega)
theorem under_iff (p q : List UInt8) : underB p q = true ↔ q.length < p.length ∧ p[q.length]? = some 47 ∧ p.take q.length = q := by
  unfold underB
  rw [List.isPrefixOf_iff_prefix]
  constructor
  · rintro ⟨t, rfl⟩
    simp
  · rintro ⟨h1, h2, h3⟩
    refine ⟨p.drop (q.length + 1), ?_⟩
    conv => rhs; rw [← List.take_append_drop q.length p]
    rw [h3, List.append_assoc, List.drop_eq_getElem_cons h1]
    rw [List.getElem?_eq_getElem h1] at h2
    simp at h2
    rw [h2]
    rfl
/-- Is there, ahead of place i of the j-th path, a byte 47 behind a path that a file has? -/
def hitAt (l : List S33) (y : ByteArray) (t : Nat) : Prop := t < y.size ∧ bt y (t : Int) = 47 ∧ 0 < nOf l (y.extract 0 t).data.toList
theorem nOf_pos (l : List S33) (p : List UInt8) : 0 < nOf l p ↔ ∃ g ∈ l, g.f0.data.toList = p := by
  unfold nOf
  rw [List.countP_pos_iff]
  simp
theorem hit_under (l : List S33) (y : ByteArray) : (∃ t, hitAt l y t) ↔ ∃ g ∈ l, underB y.toList g.p = true := by
  have hb : ∀ t (h : t < y.size), bt y (t : Int) = 47 ↔ y.data.toList[t]? = some 47 := fun t h => by
    have h' : t < y.data.toList.length := by rw [← Lib.size_eq]; exact h
    rw [List.getElem?_eq_getElem h']
    have e : bt y (t : Int) = (y[t].toNat : Int) := by simp [bt, h]
    rw [e]
    have e2 : y.data.toList[t] = y[t] := rfl
    rw [e2]
    constructor
    · intro h1
      have : y[t].toNat = (47 : UInt8).toNat := by
        have : ((47 : UInt8).toNat : Int) = 47 := rfl
        omega
      rw [UInt8.toNat_inj.mp this]
    · intro h1
      rw [Option.some.inj h1]
      rfl
  constructor
  · rintro ⟨t, h1, h2, h3⟩
    obtain ⟨g, hg, e⟩ := (nOf_pos _ _).mp h3
    refine ⟨g, hg, (under_iff _ _).mpr ?_⟩
    unfold S33.p
    rw [Lib.toList_data, Lib.toList_data, e, Lib.extract_data]
    have hl : y.data.toList.length = y.size := (Lib.size_eq y).symm
    have h4 : ((y.data.toList.drop 0).take (t - 0)).length = t := by simp; omega
    rw [h4]
    refine ⟨by omega, (hb t h1).mp h2, by simp⟩
  · rintro ⟨g, hg, hu⟩
    obtain ⟨h1, h2, h3⟩ := (under_iff _ _).mp hu
    unfold S33.p at h1 h2 h3
    rw [Lib.toList_data, Lib.toList_data] at h1 h3
    rw [Lib.toList_data, Lib.toList_data] at h2
    have hl : y.data.toList.length = y.size := (Lib.size_eq y).symm
    refine ⟨g.f0.data.toList.length, by omega, (hb _ (by omega)).mpr h2, (nOf_pos _ _).mpr ⟨g, hg, ?_⟩⟩
    rw [Lib.extract_data]
    simpa using h3.symm
theorem someWay_iff (l : List S33) : someWay l = true ↔ ∃ j, j < l.length ∧ ∃ t, hitAt l (l.getD j z33).f0 t := by
  unfold someWay
  rw [List.any_eq_true]
  constructor
  · rintro ⟨f, hf, h⟩
    rw [List.any_eq_true] at h
    obtain ⟨j, hj, rfl⟩ := List.mem_iff_getElem.mp hf
    refine ⟨j, hj, (hit_under l _).mpr ?_⟩
    obtain ⟨g, hg, hu⟩ := h
    refine ⟨g, hg, ?_⟩
    simpa [List.getD_eq_getElem?_getD, List.getElem?_eq_getElem hj, S33.p] using hu
  · rintro ⟨j, hj, h⟩
    obtain ⟨g, hg, hu⟩ := (hit_under l _).mp h
    refine ⟨l[j], List.getElem_mem hj, List.any_eq_true.mpr ⟨g, hg, ?_⟩⟩
    simpa [List.getD_eq_getElem?_getD, List.getElem?_eq_getElem hj, S33.p] using hu

theorem isKey_str (p : List UInt8) : WideAt.IsKeyLit (.string p) := by first | trivial | exact .inr (.inr ⟨_, rfl⟩) | simp [WideAt.IsKeyLit]
theorem Cnt_nil : Cnt (.map []) [] := ⟨isMap_empty, fun p => by simp [nOf, DataW.atKey]⟩
theorem Cnt_step {D : DataW Unit} {l : List S33} {k : Nat} (h : Cnt D (l.take k)) (hk : k < l.length) (s : ByteArray) (hs : (l.getD k z33).f0 = s) :
    Cnt (D.put (.string s.data.toList) (.lit (.int .i64 ((nOf (l.take k) s.data.toList : Int) + 1)))) (l.take (k + 1)) := by
  refine ⟨h.1.put _ _, fun p => ?_⟩
  have e : l.take (k + 1) = l.take k ++ [l.getD k z33] := by
    rw [List.take_add_one, List.getElem?_eq_getElem hk]
    simp [List.getD_eq_getElem?_getD, List.getElem?_eq_getElem hk]
  by_cases hp : p = s.data.toList
  · subst hp
    rw [atKey_put_same h.1 (isKey_str _), e]
    unfold nOf
    rw [List.countP_append]
    have h3 : ([l.getD k z33] : List S33).countP (fun f => f.f0.data.toList == s.data.toList) = 1 := by
      rw [List.countP_singleton, hs]
      simp
    rw [h3]
    rfl
  · rw [atKey_put_other (by simpa using hp), h.2 p, e]
    unfold nOf
    rw [List.countP_append]
    have h2 : ¬ (s.data.toList = p) := fun e => hp e.symm
    have h3 : ([l.getD k z33] : List S33).countP (fun f => f.f0.data.toList == p) = 0 := by
      rw [List.countP_eq_zero]
      intro a ha
      obtain rfl : a = l.getD k z33 := by simpa using ha
      rw [hs]
      simpa using h2
    rw [h3]
    rfl

set_option maxHeartbeats 8000000 in
set_option maxRecDepth 100000 in
theorem Check_calls (A : Option Addr) (c : Nat) (l : List S33) (w : World) (hr : Kd.C k33 w A l.length l) :
    Calls Try.prog 16 #[.slice A l.length c] w fun e w' => e = .returned (.int .i64 (checkE l)) ∧ Below w.heap.size w w' := by
  have HR := Aside0.mk hr
  have hbig : l.length ≤ 9223372036854775807 := hr.2.1
  have hu33 := Try.underlying33
  clear hr
  have hmm := @run_makeMap Try.prog
  go_enter Try.func16, Try.ntmps16
  go_wp2
  -- the first loop: each file for itself
  go_loopg [4, 5, 15] l.length (fun gg _ _ s15 wr => ∃ k : Nat, k ≤ l.length ∧ l.length - k ≤ gg ∧ s15 = .int .i64 k ∧ Aside0 (Below w.heap.size w wr) ∧ Aside0 (∀ j, j < k → fileE (l.getD j z33) = 0))
  case atStart => exact ⟨0, Nat.zero_le _, by omega, rfl, ⟨Below.refl _ w⟩, ⟨fun j hj => by omega⟩⟩
  case round =>
    obtain ⟨k, hk, hg, rfl, HB, HA⟩ := hrel
    by_cases hlt : k < l.length
    · have hltz : (k : Int) < (l.length : Int) := by omega
      obtain ⟨ad, e, hx0, hx1⟩ := at_T33 HR.out (k : Int) (by omega) (by omega)
      cases e
      rw [getD_rd, Int.toNat_natCast] at hx0 hx1
      replace hx0 := (HB.out.cell (World.block_lt_of_cell? w _ hx0)).trans hx0
      replace hx1 := (HB.out.cell (World.block_lt_of_cell? w _ hx1)).trans hx1
      have HH := Aside0.mk (firstE_hit l k hlt HA.out)
      generalize hy : l.getD k z33 = y at hx0 hx1 HH
      have HY := Aside0.mk hy
      clear hy
      have hf := file_calls y (wr.alloc (.cells #[.string y.f0, .string y.f1] 33))
      by_cases he : fileE y = 0
      · rw [he] at hf
        have HE := Aside0.mk he
        clear he
        go_wp2_with (go_at_call 40; refine hf.mono ?_; rintro e w1 ⟨rfl, hb'⟩)
        go_roundg (l.length - (k + 1))
        case measure => omega
        case rel =>
          refine ⟨k + 1, by omega, by omega, by go_num, ⟨(below_alloc HB.out _).trans (hb'.mono (below_alloc HB.out _).size)⟩, ⟨fun j hj => ?_⟩⟩
          by_cases e : j = k
          · subst e; rw [HY.out]; exact HE.out
          · exact HA.out j (by omega)
      · have HC := Aside0.mk (show checkE l = fileE y by unfold checkE; rw [HH.out he, if_neg he])
        generalize fileE y = q at hf he HC
        have hb1 : (q == 0) = false := beq_eq_false_iff_ne.mpr he
        have hb2 : (q != 0) = true := bne_iff_ne.mpr he
        clear he
        go_wp2_with (go_at_call 40; refine hf.mono ?_; rintro e w1 ⟨rfl, hb'⟩)
        go_ret
        exact ⟨by rw [HC.out]; rfl, (below_alloc HB.out _).trans (hb'.mono (below_alloc HB.out _).size)⟩
    · have hltz : ¬ (k : Int) < (l.length : Int) := by omega
      have H1 := Aside0.mk (firstE_zero l (fun j hj => HA.out j (by omega)))
      have HZ := Aside0.mk (fun j (hj : j < l.length) => HA.out j (by omega))
      clear hlt hk hg HA
      obtain ⟨wo, rfl⟩ : ∃ wo : World, wo = wr := ⟨_, rfl⟩
      go_wp2
      -- the second loop: do they rise
      go_loopg [6] l.length (fun gg s6 wr => ∃ k : Nat, k + 1 ≤ l.length + 1 ∧ l.length - k ≤ gg ∧ s6 = .int .i64 ((k : Int) + 1) ∧ Aside0 (Below w.heap.size w wr) ∧ Aside0 (∀ j, j < k → j + 1 < l.length → ltB (gp l j) (gp l (j + 1)) = true))
      case atStart => exact ⟨0, by omega, by omega, rfl, HB, ⟨fun j hj => by omega⟩⟩
      case round =>
        clear HB
        obtain ⟨k, hk, hg, rfl, HB, HA⟩ := hrel
        by_cases hlt : k + 1 < l.length
        · have hltz : (k : Int) + 1 < (l.length : Int) := by omega
          have hw1 : IntKind.i64.wrap (k : Int) = (k : Int) := IntWalk.i64_in _ (by omega)
          have hw2 : IntKind.i64.wrap ((k : Int) + 1) = (k : Int) + 1 := IntWalk.i64_in _ (by omega)
          obtain ⟨ad, e, hx0, _⟩ := at_T33 HR.out (k : Int) (by omega) (by omega)
          obtain ⟨ad2, e2, hz0, _⟩ := at_T33 HR.out ((k : Int) + 1) (by omega) (by omega)
          cases e
          obtain rfl : ad = ad2 := by injection e2
          rw [getD_rd, Int.toNat_natCast] at hx0
          have e3 : ((k : Int) + 1).toNat = k + 1 := by omega
          rw [show ((k : Int) + 1) = ((k + 1 : Nat) : Int) by omega, getD_rd, Int.toNat_natCast] at hz0
          replace hx0 := (HB.out.cell (World.block_lt_of_cell? w _ hx0)).trans hx0
          replace hz0 := (HB.out.cell (World.block_lt_of_cell? w _ hz0)).trans hz0
          have q1 : 0 ≤ (k : Int) + 1 := by omega
          have q2 : (k : Int) < (l.length : Int) := by omega
          have q3 : k < l.length := by omega
          have q4 : 0 ≤ (k : Int) := by omega
          have HG := Aside0.mk (And.intro (show gp l k = (l.getD k z33).f0.toList from rfl) (show gp l (k + 1) = (l.getD (k + 1) z33).f0.toList from rfl))
          generalize (l.getD k z33).f0 = y at hx0 HG
          generalize (l.getD (k + 1) z33).f0 = z at hz0 HG
          cases hb : Op.bytesLess y.toList z.toList with
          | true =>
            have HL := Aside0.mk (show ltB (gp l k) (gp l (k + 1)) = true by rw [HG.out.1, HG.out.2]; exact hb)
            go_wp2
            go_quiet (fail)
            go_wp2
            go_roundg (l.length - (k + 1))
            case measure => omega
            case rel =>
              refine ⟨k + 1, by omega, by omega, by (try simp only [wrap64]); go_num, ⟨pw_below_drewN HB.out _⟩, ⟨fun j hj hl => ?_⟩⟩
              by_cases e : j = k
              · subst e; exact HL.out
              · exact HA.out j (by omega) hl
          | false =>
            have HL := Aside0.mk (show risingB l = false by
              cases hc : risingB l with
              | false => rfl
              | true =>
                have := (rising_iff l).mp hc k hlt
                rw [HG.out.1, HG.out.2] at this
                unfold ltB at this
                rw [hb] at this
                cases this)
            go_wp2
            repeat (go_quiet (fail); try go_wp2)
            go_ret
            refine ⟨?_, pw_below_drewN HB.out _⟩
            unfold checkE
            rw [if_pos H1.out, HL.out]
            rfl
        · have hltz : ¬ (k : Int) + 1 < (l.length : Int) := by omega
          have H2 := Aside0.mk ((rising_iff l).mpr (fun j hj => HA.out j (by omega) hj))
          clear hlt hk hg HA
          obtain ⟨wp, rfl⟩ : ∃ wp : World, wp = wr := ⟨_, rfl⟩
          go_wp2
          clear hmm
          -- the third loop: the map counts the paths
          go_loopg [9, 46] l.length (fun gg _ s46 wr => ∃ (k : Nat) (D : DataW Unit), k ≤ l.length ∧ l.length - k ≤ gg ∧ s46 = .int .i64 (k : Int) ∧ wr.ownsMap Try.prog 9 (plainElem (H := Unit) Try.prog 3) wp.heap.size k D ∧ Aside0 (Below w.heap.size w wr) ∧ Aside0 (Cnt D (l.take k)))
          case atStart => exact ⟨0, .map [], by omega, by omega, rfl, World.ownsMap_made _ _ _ _, ⟨below_alloc HB.out _⟩, ⟨by simpa using Cnt_nil⟩⟩
          case round =>
            have HB0 := HB
            clear HB
            obtain ⟨k, D, hk, hg, rfl, hown, HB, HD⟩ := hrel
            by_cases hlt : k < l.length
            · have hltz : (k : Int) < (l.length : Int) := by omega
              obtain ⟨ad, e, hx0, hx1⟩ := at_T33 HR.out (k : Int) (by omega) (by omega)
              cases e
              rw [getD_rd, Int.toNat_natCast] at hx0 hx1
              replace hx0 := (HB.out.cell (World.block_lt_of_cell? w _ hx0)).trans hx0
              replace hx1 := (HB.out.cell (World.block_lt_of_cell? w _ hx1)).trans hx1
              have hsh := path_short (HZ.out k hlt)
              have HS := Aside0.mk (Cnt_step HD.out hlt (l.getD k z33).f0 rfl)
              have hnle := nOf_le l k (l.getD k z33).f0.data.toList
              generalize l.getD k z33 = y at hx0 hx1 hsh HS hnle
              have hown2 := hown.alloc (.cells #[.string y.f0, .string y.f1] 33)
              have hkey : keyOf Try.prog 9 (.string y.f0) = some (.string y.f0.data.toList) := keyOf_string_mk Try.underlying9 (by unfold maxLen; omega)
              obtain ⟨c1, hrun, hat, _⟩ := hown2.lookup_int lawK Try.underlying54 Try.underlying3 (zeroE _) hkey
              rw [HD.out.2] at hat
              obtain rfl : c1 = (nOf (l.take k) y.f0.data.toList : Int) := by simpa using hat.symm
              clear hat
              generalize nOf (l.take k) y.f0.data.toList = m at hrun hnle HS
              obtain ⟨w2, hrunU, hown3, hgrow⟩ := hown2.update lawK Try.underlying54 (by unfold maxLen; omega) hkey (plainElem_int (H := Unit) Try.underlying3 (a := (m : Int) + 1) (WalkArith.wf_i64 (by omega)))
              have HO := Aside0.mk hown3
              have HG := Aside0.mk hgrow
              clear hown hown2 hown3 hgrow hsh
              go_wp2
              go_roundg (l.length - (k + 1))
              case measure => omega
              case rel =>
                exact ⟨k + 1, _, by omega, by omega, by go_num, HO.out, ⟨(below_alloc HB.out _).grown HG.out (below_alloc HB.out _).size (fun j hj => by cases hj; exact HB0.out.size)⟩, HS⟩
            · have hltz : ¬ (k : Int) < (l.length : Int) := by omega
              have hD : Cnt D l := by have := HD.out; rwa [List.take_of_length_le (by omega)] at this
              have HDl := Aside0.mk hD
              have hownl := hown.mono (n' := l.length) (by omega)
              clear hlt hk hg HD hD hown
              obtain ⟨wq, rfl⟩ : ∃ wq : World, wq = wr := ⟨_, rfl⟩
              go_wp2
              -- the fourth loop: each path's beginnings
              go_loopg [11, 12, 58] l.length (fun gg _ _ s58 wr => ∃ k : Nat, k ≤ l.length ∧ l.length - k ≤ gg ∧ s58 = .int .i64 (k : Int) ∧ wr.ownsMap Try.prog 9 (plainElem (H := Unit) Try.prog 3) wp.heap.size l.length D ∧ Aside0 (Below w.heap.size w wr) ∧ Aside0 (∀ j, j < k → ¬ ∃ t, hitAt l (l.getD j z33).f0 t))
              case atStart => exact ⟨0, by omega, by omega, rfl, hownl, HB, ⟨fun j hj => by omega⟩⟩
              case round =>
                clear HB hownl
                obtain ⟨k, hk, hg, rfl, hown, HB, HA⟩ := hrel
                by_cases hlt : k < l.length
                · have hltz : (k : Int) < (l.length : Int) := by omega
                  obtain ⟨ad, e, hx0, hx1⟩ := at_T33 HR.out (k : Int) (by omega) (by omega)
                  cases e
                  rw [getD_rd, Int.toNat_natCast] at hx0 hx1
                  replace hx0 := (HB.out.cell (World.block_lt_of_cell? w _ hx0)).trans hx0
                  replace hx1 := (HB.out.cell (World.block_lt_of_cell? w _ hx1)).trans hx1
                  have hsh := path_short (HZ.out k hlt)
                  have HS := Aside0.mk (fun (h : ∃ t, hitAt l (l.getD k z33).f0 t) => (someWay_iff l).mpr ⟨k, hlt, h⟩)
                  have HA2 := Aside0.mk (fun (h : ¬ ∃ t, hitAt l (l.getD k z33).f0 t) (j : Nat) (hj : j < k + 1) => (show ¬ ∃ t, hitAt l (l.getD j z33).f0 t from by
                    by_cases e : j = k
                    · subst e; exact h
                    · exact HA.out j (by omega)))
                  generalize l.getD k z33 = y at hx0 hx1 hsh HS HA2
                  have hown2 := hown.alloc (.cells #[.string y.f0, .string y.f1] 33)
                  have HB2 := Aside0.mk (below_alloc HB.out (.cells #[.string y.f0, .string y.f1] 33))
                  clear hown HB HA
                  go_wp2
                  obtain ⟨wv, hwv⟩ : ∃ wv : World, wv = wr.alloc (.cells #[.string y.f0, .string y.f1] 33) := ⟨_, rfl⟩
                  have hcy : wv.cell? ⟨wr.heap.size, 0, none⟩ = some (.string y.f0) := by rw [hwv]; simp
                  rw [← hwv] at hown2 HB2 ⊢
                  clear hwv
                  -- the fifth loop: one path's bytes
                  go_loopg [12, 65] y.f0.size (fun gg _ s65 wr' => ∃ t : Nat, t ≤ y.f0.size ∧ y.f0.size - t ≤ gg ∧ s65 = .int .i64 (t : Int) ∧ wr' = wv ∧ Aside0 (∀ u, u < t → ¬ hitAt l y.f0 u))
                  case atStart => exact ⟨0, by omega, by omega, rfl, rfl, ⟨fun u hu => by omega⟩⟩
                  case round =>
                    obtain ⟨t, ht, hgt, rfl, rfl, HT⟩ := hrel
                    by_cases hlt2 : t < y.f0.size
                    · have hltz2 : (t : Int) < (y.f0.size : Int) := by omega
                      have hbt : ∀ h : t < y.f0.size, ((y.f0[t]'h).toNat : Int) = bt y.f0 (t : Int) := fun h => by simp [bt, h]
                      have e64 := size_ext y.f0 0 t (by omega)
                      have hkey : keyOf Try.prog 9 (.string (y.f0.extract 0 t)) = some (.string (y.f0.extract 0 t).data.toList) := keyOf_string_mk Try.underlying9 (by unfold maxLen; omega)
                      obtain ⟨c1, hrun, hat, _⟩ := hown2.lookup_int lawK Try.underlying54 Try.underlying3 (zeroE _) hkey
                      rw [HDl.out.2] at hat
                      obtain rfl : c1 = (nOf l (y.f0.extract 0 t).data.toList : Int) := by simpa using hat.symm
                      clear hat hkey e64
                      by_cases hb : bt y.f0 (t : Int) = 47
                      · have b1 : (bt y.f0 (t : Int) == 47) = true := beq_iff_eq.mpr hb
                        by_cases hn : 0 < nOf l (y.f0.extract 0 t).data.toList
                        · have HW := Aside0.mk (HS.out ⟨t, hlt2, hb, hn⟩)
                          have n1 : decide ((0 : Int) < (nOf l (y.f0.extract 0 t).data.toList : Int)) = true := decide_eq_true (by omega)
                          have n2 : decide (0 < nOf l (y.f0.extract 0 t).data.toList) = true := decide_eq_true hn
                          clear hb
                          generalize nOf l (y.f0.extract 0 t).data.toList = m at hrun n1 n2 hn
                          generalize bt y.f0 (t : Int) = q at hbt b1
                          go_wp2
                          go_ret
                          refine ⟨?_, HB2.out⟩
                          unfold checkE
                          rw [if_pos H1.out, if_pos H2.out, if_pos HW.out]
                          rfl
                        · have HN := Aside0.mk (show ¬ hitAt l y.f0 t from fun h => hn h.2.2)
                          have n1 : decide ((0 : Int) < (nOf l (y.f0.extract 0 t).data.toList : Int)) = false := decide_eq_false (by omega)
                          have n2 : decide (0 < nOf l (y.f0.extract 0 t).data.toList) = false := decide_eq_false hn
                          clear hb
                          generalize nOf l (y.f0.extract 0 t).data.toList = m at hrun n1 n2 hn
                          generalize bt y.f0 (t : Int) = q at hbt b1
                          go_wp2
                          go_roundg (y.f0.size - (t + 1))
                          case measure => omega
                          case rel =>
                            refine ⟨t + 1, by omega, by omega, by go_num, (by first | trivial | rfl), ⟨fun u hu => ?_⟩⟩
                            by_cases e : u = t
                            · subst e; exact HN.out
                            · exact HT.out u (by omega)
                      · have HN := Aside0.mk (show ¬ hitAt l y.f0 t from fun h => hb h.2.1)
                        have b1 : (bt y.f0 (t : Int) == 47) = false := beq_eq_false_iff_ne.mpr hb
                        clear hb hrun
                        generalize bt y.f0 (t : Int) = q at hbt b1
                        go_wp2
                        go_roundg (y.f0.size - (t + 1))
                        case measure => omega
                        case rel =>
                          refine ⟨t + 1, by omega, by omega, by go_num, (by first | trivial | rfl), ⟨fun u hu => ?_⟩⟩
                          by_cases e : u = t
                          · subst e; exact HN.out
                          · exact HT.out u (by omega)
                    · have hltz2 : ¬ (t : Int) < (y.f0.size : Int) := by omega
                      have HN := Aside0.mk (HA2.out (fun ⟨u, hu⟩ => HT.out u (by have := hu.1; omega) hu))
                      go_wp2
                      go_roundg (l.length - (k + 1))
                      case measure => omega
                      case rel => exact ⟨k + 1, by omega, by omega, by go_num, hown2, HB2, ⟨fun j hj => HN.out j hj⟩⟩
                · have hltz : ¬ (k : Int) < (l.length : Int) := by omega
                  have HW := Aside0.mk (show someWay l = false by
                    cases hs : someWay l with
                    | false => rfl
                    | true =>
                      obtain ⟨j, hj, h⟩ := (someWay_iff l).mp hs
                      exact absurd h (HA.out j (by omega)))
                  have hfull := full_calls A c l wr (Kd.C_below HR.out HB.out) (fun f hf => by
                    obtain ⟨j, hj, rfl⟩ := List.mem_iff_getElem.mp hf
                    have := data_short (HZ.out j hj)
                    simpa [List.getD_eq_getElem?_getD, List.getElem?_eq_getElem hj] using this)
                  have HC := Aside0.mk (show checkE l = fullE l by unfold checkE; rw [if_pos H1.out, if_pos H2.out, HW.out]; rfl)
                  generalize fullE l = q at hfull HC
                  go_wp2_with (go_at_call 41; refine hfull.mono ?_; rintro e w1 ⟨rfl, hb'⟩)
                  go_ret
                  exact ⟨by rw [HC.out]; rfl, HB.out.trans (hb'.mono HB.out.size)⟩

theorem files_Check.calls (A0 : Option Addr) (c0 : Nat) (l0 : List S33) (r : Int) (w : World) (hr0 : Kd.C k33 w A0 l0.length l0) (hc0 : l0.length ≤ c0) (h : files_Check.f l0 = some r) :
    Calls Try.prog 16 #[.slice A0 l0.length c0] w fun e w' => e = .returned (.int .i64 r) ∧ Below w.heap.size w w' := by
  obtain rfl : checkE l0 = r := by simpa [files_Check.f] using h
  exact Check_calls A0 c0 l0 w hr0

#print axioms files_Check.calls
end Go.Proofs.Ytgbkoeinfhlpoaa.F

namespace Go.Proofs.Ytgbkoeinfhlpoaa.F
open Go.RowKit Go.Shelf Go.Proofs.YtgbkoeinfhlpoaaW.PrintWords Go.Proofs.YtgbkoeinfhlpoaaW.PrintLast Go.Proofs.YtgbkoeinfhlpoaaW.PrintMore
set_option linter.unusedVariables false
set_option linter.unusedSimpArgs false

def bastionref17_Under.f (a0 a1 : ByteArray) : Option Bool := some (underB a0.toList a1.toList)

theorem under_bytes (p q : ByteArray) : underB p.toList q.toList = (decide (q.size < p.size) && (((p.extract 0 q.size).toList == q.toList) && (bt p (q.size : Int) == 47))) := by
  have hi := under_iff p.toList q.toList
  rw [Lib.toList_data, Lib.toList_data] at hi ⊢
  have hp : p.data.toList.length = p.size := (Lib.size_eq p).symm
  have hq : q.data.toList.length = q.size := (Lib.size_eq q).symm
  rw [hq, hp] at hi
  by_cases h1 : q.size < p.size
  · have hb : bt p (q.size : Int) = 47 ↔ p.data.toList[q.size]? = some 47 := by
      have h' : q.size < p.data.toList.length := by omega
      rw [List.getElem?_eq_getElem h']
      have e : bt p (q.size : Int) = (p[q.size].toNat : Int) := by simp [bt, h1]
      rw [e]
      have e2 : p.data.toList[q.size] = p[q.size] := rfl
      rw [e2]
      constructor
      · intro h1
        have : p[q.size].toNat = (47 : UInt8).toNat := by
          have : ((47 : UInt8).toNat : Int) = 47 := rfl
          omega
        rw [UInt8.toNat_inj.mp this]
      · intro h1
        rw [Option.some.inj h1]
        rfl
    have he : ((p.extract 0 q.size).toList == q.data.toList) = (p.data.toList.take q.size == q.data.toList) := by
      rw [Lib.extract_toList]; simp
    rw [he, decide_eq_true h1, Bool.true_and]
    by_cases h2 : p.data.toList.take q.size = q.data.toList
    · by_cases h3 : bt p (q.size : Int) = 47
      · rw [hi.mpr ⟨h1, hb.mp h3, h2⟩]
        simp [h2, h3]
      · rw [show (bt p (q.size : Int) == 47) = false by simp [h3], Bool.and_false]
        cases hu : underB p.data.toList q.data.toList with
        | false => rfl
        | true => exact absurd (hb.mpr (hi.mp hu).2.1) h3
    · rw [show (p.data.toList.take q.size == q.data.toList) = false by simp [h2], Bool.false_and]
      cases hu : underB p.data.toList q.data.toList with
      | false => rfl
      | true => exact absurd (hi.mp hu).2.2 h2
  · rw [decide_eq_false h1, Bool.false_and]
    cases hu : underB p.data.toList q.data.toList with
    | false => rfl
    | true => exact absurd (hi.mp hu).1 h1

set_option maxHeartbeats 1000000 in
set_option maxRecDepth 100000 in
theorem bastionref17_Under.calls (a0 : ByteArray) (a1 : ByteArray) (r : Bool) (w : World) (h : bastionref17_Under.f a0 a1 = some r) :
    Calls Try.prog 94 #[.string a0, .string a1] w fun e w' => e = .returned (.bool r) ∧ Drawn0 w w' := by
  obtain rfl : underB a0.toList a1.toList = r := by simpa [bastionref17_Under.f] using h
  clear h
  rw [under_bytes]
  by_cases h1 : a1.size < a0.size
  · have d0 : decide ((a1.size : Int) < (a0.size : Int)) = true := decide_eq_true (by omega)
    have d1 : decide (a1.size < a0.size) = true := decide_eq_true h1
    have d2 : (a1.size : Int) < (a0.size : Int) := by omega
    have d3 : decide ((a1.size : Int) ≤ (a0.size : Int)) = true := decide_eq_true (by omega)
    have d4 : (a1.size : Int) ≤ (a0.size : Int) := by omega
    rw [d1, Bool.true_and]
    cases hb : ((a0.extract 0 a1.size).toList == a1.toList) with
    | true =>
      rw [Bool.true_and]
      have hx := bt_at a0 (a1.size : Int)
      go_enter Try.func94, Try.ntmps94
      go_wp2
      go_ret
      exact ⟨by rw [← hx (by simpa using h1)]; rfl, Drawn0.refl _⟩
    | false =>
      rw [Bool.false_and]
      go_enter Try.func94, Try.ntmps94
      go_wp2
      go_ret
      exact ⟨rfl, Drawn0.refl _⟩
  · have d0 : decide ((a1.size : Int) < (a0.size : Int)) = false := decide_eq_false (by omega)
    have d1 : decide (a1.size < a0.size) = false := decide_eq_false h1
    rw [d1, Bool.false_and]
    go_enter Try.func94, Try.ntmps94
    go_wp2
    go_ret
    exact ⟨rfl, Drawn0.refl _⟩

#print axioms bastionref17_Under.calls
end Go.Proofs.Ytgbkoeinfhlpoaa.F
