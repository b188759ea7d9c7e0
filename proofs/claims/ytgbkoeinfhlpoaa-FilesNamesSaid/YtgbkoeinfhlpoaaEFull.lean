/- files.file, files.Size, files.full: may a file be; the bytes of files; are they too many. -/
import Derived.Test.YtgbkoeinfhlpoaaEPath
import Derived.Test.YtgbkoeinfhlpoaaEIdx
namespace Go.Proofs.Ytgbkoeinfhlpoaa.F
open Go.RowKit Go.Shelf Go.Proofs.YtgbkoeinfhlpoaaW.PrintWords Go.Proofs.YtgbkoeinfhlpoaaW.PrintLast Go.Proofs.YtgbkoeinfhlpoaaW.PrintMore
set_option linter.unusedVariables false
set_option linter.unusedSimpArgs false

set_option maxHeartbeats 2000000 in
set_option maxRecDepth 100000 in
theorem file_calls (x : S33) (w : World) :
    Calls Try.prog 40 #[.agg #[.string x.f0, .string x.f1]] w fun e w' => e = .returned (.int .i64 (fileE x)) ∧ Below w.heap.size w w' := by
  have hu33 := Try.underlying33
  have hp := files_Path.calls x.f0 (pathB x.p) (w.alloc (.cells #[.string x.f0, .string x.f1] 33)) rfl
  unfold fileE
  have hB0 : Below w.heap.size w (w.alloc (.cells #[.string x.f0, .string x.f1] 33)) := (Below.refl _ w).alloc (Nat.le_refl _) _
  cases hb : pathB x.p with
  | false =>
    rw [hb] at hp
    simp only [if_neg (show ¬ (false = true) by simp)]
    clear hb
    go_enter Try.func40, Try.ntmps40
    go_wp2_with (go_at_call 21; refine hp.mono ?_; rintro e w1 ⟨rfl, hb'⟩)
    go_ret
    exact ⟨rfl, hB0.trans (hb'.mono (by simp))⟩
  | true =>
    rw [hb] at hp
    simp only [if_true]
    clear hb
    by_cases hs : x.f1.size ≤ 4096
    · rw [if_pos hs]
      have hd : decide ((4096 : Int) < (x.f1.size : Int)) = false := decide_eq_false (by omega)
      have hd2 : decide (4096 < x.f1.size) = false := decide_eq_false (by omega)
      go_enter Try.func40, Try.ntmps40
      go_wp2_with (go_at_call 21; refine hp.mono ?_; rintro e w1 ⟨rfl, hb'⟩; have hx0 := (hb'.cell (p := ⟨w.heap.size, 0, none⟩) (by simp)).trans (show (w.alloc (.cells #[.string x.f0, .string x.f1] 33)).cell? ⟨w.heap.size, 0, none⟩ = some (.string x.f0) by simp); have hx1 := (hb'.cell (p := ⟨w.heap.size, 1, none⟩) (by simp)).trans (show (w.alloc (.cells #[.string x.f0, .string x.f1] 33)).cell? ⟨w.heap.size, 1, none⟩ = some (.string x.f1) by simp))
      go_ret
      exact ⟨rfl, hB0.trans (hb'.mono (by simp))⟩
    · rw [if_neg hs]
      have hd : decide ((4096 : Int) < (x.f1.size : Int)) = true := decide_eq_true (by omega)
      have hd2 : decide (4096 < x.f1.size) = true := decide_eq_true (by omega)
      go_enter Try.func40, Try.ntmps40
      go_wp2_with (go_at_call 21; refine hp.mono ?_; rintro e w1 ⟨rfl, hb'⟩; have hx0 := (hb'.cell (p := ⟨w.heap.size, 0, none⟩) (by simp)).trans (show (w.alloc (.cells #[.string x.f0, .string x.f1] 33)).cell? ⟨w.heap.size, 0, none⟩ = some (.string x.f0) by simp); have hx1 := (hb'.cell (p := ⟨w.heap.size, 1, none⟩) (by simp)).trans (show (w.alloc (.cells #[.string x.f0, .string x.f1] 33)).cell? ⟨w.heap.size, 1, none⟩ = some (.string x.f1) by simp))
      go_ret
      exact ⟨rfl, hB0.trans (hb'.mono (by simp))⟩

/-- The sum that the loop makes, as the machine adds. -/
def sizeW (l : List S33) (k : Nat) : Int := ((l.take k).map fun f => (f.f1.size : Int)).foldl (fun a b => wrap64 (a + b)) 0
theorem sizeW_succ (l : List S33) (k : Nat) (h : k < l.length) : sizeW l (k + 1) = wrap64 (sizeW l k + ((l.getD k z33).f1.size : Int)) := by
  unfold sizeW
  rw [List.take_add_one, List.getElem?_eq_getElem h, List.map_append, List.foldl_append]
  simp [List.getD_eq_getElem?_getD, List.getElem?_eq_getElem h]

set_option maxHeartbeats 2000000 in
set_option maxRecDepth 100000 in
theorem Size_calls (A : Option Addr) (c : Nat) (l : List S33) (w : World) (hr : Kd.C k33 w A l.length l) :
    Calls Try.prog 82 #[.slice A l.length c] w fun e w' => e = .returned (.int .i64 (sizeW l l.length)) ∧ Below w.heap.size w w' := by
  have HR := Aside0.mk hr
  have hbig : l.length ≤ 9223372036854775807 := hr.2.1
  have hu33 := Try.underlying33
  clear hr
  go_enter Try.func82, Try.ntmps82
  go_wp2
  go_loopg [3, 5, 8] l.length (fun gg s3 _ s8 wr => ∃ k : Nat, k ≤ l.length ∧ l.length - k ≤ gg ∧ s3 = .int .i64 (sizeW l k) ∧ s8 = .int .i64 k ∧ Aside0 (Below w.heap.size w wr))
  case atStart => exact ⟨0, Nat.zero_le _, by omega, rfl, rfl, ⟨Below.refl _ w⟩⟩
  case round =>
    obtain ⟨k, hk, hg, rfl, rfl, HB⟩ := hrel
    by_cases hlt : k < l.length
    · have hltz : (k : Int) < (l.length : Int) := by omega
      obtain ⟨ad, e, hx0, hx1⟩ := at_T33 HR.out (k : Int) (by omega) (by omega)
      cases e
      rw [getD_rd, Int.toNat_natCast] at hx0 hx1
      replace hx0 := (HB.out.cell (World.block_lt_of_cell? w _ hx0)).trans hx0
      replace hx1 := (HB.out.cell (World.block_lt_of_cell? w _ hx1)).trans hx1
      have hsu := sizeW_succ l k hlt
      generalize l.getD k z33 = y at hx0 hx1 hsu
      generalize sizeW l k = a at hsu
      have HS := Aside0.mk hsu
      clear hsu
      go_wp2
      go_roundg (l.length - (k + 1))
      case measure => omega
      case rel =>
        exact ⟨k + 1, by omega, by omega, by rw [HS.out], by go_num, ⟨by repeat (first | exact HB.out | apply below_alloc)⟩⟩
    · have hltz : ¬ (k : Int) < (l.length : Int) := by omega
      have HK := Aside0.mk (show k = l.length by omega)
      go_wp2
      go_ret
      exact ⟨by rw [← HK.out]; rfl, HB.out⟩

theorem sizeF_getD : ∀ (l : List S33), (l.map fun f => (f.f1.size : Int)).foldr (· + ·) 0 = (sizeF l : Int)
  | [] => rfl
  | f :: t => by
    simp only [List.map_cons, List.foldr_cons, sizeF_getD t, sizeF]
    omega
theorem fold_nonneg : ∀ (t : List Int), (∀ y ∈ t, 0 ≤ y) → 0 ≤ t.foldr (· + ·) 0
  | [], _ => by simp
  | z :: t, h => by
    have h1 := fold_nonneg t (fun y hy => h y (by simp [hy]))
    have h2 := h z (by simp)
    simp only [List.foldr_cons]
    omega
theorem fold_wrap (l : List Int) : ∀ (a : Int), 0 ≤ a → (∀ x ∈ l, 0 ≤ x) → a + l.foldr (· + ·) 0 ≤ 9223372036854775807 → l.foldl (fun a b => wrap64 (a + b)) a = a + l.foldr (· + ·) 0 := by
  induction l with
  | nil => intro a _ _ _; simp
  | cons x t ih =>
    intro a ha hx hb
    have h0 : 0 ≤ x := hx x (by simp)
    have ht : 0 ≤ t.foldr (· + ·) 0 := fold_nonneg t (fun y hy => hx y (by simp [hy]))
    simp only [List.foldl_cons, List.foldr_cons] at hb ⊢
    have e : wrap64 (a + x) = a + x := by unfold wrap64; omega
    rw [e, ih (a + x) (by omega) (fun y hy => hx y (by simp [hy])) (by omega)]
    omega

theorem sizeF_le (n : Nat) : ∀ (l : List S33), (∀ f ∈ l, f.f1.size ≤ n) → sizeF l ≤ n * l.length
  | [], _ => by simp [sizeF]
  | f :: t, h => by
    have h1 := sizeF_le n t (fun g hg => h g (by simp [hg]))
    have h2 := h f (by simp)
    simp only [sizeF, List.length_cons, Nat.mul_add]
    omega
theorem sizeW_eq (l : List S33) (h : sizeF l ≤ 9223372036854775807) : sizeW l l.length = (sizeF l : Int) := by
  unfold sizeW
  rw [List.take_length, fold_wrap _ 0 (by omega) (fun x hx => by
    obtain ⟨f, _, rfl⟩ := List.mem_map.mp hx
    omega) (by rw [sizeF_getD]; omega), sizeF_getD]
  omega

set_option maxHeartbeats 2000000 in
set_option maxRecDepth 100000 in
theorem full_calls (A : Option Addr) (c : Nat) (l : List S33) (w : World) (hr : Kd.C k33 w A l.length l) (hl : ∀ f ∈ l, f.f1.size ≤ 4096) :
    Calls Try.prog 41 #[.slice A l.length c] w fun e w' => e = .returned (.int .i64 (fullE l)) ∧ Below w.heap.size w w' := by
  have hs := Size_calls A c l w hr
  unfold fullE
  by_cases h64 : l.length ≤ 64
  · have hz := sizeF_le 4096 l hl
    have hb : sizeF l ≤ 262144 := by omega
    rw [sizeW_eq l (by omega)] at hs
    have d1 : decide ((64 : Int) < (l.length : Int)) = false := decide_eq_false (by omega)
    have d2 : decide (64 < l.length) = false := decide_eq_false (by omega)
    by_cases hm : sizeF l ≤ 16384
    · rw [if_pos ⟨h64, hm⟩]
      have d3 : decide ((16384 : Int) < (sizeF l : Int)) = false := decide_eq_false (by omega)
      clear hl hr hz
      generalize sizeF l = n at hs hm hb d3
      go_enter Try.func41, Try.ntmps41
      go_wp2_with (go_at_call 82; refine hs.mono ?_; rintro e w1 ⟨rfl, hb'⟩)
      go_ret
      exact ⟨rfl, hb'⟩
    · rw [if_neg (fun h => hm h.2)]
      have d3 : decide ((16384 : Int) < (sizeF l : Int)) = true := decide_eq_true (by omega)
      clear hl hr hz
      generalize sizeF l = n at hs hm hb d3
      go_enter Try.func41, Try.ntmps41
      go_wp2_with (go_at_call 82; refine hs.mono ?_; rintro e w1 ⟨rfl, hb'⟩)
      go_ret
      exact ⟨rfl, hb'⟩
  · rw [if_neg (fun h => h64 h.1)]
    have d1 : decide ((64 : Int) < (l.length : Int)) = true := decide_eq_true (by omega)
    have d2 : decide (64 < l.length) = true := decide_eq_true (by omega)
    clear hl hr hs
    go_enter Try.func41, Try.ntmps41
    go_wp2
    go_ret
    exact ⟨rfl, Below.refl _ _⟩

#print axioms full_calls
end Go.Proofs.Ytgbkoeinfhlpoaa.F
