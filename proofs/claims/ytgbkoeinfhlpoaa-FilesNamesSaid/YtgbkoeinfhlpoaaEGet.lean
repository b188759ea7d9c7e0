/- files.Get: what the first file at a path has, and true; else nothing and false. -/
import Derived.Test.YtgbkoeinfhlpoaaEIdx
namespace Go.Proofs.Ytgbkoeinfhlpoaa.F
open Go.RowKit Go.Proofs.YtgbkoeinfhlpoaaW.PrintWords Go.Proofs.YtgbkoeinfhlpoaaW.PrintLast Go.Proofs.YtgbkoeinfhlpoaaW.PrintMore
set_option linter.unusedVariables false
set_option linter.unusedSimpArgs false

theorem enters50 : ∀ args w, (callFunc 50 args).run Try.prog w = .ok (.enter 50 args) w := enters_of Try.func50 (by kernel_rfl) rfl
theorem enters51 : ∀ args w, (callFunc 51 args).run Try.prog w = .ok (.enter 51 args) w := enters_of Try.func51 (by kernel_rfl) rfl

theorem asks51 (l : List S33) (q : ByteArray) (B : Nat) (w : World) (hB : B < w.heap.size) (hcell : w.cell? ⟨B, 0, none⟩ = some (.string q)) :
    Asks 51 #[.pointer (some ⟨B, 0, none⟩)] (fun x => x.p == q.toList) l w := fun W x _ hb => by
  have hc : W.cell? ⟨B, 0, none⟩ = some (.string q) := (hb.cell (p := ⟨B, 0, none⟩) hB).trans hcell
  have hBW : B < W.heap.size := Nat.lt_of_lt_of_le hB hb.size
  have hne : B ≠ W.heap.size := by omega
  have hu33 := Try.underlying33
  show Calls Try.prog 51 #[.agg #[.string x.f0, .string x.f1], .pointer (some ⟨B, 0, none⟩)] W _
  go_enter Try.func51, Try.ntmps51
  go_wp2
  go_ret
  exact ⟨by simp [S33.p], (Below.refl _ _).alloc (Nat.le_refl _) _⟩

theorem getE_some (l : List S33) (q : ByteArray) (h : l.any (fun x => x.p == q.toList) = true) :
    getE l q.toList = ((l.getD (l.findIdx (fun x => x.p == q.toList)) z33).f1, true) := by
  have h2 : l.find? (fun x => x.p == q.toList) = l[l.findIdx (fun x => x.p == q.toList)]? := List.find?_eq_getElem?_findIdx
  obtain ⟨x, hx, hp⟩ := List.any_eq_true.mp h
  have hl : l.findIdx (fun x => x.p == q.toList) < l.length := List.findIdx_lt_length_of_exists ⟨x, hx, hp⟩
  unfold getE
  rw [h2, List.getElem?_eq_getElem hl]
  simp [List.getD_eq_getElem?_getD, List.getElem?_eq_getElem hl]
theorem getE_none (l : List S33) (q : ByteArray) (h : l.any (fun x => x.p == q.toList) = false) : getE l q.toList = (⟨#[]⟩, false) := by
  unfold getE
  rw [List.find?_eq_none.mpr (fun x hx => by
    have := List.any_eq_false.mp h x hx
    simpa using this)]

set_option maxHeartbeats 2000000 in
set_option maxRecDepth 100000 in
theorem files_Get.calls (A0 : Option Addr) (c0 : Nat) (l0 : List S33) (a1 : ByteArray) (r1 : ByteArray) (r2 : Bool) (w : World) (hr0 : Kd.C k33 w A0 l0.length l0) (hc0 : l0.length ≤ c0) (h : files_Get.f l0 a1 = some (r1, r2)) :
    Calls Try.prog 19 #[.slice A0 l0.length c0, .string a1] w fun e w' => e = .returned (.tuple #[.string r1, .bool r2]) ∧ Below w.heap.size w w' := by
  have hu33 := Try.underlying33
  have hc := IndexFunc_calls 51 #[.pointer (some ⟨w.heap.size, 0, none⟩)] (fun x => x.p == a1.toList) enters51 A0 c0 l0 (w.alloc (.cells #[.string a1] 9))
    (Kd.C_below hr0 ((Below.refl _ _).alloc (Nat.le_refl _) _)) (asks51 l0 a1 w.heap.size _ (by simp) (by simp))
  have H : getE l0 a1.toList = (r1, r2) := by simpa [files_Get.f] using h
  clear h
  have HR := Aside0.mk hr0
  clear hr0
  cases ha : l0.any (fun x => x.p == a1.toList) with
  | true =>
    rw [getE_some l0 a1 ha] at H
    have hl : l0.findIdx (fun x => x.p == a1.toList) < l0.length := by
      obtain ⟨x, hx, hp⟩ := List.any_eq_true.mp ha
      exact List.findIdx_lt_length_of_exists ⟨x, hx, hp⟩
    have e1 : idxI (fun x => x.p == a1.toList) l0 = (l0.findIdx (fun x => x.p == a1.toList) : Int) := by unfold idxI; rw [if_pos ha]
    rw [e1] at hc
    generalize l0.findIdx (fun x => x.p == a1.toList) = k at hc H hl
    simp only [Prod.mk.injEq] at H
    obtain ⟨rfl, rfl⟩ := H
    obtain ⟨ad, e, hx0, hx1⟩ := at_T33 HR.out (k : Int) (by omega) (by omega)
    cases e
    rw [getD_rd, Int.toNat_natCast] at hx0 hx1
    generalize l0.getD k z33 = y at hx0 hx1 ⊢
    have hlz : (k : Int) < (l0.length : Int) := by omega
    have hk0 : decide ((k : Int) < 0) = false := decide_eq_false (by omega)
    clear ha e1
    have HL := Aside0.mk hx1
    have HBL := World.block_lt_of_cell? w _ hx1
    clear hx0 hx1
    go_enter Try.func19, Try.ntmps19
    go_wp2_with (go_at_call 50; refine hc.mono ?_; rintro e w1 ⟨rfl, hb'⟩; have hB2 : Below w.heap.size w w1 := ((Below.refl w.heap.size w).alloc (Nat.le_refl _) _).trans (hb'.mono (by simp)); have hx1' := (hB2.cell HBL).trans HL.out)
    go_ret2
    exact ⟨rfl, hB2⟩
  | false =>
    rw [getE_none l0 a1 ha] at H
    have e1 : idxI (fun x => x.p == a1.toList) l0 = -1 := by unfold idxI; rw [ha]; rfl
    rw [e1] at hc
    simp only [Prod.mk.injEq] at H
    obtain ⟨rfl, rfl⟩ := H
    clear ha e1
    go_enter Try.func19, Try.ntmps19
    go_wp2_with (go_at_call 50; refine hc.mono ?_; rintro e w1 ⟨rfl, hb'⟩; have hB2 : Below w.heap.size w w1 := ((Below.refl w.heap.size w).alloc (Nat.le_refl _) _).trans (hb'.mono (by simp)))
    go_ret2
    exact ⟨rfl, hB2⟩

#print axioms files_Get.calls
end Go.Proofs.Ytgbkoeinfhlpoaa.F
