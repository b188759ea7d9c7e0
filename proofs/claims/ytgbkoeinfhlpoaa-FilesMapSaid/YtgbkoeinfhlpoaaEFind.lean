/- files.find: the place of a path in a tree, by halves. -/
import Derived.Test.YtgbkoeinfhlpoaaEIdx
import Derived.Test.YtgbkoeinfhlpoaaEWay
namespace Go.Proofs.Ytgbkoeinfhlpoaa.F
open Go.RowKit Go.Shelf Go.Proofs.YtgbkoeinfhlpoaaW.PrintWords Go.Proofs.YtgbkoeinfhlpoaaW.PrintLast Go.Proofs.YtgbkoeinfhlpoaaW.PrintMore
set_option linter.unusedVariables false
set_option linter.unusedSimpArgs false

set_option maxHeartbeats 1000000 in
set_option maxRecDepth 100000 in
theorem cmp90 (x : S33) (q : ByteArray) (W : World) :
    Calls Try.prog 90 #[.agg #[.string x.f0, .string x.f1], .string q] W fun e w' => e = .returned (.int .i64 (Lib.compareBytes x.p q.toList)) ∧ Below W.heap.size W w' := by
  have hu33 := Try.underlying33
  have hw := Compare_calls x.f0 q (W.alloc (.cells #[.string x.f0, .string x.f1] 33))
  have hB0 : Below W.heap.size W (W.alloc (.cells #[.string x.f0, .string x.f1] 33)) := (Below.refl _ W).alloc (Nat.le_refl _) _
  unfold S33.p
  generalize Lib.compareBytes x.f0.toList q.toList = r at hw ⊢
  go_enter Try.func90, Try.ntmps90
  go_wp2_with fail
  refine hw.mono ?_
  rintro e w' ⟨rfl, rfl⟩
  go_wp2_with fail
  go_ret
  exact ⟨rfl, hB0⟩

theorem enters90 : ∀ args w, (callFunc 90 args).run Try.prog w = .ok (.enter 90 args) w := enters_of Try.func90 (by kernel_rfl) rfl

/-- How files stand to a path: less, up to a place; not less, from it on. -/
def Parted (l : List S33) (q : List UInt8) (a b : Nat) : Prop :=
  (∀ j, j < a → ltB (l.getD j z33).p q = true) ∧ (∀ j, b ≤ j → j < l.length → ltB (l.getD j z33).p q = false)

set_option maxHeartbeats 4000000 in
set_option maxRecDepth 100000 in
theorem BinarySearch_calls (A : Option Addr) (c : Nat) (l : List S33) (q : ByteArray) (w : World) (hr : Kd.C k33 w A l.length l) (hl : l.length ≤ 1000000)
    (hm : ∀ a b, a ≤ b → b < l.length → ltB (l.getD b z33).p q.toList = true → ltB (l.getD a z33).p q.toList = true) :
    Calls Try.prog 89 #[.slice A l.length c, .string q, .func (.func 90) #[] #[]] w fun e w' => (∃ i : Nat, i ≤ l.length ∧ Parted l q.toList i i ∧ e = .returned (.tuple #[.int .i64 i, .bool (decide (i < l.length) && ((l.getD i z33).p == q.toList))])) ∧ Below w.heap.size w w' := by
  have HR := Aside0.mk hr
  have HM := Aside0.mk hm
  have hu33 := Try.underlying33
  clear hr hm
  go_enter Try.func89, Try.ntmps89
  go_wp2
  go_loopg [9, 10, 11] (l.length + 1) (fun gg s9 s10 _ wr => ∃ i j : Nat, i ≤ j ∧ j ≤ l.length ∧ j - i ≤ gg ∧ s9 = .int .i64 i ∧ s10 = .int .i64 j ∧ Aside0 (Below w.heap.size w wr) ∧ Aside0 (Parted l q.toList i j))
  case atStart => exact ⟨0, l.length, by omega, by omega, by omega, rfl, rfl, ⟨Below.refl _ w⟩, ⟨fun j hj => by omega, fun j h1 h2 => by omega⟩⟩
  case round =>
    obtain ⟨i, j, hij, hjl, hg, rfl, rfl, HB, HP⟩ := hrel
    by_cases hlt : i < j
    · have hltz : (i : Int) < (j : Int) := by omega
      have hk : (i + j) / 2 < l.length := by omega
      have hz1 : (0 : Int) ≤ ((i : Int) + (j : Int)) / 2 := by omega
      have hz2 : ((i : Int) + (j : Int)) / 2 < (l.length : Int) := by omega
      obtain ⟨ad, e, hx0, hx1⟩ := at_T33 HR.out (((i + j) / 2 : Nat) : Int) (by omega) (by omega)
      cases e
      rw [getD_rd, Int.toNat_natCast] at hx0 hx1
      replace hx0 := (HB.out.cell (World.block_lt_of_cell? w _ hx0)).trans hx0
      replace hx1 := (HB.out.cell (World.block_lt_of_cell? w _ hx1)).trans hx1
      have hcmp := cmp90 (l.getD ((i + j) / 2) z33) q wr
      have hsp := cmp_spec (l.getD ((i + j) / 2) z33).p q.toList
      have HK := Aside0.mk (show i ≤ (i + j) / 2 ∧ (i + j) / 2 < j by omega)
      have HS := Aside0.mk hsp.1
      generalize hy : l.getD ((i + j) / 2) z33 = y at hx0 hx1 hcmp HS
      have HY := Aside0.mk hy
      clear hy hsp
      generalize Lib.compareBytes y.p q.toList = r at hcmp HS
      by_cases hr : r < 0
      · have hd : decide (r < 0) = true := decide_eq_true hr
        have HL := Aside0.mk (HS.out.mp hr)
        clear hr
        go_wp2_with (go_at_call 90; refine hcmp.mono ?_; rintro e w' ⟨rfl, hb'⟩)
        go_roundg (j - ((i + j) / 2 + 1))
        case measure => omega
        case rel =>
          refine ⟨(i + j) / 2 + 1, j, by have := HK.out; omega, hjl, by omega, (by have := HK.out; congr 1; (try simp only [wrap64]); try omega), rfl, ⟨HB.out.trans (hb'.mono HB.out.size)⟩, ⟨fun t ht => ?_, HP.out.2⟩⟩
          exact HM.out t ((i + j) / 2) (by omega) hk (by rw [HY.out]; exact HL.out)
      · have hd : decide (r < 0) = false := decide_eq_false hr
        have HL := Aside0.mk (show ltB y.p q.toList = false by
          cases hb : ltB y.p q.toList with
          | false => rfl
          | true => exact absurd (HS.out.mpr hb) hr)
        clear hr
        go_wp2_with (go_at_call 90; refine hcmp.mono ?_; rintro e w' ⟨rfl, hb'⟩)
        go_roundg ((i + j) / 2 - i)
        case measure => have := HK.out; omega
        case rel =>
          refine ⟨i, (i + j) / 2, HK.out.1, by omega, by omega, rfl, (by congr 1; try omega), ⟨HB.out.trans (hb'.mono HB.out.size)⟩, ⟨HP.out.1, fun t h1 h2 => ?_⟩⟩
          cases hb : ltB (l.getD t z33).p q.toList with
          | false => rfl
          | true =>
            have := HM.out ((i + j) / 2) t h1 h2 hb
            rw [HY.out, HL.out] at this
            cases this
    · have hltz : ¬ (i : Int) < (j : Int) := by omega
      have HE := Aside0.mk (show j = i by omega)
      by_cases hlt2 : i < l.length
      · have hlz : (i : Int) < (l.length : Int) := by omega
        obtain ⟨ad, e, hx0, hx1⟩ := at_T33 HR.out (i : Int) (by omega) (by omega)
        cases e
        rw [getD_rd, Int.toNat_natCast] at hx0 hx1
        replace hx0 := (HB.out.cell (World.block_lt_of_cell? w _ hx0)).trans hx0
        replace hx1 := (HB.out.cell (World.block_lt_of_cell? w _ hx1)).trans hx1
        have hcmp := cmp90 (l.getD i z33) q wr
        have HS := Aside0.mk (cmp_spec (l.getD i z33).p q.toList).2
        generalize hy : l.getD i z33 = y at hx0 hx1 hcmp HS
        have HY := Aside0.mk hy
        clear hy
        generalize Lib.compareBytes y.p q.toList = r at hcmp HS
        have hrb : (r == 0) = (y.p == q.toList) := by
          rw [Bool.eq_iff_iff, beq_iff_eq, beq_iff_eq]
          exact HS.out
        have HRB := Aside0.mk hrb
        clear hrb
        generalize hrr : (r == 0) = b at HRB
        go_wp2_with (go_at_call 90; refine hcmp.mono ?_; rintro e w' ⟨rfl, hb'⟩)
        go_ret2
        refine ⟨⟨i, by omega, ⟨HP.out.1, fun t h1 h2 => HP.out.2 t (by have := HE.out; omega) h2⟩, ?_⟩, HB.out.trans (hb'.mono HB.out.size)⟩
        rw [HY.out, ← HRB.out, decide_eq_true hlt2]
        rfl
      · have hlz : ¬ (i : Int) < (l.length : Int) := by omega
        go_wp2
        go_ret2
        refine ⟨⟨i, by omega, ⟨HP.out.1, fun t h1 h2 => by omega⟩, ?_⟩, HB.out⟩
        rw [decide_eq_false hlt2]
        rfl

set_option maxHeartbeats 1000000 in
set_option maxRecDepth 100000 in
theorem find_calls (A : Option Addr) (c : Nat) (l : List S33) (q : ByteArray) (w : World) (hr : Kd.C k33 w A l.length l) (hl : l.length ≤ 1000000)
    (hm : ∀ a b, a ≤ b → b < l.length → ltB (l.getD b z33).p q.toList = true → ltB (l.getD a z33).p q.toList = true) :
    Calls Try.prog 55 #[.slice A l.length c, .string q] w fun e w' => (∃ i : Nat, i ≤ l.length ∧ Parted l q.toList i i ∧ e = .returned (.tuple #[.int .i64 i, .bool (decide (i < l.length) && ((l.getD i z33).p == q.toList))])) ∧ Below w.heap.size w w' := by
  have hb := BinarySearch_calls A c l q w hr hl hm
  have HM := Aside0.mk hm
  clear hm hr
  go_enter Try.func55, Try.ntmps55
  go_wp2_with fail
  refine hb.mono ?_
  rintro e w' ⟨⟨i, hi, hp, rfl⟩, hbw⟩
  have HP := Aside0.mk hp
  clear hp
  generalize hv : (decide (i < l.length) && ((l.getD i z33).p == q.toList)) = b
  have HV := Aside0.mk hv
  clear hv
  go_wp2_with fail
  go_ret2
  exact ⟨⟨i, hi, HP.out, by rw [HV.out]; rfl⟩, hbw⟩

#print axioms find_calls
end Go.Proofs.Ytgbkoeinfhlpoaa.F
