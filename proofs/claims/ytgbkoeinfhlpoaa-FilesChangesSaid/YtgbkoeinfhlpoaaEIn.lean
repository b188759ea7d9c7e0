/- bastionref17.in: a file put in its place. -/
import Derived.Test.YtgbkoeinfhlpoaaEIdx
import Derived.Test.YtgbkoeinfhlpoaaEClone
namespace Go.Proofs.Ytgbkoeinfhlpoaa.F
open Go.RowKit Go.Shelf Go.Proofs.YtgbkoeinfhlpoaaW.PrintWords Go.Proofs.YtgbkoeinfhlpoaaW.PrintLast Go.Proofs.YtgbkoeinfhlpoaaW.PrintMore
set_option linter.unusedVariables false
set_option linter.unusedSimpArgs false

/-- How many files at the front are less than a path. -/
def frontF : List S33 → List UInt8 → Nat
  | [], _ => 0
  | g :: t, q => if ltB g.p q = true then frontF t q + 1 else 0
def inE (l : List S33) (f : S33) : List S33 := l.take (frontF l f.p) ++ f :: l.drop (frontF l f.p)
def bastionref17_in.f (l0 : List S33) (a0 a1 : ByteArray) : Option (List S33) := if l0.length ≤ 1000000000 then some (inE l0 ⟨a0, a1⟩) else none

theorem frontF_le : ∀ (l : List S33) (q : List UInt8), frontF l q ≤ l.length
  | [], _ => Nat.le_refl _
  | g :: t, q => by
    unfold frontF
    have := frontF_le t q
    split
    · simp only [List.length_cons]; omega
    · omega
theorem frontF_at : ∀ (l : List S33) (q : List UInt8) (j : Nat), (∀ i, i < j → ltB (l.getD i z33).p q = true) → j ≤ l.length → (j < l.length → ltB (l.getD j z33).p q = false) → frontF l q = j
  | [], q, j, _, hj, _ => by
    have : j = 0 := by simpa using hj
    subst this; rfl
  | g :: t, q, 0, _, _, h => by
    have := h (by simp)
    simp only [List.getD_cons_zero] at this
    unfold frontF
    rw [if_neg (by simp [this])]
  | g :: t, q, j + 1, h1, hj, h2 => by
    have h0 := h1 0 (by omega)
    simp only [List.getD_cons_zero] at h0
    unfold frontF
    rw [if_pos h0, frontF_at t q j (fun i hi => by have := h1 (i + 1) (by omega); simpa using this) (by simpa using hj) (fun h => by have := h2 (by simpa using h); simpa using this)]

set_option maxHeartbeats 8000000 in
set_option maxRecDepth 100000 in
theorem bastionref17_in.calls (A0 : Option Addr) (c0 : Nat) (l0 : List (S33)) (a1_0 : ByteArray) (a1_1 : ByteArray) (r : List (S33)) (w : World) (hr0 : Kd.C k33 w A0 l0.length l0) (hc0 : l0.length ≤ c0) (h : bastionref17_in.f l0 a1_0 a1_1 = some r) :
    Calls Try.prog 60 #[.slice A0 l0.length c0, .agg #[.string a1_0, .string a1_1]] w fun e w' => ∃ v0_ : Value, e = .returned (v0_) ∧ Kd.R k33 33 w' w.heap.size (fun _ => True) v0_ r ∧ Below w.heap.size w w' := by
  have hu33 := Try.underlying33
  unfold bastionref17_in.f at h
  by_cases hlen : ¬ l0.length ≤ 1000000000
  · rw [if_neg hlen] at h; cases h
  rw [Decidable.not_not] at hlen
  rw [if_pos hlen] at h
  obtain rfl := Option.some.inj h
  clear h
  obtain ⟨i0, hi0, _, hsz0, _⟩ := info_parts info33
  have HR := Aside0.mk hr0
  have HL := Aside0.mk hlen
  have HI := Aside0.mk hi0
  have HS := Aside0.mk hsz0
  have HC0 := Aside0.mk hc0
  clear hr0 hlen hi0 hsz0 hc0
  go_enter Try.func60, Try.ntmps60
  go_wp2
  go_loopg [5] (l0.length + 1) (fun gg s5 wr => ∃ j : Nat, j ≤ l0.length ∧ l0.length - j ≤ gg ∧ s5 = .int .i64 j ∧ Aside0 (∀ i, i < j → ltB (l0.getD i z33).p a1_0.toList = true) ∧ Aside0 (Below w.heap.size w wr) ∧ Aside0 (wr.heap[w.heap.size]? = some (.cells #[.string a1_0, .string a1_1] 33 (0, 0))))
  case atStart => exact ⟨0, by omega, by omega, rfl, ⟨fun i hi => by omega⟩, ⟨(Below.refl _ w).alloc (Nat.le_refl _) _⟩, ⟨by show (w.heap.push _)[w.heap.size]? = _; rw [Array.getElem?_push_size]⟩⟩
  case round =>
    obtain ⟨j, hj, hg, rfl, HP, HB, HK⟩ := hrel
    have hb0 : wr.cell? ⟨w.heap.size, 0, none⟩ = some (.string a1_0) := (cell_of_row wr _ 0 _ _ _ HK.out).trans rfl
    have hb1 : wr.cell? ⟨w.heap.size, 1, none⟩ = some (.string a1_1) := (cell_of_row wr _ 1 _ _ _ HK.out).trans rfl
    by_cases hlt : j < l0.length
    · have hltz : decide ((j : Int) < (l0.length : Int)) = true := decide_eq_true (by omega)
      have hltn : decide (j < l0.length) = true := decide_eq_true hlt
      have hz0 : (0 : Int) ≤ (j : Int) := by omega
      have hz1 : (j : Int) < (l0.length : Int) := by omega
      obtain ⟨ad, e, hx0, hx1⟩ := at_T33 HR.out (j : Int) (by omega) (by omega)
      cases e
      rw [getD_rd, Int.toNat_natCast] at hx0 hx1
      replace hx0 := (HB.out.cell (World.block_lt_of_cell? w _ hx0)).trans hx0
      have HY := Aside0.mk (show l0.getD j z33 = l0.getD j z33 from rfl)
      cases hcmp : ltB (l0.getD j z33).p a1_0.toList with
      | true =>
        have HC := Aside0.mk hcmp
        have hd : Op.bytesLess (l0.getD j z33).f0.toList a1_0.toList = true := hcmp
        clear hcmp hx1 hb1
        generalize hy : (l0.getD j z33).f0 = y at hx0 hd
        clear hy
        go_wp2_with fail
        go_quiet (fail)
        go_wp2_with fail
        go_roundg (l0.length - (j + 1))
        case measure => omega
        case rel =>
          refine ⟨j + 1, by omega, by omega, (by have := HL.out; congr 1; (try simp only [wrap64]); try omega), ⟨fun i hi => ?_⟩, ⟨pw_below_drewN HB.out _⟩, ⟨HK.out⟩⟩
          rcases Nat.lt_or_ge i j with h | h
          · exact HP.out i h
          · obtain rfl : i = j := by omega
            exact HC.out
      | false =>
        have HF := Aside0.mk (frontF_at l0 a1_0.toList j HP.out hj (fun _ => hcmp))
        have hd : Op.bytesLess (l0.getD j z33).f0.toList a1_0.toList = false := hcmp
        clear hcmp hx1
        generalize hy : (l0.getD j z33).f0 = y at hx0 hd
        clear hy
        have hcut1 := cut_to (P := Try.prog) 22 33 .i64 Try.underlying22 HI.out (some ad) l0.length c0 (j : Int) (by omega) (by omega) HC0.out
        have hcut2 := cut_from (P := Try.prog) 22 33 .i64 Try.underlying22 HI.out 2 HS.out (some ad) l0.length c0 (j : Int) (by omega) (by omega)
        rw [Int.toNat_natCast] at hcut1 hcut2
        have HT := Aside0.mk (show (l0.take j).length = j by rw [List.length_take]; omega)
        have HDl := Aside0.mk (show (l0.drop j).length = l0.length - j from List.length_drop)
        have HCt := Aside0.mk (fun (W : World) (hb : Below w.heap.size w W) => (show Kd.C k33 W (some ad) j (l0.take j) by have := Kd.C_take (m := j) (Kd.C_below HR.out hb) hj; rwa [HT.out] at this))
        have HCd := Aside0.mk (fun (W : World) (hb : Below w.heap.size w W) => (show Kd.C k33 W (if c0 = j then (some ad) else (some ad).map (·.add (j * 2))) (l0.length - j) (l0.drop j) by have := Kd.C_drop (m := j) (c := c0) (Kd.C_below HR.out hb) hj HC0.out; rw [HDl.out] at this; exact this))
        go_wp2_with fail
        go_quiet (fail)
        go_wp2_with (first
          | (at_builtin; refine Kd.R_append_rows k33 (w0 := w) w.heap.size rfl (.tmp 23) (.tmp 26) 22 33 (.agg #[.string ⟨#[]⟩, .string ⟨#[]⟩]) 32 rfl Try.underlying22 info33 rfl (by decide) (by omega) (.slice none 0 0) ([] : List S33) (l0.take j) (some ad) j c0 (fun _ => True) (fun _ => False) rfl rfl (Kd.R_nil _ _ _ _ _) (HCt.out _ (by first | exact HB.out | exact pw_below_drewN HB.out _)) (fun _ _ h => K_M h) (fun _ h => h.elim) (fun _ _ => trivial) (by first | exact HB.out | exact pw_below_drewN HB.out _) HB.out.size (by have := HL.out; simp; omega) ?_; intro v1 w1 hR1 hB1 hg1 _; have HK1 : w1.heap[w.heap.size]? = some (.cells #[.string a1_0, .string a1_1] 33 (0, 0)) := (hg1.block _ (Array.getElem?_eq_some_iff.1 HK.out).1 (by simp [Value.ownBlock])).trans HK.out; have hc0 : w1.cell? ⟨w.heap.size, 0, none⟩ = some (.string a1_0) := (cell_of_row w1 _ 0 _ _ _ HK1).trans rfl; have hc1 : w1.cell? ⟨w.heap.size, 1, none⟩ = some (.string a1_1) := (cell_of_row w1 _ 1 _ _ _ HK1).trans rfl; have HR1 := Aside0.mk hR1; have HB1 := Aside0.mk hB1; clear hR1 hB1 hg1 HK1)
          | (at_builtin; refine Kd.R_append k33 (w0 := w) w.heap.size rfl (.tmp 28) (.tmp 30) 22 33 (.agg #[.string ⟨#[]⟩, .string ⟨#[]⟩]) 32 rfl Try.underlying22 info33 rfl (by decide) (by omega) v1 _ ⟨a1_0, a1_1⟩ [.string a1_0, .string a1_1] (fun _ => True) (fun _ => False) rfl rfl (k33_mkM _ _ _ _) (fun _ h => h.elim) (fun _ _ => trivial) HR1.out HB1.out HB1.out.size (by have := HL.out; have := HT.out; simp only [List.nil_append]; omega) ?_; intro v2 w2 hR2 hB2 _ _; have HR2 := Aside0.mk hR2; have HB2 := Aside0.mk hB2; clear hR2 hB2)
          | (at_builtin; refine Kd.R_append_rows k33 (w0 := w) w.heap.size rfl (.tmp 32) (.tmp 35) 22 33 (.agg #[.string ⟨#[]⟩, .string ⟨#[]⟩]) 32 rfl Try.underlying22 info33 rfl (by decide) (by omega) v2 _ (l0.drop j) _ (l0.length - j) (c0 - j) (fun _ => True) (fun _ => False) rfl rfl HR2.out (HCd.out _ HB2.out) (fun _ _ h => K_M h) (fun _ h => h.elim) (fun _ _ => trivial) HB2.out HB2.out.size (by have := HL.out; have := HT.out; simp only [List.nil_append, List.length_append, List.length_singleton]; omega) ?_; intro v3 w3 hR3 hB3 _ _))
        all_goals (
          go_ret
          refine ⟨_, rfl, ?_, hB3⟩
          have he : inE l0 ⟨a1_0, a1_1⟩ = [] ++ l0.take j ++ [⟨a1_0, a1_1⟩] ++ l0.drop j := by
            unfold inE
            rw [show frontF l0 (S33.p ⟨a1_0, a1_1⟩) = j from HF.out]
            simp
          rw [he]
          exact hR3)
    · have hltz : decide ((j : Int) < (l0.length : Int)) = false := decide_eq_false (by omega)
      have hltn : decide (j < l0.length) = false := decide_eq_false hlt
      have HF := Aside0.mk (frontF_at l0 a1_0.toList j HP.out hj (fun h => absurd h hlt))
      clear hb1
      have hcut1 := cut_to (P := Try.prog) 22 33 .i64 Try.underlying22 HI.out A0 l0.length c0 (j : Int) (by omega) (by omega) HC0.out
      have hcut2 := cut_from (P := Try.prog) 22 33 .i64 Try.underlying22 HI.out 2 HS.out A0 l0.length c0 (j : Int) (by omega) (by omega)
      rw [Int.toNat_natCast] at hcut1 hcut2
      have HT := Aside0.mk (show (l0.take j).length = j by rw [List.length_take]; omega)
      have HDl := Aside0.mk (show (l0.drop j).length = l0.length - j from List.length_drop)
      have HCt := Aside0.mk (fun (W : World) (hb : Below w.heap.size w W) => (show Kd.C k33 W A0 j (l0.take j) by have := Kd.C_take (m := j) (Kd.C_below HR.out hb) hj; rwa [HT.out] at this))
      have HCd := Aside0.mk (fun (W : World) (hb : Below w.heap.size w W) => (show Kd.C k33 W (if c0 = j then A0 else A0.map (·.add (j * 2))) (l0.length - j) (l0.drop j) by have := Kd.C_drop (m := j) (c := c0) (Kd.C_below HR.out hb) hj HC0.out; rw [HDl.out] at this; exact this))
      go_wp2_with fail
      go_quiet (fail)
      go_wp2_with (first
        | (at_builtin; refine Kd.R_append_rows k33 (w0 := w) w.heap.size rfl (.tmp 23) (.tmp 26) 22 33 (.agg #[.string ⟨#[]⟩, .string ⟨#[]⟩]) 32 rfl Try.underlying22 info33 rfl (by decide) (by omega) (.slice none 0 0) ([] : List S33) (l0.take j) A0 j c0 (fun _ => True) (fun _ => False) rfl rfl (Kd.R_nil _ _ _ _ _) (HCt.out _ (by first | exact HB.out | exact pw_below_drewN HB.out _)) (fun _ _ h => K_M h) (fun _ h => h.elim) (fun _ _ => trivial) (by first | exact HB.out | exact pw_below_drewN HB.out _) HB.out.size (by have := HL.out; simp; omega) ?_; intro v1 w1 hR1 hB1 hg1 _; have HK1 : w1.heap[w.heap.size]? = some (.cells #[.string a1_0, .string a1_1] 33 (0, 0)) := (hg1.block _ (Array.getElem?_eq_some_iff.1 HK.out).1 (by simp [Value.ownBlock])).trans HK.out; have hc0 : w1.cell? ⟨w.heap.size, 0, none⟩ = some (.string a1_0) := (cell_of_row w1 _ 0 _ _ _ HK1).trans rfl; have hc1 : w1.cell? ⟨w.heap.size, 1, none⟩ = some (.string a1_1) := (cell_of_row w1 _ 1 _ _ _ HK1).trans rfl; have HR1 := Aside0.mk hR1; have HB1 := Aside0.mk hB1; clear hR1 hB1 hg1 HK1)
        | (at_builtin; refine Kd.R_append k33 (w0 := w) w.heap.size rfl (.tmp 28) (.tmp 30) 22 33 (.agg #[.string ⟨#[]⟩, .string ⟨#[]⟩]) 32 rfl Try.underlying22 info33 rfl (by decide) (by omega) v1 _ ⟨a1_0, a1_1⟩ [.string a1_0, .string a1_1] (fun _ => True) (fun _ => False) rfl rfl (k33_mkM _ _ _ _) (fun _ h => h.elim) (fun _ _ => trivial) HR1.out HB1.out HB1.out.size (by have := HL.out; have := HT.out; simp only [List.nil_append]; omega) ?_; intro v2 w2 hR2 hB2 _ _; have HR2 := Aside0.mk hR2; have HB2 := Aside0.mk hB2; clear hR2 hB2)
        | (at_builtin; refine Kd.R_append_rows k33 (w0 := w) w.heap.size rfl (.tmp 32) (.tmp 35) 22 33 (.agg #[.string ⟨#[]⟩, .string ⟨#[]⟩]) 32 rfl Try.underlying22 info33 rfl (by decide) (by omega) v2 _ (l0.drop j) _ (l0.length - j) (c0 - j) (fun _ => True) (fun _ => False) rfl rfl HR2.out (HCd.out _ HB2.out) (fun _ _ h => K_M h) (fun _ h => h.elim) (fun _ _ => trivial) HB2.out HB2.out.size (by have := HL.out; have := HT.out; simp only [List.nil_append, List.length_append, List.length_singleton]; omega) ?_; intro v3 w3 hR3 hB3 _ _))
      all_goals (
        go_ret
        refine ⟨_, rfl, ?_, hB3⟩
        have he : inE l0 ⟨a1_0, a1_1⟩ = [] ++ l0.take j ++ [⟨a1_0, a1_1⟩] ++ l0.drop j := by
          unfold inE
          rw [show frontF l0 (S33.p ⟨a1_0, a1_1⟩) = j from HF.out]
          simp
        rw [he]
        exact hR3)

#print axioms bastionref17_in.calls
end Go.Proofs.Ytgbkoeinfhlpoaa.F
