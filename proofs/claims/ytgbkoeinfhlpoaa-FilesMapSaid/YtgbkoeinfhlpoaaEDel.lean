/- files.Del. -/
import Derived.Test.YtgbkoeinfhlpoaaEDelA
import Derived.Test.YtgbkoeinfhlpoaaEFind
import Derived.Test.YtgbkoeinfhlpoaaELayA
namespace Go.Proofs.Ytgbkoeinfhlpoaa.F
open Go.RowKit Go.Shelf Go.Proofs.YtgbkoeinfhlpoaaW.PrintWords Go.Proofs.YtgbkoeinfhlpoaaW.PrintLast Go.Proofs.YtgbkoeinfhlpoaaW.PrintMore
set_option linter.unusedVariables false
set_option linter.unusedSimpArgs false

theorem good_mono {l : List S33} (G : Good l) (q : List UInt8) : ∀ a b, a ≤ b → b < l.length → ltB (l.getD b z33).p q = true → ltB (l.getD a z33).p q = true := by
  intro a b hab hb h
  rcases Nat.eq_or_lt_of_le hab with rfl | hab
  · exact h
  · have := List.pairwise_iff_getElem.mp (rising_pair l G.rising) a b (by omega) hb hab
    rw [List.getD_eq_getElem?_getD, List.getElem?_eq_getElem (by omega)] at h ⊢
    exact ltB_trans this h

/-- Where the halving ends, the path stands at its place or nowhere. -/
theorem parted_hit {l : List S33} (G : Good l) {q : List UInt8} {i : Nat} (hi : i ≤ l.length) (hp : Parted l q i i) :
    (decide (i < l.length) && ((l.getD i z33).p == q)) = l.any (fun g => g.p == q) := by
  have far : ∀ j, j < l.length → (l.getD j z33).p = q → j = i := by
    intro j hj he
    rcases Nat.lt_trichotomy j i with h | h | h
    · have := hp.1 j h
      rw [he, ltB_irrefl] at this; cases this
    · exact h
    · have h1 := hp.2 i (Nat.le_refl _) (by omega)
      have := List.pairwise_iff_getElem.mp (rising_pair l G.rising) i j (by omega) hj h
      rw [List.getD_eq_getElem?_getD, List.getElem?_eq_getElem hj] at he
      rw [List.getD_eq_getElem?_getD, List.getElem?_eq_getElem (by omega)] at h1
      simp only [Option.getD_some] at he h1
      rw [he, h1] at this; cases this
  cases ha : l.any (fun g => g.p == q) with
  | true =>
    obtain ⟨x, hx, hxe⟩ := List.any_eq_true.mp ha
    obtain ⟨j, hj, rfl⟩ := List.mem_iff_getElem.mp hx
    have he : (l.getD j z33).p = q := by rw [List.getD_eq_getElem?_getD, List.getElem?_eq_getElem hj]; simpa using hxe
    obtain rfl := far j hj he
    rw [decide_eq_true hj, Bool.true_and]
    exact beq_iff_eq.mpr he
  | false =>
    rw [List.any_eq_false] at ha
    by_cases hil : i < l.length
    · have := ha (l.getD i z33) (by simp [hil])
      simp only [decide_eq_true hil, Bool.true_and]
      simpa using this
    · simp [hil]

theorem erase_filter : ∀ {l : List S33} {q : List UInt8} {i : Nat} (hi : i < l.length) (hd : l.Pairwise (fun f g => f.p ≠ g.p)) (he : (l.getD i z33).p = q), l.eraseIdx i = l.filter (fun g => g.p != q)
  | [], q, i, hi, _, _ => by cases hi
  | x :: t, q, 0, hi, hd, he => by
    simp only [List.getD_cons_zero] at he
    rw [List.eraseIdx_cons_zero, List.filter_cons_of_neg (by simp [he]), List.filter_eq_self.mpr]
    intro y hy
    have := List.rel_of_pairwise_cons hd hy
    rw [he] at this
    simpa using this.symm
  | x :: t, q, i + 1, hi, hd, he => by
    simp only [List.getD_cons_succ] at he
    have hi' : i < t.length := by simpa using hi
    rw [List.eraseIdx_cons_succ, erase_filter hi' hd.tail he, List.filter_cons_of_pos]
    have := List.rel_of_pairwise_cons hd (a' := t.getD i z33) (by simp [hi'])
    rw [he] at this
    simpa using this

theorem good_apart {l : List S33} (G : Good l) : l.Pairwise (fun f g => f.p ≠ g.p) :=
  (rising_pair l G.rising).imp (fun h e => by rw [e, ltB_irrefl] at h; cases h)

set_option maxHeartbeats 2000000 in
set_option maxRecDepth 100000 in
theorem Del_calls (A0 : Option Addr) (c0 : Nat) (l0 : List S33) (q : ByteArray) (w : World) (hr0 : Kd.C k33 w A0 l0.length l0) :
    Calls Try.prog 23 #[.slice A0 l0.length c0, .string q] w fun e w' => ∃ v : Value, e = .returned (.tuple #[v, .int .i64 (delE l0 q.toList).2]) ∧ Kd.R k33 33 w' w.heap.size (fun _ => True) v (delE l0 q.toList).1 ∧ Below w.heap.size w w' := by
  have hu33 := Try.underlying33
  have hc := Check_calls A0 c0 l0 w hr0
  by_cases h0 : checkE l0 = 0
  · have G := Aside0.mk (good_of h0)
    rw [h0] at hc
    have hlen : l0.length ≤ 1000000 := by have := G.out.len; omega
    have hfd := Aside0.mk (fun (W : World) (hb : Below w.heap.size w W) => find_calls A0 c0 l0 q W (Kd.C_below hr0 hb) hlen (good_mono G.out q.toList))
    have hcl := Aside0.mk (fun (W : World) (hb : Below w.heap.size w W) => Clone_calls A0 c0 l0 W (Kd.C_below hr0 hb) hlen)
    have hde := Aside0.mk (fun (W : World) (g cap i : Nat) (hR : Kd.R k33 33 W w.heap.size (fun _ => True) (.slice (some ⟨g, 0, none⟩) l0.length cap) l0) (hb : w.heap.size ≤ W.heap.size) (hi : i < l0.length) => Delete_calls w.heap.size g cap i l0 W hR hb hi hlen)
    clear hr0
    cases ha : l0.any (fun g => g.p == q.toList) with
    | true =>
      have HE := Aside0.mk (show delE l0 q.toList = (l0.filter (fun g => g.p != q.toList), 0) by unfold delE; rw [if_pos h0, ha]; rfl)
      have HA := Aside0.mk ha
      clear ha
      go_enter Try.func23, Try.ntmps23
      go_wp2_with fail
      refine hc.mono ?_
      rintro e w1 ⟨rfl, hb1⟩
      go_wp2_with fail
      refine (hfd.out w1 hb1).mono ?_
      rintro e w2 ⟨⟨i, hi, hp, rfl⟩, hb2⟩
      have hit := parted_hit G.out hi hp
      rw [hit, HA.out]
      have hil : i < l0.length ∧ (l0.getD i z33).p = q.toList := by
        rw [HA.out, Bool.and_eq_true, decide_eq_true_eq, beq_iff_eq] at hit
        exact hit
      have HF := Aside0.mk (erase_filter hil.1 (good_apart G.out) hil.2)
      obtain ⟨hil, _⟩ := hil
      clear hit hp
      replace hb2 := Aside0.mk (hb1.trans (hb2.mono hb1.size))
      have hw1 : IntKind.i64.wrap ((i : Int) + 1) = (i : Int) + 1 := by have := G.out.len; rw [IntKind.wrap_i64]; omega
      have hp := hfd
      clear hfd
      have hcl2 := hcl.out w2 hb2.out
      go_wp2_with fail
      refine hcl2.mono ?_
      rintro e w3 ⟨v, rfl, hv, hb3⟩
      replace hv := Kd.R_lower hv hb2.out.size
      obtain ⟨g, cap, rfl, _, _, _⟩ := Kd.R_form hv (by omega)
      have hb3' := Aside0.mk (hb2.out.trans (hb3.mono hb2.out.size))
      have hdel := hde.out w3 g cap i hv hb3'.out.size hil
      clear hv hb3
      go_wp2_with fail
      refine hdel.mono ?_
      rintro e w4 ⟨rfl, hR, hb4⟩
      go_wp2_with fail
      go_ret2
      refine ⟨.slice (some ⟨g, 0, none⟩) (l0.length - 1) cap, by rw [HE.out]; rfl, by rw [HE.out, ← HF.out]; exact hR, hb3'.out.trans hb4⟩
    | false =>
      have HE := Aside0.mk (show delE l0 q.toList = ([], 5) by unfold delE; rw [if_pos h0, ha]; rfl)
      have HA := Aside0.mk ha
      clear ha
      go_enter Try.func23, Try.ntmps23
      go_wp2_with fail
      refine hc.mono ?_
      rintro e w1 ⟨rfl, hb1⟩
      go_wp2_with fail
      refine (hfd.out w1 hb1).mono ?_
      rintro e w2 ⟨⟨i, hi, hp, rfl⟩, hb2⟩
      have hit := parted_hit G.out hi hp
      rw [hit, HA.out]
      clear hit hp
      go_wp2_with fail
      go_ret2
      exact ⟨.slice none 0 0, by rw [HE.out]; rfl, by rw [HE.out]; exact Kd.R_nil _ _ _ _ _, hb1.trans (hb2.mono hb1.size)⟩
  · have HE := Aside0.mk (show delE l0 q.toList = ([], 4) by unfold delE; rw [if_neg h0])
    have d0 : (checkE l0 == 0) = false := beq_eq_false_iff_ne.mpr h0
    have d1 : (checkE l0 != 0) = true := by simp [h0]
    generalize checkE l0 = x at hc d0 d1 h0
    clear hr0
    go_enter Try.func23, Try.ntmps23
    go_wp2_with (go_at_call 16; refine hc.mono ?_; rintro e w1 ⟨rfl, hb⟩)
    go_ret2
    exact ⟨.slice none 0 0, by rw [HE.out]; rfl, by rw [HE.out]; exact Kd.R_nil _ _ _ _ _, hb⟩

theorem files_Del.calls (A0 : Option Addr) (c0 : Nat) (l0 : List S33) (a1 : ByteArray) (r1 : List S33) (r2 : Int) (w : World) (hr0 : Kd.C k33 w A0 l0.length l0) (hc0 : l0.length ≤ c0) (h : files_Del.f l0 a1 = some (r1, r2)) :
    Calls Try.prog 23 #[.slice A0 l0.length c0, .string a1] w fun e w' => ∃ v0_ : Value, e = .returned (.tuple #[v0_, .int .i64 r2]) ∧ Kd.R k33 33 w' w.heap.size (fun _ => True) v0_ r1 ∧ Below w.heap.size w w' := by
  have H : delE l0 a1.toList = (r1, r2) := by simpa [files_Del.f] using h
  refine (Del_calls A0 c0 l0 a1 w hr0).mono ?_
  rintro e w' ⟨v, he, hv, hb⟩
  rw [H] at he hv
  exact ⟨v, he, hv, hb⟩

#print axioms files_Del.calls
end Go.Proofs.Ytgbkoeinfhlpoaa.F
