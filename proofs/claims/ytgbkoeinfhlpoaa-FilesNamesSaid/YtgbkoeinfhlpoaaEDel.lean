/- slices.Delete of one file out of a row of the call's own. -/
/- files.find: the place of a path in a tree, by halves. -/
/- files.Del. -/
import Derived.Test.YtgbkoeinfhlpoaaERow
import Derived.Test.YtgbkoeinfhlpoaaEIdx
import Derived.Test.YtgbkoeinfhlpoaaEWay
import Derived.Test.YtgbkoeinfhlpoaaELayA
namespace Go.Proofs.Ytgbkoeinfhlpoaa.F
open Go.RowKit Go.Shelf Go.Proofs Go.Proofs.YtgbkoeinfhlpoaaW.PrintWords Go.Proofs.YtgbkoeinfhlpoaaW.PrintLast Go.Proofs.YtgbkoeinfhlpoaaW.PrintMore
set_option linter.unusedVariables false
set_option linter.unusedSimpArgs false

set_option maxHeartbeats 4000000 in
set_option maxRecDepth 100000 in
theorem Delete_calls (base g cap : Nat) (i : Nat) (l : List S33) (w : World) (hr : Kd.R k33 33 w base (fun _ => True) (.slice (some ⟨g, 0, none⟩) l.length cap) l) (hbase : base ≤ w.heap.size) (hi : i < l.length) (hl : l.length ≤ 1000000) :
    Calls Try.prog 57 #[.slice (some ⟨g, 0, none⟩) l.length cap, .int .i64 i, .int .i64 ((i : Int) + 1)] w fun e w' => e = .returned (.slice (some ⟨g, 0, none⟩) (l.length - 1) cap) ∧ Kd.R k33 33 w' base (fun _ => True) (.slice (some ⟨g, 0, none⟩) (l.length - 1) cap) (l.eraseIdx i) ∧ Below base w w' := by
  have hu33 := Try.underlying33
  obtain ⟨hn, hcap, _⟩ := Kd.R_reads' hr
  have hel : (l.eraseIdx i).length = l.length - 1 := by rw [List.length_eraseIdx_of_lt hi]
  -- what comes behind the append
  have hclr : ∀ (W : World), Kd.R k33 33 W base (fun _ => True) (.slice (some ⟨g, 0, none⟩) (l.length - 1) cap) (l.eraseIdx i) → ∀ ty c, (Builtin.clear_ #[22] ty #[.slice (some ⟨g, (l.length - 1) * 2, none⟩) 1 c]).run Try.prog W = .ok (.tuple #[]) (W.setCells g ((l.length - 1) * 2) [.string ⟨#[]⟩, .string ⟨#[]⟩]) := by
    intro W hR ty c
    rcases of_R hR with ⟨h0, _⟩ | ⟨g', cap', cur, hv, hO⟩
    · cases h0
    · rw [hel] at hv
      injection hv with ha _ hc
      injection ha with ha
      injection ha with hg
      subst hg; subst hc
      exact clear33 W ty g _ c (fun j hj => hO.room _ (by omega)) (fun j hj => hO.plain _)
  have hend : ∀ (W : World), Kd.R k33 33 W base (fun _ => True) (.slice (some ⟨g, 0, none⟩) (l.length - 1) cap) (l.eraseIdx i) → Kd.R k33 33 (W.setCells g ((l.length - 1) * 2) [.string ⟨#[]⟩, .string ⟨#[]⟩]) base (fun _ => True) (.slice (some ⟨g, 0, none⟩) (l.length - 1) cap) (l.eraseIdx i) ∧ Below base W (W.setCells g ((l.length - 1) * 2) [.string ⟨#[]⟩, .string ⟨#[]⟩]) := by
    intro W hR
    rcases of_R hR with ⟨h0, _⟩ | ⟨g', cap', cur, hv, hO⟩
    · cases h0
    · rw [hel] at hv
      injection hv with ha _ hc
      injection ha with ha
      injection ha with hg
      subst hg; subst hc
      obtain ⟨cur', hO'⟩ := hO.put (l' := l.eraseIdx i) ((l.length - 1) * 2) [.string ⟨#[]⟩, .string ⟨#[]⟩] (by simp; omega) hO.len (by
        intro c hc ht
        rw [hel] at ht ⊢
        rw [List.append_assoc, List.take_left' (by rw [List.length_take, hc]; omega)]
        exact ht)
      refine ⟨?_, below_put hO.base _ _⟩
      have := R_of hO'
      rwa [hel] at this
  have HR := Aside0.mk hr
  have HC := Aside0.mk hclr
  have HE := Aside0.mk hend
  have hw1 : IntKind.i64.wrap ((i : Int) + 1) = (i : Int) + 1 := by rw [IntKind.wrap_i64]; omega
  have h1 : (0 : Int) ≤ (i : Int) + 1 := by omega
  have h2 : (i : Int) + 1 ≤ (l.length : Int) := by omega
  have h3 : ((i : Int) + 1).toNat = i + 1 := by omega
  have h4 : (l.length : Int) ≤ (cap : Int) := by omega
  have h5 : ¬ ((i : Int) = (i : Int) + 1) := by omega
  have h6 : (i : Int) ≤ (cap : Int) := by omega
  have h7 : (i : Int) ≤ (l.length : Int) := by omega
  have h8 : (i : Int) ≤ (i : Int) + 1 := by omega
  have h9 : ((l.length - 1 : Nat) : Int) ≤ (l.length : Int) := by omega
  have h10 : ¬ (cap = l.length - 1) := by omega
  have h11 : l.length - (l.length - 1) = 1 := by omega
  have mixed : Try.prog.follows Departure.mixedOrders = true := by kernel_rfl
  clear hr hclr hend
  go_enter Try.func57, Try.ntmps57
  go_wp2_with fail
  go_region_law_o (refine Kd.R_delete_step k33 (w0 := w) base rfl (.tmp 22) (.tmp 25) 22 33 rfl Try.underlying22 size33i (g := g) (n := l.length) (c := cap) (k := i) (m := l.length - (i + 1)) (c2 := cap - (i + 1)) (A := if cap = i + 1 then some ⟨g, 0, none⟩ else (some (⟨g, 0, none⟩ : Addr)).map (·.add ((i + 1) * 2))) (ok := fun _ => True) (xs := l) (by simp [Act.eval, Act.put]) (by simp [Act.eval, Act.put, Addr.add]) rfl rfl (Kd.R_drew HR.out) hi (pw_below_drewN (Below.refl _ _) 1) hbase ?_; intro w1 hR1 hB1 _)
  have hcl := HC.out w1 hR1
  obtain ⟨hE1, hE2⟩ := HE.out w1 hR1
  by_cases hci : cap = i + 1
  · subst hci
    go_wp2
    go_ret
    exact ⟨rfl, hE1, hB1.trans hE2⟩
  · go_wp2
    go_ret
    exact ⟨rfl, hE1, hB1.trans hE2⟩

#print axioms Delete_calls
end Go.Proofs.Ytgbkoeinfhlpoaa.F

namespace Go.Proofs.Ytgbkoeinfhlpoaa.F
open Go.RowKit Go.Shelf Go.Proofs.YtgbkoeinfhlpoaaW.PrintWords Go.Proofs.YtgbkoeinfhlpoaaW.PrintLast Go.Proofs.YtgbkoeinfhlpoaaW.PrintMore
set_option linter.unusedVariables false
set_option linter.unusedSimpArgs false

set_option maxHeartbeats 1000000 in
set_option maxRecDepth 100000 in
theorem cmp90 (x : S33) (q : ByteArray) (W : World) :
    Calls Try.prog 90 #[.agg #[.string x.f0, .string x.f1], .string q] W fun e w' => e = .returned (.int .i64 (Lib.compareBytes x.p q.toList)) ∧ Below W.heap.size W w' := by
  have hu33 := Try.underlying33
  have hw := Compare_calls x.f0 q (W.alloc (.cells #[.string x.f0, .string x.f1] 33))
  have hB0 : Below W.heap.size W (W.alloc (.cells #[.string x.f0, .string x.f1] 33)) := (Below.refl _ W).alloc (Nat.le_refl _) _
  unfold S33.p
  generalize Lib.compareBytes x.f0.toList q.toList = r at hw ⊢
  go_enter Try.func90, Try.ntmps90
  go_wp2_with fail
  refine hw.mono ?_
  rintro e w' ⟨rfl, rfl⟩
  go_wp2_with fail
  go_ret
  exact ⟨rfl, hB0⟩

theorem enters90 : ∀ args w, (callFunc 90 args).run Try.prog w = .ok (.enter 90 args) w := enters_of Try.func90 (by kernel_rfl) rfl

/-- How files stand to a path: less, up to a place; not less, from it on. -/
def Parted (l : List S33) (q : List UInt8) (a b : Nat) : Prop :=
  (∀ j, j < a → ltB (l.getD j z33).p q = true) ∧ (∀ j, b ≤ j → j < l.length → ltB (l.getD j z33).p q = false)

set_option maxHeartbeats 4000000 in
set_option maxRecDepth 100000 in
theorem BinarySearch_calls (A : Option Addr) (c : Nat) (l : List S33) (q : ByteArray) (w : World) (hr : Kd.C k33 w A l.length l) (hl : l.length ≤ 1000000)
    (hm : ∀ a b, a ≤ b → b < l.length → ltB (l.getD b z33).p q.toList = true → ltB (l.getD a z33).p q.toList = true) :
    Calls Try.prog 89 #[.slice A l.length c, .string q, .func (.func 90) #[] #[]] w fun e w' => (∃ i : Nat, i ≤ l.length ∧ Parted l q.toList i i ∧ e = .returned (.tuple #[.int .i64 i, .bool (decide (i < l.length) && ((l.getD i z33).p == q.toList))])) ∧ Below w.heap.size w w' := by
  have HR := Aside0.mk hr
  have HM := Aside0.mk hm
  have hu33 := Try.underlying33
  clear hr hm
  go_enter Try.func89, Try.ntmps89
  go_wp2
  go_loopg [9, 10, 11] (l.length + 1) (fun gg s9 s10 _ wr => ∃ i j : Nat, i ≤ j ∧ j ≤ l.length ∧ j - i ≤ gg ∧ s9 = .int .i64 i ∧ s10 = .int .i64 j ∧ Aside0 (Below w.heap.size w wr) ∧ Aside0 (Parted l q.toList i j))
  case atStart => exact ⟨0, l.length, by omega, by omega, by omega, rfl, rfl, ⟨Below.refl _ w⟩, ⟨fun j hj => by omega, fun j h1 h2 => by omega⟩⟩
  case round =>
    obtain ⟨i, j, hij, hjl, hg, rfl, rfl, HB, HP⟩ := hrel
    by_cases hlt : i < j
    · have hltz : (i : Int) < (j : Int) := by omega
      have hk : (i + j) / 2 < l.length := by omega
      have hz1 : (0 : Int) ≤ ((i : Int) + (j : Int)) / 2 := by omega
      have hz2 : ((i : Int) + (j : Int)) / 2 < (l.length : Int) := by omega
      obtain ⟨ad, e, hx0, hx1⟩ := at_T33 HR.out (((i + j) / 2 : Nat) : Int) (by omega) (by omega)
      cases e
      rw [getD_rd, Int.toNat_natCast] at hx0 hx1
      replace hx0 := (HB.out.cell (World.block_lt_of_cell? w _ hx0)).trans hx0
      replace hx1 := (HB.out.cell (World.block_lt_of_cell? w _ hx1)).trans hx1
      have hcmp := cmp90 (l.getD ((i + j) / 2) z33) q wr
      have hsp := cmp_spec (l.getD ((i + j) / 2) z33).p q.toList
      have HK := Aside0.mk (show i ≤ (i + j) / 2 ∧ (i + j) / 2 < j by omega)
      have HS := Aside0.mk hsp.1
      generalize hy : l.getD ((i + j) / 2) z33 = y at hx0 hx1 hcmp HS
      have HY := Aside0.mk hy
      clear hy hsp
      generalize Lib.compareBytes y.p q.toList = r at hcmp HS
      by_cases hr : r < 0
      · have hd : decide (r < 0) = true := decide_eq_true hr
        have HL := Aside0.mk (HS.out.mp hr)
        clear hr
        go_wp2_with (go_at_call 90; refine hcmp.mono ?_; rintro e w' ⟨rfl, hb'⟩)
        go_roundg (j - ((i + j) / 2 + 1))
        case measure => omega
        case rel =>
          refine ⟨(i + j) / 2 + 1, j, by have := HK.out; omega, hjl, by omega, (by have := HK.out; congr 1; (try simp only [wrap64]); try omega), rfl, ⟨HB.out.trans (hb'.mono HB.out.size)⟩, ⟨fun t ht => ?_, HP.out.2⟩⟩
          exact HM.out t ((i + j) / 2) (by omega) hk (by rw [HY.out]; exact HL.out)
      · have hd : decide (r < 0) = false := decide_eq_false hr
        have HL := Aside0.mk (show ltB y.p q.toList = false by
          cases hb : ltB y.p q.toList with
          | false => rfl
          | true => exact absurd (HS.out.mpr hb) hr)
        clear hr
        go_wp2_with (go_at_call 90; refine hcmp.mono ?_; rintro e w' ⟨rfl, hb'⟩)
        go_roundg ((i + j) / 2 - i)
        case measure => have := HK.out; omega
        case rel =>
          refine ⟨i, (i + j) / 2, HK.out.1, by omega, by omega, rfl, (by congr 1; try omega), ⟨HB.out.trans (hb'.mono HB.out.size)⟩, ⟨HP.out.1, fun t h1 h2 => ?_⟩⟩
          cases hb : ltB (l.getD t z33).p q.toList with
          | false => rfl
          | true =>
            have := HM.out ((i + j) / 2) t h1 h2 hb
            rw [HY.out, HL.out] at this
            cases this
    · have hltz : ¬ (i : Int) < (j : Int) := by omega
      have HE := Aside0.mk (show j = i by omega)
      by_cases hlt2 : i < l.length
      · have hlz : (i : Int) < (l.length : Int) := by omega
        obtain ⟨ad, e, hx0, hx1⟩ := at_T33 HR.out (i : Int) (by omega) (by omega)
        cases e
        rw [getD_rd, Int.toNat_natCast] at hx0 hx1
        replace hx0 := (HB.out.cell (World.block_lt_of_cell? w _ hx0)).trans hx0
        replace hx1 := (HB.out.cell (World.block_lt_of_cell? w _ hx1)).trans hx1
        have hcmp := cmp90 (l.getD i z33) q wr
        have HS := Aside0.mk (cmp_spec (l.getD i z33).p q.toList).2
        generalize hy : l.getD i z33 = y at hx0 hx1 hcmp HS
        have HY := Aside0.mk hy
        clear hy
        generalize Lib.compareBytes y.p q.toList = r at hcmp HS
        have hrb : (r == 0) = (y.p == q.toList) := by
          rw [Bool.eq_iff_iff, beq_iff_eq, beq_iff_eq]
          exact HS.out
        have HRB := Aside0.mk hrb
        clear hrb
        generalize hrr : (r == 0) = b at HRB
        go_wp2_with (go_at_call 90; refine hcmp.mono ?_; rintro e w' ⟨rfl, hb'⟩)
        go_ret2
        refine ⟨⟨i, by omega, ⟨HP.out.1, fun t h1 h2 => HP.out.2 t (by have := HE.out; omega) h2⟩, ?_⟩, HB.out.trans (hb'.mono HB.out.size)⟩
        rw [HY.out, ← HRB.out, decide_eq_true hlt2]
        rfl
      · have hlz : ¬ (i : Int) < (l.length : Int) := by omega
        go_wp2
        go_ret2
        refine ⟨⟨i, by omega, ⟨HP.out.1, fun t h1 h2 => by omega⟩, ?_⟩, HB.out⟩
        rw [decide_eq_false hlt2]
        rfl

set_option maxHeartbeats 1000000 in
set_option maxRecDepth 100000 in
theorem find_calls (A : Option Addr) (c : Nat) (l : List S33) (q : ByteArray) (w : World) (hr : Kd.C k33 w A l.length l) (hl : l.length ≤ 1000000)
    (hm : ∀ a b, a ≤ b → b < l.length → ltB (l.getD b z33).p q.toList = true → ltB (l.getD a z33).p q.toList = true) :
    Calls Try.prog 55 #[.slice A l.length c, .string q] w fun e w' => (∃ i : Nat, i ≤ l.length ∧ Parted l q.toList i i ∧ e = .returned (.tuple #[.int .i64 i, .bool (decide (i < l.length) && ((l.getD i z33).p == q.toList))])) ∧ Below w.heap.size w w' := by
  have hb := BinarySearch_calls A c l q w hr hl hm
  have HM := Aside0.mk hm
  clear hm hr
  go_enter Try.func55, Try.ntmps55
  go_wp2_with fail
  refine hb.mono ?_
  rintro e w' ⟨⟨i, hi, hp, rfl⟩, hbw⟩
  have HP := Aside0.mk hp
  clear hp
  generalize hv : (decide (i < l.length) && ((l.getD i z33).p == q.toList)) = b
  have HV := Aside0.mk hv
  clear hv
  go_wp2_with fail
  go_ret2
  exact ⟨⟨i, hi, HP.out, by rw [HV.out]; rfl⟩, hbw⟩

#print axioms find_calls
end Go.Proofs.Ytgbkoeinfhlpoaa.F

namespace Go.Proofs.Ytgbkoeinfhlpoaa.F
open Go.RowKit Go.Shelf Go.Proofs.YtgbkoeinfhlpoaaW.PrintWords Go.Proofs.YtgbkoeinfhlpoaaW.PrintLast Go.Proofs.YtgbkoeinfhlpoaaW.PrintMore
set_option linter.unusedVariables false
set_option linter.unusedSimpArgs false

theorem good_mono {l : List S33} (G : Good l) (q : List UInt8) : ∀ a b, a ≤ b → b < l.length → ltB (l.getD b z33).p q = true → ltB (l.getD a z33).p q = true := by
  intro a b hab hb h
  rcases Nat.eq_or_lt_of_le hab with rfl | hab
  · exact h
  · have := List.pairwise_iff_getElem.mp (rising_pair l G.rising) a b (by omega) hb hab
    rw [List.getD_eq_getElem?_getD, List.getElem?_eq_getElem (by omega)] at h ⊢
    exact ltB_trans this h

/-- Where the halving ends, the path stands at its place or nowhere. -/
theorem parted_hit {l : List S33} (G : Good l) {q : List UInt8} {i : Nat} (hi : i ≤ l.length) (hp : Parted l q i i) :
    (decide (i < l.length) && ((l.getD i z33).p == q)) = l.any (fun g => g.p == q) := by
  have far : ∀ j, j < l.length → (l.getD j z33).p = q → j = i := by
    intro j hj he
    rcases Nat.lt_trichotomy j i with h | h | h
    · have := hp.1 j h
      rw [he, ltB_irrefl] at this; cases this
    · exact h
    · have h1 := hp.2 i (Nat.le_refl _) (by omega)
      have := List.pairwise_iff_getElem.mp (rising_pair l G.rising) i j (by omega) hj h
      rw [List.getD_eq_getElem?_getD, List.getElem?_eq_getElem hj] at he
      rw [List.getD_eq_getElem?_getD, List.getElem?_eq_getElem (by omega)] at h1
      simp only [Option.getD_some] at he h1
      rw [he, h1] at this; cases this
  cases ha : l.any (fun g => g.p == q) with
  | true =>
    obtain ⟨x, hx, hxe⟩ := List.any_eq_true.mp ha
    obtain ⟨j, hj, rfl⟩ := List.mem_iff_getElem.mp hx
    have he : (l.getD j z33).p = q := by rw [List.getD_eq_getElem?_getD, List.getElem?_eq_getElem hj]; simpa using hxe
    obtain rfl := far j hj he
    rw [decide_eq_true hj, Bool.true_and]
    exact beq_iff_eq.mpr he
  | false =>
    rw [List.any_eq_false] at ha
    by_cases hil : i < l.length
    · have := ha (l.getD i z33) (by simp [hil])
      simp only [decide_eq_true hil, Bool.true_and]
      simpa using this
    · simp [hil]

theorem erase_filter : ∀ {l : List S33} {q : List UInt8} {i : Nat} (hi : i < l.length) (hd : l.Pairwise (fun f g => f.p ≠ g.p)) (he : (l.getD i z33).p = q), l.eraseIdx i = l.filter (fun g => g.p != q)
  | [], q, i, hi, _, _ => by cases hi
  | x :: t, q, 0, hi, hd, he => by
    simp only [List.getD_cons_zero] at he
    rw [List.eraseIdx_cons_zero, List.filter_cons_of_neg (by simp [he]), List.filter_eq_self.mpr]
    intro y hy
    have := List.rel_of_pairwise_cons hd hy
    rw [he] at this
    simpa using this.symm
  | x :: t, q, i + 1, hi, hd, he => by
    simp only [List.getD_cons_succ] at he
    have hi' : i < t.length := by simpa using hi
    rw [List.eraseIdx_cons_succ, erase_filter hi' hd.tail he, List.filter_cons_of_pos]
    have := List.rel_of_pairwise_cons hd (a' := t.getD i z33) (by simp [hi'])
    rw [he] at this
    simpa using this

theorem good_apart {l : List S33} (G : Good l) : l.Pairwise (fun f g => f.p ≠ g.p) :=
  (rising_pair l G.rising).imp (fun h e => by rw [e, ltB_irrefl] at h; cases h)

set_option maxHeartbeats 2000000 in
set_option maxRecDepth 100000 in
theorem Del_calls (A0 : Option Addr) (c0 : Nat) (l0 : List S33) (q : ByteArray) (w : World) (hr0 : Kd.C k33 w A0 l0.length l0) :
    Calls Try.prog 23 #[.slice A0 l0.length c0, .string q] w fun e w' => ∃ v : Value, e = .returned (.tuple #[v, .int .i64 (delE l0 q.toList).2]) ∧ Kd.R k33 33 w' w.heap.size (fun _ => True) v (delE l0 q.toList).1 ∧ Below w.heap.size w w' := by
  have hu33 := Try.underlying33
  have hc := Check_calls A0 c0 l0 w hr0
  by_cases h0 : checkE l0 = 0
  · have G := Aside0.mk (good_of h0)
    rw [h0] at hc
    have hlen : l0.length ≤ 1000000 := by have := G.out.len; omega
    have hfd := Aside0.mk (fun (W : World) (hb : Below w.heap.size w W) => find_calls A0 c0 l0 q W (Kd.C_below hr0 hb) hlen (good_mono G.out q.toList))
    have hcl := Aside0.mk (fun (W : World) (hb : Below w.heap.size w W) => Clone_calls A0 c0 l0 W (Kd.C_below hr0 hb) hlen)
    have hde := Aside0.mk (fun (W : World) (g cap i : Nat) (hR : Kd.R k33 33 W w.heap.size (fun _ => True) (.slice (some ⟨g, 0, none⟩) l0.length cap) l0) (hb : w.heap.size ≤ W.heap.size) (hi : i < l0.length) => Delete_calls w.heap.size g cap i l0 W hR hb hi hlen)
    clear hr0
    cases ha : l0.any (fun g => g.p == q.toList) with
    | true =>
      have HE := Aside0.mk (show delE l0 q.toList = (l0.filter (fun g => g.p != q.toList), 0) by unfold delE; rw [if_pos h0, ha]; rfl)
      have HA := Aside0.mk ha
      clear ha
      go_enter Try.func23, Try.ntmps23
      go_wp2_with fail
      refine hc.mono ?_
      rintro e w1 ⟨rfl, hb1⟩
      go_wp2_with fail
      refine (hfd.out w1 hb1).mono ?_
      rintro e w2 ⟨⟨i, hi, hp, rfl⟩, hb2⟩
      have hit := parted_hit G.out hi hp
      rw [hit, HA.out]
      have hil : i < l0.length ∧ (l0.getD i z33).p = q.toList := by
        rw [HA.out, Bool.and_eq_true, decide_eq_true_eq, beq_iff_eq] at hit
        exact hit
      have HF := Aside0.mk (erase_filter hil.1 (good_apart G.out) hil.2)
      obtain ⟨hil, _⟩ := hil
      clear hit hp
      replace hb2 := Aside0.mk (hb1.trans (hb2.mono hb1.size))
      have hw1 : IntKind.i64.wrap ((i : Int) + 1) = (i : Int) + 1 := by have := G.out.len; rw [IntKind.wrap_i64]; omega
      have hp := hfd
      clear hfd
      have hcl2 := hcl.out w2 hb2.out
      go_wp2_with fail
      refine hcl2.mono ?_
      rintro e w3 ⟨v, rfl, hv, hb3⟩
      replace hv := Kd.R_lower hv hb2.out.size
      obtain ⟨g, cap, rfl, _, _, _⟩ := Kd.R_form hv (by omega)
      have hb3' := Aside0.mk (hb2.out.trans (hb3.mono hb2.out.size))
      have hdel := hde.out w3 g cap i hv hb3'.out.size hil
      clear hv hb3
      go_wp2_with fail
      refine hdel.mono ?_
      rintro e w4 ⟨rfl, hR, hb4⟩
      go_wp2_with fail
      go_ret2
      refine ⟨.slice (some ⟨g, 0, none⟩) (l0.length - 1) cap, by rw [HE.out]; rfl, by rw [HE.out, ← HF.out]; exact hR, hb3'.out.trans hb4⟩
    | false =>
      have HE := Aside0.mk (show delE l0 q.toList = ([], 5) by unfold delE; rw [if_pos h0, ha]; rfl)
      have HA := Aside0.mk ha
      clear ha
      go_enter Try.func23, Try.ntmps23
      go_wp2_with fail
      refine hc.mono ?_
      rintro e w1 ⟨rfl, hb1⟩
      go_wp2_with fail
      refine (hfd.out w1 hb1).mono ?_
      rintro e w2 ⟨⟨i, hi, hp, rfl⟩, hb2⟩
      have hit := parted_hit G.out hi hp
      rw [hit, HA.out]
      clear hit hp
      go_wp2_with fail
      go_ret2
      exact ⟨.slice none 0 0, by rw [HE.out]; rfl, by rw [HE.out]; exact Kd.R_nil _ _ _ _ _, hb1.trans (hb2.mono hb1.size)⟩
  · have HE := Aside0.mk (show delE l0 q.toList = ([], 4) by unfold delE; rw [if_neg h0])
    have d0 : (checkE l0 == 0) = false := beq_eq_false_iff_ne.mpr h0
    have d1 : (checkE l0 != 0) = true := by simp [h0]
    generalize checkE l0 = x at hc d0 d1 h0
    clear hr0
    go_enter Try.func23, Try.ntmps23
    go_wp2_with (go_at_call 16; refine hc.mono ?_; rintro e w1 ⟨rfl, hb⟩)
    go_ret2
    exact ⟨.slice none 0 0, by rw [HE.out]; rfl, by rw [HE.out]; exact Kd.R_nil _ _ _ _ _, hb⟩

theorem files_Del.calls (A0 : Option Addr) (c0 : Nat) (l0 : List S33) (a1 : ByteArray) (r1 : List S33) (r2 : Int) (w : World) (hr0 : Kd.C k33 w A0 l0.length l0) (hc0 : l0.length ≤ c0) (h : files_Del.f l0 a1 = some (r1, r2)) :
    Calls Try.prog 23 #[.slice A0 l0.length c0, .string a1] w fun e w' => ∃ v0_ : Value, e = .returned (.tuple #[v0_, .int .i64 r2]) ∧ Kd.R k33 33 w' w.heap.size (fun _ => True) v0_ r1 ∧ Below w.heap.size w w' := by
  have H : delE l0 a1.toList = (r1, r2) := by simpa [files_Del.f] using h
  refine (Del_calls A0 c0 l0 a1 w hr0).mono ?_
  rintro e w' ⟨v, he, hv, hb⟩
  rw [H] at he hv
  exact ⟨v, he, hv, hb⟩

#print axioms files_Del.calls
end Go.Proofs.Ytgbkoeinfhlpoaa.F
