-- printed by a program of this session (a turned copy of the kit's printing program) out of the translation: not trusted, Lean checks it
/- pack.alike's number, and the parts of a text: plain. -/
/- pack.runs: the iterator over a text's parts hands on what partsR says, one by one. -/
/- A region within a round of a range over a function, by what is shown of it outside rounds: no premise of the program's. -/
/- pack.Runs: data as runs. -/
import Derived.Test.YtgbkoeinfhlpoaaFx0
import Derived.Test.YtgbkoeinfhlpoaaELayN
import Derived.Test.YtgbkoeinfhlpoaaEPath
import Derived.OrdersIn
import Derived.RangeFuncCalls
import Derived.TacticsIn
import Derived.Test.YtgbkoeinfhlpoaaFx7
namespace Go.Proofs.Ytgbkoeinfhlpoaa.F
open Go.RowKit Go.Proofs.YtgbkoeinfhlpoaaW.PrintWords Go.Proofs.YtgbkoeinfhlpoaaW.PrintLast Go.Proofs.YtgbkoeinfhlpoaaW.PrintMore
attribute [local go_sem] max2_int min2_int max_two min_two max_three min_three max_four min_four   -- for this text's walks alone
set_option linter.unusedVariables false
set_option linter.unusedSimpArgs false

/-! ### pack_alike: function 100 -/
def pack_alike.l0 : Nat → ByteArray → Int → Option (Int)
  | 0, _, _ => none
  | k + 1, x0, x3 => if x3 < (mn (x0.size : Int) 1000) then (if 0 ≤ x3 then (if x3 < (x0.size : Int) then (if 0 < (x0.size : Int) then (if (bt x0 x3) = (bt x0 0) then (pack_alike.l0 k x0 (wrap64 (x3 + 1))) else (some x3)) else (none)) else (none)) else (none)) else (some x3)
def pack_alike.f (k : Nat) (a0 : ByteArray) : Option (Int) := pack_alike.l0 k a0 0
theorem pack_alike.mono_l : ∀ k, (∀ y0 y1, LeO (pack_alike.l0 k y0 y1) (pack_alike.l0 (k + 1) y0 y1))
  | 0 => fun _ _ r h => by simp [pack_alike.l0] at h
  | k + 1 => by
    have ih0 := pack_alike.mono_l k
    · intro y0 y1
      unfold pack_alike.l0
      repeat' first
      | (with_reducible exact ih0 _ _)
      | (with_reducible exact LeO.refl _)
      | (with_reducible exact LeO.none _)
      | (with_reducible refine LeO.ite ?_ ?_)
      | (with_reducible refine LeO.bind ?_ (fun _ => ?_))
      | exact ih0 _ _
      | exact LeO.none _
      | refine LeO.ite ?_ ?_
      | refine LeO.bind ?_ (fun _ => ?_)
theorem pack_alike.mono : ∀ a0 k, LeO (pack_alike.f k a0) (pack_alike.f (k + 1) a0) := by
  intro a0 k
  have ih0 := pack_alike.mono_l k
  unfold pack_alike.f
  repeat' first
      | (with_reducible exact ih0 _ _)
      | (with_reducible exact LeO.refl _)
      | (with_reducible exact LeO.none _)
      | (with_reducible refine LeO.ite ?_ ?_)
      | (with_reducible refine LeO.bind ?_ (fun _ => ?_))
      | exact ih0 _ _
      | exact LeO.none _
      | refine LeO.ite ?_ ?_
      | refine LeO.bind ?_ (fun _ => ?_)
set_option maxHeartbeats 8000000 in
set_option maxRecDepth 100000 in
theorem pack_alike.calls (k : Nat) (a0 : ByteArray) (r : Int) (w : World) (h : pack_alike.f k a0 = some r) :
    Calls Try.prog 100 #[.string a0] w fun e w' => e = .returned (.int .i64 r) ∧ Below w.heap.size w w' := by
  have HB := Aside0.mk (Below.refl w.heap.size w)
  have H : (pack_alike.l0 k a0 0) = some r := h
  clear h
  have H' := Aside0.mk H
  clear H
  go_enter Try.func100, Try.ntmps100
  go_wp2
  repeat (go_quiet (fail); try go_wp2)
  go_loopg [3] k (fun kq v3 w' => ∃ (x3_1 : Int), v3 = .int .i64 x3_1 ∧ Aside0 (pack_alike.l0 kq a0 x3_1 = some r) ∧ Aside0 (kq ≤ k) ∧ Aside0 (Below w.heap.size w w'))
  case atStart => exact ⟨(0), (by first | rfl | (simp; done) | (simp [*]; done)), H', ⟨Nat.le_refl _⟩, ⟨by repeat (first | (with_reducible first | exact HB.out | apply below_alloc | apply pw_below_drewN | apply below_drew1) | exact HB.out)⟩⟩
  case round =>
    clear H'
    try clear c1
    obtain ⟨x3_1, rfl, HA, HK1, HB⟩ := hrel
    cases gk with
    | zero => exact absurd HA.out (by simp [pack_alike.l0])
    | succ k1 =>
      have H := HA.out
      clear HA
      simp only [pack_alike.l0] at H
      obtain ⟨ji2, hji2⟩ : ∃ j_ : Int, (mn (a0.size : Int) 1000) = j_ := ⟨_, rfl⟩
      replace H : (if x3_1 < (ji2) then (if 0 ≤ x3_1 then (if x3_1 < (a0.size : Int) then (if 0 < (a0.size : Int) then (if (bt a0 x3_1) = (bt a0 0) then (pack_alike.l0 k1 a0 (wrap64 (x3_1 + 1))) else (some x3_1)) else (none)) else (none)) else (none)) else (some x3_1)) = some r := by first | (rw [hji2] at H; exact H) | (simp only [hji2] at H ⊢; exact H)
      have hji2_ : (if 1000 < (a0.size : Int) then 1000 else (a0.size : Int)) = ji2 := hji2
      by_cases c3 : x3_1 < (ji2)
      · rw [if_pos c3] at H
        have c3b0 : decide (x3_1 < (ji2)) = true := decide_eq_true c3
        clear c3
        by_cases c4 : 0 ≤ x3_1
        · rw [if_pos c4] at H
          have c4b0 : decide (0 ≤ x3_1) = true := decide_eq_true c4
          clear c4
          by_cases c5 : x3_1 < (a0.size : Int)
          · rw [if_pos c5] at H
            have c5b0 : decide (x3_1 < (a0.size : Int)) = true := decide_eq_true c5
            clear c5
            by_cases c7 : 0 < (a0.size : Int)
            · rw [if_pos c7] at H
              have c7b0 : decide (0 < (a0.size : Int)) = true := decide_eq_true c7
              have c7b1 : decide (0 < a0.size) = true := decide_eq_true (by omega)
              clear c7
              by_cases c9 : (bt a0 x3_1) = (bt a0 0)
              · rw [if_pos c9] at H
                have c9b0 : ((bt a0 x3_1) == (bt a0 0)) = true := beq_iff_eq.mpr c9
                have c9b1 : ((bt a0 x3_1) != (bt a0 0)) = false := bne_eq_false_iff_eq.mpr c9
                clear c9
                have H' := Aside0.mk H
                clear H
                have p6 : 0 ≤ (x3_1 : Int) := of_decide_eq_true (by first | (with_reducible assumption) | assumption)
                have q6 : x3_1 < (a0.size : Int) := of_decide_eq_true (by first | (with_reducible assumption) | assumption)
                have hx6 := bt_at a0 x3_1
                replace p6 := eq_true p6
                replace q6 := eq_true q6
                have p8 : 0 ≤ (0 : Int) := (by omega)
                have q8 : 0 < a0.size := (by have : (0 : Int) < (a0.size : Int) := of_decide_eq_true (by first | (with_reducible assumption) | assumption); omega)
                have hx8 : ∀ h : 0 < a0.size, ((a0[0]'h).toNat : Int) = bt a0 0 := bt_at a0 0
                clear p8
                have qi8 : (0 < (a0.size : Int)) = True := eq_true (of_decide_eq_true (by first | (with_reducible assumption) | assumption))
                replace q8 := eq_true q8
                go_wp2
                repeat (go_quiet (fail); try go_wp2)
                go_roundg k1
                case measure => have := HK1.out; omega
                case rel => exact ⟨(wrap64 (x3_1 + 1)), (by first | rfl | (simp; done) | (simp [*]; done)), H', ⟨by have := HK1.out; omega⟩, ⟨by repeat (first | (with_reducible first | exact HB.out | apply below_alloc | apply pw_below_drewN | apply below_drew1) | exact HB.out)⟩⟩
              · rw [if_neg c9] at H
                have c9b0 : ((bt a0 x3_1) == (bt a0 0)) = false := beq_eq_false_iff_ne.mpr c9
                have c9b1 : ((bt a0 x3_1) != (bt a0 0)) = true := bne_iff_ne.mpr c9
                obtain rfl := Option.some.inj H
                have p6 : 0 ≤ (x3_1 : Int) := of_decide_eq_true (by first | (with_reducible assumption) | assumption)
                have q6 : x3_1 < (a0.size : Int) := of_decide_eq_true (by first | (with_reducible assumption) | assumption)
                have hx6 := bt_at a0 x3_1
                replace p6 := eq_true p6
                replace q6 := eq_true q6
                have p8 : 0 ≤ (0 : Int) := (by omega)
                have q8 : 0 < a0.size := (by have : (0 : Int) < (a0.size : Int) := of_decide_eq_true (by first | (with_reducible assumption) | assumption); omega)
                have hx8 : ∀ h : 0 < a0.size, ((a0[0]'h).toNat : Int) = bt a0 0 := bt_at a0 0
                clear p8
                have qi8 : (0 < (a0.size : Int)) = True := eq_true (of_decide_eq_true (by first | (with_reducible assumption) | assumption))
                replace q8 := eq_true q8
                go_wp2
                repeat (go_quiet (fail); try go_wp2)
                go_ret
                exact ⟨by first | rfl | (simp [errW_none, errW_some] <;> rfl) | (simp only [← hji2]; first | rfl | (simp [errW_none, errW_some] <;> rfl)) | (simp [*, errW_none, errW_some] <;> rfl), by repeat (first | (with_reducible first | exact HB.out | apply below_alloc | apply pw_below_drewN | apply below_drew1) | exact HB.out)⟩
            · rw [if_neg c7] at H
              exact absurd H (by simp)
          · rw [if_neg c5] at H
            exact absurd H (by simp)
        · rw [if_neg c4] at H
          exact absurd H (by simp)
      · rw [if_neg c3] at H
        have c3b0 : decide (x3_1 < (ji2)) = false := decide_eq_false c3
        clear c3
        obtain rfl := Option.some.inj H
        go_wp2
        repeat (go_quiet (fail); try go_wp2)
        go_ret
        exact ⟨by first | rfl | (simp [errW_none, errW_some] <;> rfl) | (simp only [← hji2]; first | rfl | (simp [errW_none, errW_some] <;> rfl)) | (simp [*, errW_none, errW_some] <;> rfl), by repeat (first | (with_reducible first | exact HB.out | apply below_alloc | apply pw_below_drewN | apply below_drew1) | exact HB.out)⟩

end Go.Proofs.Ytgbkoeinfhlpoaa.F

namespace Go.Proofs.Ytgbkoeinfhlpoaa.F
open Go.RowKit Go.Proofs.YtgbkoeinfhlpoaaW.PrintWords Go.Proofs.YtgbkoeinfhlpoaaW.PrintLast Go.Proofs.YtgbkoeinfhlpoaaW.PrintMore
set_option linter.unusedVariables false
set_option linter.unusedSimpArgs false

theorem alikeF_spec : ∀ (k : Nat) (c : UInt8) (l : List UInt8), (∀ i, i < alikeF k c l → l[i]? = some c) ∧ (alikeF k c l = k ∨ l[alikeF k c l]? ≠ some c)
  | 0, c, l => ⟨fun i h => absurd h (by simp [alikeF]), .inl rfl⟩
  | k + 1, c, [] => ⟨fun i h => absurd h (by simp [alikeF]), .inr (by simp)⟩
  | k + 1, c, x :: t => by
    obtain ⟨h1, h2⟩ := alikeF_spec k c t
    unfold alikeF
    by_cases hx : x = c
    · rw [if_pos hx]
      refine ⟨fun i hi => ?_, ?_⟩
      · cases i with
        | zero => simp [hx]
        | succ i => simpa using h1 i (by omega)
      · rcases h2 with h2 | h2
        · exact .inl (by omega)
        · exact .inr (by simpa using h2)
    · rw [if_neg hx]
      exact ⟨fun i hi => by omega, .inr (by simpa using hx)⟩

def alikeB (s : ByteArray) : Nat := alikeL s.data.toList
def gapB (s : ByteArray) : Nat := gapL s.data.toList

theorem bt_get (s : ByteArray) (j : Nat) (c : UInt8) (h : s.data.toList[j]? = some c) : bt s (j : Int) = (c.toNat : Int) := by
  have hj : j < s.data.toList.length := (List.getElem?_eq_some_iff.1 h).1
  rw [← Lib.size_eq] at hj
  unfold bt
  rw [dif_pos (by simpa using hj)]
  obtain ⟨h1, h2⟩ := List.getElem?_eq_some_iff.1 h
  rw [← h2]
  rfl
theorem bt_lt (s : ByteArray) (j : Nat) (h : j < s.size) : ∃ c, s.data.toList[j]? = some c ∧ bt s (j : Int) = (c.toNat : Int) := by
  rw [Lib.size_eq] at h
  exact ⟨_, List.getElem?_eq_getElem h, bt_get s j _ (List.getElem?_eq_getElem h)⟩

theorem alike_l0 (s : ByteArray) (hs : s.size ≤ 140737488351232) : ∀ (d k j : Nat), alikeB s - j = d → j ≤ alikeB s → d < k → pack_alike.l0 k s (j : Int) = some (alikeB s : Int) := by
  intro d
  induction d with
  | zero =>
    intro k j hd hj hk
    obtain rfl : j = alikeB s := by omega
    obtain ⟨k, rfl⟩ : ∃ m, k = m + 1 := ⟨k - 1, by omega⟩
    simp only [pack_alike.l0]
    by_cases h1 : ((alikeB s : Nat) : Int) < mn (s.size : Int) 1000
    · rw [if_pos h1]
      have hlt : alikeB s < s.size ∧ alikeB s < 1000 := by unfold mn at h1; split at h1 <;> omega
      rw [if_pos (by omega), if_pos (by omega), if_pos (by omega), if_neg]
      obtain ⟨c, hc, hb⟩ := bt_lt s (alikeB s) hlt.1
      obtain ⟨c0, hc0, hb0⟩ := bt_lt s 0 (by omega)
      have hb0' : bt s 0 = (c0.toNat : Int) := hb0
      rw [hb, hb0']
      intro he
      have hcc : c = c0 := UInt8.toNat_inj.mp (by omega)
      unfold alikeB alikeL at *
      cases hl : s.data.toList with
      | nil => rw [hl] at hc0; simp at hc0
      | cons x t =>
        rw [hl] at hc hc0 hlt
        simp only at hc hlt
        have hx : x = c0 := by simpa using hc0
        subst hx
        rcases (alikeF_spec 1000 x (x :: t)).2 with h | h
        · omega
        · rw [hc, hcc] at h; exact h rfl
    · rw [if_neg h1]
  | succ d ih =>
    intro k j hd hj hk
    obtain ⟨k, rfl⟩ : ∃ m, k = m + 1 := ⟨k - 1, by omega⟩
    have hle := alikeL_le s.data.toList
    have hsz := Lib.size_eq s
    have hja : j < alikeB s := by omega
    have hj1 : j < s.size ∧ j < 1000 := by unfold alikeB at *; omega
    simp only [pack_alike.l0]
    rw [if_pos (by unfold mn; split <;> omega), if_pos (by omega), if_pos (by omega), if_pos (by omega), if_pos]
    · have hw : wrap64 ((j : Int) + 1) = ((j + 1 : Nat) : Int) := by unfold wrap64; omega
      rw [hw]
      exact ih k (j + 1) (by omega) (by omega) (by omega)
    · unfold alikeB alikeL at hja
      cases hl : s.data.toList with
      | nil => rw [hl] at hja; simp at hja
      | cons x t =>
        rw [hl] at hja
        simp only at hja
        have h1 := (alikeF_spec 1000 x (x :: t)).1 j hja
        rw [bt_get s j x (by rw [hl]; exact h1)]
        have h0 : bt s 0 = (x.toNat : Int) := bt_get s 0 x (by rw [hl]; rfl)
        rw [h0]

theorem alike_calls (s : ByteArray) (hs : s.size ≤ 140737488351232) (w : World) : Calls Try.prog 100 #[.string s] w fun e w' => e = .returned (.int .i64 (alikeB s)) ∧ Below w.heap.size w w' := by
  refine pack_alike.calls (alikeB s + 1) s _ w ?_
  unfold pack_alike.f
  exact alike_l0 s hs (alikeB s) _ 0 (by omega) (by omega) (by omega)

/-- The parts of a text, and whether each is a run. -/
def partsR : Nat → ByteArray → List (ByteArray × Bool)
  | 0, _ => []
  | k + 1, s => if s.size = 0 then [] else
    if 4 ≤ alikeB s then (s.extract 0 (alikeB s), true) :: partsR k (s.extract (alikeB s) s.size)
    else (s.extract 0 (gapB s), false) :: partsR k (s.extract (gapB s) s.size)

theorem alikeB_le (s : ByteArray) : alikeB s ≤ s.size := by
  have := (alikeL_le s.data.toList).1
  rw [← Lib.size_eq] at this
  exact this
theorem gapB_le (s : ByteArray) : gapB s ≤ s.size := by
  have := gapL_le s.data.toList
  rw [← Lib.size_eq] at this
  exact this
theorem gapB_pos (s : ByteArray) (h : s.size ≠ 0) (ha : alikeB s < 4) : 1 ≤ gapB s := by
  unfold gapB alikeB at *
  cases hl : s.data.toList with
  | nil => rw [Lib.size_eq, hl] at h; simp at h
  | cons c t => rw [hl] at ha; exact gapL_pos ha
theorem gapL_go : ∀ (l : List UInt8) (j : Nat), j < gapL l → alikeL (l.drop j) < 4 ∧ j < l.length
  | [], j, h => by simp [gapL] at h
  | c :: t, j, h => by
    unfold gapL at h
    by_cases h4 : alikeL (c :: t) < 4
    · rw [if_pos h4] at h
      cases j with
      | zero => exact ⟨by simpa using h4, by simp⟩
      | succ j =>
        have := gapL_go t j (by omega)
        exact ⟨by simpa using this.1, by simp; omega⟩
    · rw [if_neg h4] at h; omega
theorem gapL_end (l : List UInt8) : gapL l = l.length ∨ 4 ≤ alikeL (l.drop (gapL l)) := by
  rcases gapL_stop' l with h | h
  · exact .inl (by have := gapL_le l; rw [List.drop_eq_nil_iff] at h; omega)
  · exact .inr h
where
  gapL_stop' : ∀ (s : List UInt8), s.drop (gapL s) = [] ∨ 4 ≤ alikeL (s.drop (gapL s))
    | [] => .inl (by simp [gapL])
    | c :: t => by
      have := gapL_stop' t
      unfold gapL
      by_cases h : alikeL (c :: t) < 4
      · rw [if_pos h, List.drop_succ_cons]; exact this
      · rw [if_neg h, List.drop_zero]; exact .inr (by omega)
theorem drop_list (s : ByteArray) (j : Nat) : (s.extract j s.size).data.toList = s.data.toList.drop j := by
  rw [Lib.extract_data, List.take_of_length_le (by rw [List.length_drop, ← Lib.size_eq]; omega)]
theorem gapB_go (s : ByteArray) (j : Nat) (h : j < gapB s) : alikeB (s.extract j s.size) < 4 ∧ j < s.size := by
  have := gapL_go s.data.toList j h
  rw [← Lib.size_eq] at this
  unfold alikeB
  rw [drop_list]
  exact this
theorem gapB_end (s : ByteArray) : gapB s = s.size ∨ 4 ≤ alikeB (s.extract (gapB s) s.size) := by
  have := gapL_end s.data.toList
  rw [← Lib.size_eq] at this
  unfold alikeB
  rw [drop_list]
  exact this

theorem partsR_more : ∀ (k j : Nat) (s : ByteArray), s.size < k → s.size < j → partsR k s = partsR j s
  | 0, _, _, h, _ => by omega
  | _ + 1, 0, _, _, h => by omega
  | k + 1, j + 1, s, hk, hj => by
    unfold partsR
    by_cases h : s.size = 0
    · rw [if_pos h, if_pos h]
    · rw [if_neg h, if_neg h]
      by_cases h4 : 4 ≤ alikeB s
      · rw [if_pos h4, if_pos h4]
        have hs : (s.extract (alikeB s) s.size).size = s.size - alikeB s := size_ext _ _ _ (Nat.le_refl _)
        rw [partsR_more k j _ (by omega) (by omega)]
      · rw [if_neg h4, if_neg h4]
        have hg := gapB_pos s h (by omega)
        have hs : (s.extract (gapB s) s.size).size = s.size - gapB s := size_ext _ _ _ (Nat.le_refl _)
        rw [partsR_more k j _ (by omega) (by omega)]

/-- What a part is told as. -/
def tellB (p : ByteArray × Bool) : List UInt8 := if p.2 = true then cntB (2 * p.1.size + 1) ++ [p.1.data.toList.headD 0] else cntB (2 * p.1.size) ++ p.1.data.toList
theorem partsR_runs : ∀ (k : Nat) (s : ByteArray), s.size < k → (partsR k s).flatMap tellB = runsF k s.data.toList
  | 0, s, h => by omega
  | k + 1, s, h => by
    unfold partsR
    by_cases h0 : s.size = 0
    · rw [if_pos h0]
      have : s.data.toList = [] := by rw [Lib.size_eq] at h0; exact List.eq_nil_of_length_eq_zero h0
      rw [this]
      simp [runsF]
    · rw [if_neg h0]
      cases hl : s.data.toList with
      | nil => rw [Lib.size_eq, hl] at h0; simp at h0
      | cons c t =>
        have ha : alikeB s = alikeL (c :: t) := by unfold alikeB; rw [hl]
        have hg : gapB s = gapL (c :: t) := by unfold gapB; rw [hl]
        have hal := alikeB_le s
        have hgl := gapB_le s
        unfold runsF
        by_cases h4 : 4 ≤ alikeB s
        · rw [if_pos h4, if_pos (by omega), List.flatMap_cons, partsR_runs k _ (by rw [size_ext _ _ _ (Nat.le_refl _)]; omega), drop_list, hl]
          have e1 : tellB (s.extract 0 (alikeB s), true) = cntB (2 * alikeL (c :: t) + 1) ++ [c] := by
            unfold tellB
            rw [if_pos rfl]
            simp only
            rw [size_ext _ _ _ hal, Nat.sub_zero, Lib.extract_data, hl, ha]
            have : 1 ≤ alikeL (c :: t) := alikeL_pos c t
            obtain ⟨m, hm⟩ : ∃ m, alikeL (c :: t) = m + 1 := ⟨alikeL (c :: t) - 1, by omega⟩
            rw [hm]
            simp
          rw [e1, ha]
          simp
        · rw [if_neg h4, if_neg (by omega), List.flatMap_cons, partsR_runs k _ (by rw [size_ext _ _ _ (Nat.le_refl _)]; have := gapB_pos s h0 (by omega); omega), drop_list, hl]
          have e1 : tellB (s.extract 0 (gapB s), false) = cntB (2 * gapL (c :: t)) ++ (c :: t).take (gapL (c :: t)) := by
            unfold tellB
            rw [if_neg (by simp)]
            simp only
            rw [size_ext _ _ _ hgl, Nat.sub_zero, Lib.extract_data, hl, hg]
            simp
          rw [e1, hg, List.append_assoc]
end Go.Proofs.Ytgbkoeinfhlpoaa.F

namespace Go.Proofs.Ytgbkoeinfhlpoaa.F
open Go.RowKit Go.Shelf Go.Proofs.YtgbkoeinfhlpoaaW.PrintWords Go.Proofs.YtgbkoeinfhlpoaaW.PrintLast Go.Proofs.YtgbkoeinfhlpoaaW.PrintMore
attribute [local go_sem] Oper.semAt_some
set_option linter.unusedVariables false
set_option linter.unusedSimpArgs false

def encR (x : ByteArray × Bool) : Array Value := #[Value.string x.1, Value.bool x.2]
def measR (B : Nat) (W : World) : Nat := leftB B W

set_option maxRecDepth 100000 in
set_option maxHeartbeats 4000000 in
theorem runs_seq (n : Nat) (hn : 1 ≤ n) (B : Nat) (s : ByteArray) (hs : s.size ≤ 140737488351232) (w : World) (hB : B < w.heap.size) (hc : w.cell? ⟨B, 0, none⟩ = some (.string s)) (hf : w.frozen? ⟨B, 0, none⟩ = false) :
    SeqBox Fence.wide n Try.prog 99 #[.pointer (some ⟨B, 0, none⟩)] encR B (partsR (s.size + 1) s) w := by
  intro l J Jx W hW hJd hJxd hJg hJxg hY h0
  have hBc : W.cell? ⟨B, 0, none⟩ = some (.string s) := (hW.cell (p := ⟨B, 0, none⟩) hB).trans hc
  have hBf : W.frozen? ⟨B, 0, none⟩ = false := (hW.frozen (p := ⟨B, 0, none⟩) hB).trans hf
  have HS := Aside0.mk hs
  have HJd := Aside0.mk hJd
  have HJg := Aside0.mk hJg
  have HY := Aside0.mk hY
  clear hJd hJg hY hs hc hf hW hB
  refine callsIn_of_wp Try.func99 rfl trivial ?_ rfl
  simp only [Try.ntmps99, List.size_toArray, List.length_cons, List.length_nil, Nat.reduceAdd, Nat.reduceSub, Array.replicate_succ, Array.replicate_zero, List.push_toArray, List.append_toArray, List.nil_append, List.cons_append]
  gi_wp2
  gi_loopw [3, 4] (fun v3 v4 wr => ∃ (pre : List (ByteArray × Bool)) (q : ByteArray), Aside0 (partsR (s.size + 1) s = pre ++ partsR (q.size + 1) q) ∧ Aside0 (q.size ≤ 140737488351232) ∧ wr.cell? ⟨B, 0, none⟩ = some (.string q) ∧ wr.frozen? ⟨B, 0, none⟩ = false ∧ J pre wr)
    (fun v3 v4 wr => leftB B wr)
  case atStart => exact ⟨[], s, ⟨by simp⟩, HS, hBc, hBf, h0⟩
  case round =>
    obtain ⟨pre, q, HX, HQ, hcq, hfq, hJ⟩ := hrel
    have hq0 : q.size ≤ 140737488351232 := HQ.out
    by_cases hz : q.size = 0
    · have he : q.toList = [] := by rw [Lib.toList_data]; rw [Lib.size_eq] at hz; exact List.eq_nil_of_length_eq_zero hz
      have b0 : (q.toList == ([] : List UInt8)) = true := beq_iff_eq.mpr he
      have b1 : (q.toList != ([] : List UInt8)) = false := by rw [he]; rfl
      have b2 : q.toList.isEmpty = true := by rw [he]; rfl
      have HZ := Aside0.mk (show partsR (s.size + 1) s = pre by
        have := HX.out
        unfold partsR at this
        rw [if_pos hz] at this
        simpa [partsR] using this)
      clear hz he
      gi_wp2
      go_end0
      exact ⟨⟨_, rfl⟩, .inl (by rw [HZ.out]; exact hJ)⟩
    · have he : q.toList ≠ [] := by
        rw [Lib.toList_data]
        intro h
        rw [Lib.size_eq, h] at hz
        exact hz rfl
      have b0 : (q.toList == ([] : List UInt8)) = false := beq_eq_false_iff_ne.mpr he
      have b1 : (q.toList != ([] : List UInt8)) = true := bne_iff_ne.mpr he
      have b2 : q.toList.isEmpty = false := by simpa using he
      have hal := alike_calls q HQ.out wr
      have hle := alikeB_le q
      by_cases h4 : 4 ≤ alikeB q
      · have hX2 : partsR (s.size + 1) s = pre ++ (q.extract 0 (alikeB q), true) :: partsR ((q.extract (alikeB q) q.size).size + 1) (q.extract (alikeB q) q.size) := by
          have hsz := size_ext q (alikeB q) q.size (Nat.le_refl _)
          rw [HX.out]
          conv => lhs; unfold partsR
          rw [if_neg hz, if_pos h4, partsR_more q.size _ _ (by omega) (Nat.lt_succ_self _)]
        have HZ := Aside0.mk hX2
        have HM := Aside0.mk (show (q.extract (alikeB q) q.size).size < q.size by have hsz := size_ext q (alikeB q) q.size (Nat.le_refl _); omega)
        generalize alikeB q = m at hal hle h4 HZ HM
        clear hX2 hz he HX
        have hd : decide ((m : Int) < 4) = false := decide_eq_false (by omega)
        gi_wp2_with (refine ⟨trivial, ?_⟩; gi_at_call 100; refine (callsIn_wide.2 hal).mono ?_; rintro e w1 ⟨rfl, hb1⟩; have hc1 : w1.cell? ⟨B, 0, none⟩ = some (.string q) := (hb1.cell (p := ⟨B, 0, none⟩) (World.block_lt_of_cell? wr _ hcq)).trans hcq; have hf1 : w1.frozen? ⟨B, 0, none⟩ = false := (hb1.frozen (p := ⟨B, 0, none⟩) (World.block_lt_of_cell? wr _ hcq)).trans hfq; have hJ1 := HJg.out _ _ _ hJ (grown_of_below hb1 none); obtain ⟨fn, tmps, assign, body, hy, hR⟩ := HY.out pre (q.extract 0 m, true) w1 hJ1 (by rw [HZ.out]; exact pre_snoc _ _ _); dsimp only [encR] at hy hR; clear hb1)
        refine hR.mono ?_
        rintro e W3 (⟨rfl, hJ3, hk3⟩ | ⟨rfl, hJx3⟩)
        · have hc3 := hk3.1.trans hc1
          have hf3 := hk3.2.trans hf1
          have HJ4 := HJd.out _ _ (.string (q.extract m q.size)) hJ3
          have hl2 := leftB_eq hcq
          have HL := Aside0.mk hl2
          have HB3 := Aside0.mk (show (W3.setCell ⟨B, 0, none⟩ (.string (q.extract m q.size))).cell? ⟨B, 0, none⟩ = some (.string (q.extract m q.size)) from World.cell?_setCell_same' _ _ _ (by rw [hc3]; rfl))
          clear hl2 hc1 hf1 hJ1
          gi_wp2
          go_roundw
          case rel => exact ⟨pre ++ [(q.extract 0 m, true)], q.extract m q.size, ⟨by rw [HZ.out]; simp⟩, ⟨by have := HM.out; have := HQ.out; omega⟩, HB3.out, (World.frozen?_setCell _ _ _ _).trans hf3, HJ4⟩
          case measure =>
            rw [leftB_eq HB3.out, HL.out]
            exact HM.out
        · gi_wp2
          refine bodyPost_ret (results_none rfl _ _ _) rfl ?_
          exact ⟨⟨_, rfl⟩, .inr ⟨pre ++ [(q.extract 0 m, true)], by rw [HZ.out]; exact pre_snoc _ _ _, hJx3⟩⟩
      · have hX2 : partsR (s.size + 1) s = pre ++ (q.extract 0 (gapB q), false) :: partsR ((q.extract (gapB q) q.size).size + 1) (q.extract (gapB q) q.size) := by
          have hsz := size_ext q (gapB q) q.size (Nat.le_refl _)
          have hg := gapB_pos q hz (by omega)
          rw [HX.out]
          conv => lhs; unfold partsR
          rw [if_neg hz, if_neg h4, partsR_more q.size _ _ (by omega) (Nat.lt_succ_self _)]
        have HZ := Aside0.mk hX2
        have hgp := gapB_pos q hz (by omega)
        have hgl := gapB_le q
        have HM := Aside0.mk (show (q.extract (gapB q) q.size).size < q.size by have hsz := size_ext q (gapB q) q.size (Nat.le_refl _); omega)
        have HG := Aside0.mk (gapB_go q)
        have HE := Aside0.mk (gapB_end q)
        generalize alikeB q = m at hal hle h4
        generalize hgq : gapB q = g at HZ HM HG HE hgp hgl
        clear hX2 hz he HX hgq
        have hd : decide ((m : Int) < 4) = true := decide_eq_true (by omega)
        gi_wp2_with (refine ⟨trivial, ?_⟩; gi_at_call 100; refine (callsIn_wide.2 hal).mono ?_; rintro e w1 ⟨rfl, hb1⟩; have hc1 : w1.cell? ⟨B, 0, none⟩ = some (.string q) := (hb1.cell (p := ⟨B, 0, none⟩) (World.block_lt_of_cell? wr _ hcq)).trans hcq; have hf1 : w1.frozen? ⟨B, 0, none⟩ = false := (hb1.frozen (p := ⟨B, 0, none⟩) (World.block_lt_of_cell? wr _ hcq)).trans hfq; have hJ1 := HJg.out _ _ _ hJ (grown_of_below hb1 none); clear hb1)
        clear hal
        obtain ⟨wo, rfl⟩ : ∃ wo : World, wo = wr := ⟨_, rfl⟩
        have HL := Aside0.mk (leftB_eq hcq)
        clear hcq hfq hJ
        gi_loopw [3] (fun v3 wr => ∃ k : Nat, v3 = .int .i64 k ∧ 1 ≤ k ∧ k ≤ g ∧ wr.cell? ⟨B, 0, none⟩ = some (.string q) ∧ wr.frozen? ⟨B, 0, none⟩ = false ∧ J pre wr)
          (fun v3 wr => q.size - (intOf v3).toNat)
        case atStart => exact ⟨1, rfl, by omega, hgp, hc1, hf1, hJ1⟩
        case round =>
          obtain ⟨k, rfl, hk1, hk2, hc2, hf2, hJ2⟩ := hrel
          by_cases hkg : k < g
          · have hks := (HG.out k hkg).2
            have hksz : (k : Int) < (q.size : Int) := by omega
            have ha2 := alike_calls (q.extract k q.size) (by rw [size_ext _ _ _ (Nat.le_refl _)]; omega) wr
            have hm2 := (HG.out k hkg).1
            generalize alikeB (q.extract k q.size) = m2 at ha2 hm2
            have hd2 : decide ((m2 : Int) < 4) = true := decide_eq_true (by omega)
            gi_wp2_with (refine ⟨trivial, ?_⟩; gi_at_call 100; refine (callsIn_wide.2 ha2).mono ?_; rintro e w2 ⟨rfl, hb1⟩; have hc3 : w2.cell? ⟨B, 0, none⟩ = some (.string q) := (hb1.cell (p := ⟨B, 0, none⟩) (World.block_lt_of_cell? wr _ hc2)).trans hc2; have hf3 : w2.frozen? ⟨B, 0, none⟩ = false := (hb1.frozen (p := ⟨B, 0, none⟩) (World.block_lt_of_cell? wr _ hc2)).trans hf2; have hJ3 := HJg.out _ _ _ hJ2 (grown_of_below hb1 none); clear hb1)
            go_roundw
            case rel => exact ⟨k + 1, by go_num, by omega, by omega, hc3, hf3, hJ3⟩
            case measure => simp [intOf]; omega
          · obtain rfl : k = g := by omega
            have hJ9 := hJ2
            by_cases hks : k < q.size
            · have hksz : (k : Int) < (q.size : Int) := by omega
              have ha2 := alike_calls (q.extract k q.size) (by rw [size_ext _ _ _ (Nat.le_refl _)]; omega) wr
              have hm2 : 4 ≤ alikeB (q.extract k q.size) := by
                rcases HE.out with h | h
                · omega
                · exact h
              generalize alikeB (q.extract k q.size) = m2 at ha2 hm2
              have hd2 : decide ((m2 : Int) < 4) = false := decide_eq_false (by omega)
              gi_wp2_with (refine ⟨trivial, ?_⟩; gi_at_call 100; refine (callsIn_wide.2 ha2).mono ?_; rintro e w2 ⟨rfl, hb1⟩; have hc3 : w2.cell? ⟨B, 0, none⟩ = some (.string q) := (hb1.cell (p := ⟨B, 0, none⟩) (World.block_lt_of_cell? wr _ hc2)).trans hc2; have hf3 : w2.frozen? ⟨B, 0, none⟩ = false := (hb1.frozen (p := ⟨B, 0, none⟩) (World.block_lt_of_cell? wr _ hc2)).trans hf2; have hJ3 := HJg.out _ _ _ hJ2 (grown_of_below hb1 none); obtain ⟨fn, tmps, assign, body, hy, hR⟩ := HY.out pre (q.extract 0 k, false) w2 hJ3 (by rw [HZ.out]; exact pre_snoc _ _ _); dsimp only [encR] at hy hR; clear hb1)
              refine hR.mono ?_
              rintro e W3 (⟨rfl, hJ4, hk4⟩ | ⟨rfl, hJx4⟩)
              · have hc4 := hk4.1.trans hc3
                have hf4 := hk4.2.trans hf3
                have HJ5 := HJd.out _ _ (.string (q.extract k q.size)) hJ4
                have HB3 := Aside0.mk (show (W3.setCell ⟨B, 0, none⟩ (.string (q.extract k q.size))).cell? ⟨B, 0, none⟩ = some (.string (q.extract k q.size)) from World.cell?_setCell_same' _ _ _ (by rw [hc4]; rfl))
                clear hc3 hf3 hJ3
                gi_wp2
                go_roundw
                case rel => exact ⟨pre ++ [(q.extract 0 k, false)], q.extract k q.size, ⟨by rw [HZ.out]; simp⟩, ⟨by have := HM.out; have := HQ.out; omega⟩, HB3.out, (World.frozen?_setCell _ _ _ _).trans hf4, HJ5⟩
                case measure =>
                  rw [leftB_eq HB3.out, HL.out]
                  exact HM.out
              · gi_wp2
                refine bodyPost_ret (results_none rfl _ _ _) rfl ?_
                exact ⟨⟨_, rfl⟩, .inr ⟨pre ++ [(q.extract 0 k, false)], by rw [HZ.out]; exact pre_snoc _ _ _, hJx4⟩⟩
            · have hksz : ¬ (k : Int) < (q.size : Int) := by omega
              obtain ⟨fn, tmps, assign, body, hy, hR⟩ := HY.out pre (q.extract 0 k, false) wr hJ2 (by rw [HZ.out]; exact pre_snoc _ _ _)
              dsimp only [encR] at hy hR
              gi_wp2
              refine ⟨trivial, ?_⟩
              gi_wp2
              refine hR.mono ?_
              rintro e W3 (⟨rfl, hJ4, hk4⟩ | ⟨rfl, hJx4⟩)
              · have hc4 := hk4.1.trans hc2
                have hf4 := hk4.2.trans hf2
                have HJ5 := HJd.out _ _ (.string (q.extract k q.size)) hJ4
                have HB3 := Aside0.mk (show (W3.setCell ⟨B, 0, none⟩ (.string (q.extract k q.size))).cell? ⟨B, 0, none⟩ = some (.string (q.extract k q.size)) from World.cell?_setCell_same' _ _ _ (by rw [hc4]; rfl))
                gi_wp2
                go_roundw
                case rel => exact ⟨pre ++ [(q.extract 0 k, false)], q.extract k q.size, ⟨by rw [HZ.out]; simp⟩, ⟨by have := HM.out; have := HQ.out; omega⟩, HB3.out, (World.frozen?_setCell _ _ _ _).trans hf4, HJ5⟩
                case measure =>
                  rw [leftB_eq HB3.out, HL.out]
                  exact HM.out
              · gi_wp2
                refine bodyPost_ret (results_none rfl _ _ _) rfl ?_
                exact ⟨⟨_, rfl⟩, .inr ⟨pre ++ [(q.extract 0 k, false)], by rw [HZ.out]; exact pre_snoc _ _ _, hJx4⟩⟩
theorem runs_calls (s : ByteArray) (w : World) :
    Calls Try.prog 67 #[.string s] w fun e w' => e = .returned (.func (.func 99) #[] #[.pointer (some ⟨w.heap.size, 0, none⟩)]) ∧ w' = w.alloc (.cells #[.string s] 9) := by
  go_enter Try.func67, Try.ntmps67
  go_wp2
  go_ret
  exact ⟨rfl, rfl⟩
end Go.Proofs.Ytgbkoeinfhlpoaa.F

namespace Go.Proofs.Ytgbkoeinfhlpoaa.F
open Go.RowKit Go.Proofs.YtgbkoeinfhlpoaaW.PrintWords Go.Proofs.YtgbkoeinfhlpoaaW.PrintLast Go.Proofs.YtgbkoeinfhlpoaaW.PrintMore
set_option linter.unusedVariables false
set_option linter.unusedSimpArgs false

section
variable {P : Program} {ops : Array Oper} {Q : Exit → Act → World → Prop} {l n : Nat}

def noDefer (ops : Array Oper) : Bool := ops.all fun o => match o.op with
  | .defer _ => false
  | _ => true
theorem noDefer_spec {i : Nat} {o : Oper} (h : noDefer ops = true) (ho : ops[i]? = some o) : ∀ c, o.op ≠ .defer c := by
  intro c hc
  have hm := Array.mem_of_getElem? ho
  have := Array.all_eq_true_iff_forall_mem.mp h o hm
  rw [hc] at this
  cases this

theorem oper_in {o : Oper} {a : Act} {w : World} {K : Act → World → Prop} (hd : ∀ c, o.op ≠ .defer c) (hl : ¬ LetsOut Q) (h : o.wp P a w K Q) :
    o.wpIn (Fence.wide.inRound l) n P a w K Q := by
  unfold Oper.wpIn
  refine ⟨fun f _ => trivial, ?_⟩
  rw [Oper.semAt_eq _ _ _ hd]
  unfold Oper.wp at h
  generalize (execOp a.eval o).run P w = r at h ⊢
  cases r with
  | ok x w' =>
    cases x <;> simp only [Oper.upon, Oper.uponIn] at h ⊢
    case value u => exact h
    case skip => exact h
    case defer d => exact h
    case enter f args =>
      refine ⟨(fun hc => by cases hc), ?_⟩
      refine CallsIn.inRound l (callsIn_wide.2 (h.mono ?_))
      intro e w'' he
      cases e <;> exact he
    case row row args =>
      refine ⟨(fun hc => by cases hc), ?_⟩
      intro c cs hroom
      obtain ⟨v, w2, hv, hs⟩ := h c cs
      exact ⟨v, w2, hv, stepsIn_wide.2 hs⟩
  | halt x w' => cases x <;> simp only [Oper.upon, Oper.uponIn] at h ⊢ <;> exact h

theorem ops_in (hd : noDefer ops = true) (hl : ¬ LetsOut Q) : ∀ (s : List Nat) (a : Act) (w : World), wpOps P ops Q s a w → wpOpsIn (Fence.wide.inRound l) n P ops Q s a w
  | [], _, _, h => h
  | i :: rest, a, w, h => by
    unfold wpOps at h
    unfold wpOpsIn
    cases ho : ops[i]? with
    | none =>
      rw [ho] at h
      exact ops_in hd hl rest a w h
    | some o =>
      rw [ho] at h
      dsimp only at h ⊢
      split
      · rename_i hw
        rw [if_pos hw] at h
        rcases h with h | ⟨_, h⟩
        · exact Oper.wpIn_mono (fun a w hh => ops_in hd hl rest a w hh) (oper_in (noDefer_spec hd ho) hl h)
        · exact absurd h hl
      · rename_i hw
        rw [if_neg hw] at h
        exact ⟨fun f _ => trivial, ops_in hd hl rest _ _ h⟩

/-- A region that draws its order, within a round. -/
theorem startIn_ {S : World → Prop} {ds : List Nat} {id m : Nat} {a : Act} {w : World} (bs : Array Bool) (hm : P.follows .mixedOrders = true) (hn : ops.size = m) (hl : Array.replicate m false = bs) (hd : noDefer ops = true) (hL : ¬ LetsOut Q) (hS : S w.drew)
    (h : S w.drew → wpAnyLast P .any ops Q S ds m bs a w.drew) : (Code.region id ops true).wpIn (Fence.wide.inRound l) n P Q a w := by
  subst hn
  subst hl
  refine wpIn_region_draw fun t => ?_
  simp only [Region.schedule, hm, Bool.true_or, if_true]
  exact ops_in hd hL _ _ _ (wpAny_sound ops.size t _ a _ (wpAny_of_last _ _ _ _ (h hS)))
/-- The post of an operation, weakened where it is left. -/
theorem operIn_post {F : Fence} {Q' : Exit → Act → World → Prop} {o : Oper} {a : Act} {w : World} {K : Act → World → Prop} (h : o.wpIn F n P a w K (Exit.then K Q')) (hq : ∀ e a w, e ≠ .normal → Q' e a w → Q e a w) : o.wpIn F n P a w K Q := by
  unfold Oper.wpIn at h ⊢
  refine ⟨h.1, ?_⟩
  have h := h.2
  generalize (o.semAt F.round a.eval).run P w = r at h ⊢
  cases r with
  | ok x w' =>
    cases x <;> simp only [Oper.uponIn] at h ⊢
    case value u => exact h
    case skip => exact h
    case defer d => exact h
    case enter f args =>
      refine ⟨h.1, h.2.mono ?_⟩
      intro e w'' he
      cases e with
      | returned v => exact he
      | panicked c => exact hq _ _ _ (by simp) he
      | outgrown =>
        obtain ⟨a0, w0, h0⟩ := he
        exact ⟨a0, w0, hq _ _ _ (by simp) h0⟩
    case row row args => exact h
    case round l f tmps assign body =>
      refine ⟨h.1, h.2.mono ?_⟩
      intro e w'' he
      cases e with
      | returned v => exact he
      | panicked c => exact hq _ _ _ (by simp) he
      | outgrown =>
        obtain ⟨a0, w0, h0⟩ := he
        exact ⟨a0, w0, hq _ _ _ (by simp) h0⟩
  | halt x w' =>
    cases x <;> simp only [Oper.uponIn] at h ⊢
    case panic v => exact hq _ _ _ (by simp) h
theorem regionIn_ {id : Nat} {a : Act} {w : World} (hd : noDefer ops = true) (hL : ¬ LetsOut Q) (h : wpList P ops Q ops.toList a w) : (Code.region id ops false).wpIn (Fence.wide.inRound l) n P Q a w := by
  refine wpIn_region (ops_in hd hL _ _ _ ?_)
  rw [List.range_eq_range', ← Array.length_toList, wpOps_eq_wpList ops.toList 0 (by simp)]
  exact h

/-- A law of one operation of a plain region serves within a round. -/
theorem listIn_ {o : Oper} {rest : List Oper} {a : Act} {w : World} (hg : o.guard = none) (hd : ∀ c, o.op ≠ .defer c)
    (h : wpList P ops (Exit.then (wpListIn (Fence.wide.inRound l) n P ops Q rest) fun _ _ _ => False) [o] a w) : wpListIn (Fence.wide.inRound l) n P ops Q (o :: rest) a w := by
  have hL : ¬ LetsOut (Exit.then (wpListIn (Fence.wide.inRound l) n P ops Q rest) fun _ _ _ => False) := by
    rintro ⟨a, w, h⟩
    exact h
  unfold wpListIn
  unfold wpList at h
  by_cases hw : Region.wanted o (yielded ops a.tmps) = true
  · rw [if_pos hw] at h ⊢
    rcases h with h | ⟨_, h⟩
    · have h2 : o.wpIn (Fence.wide.inRound l) n P a w (wpListIn (Fence.wide.inRound l) n P ops Q rest) (Exit.then (wpListIn (Fence.wide.inRound l) n P ops Q rest) fun _ _ _ => False) := oper_in hd hL h
      exact operIn_post h2 (fun e a w _ hf => hf.elim)
    · exact absurd h hL
  · simp [Region.wanted, hg] at hw
#print axioms startIn_
#print axioms listIn_
end
end Go.Proofs.Ytgbkoeinfhlpoaa.F

namespace Go.Proofs.Ytgbkoeinfhlpoaa.F
open Go.RowKit Go.Shelf Go.Proofs.YtgbkoeinfhlpoaaW.PrintWords Go.Proofs.YtgbkoeinfhlpoaaW.PrintLast Go.Proofs.YtgbkoeinfhlpoaaW.PrintMore
attribute [local go_sem] Oper.semAt_some
set_option linter.unusedVariables false
set_option linter.unusedSimpArgs false

theorem ints_append (a b : List UInt8) : ints (a ++ b) = ints a ++ ints b := by simp [ints]
theorem bytesOf_ints (s : ByteArray) : bytesOf s = ints s.data.toList := rfl
theorem count_val (l : List Int) (n : Nat) (hl : l.length ≤ 1000000000) (hn : n ≤ 2147483647) : code_Count.f 1 l (n : Int) = some (l ++ ints (cntB n)) := by
  unfold code_Count.f
  rw [if_neg (by omega), decide_eq_false (by omega)]
  show (if false = true then (code_none.f l).bind (fun t => some t) else (code_lay.f l (IntKind.u64.wrap (n : Int)) ⟨#[]⟩).bind (fun t => some t)) = _
  rw [if_neg Bool.false_ne_true]
  have hw : IntKind.u64.wrap (n : Int) = n := by rw [IntKind.wrap_u64]; omega
  rw [hw]
  unfold code_lay.f
  rw [if_pos ⟨by omega, by omega, hl, by simp [ByteArray.size]⟩]
  simp [bytesOf]
theorem count_calls (A0 : Option Addr) (c0 : Nat) (l0 : List Int) (n : Int) (w : World) (hr0 : Kd.C (Kd.int .u8) w A0 l0.length l0) (hc0 : l0.length ≤ c0) (hl : l0.length ≤ 1000000000) (h0 : 0 ≤ n) (hn : n ≤ 2147483647) :
    Calls Try.prog 62 #[.slice A0 l0.length c0, .int .i64 n] w fun e w' => ∃ v0_ : Value, e = .returned (v0_) ∧ Kd.R (Kd.int .u8) 5 w' w.heap.size (fun _ => True) v0_ (l0 ++ ints (cntB n.toNat)) ∧ Below w.heap.size w w' := by
  obtain ⟨m, rfl⟩ := Int.eq_ofNat_of_zero_le h0
  exact code_Count.calls 1 A0 c0 l0 m _ w hr0 hc0 (by rw [Int.toNat_natCast]; exact count_val l0 m hl (by omega))

/-- What has been told behind some parts. -/
def told (s : ByteArray) (pre : List (ByteArray × Bool)) : List Int := ints (cntB s.size) ++ ints (pre.flatMap tellB)
theorem told_snoc (s : ByteArray) (pre : List (ByteArray × Bool)) (x : ByteArray × Bool) : told s (pre ++ [x]) = told s pre ++ ints (tellB x) := by
  unfold told
  rw [List.flatMap_append, ints_append, List.append_assoc]
  simp
theorem cntB_short (n : Nat) (h : n < 4294967296) : (cntB n).length ≤ 5 := by rw [cntB_length n h]; exact nG_le n h
theorem parts_facts : ∀ (k : Nat) (s : ByteArray), s.size ≤ 100000 → (∀ x ∈ partsR k s, 1 ≤ x.1.size ∧ x.1.size ≤ s.size) ∧ ((partsR k s).flatMap tellB).length ≤ 7 * s.size
  | 0, s, _ => by simp [partsR]
  | k + 1, s, hs => by
    unfold partsR
    by_cases h0 : s.size = 0
    · rw [if_pos h0]; simp
    · rw [if_neg h0]
      have hal := alikeB_le s
      have hgl := gapB_le s
      have tl : ∀ x : ByteArray × Bool, 1 ≤ x.1.size → x.1.size ≤ 100000 → (tellB x).length ≤ 7 * x.1.size := by
        intro x h1 h2
        unfold tellB
        have c1 := cntB_short (2 * x.1.size + 1) (by omega)
        have c2 := cntB_short (2 * x.1.size) (by omega)
        have e := Lib.size_eq x.1
        split <;> rw [List.length_append] <;> (try simp only [List.length_singleton]) <;> omega
      by_cases h4 : 4 ≤ alikeB s
      · rw [if_pos h4]
        have e1 := size_ext s 0 (alikeB s) hal
        have e2 := size_ext s (alikeB s) s.size (Nat.le_refl _)
        obtain ⟨i1, i2⟩ := parts_facts k (s.extract (alikeB s) s.size) (by omega)
        refine ⟨fun x hx => ?_, ?_⟩
        · rcases List.mem_cons.mp hx with rfl | hx
          · simp only; omega
          · have := i1 x hx; omega
        · have := tl (s.extract 0 (alikeB s), true) (by simp only; omega) (by simp only; omega)
          simp only at this
          rw [List.flatMap_cons, List.length_append]
          omega
      · rw [if_neg h4]
        have hgp := gapB_pos s h0 (by omega)
        have e1 := size_ext s 0 (gapB s) hgl
        have e2 := size_ext s (gapB s) s.size (Nat.le_refl _)
        obtain ⟨i1, i2⟩ := parts_facts k (s.extract (gapB s) s.size) (by omega)
        refine ⟨fun x hx => ?_, ?_⟩
        · rcases List.mem_cons.mp hx with rfl | hx
          · simp only; omega
          · have := i1 x hx; omega
        · have := tl (s.extract 0 (gapB s), false) (by simp only; omega) (by simp only; omega)
          simp only at this
          rw [List.flatMap_cons, List.length_append]
          omega
theorem told_len (s : ByteArray) (hs : s.size ≤ 100000) (pre : List (ByteArray × Bool)) (k : Nat) (h : pre <+: partsR k s) : (told s pre).length ≤ 700005 := by
  obtain ⟨r, hr⟩ := h
  have h1 := (parts_facts k s hs).2
  rw [← hr, List.flatMap_append, List.length_append] at h1
  have h2 := cntB_short s.size (by omega)
  unfold told
  rw [List.length_append, ints_length, ints_length]
  omega

/-- The loop's word: b's variable at R, the iterator's at B, the row that b is. -/
def rI (w : World) (s : ByteArray) (R B : Nat) (pre : List (ByteArray × Bool)) (W : World) : Prop :=
  (∃ v u, W.heap[R]? = some (.cells #[v] 38 (0, 0)) ∧ W.heap[B]? = some (.cells #[u] 9 (0, 0)) ∧ Kd.R (Kd.int .u8) 5 W w.heap.size (fun _ => True) v (told s pre)) ∧ Below w.heap.size w W
def rX (c : Code) (pre : List (ByteArray × Bool)) (W : World) : Prop := False
theorem blk_own {W W' : World} {g : Nat} {row : Option Nat} {cs : Array Value} {t : TypeId} {f : Nat × Nat} (h : W.heap[g]? = some (.cells cs t f)) (hg : W.grownBy W' row) (hr : ∀ r, row = some r → ∃ o : Obj, W.heap[r]? = some o ∧ o.isCells = false) : W'.heap[g]? = some (.cells cs t f) := by
  refine (hg.block g (Array.getElem?_eq_some_iff.1 h).1 ?_).trans h
  intro e
  obtain ⟨o, ho, hc⟩ := hr g e.symm
  rw [h] at ho
  cases ho
  cases hc
theorem R_loop {α : Type} {d : Kd α} {e : TypeId} {W W' : World} {base : Nat} {v : Value} {xs : List α} {row : Option Nat} (h : d.R e W base (fun _ => True) v xs) (hg : W.grownBy W' row) (hr : ∀ r, row = some r → ∃ o : Obj, W.heap[r]? = some o ∧ o.isCells = false) : d.R e W' base (fun _ => True) v xs := by
  refine Kd.R_mono (Kd.R_grown (Kd.R_bound h) hg ?_) (fun _ _ => trivial)
  rintro k ⟨_, _, _, q, _, cells, hc⟩ e
  obtain ⟨o, ho, hcc⟩ := hr k e.symm
  rw [hc] at ho
  cases ho
  cases hcc
theorem rI_own (w : World) (s : ByteArray) (R B D : Nat) (hD : w.heap.size ≤ D) : OwnFrom D (rI w s R B) := by
  intro pre W W' row hI hg hr
  obtain ⟨⟨v, u, h1, h2, h3⟩, hb⟩ := hI
  refine ⟨⟨v, u, blk_own h1 hg (fun r e => (hr r e).2), blk_own h2 hg (fun r e => (hr r e).2), R_loop h3 hg (fun r e => (hr r e).2)⟩, ?_⟩
  exact hb.grown hg hb.size (fun k e => Nat.le_trans hD (hr k e).1)
theorem rI_deaf (w : World) (s : ByteArray) (R B : Nat) (hRB : R ≠ B) (hB : w.heap.size ≤ B) : Deaf B (rI w s R B) := by
  intro pre W x hI
  obtain ⟨⟨v, u, h1, h2, h3⟩, hb⟩ := hI
  refine ⟨⟨v, x, blk_far h1 (p := ⟨B, 0, none⟩) hRB x, by simpa using blk_set h2 0 x, Kd.R_set h3 h2 (fun q hq => ?_) 0 x⟩, hb.setCell (p := ⟨B, 0, none⟩) hB x⟩
  have : (Kd.int .u8).E = [] := rfl
  rw [this] at hq
  simp at hq
  omega

/-- What the steps within a round leave: whatever is no row of bytes stays. -/
structure Mid (w W W3 : World) : Prop where
  keep : ∀ (k : Nat) (t : TypeId) (cs : Array Value) (f : Nat × Nat), t ≠ 5 → W.heap[k]? = some (.cells cs t f) → W3.heap[k]? = some (.cells cs t f)
  oth : KeepsOthers W W3
  bel : Below w.heap.size w W3
theorem Mid.refl {w W : World} (h : Below w.heap.size w W) : Mid w W W := ⟨fun _ _ _ _ _ h => h, KeepsOthers.refl _, h⟩
theorem Mid.below {w W W2 W3 : World} (h : Mid w W W2) (hb : Below W2.heap.size W2 W3) : Mid w W W3 :=
  ⟨fun k t cs f ht hk => (hb.block k (Array.getElem?_eq_some_iff.1 (h.keep k t cs f ht hk)).1).trans (h.keep k t cs f ht hk), h.oth.trans (KeepsOthers.of_grownBy (grown_of_below hb none) (fun j o e => by cases e)), below_step h.bel hb⟩
theorem Mid.alloc {w W W2 : World} (h : Mid w W W2) (o : Obj) : Mid w W (W2.alloc o) := h.below ((Below.refl _ _).alloc (Nat.le_refl _) o)
theorem Mid.drew {w W W2 : World} (h : Mid w W W2) : Mid w W W2.drew := h.below (pw_below_drewN (Below.refl _ _) 1)
theorem Mid.grown {w W W2 W3 : World} {v : Value} {xs : List Int} (h : Mid w W W2) (hR : Kd.R (Kd.int .u8) 5 W2 w.heap.size (fun _ => True) v xs) (hg : W2.grownBy W3 v.ownBlock) : Mid w W W3 := by
  refine ⟨fun k t cs f ht hk => ?_, h.oth.trans (KeepsOthers.of_grownBy hg (fun j o e ho => ?_)), h.bel.grown hg h.bel.size (fun k e => Kd.R_base hR k e)⟩
  · have h2 := h.keep k t cs f ht hk
    refine (hg.block k (Array.getElem?_eq_some_iff.1 h2).1 (fun e => ?_)).trans h2
    obtain ⟨cells, hc⟩ := Kd.R_typed hR k e.symm
    rw [h2] at hc
    cases hc
    exact ht rfl
  · obtain ⟨cells, hc⟩ := Kd.R_typed hR j e
    rw [hc] at ho
    cases ho
    rfl
theorem Mid.end_ {w W W3 : World} {s : ByteArray} {R B : Nat} {pre : List (ByteArray × Bool)} {x : ByteArray × Bool} {v v3 u : Value} (hRB : R ≠ B) (hR : w.heap.size ≤ R) (h1 : W.heap[R]? = some (.cells #[v] 38 (0, 0))) (h2 : W.heap[B]? = some (.cells #[u] 9 (0, 0)))
    (h : Mid w W W3) (hR3 : Kd.R (Kd.int .u8) 5 W3 w.heap.size (fun _ => True) v3 (told s (pre ++ [x]))) (a : Act) :
    ownPostK (SameBox B) (rI w s R B) rX (pre ++ [x]) W .normal a (W3.setCell ⟨R, 0, none⟩ v3) := by
  have k1 := h.keep R 38 _ _ (by decide) h1
  have k2 := h.keep B 9 _ _ (by decide) h2
  have f2 := blk_far k2 (p := ⟨R, 0, none⟩) (Ne.symm hRB) v3
  refine ⟨h.oth.trans (KeepsOthers.setCell _ _ _), ⟨?_, ?_⟩, ⟨v3, u, by simpa using blk_set k1 0 v3, f2, Kd.R_set hR3 k1 (fun q hq => ?_) 0 v3⟩, h.bel.setCell (p := ⟨R, 0, none⟩) hR v3⟩
  · rw [blk_cell f2 0, blk_cell h2 0]
  · rw [blk_frozen f2 0, blk_frozen h2 0]
  · have : (Kd.int .u8).E = [] := rfl
    rw [this] at hq
    simp at hq
    omega
theorem lit_int {W : World} {g : Nat} {x : Int} (h : W.heap[g]? = some (.cells #[.int .u8 x] 5 (0, 0))) : Kd.C (Kd.int .u8) W (some ⟨g, 0, none⟩) 1 [x] := by
  have ho : W.ownsRow 0 5 1 (.slice (some ⟨g, 0, none⟩) 1 1) 1 [.int .u8 x] := ⟨by simp, .inr ⟨g, 1, _, rfl, Nat.zero_le _, h, Nat.le_refl _, by unfold maxLen; omega, by simp, by simp⟩⟩
  have hR := Kd.R_of_own (α := Int) (enc := fun x => .int .u8 x) (h1 := fun _ => rfl) (ok := fun _ => True) (xs := [x]) ho (fun _ _ => trivial)
  exact (Kd.R_reads' hR).2.2
theorem tell_run (p : ByteArray) (h : 1 ≤ p.size) : ints (tellB (p, true)) = ints (cntB (2 * p.size + 1)) ++ [bt p 0] := by
  unfold tellB
  rw [if_pos rfl, ints_append]
  simp only
  congr 1
  obtain ⟨c, hc, hb⟩ := bt_lt p 0 (by omega)
  have hb' : bt p 0 = (c.toNat : Int) := hb
  rw [hb']
  cases hl : p.data.toList with
  | nil => rw [hl] at hc; simp at hc
  | cons x t => rw [hl] at hc; simp at hc; subst hc; rfl
theorem tell_gap (p : ByteArray) : ints (tellB (p, false)) = ints (cntB (2 * p.size)) ++ bytesOf p := by
  unfold tellB
  rw [if_neg (by simp), ints_append]
  rfl
theorem no_out {α : Type} {Kp : World → World → Prop} {I : List α → World → Prop} {Ix : Code → List α → World → Prop} {xs : List α} {W : World} (i : Nat) : ¬ LetsOut (Exit.inBlock i (ownPostK Kp I Ix xs W)) := by
  rintro ⟨a, w, h⟩
  exact h

theorem str_ints (l : List UInt8) : strOfNums (ints l) = ⟨l.toArray⟩ := by
  unfold strOfNums ints
  rw [List.map_map]
  congr
  have : (fun x : Int => UInt8.ofNat x.toNat) ∘ (fun b : UInt8 => (b.toNat : Int)) = id := by
    funext b
    simp
  simp [this]

def frameR (s : ByteArray) (R B : Nat) (A1 : Option Addr) (n1 c1 : Nat) (x : ByteArray × Bool) : Act :=
  { tmps := #[.string s, undef, .string ⟨#[]⟩, .pointer (some ⟨R, 0, none⟩), .string x.1, .bool x.2, .string s, .int .i64 s.size, .slice A1 n1 c1, .string s, .func (.func 99) #[] #[.pointer (some ⟨B, 0, none⟩)], .string x.1, .bool x.2, undef, undef, undef, undef, undef, undef, undef, undef, undef, undef, undef, undef, undef, undef, undef, undef, undef, undef, undef, undef], defers := [] }

set_option maxRecDepth 100000 in
set_option maxHeartbeats 4000000 in
theorem Runs_in (s : ByteArray) (hs : s.size ≤ 100000) (w : World) :
    CallsIn Fence.wide 3 Try.prog 32 #[.string s] w fun e W' => e = .returned (.string ⟨(runsB s.data.toList).toArray⟩) ∧ Below w.heap.size w W' := by
  have HS := Aside0.mk hs
  have mixed : Try.prog.follows Departure.mixedOrders = true := by kernel_rfl
  have hcnt := count_calls none 0 [] (s.size : Int) w (Kd.C_nil _ _) (Nat.le_refl _) (by simp) (by omega) (by omega)
  clear hs
  refine callsIn_of_wp_marks Try.func32 rfl trivial ?_ rfl
  simp only [Try.ntmps32, List.size_toArray, List.length_cons, List.length_nil, Nat.reduceAdd, Nat.reduceSub, Array.replicate_succ, Array.replicate_zero, List.push_toArray, List.append_toArray, List.nil_append, List.cons_append]
  gi_wp2_with (first
    | (refine ⟨trivial, ?_⟩; gi_at_call 62; refine (callsIn_wide.2 hcnt).mono ?_; rintro e w1 ⟨v1, rfl, hR1, hb1⟩; obtain ⟨A1, c1, hv, hl1, hC1⟩ := Kd.R_reads hR1; subst hv; clear hl1 hC1; have HR1 := Aside0.mk hR1; have HB1 := Aside0.mk hb1; clear hR1 hb1)
    | (refine ⟨trivial, ?_⟩; gi_at_call 67; refine (callsIn_wide.2 (runs_calls s _)).mono ?_; rintro e w' ⟨rfl, rfl⟩))
  have HN := Aside0.mk (show ([] ++ ints (cntB (s.size : Int).toNat) : List Int) = told s [] by simp [told, ints])
  have hn1 : (ints (cntB s.size)).length = ([] ++ ints (cntB (s.size : Int).toNat) : List Int).length := by simp
  obtain ⟨n1, hn1'⟩ : ∃ n1 : Nat, n1 = (ints (cntB s.size)).length := ⟨_, rfl⟩
  have hb0 : Below w.heap.size w ((w1.alloc (.cells #[.slice A1 (ints (cntB s.size)).length c1] 38)).alloc (.cells #[.string s] 9)) := (HB1.out.alloc HB1.out.size _).alloc (by have := HB1.out.size; simp; omega) _
  have hR0 : ((w1.alloc (.cells #[.slice A1 (ints (cntB s.size)).length c1] 38)).alloc (.cells #[.string s] 9)).heap[w1.heap.size]? = some (.cells #[.slice A1 (ints (cntB s.size)).length c1] 38 (0, 0)) := by
    rw [Below.heap_alloc _ _ _ (by simp)]
    exact heap_alloc_new w1 _
  have hB0 : ((w1.alloc (.cells #[.slice A1 (ints (cntB s.size)).length c1] 38)).alloc (.cells #[.string s] 9)).heap[w1.heap.size + 1]? = some (.cells #[.string s] 9 (0, 0)) := by
    have := heap_alloc_new (w1.alloc (.cells #[.slice A1 (ints (cntB s.size)).length c1] 38)) (.cells #[.string s] 9)
    simpa using this
  have hK0 : Kd.R (Kd.int .u8) 5 ((w1.alloc (.cells #[.slice A1 (ints (cntB s.size)).length c1] 38)).alloc (.cells #[.string s] 9)) w.heap.size (fun _ => True) (.slice A1 (ints (cntB s.size)).length c1) (told s []) := by
    rw [← HN.out]
    have := Kd.R_alloc (Kd.R_alloc HR1.out (.cells #[.slice A1 (ints (cntB s.size)).length c1] 38)) (.cells #[.string s] 9)
    rw [← hn1] at this
    exact this
  have hsz : ((w1.alloc (.cells #[.slice A1 (ints (cntB s.size)).length c1] 38)).alloc (.cells #[.string s] 9)).heap.size = w1.heap.size + 1 + 1 := by simp
  have hwz := HB1.out.size
  rw [← hn1'] at hb0 hR0 hB0 hK0 hsz ⊢
  generalize hW0 : (w1.alloc (.cells #[.slice A1 n1 c1] 38)).alloc (.cells #[.string s] 9) = W0 at hb0 hR0 hB0 hK0 hsz ⊢
  generalize hR : w1.heap.size = R at hR0 hB0 hsz hwz ⊢
  clear hW0 hR HR1 HB1 hcnt hn1 hn1' HN
  refine range_box (B := R + 1) (xs := partsR (s.size + 1) s) rfl (by omega) (gf := 99) (lb := #[.pointer (some ⟨R + 1, 0, none⟩)]) rfl trivial (enters_of Try.func99 (by kernel_rfl) rfl) (by omega)
    (runs_seq 2 (by omega) (R + 1) s (by have := HS.out; omega) W0 (by omega) ((blk_cell hB0 0).trans rfl) (blk_frozen hB0 0)) (fun _ => rfl)
    (rI w s R (R + 1)) rX (rI_own w s R (R + 1) _ (by omega)) (fun c s W W' row hI _ _ => hI.elim) (rI_deaf w s R (R + 1) (by omega) (by omega)) (fun c pre W v h => h.elim)
    ⟨⟨_, _, hR0, hB0, hK0⟩, hb0⟩ (frameR s R (R + 1) A1 n1 c1) ?assign ?body ?done ?stop
  case assign =>
    intro l x W K hK
    unfold frameR at hK
    dsimp only [encR]
    gi_wp2
    exact hK
  case body =>
    rintro l pre ⟨p, b⟩ W ⟨⟨v, u, h1, h2, h3⟩, hB⟩ hpre
    obtain ⟨A, c, rfl, hlc, hC⟩ := Kd.R_reads h3
    have hp := (parts_facts (s.size + 1) s HS.out).1 (p, b) (hpre.subset (by simp))
    have hpl := told_len s HS.out pre (s.size + 1) ((List.prefix_append pre [(p, b)]).trans hpre)
    have hps : p.size ≤ 100000 := by have := HS.out; have := hp.2; simp only at this; omega
    have hp1 : 1 ≤ p.size := hp.1
    have cR : W.cell? ⟨R, 0, none⟩ = some (.slice A (told s pre).length c) := (blk_cell h1 0).trans rfl
    have fR : W.frozen? ⟨R, 0, none⟩ = false := blk_frozen h1 0
    have H1 := Aside0.mk h1
    have H2 := Aside0.mk h2
    have H3 := Aside0.mk h3
    have HB := Aside0.mk hB
    have HC := Aside0.mk hC
    have HRR := Aside0.mk (show w.heap.size ≤ R by omega)
    have HLEN := Aside0.mk hpl
    clear h1 h2 h3 hB hC hb0 hR0 hB0 hK0 hsz hwz hpre hp
    unfold frameR
    cases b with
    | false =>
      have hc2 := count_calls A c (told s pre) (2 * (p.size : Int)) W HC.out hlc (by omega) (by omega) (by omega)
      have HT := Aside0.mk (tell_gap p)
      have HL2 := Aside0.mk (show (told s pre ++ ints (cntB (2 * (p.size : Int)).toNat)).length + p.size ≤ 140737488355328 by
        have := cntB_short (2 * (p.size : Int)).toNat (by omega)
        rw [List.length_append, ints_length]
        omega)
      have hw2 : IntKind.i64.wrap (2 * (p.size : Int)) = 2 * (p.size : Int) := by rw [IntKind.wrap_i64]; omega
      gi_wp2_with (first
        | (refine ⟨trivial, ?_⟩; gi_at_call 62; refine (CallsIn.inRound l (callsIn_wide.2 hc2)).mono ?_; rintro e W2 ⟨v2, rfl, hR2, hb2⟩; have HM2 := Aside0.mk ((Mid.refl HB.out).below hb2); have HR2 := Aside0.mk (Kd.R_lower hR2 HB.out.size); clear hR2 hb2)
        | (gi_at_builtin; refine listIn_ rfl (fun c h => by cases h) ?_; refine print_append_str (w0 := w) w.heap.size rfl (.tmp 28) (.tmp 29) 38 9 5 rfl Try.underlying38 Try.underlying9 info5 _ (told s pre ++ ints (cntB (2 * (p.size : Int)).toNat)) p rfl rfl (Kd.own_of_R HR2.out) HM2.out.bel HM2.out.bel.size HL2.out ?_; intro v3 W3 ho3 hb3 hg3; have HR3 := Aside0.mk (Kd.R_of_own (α := Int) (enc := fun x => .int .u8 x) (h1 := fun _ => rfl) (ok := fun _ => True) ho3 (fun _ _ => trivial)); have HM3 := Aside0.mk (HM2.out.grown HR2.out hg3); clear ho3 hb3 hg3; obtain ⟨A3, c3, hv3, _, _⟩ := Kd.R_reads HR3.out; subst hv3; have cR3 := (blk_cell (HM3.out.keep R 38 _ _ (by decide) H1.out) 0).trans rfl; have fR3 := blk_frozen (HM3.out.keep R 38 _ _ (by decide) H1.out) 0; change wpListIn _ _ _ _ _ _ _ _))
      exact HM3.out.end_ (by omega) HRR.out H1.out H2.out (by
        have h : Kd.R (Kd.int .u8) 5 W3 w.heap.size (fun _ => True) _ _ := HR3.out
        rw [show (2 * (p.size : Int)).toNat = 2 * p.size by omega, List.length_append, List.length_append, Nat.add_assoc] at h
        rw [told_snoc, HT.out, ← List.append_assoc]
        exact h) _
    | true =>
      have hc2 := fun (W' : World) (hb : Below W.heap.size W W') => count_calls A c (told s pre) (2 * (p.size : Int) + 1) W' (Kd.C_below HC.out hb) hlc (by omega) (by omega) (by omega)
      have HC2 := Aside0.mk hc2
      have HT := Aside0.mk (tell_run p hp1)
      have HL2 := Aside0.mk (show ((told s pre ++ ints (cntB (2 * (p.size : Int) + 1).toNat)).length + 1) * 1 ≤ 140737488355328 by
        have := cntB_short (2 * (p.size : Int) + 1).toNat (by omega)
        rw [List.length_append, ints_length]
        omega)
      have hw2 : IntKind.i64.wrap (2 * (p.size : Int)) = 2 * (p.size : Int) := by rw [IntKind.wrap_i64]; omega
      have hw3 : IntKind.i64.wrap (2 * (p.size : Int) + 1) = 2 * (p.size : Int) + 1 := by rw [IntKind.wrap_i64]; omega
      have hw4 : wrap64 (2 * (p.size : Int)) = 2 * (p.size : Int) := by unfold wrap64; omega
      have hw5 : wrap64 (2 * (p.size : Int) + 1) = 2 * (p.size : Int) + 1 := by unfold wrap64; omega
      have hx0 : ∀ h : 0 < p.size, ((p[0]'h).toNat : Int) = bt p 0 := fun h => by simp [bt, h]
      have hp0 : 0 < p.size := by omega
      have hp0z : (0 : Int) < (p.size : Int) := by omega
      clear hc2
      gi_wp2
      refine startIn_ (S := fun w' => w'.cell? ⟨R, 0, none⟩ = some (.slice A (told s pre).length c) ∧ w'.frozen? ⟨R, 0, none⟩ = false) (ds := [10]) (m := 11) #[false, false, false, false, false, false, false, false, false, false, false] mixed rfl rfl (by kernel_rfl) (no_out _) ⟨cR, fR⟩ (fun hHeld => ?_)
      refine pure_ (i := 1) (N := some 15) (v := ?_) (a' := ?_) #[false, true, false, false, false, false, false, false, false, false, false] rfl rfl (by kernel_rfl) (fun _ _ _ h => h) (Or.inl ⟨by rfl, ?_⟩) ?_ ?_
      rotate_left
      · intro w'
        go_simp
        with_reducible rfl
      rotate_left
      · simp only [Act.put, List.setIfInBounds_toArray, List.set_cons_zero, List.set_cons_succ, i64_w, i32_w]
        rfl
      refine pure_ (i := 2) (N := some 16) (v := ?_) (a' := ?_) #[false, true, true, false, false, false, false, false, false, false, false] rfl rfl (by kernel_rfl) (fun _ _ _ h => h) (Or.inl ⟨by rfl, ?_⟩) ?_ ?_
      rotate_left
      · intro w'
        go_simp
        with_reducible rfl
      rotate_left
      · simp only [Act.put, List.setIfInBounds_toArray, List.set_cons_zero, List.set_cons_succ, i64_w, i32_w]
        rfl
      refine pure_ (i := 3) (N := some 17) (v := ?_) (a' := ?_) #[false, true, true, true, false, false, false, false, false, false, false] rfl rfl (by kernel_rfl) (fun _ _ _ h => h) (Or.inl ⟨by rfl, ?_⟩) ?_ ?_
      rotate_left
      · intro w'
        go_simp
        with_reducible rfl
      rotate_left
      · simp only [Act.put, List.setIfInBounds_toArray, List.set_cons_zero, List.set_cons_succ, i64_w, i32_w]
        rfl
      refine pure_ (i := 4) (N := some 18) (v := ?_) (a' := ?_) #[false, true, true, true, true, false, false, false, false, false, false] rfl rfl (by kernel_rfl) (fun _ _ _ h => h) (Or.inl ⟨by rfl, ?_⟩) ?_ ?_
      rotate_left
      · intro w'
        go_simp
        with_reducible rfl
      rotate_left
      · simp only [Act.put, List.setIfInBounds_toArray, List.set_cons_zero, List.set_cons_succ, i64_w, i32_w]
        rfl
      refine pure_ (i := 6) (N := some 20) (v := ?_) (a' := ?_) #[false, true, true, true, true, false, true, false, false, false, false] rfl rfl (by kernel_rfl) (fun _ _ _ h => h) (Or.inl ⟨by rfl, ?_⟩) ?_ ?_
      rotate_left
      · intro w'
        go_simp
        with_reducible rfl
      rotate_left
      · simp only [Act.put, List.setIfInBounds_toArray, List.set_cons_zero, List.set_cons_succ, i64_w, i32_w]
        rfl
      refine pure_ (i := 7) (N := some 21) (v := ?_) (a' := ?_) #[false, true, true, true, true, false, true, true, false, false, false] rfl rfl (by kernel_rfl) (fun _ _ _ h => h) (Or.inl ⟨by rfl, ?_⟩) ?_ ?_
      rotate_left
      · intro w'
        go_simp
        with_reducible rfl
      rotate_left
      · simp only [Act.put, List.setIfInBounds_toArray, List.set_cons_zero, List.set_cons_succ, i64_w, i32_w]
        rfl
      refine take_ (i := 0) (N := some 14) (v := ?_) (a' := ?_) #[true, true, true, true, true, false, true, true, false, false, false] rfl rfl (by kernel_rfl) (fun _ _ _ h => h) (Or.inl ⟨by rfl, ?_⟩) hHeld ?_ ?_
      rotate_left
      · rintro w' ⟨s0, s1⟩
        go_simp
        with_reducible rfl
      rotate_left
      · simp only [Act.put, List.setIfInBounds_toArray, List.set_cons_zero, List.set_cons_succ, i64_w, i32_w]
        rfl
      refine two_ (i := 5) (j := 8) #[true, true, true, true, true, true, true, true, false, false, false] #[true, true, true, true, true, false, true, true, true, false, false] rfl rfl rfl rfl (by kernel_rfl) (by decide) (by decide) ?_ ?_
      · intro K hK
        refine goes_ Try.func62 (by kernel_rfl) rfl #[.slice A (told s pre).length c, .int .i64 (2 * (p.size : Int) + 1)] rfl rfl rfl (by simp only [List.map_toArray, List.map_cons, List.map_nil]; rfl) ?_
        refine (HC2.out _ (pw_below_drewN (Below.refl _ _) 1)).mono ?_
        rintro e W2 ⟨v2, rfl, hR2, hb2⟩
        refine ⟨v2, rfl, ?_⟩
        have HM2 := Aside0.mk ((Mid.refl HB.out).drew.below hb2)
        have HR2 := Aside0.mk (Kd.R_lower hR2 HB.out.size)
        clear hR2 hb2
        refine hK.out _ _ ⟨(blk_cell (HM2.out.keep R 38 _ _ (by decide) H1.out) 0).trans rfl, blk_frozen (HM2.out.keep R 38 _ _ (by decide) H1.out) 0⟩ (fun _ => ?_)
        refine one_ (i := 8) #[true, true, true, true, true, true, true, true, true, false, false] rfl rfl (by kernel_rfl) (by decide) ?_
        intro K2 hK2
        go_simp
        have HM3 := Aside0.mk (HM2.out.alloc (.cells #[.int .u8 (bt p 0)] 5))
        have HR3 := Aside0.mk (Kd.R_alloc HR2.out (.cells #[.int .u8 (bt p 0)] 5))
        have HX := Aside0.mk (lit_int (heap_alloc_new W2 (.cells #[.int .u8 (bt p 0)] 5)))
        refine hK2.out _ _ ⟨(blk_cell (HM3.out.keep R 38 _ _ (by decide) H1.out) 0).trans rfl, blk_frozen (HM3.out.keep R 38 _ _ (by decide) H1.out) 0⟩ (fun _ => ?_)
        refine one_ (i := 9) #[true, true, true, true, true, true, true, true, true, true, false] rfl rfl (by kernel_rfl) (by decide) ?_
        intro K3 hK3
        refine Kd.R_append_rows_step (Kd.int .u8) (w0 := w) w.heap.size rfl (.tmp 19) (.tmp 22) 38 5 (.int .u8 0) 1 rfl Try.underlying38 info5 rfl (by decide) (by decide) _ (told s pre ++ ints (cntB (2 * (p.size : Int) + 1).toNat)) [bt p 0] (some ⟨W2.heap.size, 0, none⟩) 1 1 (fun _ => True) (fun _ => False) rfl rfl HR3.out HX.out (fun x cs h => h) (fun _ h => h.elim) (fun _ _ => trivial) HM3.out.bel HM3.out.bel.size HL2.out ?_
        intro v3 W3 hR4 hb4 hg4 _
        have HM4 := Aside0.mk (HM3.out.grown HR3.out hg4)
        have HR4 := Aside0.mk hR4
        obtain ⟨A3, c3, hv3, _, _⟩ := Kd.R_reads hR4
        subst hv3
        have cR3 := (blk_cell (HM4.out.keep R 38 _ _ (by decide) H1.out) 0).trans rfl
        have fR3 := blk_frozen (HM4.out.keep R 38 _ _ (by decide) H1.out) 0
        clear hR4 hb4 hg4
        refine hK3.out _ _ ⟨(blk_cell (HM4.out.keep R 38 _ _ (by decide) H1.out) 0).trans rfl, blk_frozen (HM4.out.keep R 38 _ _ (by decide) H1.out) 0⟩ (fun _ => ?_)
        refine last_ (i := 10) #[true, true, true, true, true, true, true, true, true, true, true] rfl rfl (by kernel_rfl) (by decide) ?_
        intro K4 hK4
        go_simp
        refine hK4.out _ _ ?_
        refine done_ (by kernel_rfl) ?_
        exact HM4.out.end_ (by omega) HRR.out H1.out H2.out (by
          have h := HR4.out
          have e : (2 * (p.size : Int) + 1).toNat = 2 * p.size + 1 := by omega
          rw [told_snoc, HT.out, ← List.append_assoc]
          rw [e] at h ⊢
          simpa [Nat.add_assoc] using h) { tmps := #[], defers := [] }
      · intro K hK
        go_simp
        have HM1 := Aside0.mk ((Mid.refl HB.out).drew.alloc (.cells #[.int .u8 (bt p 0)] 5))
        have HY := Aside0.mk (heap_alloc_new W.drew (.cells #[.int .u8 (bt p 0)] 5))
        refine hK.out _ _ ⟨(blk_cell (HM1.out.keep R 38 _ _ (by decide) H1.out) 0).trans rfl, blk_frozen (HM1.out.keep R 38 _ _ (by decide) H1.out) 0⟩ (fun _ => ?_)
        refine one_ (i := 5) #[true, true, true, true, true, true, true, true, true, false, false] rfl rfl (by kernel_rfl) (by decide) ?_
        intro K2 hK2
        refine goes_ Try.func62 (by kernel_rfl) rfl #[.slice A (told s pre).length c, .int .i64 (2 * (p.size : Int) + 1)] rfl rfl rfl (by simp only [List.map_toArray, List.map_cons, List.map_nil]; rfl) ?_
        refine (HC2.out _ ((pw_below_drewN (Below.refl _ _) 1).alloc (by simp) _)).mono ?_
        rintro e W2 ⟨v2, rfl, hR2, hb2⟩
        refine ⟨v2, rfl, ?_⟩
        have HM2 := Aside0.mk (HM1.out.below hb2)
        have HR2 := Aside0.mk (Kd.R_lower (base' := w.heap.size) hR2 (by have := HB.out.size; simp; omega))
        have HX := Aside0.mk (lit_int ((hb2.block W.heap.size (by simp)).trans HY.out))
        clear hR2 hb2
        have HM3 := HM2
        have HR3 := HR2
        refine hK2.out _ _ ⟨(blk_cell (HM3.out.keep R 38 _ _ (by decide) H1.out) 0).trans rfl, blk_frozen (HM3.out.keep R 38 _ _ (by decide) H1.out) 0⟩ (fun _ => ?_)
        refine one_ (i := 9) #[true, true, true, true, true, true, true, true, true, true, false] rfl rfl (by kernel_rfl) (by decide) ?_
        intro K3 hK3
        refine Kd.R_append_rows_step (Kd.int .u8) (w0 := w) w.heap.size rfl (.tmp 19) (.tmp 22) 38 5 (.int .u8 0) 1 rfl Try.underlying38 info5 rfl (by decide) (by decide) _ (told s pre ++ ints (cntB (2 * (p.size : Int) + 1).toNat)) [bt p 0] (some ⟨W.heap.size, 0, none⟩) 1 1 (fun _ => True) (fun _ => False) rfl rfl HR3.out HX.out (fun x cs h => h) (fun _ h => h.elim) (fun _ _ => trivial) HM3.out.bel HM3.out.bel.size HL2.out ?_
        intro v3 W3 hR4 hb4 hg4 _
        have HM4 := Aside0.mk (HM3.out.grown HR3.out hg4)
        have HR4 := Aside0.mk hR4
        obtain ⟨A3, c3, hv3, _, _⟩ := Kd.R_reads hR4
        subst hv3
        have cR3 := (blk_cell (HM4.out.keep R 38 _ _ (by decide) H1.out) 0).trans rfl
        have fR3 := blk_frozen (HM4.out.keep R 38 _ _ (by decide) H1.out) 0
        clear hR4 hb4 hg4
        refine hK3.out _ _ ⟨(blk_cell (HM4.out.keep R 38 _ _ (by decide) H1.out) 0).trans rfl, blk_frozen (HM4.out.keep R 38 _ _ (by decide) H1.out) 0⟩ (fun _ => ?_)
        refine last_ (i := 10) #[true, true, true, true, true, true, true, true, true, true, true] rfl rfl (by kernel_rfl) (by decide) ?_
        intro K4 hK4
        go_simp
        refine hK4.out _ _ ?_
        refine done_ (by kernel_rfl) ?_
        exact HM4.out.end_ (by omega) HRR.out H1.out H2.out (by
          have h := HR4.out
          have e : (2 * (p.size : Int) + 1).toNat = 2 * p.size + 1 := by omega
          rw [told_snoc, HT.out, ← List.append_assoc]
          rw [e] at h ⊢
          simpa [Nat.add_assoc] using h) { tmps := #[], defers := [] }
  case done =>
    rintro D W hD ⟨⟨v, u, h1, h2, h3⟩, hB⟩ hK
    obtain ⟨A, c, rfl, hlc, hC⟩ := Kd.R_reads h3
    have cR : W.cell? ⟨R, 0, none⟩ = some (.slice A (told s (partsR (s.size + 1) s)).length c) := (blk_cell h1 0).trans rfl
    have fR : W.frozen? ⟨R, 0, none⟩ = false := blk_frozen h1 0
    obtain hcv := own_string (P := Try.prog) Try.underlying38 Try.underlying5 Try.underlying9 (Kd.own_of_R h3)
    have HE := Aside0.mk (show strOfNums (told s (partsR (s.size + 1) s)) = ⟨(runsB s.data.toList).toArray⟩ by
      unfold told runsB
      rw [partsR_runs (s.size + 1) s (by omega), ← ints_append, ← Lib.size_eq]
      exact str_ints _)
    have HBD := Aside0.mk (show w.heap.size ≤ D by omega)
    have HK := Aside0.mk hK
    have HB := Aside0.mk hB
    clear h1 h2 h3 hC hB hb0 hR0 hB0 hK0
    gi_wp2
    refine ⟨by simp, .inl ⟨_, _, rfl, run_takeDeferred HK.out, ?_⟩⟩
    refine ⟨.string (strOfNums (told s (partsR (s.size + 1) s))), ?_, by rw [HE.out], HB.out.trans (belowK_b (w := w) (Nat.le_refl _) W D _ _ HBD.out HK.out rfl rfl)⟩
    simp [results, Try.f32, go_sem]
  case stop =>
    rintro D c pre W hD hpre hx hK
    exact hx.elim

/-! The form that the printed texts name. -/
def pack_Runs.f (a0 : ByteArray) : Option ByteArray := if a0.size ≤ 100000 then some ⟨(runsB a0.data.toList).toArray⟩ else none
theorem pack_Runs.calls (a0 : ByteArray) (r : ByteArray) (w : World) (h : pack_Runs.f a0 = some r) :
    Calls Try.prog 32 #[.string a0] w fun e w' => e = .returned (.string r) ∧ Below w.heap.size w w' := by
  unfold pack_Runs.f at h
  split at h
  · rename_i hc
    cases h
    exact (callsIn_wide (n := 3)).1 (Runs_in a0 hc w)
  · cases h
#print axioms pack_Runs.calls
end Go.Proofs.Ytgbkoeinfhlpoaa.F
