/- PackApart: the plain law. -/
import Derived.Test.YtgbkoeinfhlpoaaFx36
import Derived.Test.YtgbkoeinfhlpoaaEPkAwake
import Derived.Test.YtgbkoeinfhlpoaaEQRef
namespace Go.Proofs.Ytgbkoeinfhlpoaa.F
open Go.RowKit Go.Shelf Go.Proofs Go.Proofs.YtgbkoeinfhlpoaaW.PrintWords Go.Proofs.YtgbkoeinfhlpoaaW.PrintLast Go.Proofs.YtgbkoeinfhlpoaaW.PrintMore
set_option linter.unusedVariables false
set_option linter.unusedSimpArgs false
set_option linter.unusedSectionVars false

theorem pair_eq {a b : ByteArray × Bool} (h1 : a.2 = b.2) (h2 : a.1.toList = b.1.toList) : a = b := Prod.ext (bytes_ext h2) h1
theorem unlike_iff (a b : List S33) (q : ByteArray) : unlike a b q = true ↔ getE a q.toList ≠ getE b q.toList := by
  unfold unlike
  rw [Bool.or_eq_true, bne_iff_ne, bne_iff_ne]
  constructor
  · rintro (h | h) e <;> exact h (by rw [e])
  · intro h
    by_cases h1 : (getE a q.toList).2 = (getE b q.toList).2
    · exact .inr fun h2 => h (pair_eq h1 h2)
    · exact .inl h1
/-- What is unlike has a path. -/
theorem unlike_path {a b : List S33} {q : ByteArray} (h : unlike a b q = true) : ∃ f ∈ a ++ b, f.f0 = q := by
  rw [unlike_iff] at h
  apply Decidable.byContradiction
  intro hno
  have hn : ∀ f ∈ a ++ b, f.p ≠ q.toList := fun f hf e => hno ⟨f, hf, bytes_ext e⟩
  refine h ?_
  rw [getE_not (fun f hf => hn f (List.mem_append_left _ hf)), getE_not (fun f hf => hn f (List.mem_append_right _ hf))]
theorem changed_mem (a b : List S33) (q : ByteArray) : q ∈ changedE a b ↔ unlike a b q = true := by
  unfold changedE
  rw [setB_mem]
  unfold outE
  simp only [List.mem_map, List.mem_filter]
  constructor
  · rintro ⟨f, ⟨hf, hu⟩, rfl⟩; exact hu
  · intro h
    obtain ⟨f, hf, rfl⟩ := unlike_path h
    exact ⟨f, ⟨hf, h⟩, rfl⟩
theorem unlike_comm (a b : List S33) (q : ByteArray) : unlike a b q = unlike b a q := by
  rw [Bool.eq_iff_iff, unlike_iff, unlike_iff]
  exact ne_comm
theorem changed_rises (a b : List S33) : ((changedE a b).map (fun x : ByteArray => x.toList)).Pairwise (· < ·) := (setB_spec _).1
theorem changed_is {a b : List S33} {m : List ByteArray} (h1 : (m.map (fun x : ByteArray => x.toList)).Pairwise (· < ·)) (h2 : ∀ q, q ∈ m ↔ unlike a b q = true) : changedE a b = m := by
  refine lists_inj (rises_ext _ _ (changed_rises a b) h1 fun x => ?_)
  simp only [List.mem_map]
  exact ⟨fun ⟨y, hy, e⟩ => ⟨y, (h2 y).mpr ((changed_mem a b y).mp hy), e⟩, fun ⟨y, hy, e⟩ => ⟨y, (changed_mem a b y).mpr ((h2 y).mp hy), e⟩⟩
theorem changed_comm (a b : List S33) : changedE b a = changedE a b :=
  changed_is (changed_rises a b) fun q => by rw [changed_mem, unlike_comm]
theorem changed_len (a b : List S33) : (changedE a b).length ≤ a.length + b.length := by
  unfold changedE setB compactB
  rw [List.length_map]
  refine Nat.le_trans (compact_len_le _) ?_
  rw [List.length_map, sortB_length]
  have := outE_length a b (a ++ b)
  rwa [List.length_append] at this

theorem pw_ext {α : Type} {r : α → α → Prop} (asym : ∀ a b, r a b → ¬ r b a) : ∀ (a b : List α), a.Pairwise r → b.Pairwise r → (∀ x, x ∈ a ↔ x ∈ b) → a = b
  | [], [], _, _, _ => rfl
  | [], y :: b, _, _, h => absurd ((h y).mpr List.mem_cons_self) (by simp)
  | x :: a, [], _, _, h => absurd ((h x).mp List.mem_cons_self) (by simp)
  | x :: a, y :: b, ha, hb, h => by
    rw [List.pairwise_cons] at ha hb
    have e : x = y := by
      rcases List.mem_cons.mp ((h x).mp List.mem_cons_self) with h1 | h1
      · exact h1
      · rcases List.mem_cons.mp ((h y).mpr List.mem_cons_self) with h2 | h2
        · exact h2.symm
        · exact absurd (ha.1 y h2) (asym _ _ (hb.1 x h1))
    subst e
    rw [pw_ext asym a b ha.2 hb.2 fun z => ?_]
    constructor
    · intro hz
      rcases List.mem_cons.mp ((h z).mp (List.mem_cons_of_mem _ hz)) with h1 | h1
      · subst h1; exact absurd (ha.1 z hz) (asym _ _ (ha.1 z hz))
      · exact h1
    · intro hz
      rcases List.mem_cons.mp ((h z).mpr (List.mem_cons_of_mem _ hz)) with h1 | h1
      · subst h1; exact absurd (hb.1 z hz) (asym _ _ (hb.1 z hz))
      · exact h1

theorem get_sub {a b : List S33} (Ga : Good a) (Gb : Good b) (h : changedE a b = []) : ∀ f ∈ a, f ∈ b := by
  intro f hf
  have hu : unlike a b f.f0 = false := by
    cases hc : unlike a b f.f0 with
    | false => rfl
    | true =>
      have := (changed_mem a b f.f0).mpr hc
      rw [h] at this
      cases this
  have hg : getE a f.p = getE b f.p := by
    apply Decidable.byContradiction
    intro hne
    rw [(unlike_iff a b f.f0).mpr hne] at hu
    cases hu
  rw [getE_mem Ga.apart hf] at hg
  have : ∃ g ∈ b, g.p = f.p := by
    apply Decidable.byContradiction
    intro hno
    rw [getE_not (fun g hg he => hno ⟨g, hg, he⟩)] at hg
    injection hg with _ h2
    cases h2
  obtain ⟨g, hgb, hp⟩ := this
  rw [← hp, getE_mem Gb.apart hgb] at hg
  injection hg with h1 _
  have : f = g := s33_eq hp.symm (by rw [h1])
  rw [this]
  exact hgb
theorem good_same {a b : List S33} (ha : checkE a = 0) (hb : checkE b = 0) : changedE a b = [] ↔ a = b := by
  have Ga := good_of ha
  have Gb := good_of hb
  constructor
  · intro h
    refine pw_ext (r := fun f g => ltB f.p g.p = true) (fun x y h1 h2 => by rw [ltB_asymm h1] at h2; cases h2) a b (rising_pair a Ga.rising) (rising_pair b Gb.rising) fun f => ⟨get_sub Ga Gb h f, get_sub Gb Ga (by rw [changed_comm]; exact h) f⟩
  · rintro rfl
    refine List.eq_nil_iff_forall_not_mem.mpr fun q hq => ?_
    exact (unlike_iff a a q).mp ((changed_mem a a q).mp hq) rfl

/-! ### the loops -/
theorem rd_at (l : List ByteArray) (j : Nat) : rdOf ByteArray.empty l (j : Int) = l.getD j ByteArray.empty := by simp [rdOf]
theorem found_iff (l : List ByteArray) (j : Nat) (b : Bool) (q : ByteArray) (hj : j < l.length) : (b = true ∨ q ∈ l.drop j) ↔ ((b || ((l.getD j ByteArray.empty).toList == q.toList)) = true ∨ q ∈ l.drop (j + 1)) := by
  rw [drop_at l ByteArray.empty j hj, List.mem_cons, Bool.or_eq_true, beq_iff_eq]
  constructor
  · rintro (h | h | h)
    · exact .inl (.inl h)
    · exact .inl (.inr (by rw [h]))
    · exact .inr h
  · rintro ((h | h) | h)
    · exact .inl h
    · exact .inr (.inl (bytes_ext h).symm)
    · exact .inr (.inr h)
section
variable (x y z : List ByteArray) (hx : x.length ≤ 1000000) (hy : y.length ≤ 1000000) (hz : z.length ≤ 1000000)
include hx hy hz
theorem apart_l2 (i : Nat) (hi : i < z.length) (hr : 0 < i → Op.bytesLess (z.getD (i - 1) ByteArray.empty).toList (z.getD i ByteArray.empty).toList = true) (K : Nat) (hn : ∀ k, K ≤ k → bastionlaw18_PackApart.l0 k x y z ((i + 1 : Nat) : Int) = some true) :
    ∀ (d j k : Nat) (b : Bool), y.length - j = d → (b = true ∨ z.getD i ByteArray.empty ∈ y.drop j) → K + d + 1 ≤ k → bastionlaw18_PackApart.l2 k x y z (i : Int) b (j : Int) = some true
  | d, j, 0, b, _, _, hk => by omega
  | d, j, k + 1, b, hd, hb, hk => by
    unfold bastionlaw18_PackApart.l2
    by_cases h1 : j < y.length
    · have hb2 := (found_iff y j b (z.getD i ByteArray.empty) h1).mp hb
      have ih := fun b' hb' => apart_l2 i hi hr K hn (d - 1) (j + 1) k b' (by omega) hb' (by omega)
      rw [if_pos (by omega)]
      cases b with
      | true =>
        rw [if_pos rfl, wrap_next (by omega)]
        exact ih true (.inl rfl)
      | false =>
        rw [if_neg (by simp), if_pos (by omega), if_pos (by omega), if_pos (by omega), wrap_next (by omega), rd_at, rd_at]
        exact ih _ hb2
    · have hbt : b = true := by
        rcases hb with h | h
        · exact h
        · rw [List.drop_of_length_le (by omega)] at h; cases h
      rw [if_neg (by omega), if_pos hbt]
      by_cases h2 : 0 < i
      · have e : wrap64 ((i : Int) - 1) = ((i - 1 : Nat) : Int) := by unfold wrap64; omega
        rw [if_pos (by omega), e, if_pos (by omega), if_pos (by omega), if_pos (by omega), if_pos (by omega), rd_at, rd_at, if_pos (hr h2), wrap_next (by omega)]
        exact hn k (by omega)
      · rw [if_neg (by omega), wrap_next (by omega)]
        exact hn k (by omega)
theorem apart_l1 (i : Nat) (hi : i < z.length) (hr : 0 < i → Op.bytesLess (z.getD (i - 1) ByteArray.empty).toList (z.getD i ByteArray.empty).toList = true) (K : Nat) (hn : ∀ k, K ≤ k → bastionlaw18_PackApart.l0 k x y z ((i + 1 : Nat) : Int) = some true) :
    ∀ (d j k : Nat) (b : Bool), x.length - j = d → ((b = true ∨ z.getD i ByteArray.empty ∈ x.drop j) ∨ z.getD i ByteArray.empty ∈ y) → K + y.length + 2 + d ≤ k → bastionlaw18_PackApart.l1 k x y z (i : Int) b (j : Int) = some true
  | d, j, 0, b, _, _, hk => by omega
  | d, j, k + 1, b, hd, hb, hk => by
    unfold bastionlaw18_PackApart.l1
    by_cases h1 : j < x.length
    · have hb2 := (or_congr (found_iff x j b (z.getD i ByteArray.empty) h1) Iff.rfl).mp hb
      have ih := fun b' hb' => apart_l1 i hi hr K hn (d - 1) (j + 1) k b' (by omega) hb' (by omega)
      rw [if_pos (by omega)]
      cases b with
      | true =>
        rw [if_pos rfl, wrap_next (by omega)]
        exact ih true (.inl (.inl rfl))
      | false =>
        rw [if_neg (by simp), if_pos (by omega), if_pos (by omega), if_pos (by omega), wrap_next (by omega), rd_at, rd_at]
        exact ih _ hb2
    · rw [if_neg (by omega)]
      refine apart_l2 x y z hx hy hz i hi hr K hn y.length 0 k b (by omega) ?_ (by omega)
      rcases hb with (h | h) | h
      · exact .inl h
      · rw [List.drop_of_length_le (by omega)] at h; cases h
      · exact .inr h
theorem apart_l0 (hf : ∀ q ∈ z, q ∈ x ∨ q ∈ y) (hs : (z.map (fun x : ByteArray => x.toList)).Pairwise (· < ·)) : ∀ (d i k : Nat), z.length - i = d → (x.length + y.length + 10) * d + 1 ≤ k → bastionlaw18_PackApart.l0 k x y z (i : Int) = some true
  | d, i, 0, _, hk => by omega
  | d, i, k + 1, hd, hk => by
    unfold bastionlaw18_PackApart.l0
    by_cases h1 : i < z.length
    · rw [if_pos (by omega)]
      obtain ⟨d, rfl⟩ : ∃ m, d = m + 1 := ⟨d - 1, by omega⟩
      have hm : z.getD i ByteArray.empty ∈ z := by simp [h1]
      have hr : 0 < i → Op.bytesLess (z.getD (i - 1) ByteArray.empty).toList (z.getD i ByteArray.empty).toList = true := by
        intro h
        have h2 := List.pairwise_iff_getElem.mp hs (i - 1) i (by rw [List.length_map]; omega) (by rw [List.length_map]; exact h1) (by omega)
        rw [List.getElem_map, List.getElem_map] at h2
        have h3 := ltB_eq (z.getD (i - 1) ByteArray.empty).toList (z.getD i ByteArray.empty).toList
        unfold ltB at h3
        rw [h3, decide_eq_true_eq]
        simpa [show i - 1 < z.length by omega, h1] using h2
      have hmul : (x.length + y.length + 10) * (d + 1) = (x.length + y.length + 10) * d + (x.length + y.length + 10) := by rw [Nat.mul_succ]
      refine apart_l1 x y z hx hy hz i h1 hr ((x.length + y.length + 10) * d + 1) (fun k hk => apart_l0 hf hs d (i + 1) k (by omega) hk) x.length 0 k false (by omega) ?_ (by rw [hmul] at hk; omega)
      rcases hf _ hm with h | h
      · exact .inl (.inr h)
      · exact .inr h
    · rw [if_neg (by omega)]
end

theorem pj0_eq (k : Nat) (x0 x1 x2 : List S33) (x27 : Bool) : bastionlaw18_PackApart.j0 (k + 1) x0 x1 x2 x27 = if x27 = true then ((bastionlaw18_awake.f k).bind fun t394 => (some t394)) else ((pack_Changed.f x0 x1).bind fun t395 => ((pack_Changed.f x1 x2).bind fun t398 => ((pack_Changed.f x0 x2).bind fun t401 => ((pack_Changed.f x1 x0).bind fun t404 => ((bastionref02_Same.f k t395 t404).bind fun t407 => (if t407 = true then ((bastionref17_Check.f k x0).bind fun t408 => (if t408 = 0 then ((bastionref17_Check.f k x1).bind fun t409 => (if t409 = 0 then ((bastionref17_Same.f k x0 x1).bind fun t410 => (bastionlaw18_PackApart.j1 k t395 t398 t401 (((t395.length : Int) == 0) != t410))) else (bastionlaw18_PackApart.j1 k t395 t398 t401 false))) else (bastionlaw18_PackApart.j1 k t395 t398 t401 false))) else (none))))))) := by
  unfold bastionlaw18_PackApart.j0; rfl
theorem pj1_eq (k : Nat) (x7 x8 x9 : List ByteArray) (x60 : Bool) : bastionlaw18_PackApart.j1 (k + 1) x7 x8 x9 x60 = if x60 = true then (none) else (bastionlaw18_PackApart.l0 k x7 x8 x9 0) := by
  unfold bastionlaw18_PackApart.j1; rfl
theorem unlike_step {a b c : List S33} {q : ByteArray} (h : unlike a c q = true) : unlike a b q = true ∨ unlike b c q = true := by
  rw [unlike_iff] at *
  rw [unlike_iff]
  by_cases h1 : getE a q.toList = getE b q.toList
  · exact .inr (by rw [← h1]; exact h)
  · exact .inl h1

open Classical in
theorem PackApart_pure (l0 l1 l2 : List S33) (y0 : Light l0) (y1 : Light l1) (y2 : Light l2) : ∃ k, bastionlaw18_PackApart.f k l0 l1 l2 = some true := by
  obtain ⟨K4, haw⟩ := awake_true
  obtain ⟨M, hM⟩ : ∃ M, M = ((changedE l0 l1).length + (changedE l1 l2).length + 10) * (changedE l0 l2).length := ⟨_, rfl⟩
  obtain ⟨B, hB⟩ : ∃ B, B = big l0.length + big l1.length := ⟨_, rfl⟩
  obtain ⟨k, hk⟩ : ∃ k, k = K4 + M + B + 3 * (l0.length + l1.length + l2.length) + 20 := ⟨_, rfl⟩
  refine ⟨k + 3, ?_⟩
  have haw1 := haw (k + 3) (by omega)
  have haw2 := haw (k + 2) (by omega)
  obtain ⟨b0, hl0, hb0⟩ := large18 y0 (k + 3) (by omega)
  obtain ⟨b1, hl1, hb1⟩ := large18 y1 (k + 3) (by omega)
  obtain ⟨b2, hl2, hb2⟩ := large18 y2 (k + 3) (by omega)
  dsimp only at haw1 haw2
  have hj : bastionlaw18_PackApart.j0 (k + 3) l0 l1 l2 true = some true := by
    rw [pj0_eq (k + 2), if_pos rfl, haw2]; rfl
  unfold bastionlaw18_PackApart.f
  rw [hl0, Option.bind_some]
  by_cases c0 : b0 = true
  · rw [if_pos c0]; exact hj
  rw [if_neg c0, hl1, Option.bind_some]
  by_cases c1 : b1 = true
  · rw [if_pos c1]; exact hj
  rw [if_neg c1, hl2, Option.bind_some]
  by_cases c2 : b2 = true
  · rw [if_pos c2]; exact hj
  rw [if_neg c2, haw1, Option.bind_some]
  have n0 := hb0 (by simpa using c0)
  have n1 := hb1 (by simpa using c1)
  have n2 := hb2 (by simpa using c2)
  have q01 := changed_len l0 l1
  have q12 := changed_len l1 l2
  have q02 := changed_len l0 l2
  have fx : ∀ a b : List S33, a.length ≤ 40000 → b.length ≤ 40000 → pack_Changed.f a b = some (changedE a b) := fun a b ha hb => by unfold pack_Changed.f; rw [if_pos ⟨by omega, by omega⟩]
  have hend : ∀ k', k ≤ k' → bastionlaw18_PackApart.j1 (k' + 1) (changedE l0 l1) (changedE l1 l2) (changedE l0 l2) false = some true := by
    intro k' hk'
    rw [pj1_eq, if_neg (by simp)]
    refine apart_l0 _ _ _ (by omega) (by omega) (by omega) (fun q hq => ?_) (changed_rises l0 l2) _ 0 k' rfl (by rw [Nat.sub_zero, ← hM]; omega)
    rw [changed_mem] at *
    rw [changed_mem]
    exact unlike_step hq
  rw [pj0_eq (k + 2), if_neg (by simp), fx l0 l1 n0 n1, Option.bind_some, fx l1 l2 n1 n2, Option.bind_some, fx l0 l2 n0 n2, Option.bind_some, fx l1 l0 n1 n0, Option.bind_some]
  rw [changed_comm l0 l1, same02 _ _ (by omega) (k + 2) (by omega), Option.bind_some, if_pos (by simp)]
  rw [refCheck l0 (by omega) (k + 2) (by omega), Option.bind_some]
  by_cases d0 : checkE l0 = 0
  · rw [if_pos d0, refCheck l1 (by omega) (k + 2) (by omega), Option.bind_some]
    by_cases d1 : checkE l1 = 0
    · rw [if_pos d1, same17 l0 l1 (by omega) (k + 2) (by omega), Option.bind_some]
      have e : ((((changedE l0 l1).length : Int) == 0) != decide (l0 = l1)) = false := by
        rw [bne_eq_false_iff_eq, Bool.eq_iff_iff, beq_iff_eq, decide_eq_true_eq, ← good_same d0 d1]
        constructor
        · intro h; exact List.eq_nil_of_length_eq_zero (by omega)
        · intro h; rw [h]; rfl
      rw [e]
      exact hend (k + 1) (by omega)
    · rw [if_neg d1]
      exact hend (k + 1) (by omega)
  · rw [if_neg d0]
    exact hend (k + 1) (by omega)

theorem PackApart_law (A0 : Option Addr) (c0 : Nat) (l0 : List S33) (A1 : Option Addr) (c1 : Nat) (l1 : List S33) (A2 : Option Addr) (c2 : Nat) (l2 : List S33) (w : World) (hr0 : Kd.C k33 w A0 l0.length l0) (hc0 : l0.length ≤ c0) (y0 : Light l0) (hr1 : Kd.C k33 w A1 l1.length l1) (hc1 : l1.length ≤ c1) (y1 : Light l1) (hr2 : Kd.C k33 w A2 l2.length l2) (hc2 : l2.length ≤ c2) (y2 : Light l2) :
    Calls Try.prog 13 #[.slice A0 l0.length c0, .slice A1 l1.length c1, .slice A2 l2.length c2] w fun e w' => e = .returned (.bool true) ∧ Below w.heap.size w w' := by
  obtain ⟨k, h⟩ := PackApart_pure l0 l1 l2 y0 y1 y2
  exact bastionlaw18_PackApart.calls k A0 c0 l0 A1 c1 l1 A2 c2 l2 true w hr0 hc0 hr1 hc1 hr2 hc2 h
#print axioms PackApart_law
end Go.Proofs.Ytgbkoeinfhlpoaa.F
