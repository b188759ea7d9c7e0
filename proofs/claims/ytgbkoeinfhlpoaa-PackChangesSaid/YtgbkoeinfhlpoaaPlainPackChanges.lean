/- PackChanges: the plain law. -/
import Derived.Test.YtgbkoeinfhlpoaaFx32
import Derived.Test.YtgbkoeinfhlpoaaEPkAwake
namespace Go.Proofs.Ytgbkoeinfhlpoaa.F
open Go.RowKit Go.Shelf Go.Proofs Go.Proofs.YtgbkoeinfhlpoaaW.PrintWords Go.Proofs.YtgbkoeinfhlpoaaW.PrintLast Go.Proofs.YtgbkoeinfhlpoaaW.PrintMore
set_option linter.unusedVariables false
set_option linter.unusedSimpArgs false
set_option linter.unusedSectionVars false

theorem pair_eq {a b : ByteArray × Bool} (h1 : a.2 = b.2) (h2 : a.1.toList = b.1.toList) : a = b := Prod.ext (bytes_ext h2) h1
theorem unlike_iff (a b : List S33) (q : ByteArray) : unlike a b q = true ↔ getE a q.toList ≠ getE b q.toList := by
  unfold unlike
  rw [Bool.or_eq_true, bne_iff_ne, bne_iff_ne]
  constructor
  · rintro (h | h) e <;> exact h (by rw [e])
  · intro h
    by_cases h1 : (getE a q.toList).2 = (getE b q.toList).2
    · exact .inr fun h2 => h (pair_eq h1 h2)
    · exact .inl h1
/-- What is unlike has a path. -/
theorem unlike_path {a b : List S33} {q : ByteArray} (h : unlike a b q = true) : ∃ f ∈ a ++ b, f.f0 = q := by
  rw [unlike_iff] at h
  apply Decidable.byContradiction
  intro hno
  have hn : ∀ f ∈ a ++ b, f.p ≠ q.toList := fun f hf e => hno ⟨f, hf, bytes_ext e⟩
  refine h ?_
  rw [getE_not (fun f hf => hn f (List.mem_append_left _ hf)), getE_not (fun f hf => hn f (List.mem_append_right _ hf))]
theorem changed_mem (a b : List S33) (q : ByteArray) : q ∈ changedE a b ↔ unlike a b q = true := by
  unfold changedE
  rw [setB_mem]
  unfold outE
  simp only [List.mem_map, List.mem_filter]
  constructor
  · rintro ⟨f, ⟨hf, hu⟩, rfl⟩; exact hu
  · intro h
    obtain ⟨f, hf, rfl⟩ := unlike_path h
    exact ⟨f, ⟨hf, h⟩, rfl⟩
theorem unlike_comm (a b : List S33) (q : ByteArray) : unlike a b q = unlike b a q := by
  rw [Bool.eq_iff_iff, unlike_iff, unlike_iff]
  exact ne_comm
theorem changed_rises (a b : List S33) : ((changedE a b).map (fun x : ByteArray => x.toList)).Pairwise (· < ·) := (setB_spec _).1
theorem changed_is {a b : List S33} {m : List ByteArray} (h1 : (m.map (fun x : ByteArray => x.toList)).Pairwise (· < ·)) (h2 : ∀ q, q ∈ m ↔ unlike a b q = true) : changedE a b = m := by
  refine lists_inj (rises_ext _ _ (changed_rises a b) h1 fun x => ?_)
  simp only [List.mem_map]
  exact ⟨fun ⟨y, hy, e⟩ => ⟨y, (h2 y).mpr ((changed_mem a b y).mp hy), e⟩, fun ⟨y, hy, e⟩ => ⟨y, (changed_mem a b y).mpr ((h2 y).mp hy), e⟩⟩
theorem changed_comm (a b : List S33) : changedE b a = changedE a b :=
  changed_is (changed_rises a b) fun q => by rw [changed_mem, unlike_comm]
theorem changed_len (a b : List S33) : (changedE a b).length ≤ a.length + b.length := by
  unfold changedE setB compactB
  rw [List.length_map]
  refine Nat.le_trans (compact_len_le _) ?_
  rw [List.length_map, sortB_length]
  have := outE_length a b (a ++ b)
  rwa [List.length_append] at this


theorem putS_cons (y : ByteArray) (t : List ByteArray) (q : ByteArray) : putS (y :: t) q = if ltB y.toList q.toList = true then y :: putS t q else if y = q then y :: t else q :: y :: t := by
  unfold putS
  conv => lhs; unfold putAt
  by_cases h : ltB y.toList q.toList = true
  · rw [if_pos h, if_pos h]
    simp only [List.getElem?_cons_succ, List.take_succ_cons, List.drop_succ_cons, List.cons_append]
    split <;> rfl
  · rw [if_neg h, if_neg h]
    simp only [List.getElem?_cons_zero, List.take_zero, List.drop_zero, List.nil_append, Option.some.injEq]
theorem putS_mem : ∀ (l : List ByteArray) (q x : ByteArray), x ∈ putS l q ↔ x ∈ l ∨ x = q
  | [], q, x => by simp [putS, putAt]
  | y :: t, q, x => by
    rw [putS_cons]
    by_cases h : ltB y.toList q.toList = true
    · rw [if_pos h, List.mem_cons, putS_mem t q x, List.mem_cons, or_assoc]
    · rw [if_neg h]
      by_cases e : y = q
      · rw [if_pos e, List.mem_cons]
        constructor
        · exact .inl
        · rintro (h1 | h1)
          · exact h1
          · exact .inl (by rw [h1, e])
      · rw [if_neg e, List.mem_cons, or_comm]
theorem lt_of_not {x y : ByteArray} (h : ¬ ltB x.toList y.toList = true) (hne : x ≠ y) : ltB y.toList x.toList = true := by
  cases h2 : ltB y.toList x.toList with
  | true => rfl
  | false => exact absurd (bytes_ext (ltB_eq_of (by simpa using h) h2)) hne
theorem putS_rises : ∀ (l : List ByteArray) (q : ByteArray), l.Pairwise (fun x y => ltB x.toList y.toList = true) → (putS l q).Pairwise (fun x y => ltB x.toList y.toList = true)
  | [], q, _ => by simp [putS, putAt]
  | y :: t, q, h => by
    rw [putS_cons]
    rw [List.pairwise_cons] at h
    by_cases hy : ltB y.toList q.toList = true
    · rw [if_pos hy, List.pairwise_cons]
      refine ⟨fun x hx => ?_, putS_rises t q h.2⟩
      rcases (putS_mem t q x).mp hx with h1 | h1
      · exact h.1 x h1
      · rw [h1]; exact hy
    · rw [if_neg hy]
      by_cases e : y = q
      · rw [if_pos e, List.pairwise_cons]; exact h
      · rw [if_neg e, List.pairwise_cons, List.pairwise_cons]
        have hq := lt_of_not hy e
        refine ⟨fun x hx => ?_, h⟩
        rcases List.mem_cons.mp hx with h1 | h1
        · rw [h1]; exact hq
        · exact ltB_trans hq (h.1 x h1)
theorem refOut_spec (l0 l1 : List S33) : ∀ (m : List S33) (out : List ByteArray), out.Pairwise (fun x y => ltB x.toList y.toList = true) →
    (m.foldl (fun out f => if unlike l0 l1 f.f0 = true then putS out f.f0 else out) out).Pairwise (fun x y => ltB x.toList y.toList = true) ∧
    ∀ x, x ∈ m.foldl (fun out f => if unlike l0 l1 f.f0 = true then putS out f.f0 else out) out ↔ x ∈ out ∨ ∃ f ∈ m, unlike l0 l1 f.f0 = true ∧ f.f0 = x
  | [], out, h => ⟨h, fun x => by simp⟩
  | f :: t, out, h => by
    rw [List.foldl_cons]
    by_cases hu : unlike l0 l1 f.f0 = true
    · rw [if_pos hu]
      obtain ⟨h1, h2⟩ := refOut_spec l0 l1 t (putS out f.f0) (putS_rises out f.f0 h)
      refine ⟨h1, fun x => ?_⟩
      rw [h2, putS_mem]
      constructor
      · rintro ((h3 | h3) | ⟨g, hg, h3⟩)
        · exact .inl h3
        · exact .inr ⟨f, List.mem_cons_self, hu, h3.symm⟩
        · exact .inr ⟨g, List.mem_cons_of_mem _ hg, h3⟩
      · rintro (h3 | ⟨g, hg, h3⟩)
        · exact .inl (.inl h3)
        · rcases List.mem_cons.mp hg with h4 | h4
          · subst h4; exact .inl (.inr h3.2.symm)
          · exact .inr ⟨g, h4, h3⟩
    · rw [if_neg hu]
      obtain ⟨h1, h2⟩ := refOut_spec l0 l1 t out h
      refine ⟨h1, fun x => ?_⟩
      rw [h2]
      constructor
      · rintro (h3 | ⟨g, hg, h3⟩)
        · exact .inl h3
        · exact .inr ⟨g, List.mem_cons_of_mem _ hg, h3⟩
      · rintro (h3 | ⟨g, hg, h3⟩)
        · exact .inl h3
        · rcases List.mem_cons.mp hg with h4 | h4
          · subst h4; exact absurd h3.1 hu
          · exact .inr ⟨g, h4, h3⟩
theorem refOut_is (l0 l1 : List S33) : changedE l0 l1 = refOut l0 l1 (l0 ++ l1) := by
  obtain ⟨h1, h2⟩ := refOut_spec l0 l1 (l0 ++ l1) [] List.Pairwise.nil
  refine changed_is ?_ ?_
  · rw [List.pairwise_map]
    exact h1.imp fun h => by rw [ltB_eq] at h; exact of_decide_eq_true h
  · intro q
    refine (h2 q).trans ?_
    constructor
    · rintro (h | ⟨f, _, hu, rfl⟩)
      · cases h
      · exact hu
    · intro h
      obtain ⟨f, hf, rfl⟩ := unlike_path h
      exact .inr ⟨f, hf, h, rfl⟩

theorem PackChanges_pure (l0 l1 : List S33) (y0 : Light l0) (y1 : Light l1) : ∃ k, bastionlaw18_PackChanges.f k l0 l1 = some true := by
  obtain ⟨K0, haw⟩ := awake_true
  obtain ⟨k, hk⟩ : ∃ k, k = K0 + 2 * l0.length + 2 * l1.length + 2 := ⟨_, rfl⟩
  refine ⟨k, ?_⟩
  have haw := haw k (by omega)
  obtain ⟨b0, hl0, hb0⟩ := large18 y0 k (by omega)
  obtain ⟨b1, hl1, hb1⟩ := large18 y1 k (by omega)
  dsimp only at haw
  have haw1 : ((bastionlaw18_awake.f k).bind fun t => some t) = some true := by rw [haw]; rfl
  unfold bastionlaw18_PackChanges.f
  rw [hl0, Option.bind_some]
  by_cases c0 : b0 = true
  · rw [if_pos c0]; exact haw1
  rw [if_neg c0, hl1, Option.bind_some]
  by_cases c1 : b1 = true
  · rw [if_pos c1]; exact haw1
  have n0 := hb0 (by simpa using c0)
  have n1 := hb1 (by simpa using c1)
  have hq := changed_len l0 l1
  rw [if_neg c1, show pack_Changed.f l0 l1 = some (changedE l0 l1) by unfold pack_Changed.f; rw [if_pos ⟨by omega, by omega⟩], Option.bind_some,
    show bastionref18_Changed.f l0 l1 = some (changedE l0 l1) by unfold bastionref18_Changed.f; rw [if_pos ⟨by omega, by omega⟩, refOut_is], Option.bind_some, same02 _ _ (by omega) k (by omega), Option.bind_some, if_pos (by simp)]
  exact haw1

theorem PackChanges_law (A0 : Option Addr) (c0 : Nat) (l0 : List S33) (A1 : Option Addr) (c1 : Nat) (l1 : List S33) (w : World) (hr0 : Kd.C k33 w A0 l0.length l0) (hc0 : l0.length ≤ c0) (y0 : Light l0) (hr1 : Kd.C k33 w A1 l1.length l1) (hc1 : l1.length ≤ c1) (y1 : Light l1) :
    Calls Try.prog 9 #[.slice A0 l0.length c0, .slice A1 l1.length c1] w fun e w' => e = .returned (.bool true) ∧ Below w.heap.size w w' := by
  obtain ⟨k, h⟩ := PackChanges_pure l0 l1 y0 y1
  exact bastionlaw18_PackChanges.calls k A0 c0 l0 A1 c1 l1 true w hr0 hc0 hr1 hc1 h
#print axioms PackChanges_law
end Go.Proofs.Ytgbkoeinfhlpoaa.F
