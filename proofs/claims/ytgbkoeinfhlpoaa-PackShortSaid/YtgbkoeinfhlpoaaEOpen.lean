/- An argument that is a slice of files: the row that the walk asks, and how much it weighs. 'open_slice_fields' is the how-to's own block (extra-structs). -/
import Derived.Test.YtgbkoeinfhlpoaaFx0
import Derived.Deep.Slices
import Derived.Deep.Fields
import Derived.ChangeSame
import Derived.SizedLaws
namespace Go.Proofs.Ytgbkoeinfhlpoaa.F
open Go.RowKit Go.ChangeShapes Go.WideShapes Go.Deep Go.Proofs.YtgbkoeinfhlpoaaW.PrintWords Go.Proofs.YtgbkoeinfhlpoaaW.PrintLast Go.Proofs.YtgbkoeinfhlpoaaW.PrintMore
set_option linter.unusedVariables false
set_option linter.unusedSimpArgs false

section
variable {H : Type} {enc : TypeId × Value → H} {P : Program} {w : World} {base : Nat} {spare : Nat → Bool} {held : Bool}
theorem open_slice_fields {t e : TypeId} {fs : Array Field} {fuel : Nat} {cs : List Value} {x : DataW H × List MemPlace} (ht : P.underlying t = some (.slice e)) (he : P.underlying e = some (.struct fs))
    (hone : oneCellFields P fs = true) (hC : P.cellsOf e = fs.size) (h : DataW.trod enc P w base spare held fuel t cs = some x) :
    (cs = [.slice none 0 0] ∧ x = (.nil, [])) ∨
    ∃ (a : Addr) (len cap m : Nat) (D : Nat → DataW H) (Pl : Nat → List MemPlace), cs = [.slice (some a) len cap] ∧ base ≤ a.block ∧ len ≤ cap ∧ cap ≤ maxLen ∧ m = (if spare a.block then cap else len) ∧
      x = (.slice ((List.range len).map D) ((List.range (m - len)).map fun j => D (len + j)), MemPlace.row a (m * fs.size) ++ (List.range m).flatMap Pl) ∧
      ∀ i, i < m → ∃ (ys : List (DataW H × List MemPlace)) (n : Nat), D i = .agg (ys.map (·.1)) ∧ Pl i = ys.flatMap (·.2) ∧ ys.length = fs.size ∧
        ∀ (j : Nat) (f : Field), fs[j]? = some f → ∃ (v : Value) (y : DataW H × List MemPlace), w.cell? (a.add (i * fs.size + j)) = some v ∧ ys[j]? = some y ∧ DataW.trod enc P w base spare held n f.type [v] = some y := by
  rcases open_slice ht h with h0 | ⟨a, len, cap, m, n, D, Pl, hcs, hb, hl, hm, hmm, hx, hi⟩
  · exact .inl h0
  · refine .inr ⟨a, len, cap, m, D, Pl, hcs, hb, hl, hm, hmm, by rw [hC] at hx; exact hx, fun i him => ?_⟩
    obtain ⟨cs', hc, ht'⟩ := hi i him
    rw [hC] at hc
    obtain ⟨ys, n', hn', hy, hlen, hyl, hf⟩ := DataW.trod_struct he ht'
    obtain ⟨_, hcl, hat⟩ := World.cells?_some hc
    simp only [Prod.mk.injEq] at hy
    refine ⟨ys, n', hy.1, hy.2, hyl, fun j f hj => ?_⟩
    obtain ⟨ho, hk⟩ := hone_of hone j f hj
    have hjl : j < fs.size := (Array.getElem?_eq_some_iff.1 hj).1
    have hcell := hat j hjl
    have hv : cs'[j]? = some (cs'[j]'(by omega)) := List.getElem?_eq_getElem (by omega)
    have h1 := hf j f hj
    rw [ho, hk] at h1
    have hone' : (cs'.drop j).take 1 = [cs'[j]'(by omega)] := by
      rw [List.drop_eq_getElem_cons (by omega)]
      rfl
    rw [hone'] at h1
    have hys : ys[j]? = some (ys[j]'(by omega)) := List.getElem?_eq_getElem (by omega)
    refine ⟨_, _, ?_, hys, h1.trans hys⟩
    rw [← Go.Deep.add_add, hcell, hv]
end

theorem weighs_all {H : Type} {P : Program} {e : TypeId} : ∀ (l : List (DataW H)) (d : DataW H), d ∈ l → ∀ n ∈ d.weights P e, n ∈ DataW.weightsAll P e l
  | [], _, hd, _, _ => by cases hd
  | x :: t, d, hd, n, hn => by
    unfold DataW.weightsAll
    rw [List.mem_append]
    rcases List.mem_cons.mp hd with rfl | hd
    · exact .inl hn
    · exact .inr (weighs_all t d hd n hn)

/-- What a list of files weighs at most. -/
structure Light (l : List S33) : Prop where
  len : l.length * 32 ≤ 140737488351232
  path : ∀ f ∈ l, f.f0.size ≤ 140737488351232
  data : ∀ f ∈ l, f.f1.size ≤ 140737488351232

set_option maxRecDepth 100000 in
theorem open_files {H : Type} {enc : TypeId × Value → H} {w : World} {base : Nat} {spare : Nat → Bool} {held : Bool} {a : Option Addr} {n c : Nat} {d : DataW H} {ps : List MemPlace}
    (h : DataW.Trod enc Try.prog w base spare held 22 (.slice a n c) d ps) (hw : ∀ x ∈ d.weights Try.prog 22, x ≤ reachBytes) :
    ∃ l : List S33, n = l.length ∧ l.length ≤ c ∧ Kd.C k33 w a l.length l ∧ Light l := by
  obtain ⟨fuel, hf⟩ := h
  rcases open_slice_fields Try.underlying22 Try.underlying33 (by kernel_rfl) (by kernel_rfl) hf with ⟨hcs, _⟩ | ⟨ad, len, cap, m, D, Pl, hcs, _, hl, hm, hmm, hx, hi⟩
  · simp [Value.cells] at hcs
    obtain ⟨rfl, rfl, rfl⟩ := hcs
    exact ⟨[], rfl, Nat.le_refl _, Kd.C_nil _ _, ⟨by simp, by simp, by simp⟩⟩
  · simp [Value.cells] at hcs
    obtain ⟨rfl, rfl, rfl⟩ := hcs
    have hmn : n ≤ m := by
      rw [hmm]
      split
      · exact hl
      · exact Nat.le_refl _
    have hex : ∀ i, ∃ x : S33, i < m → w.cell? (ad.add (i * 2)) = some (.string x.f0) ∧ w.cell? (ad.add (i * 2 + 1)) = some (.string x.f1) ∧ D i = .agg [.lit (.string x.f0.data.toList), .lit (.string x.f1.data.toList)] := by
      intro i
      by_cases him : i < m
      · obtain ⟨ys, k, hD, _, hyl, hfd⟩ := hi i him
        obtain ⟨v0, y0, hc0, hy0, ht0⟩ := hfd 0 _ rfl
        obtain ⟨v1, y1, hc1, hy1, ht1⟩ := hfd 1 _ rfl
        obtain ⟨s0, e0, rfl, _⟩ := DataW.trod_string Try.underlying9 ht0
        obtain ⟨s1, e1, rfl, _⟩ := DataW.trod_string Try.underlying9 ht1
        cases e0; cases e1
        refine ⟨⟨s0, s1⟩, fun _ => ⟨hc0, hc1, ?_⟩⟩
        rw [hD]
        have hlen : ys.length = 2 := hyl
        obtain ⟨z0, z1, rfl⟩ : ∃ z0 z1, ys = [z0, z1] := by
          rcases ys with _ | ⟨z0, _ | ⟨z1, _ | ⟨z2, r⟩⟩⟩
          · cases hlen
          · cases hlen
          · exact ⟨z0, z1, rfl⟩
          · simp at hlen
        simp at hy0 hy1
        rw [hy0, hy1]
        rfl
      · exact ⟨z33, fun h => absurd h him⟩
    obtain ⟨F, hF⟩ := Classical.axiomOfChoice hex
    obtain ⟨hx, _⟩ := Prod.mk.inj hx
    subst hx
    have hmem : ∀ f ∈ (List.range n).map F, ∃ i, i < m ∧ D i ∈ (List.range n).map D ∧ F i = f := by
      intro f hf
      obtain ⟨i, hi', rfl⟩ := List.mem_map.mp hf
      exact ⟨i, by have := List.mem_range.mp hi'; omega, List.mem_map.mpr ⟨i, hi', rfl⟩, rfl⟩
    have hwt : ∀ i, i < m → D i ∈ (List.range n).map D → (F i).f0.size ≤ reachBytes ∧ (F i).f1.size ≤ reachBytes := by
      intro i him hmemD
      have hw2 : ∀ x ∈ (D i).weights Try.prog 33, x ≤ reachBytes := fun x hx => hw x (by
        unfold DataW.weights
        rw [Try.underlying22]
        simp only [List.mem_cons, List.mem_append]
        exact .inr (.inl (weighs_all _ _ hmemD x hx)))
      rw [(hF i him).2.2] at hw2
      unfold DataW.weights at hw2
      rw [Try.underlying33] at hw2
      have e1 : (F i).f0.size = (F i).f0.data.toList.length := (Array.length_toList (xs := (F i).f0.data)).symm
      have e2 : (F i).f1.size = (F i).f1.data.toList.length := (Array.length_toList (xs := (F i).f1.data)).symm
      have hw3 : ∀ x ∈ DataW.weightsEach Try.prog [9, 9] [(.lit (.string (F i).f0.data.toList) : DataW H), .lit (.string (F i).f1.data.toList)], x ≤ reachBytes := hw2
      unfold DataW.weightsEach at hw3
      unfold DataW.weightsEach at hw3
      unfold DataW.weightsEach at hw3
      unfold DataW.weights at hw3
      rw [← e1, ← e2] at hw3
      exact ⟨hw3 _ (List.mem_append_left _ List.mem_cons_self), hw3 _ (List.mem_append_right _ (List.mem_append_left _ List.mem_cons_self))⟩
    refine ⟨(List.range n).map F, by simp, by simpa using hl, ?_, ⟨?_, ?_, ?_⟩⟩
    · refine ⟨by simp, ?_, fun _ => ⟨ad, rfl, fun j p hj => ?_⟩⟩
      · simp
        have : maxLen = 9223372036854775807 := rfl
        omega
      · have hjn : j < n := by
          have := (List.getElem?_eq_some_iff.1 hj).1
          simpa using this
        rw [List.getElem?_map, List.getElem?_range hjn] at hj
        simp only [Option.map_some, Option.some.injEq] at hj
        subst hj
        obtain ⟨h0, h1, _⟩ := hF j (by omega)
        refine ⟨[.string (F j).f0, .string (F j).f1], rfl, k33_mk _ _, fun i u hu => ?_⟩
        have hi2 : i = 0 ∨ i = 1 := by
          have := (List.getElem?_eq_some_iff.1 hu).1
          simp at this
          omega
        rcases hi2 with rfl | rfl
        · simp at hu; subst hu; exact h0
        · simp at hu; subst hu; exact h1
    · have := hw ((((List.range n).map D).length + ((List.range (m - n)).map fun j => D (n + j)).length) * Try.prog.bytesOf 33) (by
        unfold DataW.weights
        rw [Try.underlying22]
        exact List.mem_cons_self)
      have hb : Try.prog.bytesOf 33 = 32 := by kernel_rfl
      have hr : reachBytes = 140737488351232 := rfl
      rw [hb] at this
      simp at this ⊢
      omega
    · intro f hf
      obtain ⟨i, h1, h2, rfl⟩ := hmem f hf
      exact (hwt i h1 h2).1
    · intro f hf
      obtain ⟨i, h1, h2, rfl⟩ := hmem f hf
      exact (hwt i h1 h2).2

#print axioms open_files
end Go.Proofs.Ytgbkoeinfhlpoaa.F
