/- An argument that is a slice of files: the row that the walk asks, and how much it weighs. 'open_slice_fields' is the how-to's own block (extra-structs). -/
/- Layer 18's laws: their common parts, plain: large, Same, the examples (awake). -/
/- The examples of layer 18 (awake), reckoned. -/
import Derived.Test.YtgbkoeinfhlpoaaFx0
import Derived.Deep.Slices
import Derived.Deep.Fields
import Derived.ChangeSame
import Derived.SizedLaws
import Derived.Test.YtgbkoeinfhlpoaaFx1
import Derived.Test.YtgbkoeinfhlpoaaFx2
import Derived.Test.YtgbkoeinfhlpoaaFx11
import Derived.Test.YtgbkoeinfhlpoaaFx13
namespace Go.Proofs.Ytgbkoeinfhlpoaa.F
open Go.RowKit Go.ChangeShapes Go.WideShapes Go.Deep Go.Proofs.YtgbkoeinfhlpoaaW.PrintWords Go.Proofs.YtgbkoeinfhlpoaaW.PrintLast Go.Proofs.YtgbkoeinfhlpoaaW.PrintMore
set_option linter.unusedVariables false
set_option linter.unusedSimpArgs false

section
variable {H : Type} {enc : TypeId × Value → H} {P : Program} {w : World} {base : Nat} {spare : Nat → Bool} {held : Bool}
theorem open_slice_fields {t e : TypeId} {fs : Array Field} {fuel : Nat} {cs : List Value} {x : DataW H × List MemPlace} (ht : P.underlying t = some (.slice e)) (he : P.underlying e = some (.struct fs))
    (hone : oneCellFields P fs = true) (hC : P.cellsOf e = fs.size) (h : DataW.trod enc P w base spare held fuel t cs = some x) :
    (cs = [.slice none 0 0] ∧ x = (.nil, [])) ∨
    ∃ (a : Addr) (len cap m : Nat) (D : Nat → DataW H) (Pl : Nat → List MemPlace), cs = [.slice (some a) len cap] ∧ base ≤ a.block ∧ len ≤ cap ∧ cap ≤ maxLen ∧ m = (if spare a.block then cap else len) ∧
      x = (.slice ((List.range len).map D) ((List.range (m - len)).map fun j => D (len + j)), MemPlace.row a (m * fs.size) ++ (List.range m).flatMap Pl) ∧
      ∀ i, i < m → ∃ (ys : List (DataW H × List MemPlace)) (n : Nat), D i = .agg (ys.map (·.1)) ∧ Pl i = ys.flatMap (·.2) ∧ ys.length = fs.size ∧
        ∀ (j : Nat) (f : Field), fs[j]? = some f → ∃ (v : Value) (y : DataW H × List MemPlace), w.cell? (a.add (i * fs.size + j)) = some v ∧ ys[j]? = some y ∧ DataW.trod enc P w base spare held n f.type [v] = some y := by
  rcases open_slice ht h with h0 | ⟨a, len, cap, m, n, D, Pl, hcs, hb, hl, hm, hmm, hx, hi⟩
  · exact .inl h0
  · refine .inr ⟨a, len, cap, m, D, Pl, hcs, hb, hl, hm, hmm, by rw [hC] at hx; exact hx, fun i him => ?_⟩
    obtain ⟨cs', hc, ht'⟩ := hi i him
    rw [hC] at hc
    obtain ⟨ys, n', hn', hy, hlen, hyl, hf⟩ := DataW.trod_struct he ht'
    obtain ⟨_, hcl, hat⟩ := World.cells?_some hc
    simp only [Prod.mk.injEq] at hy
    refine ⟨ys, n', hy.1, hy.2, hyl, fun j f hj => ?_⟩
    obtain ⟨ho, hk⟩ := hone_of hone j f hj
    have hjl : j < fs.size := (Array.getElem?_eq_some_iff.1 hj).1
    have hcell := hat j hjl
    have hv : cs'[j]? = some (cs'[j]'(by omega)) := List.getElem?_eq_getElem (by omega)
    have h1 := hf j f hj
    rw [ho, hk] at h1
    have hone' : (cs'.drop j).take 1 = [cs'[j]'(by omega)] := by
      rw [List.drop_eq_getElem_cons (by omega)]
      rfl
    rw [hone'] at h1
    have hys : ys[j]? = some (ys[j]'(by omega)) := List.getElem?_eq_getElem (by omega)
    refine ⟨_, _, ?_, hys, h1.trans hys⟩
    rw [← Go.Deep.add_add, hcell, hv]
end

theorem weighs_all {H : Type} {P : Program} {e : TypeId} : ∀ (l : List (DataW H)) (d : DataW H), d ∈ l → ∀ n ∈ d.weights P e, n ∈ DataW.weightsAll P e l
  | [], _, hd, _, _ => by cases hd
  | x :: t, d, hd, n, hn => by
    unfold DataW.weightsAll
    rw [List.mem_append]
    rcases List.mem_cons.mp hd with rfl | hd
    · exact .inl hn
    · exact .inr (weighs_all t d hd n hn)

/-- What a list of files weighs at most. -/
structure Light (l : List S33) : Prop where
  len : l.length * 32 ≤ 140737488351232
  path : ∀ f ∈ l, f.f0.size ≤ 140737488351232
  data : ∀ f ∈ l, f.f1.size ≤ 140737488351232

set_option maxRecDepth 100000 in
theorem open_files {H : Type} {enc : TypeId × Value → H} {w : World} {base : Nat} {spare : Nat → Bool} {held : Bool} {a : Option Addr} {n c : Nat} {d : DataW H} {ps : List MemPlace}
    (h : DataW.Trod enc Try.prog w base spare held 22 (.slice a n c) d ps) (hw : ∀ x ∈ d.weights Try.prog 22, x ≤ reachBytes) :
    ∃ l : List S33, n = l.length ∧ l.length ≤ c ∧ Kd.C k33 w a l.length l ∧ Light l := by
  obtain ⟨fuel, hf⟩ := h
  rcases open_slice_fields Try.underlying22 Try.underlying33 (by kernel_rfl) (by kernel_rfl) hf with ⟨hcs, _⟩ | ⟨ad, len, cap, m, D, Pl, hcs, _, hl, hm, hmm, hx, hi⟩
  · simp [Value.cells] at hcs
    obtain ⟨rfl, rfl, rfl⟩ := hcs
    exact ⟨[], rfl, Nat.le_refl _, Kd.C_nil _ _, ⟨by simp, by simp, by simp⟩⟩
  · simp [Value.cells] at hcs
    obtain ⟨rfl, rfl, rfl⟩ := hcs
    have hmn : n ≤ m := by
      rw [hmm]
      split
      · exact hl
      · exact Nat.le_refl _
    have hex : ∀ i, ∃ x : S33, i < m → w.cell? (ad.add (i * 2)) = some (.string x.f0) ∧ w.cell? (ad.add (i * 2 + 1)) = some (.string x.f1) ∧ D i = .agg [.lit (.string x.f0.data.toList), .lit (.string x.f1.data.toList)] := by
      intro i
      by_cases him : i < m
      · obtain ⟨ys, k, hD, _, hyl, hfd⟩ := hi i him
        obtain ⟨v0, y0, hc0, hy0, ht0⟩ := hfd 0 _ rfl
        obtain ⟨v1, y1, hc1, hy1, ht1⟩ := hfd 1 _ rfl
        obtain ⟨s0, e0, rfl, _⟩ := DataW.trod_string Try.underlying9 ht0
        obtain ⟨s1, e1, rfl, _⟩ := DataW.trod_string Try.underlying9 ht1
        cases e0; cases e1
        refine ⟨⟨s0, s1⟩, fun _ => ⟨hc0, hc1, ?_⟩⟩
        rw [hD]
        have hlen : ys.length = 2 := hyl
        obtain ⟨z0, z1, rfl⟩ : ∃ z0 z1, ys = [z0, z1] := by
          rcases ys with _ | ⟨z0, _ | ⟨z1, _ | ⟨z2, r⟩⟩⟩
          · cases hlen
          · cases hlen
          · exact ⟨z0, z1, rfl⟩
          · simp at hlen
        simp at hy0 hy1
        rw [hy0, hy1]
        rfl
      · exact ⟨z33, fun h => absurd h him⟩
    obtain ⟨F, hF⟩ := Classical.axiomOfChoice hex
    obtain ⟨hx, _⟩ := Prod.mk.inj hx
    subst hx
    have hmem : ∀ f ∈ (List.range n).map F, ∃ i, i < m ∧ D i ∈ (List.range n).map D ∧ F i = f := by
      intro f hf
      obtain ⟨i, hi', rfl⟩ := List.mem_map.mp hf
      exact ⟨i, by have := List.mem_range.mp hi'; omega, List.mem_map.mpr ⟨i, hi', rfl⟩, rfl⟩
    have hwt : ∀ i, i < m → D i ∈ (List.range n).map D → (F i).f0.size ≤ reachBytes ∧ (F i).f1.size ≤ reachBytes := by
      intro i him hmemD
      have hw2 : ∀ x ∈ (D i).weights Try.prog 33, x ≤ reachBytes := fun x hx => hw x (by
        unfold DataW.weights
        rw [Try.underlying22]
        simp only [List.mem_cons, List.mem_append]
        exact .inr (.inl (weighs_all _ _ hmemD x hx)))
      rw [(hF i him).2.2] at hw2
      unfold DataW.weights at hw2
      rw [Try.underlying33] at hw2
      have e1 : (F i).f0.size = (F i).f0.data.toList.length := (Array.length_toList (xs := (F i).f0.data)).symm
      have e2 : (F i).f1.size = (F i).f1.data.toList.length := (Array.length_toList (xs := (F i).f1.data)).symm
      have hw3 : ∀ x ∈ DataW.weightsEach Try.prog [9, 9] [(.lit (.string (F i).f0.data.toList) : DataW H), .lit (.string (F i).f1.data.toList)], x ≤ reachBytes := hw2
      unfold DataW.weightsEach at hw3
      unfold DataW.weightsEach at hw3
      unfold DataW.weightsEach at hw3
      unfold DataW.weights at hw3
      rw [← e1, ← e2] at hw3
      exact ⟨hw3 _ (List.mem_append_left _ List.mem_cons_self), hw3 _ (List.mem_append_right _ (List.mem_append_left _ List.mem_cons_self))⟩
    refine ⟨(List.range n).map F, by simp, by simpa using hl, ?_, ⟨?_, ?_, ?_⟩⟩
    · refine ⟨by simp, ?_, fun _ => ⟨ad, rfl, fun j p hj => ?_⟩⟩
      · simp
        have : maxLen = 9223372036854775807 := rfl
        omega
      · have hjn : j < n := by
          have := (List.getElem?_eq_some_iff.1 hj).1
          simpa using this
        rw [List.getElem?_map, List.getElem?_range hjn] at hj
        simp only [Option.map_some, Option.some.injEq] at hj
        subst hj
        obtain ⟨h0, h1, _⟩ := hF j (by omega)
        refine ⟨[.string (F j).f0, .string (F j).f1], rfl, k33_mk _ _, fun i u hu => ?_⟩
        have hi2 : i = 0 ∨ i = 1 := by
          have := (List.getElem?_eq_some_iff.1 hu).1
          simp at this
          omega
        rcases hi2 with rfl | rfl
        · simp at hu; subst hu; exact h0
        · simp at hu; subst hu; exact h1
    · have := hw ((((List.range n).map D).length + ((List.range (m - n)).map fun j => D (n + j)).length) * Try.prog.bytesOf 33) (by
        unfold DataW.weights
        rw [Try.underlying22]
        exact List.mem_cons_self)
      have hb : Try.prog.bytesOf 33 = 32 := by kernel_rfl
      have hr : reachBytes = 140737488351232 := rfl
      rw [hb] at this
      simp at this ⊢
      omega
    · intro f hf
      obtain ⟨i, h1, h2, rfl⟩ := hmem f hf
      exact (hwt i h1 h2).1
    · intro f hf
      obtain ⟨i, h1, h2, rfl⟩ := hmem f hf
      exact (hwt i h1 h2).2

#print axioms open_files
end Go.Proofs.Ytgbkoeinfhlpoaa.F

namespace Go.Proofs.Ytgbkoeinfhlpoaa.F
open Go.RowKit Go.Shelf Go.Proofs.YtgbkoeinfhlpoaaW.PrintWords Go.Proofs.YtgbkoeinfhlpoaaW.PrintLast Go.Proofs.YtgbkoeinfhlpoaaW.PrintMore
set_option linter.unusedVariables false
set_option linter.unusedSimpArgs false

theorem wrap_next {j : Nat} (h : j < 4611686018427387904) : wrap64 ((j : Int) + 1) = ((j + 1 : Nat) : Int) := by
  unfold wrap64
  omega
theorem drop_at {α : Type} (l : List α) (z : α) (j : Nat) (h : j < l.length) : l.drop j = l.getD j z :: l.drop (j + 1) := by
  rw [List.drop_eq_getElem_cons h]
  simp [h]
theorem s33_eq {a b : S33} (h0 : a.f0.toList = b.f0.toList) (h1 : a.f1.toList = b.f1.toList) : a = b := by
  have h2 := bytes_ext h0
  have h3 := bytes_ext h1
  cases a; cases b
  simp only at h2 h3
  rw [h2, h3]

open Classical in
theorem same17_go (a b : List S33) (he : a.length = b.length) (hl : a.length ≤ 4611686018427387903) : ∀ (k j : Nat), j ≤ a.length → a.length - j < k → bastionref17_Same.l0 k a b (j : Int) = some (decide (a.drop j = b.drop j))
  | 0, j, _, h => by omega
  | k + 1, j, hj, h => by
    unfold bastionref17_Same.l0
    by_cases h1 : j < a.length
    · rw [if_pos (by omega), if_pos (by omega), if_pos (by omega), getD_rd, getD_rd, drop_at a z33 j h1, drop_at b z33 j (by omega)]
      by_cases e0 : (a.getD j z33).f0.toList = (b.getD j z33).f0.toList
      · rw [if_pos e0]
        by_cases e1 : (a.getD j z33).f1.toList = (b.getD j z33).f1.toList
        · rw [if_pos e1, wrap_next (by omega), same17_go a b he hl k (j + 1) (by omega) (by omega), s33_eq e0 e1]
          simp
        · rw [if_neg e1]
          simp only [List.cons.injEq]
          rw [decide_eq_false (fun h => e1 (by rw [h.1]))]
      · rw [if_neg e0]
        simp only [List.cons.injEq]
        rw [decide_eq_false (fun h => e0 (by rw [h.1]))]
    · rw [if_neg (by omega), List.drop_of_length_le (by omega), List.drop_of_length_le (by omega)]
      simp
open Classical in
theorem same17 (a b : List S33) (hl : a.length ≤ 4611686018427387903) (k : Nat) (hk : a.length < k) : bastionref17_Same.f k a b = some (decide (a = b)) := by
  unfold bastionref17_Same.f
  by_cases he : a.length = b.length
  · rw [if_pos (by omega)]
    exact same17_go a b he hl k 0 (by omega) (by omega)
  · rw [if_neg (by omega), decide_eq_false (fun h => he (by rw [h]))]

theorem same02_go (a b : List ByteArray) (he : a.length = b.length) (hl : a.length ≤ 4611686018427387903) : ∀ (k j : Nat), j ≤ a.length → a.length - j < k → bastionref02_Same.l0 k a b (j : Int) = some (decide (a.drop j = b.drop j))
  | 0, j, _, h => by omega
  | k + 1, j, hj, h => by
    unfold bastionref02_Same.l0
    by_cases h1 : j < a.length
    · have e : ∀ l : List ByteArray, rdOf ByteArray.empty l (j : Int) = l.getD j ByteArray.empty := fun l => by simp [rdOf]
      rw [if_pos (by omega), if_pos (by omega), if_pos (by omega), e, e, drop_at a ByteArray.empty j h1, drop_at b ByteArray.empty j (by omega)]
      by_cases e0 : (a.getD j ByteArray.empty).toList = (b.getD j ByteArray.empty).toList
      · rw [if_pos e0, wrap_next (by omega), same02_go a b he hl k (j + 1) (by omega) (by omega), bytes_ext e0]
        simp
      · rw [if_neg e0]
        simp only [List.cons.injEq]
        rw [decide_eq_false (fun h => e0 (by rw [h.1]))]
    · rw [if_neg (by omega), List.drop_of_length_le (by omega), List.drop_of_length_le (by omega)]
      simp
theorem same02 (a b : List ByteArray) (hl : a.length ≤ 4611686018427387903) (k : Nat) (hk : a.length < k) : bastionref02_Same.f k a b = some (decide (a = b)) := by
  unfold bastionref02_Same.f
  by_cases he : a.length = b.length
  · rw [if_pos (by omega)]
    exact same02_go a b he hl k 0 (by omega) (by omega)
  · rw [if_neg (by omega), decide_eq_false (fun h => he (by rw [h]))]

/-! ### large -/
theorem large_go18 (l : List S33) (y : Light l) : ∀ (k j : Nat) (n : Nat), j ≤ 200 → l.length ≤ n → n ≤ 4398046511104 + j * 281474976702464 → l.length - j < k →
    ∃ b, bastionlaw18_large.l0 k l (n : Int) (j : Int) = some b ∧ (b = false → l.length ≤ 40000)
  | 0, j, n, _, _, _, h => by omega
  | k + 1, j, n, hj, hn, hn2, h => by
    unfold bastionlaw18_large.l0
    have hend : ∃ b, some (decide ((n : Int) > 40000)) = some b ∧ (b = false → l.length ≤ 40000) := ⟨_, rfl, fun h => by
      have := of_decide_eq_false h
      omega⟩
    by_cases h1 : j < l.length
    · rw [if_pos (by omega)]
      by_cases h2 : j < 200
      · have hm : l.getD j z33 ∈ l := by simp [h1]
        have p0 := y.path _ hm
        have p1 := y.data _ hm
        rw [if_pos (by omega), if_pos (by omega), getD_rd, wrap_next (by omega)]
        generalize (l.getD j z33).f0.size = s0 at p0
        generalize (l.getD j z33).f1.size = s1 at p1
        have e : wrap64 (wrap64 ((n : Int) + (s0 : Int)) + (s1 : Int)) = ((n + s0 + s1 : Nat) : Int) := by unfold wrap64; omega
        rw [e]
        exact large_go18 l y k (j + 1) (n + s0 + s1) (by omega) (by omega) (by omega) (by omega)
      · rw [if_neg (by omega)]
        exact hend
    · rw [if_neg (by omega)]
      exact hend
theorem large18 {l : List S33} (y : Light l) (k : Nat) (hk : l.length < k) : ∃ b, bastionlaw18_large.f k l = some b ∧ (b = false → l.length ≤ 40000) :=
  large_go18 l y k 0 l.length (by omega) (Nat.le_refl _) (by have := y.len; omega) (by omega)
end Go.Proofs.Ytgbkoeinfhlpoaa.F

namespace Go.Proofs.Ytgbkoeinfhlpoaa.F
open Go.RowKit Go.Shelf Go.Proofs Go.Proofs.YtgbkoeinfhlpoaaW.PrintWords Go.Proofs.YtgbkoeinfhlpoaaW.PrintLast Go.Proofs.YtgbkoeinfhlpoaaW.PrintMore
set_option linter.unusedVariables false
set_option linter.unusedSimpArgs false

/-- Which list setB is. -/
theorem lists_inj {a b : List ByteArray} (h : a.map (fun x : ByteArray => x.toList) = b.map (fun x : ByteArray => x.toList)) : a = b :=
  List.map_inj_right (fun _ _ h => bytes_ext h) |>.mp h
theorem setB_is {l m : List ByteArray} (h1 : (m.map (fun x : ByteArray => x.toList)).Pairwise (· < ·)) (h2 : ∀ x, x ∈ m ↔ x ∈ l) : setB l = m := by
  obtain ⟨s1, s2⟩ := setB_spec l
  refine lists_inj (rises_ext _ _ s1 h1 fun x => ?_)
  rw [s2]
  simp only [List.mem_map]
  exact ⟨fun ⟨y, hy, e⟩ => ⟨y, (h2 y).mpr hy, e⟩, fun ⟨y, hy, e⟩ => ⟨y, (h2 y).mp hy, e⟩⟩
theorem setB_mem (l : List ByteArray) (x : ByteArray) : x ∈ setB l ↔ x ∈ l := by
  have h := (setB_spec l).2 x.toList
  simp only [List.mem_map] at h
  constructor
  · intro hx
    obtain ⟨y, hy, e⟩ := h.mp ⟨x, hx, rfl⟩
    rwa [← bytes_ext e]
  · intro hx
    obtain ⟨y, hy, e⟩ := h.mpr ⟨x, hx, rfl⟩
    rwa [← bytes_ext e]

def exY : List S33 := [⟨⟨#[97, 47, 98]⟩, ⟨#[120]⟩⟩, ⟨⟨#[97, 47, 99]⟩, ⟨#[]⟩⟩]
def exZ : List S33 := [⟨⟨#[97, 47, 98]⟩, ⟨#[121]⟩⟩, ⟨⟨#[100]⟩, ⟨#[]⟩⟩]
def exS : List UInt8 := [2, 0, 3, 97, 47, 98, 1, 2, 120, 2, 1, 99, 0]
theorem exY_check : checkE exY = 0 := by
  simp only [exY, checkE, firstE, fileE, fullE, sizeF, risingB, someWay, S33.p, Lib.toList_data, List.any_cons, List.any_nil]
  decide +kernel
theorem exY_pack : packE exY = (toB exS, 0) := by
  unfold packE
  rw [if_pos exY_check, show packB (exY.map flOf) = exS by decide +kernel]
theorem exS_unpack : unpackE (toB exS) = (exY, 0) := by
  have h : (unpackR (toB exS).data.toList).map sOf = exY := by
    have e : unpackR (toB exS).data.toList = exY.map flOf := by decide +kernel
    rw [e, map_sOf_flOf]
  have h2 : unpackR (toB exS).data.toList = exY.map flOf := by decide +kernel
  unfold unpackE
  rw [h, if_pos ⟨exY_check, by rw [h2]; decide +kernel⟩]
theorem runs_ex : (toB (runsB [97, 97, 97, 97, 97, 98])).toList = [6, 11, 97, 2, 98] := by
  rw [Lib.toList_data]
  decide +kernel

theorem unlike_ex (l0 l1 : List S33) (q : ByteArray) : unlike l0 l1 q = (((getE l0 q.data.toList).2 != (getE l1 q.data.toList).2) || ((getE l0 q.data.toList).1.data.toList != (getE l1 q.data.toList).1.data.toList)) := by
  unfold unlike
  rw [Lib.toList_data, Lib.toList_data, Lib.toList_data]
theorem changed_ex : changedE exY exZ = [⟨#[97, 47, 98]⟩, ⟨#[97, 47, 99]⟩, ⟨#[100]⟩] := by
  have e : outE exY exZ (exY ++ exZ) = [⟨#[97, 47, 98]⟩, ⟨#[97, 47, 99]⟩, ⟨#[97, 47, 98]⟩, ⟨#[100]⟩] := by
    simp only [outE, exY, exZ, unlike_ex, getE, S33.p, Lib.toList_data]
    decide +kernel
  unfold changedE
  rw [e]
  refine setB_is ?_ ?_
  · simp only [List.map_cons, List.map_nil, Lib.toList_data]
    decide +kernel
  · intro x
    simp
    constructor
    · rintro (h | h | h)
      · exact .inl h
      · exact .inr (.inl h)
      · exact .inr (.inr (.inr h))
    · rintro (h | h | h | h)
      · exact .inl h
      · exact .inr (.inl h)
      · exact .inl h
      · exact .inr (.inr h)

theorem awake_true : Ev (fun k => bastionlaw18_awake.f k) true := by
  obtain ⟨K, hK⟩ := pack_val exY
  refine ⟨K + 10, fun k hk => ?_⟩
  have h1 := hK k (by omega)
  rw [exY_pack] at h1
  unfold bastionlaw18_awake.f
  simp only [Option.bind_some]
  rw [show pack_Pack.f k [⟨⟨#[97, 47, 98]⟩, ⟨#[120]⟩⟩, ⟨⟨#[97, 47, 99]⟩, ⟨#[]⟩⟩] = some (toB exS, 0) from h1]
  simp only [Option.bind_some]
  rw [show pack_Unpack.f (toB exS) = some (exY, 0) by unfold pack_Unpack.f; rw [if_pos (by decide +kernel), exS_unpack]]
  simp only [Option.bind_some]
  rw [if_pos trivial, if_pos (by rw [Lib.toList_data]; rfl), if_pos trivial]
  rw [show bastionref17_Same.f k [⟨⟨#[97, 47, 98]⟩, ⟨#[120]⟩⟩, ⟨⟨#[97, 47, 99]⟩, ⟨#[]⟩⟩] exY = some true from (same17 exY exY (by decide) k (by show 2 < k; omega)).trans (by simp)]
  simp only [Option.bind_some]
  rw [if_pos trivial, show pack_Runs.f ⟨#[97, 97, 97, 97, 97, 98]⟩ = some (toB (runsB [97, 97, 97, 97, 97, 98])) by unfold pack_Runs.f; rw [if_pos (by decide)]; rfl]
  simp only [Option.bind_some]
  rw [if_pos runs_ex, show pack_Changed.f [⟨⟨#[97, 47, 98]⟩, ⟨#[120]⟩⟩, ⟨⟨#[97, 47, 99]⟩, ⟨#[]⟩⟩] [⟨⟨#[97, 47, 98]⟩, ⟨#[121]⟩⟩, ⟨⟨#[100]⟩, ⟨#[]⟩⟩] = some [⟨#[97, 47, 98]⟩, ⟨#[97, 47, 99]⟩, ⟨#[100]⟩] by
    unfold pack_Changed.f
    rw [if_pos (by decide)]
    exact congrArg some changed_ex]
  simp only [Option.bind_some]
  rw [same02 _ _ (by decide) k (by show 3 < k; omega)]
  simp
#print axioms awake_true
end Go.Proofs.Ytgbkoeinfhlpoaa.F
