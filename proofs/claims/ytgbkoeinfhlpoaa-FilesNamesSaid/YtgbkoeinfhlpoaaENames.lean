/- FilesNames: what `many` makes, and what the calls of the closed statement answer. -/
import Derived.Test.YtgbkoeinfhlpoaaEMany
import Derived.Test.YtgbkoeinfhlpoaaEWorks
import Derived.Test.YtgbkoeinfhlpoaaELawPut
namespace Go.Proofs.Ytgbkoeinfhlpoaa.F
open Go.RowKit Go.Proofs.YtgbkoeinfhlpoaaW.PrintWords Go.Proofs.YtgbkoeinfhlpoaaW.PrintLast Go.Proofs.YtgbkoeinfhlpoaaW.PrintMore
set_option linter.unusedVariables false
set_option linter.unusedSimpArgs false

/-- The i-th file that `many` makes. -/
def mF (s i : Nat) : S33 := ⟨(⟨#[102]⟩ : ByteArray) ++ (strOfNums [(wrap64 (97 + (wrap64 (Int.tdiv (i : Int) 26)))) % 256, (wrap64 (97 + (Int.tmod (i : Int) 26))) % 256]), strOfNums (List.replicate s 0)⟩
def manyL (n s : Nat) : List S33 := (List.range n).map (mF s)
theorem manyL_len (n s : Nat) : (manyL n s).length = n := by simp [manyL]

theorem many_go (n s : Nat) (hn : n ≤ 1000) (hs : s ≤ 100000) : ∀ (k j : Nat), j ≤ n → n - j < k → bastionlaw17_many.l0 k (n : Int) (s : Int) (manyL j s) (j : Int) = some (manyL n s)
  | 0, j, _, h => by omega
  | k + 1, j, hj, h => by
    unfold bastionlaw17_many.l0
    by_cases h1 : j < n
    · have hsz : 1 + (strOfNums [(wrap64 (97 + (wrap64 (Int.tdiv (j : Int) 26)))) % 256, (wrap64 (97 + (Int.tmod (j : Int) 26))) % 256]).size ≤ 9223372036854775807 := by
        rw [show (strOfNums [(wrap64 (97 + (wrap64 (Int.tdiv (j : Int) 26)))) % 256, (wrap64 (97 + (Int.tmod (j : Int) 26))) % 256]).size = 2 from rfl]
        omega
      rw [if_pos (by omega), Option.bind_some, if_pos hsz, if_pos (by omega), if_pos (by omega), if_pos (by rw [manyL_len]; omega), wrap_succ (by omega)]
      have : manyL j s ++ [mF s j] = manyL (j + 1) s := by simp [manyL, List.range_succ]
      have ih := many_go n s hn hs k (j + 1) (by omega) (by omega)
      rw [← this] at ih
      exact ih
    · rw [if_neg (by omega)]
      obtain rfl : j = n := by omega
      rfl
theorem many_f (n s : Nat) (hn : n ≤ 1000) (hs : s ≤ 100000) : bastionlaw17_many.f (n + 1) (n : Int) (s : Int) = some (manyL n s) := by
  unfold bastionlaw17_many.f
  exact many_go n s hn hs (n + 1) 0 (Nat.zero_le _) (by omega)

def pOf (i : Nat) : List UInt8 := [102, UInt8.ofNat (97 + i / 26), UInt8.ofNat (97 + i % 26)]

theorem mF_size (s i : Nat) : (mF s i).f1.size = s := by
  unfold mF
  simp [strOfNums, ByteArray.size]

theorem two_bytes : ∀ i : Nat, i < 65 → (strOfNums [(wrap64 (97 + (wrap64 (Int.tdiv (i : Int) 26)))) % 256, (wrap64 (97 + (Int.tmod (i : Int) 26))) % 256]).data.toList = [UInt8.ofNat (97 + i / 26), UInt8.ofNat (97 + i % 26)] := by decide +kernel
theorem mF_p (s i : Nat) (hi : i < 65) : (mF s i).p = pOf i := by
  unfold mF S33.p
  rw [append_list, Lib.toList_data, Lib.toList_data, two_bytes i hi]
  rfl
theorem pOf_path : ∀ i, i < 65 → pathB (pOf i) = true := by decide +kernel
theorem pOf_lt : ∀ i, i < 65 → ∀ j, j < 65 → i < j → ltB (pOf i) (pOf j) = true := by decide +kernel
theorem pOf_way : ∀ i, i < 65 → ∀ q ∈ ([[102, 97], [120]] : List (List UInt8)), (pOf i != q) = true ∧ wayB (pOf i) q = false := by decide +kernel
theorem pOf_under (i j : Nat) : underB (pOf i) (pOf j) = false := by
  cases h : underB (pOf i) (pOf j) with
  | false => rfl
  | true =>
    have := ((under_iff _ _).mp h).1
    simp [pOf] at this
theorem many_mem {n s : Nat} (hn : n ≤ 65) {f : S33} (h : f ∈ manyL n s) : ∃ i, i < 65 ∧ f = mF s i := by
  obtain ⟨i, hi, rfl⟩ := List.mem_map.mp h
  exact ⟨i, by have := List.mem_range.mp hi; omega, rfl⟩
theorem many_rise (n s : Nat) (hn : n ≤ 65) : Rise (manyL n s) := by
  unfold Rise manyL
  rw [List.pairwise_map]
  rw [List.pairwise_iff_getElem]
  intro i j hi hj hij
  simp only [List.length_range] at hi hj
  simp only [List.getElem_range]
  rw [mF_p s i (by omega), mF_p s j (by omega)]
  exact pOf_lt i (by omega) j (by omega) hij
theorem many_size (s : Nat) : ∀ n, sizeF (manyL n s) = n * s
  | 0 => by simp [manyL, sizeF]
  | n + 1 => by
    have : manyL (n + 1) s = manyL n s ++ [mF s n] := by simp [manyL, List.range_succ]
    rw [this, sizeF_append, many_size s n]
    simp [sizeF, mF_size, Nat.add_mul]
theorem many_file {s i : Nat} (hi : i < 65) : fileE (mF s i) = if s ≤ 4096 then 0 else 40 := by
  unfold fileE
  rw [mF_p s i hi, if_pos (pOf_path i hi), mF_size]
theorem many_check (n s : Nat) (hn : n ≤ 65) (hs : s ≤ 4096) : checkE (manyL n s) = if n ≤ 64 ∧ n * s ≤ 16384 then 0 else 3 := by
  have hf : ∀ f ∈ manyL n s, fileE f = 0 := by
    intro f hf
    obtain ⟨i, hi, rfl⟩ := many_mem hn hf
    rw [many_file hi, if_pos hs]
  unfold checkE
  rw [if_pos (firstE_of hf), if_pos (pair_rising _ (many_rise n s hn)), if_neg]
  · unfold fullE
    rw [manyL_len, many_size]
  · have : someWay (manyL n s) = false := by
      rw [someWay_false]
      intro f hf g hg
      obtain ⟨i, hi, rfl⟩ := many_mem hn hf
      obtain ⟨j, hj, rfl⟩ := many_mem hn hg
      rw [mF_p s i hi, mF_p s j hj]
      exact pOf_under i j
    rw [this]; simp
theorem many_good (n s : Nat) (hn : n ≤ 64) (hs : s ≤ 4096) (h : n * s ≤ 16384) : Good (manyL n s) := good_of (by rw [many_check n s (by omega) hs, if_pos ⟨hn, h⟩])

/-- A file put into many. -/
theorem many_put (n s : Nat) (hn : n ≤ 64) (hs : s ≤ 4096) (h : n * s ≤ 16384) (q d : ByteArray) (hq : q.toList ∈ ([[102, 97], [120]] : List (List UInt8))) (hd : d.size ≤ 4096) :
    ∃ r, putE (manyL n s) ⟨q, d⟩ = (r, if n + 1 ≤ 64 ∧ n * s + d.size ≤ 16384 then 0 else 3) := by
  have G := many_good n s hn hs h
  have hne : ∀ g ∈ manyL n s, g.p ≠ (⟨q, d⟩ : S33).p := by
    intro g hg
    obtain ⟨i, hi, rfl⟩ := many_mem (by omega) hg
    rw [mF_p s i hi]
    exact bne_iff_ne.mp (pOf_way i hi _ hq).1
  have hw : (manyL n s).any (fun g => g.p != (⟨q, d⟩ : S33).p && wayB g.p (⟨q, d⟩ : S33).p) = false := by
    rw [List.any_eq_false]
    intro g hg
    obtain ⟨i, hi, rfl⟩ := many_mem (by omega) hg
    rw [mF_p s i hi, show wayB (pOf i) (⟨q, d⟩ : S33).p = false from (pOf_way i hi _ hq).2]
    simp
  have hf : fileE ⟨q, d⟩ = 0 := by
    unfold fileE
    have : pathB q.toList = true := by
      simp only [List.mem_cons, List.not_mem_nil, or_false] at hq
      rcases hq with h | h <;> rw [h] <;> decide +kernel
    rw [show pathB (⟨q, d⟩ : S33).p = true from this, if_pos rfl, if_pos hd]
  have hp := insF_perm (f := ⟨q, d⟩) G.rise
  rw [filter_no hne] at hp
  have hfull : fullE (insF (manyL n s) ⟨q, d⟩) = if n + 1 ≤ 64 ∧ n * s + d.size ≤ 16384 then 0 else 3 := by
    rw [fullE_perm hp]
    unfold fullE
    rw [List.length_cons, manyL_len]
    simp only [sizeF, many_size]
    rw [Nat.add_comm d.size]
  unfold putE
  rw [if_pos (check_of G), if_pos hf, if_neg (by rw [hw]; simp), hfull]
  by_cases hc : n + 1 ≤ 64 ∧ n * s + d.size ≤ 16384
  · rw [if_pos hc]; exact ⟨_, if_pos rfl⟩
  · rw [if_neg hc]; exact ⟨_, if_neg (by omega)⟩

#print axioms many_put
end Go.Proofs.Ytgbkoeinfhlpoaa.F
