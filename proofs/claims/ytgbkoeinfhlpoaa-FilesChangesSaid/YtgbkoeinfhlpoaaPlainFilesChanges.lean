/- FilesChanges: the plain law, and the law as the row asks it. -/
import Derived.Test.YtgbkoeinfhlpoaaFx8
import Derived.Test.YtgbkoeinfhlpoaaERefC
namespace Go.Proofs.Ytgbkoeinfhlpoaa.F
open Go.RowKit Go.Proofs.YtgbkoeinfhlpoaaW.PrintWords Go.Proofs.YtgbkoeinfhlpoaaW.PrintLast Go.Proofs.YtgbkoeinfhlpoaaW.PrintMore
set_option linter.unusedVariables false
set_option linter.unusedSimpArgs false
set_option linter.unusedSectionVars false

theorem insF_len2 (l : List S33) (f : S33) : (putE l f).1.length ≤ l.length + 1 := by
  unfold putE
  split
  · split
    · split
      · simp
      · split
        · exact insF_len l f
        · simp
    · simp
  · simp
theorem del_len (l : List S33) (p : List UInt8) : (delE l p).1.length ≤ l.length := by
  unfold delE
  split
  · split
    · exact List.length_filter_le _ _
    · simp
  · simp
theorem lay_len (a b : List S33) : (layE a b).1.length ≤ a.length + b.length := by
  unfold layE
  split
  · split
    · show ((overF a b).mergeSort leF).length ≤ _
      rw [List.length_mergeSort]
      unfold overF
      rw [List.length_append]
      have := List.length_filter_le (fun f : S33 => !b.any (fun g => wayB f.p g.p)) a
      omega
    · simp
  · simp

section
variable (a b : List S33) (q data : ByteArray) (ha : a.length ≤ 10000000) (hb : b.length ≤ 10000000)
include ha hb
/-- Rounds enough for one turn. -/
def turnK (n m : Nat) : Nat := big (n + 1) + big (m + 1) + (n + 1) * (m + 5) + 4 * n + 4 * m + 1000
theorem chg_l3 (x : Int) (K : Nat) (next : Option Bool) (hnext : ∀ k, K ≤ k → bastionlaw17_FilesChanges.l0 k a b q data a b (wrap64 (x + 1)) = next) :
    ∀ (n j k : Nat) (z : List S33), z.length ≤ 100000000 → z.length - j ≤ n → K + n + 1 ≤ k → bastionlaw17_FilesChanges.l3 k a b q data a b x z (j : Int) = next
  | n, j, 0, z, _, _, hk => by omega
  | n, j, k + 1, z, hz, hn, hk => by
    unfold bastionlaw17_FilesChanges.l3
    by_cases h1 : (j : Int) < (z.length : Int)
    · obtain ⟨n, rfl⟩ : ∃ m, n = m + 1 := ⟨n - 1, by omega⟩
      rw [if_pos h1, if_pos (by omega), wrap_succ (by omega)]
      exact chg_l3 x K next hnext n (j + 1) k _ (by rw [List.length_set]; exact hz) (by rw [List.length_set]; omega) (by omega)
    · rw [if_neg h1]; exact hnext k (by omega)
theorem chg_l2 (x : Int) (K : Nat) (next : Option Bool) (hnext : ∀ k, K ≤ k → bastionlaw17_FilesChanges.l0 k a b q data a b (wrap64 (x + 1)) = next) (z : List S33) (hz : z.length ≤ 100000000) :
    ∀ (n j k : Nat) (y : List S33), y.length ≤ 100000000 → y.length - j ≤ n → K + z.length + 2 + n ≤ k → bastionlaw17_FilesChanges.l2 k a b q data a b x y z (j : Int) = next
  | n, j, 0, y, _, _, hk => by omega
  | n, j, k + 1, y, hy, hn, hk => by
    unfold bastionlaw17_FilesChanges.l2
    by_cases h1 : (j : Int) < (y.length : Int)
    · obtain ⟨n, rfl⟩ : ∃ m, n = m + 1 := ⟨n - 1, by omega⟩
      rw [if_pos h1, if_pos (by omega), wrap_succ (by omega)]
      exact chg_l2 x K next hnext z hz n (j + 1) k _ (by rw [List.length_set]; exact hy) (by rw [List.length_set]; omega) (by omega)
    · rw [if_neg h1]
      exact chg_l3 a b q data ha hb x K next hnext z.length 0 k z hz (by omega) (by omega)
theorem chg_l1 (x : Int) (K : Nat) (next : Option Bool) (hnext : ∀ k, K ≤ k → bastionlaw17_FilesChanges.l0 k a b q data a b (wrap64 (x + 1)) = next) (y z : List S33) (hy : y.length ≤ 100000000) (hz : z.length ≤ 100000000) :
    ∀ (n j k : Nat) (p : List S33), p.length ≤ 100000000 → p.length - j ≤ n → K + y.length + z.length + 3 + n ≤ k → bastionlaw17_FilesChanges.l1 k a b q data a b x p y z (j : Int) = next
  | n, j, 0, p, _, _, hk => by omega
  | n, j, k + 1, p, hp, hn, hk => by
    unfold bastionlaw17_FilesChanges.l1
    by_cases h1 : (j : Int) < (p.length : Int)
    · obtain ⟨n, rfl⟩ : ∃ m, n = m + 1 := ⟨n - 1, by omega⟩
      rw [if_pos h1, if_pos (by omega), wrap_succ (by omega)]
      exact chg_l1 x K next hnext y z hy hz n (j + 1) k _ (by rw [List.length_set]; exact hp) (by rw [List.length_set]; omega) (by omega)
    · rw [if_neg h1]
      exact chg_l2 a b q data ha hb x K next hnext z hz y.length 0 k y hy (by omega) (by omega)

set_option maxRecDepth 100000 in
theorem chg_turn (x : Nat) (hx : x < 2) (K : Nat) (next : Option Bool) (hnext : ∀ k, K ≤ k → bastionlaw17_FilesChanges.l0 k a b q data a b ((x + 1 : Nat) : Int) = next) (k : Nat) (hk : K + turnK a.length b.length ≤ k) :
    bastionlaw17_FilesChanges.l0 k a b q data a b (x : Int) = next := by
  obtain ⟨k, rfl⟩ : ∃ k', k = k' + 1 := ⟨k - 1, by unfold turnK at hk; omega⟩
  unfold turnK at hk
  have hm1 := big_mono (show a.length ≤ a.length + 1 by omega)
  have hm2 := big_mono (show b.length ≤ b.length + 1 by omega)
  have hp := insF_len2 a ⟨q, data⟩
  have hd := del_len a q.toList
  have hy := lay_len a b
  unfold bastionlaw17_FilesChanges.l0
  rw [if_pos (by omega), refPut a (by omega) q data k (by omega), refDel a (by omega) q k (by omega), refLay a b (by omega) (by omega) k (by omega)]
  unfold files_Put.f files_Del.f files_Lay.f
  simp only [Option.bind_some]
  rw [if_pos trivial, if_pos trivial, if_pos trivial, rsame_refl _ (by omega) k (by omega), rsame_refl _ (by omega) k (by omega), rsame_refl _ (by omega) k (by omega), rsame_refl a (by omega) k (by omega), rsame_refl b (by omega) k (by omega)]
  simp only [Option.bind_some]
  rw [if_pos trivial, if_pos trivial, if_pos trivial, if_pos trivial, if_pos trivial]
  exact chg_l1 a b q data ha hb (x : Int) K next (fun k hk => by rw [wrap_succ (by omega)]; exact hnext k hk) _ _ (by omega) (by omega) (putE a ⟨q, data⟩).1.length 0 k _ (by omega) (by omega) (by omega)

theorem chg_all (k : Nat) (hk : 2 * turnK a.length b.length + 1 ≤ k) : bastionlaw17_FilesChanges.l0 k a b q data a b 0 = some true := by
  have h2 : ∀ k, 1 ≤ k → bastionlaw17_FilesChanges.l0 k a b q data a b ((1 + 1 : Nat) : Int) = some true := fun k hk => by
    obtain ⟨k, rfl⟩ : ∃ k', k = k' + 1 := ⟨k - 1, by omega⟩
    unfold bastionlaw17_FilesChanges.l0
    rw [if_neg (by omega)]
  have h1 : ∀ k, 1 + turnK a.length b.length ≤ k → bastionlaw17_FilesChanges.l0 k a b q data a b ((0 + 1 : Nat) : Int) = some true := fun k hk =>
    chg_turn a b q data ha hb 1 (by omega) 1 _ h2 k hk
  exact chg_turn a b q data ha hb 0 (by omega) _ _ h1 k (by omega)
end

theorem large_len {l : List S33} (y : Light l) (k : Nat) (h : bastionlaw17_large.f k l = some false) : l.length ≤ 70 := by
  have go : ∀ (k : Nat) (n i : Int), bastionlaw17_large.l0 k l n i = some false → l.length ≤ 70 := by
    intro k
    induction k with
    | zero => intro n i h; simp [bastionlaw17_large.l0] at h
    | succ k ih =>
      intro n i h
      unfold bastionlaw17_large.l0 at h
      by_cases hc : (l.length : Int) > 70
      · split at h
        · split at h
          · split at h
            · exact ih _ _ h
            · cases h
          · first | cases h | (rw [if_pos hc] at h; cases h)
        · first | cases h | (rw [if_pos hc] at h; cases h)
      · omega
  exact go _ _ _ h

theorem FilesChanges_pure (a b : List S33) (q data : ByteArray) (ya : Light a) (yb : Light b) : ∃ k, bastionlaw17_FilesChanges.f k a b q data = some true := by
  refine ⟨2 * turnK a.length b.length + a.length + b.length + 10, ?_⟩
  unfold bastionlaw17_FilesChanges.f
  obtain ⟨ta, hta⟩ := large_some ya (2 * turnK a.length b.length + a.length + b.length + 10) (by omega)
  obtain ⟨tb, htb⟩ := large_some yb (2 * turnK a.length b.length + a.length + b.length + 10) (by omega)
  rw [hta, Option.bind_some]
  cases ta with
  | true => rw [if_pos rfl]
  | false =>
    have la := large_len ya _ hta
    rw [if_neg Bool.false_ne_true, htb, Option.bind_some]
    cases tb with
    | true => rw [if_pos rfl]
    | false =>
      have lb := large_len yb _ htb
      rw [if_neg Bool.false_ne_true]
      by_cases h1 : (q.size : Int) > 300
      · rw [if_pos h1]
      rw [if_neg h1]
      by_cases h2 : (data.size : Int) > 5000
      · rw [if_pos h2]
      rw [if_neg h2]
      simp only [Option.bind_some, List.nil_append, List.length_nil, Nat.zero_add]
      rw [if_pos (by omega), if_pos (by omega)]
      exact chg_all a b q data (by omega) (by omega) _ (by omega)

theorem FilesChanges_law (A0 : Option Addr) (c0 : Nat) (l0 : List S33) (A1 : Option Addr) (c1 : Nat) (l1 : List S33) (a2 a3 : ByteArray) (w : World) (hr0 : Kd.C k33 w A0 l0.length l0) (hc0 : l0.length ≤ c0) (y0 : Light l0) (hr1 : Kd.C k33 w A1 l1.length l1) (hc1 : l1.length ≤ c1) (y1 : Light l1) (w2 : a2.size ≤ 140737488351232) (w3 : a3.size ≤ 140737488351232) :
    Calls Try.prog 5 #[.slice A0 l0.length c0, .slice A1 l1.length c1, .string a2, .string a3] w fun e w' => e = .returned (.bool true) ∧ Below w.heap.size w w' := by
  obtain ⟨k, h⟩ := FilesChanges_pure l0 l1 a2 a3 y0 y1
  exact bastionlaw17_FilesChanges.calls k A0 c0 l0 A1 c1 l1 a2 a3 true w hr0 hc0 hr1 hc1 h

#print axioms FilesChanges_law
end Go.Proofs.Ytgbkoeinfhlpoaa.F
