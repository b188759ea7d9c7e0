/- PackShort: the plain law. -/
import Derived.Test.YtgbkoeinfhlpoaaFx35
import Derived.Test.YtgbkoeinfhlpoaaEPkAwake
namespace Go.Proofs.Ytgbkoeinfhlpoaa.F
open Go.RowKit Go.Shelf Go.Proofs Go.Proofs.YtgbkoeinfhlpoaaW.PrintWords Go.Proofs.YtgbkoeinfhlpoaaW.PrintLast Go.Proofs.YtgbkoeinfhlpoaaW.PrintMore
set_option linter.unusedVariables false
set_option linter.unusedSimpArgs false

theorem strOf_rep (n : Nat) (x : Int) : ∃ c : UInt8, strOfNums (List.replicate n x) = ⟨(List.replicate n c).toArray⟩ := by
  refine ⟨UInt8.ofNat x.toNat, ?_⟩
  unfold strOfNums
  simp
theorem runs_rep (n : Nat) (x : Int) (h : n < 40000) : ∃ t : ByteArray, pack_Runs.f (strOfNums (List.replicate n x)) = some t ∧ t.size ≤ 3 + 3 * (n / 1000 + 1) + 3 := by
  obtain ⟨c, e⟩ := strOf_rep n x
  rw [e]
  unfold pack_Runs.f
  have hs : (⟨(List.replicate n c).toArray⟩ : ByteArray).size = n := by show (List.replicate n c).toArray.size = n; simp
  rw [if_pos (by omega)]
  refine ⟨_, rfl, ?_⟩
  show (runsB _).toArray.size ≤ _
  rw [List.size_toArray]
  exact runsB_replicate n c h

theorem w64_add (a b : Nat) (h : a + b < 4611686018427387904) : wrap64 ((a : Int) + (b : Int)) = ((a + b : Nat) : Int) := by
  rw [← Int.natCast_add]
  exact w64 _ h
theorem short_sum (m n0 n1 : Nat) (hm : m ≤ 1000000) (h0 : n0 ≤ 48) (h1 : n1 ≤ 4096) :
    wrap64 (wrap64 (wrap64 (wrap64 (((4 + m : Nat) : Int) + 8) + (n0 : Int)) + (n1 : Int)) + wrap64 (wrap64 ((n1 : Int) / 4) * 3)) = ((4 + (m + (8 + n0 + n1 + n1 / 4 * 3 + 0)) : Nat) : Int) := by
  have e1 : wrap64 ((n1 : Int) / 4) = ((n1 / 4 : Nat) : Int) := by rw [← w64 (n1 / 4) (by omega)]; congr 1
  have e2 : wrap64 (((n1 / 4 : Nat) : Int) * 3) = ((n1 / 4 * 3 : Nat) : Int) := by rw [← w64 (n1 / 4 * 3) (by omega)]; congr 1
  rw [e1, e2, show (8 : Int) = ((8 : Nat) : Int) from rfl, w64_add _ _ (by omega), w64_add _ _ (by omega), w64_add _ _ (by omega), w64_add _ _ (by omega)]
  congr 1
  omega
theorem short_most (N : Nat) (h : N < 40000) : wrap64 (wrap64 (3 + wrap64 (3 * wrap64 (wrap64 ((N : Int) / 1000) + 1))) + 3) = ((3 + 3 * (N / 1000 + 1) + 3 : Nat) : Int) := by
  have e1 : wrap64 ((N : Int) / 1000) = ((N / 1000 : Nat) : Int) := by rw [← w64 (N / 1000) (by omega)]; congr 1
  have e3 : wrap64 (3 * ((N / 1000 + 1 : Nat) : Int)) = ((3 * (N / 1000 + 1) : Nat) : Int) := by rw [← w64 (3 * (N / 1000 + 1)) (by omega)]; congr 1
  rw [e1, show (1 : Int) = ((1 : Nat) : Int) from rfl, w64_add _ _ (by omega), e3, show (3 : Int) = ((3 : Nat) : Int) from rfl, w64_add _ _ (by omega), w64_add _ _ (by omega)]
theorem most_append (a b : List Fl) : mostL (a ++ b) = mostL a + mostL b := by
  induction a with
  | nil => simp [mostL]
  | cons x t ih => simp [mostL, ih]; omega
theorem most_small : ∀ (l : List Fl), (∀ f ∈ l, f.1.length ≤ 48 ∧ f.2.length ≤ 4096) → mostL l ≤ 7224 * l.length
  | [], _ => by simp [mostL]
  | f :: t, h => by
    have h1 := h f List.mem_cons_self
    have ih := most_small t (fun g hg => h g (List.mem_cons_of_mem _ hg))
    unfold mostL
    rw [List.length_cons]
    omega

section
variable (L : List S33) (hL : checkE L = 0)
include hL
theorem short_l1 (s : ByteArray) : ∀ (d i k : Nat), L.length - i = d → i ≤ L.length → d < k →
    bastionlaw18_PackShort.l1 k L s ((4 + mostL ((L.take i).map flOf) : Nat) : Int) (i : Int) = some (decide (s.size ≤ 4 + mostL (L.map flOf)))
  | d, i, 0, _, _, hk => by omega
  | d, i, k + 1, hd, hi, hk => by
    unfold bastionlaw18_PackShort.l1
    have h64 := (check_full hL).1
    by_cases h1 : i < L.length
    · rw [if_pos (by omega), if_pos (by omega), getD_rd]
      have hm : L.getD i z33 ∈ L := by simp [h1]
      have hf := check_short hL (flOf (L.getD i z33)) (List.mem_map_of_mem hm)
      have e : (L.take (i + 1)).map flOf = (L.take i).map flOf ++ [flOf (L.getD i z33)] := by
        rw [List.take_succ_eq_append_getElem h1, List.map_append]
        simp [h1]
      have hb : mostL ((L.take i).map flOf) ≤ 7224 * 64 := by
        have h2 := most_small ((L.take i).map flOf) (fun f hf => check_short hL f (by
          obtain ⟨g, hg, rfl⟩ := List.mem_map.mp hf
          exact List.mem_map_of_mem (List.mem_of_mem_take hg)))
        rw [List.length_map, List.length_take] at h2
        omega
      have s0 : (L.getD i z33).f0.size = (flOf (L.getD i z33)).1.length := Lib.size_eq _
      have s1 : (L.getD i z33).f1.size = (flOf (L.getD i z33)).2.length := Lib.size_eq _
      have hx := short_l1 s (d - 1) (i + 1) k (by omega) (by omega) (by omega)
      rw [e, most_append] at hx
      rw [s0, s1]
      generalize mostL ((L.take i).map flOf) = m at hb hx
      simp only [mostL] at hx
      generalize (flOf (L.getD i z33)).1.length = n0 at hf hx
      generalize (flOf (L.getD i z33)).2.length = n1 at hf hx
      rw [short_sum m n0 n1 (by omega) hf.1 hf.2, wrap_next (by omega)]
      exact hx
    · rw [if_neg (by omega), List.take_of_length_le (by omega)]
      congr 1
      rw [decide_eq_decide]
      omega
end

theorem short_l0 (L : List S33) (x : Int) (N : Nat) (hN : N < 40000) (K : Nat) (hp : ∀ k, K ≤ k → pack_Pack.f k L = some (packE L)) (hK : L.length < K) : ∀ (d i k : Nat) (l : List Int), N - i = d → i ≤ N → l = List.replicate i x ++ l.drop i → l.length = N → d + K < k →
    bastionlaw18_PackShort.l0 k L x l (i : Int) = some true
  | d, i, 0, l, _, _, _, _, hk => by omega
  | d, i, k + 1, l, hd, hi, hl, hn, hk => by
    unfold bastionlaw18_PackShort.l0
    by_cases h1 : i < N
    · rw [if_pos (by omega), if_pos (by omega), wrap_next (by omega), Int.toNat_natCast]
      refine short_l0 L x N hN K hp hK (d - 1) (i + 1) k (l.set i x) (by omega) (by omega) ?_ (by rw [List.length_set]; exact hn) (by omega)
      have h2 : l.drop i = l[i]'(by omega) :: l.drop (i + 1) := List.drop_eq_getElem_cons (by omega)
      rw [List.drop_set_of_lt (by omega)]
      conv => lhs; rw [hl, List.set_append_right _ _ (by simp), List.length_replicate, Nat.sub_self, h2, List.set_cons_zero]
      rw [List.replicate_succ', List.append_assoc]
      rfl
    · have hiN : i = N := by omega
      have hlr : l = List.replicate N x := by
        rw [List.drop_of_length_le (by omega), List.append_nil, hiN] at hl
        exact hl
      rw [if_neg (by omega), hlr]
      obtain ⟨t, ht, hts⟩ := runs_rep N x hN
      rw [ht, Option.bind_some, List.length_replicate]
      rw [short_most N hN, if_neg (by omega), hp k (by omega), Option.bind_some]
      by_cases hc : checkE L = 0
      · have hpe : packE L = (toB (packB (L.map flOf)), 0) := by unfold packE; rw [if_pos hc]
        rw [hpe]
        dsimp only
        rw [if_pos rfl]
        have := short_l1 L hc (toB (packB (L.map flOf))) L.length 0 k (by omega) (by omega) (by omega)
        rw [List.take_zero] at this
        refine Eq.trans this ?_
        rw [decide_eq_true]
        rw [toB_size]
        exact packB_len (L.map flOf) (by rw [List.length_map]; exact (check_full hc).1) (check_short hc)
      · have hpe : packE L = (⟨#[]⟩, checkE L) := by unfold packE; rw [if_neg hc]
        rw [hpe]
        dsimp only
        rw [if_neg hc]

theorem PackShort_pure (l0 : List S33) (a1 a2 : Int) (y0 : Light l0) : ∃ k, bastionlaw18_PackShort.f k l0 a1 a2 = some true := by
  obtain ⟨K1, hp⟩ := pack_val l0
  obtain ⟨K4, haw⟩ := awake_true
  refine ⟨K1 + K4 + l0.length + 40005, ?_⟩
  have haw := haw (K1 + K4 + l0.length + 40005) (by omega)
  obtain ⟨b0, hl0, hb0⟩ := large18 y0 (K1 + K4 + l0.length + 40005) (by omega)
  dsimp only at haw hp
  unfold bastionlaw18_PackShort.f
  rw [hl0, Option.bind_some]
  by_cases c0 : b0 = true
  · rw [if_pos c0, haw]; rfl
  rw [if_neg c0, haw, Option.bind_some, if_pos rfl]
  have hu : 0 ≤ IntKind.u64.wrap a2 := by rw [IntKind.wrap_u64]; omega
  have ht : Int.tmod (IntKind.u64.wrap a2) 40000 = (IntKind.u64.wrap a2) % 40000 := Int.tmod_eq_emod_of_nonneg hu
  rw [ht]
  obtain ⟨n, hn⟩ : ∃ n : Nat, (IntKind.u64.wrap a2) % 40000 = (n : Int) := ⟨((IntKind.u64.wrap a2) % 40000).toNat, by omega⟩
  have hn2 : n < 40000 := by omega
  have hw : wrap64 (n : Int) = (n : Int) := by unfold wrap64; omega
  rw [hn, hw, if_pos (by omega), Int.toNat_natCast, if_pos (by omega)]
  exact short_l0 l0 a1 n hn2 (K1 + l0.length + 1) (fun k hk => hp k (by omega)) (by omega) n 0 _ _ (by omega) (by omega) (by simp) (by simp) (by omega)

theorem PackShort_law (A0 : Option Addr) (c0 : Nat) (l0 : List S33) (a1 a2 : Int) (w : World) (hr0 : Kd.C k33 w A0 l0.length l0) (hc0 : l0.length ≤ c0) (y0 : Light l0) (w1 : (Lit.int .u8 a1).wf = true) (w2 : (Lit.int .i64 a2).wf = true) :
    Calls Try.prog 12 #[.slice A0 l0.length c0, .int .u8 a1, .int .i64 a2] w fun e w' => e = .returned (.bool true) ∧ Below w.heap.size w w' := by
  obtain ⟨k, h⟩ := PackShort_pure l0 a1 a2 y0
  exact bastionlaw18_PackShort.calls k A0 c0 l0 a1 a2 true w hr0 hc0 h
#print axioms PackShort_law
end Go.Proofs.Ytgbkoeinfhlpoaa.F
