/- PackBack: the plain law. -/
import Derived.Test.YtgbkoeinfhlpoaaFx34
import Derived.Test.YtgbkoeinfhlpoaaEPkAwake
namespace Go.Proofs.Ytgbkoeinfhlpoaa.F
open Go.RowKit Go.Shelf Go.Proofs Go.Proofs.YtgbkoeinfhlpoaaW.PrintWords Go.Proofs.YtgbkoeinfhlpoaaW.PrintLast Go.Proofs.YtgbkoeinfhlpoaaW.PrintMore
set_option linter.unusedVariables false
set_option linter.unusedSimpArgs false

theorem most_le : ∀ (l : List Fl), (∀ f ∈ l, f.1.length ≤ 48 ∧ f.2.length ≤ 4096) → mostL l ≤ 7224 * l.length
  | [], _ => by simp [mostL]
  | f :: t, h => by
    have h1 := h f List.mem_cons_self
    have ih := most_le t (fun g hg => h g (List.mem_cons_of_mem _ hg))
    unfold mostL
    rw [List.length_cons]
    omega
theorem packE_good {l : List S33} (h : checkE l = 0) : packE l = (toB (packB (l.map flOf)), 0) := by unfold packE; rw [if_pos h]
theorem packE_err {l : List S33} (h : (packE l).2 = 0) : checkE l = 0 := by
  unfold packE at h
  by_cases hc : checkE l = 0
  · exact hc
  · rw [if_neg hc] at h; exact h
theorem packE_size {l : List S33} (h : checkE l = 0) : (toB (packB (l.map flOf))).size ≤ 1000000 := by
  rw [toB_size]
  have h1 := (check_full h).1
  have h2 := packB_len (l.map flOf) (by rw [List.length_map]; exact h1) (check_short h)
  have h3 := most_le (l.map flOf) (check_short h)
  rw [List.length_map] at h3
  omega
theorem unpack_pack {l : List S33} (h : checkE l = 0) : unpackE (toB (packB (l.map flOf))) = (l, 0) := by
  have e : unpackR (toB (packB (l.map flOf))).data.toList = l.map flOf := unpackR_pack (l.map flOf) (by rw [List.length_map]; exact (check_full h).1) (check_short h)
  unfold unpackE
  rw [e, map_sOf_flOf, if_pos ⟨h, rfl⟩]
theorem unpack_f {s : ByteArray} (h : s.size ≤ 1000000) : pack_Unpack.f s = some (unpackE s) := by unfold pack_Unpack.f; rw [if_pos h]
theorem unpack_ok {s : ByteArray} {l : List S33} {e : Int} (h : unpackE s = (l, e)) (h0 : e = 0) : checkE l = 0 ∧ toB (packB (l.map flOf)) = s := by
  unfold unpackE at h
  by_cases hc : checkE ((unpackR s.data.toList).map sOf) = 0 ∧ toB (packB (unpackR s.data.toList)) = s
  · rw [if_pos hc] at h
    injection h with h1 h2
    subst h1
    exact ⟨hc.1, by rw [map_flOf_sOf]; exact hc.2⟩
  · rw [if_neg hc] at h
    injection h with h1 h2
    omega

open Classical in
theorem PackBack_pure (l0 l1 : List S33) (a2 : ByteArray) (y0 : Light l0) (y1 : Light l1) (w2 : a2.size ≤ 140737488351232) : ∃ k, bastionlaw18_PackBack.f k l0 l1 a2 = some true := by
  obtain ⟨K1, hp0⟩ := pack_val l0
  obtain ⟨K2, hp1⟩ := pack_val l1
  obtain ⟨K3, hp2⟩ := pack_val (unpackE a2).1
  obtain ⟨K4, haw⟩ := awake_true
  refine ⟨K1 + K2 + K3 + K4 + l0.length + l1.length + 1, ?_⟩
  have hp0 := hp0 (K1 + K2 + K3 + K4 + l0.length + l1.length + 1) (by omega)
  have hp1 := hp1 (K1 + K2 + K3 + K4 + l0.length + l1.length + 1) (by omega)
  have hp2 := hp2 (K1 + K2 + K3 + K4 + l0.length + l1.length + 1) (by omega)
  have haw := haw (K1 + K2 + K3 + K4 + l0.length + l1.length + 1) (by omega)
  obtain ⟨b0, hl0, hb0⟩ := large18 y0 (K1 + K2 + K3 + K4 + l0.length + l1.length + 1) (by omega)
  obtain ⟨b1, hl1, hb1⟩ := large18 y1 (K1 + K2 + K3 + K4 + l0.length + l1.length + 1) (by omega)
  have hs00 := same17 l0 l0 (by have := y0.len; omega) (K1 + K2 + K3 + K4 + l0.length + l1.length + 1) (by omega)
  have hs01 := same17 l0 l1 (by have := y0.len; omega) (K1 + K2 + K3 + K4 + l0.length + l1.length + 1) (by omega)
  generalize K1 + K2 + K3 + K4 + l0.length + l1.length + 1 = k at hp0 hp1 hp2 haw hl0 hl1 hs00 hs01
  dsimp only at hp0 hp1 hp2 haw
  have haw1 : ((bastionlaw18_awake.f k).bind fun t => some t) = some true := by rw [haw]; rfl
  unfold bastionlaw18_PackBack.f
  rw [hl0, Option.bind_some]
  by_cases c0 : b0 = true
  · rw [if_pos c0]; exact haw1
  rw [if_neg c0, hl1, Option.bind_some]
  by_cases c1 : b1 = true
  · rw [if_pos c1]; exact haw1
  rw [if_neg c1]
  by_cases c2 : (a2.size : Int) > 20000
  · rw [if_pos c2]; exact haw1
  rw [if_neg c2, haw, Option.bind_some, if_pos rfl, hp0, Option.bind_some, hp1, Option.bind_some]
  -- the end: what is unpacked is packed as it was
  have hend : ((pack_Unpack.f a2).bind fun bt357 => (if bt357.2 = 0 then ((pack_Pack.f k bt357.1).bind fun bt361 => (if bt361.2 = 0 then (some (bt361.1.toList == a2.toList)) else (none))) else (some true))) = some true := by
    rw [unpack_f (by omega), Option.bind_some]
    by_cases hz : (unpackE a2).2 = 0
    · rw [if_pos hz]
      obtain ⟨hc, hq⟩ := unpack_ok (s := a2) (l := (unpackE a2).1) (e := (unpackE a2).2) rfl hz
      rw [hp2, Option.bind_some, packE_good hc]
      show (if (0 : Int) = 0 then _ else _) = _
      rw [if_pos rfl, hq]
      simp
    · rw [if_neg hz]
  by_cases c3 : (packE l0).2 = 0
  · rw [if_pos c3]
    have hc := packE_err c3
    rw [packE_good hc]
    rw [unpack_f (packE_size hc), Option.bind_some, unpack_pack hc]
    dsimp only
    rw [if_pos rfl, hs00, Option.bind_some, if_pos (by simp)]
    by_cases c4 : (packE l1).2 = 0
    · have hc1 := packE_err c4
      rw [if_pos c4, hs01, Option.bind_some, packE_good hc1]
      dsimp only
      have hiff : ((toB (packB (l0.map flOf))).toList == (toB (packB (l1.map flOf))).toList) = decide (l0 = l1) := by
        rw [Bool.eq_iff_iff, beq_iff_eq, decide_eq_true_eq]
        constructor
        · intro h
          have h2 := bytes_ext h
          have e0 := unpack_pack hc
          rw [h2, unpack_pack hc1] at e0
          injection e0 with e0 _
          exact e0.symm
        · intro h
          rw [h]
      rw [hiff, if_neg (by simp)]
      exact hend
    · rw [if_neg c4]
      exact hend
  · rw [if_neg c3]
    exact hend

theorem PackBack_law (A0 : Option Addr) (c0 : Nat) (l0 : List S33) (A1 : Option Addr) (c1 : Nat) (l1 : List S33) (a2 : ByteArray) (w : World) (hr0 : Kd.C k33 w A0 l0.length l0) (hc0 : l0.length ≤ c0) (y0 : Light l0) (hr1 : Kd.C k33 w A1 l1.length l1) (hc1 : l1.length ≤ c1) (y1 : Light l1) (w2 : a2.size ≤ 140737488351232) :
    Calls Try.prog 11 #[.slice A0 l0.length c0, .slice A1 l1.length c1, .string a2] w fun e w' => e = .returned (.bool true) ∧ Below w.heap.size w w' := by
  obtain ⟨k, h⟩ := PackBack_pure l0 l1 a2 y0 y1 w2
  exact bastionlaw18_PackBack.calls k A0 c0 l0 A1 c1 l1 a2 true w hr0 hc0 hr1 hc1 h
#print axioms PackBack_law
end Go.Proofs.Ytgbkoeinfhlpoaa.F
