/- slices.Delete of one file out of a row of the call's own. -/
import Derived.Test.YtgbkoeinfhlpoaaERow
namespace Go.Proofs.Ytgbkoeinfhlpoaa.F
open Go.RowKit Go.Shelf Go.Proofs Go.Proofs.YtgbkoeinfhlpoaaW.PrintWords Go.Proofs.YtgbkoeinfhlpoaaW.PrintLast Go.Proofs.YtgbkoeinfhlpoaaW.PrintMore
set_option linter.unusedVariables false
set_option linter.unusedSimpArgs false

set_option maxHeartbeats 4000000 in
set_option maxRecDepth 100000 in
theorem Delete_calls (base g cap : Nat) (i : Nat) (l : List S33) (w : World) (hr : Kd.R k33 33 w base (fun _ => True) (.slice (some ⟨g, 0, none⟩) l.length cap) l) (hbase : base ≤ w.heap.size) (hi : i < l.length) (hl : l.length ≤ 1000000) :
    Calls Try.prog 57 #[.slice (some ⟨g, 0, none⟩) l.length cap, .int .i64 i, .int .i64 ((i : Int) + 1)] w fun e w' => e = .returned (.slice (some ⟨g, 0, none⟩) (l.length - 1) cap) ∧ Kd.R k33 33 w' base (fun _ => True) (.slice (some ⟨g, 0, none⟩) (l.length - 1) cap) (l.eraseIdx i) ∧ Below base w w' := by
  have hu33 := Try.underlying33
  obtain ⟨hn, hcap, _⟩ := Kd.R_reads' hr
  have hel : (l.eraseIdx i).length = l.length - 1 := by rw [List.length_eraseIdx_of_lt hi]
  -- what comes behind the append
  have hclr : ∀ (W : World), Kd.R k33 33 W base (fun _ => True) (.slice (some ⟨g, 0, none⟩) (l.length - 1) cap) (l.eraseIdx i) → ∀ ty c, (Builtin.clear_ #[22] ty #[.slice (some ⟨g, (l.length - 1) * 2, none⟩) 1 c]).run Try.prog W = .ok (.tuple #[]) (W.setCells g ((l.length - 1) * 2) [.string ⟨#[]⟩, .string ⟨#[]⟩]) := by
    intro W hR ty c
    rcases of_R hR with ⟨h0, _⟩ | ⟨g', cap', cur, hv, hO⟩
    · cases h0
    · rw [hel] at hv
      injection hv with ha _ hc
      injection ha with ha
      injection ha with hg
      subst hg; subst hc
      exact clear33 W ty g _ c (fun j hj => hO.room _ (by omega)) (fun j hj => hO.plain _)
  have hend : ∀ (W : World), Kd.R k33 33 W base (fun _ => True) (.slice (some ⟨g, 0, none⟩) (l.length - 1) cap) (l.eraseIdx i) → Kd.R k33 33 (W.setCells g ((l.length - 1) * 2) [.string ⟨#[]⟩, .string ⟨#[]⟩]) base (fun _ => True) (.slice (some ⟨g, 0, none⟩) (l.length - 1) cap) (l.eraseIdx i) ∧ Below base W (W.setCells g ((l.length - 1) * 2) [.string ⟨#[]⟩, .string ⟨#[]⟩]) := by
    intro W hR
    rcases of_R hR with ⟨h0, _⟩ | ⟨g', cap', cur, hv, hO⟩
    · cases h0
    · rw [hel] at hv
      injection hv with ha _ hc
      injection ha with ha
      injection ha with hg
      subst hg; subst hc
      obtain ⟨cur', hO'⟩ := hO.put (l' := l.eraseIdx i) ((l.length - 1) * 2) [.string ⟨#[]⟩, .string ⟨#[]⟩] (by simp; omega) hO.len (by
        intro c hc ht
        rw [hel] at ht ⊢
        rw [List.append_assoc, List.take_left' (by rw [List.length_take, hc]; omega)]
        exact ht)
      refine ⟨?_, below_put hO.base _ _⟩
      have := R_of hO'
      rwa [hel] at this
  have HR := Aside0.mk hr
  have HC := Aside0.mk hclr
  have HE := Aside0.mk hend
  have hw1 : IntKind.i64.wrap ((i : Int) + 1) = (i : Int) + 1 := by rw [IntKind.wrap_i64]; omega
  have h1 : (0 : Int) ≤ (i : Int) + 1 := by omega
  have h2 : (i : Int) + 1 ≤ (l.length : Int) := by omega
  have h3 : ((i : Int) + 1).toNat = i + 1 := by omega
  have h4 : (l.length : Int) ≤ (cap : Int) := by omega
  have h5 : ¬ ((i : Int) = (i : Int) + 1) := by omega
  have h6 : (i : Int) ≤ (cap : Int) := by omega
  have h7 : (i : Int) ≤ (l.length : Int) := by omega
  have h8 : (i : Int) ≤ (i : Int) + 1 := by omega
  have h9 : ((l.length - 1 : Nat) : Int) ≤ (l.length : Int) := by omega
  have h10 : ¬ (cap = l.length - 1) := by omega
  have h11 : l.length - (l.length - 1) = 1 := by omega
  have mixed : Try.prog.follows Departure.mixedOrders = true := by kernel_rfl
  clear hr hclr hend
  go_enter Try.func57, Try.ntmps57
  go_wp2_with fail
  go_region_law_o (refine Kd.R_delete_step k33 (w0 := w) base rfl (.tmp 22) (.tmp 25) 22 33 rfl Try.underlying22 size33i (g := g) (n := l.length) (c := cap) (k := i) (m := l.length - (i + 1)) (c2 := cap - (i + 1)) (A := if cap = i + 1 then some ⟨g, 0, none⟩ else (some (⟨g, 0, none⟩ : Addr)).map (·.add ((i + 1) * 2))) (ok := fun _ => True) (xs := l) (by simp [Act.eval, Act.put]) (by simp [Act.eval, Act.put, Addr.add]) rfl rfl (Kd.R_drew HR.out) hi (pw_below_drewN (Below.refl _ _) 1) hbase ?_; intro w1 hR1 hB1 _)
  have hcl := HC.out w1 hR1
  obtain ⟨hE1, hE2⟩ := HE.out w1 hR1
  by_cases hci : cap = i + 1
  · subst hci
    go_wp2
    go_ret
    exact ⟨rfl, hE1, hB1.trans hE2⟩
  · go_wp2
    go_ret
    exact ⟨rfl, hE1, hB1.trans hE2⟩

#print axioms Delete_calls
end Go.Proofs.Ytgbkoeinfhlpoaa.F
