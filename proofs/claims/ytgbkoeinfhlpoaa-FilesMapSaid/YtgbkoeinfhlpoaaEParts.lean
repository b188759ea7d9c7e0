/- files.parts: the iterator over a path's parts hands on what splitS says, one by one. -/
import Derived.Test.YtgbkoeinfhlpoaaERange
import Derived.Test.YtgbkoeinfhlpoaaECut
namespace Go.Proofs.Ytgbkoeinfhlpoaa.F
open Go.RowKit Go.Shelf Go.Proofs.YtgbkoeinfhlpoaaW.PrintWords
attribute [local go_sem] Oper.semAt_some
set_option linter.unusedVariables false
set_option linter.unusedSimpArgs false

/-- The parts of a text, by cuts. -/
def partsB : Nat → ByteArray → List ByteArray
  | 0, _ => []
  | k + 1, s => if at47 s < 0 then [s] else s.extract 0 (at47 s).toNat :: partsB k (s.extract ((at47 s).toNat + 1) s.size)

theorem size_ext (s : ByteArray) (a b : Nat) (h : b ≤ s.size) : (s.extract a b).size = b - a := by
  rw [ByteArray.size_extract]; omega

theorem partsB_more : ∀ (k j : Nat) (s : ByteArray), s.size < k → s.size < j → partsB k s = partsB j s
  | 0, _, _, h, _ => by omega
  | _ + 1, 0, _, _, h => by omega
  | k + 1, j + 1, s, hk, hj => by
    unfold partsB
    by_cases h : at47 s < 0
    · rw [if_pos h, if_pos h]
    · rw [if_neg h, if_neg h]
      have := at47_ge s
      have hs : (s.extract ((at47 s).toNat + 1) s.size).size = s.size - ((at47 s).toNat + 1) := size_ext _ _ _ (Nat.le_refl _)
      rw [partsB_more k j _ (by omega) (by omega)]

/-- How many bytes the iterator's cell still has. -/
def leftB (B : Nat) (W : World) : Nat := match W.cell? ⟨B, 0, none⟩ with
  | some (.string q) => q.size
  | _ => 0
theorem leftB_eq {B : Nat} {W : World} {q : ByteArray} (h : W.cell? ⟨B, 0, none⟩ = some (.string q)) : leftB B W = q.size := by unfold leftB; rw [h]
def measB (B : Nat) (v : Value) (W : World) : Nat := match v with
  | .bool true => leftB B W + 1
  | _ => 0

theorem pre_snoc {α : Type} (pre : List α) (x : α) (l : List α) : pre ++ [x] <+: pre ++ x :: l := ⟨l, by simp⟩
theorem grown_drewN (W : World) (n : Nat) : W.grownBy (W.drewN n) none := ⟨rfl, rfl, rfl, Nat.le_refl _, fun _ _ _ => rfl⟩

set_option maxRecDepth 100000 in
set_option maxHeartbeats 2000000 in
theorem parts_seq (n : Nat) (hn : 1 ≤ n) (B : Nat) (s : ByteArray) (hs : s.size ≤ 140737488351232) (w : World) (hB : B < w.heap.size) (hc : w.cell? ⟨B, 0, none⟩ = some (.string s)) (hf : w.frozen? ⟨B, 0, none⟩ = false) :
    SeqBox Fence.wide n Try.prog 87 #[.pointer (some ⟨B, 0, none⟩)] (fun x : ByteArray => #[Value.string x]) B (partsB (s.size + 1) s) w := by
  intro l J Jx W hW hJd hJxd hJg hJxg hY h0
  have hBc : W.cell? ⟨B, 0, none⟩ = some (.string s) := (hW.cell (p := ⟨B, 0, none⟩) hB).trans hc
  have hBf : W.frozen? ⟨B, 0, none⟩ = false := (hW.frozen (p := ⟨B, 0, none⟩) hB).trans hf
  have HS := Aside0.mk hs
  have HJd := Aside0.mk hJd
  have HJg := Aside0.mk hJg
  have HY := Aside0.mk hY
  clear hJd hJg hY hs hc hf hW hB
  refine callsIn_of_wp Try.func87 rfl trivial ?_ rfl
  simp only [Try.ntmps87, List.size_toArray, List.length_cons, List.length_nil, Nat.reduceAdd, Nat.reduceSub, Array.replicate_succ, Array.replicate_zero, List.push_toArray, List.append_toArray, List.nil_append, List.cons_append]
  gi_wp2
  gi_loopw [3, 4] (fun v3 v4 wr => ∃ (more : Bool) (pre : List ByteArray) (q : ByteArray), v3 = .bool more ∧ Aside0 (if more = true then partsB (s.size + 1) s = pre ++ partsB (q.size + 1) q else partsB (s.size + 1) s = pre) ∧ Aside0 (q.size ≤ 140737488351232) ∧ wr.cell? ⟨B, 0, none⟩ = some (.string q) ∧ wr.frozen? ⟨B, 0, none⟩ = false ∧ J pre wr)
    (fun v3 v4 wr => measB B v3 wr)
  case atStart => exact ⟨true, [], s, rfl, ⟨by simp⟩, HS, hBc, hBf, h0⟩
  case round =>
    obtain ⟨more, pre, q, rfl, HX, HQ, hcq, hfq, hJ⟩ := hrel
    cases more with
    | false =>
      have hx : partsB (s.size + 1) s = pre := by simpa using HX.out
      have HZ := Aside0.mk hx
      clear hx HX
      gi_wp2
      go_end0
      exact ⟨⟨_, rfl⟩, .inl (by rw [HZ.out]; exact hJ)⟩
    | true =>
      have hx : partsB (s.size + 1) s = pre ++ partsB (q.size + 1) q := by simpa using HX.out
      have HZ := Aside0.mk hx
      clear hx HX
      have hcut := Cut_calls q HQ.out wr
      unfold cutV at hcut
      by_cases hm : at47 q < 0
      · rw [if_pos hm] at hcut
        have hpq : partsB (q.size + 1) q = [q] := by unfold partsB; rw [if_pos hm]
        rw [hpq] at HZ
        clear hm hpq
        gi_wp2_with (refine ⟨trivial, ?_⟩; gi_at_call 88; refine (callsIn_wide.2 hcut).mono ?_; rintro e w' ⟨rfl, nq, rfl⟩; obtain ⟨fn, tmps, assign, body, hy, hR⟩ := HY.out pre q ((wr.drewN nq).setCell ⟨B, 0, none⟩ (.string ⟨#[]⟩)) (HJd.out _ _ _ (HJg.out _ _ _ hJ (grown_drewN _ _))) (by rw [HZ.out]; exact List.prefix_refl _))
        refine hR.mono ?_
        rintro e W3 (⟨rfl, hJ3, hk3⟩ | ⟨rfl, hJx3⟩)
        · have hc3 := hk3.1
          have hf3 := hk3.2
          rw [World.cell?_setCell_same' _ _ _ (by show ((wr.drewN nq).cell? _).isSome = true; rw [show (wr.drewN nq).cell? ⟨B, 0, none⟩ = wr.cell? ⟨B, 0, none⟩ from rfl, hcq]; rfl)] at hc3
          rw [World.frozen?_setCell, show (wr.drewN nq).frozen? ⟨B, 0, none⟩ = wr.frozen? ⟨B, 0, none⟩ from rfl, hfq] at hf3
          gi_wp2
          go_roundw
          case rel => exact ⟨false, pre ++ [q], ⟨#[]⟩, rfl, ⟨by simpa using HZ.out⟩, ⟨by simp [ByteArray.size]⟩, hc3, hf3, hJ3⟩
          case measure => simp [measB]
        · gi_wp2
          refine bodyPost_ret (results_none rfl _ _ _) rfl ?_
          exact ⟨⟨_, rfl⟩, .inr ⟨pre ++ [q], by rw [HZ.out]; exact List.prefix_refl _, hJx3⟩⟩
      · rw [if_neg hm] at hcut
        obtain ⟨i, hi⟩ : ∃ i : Nat, (at47 q).toNat = i := ⟨_, rfl⟩
        have hge := at47_ge q
        have hsz := size_ext q (i + 1) q.size (Nat.le_refl _)
        have hpq : partsB (q.size + 1) q = q.extract 0 i :: partsB ((q.extract (i + 1) q.size).size + 1) (q.extract (i + 1) q.size) := by
          rw [← hi] at hsz ⊢
          conv => lhs; unfold partsB
          rw [if_neg hm, partsB_more q.size ((q.extract ((at47 q).toNat + 1) q.size).size + 1) _ (by omega) (by omega)]
        rw [hi] at hcut
        rw [hpq] at HZ
        have HM := Aside0.mk (show (q.extract (i + 1) q.size).size < q.size by omega)
        clear hm hpq hi hge hsz
        generalize q.extract 0 i = q1 at hcut HZ
        generalize q.extract (i + 1) q.size = q2 at hcut HZ HM
        gi_wp2_with (refine ⟨trivial, ?_⟩; gi_at_call 88; refine (callsIn_wide.2 hcut).mono ?_; rintro e w' ⟨rfl, nq, rfl⟩; obtain ⟨fn, tmps, assign, body, hy, hR⟩ := HY.out pre q1 ((wr.drewN nq).setCell ⟨B, 0, none⟩ (.string q2)) (HJd.out _ _ _ (HJg.out _ _ _ hJ (grown_drewN _ _))) (by rw [HZ.out]; exact pre_snoc _ _ _))
        refine hR.mono ?_
        rintro e W3 (⟨rfl, hJ3, hk3⟩ | ⟨rfl, hJx3⟩)
        · have hc3 := hk3.1
          have hf3 := hk3.2
          rw [World.cell?_setCell_same' _ _ _ (by show ((wr.drewN nq).cell? _).isSome = true; rw [show (wr.drewN nq).cell? ⟨B, 0, none⟩ = wr.cell? ⟨B, 0, none⟩ from rfl, hcq]; rfl)] at hc3
          rw [World.frozen?_setCell, show (wr.drewN nq).frozen? ⟨B, 0, none⟩ = wr.frozen? ⟨B, 0, none⟩ from rfl, hfq] at hf3
          have hl1 := leftB_eq hc3
          have hl2 := leftB_eq hcq
          have HL := Aside0.mk (And.intro hl1 hl2)
          clear hl1 hl2
          gi_wp2
          go_roundw
          case rel => exact ⟨true, pre ++ [q1], q2, rfl, ⟨by simpa using HZ.out⟩, ⟨by have := HM.out; have := HQ.out; omega⟩, hc3, hf3, hJ3⟩
          case measure =>
            show leftB B W3 + 1 < leftB B wr + 1
            rw [HL.out.1, HL.out.2]
            have := HM.out
            omega
        · gi_wp2
          refine bodyPost_ret (results_none rfl _ _ _) rfl ?_
          exact ⟨⟨_, rfl⟩, .inr ⟨pre ++ [q1], by rw [HZ.out]; exact pre_snoc _ _ _, hJx3⟩⟩

set_option maxRecDepth 100000 in
set_option maxHeartbeats 1000000 in
/-- The maker of the iterator. -/
theorem parts_calls (s : ByteArray) (w : World) :
    Calls Try.prog 52 #[.string s] w fun e w' => e = .returned (.func (.func 87) #[] #[.pointer (some ⟨w.heap.size, 0, none⟩)]) ∧ w' = w.alloc (.cells #[.string s] 9) := by
  go_enter Try.func52, Try.ntmps52
  go_wp2
  go_ret
  exact ⟨rfl, rfl⟩
#print axioms parts_seq
end Go.Proofs.Ytgbkoeinfhlpoaa.F
