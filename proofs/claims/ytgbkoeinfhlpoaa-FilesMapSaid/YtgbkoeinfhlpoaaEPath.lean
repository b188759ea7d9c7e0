/- files.Path: is a text a path? -/
import Derived.Test.YtgbkoeinfhlpoaaEParts
import Derived.Test.YtgbkoeinfhlpoaaEPlain
namespace Go.Proofs.Ytgbkoeinfhlpoaa.F
open Go.RowKit Go.Shelf Go.Proofs.YtgbkoeinfhlpoaaW.PrintWords
attribute [local go_sem] Oper.semAt_some
set_option linter.unusedVariables false
set_option linter.unusedSimpArgs false

def partI (x : ByteArray) : Bool := partB x.toList
def pathI (s : ByteArray) : Bool := decide (s.size ≤ 48) && (partsB (s.size + 1) s).all partI

theorem partI_bad (x : ByteArray) (h : x.toList = [] ∨ x.toList = [46] ∨ x.toList = [46, 46]) : partI x = false := by
  unfold partI partB
  rcases h with h | h | h <;> rw [h] <;> decide
theorem partI_ok (x : ByteArray) (h0 : ¬ x.toList = []) (h1 : ¬ x.toList = [46]) (h2 : ¬ x.toList = [46, 46]) (h : ∀ j, j < x.size → plainI (bt x (j : Int)) = true) : partI x = true := by
  unfold partI partB
  have e0 : (x.toList != []) = true := bne_iff_ne.mpr h0
  have e1 : (x.toList != [46]) = true := bne_iff_ne.mpr h1
  have e2 : (x.toList != [46, 46]) = true := bne_iff_ne.mpr h2
  rw [e0, e1, e2]
  simp only [Bool.true_and, List.all_eq_true]
  intro c hc
  rw [Lib.toList_data] at hc
  obtain ⟨j, hj, rfl⟩ := List.mem_iff_getElem.mp hc
  have hj' : j < x.size := by rw [Lib.size_eq]; exact hj
  have := h j hj'
  rw [← plainI_byte]
  have e : bt x (j : Int) = (x[j].toNat : Int) := by simp [bt, hj']
  rw [e] at this
  exact this
theorem partI_byte (x : ByteArray) (k : Nat) (hk : k < x.size) (h : plainI (bt x (k : Int)) = false) : partI x = false := by
  unfold partI partB
  have : x.toList.all plainB = false := by
    rw [List.all_eq_false]
    refine ⟨x[k], ?_, ?_⟩
    · rw [Lib.toList_data]
      have hk' : k < x.data.toList.length := by rw [← Lib.size_eq]; exact hk
      exact List.mem_iff_getElem.mpr ⟨k, hk', rfl⟩
    · rw [← plainI_byte]
      have e : bt x (k : Int) = (x[k].toNat : Int) := by simp [bt, hk]
      rw [← e, h]
      simp
  rw [this]
  simp

theorem partsB_size : ∀ (k : Nat) (s y : ByteArray), y ∈ partsB k s → y.size ≤ s.size
  | 0, s, y, h => by simp [partsB] at h
  | k + 1, s, y, h => by
    unfold partsB at h
    have hg := at47_ge s
    by_cases hm : at47 s < 0
    · rw [if_pos hm] at h
      simp at h
      rw [h]
      exact Nat.le_refl _
    · rw [if_neg hm] at h
      rcases List.mem_cons.mp h with h | h
      · rw [h, size_ext _ _ _ (by omega)]; omega
      · have := partsB_size k _ y h
        rw [size_ext _ _ _ (Nat.le_refl _)] at this
        omega

def pI (w : World) (pre : List ByteArray) (W : World) : Prop :=
  ((∀ y ∈ pre, partI y = true) ∧ W.cell? ⟨w.heap.size, 0, none⟩ = some (.bool false) ∧ W.frozen? ⟨w.heap.size, 0, none⟩ = false) ∧ Below w.heap.size w W
def pX (w : World) (c : Code) (pre : List ByteArray) (W : World) : Prop :=
  (c = .ret ∧ (∃ y ∈ pre, partI y = false) ∧ W.cell? ⟨w.heap.size, 0, none⟩ = some (.bool false)) ∧ Below w.heap.size w W

def frameP (s : ByteArray) (R : Nat) (x : ByteArray) : Act :=
  { tmps := #[.string s, undef, .pointer (some ⟨R, 0, none⟩), .string x, undef, .string s, .int .i64 s.size, .bool false, .string s, .func (.func 87) #[] #[.pointer (some ⟨R + 1, 0, none⟩)], .string x, undef, undef, undef, undef, undef, undef, undef, undef, undef, undef, undef, undef, undef, undef, undef, undef, undef, undef, undef, undef, undef], defers := [] }

set_option maxRecDepth 100000 in
set_option maxHeartbeats 4000000 in
theorem path_in (s : ByteArray) (hs : s.size ≤ 48) (w : World) :
    CallsIn Fence.wide 3 Try.prog 21 #[.string s] w fun e W' => e = .returned (.bool ((partsB (s.size + 1) s).all partI)) ∧ Below w.heap.size w W' := by
  have hd : decide ((48 : Int) < (s.size : Int)) = false := decide_eq_false (by omega)
  have hs2 : s.size ≤ 140737488351232 := by omega
  have HS := Aside0.mk hs2
  have HS1 := Aside0.mk hs
  clear hs2 hs
  refine callsIn_of_wp_marks Try.func21 rfl trivial ?_ rfl
  simp only [Try.ntmps21, List.size_toArray, List.length_cons, List.length_nil, Nat.reduceAdd, Nat.reduceSub, Array.replicate_succ, Array.replicate_zero, List.push_toArray, List.append_toArray, List.nil_append, List.cons_append]
  gi_wp2_with (refine ⟨trivial, ?_⟩; gi_at_call 52; refine (callsIn_wide.2 (parts_calls s _)).mono ?_; rintro e w' ⟨rfl, rfl⟩)
  have hB0 : Below w.heap.size w ((w.alloc (.cells #[.bool false] 4)).alloc (.cells #[.string s] 9)) := ((Below.refl _ w).alloc (Nat.le_refl _) _).alloc (by simp) _
  have c0 : ((w.alloc (.cells #[.bool false] 4)).alloc (.cells #[.string s] 9)).cell? ⟨w.heap.size, 0, none⟩ = some (.bool false) := by simp
  have f0 : ((w.alloc (.cells #[.bool false] 4)).alloc (.cells #[.string s] 9)).frozen? ⟨w.heap.size, 0, none⟩ = false := by simp
  have c1 : ((w.alloc (.cells #[.bool false] 4)).alloc (.cells #[.string s] 9)).cell? ⟨w.heap.size + 1, 0, none⟩ = some (.string s) := by simp
  have f1 : ((w.alloc (.cells #[.bool false] 4)).alloc (.cells #[.string s] 9)).frozen? ⟨w.heap.size + 1, 0, none⟩ = false := by simp
  have hz : ((w.alloc (.cells #[.bool false] 4)).alloc (.cells #[.string s] 9)).heap.size = w.heap.size + 1 + 1 := by simp
  generalize (w.alloc (.cells #[.bool false] 4)).alloc (.cells #[.string s] 9) = W0 at hB0 c0 f0 c1 f1 hz ⊢
  refine range_box (B := w.heap.size + 1) (xs := partsB (s.size + 1) s) rfl (by omega) (gf := 87) (lb := #[.pointer (some ⟨w.heap.size + 1, 0, none⟩)]) rfl trivial (enters_of Try.func87 (by kernel_rfl) rfl) (by omega)
    (parts_seq 2 (by omega) (w.heap.size + 1) s HS.out W0 (by omega) c1 f1) (fun _ => rfl)
    (pI w) (pX w)
    (OwnFrom.and (Own.from (fun s A B row hs hg hr => ⟨hs.1, cell_kept hs.2.1 hg hr, (frozen_kept hs.2.1 hg hr).trans hs.2.2⟩) _) (ownFrom_below (Nat.le_refl _) (by omega)))
    (fun c => OwnFrom.and (Own.from (fun s A B row hs hg hr => ⟨hs.1, hs.2.1, cell_kept hs.2.2 hg hr⟩) _) (ownFrom_below (Nat.le_refl _) (by omega)))
    (fun pre W v h => ⟨⟨h.1.1, (World.cell?_setCell_far _ _ _ _ (by simp)).trans h.1.2.1, (World.frozen?_setCell _ _ _ _).trans h.1.2.2⟩, h.2.setCell (p := ⟨w.heap.size + 1, 0, none⟩) (by simp) _⟩)
    (fun c pre W v h => ⟨⟨h.1.1, h.1.2.1, (World.cell?_setCell_far _ _ _ _ (by simp)).trans h.1.2.2⟩, h.2.setCell (p := ⟨w.heap.size + 1, 0, none⟩) (by simp) _⟩)
    ⟨⟨by simp, c0, f0⟩, hB0⟩ (frameP s w.heap.size) ?assign ?body ?done ?stop
  case assign =>
    intro l x W K hK
    unfold frameP at hK
    gi_wp2
    exact hK
  case body =>
    rintro l pre x W ⟨⟨hp, hcr, hfr⟩, hB⟩ hpre
    have hx48 : x.size ≤ 48 := by
      have h1 : x ∈ partsB (s.size + 1) s := hpre.subset (by simp)
      have h2 := partsB_size _ _ _ h1
      have := HS1.out
      omega
    have HP := Aside0.mk hp
    have HB := Aside0.mk hB
    clear hp hB hpre c0 f0 c1 f1 hB0
    unfold frameP
    have out : ∀ (a : Act), partI x = false → ownPostK (SameBox (w.heap.size + 1)) (pI w) (pX w) (pre ++ [x]) W .ret a (W.setCell ⟨w.heap.size, 0, none⟩ (.bool false)) := fun a hb =>
      ⟨KeepsOthers.setCell _ _ _, ⟨rfl, ⟨x, by simp, hb⟩, World.cell?_setCell_same' _ _ _ (by rw [hcr]; rfl)⟩, HB.out.setCell (p := ⟨w.heap.size, 0, none⟩) (Nat.le_refl _) _⟩
    have HO := Aside0.mk out
    clear out
    by_cases h0 : x.toList = []
    · have b0 : (x.toList == ([] : List UInt8)) = true := beq_iff_eq.mpr h0
      have b1 : x.toList.isEmpty = true := by rw [h0]; rfl
      have HBad := Aside0.mk (partI_bad x (.inl h0))
      gi_wp2
      exact HO.out _ HBad.out
    · have b0 : (x.toList == ([] : List UInt8)) = false := beq_eq_false_iff_ne.mpr h0
      have b1 : x.toList.isEmpty = false := by simpa using h0
      by_cases h1 : x.toList = [46]
      · have c0 : (x.toList == ([46] : List UInt8)) = true := beq_iff_eq.mpr h1
        have HBad := Aside0.mk (partI_bad x (.inr (.inl h1)))
        clear h1
        gi_wp2
        exact HO.out _ HBad.out
      · have c0 : (x.toList == ([46] : List UInt8)) = false := beq_eq_false_iff_ne.mpr h1
        by_cases h2 : x.toList = [46, 46]
        · have d0 : (x.toList == ([46, 46] : List UInt8)) = true := beq_iff_eq.mpr h2
          have HBad := Aside0.mk (partI_bad x (.inr (.inr h2)))
          clear h2
          gi_wp2
          exact HO.out _ HBad.out
        · have d0 : (x.toList == ([46, 46] : List UInt8)) = false := beq_eq_false_iff_ne.mpr h2
          have HGood := Aside0.mk (partI_ok x h0 h1 h2)
          clear h0 h1 h2
          gi_wp2
          gi_loopw [4, 23] (fun v4 v23 wr => ∃ k : Nat, v23 = .int .i64 (k : Int) ∧ k ≤ x.size ∧ wr = W ∧ Aside0 (∀ j, j < k → plainI (bt x (j : Int)) = true)) (fun v4 v23 wr => x.size - (intOf v23).toNat)
          case atStart => exact ⟨0, rfl, by omega, rfl, ⟨fun j hj => by omega⟩⟩
          case round =>
            obtain ⟨k, rfl, hk, rfl, HJ⟩ := hrel
            by_cases hlt : k < x.size
            · have hltz : (k : Int) < (x.size : Int) := by omega
              have hbt : ∀ h : k < x.size, ((x[k]'h).toNat : Int) = bt x (k : Int) := fun h => by simp [bt, h]
              have hr := bt_range x (k : Int)
              have hpl := plain_calls (bt x (k : Int)) hr.1 hr.2 wr
              have HBy := Aside0.mk (partI_byte x k hlt)
              cases hb : plainI (bt x (k : Int)) with
              | true =>
                rw [hb] at hpl
                have HB2 := Aside0.mk hb
                clear hb
                gi_wp2_with (refine ⟨trivial, ?_⟩; gi_at_call 53; refine (CallsIn.inRound l (callsIn_wide.2 hpl)).mono ?_; rintro e w' ⟨rfl, rfl⟩)
                go_roundw
                case rel =>
                  refine ⟨k + 1, by go_num, by omega, (by first | trivial | rfl), ⟨fun j hj => ?_⟩⟩
                  by_cases e : j = k
                  · subst e; exact HB2.out
                  · exact HJ.out j (by omega)
                case measure => simp [intOf]; omega
              | false =>
                rw [hb] at hpl
                have HB2 := Aside0.mk (HBy.out hb)
                clear hb
                gi_wp2_with (refine ⟨trivial, ?_⟩; gi_at_call 53; refine (CallsIn.inRound l (callsIn_wide.2 hpl)).mono ?_; rintro e w' ⟨rfl, rfl⟩)
                exact HO.out _ HB2.out
            · have hltz : ¬ (k : Int) < (x.size : Int) := by omega
              have HE := Aside0.mk (show k = x.size by omega)
              gi_wp2
              refine ⟨KeepsOthers.refl _, ⟨rfl, rfl⟩, ⟨fun y hy => ?_, hcr, hfr⟩, HB.out⟩
              rcases List.mem_append.mp hy with h | h
              · exact HP.out y h
              · obtain rfl : y = x := by simpa using h
                exact HGood.out (fun j hj => HJ.out j (by have := HE.out; omega))
  case done =>
    rintro D W hD ⟨⟨hp, hcr, hfr⟩, hB⟩ hK
    have hall : (partsB (s.size + 1) s).all partI = true := List.all_eq_true.mpr hp
    have HA := Aside0.mk hall
    clear hp hall
    gi_wp2
    have hK' := (KeepsOthers.setCell W ⟨w.heap.size, 0, none⟩ (.bool true)).same D _ hK rfl
    refine ⟨by simp, .inl ⟨_, _, rfl, run_takeDeferred hK', ?_⟩⟩
    have hc5 := cell_kept (World.cell?_setCell_same' W ⟨w.heap.size, 0, none⟩ (.bool true) (by rw [hcr]; rfl)) (grownBy_putObj' _ D (.deferred none)) (fun r e => by cases e; exact ⟨_, hK', rfl⟩)
    refine ⟨.bool true, ?_, by rw [HA.out], (hB.setCell (p := ⟨w.heap.size, 0, none⟩) (Nat.le_refl _) _).trans (belowK_b (w := w) (Nat.le_refl _) _ D _ _ (by omega) hK' rfl rfl)⟩
    simp [results, Try.f21, go_sem, hc5]
  case stop =>
    rintro D c pre W hD hpre ⟨⟨rfl, ⟨y, hy, hby⟩, hcr⟩, hB⟩ hK
    have hall : (partsB (s.size + 1) s).all partI = false := List.all_eq_false.mpr ⟨y, hpre.subset hy, by rw [hby]; simp⟩
    have HA := Aside0.mk hall
    clear hall hy hby hpre
    gi_wp2
    refine ⟨by simp, .inl ⟨_, _, rfl, run_takeDeferred hK, ?_⟩⟩
    have hc5 := cell_kept hcr (grownBy_putObj' _ D (.deferred none)) (fun r e => by cases e; exact ⟨_, hK, rfl⟩)
    refine ⟨.bool false, ?_, by rw [HA.out], hB.trans (belowK_b (w := w) (Nat.le_refl _) W D _ _ (by omega) hK rfl rfl)⟩
    simp [results, Try.f21, go_sem, hc5]

set_option maxRecDepth 100000 in
set_option maxHeartbeats 1000000 in
theorem path_calls (s : ByteArray) (w : World) :
    Calls Try.prog 21 #[.string s] w fun e W' => e = .returned (.bool (pathI s)) ∧ Below w.heap.size w W' := by
  unfold pathI
  by_cases hs : s.size ≤ 48
  · rw [decide_eq_true hs, Bool.true_and]
    exact (callsIn_wide (n := 3)).1 (path_in s hs w)
  · rw [decide_eq_false hs, Bool.false_and]
    have hd : decide ((48 : Int) < (s.size : Int)) = true := decide_eq_true (by omega)
    go_enter Try.func21, Try.ntmps21
    go_wp2
    refine bodyPost_ret (v := .bool false) ?_ rfl ⟨(by first | trivial | rfl), (((Below.refl _ _).alloc (Nat.le_refl _) _))⟩
    simp [results, Try.f21, go_sem]

theorem split47 : ∀ (l : List UInt8), (Lib.indexByte l 47 < 0 → splitS l = [l]) ∧ (0 ≤ Lib.indexByte l 47 → splitS l = l.take (Lib.indexByte l 47).toNat :: splitS (l.drop ((Lib.indexByte l 47).toNat + 1)))
  | [] => ⟨fun _ => rfl, fun h => by simp [Lib.indexByte] at h⟩
  | c :: l => by
    have ih := split47 l
    have hg := (indexByte_ge l 47).1
    by_cases hc : c = 47
    · subst hc
      have e : Lib.indexByte (47 :: l) 47 = 0 := by simp [Lib.indexByte]
      rw [e]
      refine ⟨fun h => by omega, fun _ => ?_⟩
      simp [splitS]
    · have hc' : (c == 47) = false := beq_eq_false_iff_ne.mpr hc
      by_cases hm : Lib.indexByte l 47 = -1
      · have e : Lib.indexByte (c :: l) 47 = -1 := by simp [Lib.indexByte, hc', hm]
        rw [e]
        refine ⟨fun _ => ?_, fun h => by omega⟩
        unfold splitS
        rw [if_neg hc, ih.1 (by omega)]
      · have e : Lib.indexByte (c :: l) 47 = Lib.indexByte l 47 + 1 := by
          have : (Lib.indexByte l 47 == -1) = false := beq_eq_false_iff_ne.mpr hm
          simp [Lib.indexByte, hc', this]
        rw [e]
        refine ⟨fun h => by omega, fun _ => ?_⟩
        have e2 : (Lib.indexByte l 47 + 1).toNat = (Lib.indexByte l 47).toNat + 1 := by omega
        rw [e2]
        conv => lhs; unfold splitS
        rw [if_neg hc, ih.2 (by omega)]
        simp

theorem partsB_split : ∀ (k : Nat) (s : ByteArray), s.size < k → (partsB k s).map (fun x => x.toList) = splitS s.toList
  | 0, s, h => by omega
  | k + 1, s, h => by
    have hg := at47_ge s
    have hs := split47 s.data.toList
    rw [Lib.toList_data]
    unfold partsB
    by_cases hm : at47 s < 0
    · rw [if_pos hm, hs.1 hm]
      simp [Lib.toList_data]
    · rw [if_neg hm, hs.2 (by unfold at47 at hm; omega), List.map_cons, partsB_split k _ (by rw [size_ext _ _ _ (Nat.le_refl _)]; omega), Lib.toList_data, Lib.toList_data, Lib.extract_data, Lib.extract_data]
      have e : s.size = s.data.toList.length := Lib.size_eq s
      show _ :: _ = List.take (at47 s).toNat _ :: splitS (List.drop ((at47 s).toNat + 1) _)
      rw [e]
      congr 1
      congr 1
      rw [List.take_of_length_le (by rw [List.length_drop]; omega)]

theorem pathI_eq (s : ByteArray) : pathI s = pathB s.toList := by
  unfold pathI pathB
  rw [← partsB_split (s.size + 1) s (by omega), List.all_map]
  have e : s.toList.length = s.size := by rw [Lib.toList_data, Lib.size_eq]
  rw [e]
  rfl

theorem files_Path.calls (a0 : ByteArray) (r : Bool) (w : World) (h : files_Path.f a0 = some r) :
    Calls Try.prog 21 #[.string a0] w fun e w' => e = .returned (.bool r) ∧ Below w.heap.size w w' := by
  obtain rfl : pathB a0.toList = r := by simpa [files_Path.f] using h
  rw [← pathI_eq]
  exact path_calls a0 w

#print axioms files_Path.calls
end Go.Proofs.Ytgbkoeinfhlpoaa.F
