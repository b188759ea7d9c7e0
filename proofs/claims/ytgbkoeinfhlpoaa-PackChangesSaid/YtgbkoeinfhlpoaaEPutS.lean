/- bastionref18.put: a path in its place, once. -/
import Derived.Test.YtgbkoeinfhlpoaaERuns
import Derived.Lib.SliceRun
import Derived.Laws.NewBlocks
import Derived.Shelf.RegionOpenPlain
import Derived.Shelf.Spec.SlicesInsert
import Derived.Test.YtgbkoeinfhlpoaaEChanged
import Derived.Test.YtgbkoeinfhlpoaaEQRef
namespace Go.Proofs.Ytgbkoeinfhlpoaa.F
open Go.RowKit Go.Shelf Go.Lib Go.Proofs Go.Proofs.YtgbkoeinfhlpoaaW.PrintWords Go.Proofs.YtgbkoeinfhlpoaaW.PrintLast Go.Proofs.YtgbkoeinfhlpoaaW.PrintMore
set_option linter.unusedVariables false
set_option linter.unusedSimpArgs false

def strsV (l : List ByteArray) : List Value := l.map Value.string
/-- Where a path belongs. -/
def putAt : List ByteArray → ByteArray → Nat
  | [], _ => 0
  | y :: t, q => if ltB y.toList q.toList = true then putAt t q + 1 else 0
def putS (l : List ByteArray) (q : ByteArray) : List ByteArray := if l[putAt l q]? = some q then l else l.take (putAt l q) ++ q :: l.drop (putAt l q)
theorem putAt_le : ∀ (l : List ByteArray) (q : ByteArray), putAt l q ≤ l.length
  | [], _ => Nat.le_refl _
  | y :: t, q => by
    have ih := putAt_le t q
    unfold putAt
    split
    · rw [List.length_cons]; omega
    · exact Nat.zero_le _
theorem putAt_lt : ∀ (l : List ByteArray) (q : ByteArray) (i : Nat), i < putAt l q → ∃ x, l[i]? = some x ∧ ltB x.toList q.toList = true
  | [], _, i, h => absurd h (Nat.not_lt_zero _)
  | y :: t, q, i, h => by
    unfold putAt at h
    by_cases hy : ltB y.toList q.toList = true
    · rw [if_pos hy] at h
      cases i with
      | zero => exact ⟨y, rfl, hy⟩
      | succ i =>
        obtain ⟨x, h1, h2⟩ := putAt_lt t q i (by omega)
        exact ⟨x, by simpa using h1, h2⟩
    · rw [if_neg hy] at h
      exact absurd h (Nat.not_lt_zero _)
theorem putAt_end : ∀ (l : List ByteArray) (q : ByteArray), putAt l q = l.length ∨ ∃ x, l[putAt l q]? = some x ∧ ltB x.toList q.toList = false
  | [], q => .inl rfl
  | y :: t, q => by
    unfold putAt
    by_cases hy : ltB y.toList q.toList = true
    · rw [if_pos hy]
      rcases putAt_end t q with h1 | ⟨x, h1, h2⟩
      · exact .inl (by rw [h1, List.length_cons])
      · exact .inr ⟨x, by simpa using h1, h2⟩
    · rw [if_neg hy]
      exact .inr ⟨y, rfl, by simpa using hy⟩

theorem size9i : (Try.prog.info? 9).map (·.size) = some 1 := by kernel_rfl
/-- copy between two rows of strings. -/
theorem copy35 (w : World) (ty : TypeId) (b o dLen dCap : Nat) (a : Addr) (sLen sCap : Nat) (cs : List Value) (hn : cs.length = Nat.min sLen dLen)
    (hsrc : ∀ j v, cs[j]? = some v → w.cell? (a.add j) = some v) (hc : ∀ j, j < cs.length → (w.cell? ⟨b, o + j, none⟩).isSome = true) (hf : ∀ j, j < cs.length → w.frozen? ⟨b, o + j, none⟩ = false) (h1 : ∀ v ∈ cs, v.oneCell' = true) :
    (Builtin.copy_ #[35, 35] ty #[.slice (some ⟨b, o, none⟩) dLen dCap, .slice (some a) sLen sCap]).run Try.prog w = .ok (goInt (Nat.min sLen dLen)) (w.setCells b o cs) := by
  have hl := run_loadCells_list (P := Try.prog) w a cs hsrc
  have hst := run_storeCells_cells (P := Try.prog) b o cs 0 w (by simpa using hc) (by simpa using hf) h1
  simp only [Nat.add_zero] at hst
  obtain ⟨i, hi, hs⟩ := Option.map_eq_some_iff.1 size9i
  rw [hn] at hl
  simp [Builtin.copy_, run_underlying Try.underlying35, Builtin.lenOf, Builtin.firstCells, Go.sizeOf, typeInfo, hi, hs, hl, hst]

/-- A row of the call's own, of texts. -/
structure OwnS (w : World) (base g cap : Nat) (cur : Array Value) (l : List ByteArray) : Prop where
  blk : w.heap[g]? = some (.cells cur 9 (0, 0))
  base : base ≤ g
  len : l.length ≤ cap
  max : cap ≤ maxLen
  size : cur.size = cap
  take : cur.toList.take l.length = strsV l
theorem OwnS.of {w : World} {base g cap : Nat} {l : List ByteArray} (h : Kd.R Kd.string 9 w base (fun _ => True) (.slice (some ⟨g, 0, none⟩) l.length cap) l) : ∃ cur, OwnS w base g cap cur l := by
  have ho := Kd.own_of_R h
  rcases ho.2 with ⟨h0, _⟩ | ⟨g', cap', cur, hv, hb, hg, h1, h2, h3, h4⟩
  · cases h0
  · cases hv
    exact ⟨cur, hg, hb, h1, h2, by rw [h3]; omega, by simpa [encs, strsV] using h4⟩
theorem OwnS.row {w : World} {base g cap : Nat} {cur : Array Value} {l : List ByteArray} (h : OwnS w base g cap cur l) : Kd.R Kd.string 9 w base (fun _ => True) (.slice (some ⟨g, 0, none⟩) l.length cap) l :=
  Kd.R_of_own (α := ByteArray) (enc := Value.string) (h1 := fun _ => rfl) (ok := fun _ => True) (xs := l)
    ⟨by simp [encs], .inr ⟨g, cap, cur, rfl, h.base, h.blk, h.len, h.max, by rw [h.size]; omega, by simpa [encs, strsV] using h.take⟩⟩ (fun _ _ => trivial)
theorem OwnS.cell {w : World} {base g cap : Nat} {cur : Array Value} {l : List ByteArray} (h : OwnS w base g cap cur l) (i : Nat) (x : ByteArray) (hx : l[i]? = some x) : w.cell? ⟨g, i, none⟩ = some (.string x) := by
  have hi : i < l.length := (List.getElem?_eq_some_iff.1 hx).1
  rw [blk_cell h.blk i, ← Array.getElem?_toList]
  have : (cur.toList.take l.length)[i]? = (strsV l)[i]? := by rw [h.take]
  rw [List.getElem?_take, if_pos hi] at this
  rw [this]
  simp [strsV, hx]
theorem strs_one (l : List ByteArray) : ∀ v ∈ strsV l, v.oneCell' = true := by
  intro v hv
  obtain ⟨x, _, rfl⟩ := List.mem_map.mp hv
  rfl
/-- What the copy and the store leave. -/
theorem OwnS.put {w : World} {base g cap : Nat} {cur : Array Value} {l : List ByteArray} {q : ByteArray} (h : OwnS w base g cap cur (l ++ [q])) (a : Nat) (ha : a ≤ l.length) :
    ∃ cur1, OwnS ((w.setCells g (a + 1) (strsV (l.drop a))).setCells g a [.string q]) base g cap cur1 (l.take a ++ q :: l.drop a) := by
  have hlen : (l ++ [q]).length = l.length + 1 := by simp
  have hc := h.len
  rw [hlen] at hc
  have hd : (strsV (l.drop a)).length = l.length - a := by simp [strsV]
  obtain ⟨c1, b1, s1, t1⟩ := setCells_row (strsV (l.drop a)) (a + 1) w cur h.blk (by rw [h.size, hd]; omega)
  obtain ⟨c2, b2, s2, t2⟩ := setCells_row [Value.string q] a _ c1 b1 (by rw [s1, h.size]; simp; omega)
  refine ⟨c2, b2, h.base, by simp; omega, h.max, by rw [s2, s1, h.size], ?_⟩
  have htk : cur.toList.take (a + 1) = strsV ((l ++ [q]).take (a + 1)) := by
    have := congrArg (List.take (a + 1)) h.take
    rw [List.take_take, Nat.min_eq_left (by rw [hlen]; omega)] at this
    rw [this]
    simp [strsV, List.map_take]
  have hta : c1.toList.take a = strsV (l.take a) := by
    rw [t1, htk]
    have h1 : (strsV ((l ++ [q]).take (a + 1))).length = a + 1 := by simp [strsV]; omega
    rw [List.append_assoc, List.take_append_of_le_length (by rw [h1]; omega)]
    simp only [strsV, List.map_take, List.map_append]
    rw [List.take_take, Nat.min_eq_left (by omega), List.take_append_of_le_length (by simpa using ha)]
  have hdr : c1.toList.drop (a + 1) = strsV (l.drop a) ++ cur.toList.drop (a + 1 + (l.length - a)) := by
    rw [t1, htk, hd, List.append_assoc, List.drop_left' (by simp [strsV]; omega)]
  rw [t2, hta, show a + [Value.string q].length = a + 1 from rfl, hdr]
  have hl2 : (l.take a ++ q :: l.drop a).length = (strsV (l.take a) ++ [Value.string q] ++ strsV (l.drop a)).length := by simp [strsV]
  rw [← List.append_assoc, hl2, List.take_left']
  · simp [strsV]
  · rfl

theorem putS_below {w : World} {base g : Nat} (hg : base ≤ g) (o : Nat) (vs : List Value) : Below base w (w.setCells g o vs) := by
  obtain ⟨s1, s2, s3, s4⟩ := setCells_same g vs o w
  exact ⟨s1, s2, s3, Nat.le_of_eq s4.symm, fun k hk => setCells_far vs o k (by omega)⟩
theorem OwnS.drew {w : World} {base g cap : Nat} {cur : Array Value} {l : List ByteArray} (h : OwnS w base g cap cur l) : OwnS w.drew base g cap cur l := ⟨h.blk, h.base, h.len, h.max, h.size, h.take⟩
theorem put_caps {n c a : Nat} (h : n + 1 ≤ c) (ha : a < n) : ¬ c = a + 1 ∧ ¬ c = a := by omega
theorem setCells_one (w : World) (g o : Nat) (v : Value) : w.setCells g o [v] = w.setCell ⟨g, o, none⟩ v := rfl
/-- The copy of nothing, at a row that is full. -/
theorem copy_none (w : World) (g a sLen sc : Nat) (ty : TypeId) (cur : Array Value) (hb : w.heap[g]? = some (.cells cur 9 (0, 0))) :
    (Builtin.copy_ #[35, 35] ty #[.slice (some ⟨g, 0, none⟩) 0 0, .slice (some ⟨g, a, none⟩) sLen sc]).run Try.prog w = .ok (goInt (Nat.min sLen 0)) w :=
  copy35 w ty g 0 0 0 ⟨g, a, none⟩ sLen sc [] (by show 0 = min sLen 0; omega) (fun j v hj => by simp at hj) (fun j hj => by simp at hj) (fun j hj => by simp at hj) (fun v hv => by simp at hv)
/-- The copy's run, and what stands behind the store. -/
theorem put_facts {w : World} {base g cap : Nat} {cur : Array Value} {l : List ByteArray} {q : ByteArray} (h : OwnS w base g cap cur (l ++ [q])) (a : Nat) (ha : a ≤ l.length) :
    ∃ (W : World) (y : Value), (a = l.length → ∀ ty sLen sc, (Builtin.copy_ #[35, 35] ty #[.slice (some ⟨g, 0, none⟩) 0 0, .slice (some ⟨g, a, none⟩) sLen sc]).run Try.prog w.drew = .ok (goInt (Nat.min sLen 0)) W) ∧ (∀ ty dc sc, (Builtin.copy_ #[35, 35] ty #[.slice (some ⟨g, a + 1, none⟩) (l.length + 1 - (a + 1)) dc, .slice (some ⟨g, a, none⟩) (l.length + 1 - a) sc]).run Try.prog w.drew = .ok (goInt (Nat.min (l.length + 1 - a) (l.length + 1 - (a + 1)))) W) ∧
      W.cell? ⟨g, a, none⟩ = some y ∧ W.frozen? ⟨g, a, none⟩ = false ∧
      Kd.R Kd.string 9 (W.setCell ⟨g, a, none⟩ (.string q)) base (fun _ => True) (.slice (some ⟨g, 0, none⟩) (l.length + 1) cap) (l.take a ++ q :: l.drop a) ∧ Below base w (W.setCell ⟨g, a, none⟩ (.string q)) := by
  have hlen : (l ++ [q]).length = l.length + 1 := by simp
  have hc := h.len
  rw [hlen] at hc
  have hd : (strsV (l.drop a)).length = l.length - a := by simp [strsV]
  obtain ⟨c1, b1, s1, t1⟩ := setCells_row (strsV (l.drop a)) (a + 1) w.drew cur h.blk (by rw [h.size, hd]; omega)
  obtain ⟨c2, H2⟩ := h.drew.put a ha
  have hsz := h.size
  refine ⟨w.drew.setCells g (a + 1) (strsV (l.drop a)), c1[a]'(by omega), fun hae ty sLen sc => ?_, fun ty dc sc => ?_, ?_, blk_frozen b1 _, ?_, ?_⟩
  · rw [hae, List.drop_length]
    exact copy_none w.drew g l.length sLen sc ty cur h.blk
  · refine copy35 w.drew ty g (a + 1) _ dc ⟨g, a, none⟩ _ sc (strsV (l.drop a)) (by rw [hd]; show _ = min _ _; omega) (fun j v hj => ?_) (fun j hj => ?_) (fun j hj => blk_frozen (w := w.drew) h.blk _) (strs_one _)
    · rw [show (⟨g, a, none⟩ : Addr).add j = ⟨g, a + j, none⟩ from Go.WideShapes.add_plain g a j]
      have hj2 : j < l.length - a := by have := (List.getElem?_eq_some_iff.1 hj).1; rwa [hd] at this
      have hx : (l ++ [q])[a + j]? = some l[a + j] := by rw [List.getElem?_append_left (by omega), List.getElem?_eq_getElem (by omega)]
      rw [h.drew.cell (a + j) _ hx]
      unfold strsV at hj
      rw [List.getElem?_map, List.getElem?_drop, List.getElem?_eq_getElem (by omega)] at hj
      exact hj
    · rw [hd] at hj
      show (w.cell? _).isSome = true
      rw [blk_cell h.blk, Array.getElem?_eq_getElem (by omega)]
      rfl
  · rw [blk_cell b1, Array.getElem?_eq_getElem (by omega)]
  · have := H2.row
    rw [setCells_one, show (l.take a ++ q :: l.drop a).length = l.length + 1 by simp; omega] at this
    exact this
  · rw [← setCells_one]
    exact ((pw_below_drewN (Below.refl base w) 1).trans (putS_below h.base _ _)).trans (putS_below h.base _ _)

set_option maxHeartbeats 4000000 in
set_option maxRecDepth 100000 in
theorem put_calls (base : Nat) (v : Value) (l : List ByteArray) (q : ByteArray) (w : World) (hr : Kd.R Kd.string 9 w base (fun _ => True) v l) (hbase : base ≤ w.heap.size) (hl : l.length ≤ 10000000) :
    Calls Try.prog 81 #[v, .string q] w fun e w' => ∃ v', e = .returned v' ∧ Kd.R Kd.string 9 w' base (fun _ => True) v' (putS l q) ∧ Below base w w' := by
  have mixed : Try.prog.follows Departure.mixedOrders = true := by kernel_rfl
  obtain ⟨A, c, rfl, hlc, hC⟩ := Kd.R_reads hr
  have hat := putAt_le l q
  have hlt := putAt_lt l q
  have hen := putAt_end l q
  have hps : putS l q = if l[putAt l q]? = some q then l else l.take (putAt l q) ++ q :: l.drop (putAt l q) := rfl
  generalize putAt l q = a at hat hlt hen hps
  have HR := Aside0.mk hr
  have HC := Aside0.mk hC
  have HLT := Aside0.mk hlt
  have HEN := Aside0.mk hen
  have HPS := Aside0.mk hps
  have HB := Aside0.mk hbase
  have HLC := Aside0.mk hlc
  have hcell : Aside0 (∀ i, i < l.length → ∃ ad, A = some ad ∧ w.cell? (ad.add i) = some (.string (l.getD i ByteArray.empty))) := ⟨fun i hi => by
    obtain ⟨ad, e, h⟩ := Kd.at_string hC (i : Int) (by omega) (by omega)
    refine ⟨ad, e, ?_⟩
    rw [Int.toNat_natCast] at h
    simpa [rdOf] using h⟩
  clear hr hC hlt hen hps hbase hlc
  go_enter Try.func81, Try.ntmps81
  go_upto_block 0 with (fail)
  go_cut [5] (fun s5 wc => s5 = .int .i64 (a : Int) ∧ w = wc)
  case first =>
    go_wp2_with fail
    go_loopg [5] (a + 1) (fun gg s5 wr => ∃ i : Nat, i ≤ a ∧ a + 1 - i ≤ gg ∧ s5 = .int .i64 i ∧ w = wr)
    case atStart => exact ⟨0, by omega, by omega, rfl, rfl⟩
    case round =>
      obtain ⟨i, hi, hgi, rfl, rfl⟩ := hrel
      by_cases hia : i < a
      · obtain ⟨x, hx, hxl⟩ := HLT.out i hia
        have hil : (i : Int) < (l.length : Int) := by omega
        obtain ⟨ad, hA, hcx⟩ := hcell.out i (by omega)
        rw [List.getD_eq_getElem?_getD, hx] at hcx
        simp only [Option.getD_some] at hcx
        subst hA
        have hxl2 : Op.bytesLess x.toList q.toList = true := hxl
        clear hxl hx
        go_wp2_with fail
        go_roundg (a + 1 - (i + 1))
        case measure => omega
        case rel => exact ⟨i + 1, by omega, by omega, by go_num, rfl⟩
      · have hie : i = a := by omega
        subst hie
        by_cases hal : i < l.length
        · rcases HEN.out with h | ⟨x, hx, hxl⟩
          · exact absurd h (by omega)
          · have hil : (i : Int) < (l.length : Int) := by omega
            obtain ⟨ad, hA, hcx⟩ := hcell.out i (by omega)
            rw [List.getD_eq_getElem?_getD, hx] at hcx
            simp only [Option.getD_some] at hcx
            subst hA
            have hxl2 : Op.bytesLess x.toList q.toList = false := hxl
            clear hxl hx
            go_wp2_with fail
            go_meet
            case rel => exact ⟨rfl, rfl⟩
        · have hil : ¬ (i : Int) < (l.length : Int) := by omega
          go_wp2_with fail
          go_meet
          case rel => exact ⟨rfl, rfl⟩
  case rest =>
    obtain ⟨rfl, rfl⟩ := hcut
    by_cases hq : l[a]? = some q
    · have hal : a < l.length := (List.getElem?_eq_some_iff.1 hq).1
      have hil : (a : Int) < (l.length : Int) := by omega
      obtain ⟨ad, hA, hcx⟩ := hcell.out a hal
      rw [List.getD_eq_getElem?_getD, hq] at hcx
      simp only [Option.getD_some] at hcx
      subst hA
      have HQ := Aside0.mk (show putS l q = l by rw [HPS.out, if_pos hq])
      clear hq
      go_wp2_with fail
      go_ret
      exact ⟨_, rfl, by rw [HQ.out]; exact HR.out, Below.refl _ _⟩
    · have HQ := Aside0.mk (show putS l q = l.take a ++ q :: l.drop a by rw [HPS.out, if_neg hq])
      have HLn := Aside0.mk (show (l.length + 1) * 16 ≤ 140737488355328 by omega)
      have hnq : a < l.length → ∃ x : ByteArray, l[a]? = some x ∧ (x.toList == q.toList) = false := fun h => by
        refine ⟨l[a], List.getElem?_eq_getElem h, beq_eq_false_iff_ne.mpr fun e => hq ?_⟩
        rw [List.getElem?_eq_getElem h, bytes_ext e]
      have HNQ := Aside0.mk hnq
      clear hq hnq
      by_cases hal : a < l.length
      · have hil : (a : Int) < (l.length : Int) := by omega
        obtain ⟨x, hx, hxq⟩ := HNQ.out hal
        obtain ⟨ad, hA, hcx⟩ := hcell.out a hal
        rw [List.getD_eq_getElem?_getD, hx] at hcx
        simp only [Option.getD_some] at hcx
        subst hA
        clear hx
        have hz6 : (0 : Int) ≤ (a : Int) + 1 := by omega
        have hz7 : (a : Int) + 1 ≤ (l.length : Int) + 1 := by omega
        have hz8 : (a : Int) ≤ (l.length : Int) + 1 := by omega
        have hz10 : ((a : Int) + 1).toNat = a + 1 := by omega
        have hw1 : IntKind.i64.wrap ((a : Int) + 1) = (a : Int) + 1 := by rw [IntKind.wrap_i64]; omega
        go_wp2_with (at_builtin; refine Kd.R_append Kd.string (w0 := w) base rfl (.tmp 33) (.tmp 35) 35 9 (.string ⟨#[]⟩) 16 rfl Try.underlying35 info9 rfl (by decide) (by omega) (.slice (some ad) l.length c) l q [.string q] (fun _ => True) (fun _ => False) rfl rfl rfl (fun _ h => h.elim) (fun _ _ => trivial) HR.out (Below.refl _ _) HB.out HLn.out ?_; intro v9 w9 hR9 hb9 hg9 _; obtain ⟨g9, cap9, hv9, _, _, _⟩ := Kd.R_form hR9 (by simp); rw [hv9] at hR9; obtain ⟨cur9, hown⟩ := OwnS.of hR9; have hcl := hown.len; rw [show (l ++ [q]).length = l.length + 1 by simp] at hv9 hcl; subst hv9; obtain ⟨W10, y10, hc0p, hcp, hc10, hf10, hR10, hB10⟩ := put_facts hown a hat; have HC0P := Aside0.mk hc0p; have HCP := Aside0.mk hcp; have HC10 := Aside0.mk hc10; have HF10 := Aside0.mk hf10; have HR10 := Aside0.mk hR10; have HB10 := Aside0.mk (hb9.trans hB10); clear hc0p hcp hc10 hf10 hR10 hB10 hR9 hb9 hg9 hown; obtain ⟨hz12, hz13⟩ := put_caps hcl hal; clear hcl)
        go_region_law_o (refine step_copy_runI rfl _ _ 35 35 rfl (.slice (some ⟨g9, a + 1, none⟩) (l.length + 1 - (a + 1)) (cap9 - (a + 1))) (.slice (some ⟨g9, a, none⟩) (l.length + 1 - a) (cap9 - a)) (by simp [Act.eval, Act.put]) (by simp [Act.eval, Act.put]) (HCP.out _ _ _) ?_)
        have hc10 := HC10.out
        have hf10 := HF10.out
        have hz20 : (a : Int) < (l.length : Int) + 1 := by omega
        go_wp2
        go_ret
        exact ⟨_, rfl, by rw [HQ.out]; exact HR10.out, HB10.out⟩
      · have hil : ¬ (a : Int) < (l.length : Int) := by omega
        have hae : a = l.length := by omega
        have hz6 : (0 : Int) ≤ (a : Int) + 1 := by omega
        have hz7 : (a : Int) + 1 ≤ (l.length : Int) + 1 := by omega
        have hz8 : (a : Int) ≤ (l.length : Int) + 1 := by omega
        have hz10 : ((a : Int) + 1).toNat = a + 1 := by omega
        have hw1 : IntKind.i64.wrap ((a : Int) + 1) = (a : Int) + 1 := by rw [IntKind.wrap_i64]; omega
        have HAE := Aside0.mk hae
        clear hae
        go_wp2_with (at_builtin; refine Kd.R_append Kd.string (w0 := w) base rfl (.tmp 33) (.tmp 35) 35 9 (.string ⟨#[]⟩) 16 rfl Try.underlying35 info9 rfl (by decide) (by omega) (.slice A l.length c) l q [.string q] (fun _ => True) (fun _ => False) rfl rfl rfl (fun _ h => h.elim) (fun _ _ => trivial) HR.out (Below.refl _ _) HB.out HLn.out ?_; intro v9 w9 hR9 hb9 hg9 _; obtain ⟨g9, cap9, hv9, _, _, _⟩ := Kd.R_form hR9 (by simp); rw [hv9] at hR9; obtain ⟨cur9, hown⟩ := OwnS.of hR9; have hcl := hown.len; rw [show (l ++ [q]).length = l.length + 1 by simp] at hv9 hcl; subst hv9; obtain ⟨W10, y10, hc0p, hcp, hc10, hf10, hR10, hB10⟩ := put_facts hown a hat; have HC0P := Aside0.mk hc0p; have HCP := Aside0.mk hcp; have HC10 := Aside0.mk hc10; have HF10 := Aside0.mk hf10; have HR10 := Aside0.mk hR10; have HB10 := Aside0.mk (hb9.trans hB10); clear hc0p hcp hc10 hf10 hR10 hB10 hR9 hb9 hg9 hown)
        have hz13 : ¬ cap9 = a := by have := HAE.out; omega
        by_cases hc9 : cap9 = a + 1
        · subst hc9
          clear hcl
          have hcp0 := HC0P.out HAE.out
          have HC0Q := Aside0.mk hcp0
          clear hcp0
          have hz30 : ¬ (a + 1 = a) := by omega
          have hz31 : l.length + 1 - (a + 1) = 0 := by have := HAE.out; omega
          go_region_law_o (refine step_copy_runI rfl _ _ 35 35 rfl (.slice (some ⟨g9, 0, none⟩) 0 0) (.slice (some ⟨g9, a, none⟩) (l.length + 1 - a) (a + 1 - a)) (by simp [Act.eval, Act.put]; try omega) (by simp [Act.eval, Act.put]; try omega) (HC0Q.out _ _ _) ?_)
          have hc10 := HC10.out
          have hf10 := HF10.out
          have hz20 : (a : Int) < (l.length : Int) + 1 := by omega
          go_wp2
          go_ret
          exact ⟨_, rfl, by rw [HQ.out]; exact HR10.out, HB10.out⟩
        · have hcc := hcl
          clear hcl
          go_region_law_o (refine step_copy_runI rfl _ _ 35 35 rfl (.slice (some ⟨g9, a + 1, none⟩) (l.length + 1 - (a + 1)) (cap9 - (a + 1))) (.slice (some ⟨g9, a, none⟩) (l.length + 1 - a) (cap9 - a)) (by simp [Act.eval, Act.put]) (by simp [Act.eval, Act.put]) (HCP.out _ _ _) ?_)
          have hc10 := HC10.out
          have hf10 := HF10.out
          have hz20 : (a : Int) < (l.length : Int) + 1 := by omega
          go_wp2
          go_ret
          exact ⟨_, rfl, by rw [HQ.out]; exact HR10.out, HB10.out⟩
#print axioms put_calls
end Go.Proofs.Ytgbkoeinfhlpoaa.F
