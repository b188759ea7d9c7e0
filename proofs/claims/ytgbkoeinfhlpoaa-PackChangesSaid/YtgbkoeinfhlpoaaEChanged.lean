/- slices.Clone at files: a row of its own with the same files. -/
/- slices.Concat at two rows of files (pack.Changed), with slices.Grow at nil. -/
/- slices.Sort and slices.Compact at []string: the shelf's laws at this program's own numbers. -/
/- slices.Sort and slices.Compact of strings, at a row of the call's own. -/
/- What sorted and compacted texts are: strictly rising, and the same texts. -/
/- files.Get: what the first file at a path has, and true; else nothing and false. -/
/- pack.Changed. -/
import Derived.Test.YtgbkoeinfhlpoaaEDef
import Derived.Shelf.Abstract
import Derived.WalkLawsBesides
import Derived.WalkSpells
import Derived.Lib.AppendZerosOnto
import Derived.Shelf.Sort.Plain
import Derived.Shelf.Slices.CompactS
import Derived.Shelf.Slices.In.SortNone
import Derived.Test.YtgbkoeinfhlpoaaFx0
import Derived.Test.YtgbkoeinfhlpoaaECheck
namespace Go.Proofs.Ytgbkoeinfhlpoaa.F
open Go.RowKit Go.Shelf Go.Proofs.YtgbkoeinfhlpoaaW.PrintWords Go.Proofs.YtgbkoeinfhlpoaaW.PrintLast Go.Proofs.YtgbkoeinfhlpoaaW.PrintMore
set_option linter.unusedVariables false
set_option linter.unusedSimpArgs false

theorem K_M {w w' : World} {base : Nat} {ok : Nat → Prop} {x : S33} {cs : List Value} (h : k33.K w x cs) : k33.M w' base ok x cs := by
  obtain rfl := k33_open h
  exact k33_mkM _ _ _ _

theorem own_empty (w : World) : k33.R 33 (w.alloc (.cells #[] 33)) w.heap.size (fun _ => True) (.slice (some ⟨w.heap.size, 0, none⟩) 0 0) [] :=
  ⟨fun _ _ => trivial, [], by
    have h2 := World.ownsRow_lit (base := w.heap.size) (e := 33) (size := k33.sz) w (([] : List Value).toArray) 0 (Nat.le_refl _) (by simp [maxLen]) (by simp)
    simpa using h2, Reps.none _ _⟩

set_option maxHeartbeats 2000000 in
set_option maxRecDepth 100000 in
theorem Clone_some (ad : Addr) (c : Nat) (l : List S33) (w : World) (hr : Kd.C k33 w (some ad) l.length l) (hl : l.length ≤ 1000000) :
    Calls Try.prog 42 #[.slice (some ad) l.length c] w fun e w' => ∃ v : Value, e = .returned v ∧ Kd.R k33 33 w' w.heap.size (fun _ => True) v l ∧ Below w.heap.size w w' := by
  have hu33 := Try.underlying33
  have hB0 : Below w.heap.size w (w.alloc (.cells #[] 33)) := (Below.refl _ w).alloc (Nat.le_refl _) _
  have HR := Aside0.mk (Kd.C_below hr hB0)
  have HO := Aside0.mk (own_empty w)
  have HB := Aside0.mk hB0
  have q22 : ∀ (w : World) (a : Option Addr) (n c n' c' : Nat), (binOp .eql 22 (.slice a n c) (.slice none n' c')).run Try.prog w = .ok (.bool a.isNone) w := fun w a n c n' c' => Lib.run_eql_slice_nil w _ _ a n c n' c' Try.underlying22
  clear hr hB0
  go_enter Try.func42, Try.ntmps42
  go_wp2_with (at_builtin; refine Kd.R_append_rows k33 (w0 := w) w.heap.size rfl (.tmp 5) (.tmp 6) 22 33 (.agg #[.string ⟨#[]⟩, .string ⟨#[]⟩]) 32 rfl Try.underlying22 info33 rfl (by decide) (by omega) _ ([] : List S33) l (some ad) l.length c (fun _ => True) (fun _ => False) rfl rfl HO.out HR.out (fun _ _ h => K_M h) (fun _ h => h.elim) (fun _ _ => trivial) HB.out (by simp) (by simp; omega) ?_; intro v1 w1 hR1 hB1 _ _)
  go_ret
  exact ⟨_, rfl, by simpa using hR1, hB1⟩

set_option maxHeartbeats 2000000 in
set_option maxRecDepth 100000 in
theorem Clone_calls (A : Option Addr) (c : Nat) (l : List S33) (w : World) (hr : Kd.C k33 w A l.length l) (hl : l.length ≤ 1000000) :
    Calls Try.prog 42 #[.slice A l.length c] w fun e w' => ∃ v : Value, e = .returned v ∧ Kd.R k33 33 w' w.heap.size (fun _ => True) v l ∧ Below w.heap.size w w' := by
  cases A with
  | some ad => exact Clone_some ad c l w hr hl
  | none =>
    have h0 : l.length = 0 := by
      rcases Nat.eq_zero_or_pos l.length with h | h
      · exact h
      · obtain ⟨ad, e, _⟩ := hr.2.2 h
        cases e
    obtain rfl : l = [] := List.eq_nil_of_length_eq_zero h0
    have q22 : ∀ (w : World) (a : Option Addr) (n c n' c' : Nat), (binOp .eql 22 (.slice a n c) (.slice none n' c')).run Try.prog w = .ok (.bool a.isNone) w := fun w a n c n' c' => Lib.run_eql_slice_nil w _ _ a n c n' c' Try.underlying22
    clear hr h0 hl
    go_enter Try.func42, Try.ntmps42
    go_wp2
    go_ret
    exact ⟨_, rfl, Kd.R_nil _ _ _ _ _, Below.refl _ _⟩

#print axioms Clone_calls
end Go.Proofs.Ytgbkoeinfhlpoaa.F

namespace Go.Proofs.Ytgbkoeinfhlpoaa.F
open Go.RowKit Go.Shelf Go.Proofs.YtgbkoeinfhlpoaaW.PrintWords Go.Proofs.YtgbkoeinfhlpoaaW.PrintLast Go.Proofs.YtgbkoeinfhlpoaaW.PrintMore
set_option linter.unusedVariables false
set_option linter.unusedSimpArgs false

theorem zeros_size (k : Nat) : (Builtin.zeroCells (Value.agg #[.string ⟨#[]⟩, .string ⟨#[]⟩]).cells k).size = k * 2 := by
  simp [Builtin.zeroCells, Value.cells]

/-- A new row of zeros, of which nothing is used. -/
theorem own_zeros (w : World) (n G : Nat) (hn : n ≤ G) (hG : G ≤ maxLen) : k33.R 33 (w.drew.alloc (.cells (#[] ++ Builtin.zeroCells (Value.agg #[.string ⟨#[]⟩, .string ⟨#[]⟩]).cells n ++ Builtin.zeroCells (Value.agg #[.string ⟨#[]⟩, .string ⟨#[]⟩]).cells (G - n)) 33)) w.heap.size (fun _ => True) (.slice (some ⟨w.heap.size, 0, none⟩) 0 G) [] := by
  have hsz : (#[] ++ Builtin.zeroCells (Value.agg #[.string ⟨#[]⟩, .string ⟨#[]⟩]).cells n ++ Builtin.zeroCells (Value.agg #[.string ⟨#[]⟩, .string ⟨#[]⟩]).cells (G - n)).size = G * 2 := by
    rw [Array.size_append, Array.size_append, zeros_size, zeros_size]
    simp
    omega
  generalize (#[] ++ Builtin.zeroCells (Value.agg #[.string ⟨#[]⟩, .string ⟨#[]⟩]).cells n ++ Builtin.zeroCells (Value.agg #[.string ⟨#[]⟩, .string ⟨#[]⟩]).cells (G - n)) = cells at hsz ⊢
  refine ⟨fun _ _ => trivial, [], ⟨rfl, .inr ⟨w.heap.size, G, cells, rfl, Nat.le_refl _, ?_, Nat.zero_le _, hG, hsz, by simp⟩⟩, Reps.none _ _⟩
  show (w.heap.push _)[w.heap.size]? = _
  rw [Array.getElem?_push_size]

set_option maxHeartbeats 2000000 in
set_option maxRecDepth 100000 in
theorem Grow_nil (n : Nat) (hn : n ≤ 2000000) (w : World) :
    Calls Try.prog 104 #[.slice none 0 0, .int .i64 n] w fun e w' => ∃ v : Value, e = .returned v ∧ Kd.R k33 33 w' w.heap.size (fun _ => True) v [] ∧ Below w.heap.size w w' := by
  have hu33 := Try.underlying33
  rcases Nat.eq_zero_or_pos n with rfl | hpos
  · go_enter Try.func104, Try.ntmps104
    go_wp2
    go_ret
    exact ⟨_, rfl, Kd.R_nil _ _ _ _ _, Below.refl _ _⟩
  · obtain ⟨i0, hi0, hz0, hzs, hzb⟩ := info_parts info33
    have hG1 : n ≤ grownCap w (0 + n) 0 33 := by have := grownCap_ge w (0 + n) 0 33; omega
    have hG2 : grownCap w (0 + n) 0 33 ≤ maxLen := grownCap_le_maxLen w (0 + n) 0 33 (by unfold maxLen; omega)
    have hrz : ∀ ty, (Builtin.append_ #[22, 3] ty #[.slice none 0 0, .int .i64 (n : Int)]).run Try.prog w = .ok (.slice (some ⟨w.heap.size, 0, none⟩) n (grownCap w (0 + n) 0 33)) (w.drew.alloc (.cells (#[] ++ Builtin.zeroCells (Value.agg #[.string ⟨#[]⟩, .string ⟨#[]⟩]).cells n ++ Builtin.zeroCells (Value.agg #[.string ⟨#[]⟩, .string ⟨#[]⟩]).cells (grownCap w (0 + n) 0 33 - n)) 33)) := fun ty => by
      have h := Lib.run_append_grow_zeros w 22 3 ty 33 i0 _ .i64 .i64 Try.underlying22 Try.underlying3 hi0 hz0 none 0 0 [] (run_firstCells_none _ _ _ _ _) n hpos (by rw [hzs]; decide) (by omega) (by omega) (by rw [hzb]; omega) (by rw [hzb]; exact growslice_fits (by omega) (by omega))
      rw [Nat.zero_add] at h ⊢
      exact h
    have HO := Aside0.mk (own_zeros w n _ hG1 hG2)
    have hb : Below w.heap.size w (w.drew.alloc (.cells (#[] ++ Builtin.zeroCells (Value.agg #[.string ⟨#[]⟩, .string ⟨#[]⟩]).cells n ++ Builtin.zeroCells (Value.agg #[.string ⟨#[]⟩, .string ⟨#[]⟩]).cells (grownCap w (0 + n) 0 33 - n)) 33)) := (pw_below_drewN (Below.refl _ _) 1).alloc (Nat.le_refl _) _
    have HB := Aside0.mk hb
    clear hb
    generalize hW : (w.drew.alloc (.cells (#[] ++ Builtin.zeroCells (Value.agg #[.string ⟨#[]⟩, .string ⟨#[]⟩]).cells n ++ Builtin.zeroCells (Value.agg #[.string ⟨#[]⟩, .string ⟨#[]⟩]).cells (grownCap w (0 + n) 0 33 - n)) 33)) = W at hrz HO HB
    clear hW
    generalize grownCap w (0 + n) 0 33 = G at hrz HO hG1 hG2
    have hz1 : decide ((n : Int) < 0) = false := decide_eq_false (by omega)
    have hz2 : decide ((n : Int) > 0) = true := decide_eq_true (by omega)
    have hz3 : (0 : Int) < (n : Int) := by omega
    have hz4 : (0 : Int) ≤ (G : Int) := by omega
    have hz5 : ¬ ((n : Int) < 0) := by omega
    have hw : IntKind.i64.wrap (n : Int) = n := by rw [IntKind.wrap_i64]; omega
    clear hG1 hG2
    go_enter Try.func104, Try.ntmps104
    go_wp2_with (at_builtin; refine Lib.wpList_append_run _ rfl _ _ _ _ rfl _ _ rfl rfl _ _ (hrz _) ?_)
    go_ret
    exact ⟨_, rfl, HO.out, HB.out⟩

set_option maxHeartbeats 4000000 in
set_option maxRecDepth 100000 in
theorem Concat_calls (g : Nat) (A0 : Option Addr) (c0 : Nat) (l0 : List S33) (A1 : Option Addr) (c1 : Nat) (l1 : List S33) (w : World) (h0 : w.cell? ⟨g, 0, none⟩ = some (.slice A0 l0.length c0)) (h1 : w.cell? ⟨g, 1, none⟩ = some (.slice A1 l1.length c1))
    (hr0 : Kd.C k33 w A0 l0.length l0) (hr1 : Kd.C k33 w A1 l1.length l1) (b0 : l0.length ≤ 1000000) (b1 : l1.length ≤ 1000000) :
    Calls Try.prog 77 #[.slice (some ⟨g, 0, none⟩) 2 2] w fun e w' => ∃ v : Value, e = .returned v ∧ Kd.R k33 33 w' w.heap.size (fun _ => True) v (l0 ++ l1) ∧ Below w.heap.size w w' := by
  have hu33 := Try.underlying33
  have hg : g < w.heap.size := World.block_lt_of_cell? w _ h0
  have HR0 := Aside0.mk hr0
  have HR1 := Aside0.mk hr1
  have H0 := Aside0.mk h0
  have H1 := Aside0.mk h1
  have HG := Aside0.mk hg
  clear hr0 hr1 hg
  have hz1 : ¬ ((l0.length : Int) < 0) := by omega
  have hz2 : ¬ ((l0.length : Int) + (l1.length : Int) < 0) := by omega
  have hw1 : IntKind.i64.wrap ((l0.length : Int) + (l1.length : Int)) = (l0.length : Int) + (l1.length : Int) := by rw [IntKind.wrap_i64]; omega
  have hw0 : IntKind.i64.wrap (l0.length : Int) = (l0.length : Int) := by rw [IntKind.wrap_i64]; omega
  have hw3 : IntKind.i64.wrap (0 + (l0.length : Int)) = (l0.length : Int) := by rw [IntKind.wrap_i64]; omega
  have hcast : (l0.length : Int) + (l1.length : Int) = ((l0.length + l1.length : Nat) : Int) := by omega
  have HCast := Aside0.mk hcast
  clear hcast
  have HL := Aside0.mk (show l0.length ≤ 1000000 ∧ l1.length ≤ 1000000 from ⟨b0, b1⟩)
  clear b0 b1
  go_enter Try.func77, Try.ntmps77
  go_upto_block 0 with (fail)
  go_cut [3] (fun s3 wc => s3 = .int .i64 ((l0.length : Int) + (l1.length : Int)) ∧ w = wc)
  case first =>
    go_wp2_with fail
    go_loopg [3, 11] 3 (fun gg s3 s11 wr => wr = w ∧ ((s11 = .int .i64 0 ∧ s3 = .int .i64 0 ∧ 3 ≤ gg) ∨ (s11 = .int .i64 1 ∧ s3 = .int .i64 (l0.length : Int) ∧ 2 ≤ gg) ∨ (s11 = .int .i64 2 ∧ s3 = .int .i64 ((l0.length : Int) + (l1.length : Int)) ∧ 1 ≤ gg)))
    case atStart => exact ⟨rfl, .inl ⟨rfl, rfl, Nat.le_refl _⟩⟩
    case round =>
      obtain ⟨rfl, ⟨rfl, rfl, hgg⟩ | ⟨rfl, rfl, hgg⟩ | ⟨rfl, rfl, hgg⟩⟩ := hrel
      · go_wp2_with fail
        go_roundg 2
        case measure => omega
        case rel => exact ⟨rfl, .inr (.inl ⟨rfl, by simp, Nat.le_refl _⟩)⟩
      · go_wp2_with fail
        go_roundg 1
        case measure => omega
        case rel => exact ⟨rfl, .inr (.inr ⟨rfl, by simp, Nat.le_refl _⟩)⟩
      · go_wp2_with fail
        go_meet
        case rel => exact ⟨rfl, rfl⟩
  case rest =>
    obtain ⟨rfl, rfl⟩ := hcut
    have hgr := Grow_nil (l0.length + l1.length) (by have := HL.out; omega) w
    rw [← HCast.out] at hgr
    go_wp2_with fail
    refine hgr.mono ?_
    rintro e w1 ⟨v0, rfl, hR, hb⟩
    have HR := Aside0.mk hR
    have HB := Aside0.mk hb
    clear hR hb hgr hw0 hw1 hw3 hz1 hz2 h0 h1
    go_wp2_with fail
    go_loopg [6, 27] 3 (fun gg s6 s27 wr => Aside0 (Below w.heap.size w wr) ∧ ((s27 = .int .i64 0 ∧ Aside0 (Kd.R k33 33 wr w.heap.size (fun _ => True) s6 []) ∧ 3 ≤ gg) ∨ (s27 = .int .i64 1 ∧ Aside0 (Kd.R k33 33 wr w.heap.size (fun _ => True) s6 l0) ∧ 2 ≤ gg) ∨ (s27 = .int .i64 2 ∧ Aside0 (Kd.R k33 33 wr w.heap.size (fun _ => True) s6 (l0 ++ l1)) ∧ 1 ≤ gg)))
    case atStart => exact ⟨HB, .inl ⟨rfl, HR, Nat.le_refl _⟩⟩
    case round =>
      obtain ⟨HB, ⟨rfl, HR, hgg⟩ | ⟨rfl, HR, hgg⟩ | ⟨rfl, HR, hgg⟩⟩ := hrel
      · have h0 := (HB.out.cell (p := ⟨g, 0, none⟩) HG.out).trans H0.out
        have HC := Aside0.mk (Kd.C_below HR0.out HB.out)
        go_wp2_with (at_builtin; refine Kd.R_append_rows k33 (w0 := w) w.heap.size rfl (.tmp 31) (.tmp 32) 22 33 (.agg #[.string ⟨#[]⟩, .string ⟨#[]⟩]) 32 rfl Try.underlying22 info33 rfl (by decide) (by omega) _ ([] : List S33) l0 A0 l0.length c0 (fun _ => True) (fun _ => False) rfl rfl HR.out HC.out (fun _ _ h => K_M h) (fun _ h => h.elim) (fun _ _ => trivial) HB.out HB.out.size (by have := HL.out; simp only [List.length_nil]; omega) ?_; intro v1 w1 hR1 hB1 _ _; have HR1 := Aside0.mk hR1; have HB1 := Aside0.mk hB1; clear hR1 hB1)
        go_roundg 2
        case measure => omega
        case rel => exact ⟨HB1, .inr (.inl ⟨rfl, HR1, Nat.le_refl _⟩)⟩
      · have h0 := (HB.out.cell (p := ⟨g, 1, none⟩) HG.out).trans H1.out
        have HC := Aside0.mk (Kd.C_below HR1.out HB.out)
        go_wp2_with (at_builtin; refine Kd.R_append_rows k33 (w0 := w) w.heap.size rfl (.tmp 31) (.tmp 32) 22 33 (.agg #[.string ⟨#[]⟩, .string ⟨#[]⟩]) 32 rfl Try.underlying22 info33 rfl (by decide) (by omega) _ l0 l1 A1 l1.length c1 (fun _ => True) (fun _ => False) rfl rfl HR.out HC.out (fun _ _ h => K_M h) (fun _ h => h.elim) (fun _ _ => trivial) HB.out HB.out.size (by have := HL.out; omega) ?_; intro v1 w1 hR1 hB1 _ _; have HR2 := Aside0.mk hR1; have HB1 := Aside0.mk hB1; clear hR1 hB1)
        go_roundg 1
        case measure => omega
        case rel => exact ⟨HB1, .inr (.inr ⟨rfl, HR2, Nat.le_refl _⟩)⟩
      · go_wp2_with fail
        go_ret
        exact ⟨_, rfl, HR.out, HB.out⟩
#print axioms Concat_calls
end Go.Proofs.Ytgbkoeinfhlpoaa.F

namespace Go.Proofs.Ytgbkoeinfhlpoaa.F
open Go.RowKit Go.Shelf Go.Lib Go.Sort Go.Proofs Go.Proofs.YtgbkoeinfhlpoaaW.PrintWords Go.Proofs.YtgbkoeinfhlpoaaW.PrintLast Go.Proofs.YtgbkoeinfhlpoaaW.PrintMore
set_option linter.unusedVariables false
set_option linter.unusedSimpArgs false

def strs_ren : Go.Shelf.Ren := ⟨fun | 125 => 85 | 128 => 115 | 129 => 116 | 190 => 78 | 258 => 105 | 302 => 124 | 303 => 125 | 304 => 126 | 305 => 127 | 306 => 128 | 307 => 129 | 308 => 130 | 309 => 131 | 310 => 132 | 329 => 135 | 330 => 136 | 333 => 141 | 334 => 142 | 335 => 143 | 336 => 144 | 344 => 150 | 194 => 79 | n => n, fun | 31 => 35 | 9 => 9 | 3 => 3 | 46 => 50 | 0 => 0 | 4 => 4 | 183 => 116 | 182 => 115 | 131 => 67 | 218 => 135 | 53 => 101 | 222 => 139 | 228 => 144 | 229 => 109 | 51 => 122 | 5 => 5 | n => n, fun | n => n⟩
theorem sortStrs : Go.Proofs.Lays.n190 Try.prog strs_ren := {
  mixed := by kernel_rfl
  f125 := Try.func85.trans (congrArg some (by kernel_rfl))
  f128 := Try.func115.trans (congrArg some (by kernel_rfl))
  f129 := Try.func116.trans (congrArg some (by kernel_rfl))
  f190 := Try.func78.trans (congrArg some (by kernel_rfl))
  f258 := Try.func105.trans (congrArg some (by kernel_rfl))
  f302 := Try.func124.trans (congrArg some (by kernel_rfl))
  f303 := Try.func125.trans (congrArg some (by kernel_rfl))
  f304 := Try.func126.trans (congrArg some (by kernel_rfl))
  f305 := Try.func127.trans (congrArg some (by kernel_rfl))
  f306 := Try.func128.trans (congrArg some (by kernel_rfl))
  f307 := Try.func129.trans (congrArg some (by kernel_rfl))
  f308 := Try.func130.trans (congrArg some (by kernel_rfl))
  f309 := Try.func131.trans (congrArg some (by kernel_rfl))
  f310 := Try.func132.trans (congrArg some (by kernel_rfl))
  f329 := Try.func135.trans (congrArg some (by kernel_rfl))
  f330 := Try.func136.trans (congrArg some (by kernel_rfl))
  f333 := Try.func141.trans (congrArg some (by kernel_rfl))
  f334 := Try.func142.trans (congrArg some (by kernel_rfl))
  f335 := Try.func143.trans (congrArg some (by kernel_rfl))
  f336 := Try.func144.trans (congrArg some (by kernel_rfl))
  f344 := Try.func150.trans (congrArg some (by kernel_rfl))
  t0 := Try.underlying0
  a0 := Try.isAgg0
  z0 := Try.sizeOf0
  v0 := Try.zeroValue0
  t3 := Try.underlying3
  a3 := Try.isAgg3
  z3 := Try.sizeOf3
  v3 := Try.zeroValue3
  t4 := Try.underlying4
  a4 := Try.isAgg4
  z4 := Try.sizeOf4
  v4 := Try.zeroValue4
  t5 := Try.underlying5
  a5 := Try.isAgg5
  z5 := Try.sizeOf5
  v5 := Try.zeroValue5
  t9 := Try.underlying9
  a9 := Try.isAgg9
  z9 := Try.sizeOf9
  v9 := Try.zeroValue9
  t31 := Try.underlying35
  a31 := Try.isAgg35
  z31 := Try.sizeOf35
  v31 := Try.zeroValue35
  t46 := Try.underlying50
  a46 := Try.isAgg50
  z46 := Try.sizeOf50
  v46 := Try.zeroValue50
  t51 := Try.underlying122
  a51 := Try.isAgg122
  z51 := Try.sizeOf122
  v51 := Try.zeroValue122
  t53 := Try.underlying101
  a53 := Try.isAgg101
  z53 := Try.sizeOf101
  v53 := Try.zeroValue101
  t131 := Try.underlying67
  a131 := Try.isAgg67
  z131 := Try.sizeOf67
  v131 := Try.zeroValue67
  t182 := Try.underlying115
  a182 := Try.isAgg115
  z182 := Try.sizeOf115
  v182 := Try.zeroValue115
  t183 := Try.underlying116
  a183 := Try.isAgg116
  z183 := Try.sizeOf116
  v183 := Try.zeroValue116
  t218 := Try.underlying135
  a218 := Try.isAgg135
  z218 := Try.sizeOf135
  v218 := Try.zeroValue135
  t222 := Try.underlying139
  a222 := Try.isAgg139
  z222 := Try.sizeOf139
  v222 := Try.zeroValue139
  t228 := Try.underlying144
  a228 := Try.isAgg144
  z228 := Try.sizeOf144
  v228 := Try.zeroValue144
  t229 := Try.underlying109
  a229 := Try.isAgg109
  z229 := Try.sizeOf109
  v229 := Try.zeroValue109 }
theorem compactStrs : Go.Proofs.Lays.n194 Try.prog strs_ren := {
  mixed := by kernel_rfl
  f194 := Try.func79.trans (congrArg some (by kernel_rfl))
  t0 := Try.underlying0
  a0 := Try.isAgg0
  z0 := Try.sizeOf0
  v0 := Try.zeroValue0
  t3 := Try.underlying3
  a3 := Try.isAgg3
  z3 := Try.sizeOf3
  v3 := Try.zeroValue3
  t4 := Try.underlying4
  a4 := Try.isAgg4
  z4 := Try.sizeOf4
  v4 := Try.zeroValue4
  t9 := Try.underlying9
  a9 := Try.isAgg9
  z9 := Try.sizeOf9
  v9 := Try.zeroValue9
  t31 := Try.underlying35
  a31 := Try.isAgg35
  z31 := Try.sizeOf35
  v31 := Try.zeroValue35 }

#print axioms sortStrs
#print axioms compactStrs
end Go.Proofs.Ytgbkoeinfhlpoaa.F

namespace Go.Proofs.Ytgbkoeinfhlpoaa.F
open Go.RowKit Go.Shelf Go.Proofs Go.Proofs.YtgbkoeinfhlpoaaW.PrintWords Go.Proofs.YtgbkoeinfhlpoaaW.PrintLast Go.Proofs.YtgbkoeinfhlpoaaW.PrintMore
set_option linter.unusedVariables false
set_option linter.unusedSimpArgs false

/-- Text out of its bytes. -/
def ofL (s : List UInt8) : ByteArray := ⟨s.toArray⟩
theorem ofL_toList (s : ByteArray) : ofL s.toList = s := by
  rw [Lib.toList_data]
  cases s
  rfl
theorem toList_ofL (s : List UInt8) : (ofL s).toList = s := by
  rw [Lib.toList_data]
  rfl
def sortB (l : List ByteArray) : List ByteArray := ((l.map (fun x : ByteArray => x.toList)).mergeSort fun x y => decide (x ≤ y)).map ofL
def compactB (l : List ByteArray) : List ByteArray := (Lib.compact (l.map (fun x : ByteArray => x.toList))).map ofL
theorem sortB_length (l : List ByteArray) : (sortB l).length = l.length := by simp [sortB]
theorem encStr_map (l : List ByteArray) : (l.map (fun x : ByteArray => x.toList)).map encStr = l.map Value.string := by
  rw [List.map_map]
  apply List.map_congr_left
  intro x _
  show Value.string _ = _
  rw [show (⟨x.toList.toArray⟩ : ByteArray) = x from ofL_toList x]
theorem encs_ofL (l : List (List UInt8)) : encs Value.string (l.map ofL) = l.map encStr := by
  simp [encs, ofL, encStr]

theorem heap_put {α : Type} [Inhabited α] {enc : α → Value} {w : World} {g n : Nat} {os : Array Obj} {cur : Array Value} {e : TypeId} {fr : Nat × Nat} (d : Array α) (hb : w.heap[g]? = some (.cells cur e fr)) :
    (Go.Sort.grow (Go.Sort.putRow enc (Go.Sort.ahead w n) g 0 d) os).heap[g]? = some (.cells (Go.Sort.putCells enc 0 d cur) e fr) := by
  have hg : g < w.heap.size := (Array.getElem?_eq_some_iff.1 hb).1
  rw [Go.Sort.heap_grow_old _ _ (by simpa using hg)]
  simp [Go.Sort.putRow, Go.Sort.mapBlock, Go.Sort.ahead, Array.getElem?_modify, hb, Go.Sort.onCells]

theorem grownBy_put {α : Type} [Inhabited α] {enc : α → Value} {w : World} {g n : Nat} {os : Array Obj} (d : Array α) : w.grownBy (Go.Sort.grow (Go.Sort.putRow enc (Go.Sort.ahead w n) g 0 d) os) (some g) := by
  refine ⟨rfl, rfl, rfl, by simp, fun k hk hne => ?_⟩
  rw [Go.Sort.heap_grow_old _ _ (by simpa using hk)]
  have : g ≠ k := fun e => hne (by rw [e])
  simp [Go.Sort.putRow, Go.Sort.mapBlock, Go.Sort.ahead, Array.getElem?_modify, this]

theorem take_putS (cur : Array Value) (ts : List (List UInt8)) (h : ts.length ≤ cur.size) : (Go.Sort.putCells encStr 0 ts.toArray cur).toList.take ts.length = ts.map encStr := by
  apply List.ext_getElem?
  intro j
  by_cases hj : j < ts.length
  · rw [List.getElem?_take_of_lt hj, Array.getElem?_toList]
    simp [Go.Sort.putCells, hj, show j < cur.size by omega]
  · rw [List.getElem?_take_eq_none (by omega), List.getElem?_eq_none (by simpa using (by omega : ts.length ≤ j))]

/-- The row with other texts in its cells. -/
theorem own_put {w : World} {base g cap n m : Nat} {os : Array Obj} {xs : List Value} {ts : List (List UInt8)} (hl : ts.length = m) (h : w.ownsRow base 9 1 (.slice (some ⟨g, 0, none⟩) m cap) m xs) :
    (Go.Sort.grow (Go.Sort.putRow encStr (Go.Sort.ahead w n) g 0 ts.toArray) os).ownsRow base 9 1 (.slice (some ⟨g, 0, none⟩) m cap) m (ts.map encStr) := by
  rcases h.2 with ⟨h0, _⟩ | ⟨g', cap', cur, hv, hb, hg, h1, h2, h3, h4⟩
  · cases h0
  · cases hv
    refine ⟨by simp [hl], .inr ⟨g, cap, _, rfl, hb, heap_put _ hg, h1, h2, by simpa [Go.Sort.putCells] using h3, ?_⟩⟩
    have := take_putS cur ts (by omega)
    rw [hl] at this
    simpa using this

theorem holds_own {w : World} {base g cap : Nat} {l : List ByteArray} (h : w.ownsRow base 9 1 (.slice (some ⟨g, 0, none⟩) l.length cap) l.length (encs Value.string l)) : Go.Sort.Holds encStr w g 0 (l.map (fun x : ByteArray => x.toList)).toArray := by
  intro j hj
  have hj' : j < l.length := by simpa using hj
  refine ⟨?_, ?_⟩
  · rw [Nat.zero_add, h.cellAt j (by omega)]
    have e : (encs Value.string l)[j]? = some (Value.string l[j]) := by simp [encs, hj']
    rw [e]
    congr 1
    have e2 : (l.map (fun x : ByteArray => x.toList)).toArray[j]! = l[j].toList := by simp [hj']
    rw [e2]
    show _ = Value.string _
    rw [show (⟨l[j].toList.toArray⟩ : ByteArray) = l[j] from ofL_toList l[j]]
  · rcases h.2 with ⟨h0, _⟩ | ⟨g', cap', cur, hv, _, hg, _⟩
    · cases h0
    · cases hv
      simp [World.frozen?, hg]

theorem sort_strs (base : Nat) (v : Value) (l : List ByteArray) (w : World) (hr : Kd.R Kd.string 9 w base (fun _ => True) v l) (hl : l.length ≤ 10000000) :
    Calls Try.prog 78 #[v] w fun e w' => e = .returned (.tuple #[]) ∧ Kd.R Kd.string 9 w' base (fun _ => True) v (sortB l) ∧ Below base w w' := by
  have hown := Kd.own_of_R hr
  rcases hown.2 with ⟨rfl, h0⟩ | ⟨g, cap, cur, rfl, hb, hg, h1, h2, h3, h4⟩
  · obtain rfl : l = [] := List.eq_nil_of_length_eq_zero h0
    have hcon := Any.slices_Sort_string_none sortStrs none 0 w
    refine (show Calls Try.prog 78 #[.slice none 0 0] w _ from hcon).mono ?_
    rintro e w' ⟨rfl, rfl⟩
    exact ⟨rfl, by rw [show sortB [] = [] by simp [sortB]]; exact Kd.R_nil _ _ _ _ _, Below.refl base _⟩
  · have hlt : g < w.heap.size := (Array.getElem?_eq_some_iff.1 hg).1
    have hcon := Any.slices_Sort_string sortStrs g 0 cap (l.map (fun x : ByteArray => x.toList)) w (holds_own hown) hlt (by rw [List.length_map]; omega)
    rw [List.length_map] at hcon
    refine (show Calls Try.prog 78 #[.slice (some ⟨g, 0, none⟩) l.length cap] w _ from hcon).mono ?_
    rintro e w' ⟨rfl, n, os, rfl⟩
    have ho := own_put (n := n) (os := os) (ts := (l.map (fun x : ByteArray => x.toList)).mergeSort fun x y => decide (x ≤ y)) (m := l.length) (by simp) hown
    rw [← encs_ofL] at ho
    have hlen : (sortB l).length = l.length := sortB_length l
    refine ⟨rfl, ?_, (Below.refl base w).grown (grownBy_put _) (by omega) (fun k hk => by cases hk; exact hb)⟩
    have hR := Kd.R_of_own (α := ByteArray) (enc := Value.string) (h1 := fun _ => rfl) (ok := fun _ => True) (xs := sortB l) (by rw [hlen]; exact ho) (fun _ _ => trivial)
    exact hR

theorem compact_len_le {α : Type} [Inhabited α] [DecidableEq α] (zs : List α) : (Lib.compact zs).length ≤ zs.length := by
  unfold Lib.compact Lib.compactUpTo
  rw [List.length_map]
  exact Nat.le_trans (List.length_filter_le _ _) (by simp)

theorem compact_strs (base : Nat) (v : Value) (l : List ByteArray) (w : World) (hr : Kd.R Kd.string 9 w base (fun _ => True) v l) (hl : l.length ≤ 10000000) :
    Calls Try.prog 79 #[v] w fun e w' => ∃ v', e = .returned v' ∧ Kd.R Kd.string 9 w' base (fun _ => True) v' (compactB l) ∧ Below base w w' := by
  have hown := Kd.own_of_R hr
  rcases hown.2 with ⟨rfl, h0⟩ | ⟨g, cap, cur, rfl, hb, hg, h1, h2, h3, h4⟩
  · obtain rfl : l = [] := List.eq_nil_of_length_eq_zero h0
    have hcon := Any.slices_Compact_string_empty compactStrs none 0 w
    refine (show Calls Try.prog 79 #[.slice none 0 0] w _ from hcon).mono ?_
    rintro e w' ⟨rfl, rfl⟩
    exact ⟨_, rfl, by rw [show compactB [] = [] by rfl]; exact Kd.R_nil _ _ _ _ _, Below.refl base _⟩
  · have hlt : g < w.heap.size := (Array.getElem?_eq_some_iff.1 hg).1
    have hcon := Any.slices_Compact_string compactStrs g 0 cap (l.map (fun x : ByteArray => x.toList)) w (holds_own hown) (by rw [List.length_map]; omega) (by rw [List.length_map]; exact h1)
    rw [List.length_map] at hcon
    refine (show Calls Try.prog 79 #[.slice (some ⟨g, 0, none⟩) l.length cap] w _ from hcon).mono ?_
    rintro e w' ⟨rfl, q, rfl⟩
    have hle := compact_len_le (l.map fun x : ByteArray => x.toList)
    rw [List.length_map] at hle
    have ho := own_put (n := q) (os := #[]) (ts := Lib.compact (l.map (fun x : ByteArray => x.toList)) ++ List.replicate (l.length - (Lib.compact (l.map (fun x : ByteArray => x.toList))).length) []) (m := l.length) (by rw [List.length_append, List.length_replicate]; omega) hown
    rw [Go.Sort.grow_empty, List.map_append, ← encs_ofL] at ho
    have hgb := grownBy_put (enc := encStr) (w := w) (g := g) (n := q) (os := #[]) (Lib.compact (l.map (fun x : ByteArray => x.toList)) ++ List.replicate (l.length - (Lib.compact (l.map (fun x : ByteArray => x.toList))).length) []).toArray
    rw [Go.Sort.grow_empty] at hgb
    have hlen : (compactB l).length = (Lib.compact (l.map (fun x : ByteArray => x.toList))).length := by simp [compactB]
    have ht := own_take ho hle
    rw [Nat.mul_one, List.take_left' (by simp [encs])] at ht
    refine ⟨_, rfl, ?_, (Below.refl base w).grown hgb (by omega) (fun k hk => by cases hk; exact hb)⟩
    have hR := Kd.R_of_own (α := ByteArray) (enc := Value.string) (h1 := fun _ => rfl) (ok := fun _ => True) (xs := compactB l) (by rw [hlen]; exact ht) (fun _ _ => trivial)
    exact hR
#print axioms sort_strs
#print axioms compact_strs
end Go.Proofs.Ytgbkoeinfhlpoaa.F

namespace Go.Proofs.Ytgbkoeinfhlpoaa.F
open Go.RowKit Go.Shelf Go.Proofs
set_option linter.unusedVariables false
set_option linter.unusedSimpArgs false

theorem le_tot (x y : List UInt8) : (decide (x ≤ y) || decide (y ≤ x)) = true := by
  rcases List.le_total x y with h | h <;> simp [h]
theorem le_tr (x y z : List UInt8) (h1 : decide (x ≤ y) = true) (h2 : decide (y ≤ z) = true) : decide (x ≤ z) = true := by
  simp only [decide_eq_true_eq] at *
  exact List.le_trans h1 h2

/-- Of a row that rises, what compactUpTo keeps: it rises strictly, ends with the last, and has the same texts. -/
theorem compact_rises (d : Array (List UInt8)) (hs : ∀ i j, i < j → j < d.size → d[i]! ≤ d[j]!) : ∀ m, m ≤ d.size →
    (Lib.compactUpTo d m).Pairwise (· < ·) ∧ (∀ x, x ∈ Lib.compactUpTo d m ↔ ∃ j, j < m ∧ d[j]! = x)
  | 0, _ => by
    refine ⟨by simp [Lib.compactUpTo], fun x => ⟨fun h => by simp [Lib.compactUpTo] at h, fun ⟨j, hj, _⟩ => absurd hj (Nat.not_lt_zero _)⟩⟩
  | m + 1, hm => by
    obtain ⟨h1, h2⟩ := compact_rises d hs m (by omega)
    rw [Lib.compactUpTo_succ]
    by_cases hk : Lib.keeps d m = true
    · rw [if_pos hk]
      have hlt : ∀ x ∈ Lib.compactUpTo d m, x < d[m]! := by
        intro x hx
        obtain ⟨j, hj, rfl⟩ := (h2 x).mp hx
        have hle : d[j]! ≤ d[m]! := hs j m hj (by omega)
        rcases Nat.eq_or_lt_of_le (show j ≤ m - 1 by omega) with he | hl
        · subst he
          have : d[m]! ≠ d[m - 1]! := by
            have := of_decide_eq_true hk
            rcases this with h | h
            · omega
            · exact h
          rcases List.le_iff_lt_or_eq.mp hle with h | h
          · exact h
          · exact absurd h.symm this
        · have hle1 : d[j]! ≤ d[m - 1]! := hs j (m - 1) hl (by omega)
          have hle2 : d[m - 1]! ≤ d[m]! := hs (m - 1) m (by omega) (by omega)
          have : d[m]! ≠ d[m - 1]! := by
            have := of_decide_eq_true hk
            rcases this with h | h
            · omega
            · exact h
          rcases List.le_iff_lt_or_eq.mp hle with h | h
          · exact h
          · have : d[m - 1]! ≤ d[j]! := by rw [h]; exact hle2
            have he := List.le_antisymm hle1 this
            exact absurd (h.symm.trans he) (by assumption)
      refine ⟨List.pairwise_append.mpr ⟨h1, List.pairwise_singleton _ _, fun x hx y hy => ?_⟩, fun x => ?_⟩
      · rw [List.mem_singleton] at hy
        subst hy
        exact hlt x hx
      · rw [List.mem_append, List.mem_singleton, h2]
        constructor
        · rintro (⟨j, hj, e⟩ | e)
          · exact ⟨j, by omega, e⟩
          · exact ⟨m, by omega, e.symm⟩
        · rintro ⟨j, hj, e⟩
          rcases Nat.lt_succ_iff_lt_or_eq.mp hj with h | h
          · exact .inl ⟨j, h, e⟩
          · subst h; exact .inr e.symm
    · rw [if_neg hk, List.append_nil]
      refine ⟨h1, fun x => ?_⟩
      rw [h2]
      have hk' : ¬ (m = 0 ∨ d[m]! ≠ d[m - 1]!) := fun h => hk (decide_eq_true h)
      constructor
      · rintro ⟨j, hj, e⟩; exact ⟨j, by omega, e⟩
      · rintro ⟨j, hj, e⟩
        rcases Nat.lt_succ_iff_lt_or_eq.mp hj with h | h
        · exact ⟨j, h, e⟩
        · subst h
          refine ⟨j - 1, by omega, ?_⟩
          rw [← e]
          exact (Decidable.byContradiction fun h => hk' (.inr (fun h2 => h h2.symm)))

/-- The texts of a list, strictly rising. -/
def setB (l : List ByteArray) : List ByteArray := compactB (sortB l)
theorem setB_lists (l : List ByteArray) : (setB l).map (fun x : ByteArray => x.toList) = Lib.compact ((l.map (fun x : ByteArray => x.toList)).mergeSort fun x y => decide (x ≤ y)) := by
  unfold setB compactB sortB
  rw [List.map_map, List.map_map]
  rw [show ((fun s : ByteArray => s.toList) ∘ ofL) = id from funext toList_ofL]
  simp
theorem setB_spec (l : List ByteArray) : ((setB l).map (fun x : ByteArray => x.toList)).Pairwise (· < ·) ∧ ∀ x, x ∈ (setB l).map (fun x : ByteArray => x.toList) ↔ x ∈ l.map (fun x : ByteArray => x.toList) := by
  rw [setB_lists]
  have hsorted := List.pairwise_mergeSort (le := fun x y : List UInt8 => decide (x ≤ y)) (fun a b c => le_tr a b c) le_tot (l.map (fun x : ByteArray => x.toList))
  have hmem : ∀ x, x ∈ (l.map (fun x : ByteArray => x.toList)).mergeSort (fun x y => decide (x ≤ y)) ↔ x ∈ l.map (fun x : ByteArray => x.toList) := fun x => List.mem_mergeSort
  generalize (l.map (fun x : ByteArray => x.toList)).mergeSort (fun x y => decide (x ≤ y)) = S at hsorted hmem
  have hs : ∀ i j, i < j → j < S.toArray.size → S.toArray[i]! ≤ S.toArray[j]! := by
    intro i j hij hj
    have hj' : j < S.length := by simpa using hj
    have := List.pairwise_iff_getElem.mp hsorted i j (by omega) hj' hij
    simpa [show i < S.length by omega, hj'] using this
  obtain ⟨h1, h2⟩ := compact_rises S.toArray hs S.length (by simp)
  refine ⟨h1, fun x => ?_⟩
  rw [show Lib.compact S = Lib.compactUpTo S.toArray S.length from rfl, h2, ← hmem]
  constructor
  · rintro ⟨j, hj, rfl⟩
    simp [hj]
  · intro hx
    obtain ⟨j, hj, e⟩ := List.mem_iff_getElem.mp hx
    exact ⟨j, hj, by simp [hj, e]⟩

/-- Two strictly rising lists of the same texts are one. -/
theorem rises_ext : ∀ (a b : List (List UInt8)), a.Pairwise (· < ·) → b.Pairwise (· < ·) → (∀ x, x ∈ a ↔ x ∈ b) → a = b
  | [], [], _, _, _ => rfl
  | [], y :: b, _, _, h => absurd ((h y).mpr List.mem_cons_self) (by simp)
  | x :: a, [], _, _, h => absurd ((h x).mp List.mem_cons_self) (by simp)
  | x :: a, y :: b, ha, hb, h => by
    rw [List.pairwise_cons] at ha hb
    have e : x = y := by
      rcases List.mem_cons.mp ((h x).mp List.mem_cons_self) with h1 | h1
      · exact h1
      · rcases List.mem_cons.mp ((h y).mpr List.mem_cons_self) with h2 | h2
        · exact h2.symm
        · exact absurd (ha.1 y h2) (List.lt_asymm (hb.1 x h1))
    subst e
    rw [rises_ext a b ha.2 hb.2 fun z => ?_]
    constructor
    · intro hz
      rcases List.mem_cons.mp ((h z).mp (List.mem_cons_of_mem _ hz)) with h1 | h1
      · subst h1; exact absurd (ha.1 z hz) (List.lt_irrefl _)
      · exact h1
    · intro hz
      rcases List.mem_cons.mp ((h z).mpr (List.mem_cons_of_mem _ hz)) with h1 | h1
      · subst h1; exact absurd (hb.1 z hz) (List.lt_irrefl _)
      · exact h1

#print axioms setB_spec
#print axioms rises_ext
end Go.Proofs.Ytgbkoeinfhlpoaa.F

namespace Go.Proofs.Ytgbkoeinfhlpoaa.F
open Go.RowKit Go.Proofs.YtgbkoeinfhlpoaaW.PrintWords Go.Proofs.YtgbkoeinfhlpoaaW.PrintLast Go.Proofs.YtgbkoeinfhlpoaaW.PrintMore
set_option linter.unusedVariables false
set_option linter.unusedSimpArgs false

theorem enters50 : ∀ args w, (callFunc 50 args).run Try.prog w = .ok (.enter 50 args) w := enters_of Try.func50 (by kernel_rfl) rfl
theorem enters51 : ∀ args w, (callFunc 51 args).run Try.prog w = .ok (.enter 51 args) w := enters_of Try.func51 (by kernel_rfl) rfl

theorem asks51 (l : List S33) (q : ByteArray) (B : Nat) (w : World) (hB : B < w.heap.size) (hcell : w.cell? ⟨B, 0, none⟩ = some (.string q)) :
    Asks 51 #[.pointer (some ⟨B, 0, none⟩)] (fun x => x.p == q.toList) l w := fun W x _ hb => by
  have hc : W.cell? ⟨B, 0, none⟩ = some (.string q) := (hb.cell (p := ⟨B, 0, none⟩) hB).trans hcell
  have hBW : B < W.heap.size := Nat.lt_of_lt_of_le hB hb.size
  have hne : B ≠ W.heap.size := by omega
  have hu33 := Try.underlying33
  show Calls Try.prog 51 #[.agg #[.string x.f0, .string x.f1], .pointer (some ⟨B, 0, none⟩)] W _
  go_enter Try.func51, Try.ntmps51
  go_wp2
  go_ret
  exact ⟨by simp [S33.p], (Below.refl _ _).alloc (Nat.le_refl _) _⟩

theorem getE_some (l : List S33) (q : ByteArray) (h : l.any (fun x => x.p == q.toList) = true) :
    getE l q.toList = ((l.getD (l.findIdx (fun x => x.p == q.toList)) z33).f1, true) := by
  have h2 : l.find? (fun x => x.p == q.toList) = l[l.findIdx (fun x => x.p == q.toList)]? := List.find?_eq_getElem?_findIdx
  obtain ⟨x, hx, hp⟩ := List.any_eq_true.mp h
  have hl : l.findIdx (fun x => x.p == q.toList) < l.length := List.findIdx_lt_length_of_exists ⟨x, hx, hp⟩
  unfold getE
  rw [h2, List.getElem?_eq_getElem hl]
  simp [List.getD_eq_getElem?_getD, List.getElem?_eq_getElem hl]
theorem getE_none (l : List S33) (q : ByteArray) (h : l.any (fun x => x.p == q.toList) = false) : getE l q.toList = (⟨#[]⟩, false) := by
  unfold getE
  rw [List.find?_eq_none.mpr (fun x hx => by
    have := List.any_eq_false.mp h x hx
    simpa using this)]

set_option maxHeartbeats 2000000 in
set_option maxRecDepth 100000 in
theorem files_Get.calls (A0 : Option Addr) (c0 : Nat) (l0 : List S33) (a1 : ByteArray) (r1 : ByteArray) (r2 : Bool) (w : World) (hr0 : Kd.C k33 w A0 l0.length l0) (hc0 : l0.length ≤ c0) (h : files_Get.f l0 a1 = some (r1, r2)) :
    Calls Try.prog 19 #[.slice A0 l0.length c0, .string a1] w fun e w' => e = .returned (.tuple #[.string r1, .bool r2]) ∧ Below w.heap.size w w' := by
  have hu33 := Try.underlying33
  have hc := IndexFunc_calls 51 #[.pointer (some ⟨w.heap.size, 0, none⟩)] (fun x => x.p == a1.toList) enters51 A0 c0 l0 (w.alloc (.cells #[.string a1] 9))
    (Kd.C_below hr0 ((Below.refl _ _).alloc (Nat.le_refl _) _)) (asks51 l0 a1 w.heap.size _ (by simp) (by simp))
  have H : getE l0 a1.toList = (r1, r2) := by simpa [files_Get.f] using h
  clear h
  have HR := Aside0.mk hr0
  clear hr0
  cases ha : l0.any (fun x => x.p == a1.toList) with
  | true =>
    rw [getE_some l0 a1 ha] at H
    have hl : l0.findIdx (fun x => x.p == a1.toList) < l0.length := by
      obtain ⟨x, hx, hp⟩ := List.any_eq_true.mp ha
      exact List.findIdx_lt_length_of_exists ⟨x, hx, hp⟩
    have e1 : idxI (fun x => x.p == a1.toList) l0 = (l0.findIdx (fun x => x.p == a1.toList) : Int) := by unfold idxI; rw [if_pos ha]
    rw [e1] at hc
    generalize l0.findIdx (fun x => x.p == a1.toList) = k at hc H hl
    simp only [Prod.mk.injEq] at H
    obtain ⟨rfl, rfl⟩ := H
    obtain ⟨ad, e, hx0, hx1⟩ := at_T33 HR.out (k : Int) (by omega) (by omega)
    cases e
    rw [getD_rd, Int.toNat_natCast] at hx0 hx1
    generalize l0.getD k z33 = y at hx0 hx1 ⊢
    have hlz : (k : Int) < (l0.length : Int) := by omega
    have hk0 : decide ((k : Int) < 0) = false := decide_eq_false (by omega)
    clear ha e1
    have HL := Aside0.mk hx1
    have HBL := World.block_lt_of_cell? w _ hx1
    clear hx0 hx1
    go_enter Try.func19, Try.ntmps19
    go_wp2_with (go_at_call 50; refine hc.mono ?_; rintro e w1 ⟨rfl, hb'⟩; have hB2 : Below w.heap.size w w1 := ((Below.refl w.heap.size w).alloc (Nat.le_refl _) _).trans (hb'.mono (by simp)); have hx1' := (hB2.cell HBL).trans HL.out)
    go_ret2
    exact ⟨rfl, hB2⟩
  | false =>
    rw [getE_none l0 a1 ha] at H
    have e1 : idxI (fun x => x.p == a1.toList) l0 = -1 := by unfold idxI; rw [ha]; rfl
    rw [e1] at hc
    simp only [Prod.mk.injEq] at H
    obtain ⟨rfl, rfl⟩ := H
    clear ha e1
    go_enter Try.func19, Try.ntmps19
    go_wp2_with (go_at_call 50; refine hc.mono ?_; rintro e w1 ⟨rfl, hb'⟩; have hB2 : Below w.heap.size w w1 := ((Below.refl w.heap.size w).alloc (Nat.le_refl _) _).trans (hb'.mono (by simp)))
    go_ret2
    exact ⟨rfl, hB2⟩

#print axioms files_Get.calls
end Go.Proofs.Ytgbkoeinfhlpoaa.F

namespace Go.Proofs.Ytgbkoeinfhlpoaa.F
open Go.RowKit Go.Shelf Go.Proofs.YtgbkoeinfhlpoaaW.PrintWords Go.Proofs.YtgbkoeinfhlpoaaW.PrintLast Go.Proofs.YtgbkoeinfhlpoaaW.PrintMore
set_option linter.unusedVariables false
set_option linter.unusedSimpArgs false

/-- Whether two lists have unlike at a path. -/
def unlike (l0 l1 : List S33) (q : ByteArray) : Bool := ((getE l0 q.toList).2 != (getE l1 q.toList).2) || ((getE l0 q.toList).1.toList != (getE l1 q.toList).1.toList)
/-- The paths of the first files of both that are unlike. -/
def outE (l0 l1 m : List S33) : List ByteArray := (m.filter fun f => unlike l0 l1 f.f0).map (·.f0)
def changedE (l0 l1 : List S33) : List ByteArray := setB (outE l0 l1 (l0 ++ l1))
theorem outE_snoc (l0 l1 m : List S33) (f : S33) : outE l0 l1 (m ++ [f]) = outE l0 l1 m ++ (if unlike l0 l1 f.f0 then [f.f0] else []) := by
  unfold outE
  rw [List.filter_append, List.map_append]
  congr 1
  cases h : unlike l0 l1 f.f0 <;> simp [h]
theorem outE_length (l0 l1 m : List S33) : (outE l0 l1 m).length ≤ m.length := by
  unfold outE
  rw [List.length_map]
  exact List.length_filter_le _ _

theorem wrap_succC (i : Nat) (h : i ≤ 140737488351232) : wrap64 ((i : Int) + 1) = ((i + 1 : Nat) : Int) := by unfold wrap64; omega
theorem E33k : k33.E = [] := rfl

set_option maxHeartbeats 4000000 in
set_option maxRecDepth 100000 in
theorem changed_walk (A0 : Option Addr) (c0 : Nat) (l0 : List S33) (A1 : Option Addr) (c1 : Nat) (l1 : List S33) (w : World)
    (hr0 : Kd.C k33 w A0 l0.length l0) (hc0 : l0.length ≤ c0) (hr1 : Kd.C k33 w A1 l1.length l1) (hc1 : l1.length ≤ c1) (b0 : l0.length ≤ 1000000) (b1 : l1.length ≤ 1000000) :
    Calls Try.prog 37 #[.slice A0 l0.length c0, .slice A1 l1.length c1] w fun e w' => ∃ v0_ : Value, e = .returned v0_ ∧ Kd.R Kd.string 9 w' w.heap.size (fun _ => True) v0_ (changedE l0 l1) ∧ Below w.heap.size w w' := by
  have hu33 := Try.underlying33
  have HR0 := Aside0.mk hr0
  have HR1 := Aside0.mk hr1
  have HL := Aside0.mk (show l0.length ≤ 1000000 ∧ l1.length ≤ 1000000 ∧ (l0 ++ l1).length ≤ 2000000 from ⟨b0, b1, by rw [List.length_append]; omega⟩)
  clear hr0 hr1 b0 b1
  have hcc := Concat_calls w.heap.size A0 c0 l0 A1 c1 l1 (w.alloc (.cells #[.slice A0 l0.length c0, .slice A1 l1.length c1] 22)) (by simp) (by simp) (Kd.C_below HR0.out ((Below.refl _ _).alloc (Nat.le_refl _) _)) (Kd.C_below HR1.out ((Below.refl _ _).alloc (Nat.le_refl _) _)) HL.out.1 HL.out.2.1
  have hch : changedE l0 l1 = setB (outE l0 l1 (l0 ++ l1)) := rfl
  rw [hch]
  clear hch
  generalize l0 ++ l1 = LL at HL hcc ⊢
  go_enter Try.func37, Try.ntmps37
  go_upto_block 0 with (go_at_call 77; refine hcc.mono ?_; rintro e w1 ⟨v0, rfl, hR, hb⟩; have HRc := Aside0.mk (Kd.R_lower hR (below_size ((Below.refl w.heap.size w).alloc (Nat.le_refl _) _))); have HB := Aside0.mk (((Below.refl w.heap.size w).alloc (Nat.le_refl _) _).trans (hb.mono (below_size ((Below.refl w.heap.size w).alloc (Nat.le_refl _) _)))); clear hR hb; obtain ⟨Ac, cc, hvc, hlc, hCc⟩ := Kd.R_reads HRc.out; subst hvc)
  clear hcc hlc hCc
  go_cut [5] (fun s5 wc => Aside0 (Kd.R Kd.string 9 wc w.heap.size (fun _ => True) s5 (outE l0 l1 LL)) ∧ Aside0 (Below w.heap.size w wc))
  case first =>
    go_wp2_with fail
    go_loopg [5, 17] (LL.length + 1) (fun gg s5 s17 wr => ∃ (i : Nat), i ≤ LL.length ∧ LL.length + 1 - i ≤ gg ∧ s17 = .int .i64 i ∧ Aside0 (Kd.R k33 33 wr w.heap.size (fun _ => True) (.slice Ac LL.length cc) LL) ∧ Aside0 (Kd.R Kd.string 9 wr w.heap.size (fun _ => True) s5 (outE l0 l1 (LL.take i))) ∧ Aside0 (Below w.heap.size w wr))
    case atStart => exact ⟨0, by omega, by omega, rfl, HRc, ⟨by simpa [outE] using Kd.R_nil _ _ _ _ _⟩, HB⟩
    case round =>
      clear HRc HB
      obtain ⟨i, hi, hgi, rfl, HRc, HO, HB⟩ := hrel
      by_cases hlt : i < LL.length
      · have hltz : (i : Int) < (LL.length : Int) := by omega
        have HLT := Aside0.mk hlt
        obtain ⟨ad, e, hx0, hx1⟩ := at_T33 (Kd.R_reads' HRc.out).2.2 (i : Int) (by omega) (by omega)
        cases e
        rw [getD_rd, Int.toNat_natCast] at hx0 hx1
        have hEX := (show outE l0 l1 (LL.take (i + 1)) = outE l0 l1 (LL.take i) ++ (if unlike l0 l1 (LL.getD i z33).f0 then [(LL.getD i z33).f0] else []) by
          rw [← outE_snoc]
          congr 1
          rw [List.take_succ_eq_append_getElem hlt, List.getD_eq_getElem?_getD, List.getElem?_eq_getElem hlt]
          rfl)
        generalize LL.getD i z33 = x at hx0 hx1 hEX
        have HEX := Aside0.mk hEX
        clear hEX
        have hb0 : Below w.heap.size w (wr.alloc (.cells #[.string x.f0, .string x.f1] 33)) := below_step HB.out ((Below.refl _ _).alloc (Nat.le_refl _) _)
        have hRc1 := Kd.R_alloc HRc.out (.cells #[.string x.f0, .string x.f1] 33)
        have hO1 := Kd.R_alloc HO.out (.cells #[.string x.f0, .string x.f1] 33)
        have hx : (wr.alloc (.cells #[.string x.f0, .string x.f1] 33)).cell? ⟨wr.heap.size, 0, none⟩ = some (.string x.f0) := by simp
        have hxl : wr.heap.size < (wr.alloc (.cells #[.string x.f0, .string x.f1] 33)).heap.size := by simp
        have G0 := files_Get.calls A0 c0 l0 x.f0 (getE l0 x.f0.toList).1 (getE l0 x.f0.toList).2 _ (Kd.C_below HR0.out hb0) hc0 rfl
        have hun : unlike l0 l1 x.f0 = (((getE l0 x.f0.toList).2 != (getE l1 x.f0.toList).2) || ((getE l0 x.f0.toList).1.toList != (getE l1 x.f0.toList).1.toList)) := rfl
        have hG1 : files_Get.f l1 x.f0 = some ((getE l1 x.f0.toList).1, (getE l1 x.f0.toList).2) := rfl
        generalize (getE l0 x.f0.toList).1 = ra at G0 hun
        generalize (getE l0 x.f0.toList).2 = ba at G0 hun
        generalize (getE l1 x.f0.toList).1 = rb at hG1 hun
        generalize (getE l1 x.f0.toList).2 = bb at hG1 hun
        have HUN := Aside0.mk hun
        have HG1 := Aside0.mk hG1
        have HB0 := Aside0.mk hb0
        have HRc1 := Aside0.mk hRc1
        have HO1 := Aside0.mk hO1
        have HX := Aside0.mk hx
        have HXL := Aside0.mk hxl
        clear hun hG1 hb0 hRc1 hO1 hx hxl
        go_wp2_with fail
        refine G0.mono ?_
        generalize (wr.alloc (.cells #[.string x.f0, .string x.f1] 33)) = W0 at HB0 HRc1 HO1 HX HXL
        rintro e W1 ⟨rfl, hb1⟩
        have HB1 := Aside0.mk (below_step HB0.out hb1)
        have HRc2 := Aside0.mk (Kd.R_below HRc1.out hb1)
        have HO2 := Aside0.mk (Kd.R_below HO1.out hb1)
        have hx1 := (hb1.cell (p := ⟨wr.heap.size, 0, none⟩) HXL.out).trans HX.out
        have HX1 := Aside0.mk hx1
        have HXL1 := Aside0.mk (Nat.lt_of_lt_of_le HXL.out hb1.size)
        clear hb1 G0 hx0
        go_wp2_with fail
        have G1 := files_Get.calls A1 c1 l1 x.f0 rb bb W1 (Kd.C_below HR1.out HB1.out) hc1 HG1.out
        refine G1.mono ?_
        rintro e W2 ⟨rfl, hb2⟩
        have HB2 := Aside0.mk (below_step HB1.out hb2)
        have HRc3 := Aside0.mk (Kd.R_below HRc2.out hb2)
        have HO3 := Aside0.mk (Kd.R_below HO2.out hb2)
        have hx2 := (hb2.cell (p := ⟨wr.heap.size, 0, none⟩) HXL1.out).trans HX1.out
        clear hb2 G1 hx1
        have HLn := Aside0.mk (show ((outE l0 l1 (LL.take i)).length + 1) * 16 ≤ 140737488355328 by
          have h1 := outE_length l0 l1 (LL.take i)
          have h2 := HL.out.2.2
          rw [List.length_take] at h1
          omega)
        by_cases hbb : ba = bb
        · have hbz : (ba != bb) = false := by rw [hbb]; simp
          cases hab : ra.toList == rb.toList with
          | true =>
            have hab2 : (ra.toList != rb.toList) = false := by unfold bne; rw [hab]; rfl
            have HU := Aside0.mk (show unlike l0 l1 x.f0 = false by rw [HUN.out, hbz, hab2]; rfl)
            have HX4 := Aside0.mk (show outE l0 l1 (LL.take (i + 1)) = outE l0 l1 (LL.take i) by rw [HEX.out, HU.out]; simp)
            go_wp2_with fail
            go_roundg (LL.length + 1 - (i + 1))
            case measure => omega
            case rel => exact ⟨i + 1, by have := HLT.out; omega, by omega, by rw [wrap_succC i (by have := HLT.out; have := HL.out.2.2; omega)], HRc3, by rw [HX4.out]; exact HO3, HB2⟩
          | false =>
            have hab2 : (ra.toList != rb.toList) = true := by unfold bne; rw [hab]; rfl
            have HU := Aside0.mk (show unlike l0 l1 x.f0 = true by rw [HUN.out, hbz, hab2]; rfl)
            have HX4 := Aside0.mk (show outE l0 l1 (LL.take (i + 1)) = outE l0 l1 (LL.take i) ++ [x.f0] by rw [HEX.out, HU.out]; rfl)
            go_wp2_with (at_builtin; refine Kd.R_append Kd.string (w0 := w) w.heap.size rfl (.tmp 43) (.tmp 46) 35 9 (.string ⟨#[]⟩) 16 rfl Try.underlying35 info9 rfl (by decide) (by omega) u5 (outE l0 l1 (LL.take i)) x.f0 [.string x.f0] (fun _ => True) (fun _ => False) rfl rfl rfl (fun _ h => h.elim) (fun _ _ => trivial) HO3.out HB2.out HB2.out.size HLn.out ?_; intro v9 w9 hR9 hb9 hg9 _; have HO4 := Aside0.mk hR9; have HB4 := Aside0.mk hb9; have HRc4 := Aside0.mk (Kd.R_over' HRc3.out (Kd.R_typed HO3.out) (fun q hq => by rw [E33k] at hq; simp at hq; omega) hg9); clear hR9 hb9 hg9)
            go_roundg (LL.length + 1 - (i + 1))
            case measure => omega
            case rel => exact ⟨i + 1, by have := HLT.out; omega, by omega, by rw [wrap_succC i (by have := HLT.out; have := HL.out.2.2; omega)], HRc4, by rw [HX4.out]; exact HO4, HB4⟩
        · have hbz : (ba != bb) = true := bne_iff_ne.mpr hbb
          have HU := Aside0.mk (show unlike l0 l1 x.f0 = true by rw [HUN.out, hbz]; rfl)
          have HX4 := Aside0.mk (show outE l0 l1 (LL.take (i + 1)) = outE l0 l1 (LL.take i) ++ [x.f0] by rw [HEX.out, HU.out]; rfl)
          go_wp2_with (at_builtin; refine Kd.R_append Kd.string (w0 := w) w.heap.size rfl (.tmp 43) (.tmp 46) 35 9 (.string ⟨#[]⟩) 16 rfl Try.underlying35 info9 rfl (by decide) (by omega) u5 (outE l0 l1 (LL.take i)) x.f0 [.string x.f0] (fun _ => True) (fun _ => False) rfl rfl rfl (fun _ h => h.elim) (fun _ _ => trivial) HO3.out HB2.out HB2.out.size HLn.out ?_; intro v9 w9 hR9 hb9 hg9 _; have HO4 := Aside0.mk hR9; have HB4 := Aside0.mk hb9; have HRc4 := Aside0.mk (Kd.R_over' HRc3.out (Kd.R_typed HO3.out) (fun q hq => by rw [E33k] at hq; simp at hq; omega) hg9); clear hR9 hb9 hg9)
          go_roundg (LL.length + 1 - (i + 1))
          case measure => omega
          case rel => exact ⟨i + 1, by have := HLT.out; omega, by omega, by rw [wrap_succC i (by have := HLT.out; have := HL.out.2.2; omega)], HRc4, by rw [HX4.out]; exact HO4, HB4⟩
      · have hltz : ¬ (i : Int) < (LL.length : Int) := by omega
        have HE := Aside0.mk (show LL.take i = LL from List.take_of_length_le (by omega))
        go_wp2_with fail
        go_meet
        case rel => exact ⟨by rw [HE.out] at HO; exact HO, HB⟩
  case rest =>
    obtain ⟨HO, HB⟩ := hcut
    have hlen := outE_length l0 l1 LL
    have ks := sort_strs w.heap.size u5 _ wc HO.out (by have := HL.out; omega)
    clear hlen
    have hl2 : (sortB (outE l0 l1 LL)).length ≤ 10000000 := by
      have := outE_length l0 l1 LL
      have := HL.out
      rw [sortB_length]
      omega
    have HL2 := Aside0.mk hl2
    clear hl2
    go_wp2_with fail
    refine ks.mono ?_
    rintro e w2 ⟨rfl, hR2, hb2⟩
    have HB2 := Aside0.mk (HB.out.trans hb2)
    have kc := compact_strs w.heap.size u5 _ w2 hR2 HL2.out
    clear hR2 hb2 ks
    go_wp2_with fail
    refine kc.mono ?_
    rintro e w3 ⟨v3, rfl, hR3, hb3⟩
    have HR3 := Aside0.mk hR3
    have HB3 := Aside0.mk (HB2.out.trans hb3)
    clear hR3 hb3 kc
    go_wp2_with fail
    go_ret
    exact ⟨_, rfl, HR3.out, HB3.out⟩

def pack_Changed.f (l0 l1 : List S33) : Option (List ByteArray) := if l0.length ≤ 1000000 ∧ l1.length ≤ 1000000 then some (changedE l0 l1) else none
theorem pack_Changed.calls (A0 : Option Addr) (c0 : Nat) (l0 : List S33) (A1 : Option Addr) (c1 : Nat) (l1 : List S33) (r : List ByteArray) (w : World) (hr0 : Kd.C k33 w A0 l0.length l0) (hc0 : l0.length ≤ c0) (hr1 : Kd.C k33 w A1 l1.length l1) (hc1 : l1.length ≤ c1) (h : pack_Changed.f l0 l1 = some r) :
    Calls Try.prog 37 #[.slice A0 l0.length c0, .slice A1 l1.length c1] w fun e w' => ∃ v0_ : Value, e = .returned v0_ ∧ Kd.R Kd.string 9 w' w.heap.size (fun _ => True) v0_ r ∧ Below w.heap.size w w' := by
  unfold pack_Changed.f at h
  split at h
  · rename_i hb
    cases h
    exact changed_walk A0 c0 l0 A1 c1 l1 w hr0 hc0 hr1 hc1 hb.1 hb.2
  · cases h
#print axioms pack_Changed.calls
end Go.Proofs.Ytgbkoeinfhlpoaa.F
