/- pack's reader: count and take. (Began as two texts of this session's printing program; one end is by hand.) -/
/- pack's reader over lists: what count and take come to. -/
/- pack.Pack's printed function comes to packE: the text of the files, or the check's error. -/
/- math/bits.Mul (its walk follows the kit's own make), copy at rows of bytes, and slices.Repeat of one byte. -/
/- pack.Unpack: what the walk carries along. -/
/- pack.Unpack. -/
import Derived.Test.YtgbkoeinfhlpoaaFx0
import Derived.Test.YtgbkoeinfhlpoaaERuns
import Derived.Test.YtgbkoeinfhlpoaaELayN
import Derived.Test.YtgbkoeinfhlpoaaFx9
import Derived.Shelf.Bits.Mul64
import Derived.Lib.SliceRun
import Derived.Laws.NewBlocks
import Derived.Shelf.RegionOpenPlain
import Derived.Shelf.Spec.SlicesInsert
import Derived.Outline
namespace Go.Proofs.Ytgbkoeinfhlpoaa.F
open Go.RowKit Go.Proofs.YtgbkoeinfhlpoaaW.PrintWords Go.Proofs.YtgbkoeinfhlpoaaW.PrintLast Go.Proofs.YtgbkoeinfhlpoaaW.PrintMore
attribute [local go_sem] max2_int min2_int max_two min_two max_three min_three max_four min_four   -- for this text's walks alone
set_option linter.unusedVariables false
set_option linter.unusedSimpArgs false

/-- A state of type 81 at block g of W; what its slices lead to came in by w0. -/
def IsS81 (w0 W : World) (g : Nat) (f0 : ByteArray) (f1 : Bool) : Prop := W.heap[g]? = some (.cells #[.string f0, .bool f1] 81 (0, 0)) ∧ w0.heap.size ≤ g
theorem IsS81.grown {w0 W : World} {g : Nat} {f0 : ByteArray} {f1 : Bool} {W1 : World} {row : Option Nat} (h : IsS81 w0 W g f0 f1) (hw : W.grownBy W1 row) (hne : some g ≠ row) : IsS81 w0 W1 g f0 f1 := by
  obtain ⟨hb, hg⟩ := h
  exact ⟨blk_grown hb hw hne, hg⟩
theorem IsS81.own_neN {w0 W : World} {g : Nat} {f0 : ByteArray} {f1 : Bool} {α : Type} {d : Kd α} {e : Nat} {base : Nat} {ok : Nat → Prop} {v : Value} {xs : List α} (h : IsS81 w0 W g f0 f1) (ho : Kd.N d e W base ok v xs) (ht : e ≠ 81) : some g ≠ v.ownBlock := by
  obtain ⟨hb, hg⟩ := h
  exact Kd.N_ne ho hb ht
theorem IsS81.fresh {w0 W : World} {g : Nat} {f0 : ByteArray} {f1 : Bool} (h : IsS81 w0 W g f0 f1) : ∀ k, W.heap.size ≤ k → k ≠ g := by
  obtain ⟨hb, hg⟩ := h
  exact Kd.freshB hb
theorem IsS81.kept {w0 W : World} {g : Nat} {f0 : ByteArray} {f1 : Bool} {W1 : World} {S : Nat → Prop} (h : IsS81 w0 W g f0 f1) (hk : Kept W W1 S) (hne : ¬ S g) : IsS81 w0 W1 g f0 f1 := by
  obtain ⟨hb, hg⟩ := h
  exact ⟨blk_kept hb hk hne, hg⟩
theorem IsS81.below {w0 W : World} {g : Nat} {f0 : ByteArray} {f1 : Bool} {W1 : World} (h : IsS81 w0 W g f0 f1) (hw : Below W.heap.size W W1) : IsS81 w0 W1 g f0 f1 := h.grown (grown_of_below hw none) (by simp)
theorem IsS81.alloc {w0 W : World} {g : Nat} {f0 : ByteArray} {f1 : Bool} (h : IsS81 w0 W g f0 f1) (o : Obj) : IsS81 w0 (W.alloc o) g f0 f1 := h.below (below_alloc (Below.refl _ _) o)
theorem IsS81.drewN {w0 W : World} {g : Nat} {f0 : ByteArray} {f1 : Bool} (h : IsS81 w0 W g f0 f1) (m : Nat) : IsS81 w0 (W.drewN m) g f0 f1 := h
theorem IsS81.drew {w0 W : World} {g : Nat} {f0 : ByteArray} {f1 : Bool} (h : IsS81 w0 W g f0 f1) : IsS81 w0 W.drew g f0 f1 := h
theorem IsS81.at_ {w0 W : World} {g : Nat} {f0 : ByteArray} {f1 : Bool} {w' : World} {m : Nat} (hq : W.drewN m = w') (h : IsS81 w0 W g f0 f1) : IsS81 w0 w' g f0 f1 := by subst hq; exact IsS81.drewN h m
theorem IsS81.apart {w0 W : World} {g : Nat} {f0 : ByteArray} {f1 : Bool} {α : Type} {d : Kd α} {e : Nat} {base : Nat} {ok : Nat → Prop} {v : Value} {xs : List α} (h : IsS81 w0 W g f0 f1) (ho : d.R e W base ok v xs) (ht : ∀ q, q ∈ e :: d.E → q ≠ 81) : d.R e W base (fun k => ok k ∧ k ≠ g) v xs := by
  obtain ⟨hb, hg⟩ := h
  exact Kd.R_types ho hb ht
theorem IsS81.own_ne {w0 W : World} {g : Nat} {f0 : ByteArray} {f1 : Bool} {α : Type} {d : Kd α} {e : Nat} {base : Nat} {ok : Nat → Prop} {v : Value} {xs : List α} (h : IsS81 w0 W g f0 f1) (ho : d.R e W base ok v xs) (ht : e ≠ 81) : some g ≠ v.ownBlock := by
  obtain ⟨hb, hg⟩ := h
  exact Kd.R_ne ho hb ht
theorem IsS81.apartQ {w0 W : World} {g : Nat} {f0 : ByteArray} {f1 : Bool} {α : Type} {d : Kd α} {e : Nat} {base : Nat} {ok : Nat → Prop} {v : Value} {xs : List α} (h : IsS81 w0 W g f0 f1) (ho : d.Q e W base ok v xs) (ht : ∀ q, q ∈ e :: d.E → q ≠ 81) : d.Q e W base (fun k => ok k ∧ k ≠ g) v xs := by
  obtain ⟨hb, hg⟩ := h
  exact Kd.Q_types ho hb ht
theorem IsS81.own_neQ {w0 W : World} {g : Nat} {f0 : ByteArray} {f1 : Bool} {α : Type} {d : Kd α} {e : Nat} {base : Nat} {ok : Nat → Prop} {v : Value} {xs : List α} (h : IsS81 w0 W g f0 f1) (ho : d.Q e W base ok v xs) (ht : e ≠ 81) : some g ≠ v.ownBlock := by
  obtain ⟨hb, hg⟩ := h
  exact Kd.Q_ne ho hb ht
theorem IsS81.apartS {w0 W : World} {g : Nat} {f0 : ByteArray} {f1 : Bool} {α : Type} {d : Kd α} {e : Nat} {base : Nat} {ok : Nat → Prop} {v : Value} {xs : List α} (h : IsS81 w0 W g f0 f1) (ho : d.S e W base ok v xs) (ht : ∀ q, q ∈ e :: d.E → q ≠ 81) : d.S e W base (fun k => ok k ∧ k ≠ g) v xs := by
  obtain ⟨hb, hg⟩ := h
  exact Kd.S_types ho hb ht
theorem IsS81.own_neS {w0 W : World} {g : Nat} {f0 : ByteArray} {f1 : Bool} {α : Type} {d : Kd α} {e : Nat} {base : Nat} {ok : Nat → Prop} {v : Value} {xs : List α} (h : IsS81 w0 W g f0 f1) (ho : d.S e W base ok v xs) (ht : e ≠ 81) : some g ≠ v.ownBlock := by
  obtain ⟨hb, hg⟩ := h
  exact Kd.S_ne ho hb ht
theorem IsS81.lt {w0 W : World} {g : Nat} {f0 : ByteArray} {f1 : Bool} (h : IsS81 w0 W g f0 f1) : g < W.heap.size := by
  obtain ⟨hb, hg⟩ := h
  exact blk_lt hb
theorem IsS81.ge {w0 W : World} {g : Nat} {f0 : ByteArray} {f1 : Bool} (h : IsS81 w0 W g f0 f1) : w0.heap.size ≤ g := by
  obtain ⟨hb, hg⟩ := h
  exact hg
theorem IsS81.ne_blk {w0 W : World} {g : Nat} {f0 : ByteArray} {f1 : Bool} {a : Nat} {cs : Array Value} {t : TypeId} {fr : Nat × Nat} (h : IsS81 w0 W g f0 f1) (hb2 : W.heap[a]? = some (.cells cs t fr)) (ht : t ≠ 81) : g ≠ a := by
  obtain ⟨hb, hg⟩ := h
  rintro rfl
  rw [hb] at hb2
  injection hb2 with hb2
  injection hb2 with _ ht2
  exact ht ht2.symm
theorem IsS81.far {w0 W : World} {g : Nat} {f0 : ByteArray} {f1 : Bool} {p : Addr} (h : IsS81 w0 W g f0 f1) (hne : g ≠ p.block) (u : Value) : IsS81 w0 (W.setCell p u) g f0 f1 := by
  obtain ⟨hb, hg⟩ := h
  exact ⟨blk_far hb hne u, hg⟩
theorem cellS81_0 {W : World} {g : Nat} {f0 : ByteArray} {f1 : Bool} (h : W.heap[g]? = some (.cells #[.string f0, .bool f1] 81 (0, 0))) : W.cell? ⟨g, 0, none⟩ = some (.string f0) := (blk_cell h 0).trans rfl
theorem IsS81.set_0 {w0 W : World} {g : Nat} {f0 : ByteArray} {f1 : Bool} (h : IsS81 w0 W g f0 f1) (x : ByteArray) : IsS81 w0 (W.setCell ⟨g, 0, none⟩ (.string x)) g x f1 := by
  obtain ⟨hb, hg⟩ := h
  exact ⟨by simpa using blk_set hb 0 (.string x), hg⟩
theorem cellS81_1 {W : World} {g : Nat} {f0 : ByteArray} {f1 : Bool} (h : W.heap[g]? = some (.cells #[.string f0, .bool f1] 81 (0, 0))) : W.cell? ⟨g, 1, none⟩ = some (.bool f1) := (blk_cell h 1).trans rfl
theorem IsS81.set_1 {w0 W : World} {g : Nat} {f0 : ByteArray} {f1 : Bool} (h : IsS81 w0 W g f0 f1) (x : Bool) : IsS81 w0 (W.setCell ⟨g, 1, none⟩ (.bool x)) g f0 x := by
  obtain ⟨hb, hg⟩ := h
  exact ⟨by simpa using blk_set hb 1 (.bool x), hg⟩
theorem IsS81.new (w0 W : World) (f0 : ByteArray) (f1 : Bool) (hB : Below w0.heap.size w0 W) : IsS81 w0 (W.alloc (.cells #[.string f0, .bool f1] 81)) W.heap.size f0 f1 := ⟨by simpa using heap_alloc_new W _, hB.size⟩

/-! ### pack_reader_count: function 69 -/
mutual
def pack_reader_count.l0 : Nat → Int → Int → Int → Int → Int → ByteArray → Bool → Option (Int × ByteArray × Bool)
  | 0, _, _, _, _, _, _, _ => none
  | k + 1, x1, x5, x6, x13, x14, x1000, x1001 => if x14 < x13 then (if 0 ≤ x14 then (if x14 < (x1000.size : Int) then (if (wrap64 (x5 + (wrap64 ((Int.tmod (wrap64 (bt x1000 x14)) 128) * x6)))) > x1 then (pack_reader_count.j1 k x1 (wrap64 (x5 + (wrap64 ((Int.tmod (wrap64 (bt x1000 x14)) 128) * x6)))) x6 x14 (wrap64 (bt x1000 x14)) x13 x14 true x1000 x1001) else (pack_reader_count.j1 k x1 (wrap64 (x5 + (wrap64 ((Int.tmod (wrap64 (bt x1000 x14)) 128) * x6)))) x6 x14 (wrap64 (bt x1000 x14)) x13 x14 (decide (x14 > 3)) x1000 x1001)) else (none)) else (none)) else (some (0, x1000, false))
def pack_reader_count.j1 : Nat → Int → Int → Int → Int → Int → Int → Int → Bool → ByteArray → Bool → Option (Int × ByteArray × Bool)
  | 0, _, _, _, _, _, _, _, _, _, _ => none
  | k + 1, x1, x5, x6, x7, x8, x13, x14, x36, x1000, x1001 => if x36 = true then (some (0, x1000, false)) else (if x8 < 128 then (if 0 ≤ (wrap64 (x7 + 1)) then (if (wrap64 (x7 + 1)) ≤ (x1000.size : Int) then (some (x5, x1000.extract ((wrap64 (x7 + 1)) : Int).toNat x1000.size, x1001)) else (none)) else (none)) else (pack_reader_count.l0 k x1 x5 (wrap64 (x6 * 128)) x13 (wrap64 (x14 + 1)) x1000 x1001))
end
def pack_reader_count.f (k : Nat) (s0_0 : ByteArray) (s0_1 : Bool) (a1 : Int) : Option (Int × ByteArray × Bool) := pack_reader_count.l0 k a1 0 1 (s0_0.size : Int) 0 s0_0 s0_1
theorem pack_reader_count.mono_l : ∀ k, (∀ y0 y1 y2 y3 y4 y5 y6, LeO (pack_reader_count.l0 k y0 y1 y2 y3 y4 y5 y6) (pack_reader_count.l0 (k + 1) y0 y1 y2 y3 y4 y5 y6)) ∧ (∀ y0 y1 y2 y3 y4 y5 y6 y7 y8 y9, LeO (pack_reader_count.j1 k y0 y1 y2 y3 y4 y5 y6 y7 y8 y9) (pack_reader_count.j1 (k + 1) y0 y1 y2 y3 y4 y5 y6 y7 y8 y9))
  | 0 => ⟨fun _ _ _ _ _ _ _ r h => by simp [pack_reader_count.l0] at h, fun _ _ _ _ _ _ _ _ _ _ r h => by simp [pack_reader_count.j1] at h⟩
  | k + 1 => by
    obtain ⟨ih0, ih1⟩ := pack_reader_count.mono_l k
    refine ⟨?_, ?_⟩
    · intro y0 y1 y2 y3 y4 y5 y6
      unfold pack_reader_count.l0
      repeat' first
      | (with_reducible exact ih0 _ _ _ _ _ _ _)
      | (with_reducible exact ih1 _ _ _ _ _ _ _ _ _ _)
      | (with_reducible exact LeO.refl _)
      | (with_reducible exact LeO.none _)
      | (with_reducible refine LeO.ite ?_ ?_)
      | (with_reducible refine LeO.bind ?_ (fun _ => ?_))
      | exact ih0 _ _ _ _ _ _ _
      | exact ih1 _ _ _ _ _ _ _ _ _ _
      | exact LeO.none _
      | refine LeO.ite ?_ ?_
      | refine LeO.bind ?_ (fun _ => ?_)
    · intro y0 y1 y2 y3 y4 y5 y6 y7 y8 y9
      unfold pack_reader_count.j1
      repeat' first
      | (with_reducible exact ih0 _ _ _ _ _ _ _)
      | (with_reducible exact ih1 _ _ _ _ _ _ _ _ _ _)
      | (with_reducible exact LeO.refl _)
      | (with_reducible exact LeO.none _)
      | (with_reducible refine LeO.ite ?_ ?_)
      | (with_reducible refine LeO.bind ?_ (fun _ => ?_))
      | exact ih0 _ _ _ _ _ _ _
      | exact ih1 _ _ _ _ _ _ _ _ _ _
      | exact LeO.none _
      | refine LeO.ite ?_ ?_
      | refine LeO.bind ?_ (fun _ => ?_)
theorem pack_reader_count.mono : ∀ a0 a1 a2 k, LeO (pack_reader_count.f k a0 a1 a2) (pack_reader_count.f (k + 1) a0 a1 a2) := by
  intro a0 a1 a2 k
  obtain ⟨ih0, ih1⟩ := pack_reader_count.mono_l k
  unfold pack_reader_count.f
  repeat' first
      | (with_reducible exact ih0 _ _ _ _ _ _ _)
      | (with_reducible exact ih1 _ _ _ _ _ _ _ _ _ _)
      | (with_reducible exact LeO.refl _)
      | (with_reducible exact LeO.none _)
      | (with_reducible refine LeO.ite ?_ ?_)
      | (with_reducible refine LeO.bind ?_ (fun _ => ?_))
      | exact ih0 _ _ _ _ _ _ _
      | exact ih1 _ _ _ _ _ _ _ _ _ _
      | exact LeO.none _
      | refine LeO.ite ?_ ?_
      | refine LeO.bind ?_ (fun _ => ?_)
set_option maxHeartbeats 8000000 in
set_option maxRecDepth 100000 in
theorem pack_reader_count.calls (k : Nat) (g : Nat) (s0_0 : ByteArray) (s0_1 : Bool) (a1 : Int) (r1 : Int) (r2 : ByteArray) (r3 : Bool) (w0 w : World) (hI : IsS81 w0 w g s0_0 s0_1) (hB : Below w0.heap.size w0 w) (h : pack_reader_count.f k s0_0 s0_1 a1 = some (r1, r2, r3)) :
    Calls Try.prog 69 #[.pointer (some ⟨g, 0, none⟩), .int .i64 a1] w fun e w' => e = .returned (.int .i64 r1) ∧ IsS81 w0 w' g r2 r3 ∧ Below w0.heap.size w0 w' ∧ KeepBut w w' g none := by
  have HI0 := Aside0.mk hI
  have HK := Aside0.mk (KeepBut.refl w g none)
  have HL := Aside0.mk hB.size
  clear hI
  have HW0 := Aside0.mk hB.size
  have HB := Aside0.mk hB
  clear hB
  have H : (pack_reader_count.l0 k a1 0 1 (s0_0.size : Int) 0 s0_0 s0_1) = some (r1, r2, r3) := h
  clear h
  have H' := Aside0.mk H
  clear H
  obtain ⟨HGz3, hgz3⟩ := HI0.out
  have hcz3_0 := cellS81_0 HGz3
  have hcz3_1 := cellS81_1 HGz3
  have hfz3_0 := blk_frozen HGz3 0
  have hfz3_1 := blk_frozen HGz3 1
  clear HGz3 hgz3
  go_enter Try.func69, Try.ntmps69
  go_wp2
  go_loopg [5, 6, 14] k (fun kq v5 v6 v14 w' => ∃ (x5_1 : Int) (x6_1 : Int) (x14_1 : Int) (x1000_1 : ByteArray), v5 = .int .i64 x5_1 ∧ v6 = .int .i64 x6_1 ∧ v14 = .int .i64 x14_1 ∧ Aside0 (pack_reader_count.l0 kq a1 x5_1 x6_1 (s0_0.size : Int) x14_1 x1000_1 s0_1 = some (r1, r2, r3)) ∧ Aside0 (kq ≤ k) ∧ Aside0 (IsS81 w0 w' g x1000_1 s0_1) ∧ Aside0 (KeepBut w w' g none) ∧ Aside0 (Below w0.heap.size w0 w'))
  case atStart => exact ⟨(0), (1), (0), (s0_0), (by first | rfl | (simp; done) | (simp [*]; done)), (by first | rfl | (simp; done) | (simp [*]; done)), (by first | rfl | (simp; done) | (simp [*]; done)), H', ⟨Nat.le_refl _⟩, ⟨by repeat (first | (with_reducible first | exact HI0.out | apply IsS81.alloc | apply IsS81.drewN | apply IsS81.drew | apply IsS81.set_0 | apply IsS81.set_1) | exact HI0.out)⟩, ⟨by repeat (first | (with_reducible first | exact HK.out | apply KeepBut.set_ | apply keep_drewN | apply keep_drew | apply keep_alloc) | exact HK.out)⟩, ⟨by repeat (first | (with_reducible first | exact HB.out | apply below_alloc | apply pw_below_drewN | apply below_drew1 | refine below_set ?_ (IsS81.ge HI0.out)) | exact HB.out)⟩⟩
  case round =>
    clear H'
    try clear p2
    try clear hcz3_0
    try clear hcz3_1
    try clear hfz3_0
    try clear hfz3_1
    obtain ⟨x5_1, x6_1, x14_1, x1000_1, rfl, rfl, rfl, HA, HK1, HI0, HK, HB⟩ := hrel
    cases gk with
    | zero => exact absurd HA.out (by simp [pack_reader_count.l0])
    | succ k1 =>
      have H := HA.out
      clear HA
      simp only [pack_reader_count.l0] at H
      by_cases c4 : x14_1 < (s0_0.size : Int)
      · rw [if_pos c4] at H
        have c4b0 : decide (x14_1 < (s0_0.size : Int)) = true := decide_eq_true c4
        clear c4
        by_cases c5 : 0 ≤ x14_1
        · rw [if_pos c5] at H
          have c5b0 : decide (0 ≤ x14_1) = true := decide_eq_true c5
          clear c5
          by_cases c6 : x14_1 < (x1000_1.size : Int)
          · rw [if_pos c6] at H
            have c6b0 : decide (x14_1 < (x1000_1.size : Int)) = true := decide_eq_true c6
            clear c6
            have HC8 := Aside0.mk H
            clear H
            obtain ⟨HGz9, hgz9⟩ := HI0.out
            have hcz9_0 := cellS81_0 HGz9
            have hcz9_1 := cellS81_1 HGz9
            have hfz9_0 := blk_frozen HGz9 0
            have hfz9_1 := blk_frozen HGz9 1
            clear HGz9 hgz9
            have p7 : 0 ≤ (x14_1 : Int) := of_decide_eq_true (by first | (with_reducible assumption) | assumption)
            have q7 : x14_1 < (x1000_1.size : Int) := of_decide_eq_true (by first | (with_reducible assumption) | assumption)
            have hx7 := bt_at x1000_1 x14_1
            replace p7 := eq_true p7
            replace q7 := eq_true q7
            go_upto_region 7 with (fail)
            go_cut [36] (fun v36 wc => ∃ (kq : Nat) (x36_7 : Bool), v36 = .bool x36_7 ∧ Aside0 (pack_reader_count.j1 kq a1 (wrap64 (x5_1 + (wrap64 ((Int.tmod (wrap64 (bt x1000_1 x14_1)) 128) * x6_1)))) x6_1 x14_1 (wrap64 (bt x1000_1 x14_1)) (s0_0.size : Int) x14_1 x36_7 x1000_1 s0_1 = some (r1, r2, r3)) ∧ Aside0 (kq ≤ k1) ∧ Aside0 (IsS81 w0 wc g x1000_1 s0_1) ∧ Aside0 (KeepBut w wc g none) ∧ Aside0 (Below w0.heap.size w0 wc))
            case first =>
              have H := HC8.out
              clear HC8
              by_cases c10 : (wrap64 (x5_1 + (wrap64 ((Int.tmod (wrap64 (bt x1000_1 x14_1)) 128) * x6_1)))) > a1
              · rw [if_pos c10] at H
                have c10b0 : decide (a1 < (wrap64 (x5_1 + (wrap64 ((Int.tmod (wrap64 (bt x1000_1 x14_1)) 128) * x6_1))))) = true := decide_eq_true c10
                clear c10
                (first | rw [c10b0] | (simp only [i64_w, i32_w]; rw [c10b0]) | skip)
                have H' := Aside0.mk H
                clear H
                go_wp2
                go_meet
                case rel => exact ⟨_, (true), (by first | rfl | (simp; done) | (simp [*]; done)), H', ⟨by have := HK1.out; first | omega | exact Nat.le_refl _⟩, ⟨by repeat (first | (with_reducible first | exact HI0.out | apply IsS81.alloc | apply IsS81.drewN | apply IsS81.drew | apply IsS81.set_0 | apply IsS81.set_1) | exact HI0.out)⟩, ⟨by repeat (first | (with_reducible first | exact HK.out | apply KeepBut.set_ | apply keep_drewN | apply keep_drew | apply keep_alloc) | exact HK.out)⟩, ⟨by repeat (first | (with_reducible first | exact HB.out | apply below_alloc | apply pw_below_drewN | apply below_drew1 | refine below_set ?_ (IsS81.ge HI0.out)) | exact HB.out)⟩⟩
              · rw [if_neg c10] at H
                have c10b0 : decide (a1 < (wrap64 (x5_1 + (wrap64 ((Int.tmod (wrap64 (bt x1000_1 x14_1)) 128) * x6_1))))) = false := decide_eq_false c10
                clear c10
                (first | rw [c10b0] | (simp only [i64_w, i32_w]; rw [c10b0]) | skip)
                have H' := Aside0.mk H
                clear H
                go_wp2
                go_meet
                case rel => exact ⟨_, (decide (x14_1 > 3)), (by first | rfl | (simp; done) | (simp [*]; done)), H', ⟨by have := HK1.out; first | omega | exact Nat.le_refl _⟩, ⟨by repeat (first | (with_reducible first | exact HI0.out | apply IsS81.alloc | apply IsS81.drewN | apply IsS81.drew | apply IsS81.set_0 | apply IsS81.set_1) | exact HI0.out)⟩, ⟨by repeat (first | (with_reducible first | exact HK.out | apply KeepBut.set_ | apply keep_drewN | apply keep_drew | apply keep_alloc) | exact HK.out)⟩, ⟨by repeat (first | (with_reducible first | exact HB.out | apply below_alloc | apply pw_below_drewN | apply below_drew1 | refine below_set ?_ (IsS81.ge HI0.out)) | exact HB.out)⟩⟩
            case rest =>
              clear HC8
              try clear c1
              try clear p2
              try clear c4
              try clear c4b0
              try clear c5
              try clear c5b0
              try clear c6
              try clear c6b0
              try clear p6
              try clear p7
              try clear q7
              try clear hx7
              try clear c10
              try clear c10b0
              try clear hcz3_0
              try clear hcz3_1
              try clear hcz9_0
              try clear hcz9_1
              try clear hfz3_0
              try clear hfz3_1
              try clear hfz9_0
              try clear hfz9_1
              try clear p2
              try clear p7
              try clear q7
              obtain ⟨kq, x36_7, rfl, HA, HJ7, HI0, HK, HB⟩ := hcut
              cases kq with
              | zero => exact absurd HA.out (by simp [pack_reader_count.j1])
              | succ kj7 =>
                have H := HA.out
                clear HA
                simp only [pack_reader_count.j1] at H
                by_cases c11 : x36_7 = true
                · subst c11
                  have H1 : (some (0, x1000_1, false)) = some (r1, r2, r3) := by rw [if_pos rfl] at H; exact H
                  clear H
                  have H := H1
                  clear H1
                  simp only [Option.some.injEq, Prod.mk.injEq] at H
                  obtain ⟨rfl, rfl, rfl⟩ := H
                  obtain ⟨HGz12, hgz12⟩ := HI0.out
                  have hcz12_0 := cellS81_0 HGz12
                  have hcz12_1 := cellS81_1 HGz12
                  have hfz12_0 := blk_frozen HGz12 0
                  have hfz12_1 := blk_frozen HGz12 1
                  clear HGz12 hgz12
                  go_wp2
                  go_ret
                  exact ⟨by first | rfl | (simp [errW_none, errW_some] <;> rfl) | (simp [*, errW_none, errW_some] <;> rfl), by repeat (first | (with_reducible first | exact HI0.out | apply IsS81.alloc | apply IsS81.drewN | apply IsS81.drew | apply IsS81.set_0 | apply IsS81.set_1) | exact HI0.out), by repeat (first | (with_reducible first | exact HB.out | apply below_alloc | apply pw_below_drewN | apply below_drew1 | refine below_set ?_ (IsS81.ge HI0.out)) | exact HB.out), by repeat (first | (with_reducible first | exact HK.out | apply KeepBut.set_ | apply keep_drewN | apply keep_drew | apply keep_alloc) | exact HK.out)⟩
                · replace c11 := Bool.eq_false_iff.mpr c11
                  subst c11
                  have H1 : (if (wrap64 (bt x1000_1 x14_1)) < 128 then (if 0 ≤ (wrap64 (x14_1 + 1)) then (if (wrap64 (x14_1 + 1)) ≤ (x1000_1.size : Int) then (some ((wrap64 (x5_1 + (wrap64 ((Int.tmod (wrap64 (bt x1000_1 x14_1)) 128) * x6_1)))), x1000_1.extract ((wrap64 (x14_1 + 1)) : Int).toNat x1000_1.size, s0_1)) else (none)) else (none)) else (pack_reader_count.l0 kj7 a1 (wrap64 (x5_1 + (wrap64 ((Int.tmod (wrap64 (bt x1000_1 x14_1)) 128) * x6_1)))) (wrap64 (x6_1 * 128)) (s0_0.size : Int) (wrap64 (x14_1 + 1)) x1000_1 s0_1)) = some (r1, r2, r3) := by rw [if_neg (show ¬ (false = true) by decide)] at H; exact H
                  clear H
                  have H := H1
                  clear H1
                  by_cases c13 : (wrap64 (bt x1000_1 x14_1)) < 128
                  · rw [if_pos c13] at H
                    have c13b0 : decide ((wrap64 (bt x1000_1 x14_1)) < 128) = true := decide_eq_true c13
                    clear c13
                    obtain ⟨ji14, hji14⟩ : ∃ j_ : Int, (wrap64 (x14_1 + 1)) = j_ := ⟨_, rfl⟩
                    replace H : (if 0 ≤ (ji14) then (if (ji14) ≤ (x1000_1.size : Int) then (some ((wrap64 (x5_1 + (wrap64 ((Int.tmod (wrap64 (bt x1000_1 x14_1)) 128) * x6_1)))), x1000_1.extract ((ji14) : Int).toNat x1000_1.size, s0_1)) else (none)) else (none)) = some (r1, r2, r3) := by first | (rw [hji14] at H; exact H) | (simp only [hji14] at H ⊢; exact H)
                    have hji14w : (IntKind.i64.wrap (x14_1 + 1)) = ji14 := (i64_w _).trans hji14
                    by_cases c15 : 0 ≤ (ji14)
                    · rw [if_pos c15] at H
                      have c15b0 := eq_true c15
                      have c15b1 : decide (0 ≤ (ji14)) = true := decide_eq_true c15
                      clear c15
                      by_cases c16 : (ji14) ≤ (x1000_1.size : Int)
                      · rw [if_pos c16] at H
                        have c16b0 := eq_true c16
                        have c16b1 : decide ((ji14) ≤ (x1000_1.size : Int)) = true := decide_eq_true c16
                        clear c16
                        simp only [Option.some.injEq, Prod.mk.injEq] at H
                        obtain ⟨rfl, rfl, rfl⟩ := H
                        obtain ⟨HGz17, hgz17⟩ := HI0.out
                        have hcz17_0 := cellS81_0 HGz17
                        have hcz17_1 := cellS81_1 HGz17
                        have hfz17_0 := blk_frozen HGz17 0
                        have hfz17_1 := blk_frozen HGz17 1
                        clear HGz17 hgz17
                        go_wp2
                        go_ret
                        exact ⟨by first | rfl | (simp [errW_none, errW_some] <;> rfl) | (simp only [← hji14]; first | rfl | (simp [errW_none, errW_some] <;> rfl)) | (simp [*, errW_none, errW_some] <;> rfl), by repeat (first | (with_reducible first | exact HI0.out | apply IsS81.alloc | apply IsS81.drewN | apply IsS81.drew | apply IsS81.set_0 | apply IsS81.set_1) | exact HI0.out), by repeat (first | (with_reducible first | exact HB.out | apply below_alloc | apply pw_below_drewN | apply below_drew1 | refine below_set ?_ (IsS81.ge HI0.out)) | exact HB.out), by repeat (first | (with_reducible first | exact HK.out | apply KeepBut.set_ | apply keep_drewN | apply keep_drew | apply keep_alloc) | exact HK.out)⟩
                      · rw [if_neg c16] at H
                        exact absurd H (by simp)
                    · rw [if_neg c15] at H
                      exact absurd H (by simp)
                  · rw [if_neg c13] at H
                    have c13b0 : decide ((wrap64 (bt x1000_1 x14_1)) < 128) = false := decide_eq_false c13
                    clear c13
                    have H' := Aside0.mk H
                    clear H
                    go_wp2
                    go_roundg kj7
                    case measure => have := HK1.out; have := HJ7.out; omega
                    case rel => exact ⟨((wrap64 (x5_1 + (wrap64 ((Int.tmod (wrap64 (bt x1000_1 x14_1)) 128) * x6_1))))), (wrap64 (x6_1 * 128)), (wrap64 (x14_1 + 1)), (x1000_1), (by first | rfl | (simp; done) | (simp [*]; done)), (by first | rfl | (simp; done) | (simp [*]; done)), (by first | rfl | (simp; done) | (simp [*]; done)), H', ⟨by have := HK1.out; have := HJ7.out; omega⟩, ⟨by repeat (first | (with_reducible first | exact HI0.out | apply IsS81.alloc | apply IsS81.drewN | apply IsS81.drew | apply IsS81.set_0 | apply IsS81.set_1) | exact HI0.out)⟩, ⟨by repeat (first | (with_reducible first | exact HK.out | apply KeepBut.set_ | apply keep_drewN | apply keep_drew | apply keep_alloc) | exact HK.out)⟩, ⟨by repeat (first | (with_reducible first | exact HB.out | apply below_alloc | apply pw_below_drewN | apply below_drew1 | refine below_set ?_ (IsS81.ge HI0.out)) | exact HB.out)⟩⟩
          · rw [if_neg c6] at H
            exact absurd H (by simp)
        · rw [if_neg c5] at H
          exact absurd H (by simp)
      · rw [if_neg c4] at H
        have c4b0 : decide (x14_1 < (s0_0.size : Int)) = false := decide_eq_false c4
        clear c4
        simp only [Option.some.injEq, Prod.mk.injEq] at H
        obtain ⟨rfl, rfl, rfl⟩ := H
        obtain ⟨HGz18, hgz18⟩ := HI0.out
        have hcz18_0 := cellS81_0 HGz18
        have hcz18_1 := cellS81_1 HGz18
        have hfz18_0 := blk_frozen HGz18 0
        have hfz18_1 := blk_frozen HGz18 1
        clear HGz18 hgz18
        go_wp2
        go_ret
        exact ⟨by first | rfl | (simp [errW_none, errW_some] <;> rfl) | (simp [*, errW_none, errW_some] <;> rfl), by repeat (first | (with_reducible first | exact HI0.out | apply IsS81.alloc | apply IsS81.drewN | apply IsS81.drew | apply IsS81.set_0 | apply IsS81.set_1) | exact HI0.out), by repeat (first | (with_reducible first | exact HB.out | apply below_alloc | apply pw_below_drewN | apply below_drew1 | refine below_set ?_ (IsS81.ge HI0.out)) | exact HB.out), by repeat (first | (with_reducible first | exact HK.out | apply KeepBut.set_ | apply keep_drewN | apply keep_drew | apply keep_alloc) | exact HK.out)⟩

theorem bytes_all (s : ByteArray) : s.extract 0 s.size = s := by
  simp
/-! ### pack_reader_take: function 70 -/
def pack_reader_take.f (s0_0 : ByteArray) (s0_1 : Bool) (a1 : Int) : Option (ByteArray × ByteArray × Bool) := if a1 > (s0_0.size : Int) then (if 0 ≤ 0 then (if 0 ≤ (s0_0.size : Int) then (some (s0_0.extract 0 0, s0_0.extract 0 s0_0.size, false)) else (none)) else (none)) else (if 0 ≤ a1 then (if a1 ≤ (s0_0.size : Int) then (some (s0_0.extract 0 (a1 : Int).toNat, s0_0.extract (a1 : Int).toNat s0_0.size, s0_1)) else (none)) else (none))
set_option maxHeartbeats 8000000 in
set_option maxRecDepth 100000 in
theorem pack_reader_take.calls (g : Nat) (s0_0 : ByteArray) (s0_1 : Bool) (a1 : Int) (r1 : ByteArray) (r2 : ByteArray) (r3 : Bool) (w0 w : World) (hI : IsS81 w0 w g s0_0 s0_1) (hB : Below w0.heap.size w0 w) (h : pack_reader_take.f s0_0 s0_1 a1 = some (r1, r2, r3)) :
    Calls Try.prog 70 #[.pointer (some ⟨g, 0, none⟩), .int .i64 a1] w fun e w' => e = .returned (.string r1) ∧ IsS81 w0 w' g r2 r3 ∧ Below w0.heap.size w0 w' ∧ KeepBut w w' g none := by
  have HI0 := Aside0.mk hI
  have HK := Aside0.mk (KeepBut.refl w g none)
  have HL := Aside0.mk hB.size
  clear hI
  have HW0 := Aside0.mk hB.size
  have HB := Aside0.mk hB
  clear hB
  have H : (if a1 > (s0_0.size : Int) then (if 0 ≤ 0 then (if 0 ≤ (s0_0.size : Int) then (some (s0_0.extract 0 0, s0_0.extract 0 s0_0.size, false)) else (none)) else (none)) else (if 0 ≤ a1 then (if a1 ≤ (s0_0.size : Int) then (some (s0_0.extract 0 (a1 : Int).toNat, s0_0.extract (a1 : Int).toNat s0_0.size, s0_1)) else (none)) else (none))) = some (r1, r2, r3) := h
  clear h
  by_cases c3 : a1 > (s0_0.size : Int)
  · rw [if_pos c3] at H
    have c3b0 : decide ((s0_0.size : Int) < a1) = true := decide_eq_true c3
    clear c3
    by_cases c4 : 0 ≤ 0
    · rw [if_pos c4] at H
      have c4b0 := eq_true c4
      have c4b1 : decide (0 ≤ 0) = true := decide_eq_true c4
      clear c4
      by_cases c5 : 0 ≤ (s0_0.size : Int)
      · rw [if_pos c5] at H
        have c5b0 := eq_true c5
        have c5b1 : decide (0 ≤ (s0_0.size : Int)) = true := decide_eq_true c5
        clear c5
        have c6b0 := eq_true (of_decide_eq_true (by first | (with_reducible assumption) | assumption) : 0 ≤ (s0_0.size : Int))
        simp only [Option.some.injEq, Prod.mk.injEq] at H
        obtain ⟨rfl, rfl, rfl⟩ := H
        obtain ⟨HGz7, hgz7⟩ := HI0.out
        have hcz7_0 := cellS81_0 HGz7
        have hcz7_1 := cellS81_1 HGz7
        have hfz7_0 := blk_frozen HGz7 0
        have hfz7_1 := blk_frozen HGz7 1
        clear HGz7 hgz7
        go_enter Try.func70, Try.ntmps70
        go_wp2
        go_ret
        exact ⟨by first | rfl | (simp [errW_none, errW_some] <;> rfl) | (simp [*, errW_none, errW_some] <;> rfl), (by rw [show s0_0.extract 0 s0_0.size = s0_0 from bytes_all s0_0]; exact (HI0.out.set_1 false).set_0 s0_0), by repeat (first | (with_reducible first | exact HB.out | apply below_alloc | apply pw_below_drewN | apply below_drew1 | refine below_set ?_ (IsS81.ge HI0.out)) | exact HB.out), by repeat (first | (with_reducible first | exact HK.out | apply KeepBut.set_ | apply keep_drewN | apply keep_drew | apply keep_alloc) | exact HK.out)⟩
      · rw [if_neg c5] at H
        exact absurd H (by simp)
    · rw [if_neg c4] at H
      exact absurd H (by simp)
  · rw [if_neg c3] at H
    have c3b0 : decide ((s0_0.size : Int) < a1) = false := decide_eq_false c3
    clear c3
    by_cases c8 : 0 ≤ a1
    · rw [if_pos c8] at H
      have c8b0 := eq_true c8
      have c8b1 : decide (0 ≤ a1) = true := decide_eq_true c8
      clear c8
      by_cases c9 : a1 ≤ (s0_0.size : Int)
      · rw [if_pos c9] at H
        have c9b0 := eq_true c9
        have c9b1 : decide (a1 ≤ (s0_0.size : Int)) = true := decide_eq_true c9
        clear c9
        have c10b0 := eq_true (of_decide_eq_true (by first | (with_reducible assumption) | assumption) : 0 ≤ a1)
        have c11b0 := eq_true (of_decide_eq_true (by first | (with_reducible assumption) | assumption) : a1 ≤ (s0_0.size : Int))
        simp only [Option.some.injEq, Prod.mk.injEq] at H
        obtain ⟨rfl, rfl, rfl⟩ := H
        obtain ⟨HGz12, hgz12⟩ := HI0.out
        have hcz12_0 := cellS81_0 HGz12
        have hcz12_1 := cellS81_1 HGz12
        have hfz12_0 := blk_frozen HGz12 0
        have hfz12_1 := blk_frozen HGz12 1
        clear HGz12 hgz12
        go_enter Try.func70, Try.ntmps70
        go_wp2
        go_ret
        exact ⟨by first | rfl | (simp [errW_none, errW_some] <;> rfl) | (simp [*, errW_none, errW_some] <;> rfl), by repeat (first | (with_reducible first | exact HI0.out | apply IsS81.alloc | apply IsS81.drewN | apply IsS81.drew | apply IsS81.set_0 | apply IsS81.set_1) | exact HI0.out), by repeat (first | (with_reducible first | exact HB.out | apply below_alloc | apply pw_below_drewN | apply below_drew1 | refine below_set ?_ (IsS81.ge HI0.out)) | exact HB.out), by repeat (first | (with_reducible first | exact HK.out | apply KeepBut.set_ | apply keep_drewN | apply keep_drew | apply keep_alloc) | exact HK.out)⟩
      · rw [if_neg c9] at H
        exact absurd H (by simp)
    · rw [if_neg c8] at H
      exact absurd H (by simp)

end Go.Proofs.Ytgbkoeinfhlpoaa.F

namespace Go.Proofs.Ytgbkoeinfhlpoaa.F
open Go.RowKit Go.Proofs.YtgbkoeinfhlpoaaW.PrintWords Go.Proofs.YtgbkoeinfhlpoaaW.PrintLast Go.Proofs.YtgbkoeinfhlpoaaW.PrintMore
set_option linter.unusedVariables false
set_option linter.unusedSimpArgs false

def toB (l : List UInt8) : ByteArray := ⟨l.toArray⟩
theorem toB_list (l : List UInt8) : (toB l).data.toList = l := rfl
theorem toB_size (l : List UInt8) : (toB l).size = l.length := by rw [Lib.size_eq]; rfl
theorem toB_of (s : ByteArray) : toB s.data.toList = s := rfl
theorem toB_drop (l : List UInt8) (i : Nat) : (toB l).extract i (toB l).size = toB (l.drop i) := by
  apply bytes_ext
  rw [Lib.toList_data, Lib.toList_data, drop_list]
  rfl
theorem toB_take (l : List UInt8) (i : Nat) : (toB l).extract 0 i = toB (l.take i) := by
  apply bytes_ext
  rw [Lib.toList_data, Lib.toList_data, Lib.extract_data]
  simp [toB]

theorem w64 (x : Nat) (h : x < 4611686018427387904) : wrap64 (x : Int) = (x : Int) := by
  unfold wrap64; omega
theorem tmod128 (c : Nat) : Int.tmod (c : Int) 128 = ((c % 128 : Nat) : Int) := by rw [Int.tmod_eq_emod_of_nonneg (by omega)]; omega
theorem step_val (c n p : Nat) (hc : c < 256) (hn : n ≤ 10000) (hp : p ≤ 2097152) : wrap64 ((n : Int) + wrap64 (Int.tmod (c : Int) 128 * (p : Int))) = ((n + c % 128 * p : Nat) : Int) := by
  have hbd : c % 128 * p ≤ 127 * 2097152 := Nat.mul_le_mul (by omega) hp
  rw [tmod128, ← Int.natCast_mul]
  generalize c % 128 * p = q at hbd ⊢
  rw [w64 q (by omega), ← Int.natCast_add, w64 (n + q) (by omega)]
theorem wrap_succ (i : Nat) (h : i ≤ 140737488351232) : wrap64 ((i : Int) + 1) = ((i + 1 : Nat) : Int) := by unfold wrap64; omega
theorem wrap_m128 (p : Nat) (h : p ≤ 2097152) : wrap64 ((p : Int) * 128) = ((p * 128 : Nat) : Int) := by unfold wrap64; omega
/-- The power at a place. -/
def PowAt (i p : Nat) : Prop := match i with | 0 => p = 1 | 1 => p = 128 | 2 => p = 16384 | 3 => p = 2097152 | _ => True
theorem PowAt.le {i p : Nat} (h : PowAt i p) (hi : i < 4) : p ≤ 2097152 := by
  rcases i with _ | _ | _ | _ | i
  · simp [PowAt] at h; omega
  · simp [PowAt] at h; omega
  · simp [PowAt] at h; omega
  · simp [PowAt] at h; omega
  · omega
theorem PowAt.next {i p : Nat} (h : PowAt i p) (hi : i < 4) : PowAt (i + 1) (p * 128) := by
  rcases i with _ | _ | _ | _ | i
  · simp [PowAt] at *; omega
  · simp [PowAt] at *; omega
  · simp [PowAt] at *; omega
  · simp [PowAt]
  · omega
theorem count_l0 (most : Nat) (hmost : most ≤ 10000) (s : List UInt8) (ok : Bool) (hs : s.length ≤ 140737488351232) : ∀ (d i k n p : Nat), 4 - i = d → i ≤ 4 → 2 * d + 3 ≤ k → n ≤ most → PowAt i p → i ≤ s.length →
    pack_reader_count.l0 k (most : Int) (n : Int) (p : Int) (s.length : Int) (i : Int) (toB s) ok =
      some (match cntRd most (4 - i) n p (s.drop i) with | some (v, t) => ((v : Int), toB t, ok) | none => (0, toB s, false)) := by
  intro d
  induction d with
  | zero =>
    intro i k n p hd hi hk hn hp hil
    obtain rfl : i = 4 := by omega
    obtain ⟨k, rfl⟩ : ∃ m, k = m + 1 := ⟨k - 1, by omega⟩
    obtain ⟨k, rfl⟩ : ∃ m, k = m + 1 := ⟨k - 1, by omega⟩
    rw [show (4 - 4 : Nat) = 0 from rfl]
    simp only [cntRd, pack_reader_count.l0]
    by_cases h1 : ((4 : Nat) : Int) < (s.length : Int)
    · rw [if_pos h1, if_pos (by omega), if_pos (by rw [toB_size]; exact h1)]
      split
      · simp only [pack_reader_count.j1, if_true]
      · rw [decide_eq_true (by omega)]
        simp only [pack_reader_count.j1, if_true]
    · rw [if_neg h1]
  | succ d ih =>
    intro i k n p hd hi hk hn hp hil
    obtain ⟨k, rfl⟩ : ∃ m, k = m + 1 := ⟨k - 1, by omega⟩
    obtain ⟨k, rfl⟩ : ∃ m, k = m + 1 := ⟨k - 1, by omega⟩
    have hfd : 4 - i = (3 - i) + 1 := by omega
    rw [hfd]
    have HP4 := Aside0.mk (hp.le (by omega))
    have HP := Aside0.mk (hp.next (by omega))
    have HS := Aside0.mk (show i ≤ 140737488351232 by omega)
    have hk5 : 2 * d + 3 ≤ k := by omega
    have hd5 : 4 - (i + 1) = d := by omega
    have hi5 : i + 1 ≤ 4 := by omega
    have hi4 : i < 4 := by omega
    clear hp hs hk hd hi hil
    unfold pack_reader_count.l0
    by_cases h1 : i < s.length
    · have a1 : (i : Int) < (s.length : Int) := Int.ofNat_lt.mpr h1
      have a2 : (0 : Int) ≤ (i : Int) := Int.natCast_nonneg i
      have a3 : (i : Int) < ((toB s).size : Int) := by rw [toB_size]; exact a1
      rw [if_pos a1, if_pos a2, if_pos a3]
      have hd1 : s.drop i = s[i] :: s.drop (i + 1) := List.drop_eq_getElem_cons h1
      have hb : bt (toB s) (i : Int) = (s[i].toNat : Int) := bt_get (toB s) i _ (by rw [toB_list]; exact List.getElem?_eq_getElem h1)
      have hc := UInt8.toNat_lt s[i]
      generalize hcc : s[i].toNat = c at hb hc
      have hw1 : wrap64 (bt (toB s) (i : Int)) = (c : Int) := by rw [hb]; exact w64 c (by omega)
      have hw2 : wrap64 ((n : Int) + wrap64 (Int.tmod (wrap64 (bt (toB s) (i : Int))) 128 * (p : Int))) = ((n + c % 128 * p : Nat) : Int) := by
        rw [hw1]
        exact step_val c n p hc (Nat.le_trans hn hmost) HP4.out
      rw [hw2, hw1, hd1]
      have hrd : cntRd most (3 - i + 1) n p (s[i] :: s.drop (i + 1)) = if most < n + c % 128 * p then none else if c < 128 then some (n + c % 128 * p, s.drop (i + 1)) else cntRd most (3 - i) (n + c % 128 * p) (p * 128) (s.drop (i + 1)) := by
        rw [← hcc]; rfl
      rw [hrd]
      generalize n + c % 128 * p = q
      by_cases h2 : most < q
      · rw [if_pos (Int.ofNat_lt.mpr h2), if_pos h2]
        unfold pack_reader_count.j1
        rw [if_pos rfl]
      · have h2' : ¬ ((q : Int) > (most : Int)) := by omega
        have h3' : decide ((i : Int) > 3) = false := decide_eq_false (by omega)
        rw [if_neg h2', if_neg h2, h3']
        unfold pack_reader_count.j1
        rw [if_neg Bool.false_ne_true, wrap_succ i HS.out]
        by_cases h3 : c < 128
        · have b1 : (c : Int) < 128 := by omega
          have b2 : (0 : Int) ≤ ((i + 1 : Nat) : Int) := Int.natCast_nonneg _
          have b3 : ((i + 1 : Nat) : Int) ≤ ((toB s).size : Int) := by rw [toB_size]; exact Int.ofNat_le.mpr h1
          rw [if_pos b1, if_pos b2, if_pos b3, if_pos h3, Int.toNat_natCast, toB_drop]
        · have b1 : ¬ ((c : Int) < 128) := by omega
          rw [if_neg b1, if_neg h3, wrap_m128 p HP4.out]
          have := ih (i + 1) k q (p * 128) hd5 hi5 hk5 (Nat.le_of_not_lt h2) HP.out h1
          rw [this]
          have e : 4 - (i + 1) = 3 - i := by omega
          rw [e]
    · have a1 : ¬ ((i : Int) < (s.length : Int)) := by omega
      rw [if_neg a1]
      have : s.drop i = [] := List.drop_eq_nil_iff.mpr (by omega)
      rw [this]
      rfl

theorem count_f (most : Nat) (hmost : most ≤ 10000) (r : Rd) (hs : r.s.length ≤ 140737488351232) :
    pack_reader_count.f 20 (toB r.s) r.ok (most : Int) = some (((cntR most r).1 : Int), toB (cntR most r).2.s, (cntR most r).2.ok) := by
  unfold pack_reader_count.f
  rw [toB_size]
  have := count_l0 most hmost r.s r.ok hs 4 0 20 0 1 rfl (by omega) (by omega) (by omega) (by simp [PowAt]) (by omega)
  have e : ((0 : Nat) : Int) = 0 := rfl
  have e1 : ((1 : Nat) : Int) = 1 := rfl
  rw [e, e1] at this
  rw [this]
  unfold cntR
  rw [List.drop_zero]
  cases cntRd most 4 0 1 r.s with
  | none => rfl
  | some v => rfl
theorem take_f (n : Nat) (r : Rd) : pack_reader_take.f (toB r.s) r.ok (n : Int) = some (toB (takeR n r).1, toB (takeR n r).2.s, (takeR n r).2.ok) := by
  unfold pack_reader_take.f takeR
  rw [toB_size]
  by_cases h : r.s.length < n
  · rw [if_pos (by omega), if_pos h, if_pos (by omega), if_pos (by omega)]
    simp only
    rw [toB_take, ← toB_size, bytes_all]
    simp
  · rw [if_neg (by omega), if_neg h, if_pos (by omega), if_pos (by omega)]
    simp only [Int.toNat_natCast]
    rw [toB_take, ← toB_size, toB_drop]

theorem rcount_calls (g : Nat) (r : Rd) (most : Int) (h0 : 0 ≤ most) (hm : most ≤ 10000) (hs : r.s.length ≤ 140737488351232) (w0 w : World) (hI : IsS81 w0 w g (toB r.s) r.ok) (hB : Below w0.heap.size w0 w) :
    Calls Try.prog 69 #[.pointer (some ⟨g, 0, none⟩), .int .i64 most] w fun e w' => e = .returned (.int .i64 (cntR most.toNat r).1) ∧ IsS81 w0 w' g (toB (cntR most.toNat r).2.s) (cntR most.toNat r).2.ok ∧ Below w0.heap.size w0 w' ∧ KeepBut w w' g none := by
  obtain ⟨m, rfl⟩ := Int.eq_ofNat_of_zero_le h0
  exact pack_reader_count.calls 20 g _ _ _ _ _ _ w0 w hI hB (by rw [Int.toNat_natCast]; exact count_f m (by omega) r hs)
theorem rtake_calls (g : Nat) (r : Rd) (n : Int) (h0 : 0 ≤ n) (w0 w : World) (hI : IsS81 w0 w g (toB r.s) r.ok) (hB : Below w0.heap.size w0 w) :
    Calls Try.prog 70 #[.pointer (some ⟨g, 0, none⟩), .int .i64 n] w fun e w' => e = .returned (.string (toB (takeR n.toNat r).1)) ∧ IsS81 w0 w' g (toB (takeR n.toNat r).2.s) (takeR n.toNat r).2.ok ∧ Below w0.heap.size w0 w' ∧ KeepBut w w' g none := by
  obtain ⟨m, rfl⟩ := Int.eq_ofNat_of_zero_le h0
  exact pack_reader_take.calls g _ _ _ _ _ _ w0 w hI hB (by rw [Int.toNat_natCast]; exact take_f m r)

/-! Bounds. -/
theorem cntRd_bound (most : Nat) : ∀ (k n p : Nat) (l : List UInt8) (v : Nat) (t : List UInt8), cntRd most k n p l = some (v, t) → v ≤ most ∧ t.length ≤ l.length
  | 0, _, _, _, _, _, h => by simp [cntRd] at h
  | k + 1, _, _, [], _, _, h => by simp [cntRd] at h
  | k + 1, n, p, c :: l, v, t, h => by
    simp only [cntRd] at h
    by_cases h1 : most < n + c.toNat % 128 * p
    · rw [if_pos h1] at h; cases h
    · rw [if_neg h1] at h
      by_cases h2 : c.toNat < 128
      · rw [if_pos h2] at h
        cases h
        exact ⟨by omega, by simp⟩
      · rw [if_neg h2] at h
        have := cntRd_bound most k _ _ l v t h
        exact ⟨this.1, by simp; omega⟩
theorem cntR_bound (most : Nat) (r : Rd) : (cntR most r).1 ≤ most ∧ (cntR most r).2.s.length ≤ r.s.length := by
  unfold cntR
  cases h : cntRd most 4 0 1 r.s with
  | none => simp
  | some v => exact cntRd_bound most 4 0 1 r.s v.1 v.2 h
theorem takeR_bound (n : Nat) (r : Rd) : (takeR n r).1.length ≤ n ∧ (takeR n r).2.s.length ≤ r.s.length ∧ ((takeR n r).2.ok = true → (takeR n r).1.length = n) := by
  unfold takeR
  split
  · simp
  · simp only [List.length_take, List.length_drop]
    omega
end Go.Proofs.Ytgbkoeinfhlpoaa.F

namespace Go.Proofs.Ytgbkoeinfhlpoaa.F
open Go.RowKit Go.Proofs.YtgbkoeinfhlpoaaW.PrintWords Go.Proofs.YtgbkoeinfhlpoaaW.PrintLast Go.Proofs.YtgbkoeinfhlpoaaW.PrintMore
set_option linter.unusedVariables false
set_option linter.unusedSimpArgs false

def flOf (f : S33) : Fl := (f.f0.data.toList, f.f1.data.toList)
def sOf (f : Fl) : S33 := ⟨toB f.1, toB f.2⟩
theorem sOf_flOf (f : S33) : sOf (flOf f) = f := by cases f; rfl
theorem flOf_sOf (f : Fl) : flOf (sOf f) = f := by cases f; rfl
theorem map_sOf_flOf (l : List S33) : (l.map flOf).map sOf = l := by
  rw [List.map_map]
  conv => rhs; rw [← List.map_id l]
  exact List.map_congr_left (fun f _ => sOf_flOf f)
theorem map_flOf_sOf (l : List Fl) : (l.map sOf).map flOf = l := by
  rw [List.map_map]
  conv => rhs; rw [← List.map_id l]
  exact List.map_congr_left (fun f _ => flOf_sOf f)
theorem flOf_p (f : S33) : (flOf f).1 = f.p := by
  unfold flOf S33.p
  rw [Lib.toList_data]

def packE (l : List S33) : ByteArray × Int := if checkE l = 0 then (toB (packB (l.map flOf)), 0) else (⟨#[]⟩, checkE l)

theorem check_files : ∀ {l : List S33}, checkE l = 0 → ∀ f ∈ l, fileE f = 0 := by
  intro l h
  have h1 : firstE l = 0 := by
    unfold checkE at h
    by_cases h1 : firstE l = 0
    · exact h1
    · rw [if_neg h1] at h; exact absurd h h1
  clear h
  induction l with
  | nil => intro f hf; cases hf
  | cons x t ih =>
    unfold firstE at h1
    by_cases hx : fileE x = 0
    · rw [if_pos hx] at h1
      intro f hf
      rcases List.mem_cons.mp hf with rfl | hf
      · exact hx
      · exact ih h1 f hf
    · rw [if_neg hx] at h1; exact absurd h1 hx
theorem check_full {l : List S33} (h : checkE l = 0) : l.length ≤ 64 ∧ sizeF l ≤ 16384 := by
  unfold checkE at h
  by_cases h1 : firstE l = 0
  · rw [if_pos h1] at h
    by_cases h2 : risingB l = true
    · rw [if_pos h2] at h
      by_cases h3 : someWay l = true
      · rw [if_pos h3] at h; cases h
      · rw [if_neg h3] at h
        unfold fullE at h
        by_cases h4 : l.length ≤ 64 ∧ sizeF l ≤ 16384
        · exact h4
        · rw [if_neg h4] at h; cases h
    · rw [if_neg h2] at h; cases h
  · rw [if_neg h1] at h; exact absurd h h1
theorem check_short {l : List S33} (h : checkE l = 0) : ∀ f ∈ l.map flOf, f.1.length ≤ 48 ∧ f.2.length ≤ 4096 := by
  intro f hf
  obtain ⟨x, hx, rfl⟩ := List.mem_map.mp hf
  have h1 := check_files h x hx
  have h2 := path_short h1
  have h3 := data_short h1
  rw [Lib.size_eq] at h2 h3
  exact ⟨h2, h3⟩

theorem str_val (l : List Int) (a : ByteArray) (hl : l.length ≤ 1000000000) (ha : a.size ≤ 100000) : code_Str.f l a = some (l ++ ints (cntB a.size) ++ bytesOf a) := by
  have h1 : ¬ ((a.size : Int) > 2147483647) := by omega
  have hw : IntKind.u64.wrap (a.size : Int) = a.size := by rw [IntKind.wrap_u64]; omega
  unfold code_Str.f
  rw [if_neg h1, hw]
  unfold code_lay.f
  rw [if_pos ⟨by omega, by omega, hl, by omega⟩, Int.toNat_natCast]
  rfl
theorem runs_val (a : ByteArray) (ha : a.size ≤ 100000) : pack_Runs.f a = some (toB (runsB a.data.toList)) := by
  unfold pack_Runs.f
  rw [if_pos ha]
  rfl
theorem count_at (k : Nat) (l : List Int) (n : Nat) (hl : l.length ≤ 1000000000) (hn : n ≤ 2147483647) (hk : 1 ≤ k) : code_Count.f k l (n : Int) = some (l ++ ints (cntB n)) :=
  at_rounds (fun k => code_Count.mono l n k) hk (count_val l n hl hn)
theorem ints_toB (l : List UInt8) : bytesOf (toB l) = ints l := rfl

/-- What a file adds. -/
def packOne (was : List UInt8) (f : Fl) : List UInt8 := cntB (commonL was f.1) ++ (cntB (f.1.length - commonL was f.1) ++ (f.1.drop (commonL was f.1) ++ runsB f.2))
theorem packOne_len (was : List UInt8) (f : Fl) (h1 : f.1.length ≤ 48) (h2 : f.2.length ≤ 4096) : (packOne was f).length ≤ 10000 := by
  have hc := commonL_le was f.1
  have a1 := cntB_short (commonL was f.1) (by omega)
  have a2 := cntB_short (f.1.length - commonL was f.1) (by omega)
  have a3 := runsB_len f.2 h2
  unfold packOne
  simp only [List.length_append, List.length_drop]
  omega

theorem common_go : ∀ (a b : List UInt8) (j : Nat), j < commonL a b → ∃ c, a[j]? = some c ∧ b[j]? = some c
  | [], _, j, h => by simp [commonL] at h
  | _ :: _, [], j, h => by simp [commonL] at h
  | a :: s, b :: t, j, h => by
    unfold commonL at h
    by_cases he : a = b
    · rw [if_pos he] at h
      cases j with
      | zero => exact ⟨a, rfl, by rw [he]; rfl⟩
      | succ j =>
        obtain ⟨c, h1, h2⟩ := common_go s t j (by omega)
        exact ⟨c, by simpa using h1, by simpa using h2⟩
    · rw [if_neg he] at h; omega
theorem common_end : ∀ (a b : List UInt8), commonL a b = a.length ∨ commonL a b = b.length ∨ ∃ c d, a[commonL a b]? = some c ∧ b[commonL a b]? = some d ∧ c ≠ d
  | [], _ => .inl (by simp [commonL])
  | _ :: _, [] => .inr (.inl (by simp [commonL]))
  | a :: s, b :: t => by
    unfold commonL
    by_cases he : a = b
    · rw [if_pos he]
      rcases common_end s t with h | h | ⟨c, d, h1, h2, h3⟩
      · exact .inl (by simp [h])
      · exact .inr (.inl (by simp [h]))
      · exact .inr (.inr ⟨c, d, by simpa using h1, by simpa using h2, h3⟩)
    · rw [if_neg he]
      exact .inr (.inr ⟨a, b, rfl, rfl, he⟩)

theorem pack_tail (k : Nat) (hk : 1 ≤ k) (b : List UInt8) (hb : b.length ≤ 1000000) (was : List UInt8) (f : S33) (h1 : f.f0.size ≤ 48) (h2 : f.f1.size ≤ 4096) (X : List Int → Option (ByteArray × Int)) :
    (code_Count.f k (ints b) (commonL was f.f0.data.toList : Nat)).bind (fun t => (code_Str.f t (f.f0.extract (((commonL was f.f0.data.toList : Nat) : Int)).toNat f.f0.size)).bind fun t1 => (pack_Runs.f f.f1).bind fun t2 => if t1.length + t2.size < 140737488355328 then X (t1 ++ bytesOf t2) else none) =
      X (ints (b ++ packOne was (flOf f))) := by
  have hc := commonL_le was f.f0.data.toList
  have hsz := Lib.size_eq f.f0
  have a1 := cntB_short (commonL was f.f0.data.toList) (by omega)
  have hx : (f.f0.extract (commonL was f.f0.data.toList) f.f0.size).size = f.f0.size - commonL was f.f0.data.toList := size_ext _ _ _ (Nat.le_refl _)
  have a2 := cntB_short (f.f0.size - commonL was f.f0.data.toList) (by omega)
  have a3 := runsB_len f.f1.data.toList (by rw [← Lib.size_eq]; exact h2)
  rw [count_at k _ _ (by rw [ints_length]; omega) (by omega) hk, Option.bind_some, Int.toNat_natCast, str_val _ _ (by rw [List.length_append, ints_length, ints_length]; omega) (by omega), Option.bind_some, runs_val _ (by omega), Option.bind_some]
  rw [Lib.size_eq] at h2
  have hlen : (ints b ++ ints (cntB (commonL was f.f0.data.toList)) ++ ints (cntB (f.f0.extract (commonL was f.f0.data.toList) f.f0.size).size) ++ bytesOf (f.f0.extract (commonL was f.f0.data.toList) f.f0.size)).length + (toB (runsB f.f1.data.toList)).size < 140737488355328 := by
    rw [List.length_append, List.length_append, List.length_append, ints_length, ints_length, ints_length, bytesOf_length, hx, toB_size]
    omega
  rw [if_pos hlen]
  congr 1
  unfold packOne flOf
  simp only [ints_append, bytesOf_ints, drop_list, hx, ← hsz, toB_list, List.append_assoc]

theorem pack_l1 (L : List S33) (i : Nat) (hi : i < L.length) (hL : L.length ≤ 64) (f : S33) (h1 : f.f0.size ≤ 48) (h2 : f.f1.size ≤ 4096) (b : List UInt8) (hb : b.length ≤ 1000000) (was : List UInt8) (hw : was.length ≤ 48) (R : ByteArray × Int)
    (hR : Ev (fun k => pack_Pack.l0 k (ints (b ++ packOne was (flOf f))) f.f0 L (L.length : Int) ((i + 1 : Nat) : Int)) R) :
    ∀ (d j : Nat), commonL was f.f0.data.toList - j = d → j ≤ commonL was f.f0.data.toList → Ev (fun k => pack_Pack.l1 k (ints b) (toB was) (j : Int) L (L.length : Int) (i : Int) f.f0 f.f1) R := by
  have hc := commonL_le was f.f0.data.toList
  have hsz := Lib.size_eq f.f0
  have hwi : wrap64 ((i : Int) + 1) = ((i + 1 : Nat) : Int) := wrap_succ i (by omega)
  intro d
  induction d with
  | zero =>
    intro j hd hj
    obtain rfl : j = commonL was f.f0.data.toList := by omega
    obtain ⟨K, hK⟩ := hR
    refine ⟨K + 2, fun k hk => ?_⟩
    obtain ⟨k, rfl⟩ : ∃ m, k = m + 1 := ⟨k - 1, by omega⟩
    have ht := fun X => pack_tail k (by omega) b hb was f h1 h2 X
    have hX := hK k (by omega)
    have c1 : (0 : Int) ≤ ((commonL was f.f0.data.toList : Nat) : Int) := Int.natCast_nonneg _
    have c2 : ((commonL was f.f0.data.toList : Nat) : Int) ≤ (f.f0.size : Int) := by omega
    show pack_Pack.l1 (k + 1) _ _ _ _ _ _ _ _ = _
    unfold pack_Pack.l1
    by_cases hm : ((commonL was f.f0.data.toList : Nat) : Int) < mn ((toB was).size : Int) (f.f0.size : Int)
    · have hlt : commonL was f.f0.data.toList < was.length ∧ commonL was f.f0.data.toList < f.f0.size := by
        rw [toB_size] at hm
        unfold mn at hm
        split at hm <;> omega
      have d1 : ((commonL was f.f0.data.toList : Nat) : Int) < ((toB was).size : Int) := by rw [toB_size]; omega
      have d2 : ((commonL was f.f0.data.toList : Nat) : Int) < (f.f0.size : Int) := by omega
      rw [if_pos hm, if_pos c1, if_pos d1, if_pos d2]
      rcases common_end was f.f0.data.toList with h | h | ⟨c, e, hc1, he1, hne⟩
      · omega
      · omega
      · rw [bt_get (toB was) _ c (by rw [toB_list]; exact hc1), bt_get f.f0 _ e he1, if_neg (fun h => hne (UInt8.toNat_inj.mp (by omega)))]
        simp only [if_pos c2, hwi]
        rw [ht (fun t => pack_Pack.l0 k t f.f0 L (L.length : Int) ((i + 1 : Nat) : Int))]
        exact hX
    · rw [if_neg hm]
      simp only [if_pos c1, if_pos c2, hwi]
      rw [ht (fun t => pack_Pack.l0 k t f.f0 L (L.length : Int) ((i + 1 : Nat) : Int))]
      exact hX
  | succ d ih =>
    intro j hd hj
    obtain ⟨K, hK⟩ := ih (j + 1) (by omega) (by omega)
    refine ⟨K + 1, fun k hk => ?_⟩
    obtain ⟨k, rfl⟩ : ∃ m, k = m + 1 := ⟨k - 1, by omega⟩
    have hX := hK k (by omega)
    obtain ⟨c, g1, g2⟩ := common_go was f.f0.data.toList j (by omega)
    have hm : (j : Int) < mn ((toB was).size : Int) (f.f0.size : Int) := by
      rw [toB_size]
      unfold mn
      split <;> omega
    have d0 : (0 : Int) ≤ (j : Int) := Int.natCast_nonneg _
    have d1 : (j : Int) < ((toB was).size : Int) := by rw [toB_size]; omega
    have d2 : (j : Int) < (f.f0.size : Int) := by omega
    show pack_Pack.l1 (k + 1) _ _ _ _ _ _ _ _ = _
    unfold pack_Pack.l1
    rw [if_pos hm, if_pos d0, if_pos d1, if_pos d2, bt_get (toB was) j c (by rw [toB_list]; exact g1), bt_get f.f0 j c g2, if_pos rfl, wrap_succ j (by omega)]
    exact hX

theorem pack_l0 (L : List S33) (hL : L.length ≤ 64) (hf : ∀ f ∈ L, f.f0.size ≤ 48 ∧ f.f1.size ≤ 4096) : ∀ (d i : Nat) (b was : List UInt8), L.length - i = d → i ≤ L.length → was.length ≤ 48 → b.length ≤ 10005 * i + 5 →
    Ev (fun k => pack_Pack.l0 k (ints b) (toB was) L (L.length : Int) (i : Int)) (toB (b ++ packG was ((L.drop i).map flOf)), 0) := by
  intro d
  induction d with
  | zero =>
    intro i b was hd hi hw hb
    refine ⟨1, fun k hk => ?_⟩
    obtain ⟨k, rfl⟩ : ∃ m, k = m + 1 := ⟨k - 1, by omega⟩
    have hni : ¬ ((i : Int) < (L.length : Int)) := by omega
    show pack_Pack.l0 (k + 1) _ _ _ _ _ = _
    unfold pack_Pack.l0
    rw [if_neg hni, str_ints, List.drop_eq_nil_iff.mpr (by omega)]
    simp [packG, toB]
  | succ d ih =>
    intro i b was hd hi hw hb
    have hlt : i < L.length := by omega
    have hg : rd_T33 L (i : Int) = L[i] := by simp [rd_T33, List.getD_eq_getElem?_getD, List.getElem?_eq_getElem hlt]
    have hm := hf L[i] (List.getElem_mem hlt)
    have hs1 : (flOf L[i]).1.length ≤ 48 := by have := hm.1; rw [Lib.size_eq] at this; exact this
    have hs2 : (flOf L[i]).2.length ≤ 4096 := by have := hm.2; rw [Lib.size_eq] at this; exact this
    have hone := packOne_len was (flOf L[i]) hs1 hs2
    have hnext := ih (i + 1) (b ++ packOne was (flOf L[i])) (flOf L[i]).1 (by omega) (by omega) hs1 (by rw [List.length_append]; omega)
    have h1 := pack_l1 L i hlt hL L[i] hm.1 hm.2 b (by omega) was hw _ hnext (commonL was L[i].f0.data.toList) 0 (by omega) (by omega)
    obtain ⟨K, hK⟩ := h1
    refine ⟨K + 1, fun k hk => ?_⟩
    obtain ⟨k, rfl⟩ : ∃ m, k = m + 1 := ⟨k - 1, by omega⟩
    have hni : (i : Int) < (L.length : Int) := by omega
    have h0 : (0 : Int) ≤ (i : Int) := Int.natCast_nonneg _
    show pack_Pack.l0 (k + 1) _ _ _ _ _ = _
    unfold pack_Pack.l0
    rw [if_pos hni, if_pos h0, if_pos hni, hg]
    have := hK k (by omega)
    have e0 : ((0 : Nat) : Int) = 0 := rfl
    rw [e0] at this
    dsimp only at this
    rw [this]
    have hdr : L.drop i = L[i] :: L.drop (i + 1) := List.drop_eq_getElem_cons hlt
    rw [hdr, List.map_cons]
    conv => rhs; unfold packG
    unfold packOne
    simp only [List.append_assoc]

theorem pack_val (L : List S33) : Ev (fun k => pack_Pack.f k L) (packE L) := by
  unfold packE
  by_cases hc : checkE L = 0
  · rw [if_pos hc]
    have hfull := check_full hc
    have hs : ∀ f ∈ L, f.f0.size ≤ 48 ∧ f.f1.size ≤ 4096 := fun f hf => ⟨path_short (check_files hc f hf), data_short (check_files hc f hf)⟩
    have a1 := cntB_short L.length (by omega)
    obtain ⟨K, hK⟩ := pack_l0 L hfull.1 hs L.length 0 (cntB L.length) [] (by omega) (by omega) (by simp) (by omega)
    refine ⟨K + 1, fun k hk => ?_⟩
    unfold pack_Pack.f files_Check.f
    dsimp only
    rw [Option.bind_some, if_pos hc, count_at k [] L.length (by simp) (by omega) (by omega), Option.bind_some]
    have := hK k (by omega)
    unfold packB
    rw [List.drop_zero] at this
    rw [List.length_map]
    exact this
  · rw [if_neg hc]
    refine ⟨0, fun k _ => ?_⟩
    unfold pack_Pack.f files_Check.f
    dsimp only
    rw [Option.bind_some, if_neg hc]

theorem pack_calls (A : Option Addr) (c : Nat) (L : List S33) (w : World) (hr : Kd.C k33 w A L.length L) (hc : L.length ≤ c) :
    Calls Try.prog 30 #[.slice A L.length c] w fun e w' => e = .returned (.tuple #[.string (packE L).1, .int .i64 (packE L).2]) ∧ Below w.heap.size w w' := by
  obtain ⟨K, hK⟩ := pack_val L
  exact pack_Pack.calls K A c L _ _ w hr hc (hK K (Nat.le_refl _))
#print axioms pack_calls
end Go.Proofs.Ytgbkoeinfhlpoaa.F

namespace Go.Proofs.Ytgbkoeinfhlpoaa.F
open Go.RowKit Go.Shelf Go.Lib Go.Proofs Go.Proofs.YtgbkoeinfhlpoaaW.PrintWords Go.Proofs.YtgbkoeinfhlpoaaW.PrintLast Go.Proofs.YtgbkoeinfhlpoaaW.PrintMore
set_option linter.unusedVariables false
set_option linter.unusedSimpArgs false

set_option maxHeartbeats 1000000 in
theorem bits_Mul64 (x y : Nat) (hx : x < 18446744073709551616) (hy : y < 18446744073709551616) (w : World) :
    Calls Try.prog 122 #[.int .u64 x, .int .u64 y] w fun e w' => e = .returned (.tuple #[.int .u64 ((x * y / 18446744073709551616 : Nat) : Int), .int .u64 ((x * y % 18446744073709551616 : Nat) : Int)]) ∧ w' = w := by
  obtain ⟨bd, bt, bw, hhi⟩ := Lib.mul64_hi x y hx hy
  have ba := Lib.half_mul_le (a := x / 4294967296) (b := y / 4294967296) (by omega) (by omega)
  have bb := Lib.half_mul_le (a := x / 4294967296) (b := y % 4294967296) (by omega) (by omega)
  have bc := Lib.half_mul_le (a := x % 4294967296) (b := y / 4294967296) (by omega) (by omega)
  have ba' : x / 4294967296 * (y / 4294967296) < 18446744073709551616 := by omega
  have bb' : x / 4294967296 * (y % 4294967296) < 18446744073709551616 := by omega
  have bc' : x % 4294967296 * (y / 4294967296) < 18446744073709551616 := by omega
  have bh1 : x / 4294967296 * (y / 4294967296) + (x / 4294967296 * (y % 4294967296) + x % 4294967296 * (y % 4294967296) / 4294967296) / 4294967296 < 18446744073709551616 := by omega
  have bh : x / 4294967296 * (y / 4294967296) + (x / 4294967296 * (y % 4294967296) + x % 4294967296 * (y % 4294967296) / 4294967296) / 4294967296 + ((x / 4294967296 * (y % 4294967296) + x % 4294967296 * (y % 4294967296) / 4294967296) % 4294967296 + x % 4294967296 * (y / 4294967296)) / 4294967296 < 18446744073709551616 := by omega
  go_enter Try.func122, Try.ntmps122
  go_wp2
  simp only [Mul64.maskN x hx, Mul64.maskN y hy, Mul64.divN, Mul64.mulN, Mul64.addN, Mul64.wrapN _ bd, Mul64.wrapN _ bb', Mul64.wrapN _ bt, Mul64.maskN _ bt, Mul64.wrapN _ bc', Mul64.wrapN _ bw, Mul64.wrapN _ ba', Mul64.wrapN _ bh1, Mul64.wrapN _ bh, Mul64.wrapM (x * y)]
  rw [hhi]
  go_ret2
  exact ⟨rfl, rfl⟩
set_option maxHeartbeats 1000000 in
theorem bits_Mul (x y : Nat) (hx : x < 18446744073709551616) (hy : y < 18446744073709551616) (w : World) :
    Calls Try.prog 101 #[.int .u64 x, .int .u64 y] w fun e w' => e = .returned (.tuple #[.int .u64 ((x * y / 18446744073709551616 : Nat) : Int), .int .u64 ((x * y % 18446744073709551616 : Nat) : Int)]) ∧ w = w' := by
  have c64 := bits_Mul64 x y hx hy w
  go_enter Try.func101, Try.ntmps101
  go_wp2_with (go_at_call 122; refine c64.mono ?_; rintro e w' ⟨rfl, hw⟩; rw [hw])
  go_ret2
  exact ⟨rfl, rfl⟩
theorem mul_one_calls (y : Nat) (hy : y < 18446744073709551616) (w : World) :
    Calls Try.prog 101 #[.int .u64 1, .int .u64 y] w fun e w' => e = .returned (.tuple #[.int .u64 0, .int .u64 y]) ∧ w = w' := by
  have h := bits_Mul 1 y (by omega) hy w
  rw [Nat.one_mul, Nat.div_eq_of_lt hy, Nat.mod_eq_of_lt hy] at h
  exact h

theorem below_put5 {w : World} {base g : Nat} (hg : base ≤ g) (o : Nat) (vs : List Value) : Below base w (w.setCells g o vs) := by
  obtain ⟨s1, s2, s3, s4⟩ := setCells_same g vs o w
  exact ⟨s1, s2, s3, Nat.le_of_eq s4.symm, fun k hk => setCells_far vs o k (by omega)⟩
theorem size5i : (Try.prog.info? 5).map (·.size) = some 1 := by kernel_rfl
/-- copy between two rows of bytes. -/
theorem copy38 (w : World) (ty : TypeId) (b o dLen dCap : Nat) (a : Addr) (sLen sCap : Nat) (cs : List Value) (hn : cs.length = Nat.min sLen dLen)
    (hsrc : ∀ j v, cs[j]? = some v → w.cell? (a.add j) = some v) (hc : ∀ j, j < cs.length → (w.cell? ⟨b, o + j, none⟩).isSome = true) (hf : ∀ j, j < cs.length → w.frozen? ⟨b, o + j, none⟩ = false) (h1 : ∀ v ∈ cs, v.oneCell' = true) :
    (Builtin.copy_ #[38, 38] ty #[.slice (some ⟨b, o, none⟩) dLen dCap, .slice (some a) sLen sCap]).run Try.prog w = .ok (goInt (Nat.min sLen dLen)) (w.setCells b o cs) := by
  have hl := run_loadCells_list (P := Try.prog) w a cs hsrc
  have hst := run_storeCells_cells (P := Try.prog) b o cs 0 w (by simpa using hc) (by simpa using hf) h1
  simp only [Nat.add_zero] at hst
  obtain ⟨i, hi, hs⟩ := Option.map_eq_some_iff.1 size5i
  rw [hn] at hl
  simp [Builtin.copy_, run_underlying Try.underlying38, Builtin.lenOf, Builtin.firstCells, Go.sizeOf, typeInfo, hi, hs, hl, hst]

/-- A row of m cells, n of them x. -/
structure Row1 (w : World) (g m n : Nat) (x : Int) (cur : Array Value) : Prop where
  blk : w.heap[g]? = some (.cells cur 5 (0, 0))
  size : cur.size = m
  take : cur.toList.take n = List.replicate n (.int .u8 x)
theorem Row1.cell {w : World} {g m n : Nat} {x : Int} {cur : Array Value} (h : Row1 w g m n x cur) (hn : n ≤ m) (j : Nat) (hj : j < n) : w.cell? ⟨g, j, none⟩ = some (.int .u8 x) := by
  rw [blk_cell h.blk j, ← Array.getElem?_toList]
  have : (cur.toList.take n)[j]? = (List.replicate n (Value.int .u8 x))[j]? := by rw [h.take]
  rw [List.getElem?_take, if_pos hj] at this
  rw [this]
  simp [hj]
theorem Row1.copy {w : World} {g m n : Nat} {x : Int} {cur : Array Value} (h : Row1 w g m n x cur) (k : Nat) (hk : n + k ≤ m) :
    ∃ cur', Row1 (w.setCells g n (List.replicate k (.int .u8 x))) g m (n + k) x cur' := by
  obtain ⟨cur', h1, h2, h3⟩ := setCells_row (List.replicate k (.int .u8 x)) n w cur h.blk (by rw [h.size]; simpa using hk)
  refine ⟨cur', h1, h2.trans h.size, ?_⟩
  have hl : (cur.toList.take n).length = n := by rw [List.length_take, Array.length_toList, h.size]; omega
  rw [h3, h.take, List.take_left' (by simp), ← List.replicate_append_replicate]

set_option maxHeartbeats 2000000 in
set_option maxRecDepth 100000 in
theorem repeat_calls (A : Option Addr) (c0 : Nat) (x : Int) (m : Nat) (h1 : 1 ≤ m) (hm : m ≤ 4096) (w : World) (hC : Kd.C (Kd.int .u8) w A 1 [x]) :
    Calls Try.prog 71 #[.slice A 1 c0, .int .i64 m] w fun e w' => ∃ v : Value, e = .returned v ∧ Kd.R (Kd.int .u8) 5 w' w.heap.size (fun _ => True) v (List.replicate m x) ∧ Below w.heap.size w w' := by
  have mixed : Try.prog.follows Departure.mixedOrders = true := by kernel_rfl
  obtain ⟨ad, cs, rfl, hl, hK, hcell0⟩ := Kd.C_get hC 0 0 (by omega) (by omega)
  have hcell : w.cell? ad = some (.int .u8 x) := by
    obtain rfl : cs = [.int .u8 x] := hK
    simpa [Addr.add] using hcell0 0 _ rfl
  have hmul := mul_one_calls m (by omega) w
  clear hC hl hK hcell0
  have hmk := print_make (P := Try.prog) 38 5 .u8 1 Try.underlying38 info5 (by decide) m (by omega) w
  obtain ⟨W0, hW0⟩ : ∃ W0, W0 = w.alloc (.cells (madeCells #[.int .u8 0] m) 5) := ⟨_, rfl⟩
  have hadw : ad.block < w.heap.size := World.block_lt_of_cell? w _ hcell
  have hb0 : Below w.heap.size w W0 := by rw [hW0]; exact (Below.refl _ _).alloc (Nat.le_refl _) _
  have hR0 : Row1 W0 w.heap.size m 0 x (madeCells #[.int .u8 0] m) := ⟨by rw [hW0]; exact heap_alloc_new w _, by simp [madeCells], by simp⟩
  obtain ⟨c1, hR1⟩ := hR0.copy 1 (by omega)
  have hcp : ∀ ty dc sc, (Builtin.copy_ #[38, 38] ty #[.slice (some ⟨w.heap.size, 0, none⟩) m dc, .slice (some ad) 1 sc]).run Try.prog W0 = .ok (goInt (Nat.min 1 m)) (W0.setCells w.heap.size 0 [.int .u8 x]) := fun ty dc sc =>
    copy38 W0 ty w.heap.size 0 m dc ad 1 sc [.int .u8 x] (by show 1 = min 1 m; omega)
      (fun j v hj => by
        have hj0 : j = 0 := by have := (List.getElem?_eq_some_iff.1 hj).1; simpa using this
        subst hj0
        rw [show ad.add 0 = ad by simp [Addr.add]]
        simp at hj
        rw [(hb0.cell hadw), hcell, hj])
      (fun j hj => by rw [blk_cell hR0.blk]; simp [hR0.size]; simp at hj; omega) (fun j hj => blk_frozen hR0.blk _) (by simp [Value.oneCell'])
  obtain ⟨W1, hW1⟩ : ∃ W1, W1 = W0.setCells w.heap.size 0 [.int .u8 x] := ⟨_, rfl⟩
  have hm1 : Nat.min 1 m = 1 := by show min 1 m = 1; omega
  have e1 : List.replicate 1 (Value.int .u8 x) = [.int .u8 x] := rfl
  have hb1 : Below w.heap.size w W1 := by rw [hW1]; exact hb0.trans (below_put5 (Nat.le_refl _) 0 _)
  rw [e1, ← hW1] at hR1
  rw [hm1, ← hW1] at hcp
  rw [← hW0] at hmk
  have hcp0 := hcp 3 m c0
  have HR := Aside0.mk hR1
  have HB := Aside0.mk hb1
  clear hcp hR1 hb1 hW1 hm1 e1 hR0 hb0 hadw hcell hW0
  have d1 : decide ((m : Int) < 0) = false := decide_eq_false (by omega)
  have d2 : decide ((9223372036854775807 : Int) < (m : Int)) = false := decide_eq_false (by omega)
  go_enter Try.func71, Try.ntmps71
  go_wp2_with (go_at_call 101; refine hmul.mono ?_; rintro e w' ⟨rfl, rfl⟩)
  clear hcp0 hmk hmul d1 d2
  go_loopg [8] (m + 1) (fun gg s8 wr => ∃ (n : Nat) (cur : Array Value), 1 ≤ n ∧ n ≤ m ∧ m - n ≤ gg ∧ s8 = .int .i64 n ∧ Aside0 (Row1 wr w.heap.size m n x cur) ∧ Aside0 (Below w.heap.size w wr))
  case atStart => exact ⟨1, c1, by omega, by omega, by omega, rfl, by simpa using HR, HB⟩
  case round =>
    obtain ⟨n, cur, hn1, hn2, hgn, rfl, HR, HB⟩ := hrel
    by_cases hlt : n < m
    · have hltz : (n : Int) < (m : Int) := by omega
      obtain ⟨k, hk⟩ : ∃ k : Nat, k = min n (m - n) := ⟨_, rfl⟩
      have hk1 : 1 ≤ k := by omega
      have hk2 : n + k ≤ m := by omega
      obtain ⟨cur2, hR2⟩ := (show Row1 wr.drew w.heap.size m n x cur from ⟨HR.out.blk, HR.out.size, HR.out.take⟩).copy k hk2
      have hcp : ∀ ty dc sc, (Builtin.copy_ #[38, 38] ty #[.slice (some ⟨w.heap.size, n, none⟩) (m - n) dc, .slice (some ⟨w.heap.size, 0, none⟩) n sc]).run Try.prog wr.drew = .ok (goInt (Nat.min n (m - n))) (wr.drew.setCells w.heap.size n (List.replicate k (.int .u8 x))) := fun ty dc sc =>
        copy38 wr.drew ty w.heap.size n (m - n) dc ⟨w.heap.size, 0, none⟩ n sc (List.replicate k (.int .u8 x)) (by rw [List.length_replicate]; exact hk)
          (fun j v hj => by
            have hjk : j < k := by have := (List.getElem?_eq_some_iff.1 hj).1; simpa using this
            rw [add_plain]
            have := HR.out.cell hn2 j (by omega)
            rw [List.getElem?_replicate, if_pos hjk] at hj
            cases hj
            exact this)
          (fun j hj => by
            show (wr.cell? _).isSome = true
            rw [blk_cell HR.out.blk]
            rw [List.length_replicate] at hj
            have := HR.out.size
            rw [Array.getElem?_eq_getElem (by omega)]
            rfl)
          (fun j hj => blk_frozen (w := wr.drew) HR.out.blk _) (fun v hv => by obtain ⟨_, rfl⟩ := List.mem_replicate.mp hv; rfl)
      have hmin : Nat.min n (m - n) = k := hk.symm
      rw [hmin] at hcp
      have HC := Aside0.mk hcp
      have HR2 := Aside0.mk hR2
      have HB2 := Aside0.mk (show Below w.heap.size w (wr.drew.setCells w.heap.size n (List.replicate k (.int .u8 x))) from (pw_below_drewN HB.out 1).trans (below_put5 (Nat.le_refl _) _ _))
      clear hcp hR2 hmin hk
      have HK2 := Aside0.mk (And.intro hk1 hk2)
      have HN := Aside0.mk (show m - (n + k) < gk by omega)
      have c1z : (0 : Int) ≤ (n : Int) := by omega
      have c2z : (n : Int) ≤ (m : Int) := by omega
      have c3z : ¬ (m = n) := by omega
      go_wp2_with fail
      go_region_law_o (refine step_copy_runI rfl _ _ 38 38 rfl (.slice (some ⟨w.heap.size, n, none⟩) (m - n) (m - n)) (.slice (some ⟨w.heap.size, 0, none⟩) n m) (by simp [Act.eval, Act.put]) (by simp [Act.eval, Act.put]) (HC.out _ _ _) ?_)
      go_wp2_with fail
      go_roundg (m - (n + k))
      case measure => exact HN.out
      case rel => exact ⟨n + k, cur2, by omega, HK2.out.2, Nat.le_refl _, by rw [show IntKind.i64.wrap ((n : Int) + (k : Int)) = ((n + k : Nat) : Int) by rw [IntKind.wrap_i64]; omega], HR2, HB2⟩
    · have hltz : ¬ (n : Int) < (m : Int) := by omega
      have HE := Aside0.mk (show n = m by omega)
      go_wp2_with fail
      go_ret
      have hR := HR.out
      rw [HE.out] at hR
      have ho : wr.ownsRow w.heap.size 5 1 (.slice (some ⟨w.heap.size, 0, none⟩) m m) m (List.replicate m (.int .u8 x)) := ⟨by simp, .inr ⟨w.heap.size, m, cur, rfl, Nat.le_refl _, hR.blk, Nat.le_refl _, by unfold maxLen; omega, by rw [hR.size]; simp, by simpa using hR.take⟩⟩
      have h2 := Kd.R_of_own (α := Int) (enc := fun x => .int .u8 x) (h1 := fun _ => rfl) (ok := fun _ => True) (xs := List.replicate m x) (e := 5) (w := wr) (base := w.heap.size) (v := .slice (some ⟨w.heap.size, 0, none⟩) m m) (by simpa [encs] using ho) (fun _ _ => trivial)
      exact ⟨_, rfl, h2, HB.out⟩
#print axioms repeat_calls
end Go.Proofs.Ytgbkoeinfhlpoaa.F

namespace Go.Proofs.Ytgbkoeinfhlpoaa.F
open Go.RowKit Go.Shelf Go.Proofs.YtgbkoeinfhlpoaaW.PrintWords Go.Proofs.YtgbkoeinfhlpoaaW.PrintLast Go.Proofs.YtgbkoeinfhlpoaaW.PrintMore
set_option linter.unusedVariables false
set_option linter.unusedSimpArgs false

theorem E33 : k33.E = [] := rfl
theorem E5 : (Kd.int .u8).E = [] := rfl
/-- A row stays where another block (of another type) is written. -/
theorem R_keepbut {α : Type} {d : Kd α} {e t g : Nat} {W W1 : World} {base : Nat} {v : Value} {xs : List α} {cs : Array Value} (hE : d.E = []) (h : d.R e W base (fun _ => True) v xs) (hk : KeepBut W W1 g none) (hg : W.heap[g]? = some (.cells cs t (0, 0))) (ht : e ≠ t) : d.R e W1 base (fun _ => True) v xs := by
  refine Kd.R_mono (Kd.R_keep (Kd.R_bound h) hk ?_) (fun _ _ => trivial)
  rintro k ⟨_, _, _, q, hq, cells, hc⟩ rfl
  rw [hE] at hq
  simp at hq
  subst hq
  rw [hc] at hg
  cases hg
  exact ht rfl

/-- The reader, the files so far (a row of the call's own), the data so far (another). -/
structure St (w W : World) (g : Nat) (r : Rd) (lv : Value) (l : List Fl) (dv : Value) (d : List UInt8) : Prop where
  rd : IsS81 w W g (toB r.s) r.ok
  row : Kd.R k33 33 W w.heap.size (fun _ => True) lv (l.map sOf)
  dat : Kd.R (Kd.int .u8) 5 W w.heap.size (fun _ => True) dv (ints d)
  bel : Below w.heap.size w W
  len : r.s.length ≤ 1000000
section
variable {w W W1 : World} {g : Nat} {r r1 : Rd} {lv lv1 : Value} {l l1 : List Fl} {dv dv1 : Value} {d d1 : List UInt8}
theorem St.moved (h : St w W g r lv l dv d) (hI : IsS81 w W1 g (toB r1.s) r1.ok) (hB : Below w.heap.size w W1) (hk : KeepBut W W1 g none) (hl : r1.s.length ≤ r.s.length) : St w W1 g r1 lv l dv d := by
  obtain ⟨hb, hg⟩ := h.rd
  exact ⟨hI, R_keepbut E33 h.row hk hb (by decide), R_keepbut E5 h.dat hk hb (by decide), hB, Nat.le_trans hl h.len⟩
theorem St.world (h : St w W g r lv l dv d) (hb : Below W.heap.size W W1) : St w W1 g r lv l dv d :=
  ⟨h.rd.grown (grown_of_below hb none) (by simp), Kd.R_below h.row hb, Kd.R_below h.dat hb, below_step h.bel hb, h.len⟩
theorem typed_ne {e : Nat} {α : Type} {k : Kd α} {base : Nat} {v : Value} {xs : List α} (h : k.R e W base (fun _ => True) v xs) {g t : Nat} {cs : Array Value} (hg : W.heap[g]? = some (.cells cs t (0, 0))) (ht : e ≠ t) : some g ≠ v.ownBlock := Kd.R_ne h hg ht
theorem St.data (h : St w W g r lv l dv d) (hg : W.grownBy W1 dv.ownBlock) (hR : Kd.R (Kd.int .u8) 5 W1 w.heap.size (fun _ => True) dv1 (ints d1)) (hB : Below w.heap.size w W1) : St w W1 g r lv l dv1 d1 :=
  ⟨h.rd.grown hg (Kd.R_ne h.dat h.rd.1 (by decide)), Kd.R_over' h.row (Kd.R_typed h.dat) (fun q hq => by rw [E33] at hq; simp at hq; omega) hg, hR, hB, h.len⟩
theorem St.list (h : St w W g r lv l dv d) (hg : W.grownBy W1 lv.ownBlock) (hR : Kd.R k33 33 W1 w.heap.size (fun _ => True) lv1 (l1.map sOf)) (hB : Below w.heap.size w W1) : St w W1 g r lv1 l1 dv d :=
  ⟨h.rd.grown hg (Kd.R_ne h.row h.rd.1 (by decide)), hR, Kd.R_over' h.dat (Kd.R_typed h.row) (fun q hq => by rw [E5] at hq; simp at hq; omega) hg, hB, h.len⟩
theorem St.dataStr {pt : List UInt8} (h : St w W g r lv l dv d) (ho : W1.ownsRow w.heap.size 5 1 dv1 (ints d ++ bytesOf (toB pt)).length (nums .u8 (ints d ++ bytesOf (toB pt)))) (hb : Below w.heap.size w W1) (hg : W.grownBy W1 dv.ownBlock) : St w W1 g r lv l dv1 (d ++ pt) := by
  refine h.data hg ?_ hb
  have := Kd.R_of_own (α := Int) (enc := fun x => .int .u8 x) (h1 := fun _ => rfl) (ok := fun _ => True) ho (fun _ _ => trivial)
  rw [show bytesOf (toB pt) = ints pt from rfl, ← ints_append] at this
  exact this
theorem St.dataRep {m : Nat} {c : UInt8} (h : St w W g r lv l dv d) (hR : Kd.R (Kd.int .u8) 5 W1 w.heap.size (fun _ => True) dv1 (ints d ++ List.replicate m (c.toNat : Int))) (hb : Below w.heap.size w W1) (hg : W.grownBy W1 dv.ownBlock) : St w W1 g r lv l dv1 (d ++ List.replicate m c) := by
  refine h.data hg ?_ hb
  rw [ints_append, show ints (List.replicate m c) = List.replicate m (c.toNat : Int) by simp [ints]]
  exact hR
theorem St.push {f : Fl} (h : St w W g r lv l dv d) (hR : Kd.R k33 33 W1 w.heap.size (fun _ => True) lv1 (l.map sOf ++ [sOf f])) (hb : Below w.heap.size w W1) (hg : W.grownBy W1 lv.ownBlock) : St w W1 g r lv1 (l ++ [f]) dv d := by
  refine h.list hg ?_ hb
  rw [List.map_append]
  exact hR
theorem St.newData (h : St w W g r lv l dv d) : St w W g r lv l (.slice none 0 0) [] := ⟨h.rd, h.row, Kd.R_nil _ _ _ _ _, h.bel, h.len⟩
theorem St.count (h : St w W g r lv l dv d) (most : Int) (h0 : 0 ≤ most) (hm : most ≤ 10000) :
    Calls Try.prog 69 #[.pointer (some ⟨g, 0, none⟩), .int .i64 most] W fun e W1 => e = .returned (.int .i64 (cntR most.toNat r).1) ∧ St w W1 g (cntR most.toNat r).2 lv l dv d := by
  refine (rcount_calls g r most h0 hm (by have := h.len; omega) w W h.rd h.bel).mono ?_
  rintro e W1 ⟨he, hI, hB, hk⟩
  exact ⟨he, h.moved hI hB hk (cntR_bound _ r).2⟩
theorem St.take (h : St w W g r lv l dv d) (n : Int) (h0 : 0 ≤ n) :
    Calls Try.prog 70 #[.pointer (some ⟨g, 0, none⟩), .int .i64 n] W fun e W1 => e = .returned (.string (toB (takeR n.toNat r).1)) ∧ St w W1 g (takeR n.toNat r).2 lv l dv d := by
  refine (rtake_calls g r n h0 w W h.rd h.bel).mono ?_
  rintro e W1 ⟨he, hI, hB, hk⟩
  exact ⟨he, h.moved hI hB hk (takeR_bound _ r).2.1⟩
theorem St.okCell (h : St w W g r lv l dv d) : W.cell? ⟨g, 1, none⟩ = some (.bool r.ok) := cellS81_1 h.rd.1
theorem St.datSlice (h : St w W g r lv l dv d) : ∃ A c, dv = .slice A d.length c ∧ d.length ≤ c := by
  obtain ⟨A, c, hv, hl, _⟩ := Kd.R_reads h.dat
  rw [ints_length] at hv hl
  exact ⟨A, c, hv, hl⟩
end

theorem filesR_succ (k : Nat) (l : List Fl) (was : List UInt8) (r : Rd) : filesR (k + 1) l was r =
    match dataR ((cntR 4096 (takeR (cntR 48 (cntR was.length r).2).1 (cntR 48 (cntR was.length r).2).2).2).1 + 1) (cntR 4096 (takeR (cntR 48 (cntR was.length r).2).1 (cntR 48 (cntR was.length r).2).2).2).1 [] (cntR 4096 (takeR (cntR 48 (cntR was.length r).2).1 (cntR 48 (cntR was.length r).2).2).2).2 with
    | none => l
    | some (d, r') => filesR k (l ++ [(was.take (cntR was.length r).1 ++ (takeR (cntR 48 (cntR was.length r).2).1 (cntR 48 (cntR was.length r).2).2).1, d)]) (was.take (cntR was.length r).1 ++ (takeR (cntR 48 (cntR was.length r).2).1 (cntR 48 (cntR was.length r).2).2).1) r' := rfl
theorem toB_append (a b : List UInt8) : toB a ++ toB b = toB (a ++ b) := by
  apply bytes_ext
  rw [append_listA, Lib.toList_data, Lib.toList_data, Lib.toList_data]
  rfl
where
  append_listA (q r : ByteArray) : (q ++ r).toList = q.toList ++ r.toList := by
    rw [Lib.toList_data, Lib.toList_data, Lib.toList_data, ByteArray.data_append, Array.toList_append]
end Go.Proofs.Ytgbkoeinfhlpoaa.F

namespace Go.Proofs.Ytgbkoeinfhlpoaa.F
open Go.RowKit Go.Shelf Go.Proofs.YtgbkoeinfhlpoaaW.PrintWords Go.Proofs.YtgbkoeinfhlpoaaW.PrintLast Go.Proofs.YtgbkoeinfhlpoaaW.PrintMore
set_option linter.unusedVariables false
set_option linter.unusedSimpArgs false

set_option maxHeartbeats 4000000 in
set_option maxRecDepth 100000 in
theorem unpack_walk (s : ByteArray) (hs : s.size ≤ 1000000) (w : World) (v : List S33 × Int) (FIN : List Fl) (hF : filesR (cntR 64 ⟨s.data.toList, true⟩).1 [] [] (cntR 64 ⟨s.data.toList, true⟩).2 = FIN)
    (hv : v = if checkE (FIN.map sOf) = 0 ∧ toB (packB FIN) = s then (FIN.map sOf, 0) else ([], 4)) :
    Calls Try.prog 34 #[.string s] w fun e w' => ∃ v0 : Value, e = .returned (.tuple #[v0, .int .i64 v.2]) ∧ Kd.R k33 33 w' w.heap.size (fun _ => True) v0 v.1 ∧ Below w.heap.size w w' := by
  have hu33 := Try.underlying33
  have hb0 : Below w.heap.size w (w.alloc (.cells #[.string s, .bool true] 81)) := (Below.refl _ _).alloc (Nat.le_refl _) _
  have hst : St w (w.alloc (.cells #[.string s, .bool true] 81)) w.heap.size ⟨s.data.toList, true⟩ (.slice none 0 0) [] (.slice none 0 0) [] :=
    ⟨IsS81.new w w s true (Below.refl _ _), Kd.R_nil _ _ _ _ _, Kd.R_nil _ _ _ _ _, hb0, by rw [← Lib.size_eq]; exact hs⟩
  have hcnt := hst.count 64 (by omega) (by omega)
  rw [show (64 : Int).toNat = 64 from rfl] at hcnt
  have hN : (cntR 64 ⟨s.data.toList, true⟩).1 ≤ 64 := (cntR_bound 64 _).1
  generalize hcr : cntR 64 ⟨s.data.toList, true⟩ = cr at hcnt hF hN
  obtain ⟨N, r0⟩ := cr
  dsimp only at hcnt hF hN
  have HF := Aside0.mk hF
  have HV := Aside0.mk hv
  have HS := Aside0.mk hs
  clear hF hv hs hst hb0 hcr
  go_enter Try.func34, Try.ntmps34
  go_wp2_with fail
  go_step3
  go_wp2_with fail
  go_step3
  go_upto_block 0 with (go_at_call 69; refine hcnt.mono ?_; rintro e w1 ⟨rfl, hst1⟩; have H1 := Aside0.mk hst1; clear hst1)
  clear hcnt
  go_cut [5] (fun s5 wc => ∃ (r : Rd) (dv : Value) (d : List UInt8), Aside0 (St w wc w.heap.size r s5 FIN dv d))
  case first =>
    go_wp2_with fail
    go_loopg [5, 6, 19] (N + 1) (fun gg s5 s6 s19 wr => ∃ (i : Nat) (l : List Fl) (was : List UInt8) (r : Rd) (dv : Value) (d : List UInt8), i ≤ N ∧ N - i ≤ gg ∧ s19 = .int .i64 i ∧ s6 = .string (toB was) ∧ Aside0 (was.length ≤ 96 * i) ∧ Aside0 (filesR (N - i) l was r = FIN) ∧ Aside0 (l.length = i) ∧ Aside0 (St w wr w.heap.size r s5 l dv d))
    case atStart => exact ⟨0, [], [], r0, .slice none 0 0, [], by omega, by omega, rfl, rfl, ⟨by simp⟩, by simpa using HF, ⟨rfl⟩, H1⟩
    case round =>
      obtain ⟨i, l, was, r, dv, d, hi, hgi, rfl, rfl, HW, HX, HL, H⟩ := hrel
      clear H1 HF
      by_cases hlt : i < N
      · have hltz : (i : Int) < (N : Int) := by omega
        have hwl : was.length ≤ 6144 := by have := HW.out; omega
        have HWL := Aside0.mk hwl
        have hX := HX.out
        rw [show N - i = (N - (i + 1)) + 1 by omega, filesR_succ] at hX
        have c1 := (cntR_bound was.length r).1
        generalize h1 : cntR was.length r = q1 at hX c1
        obtain ⟨n1, r1⟩ := q1
        dsimp only at hX c1
        generalize h2 : cntR 48 r1 = q2 at hX
        have c2 := (cntR_bound 48 r1).1
        rw [h2] at c2
        obtain ⟨n2, r2⟩ := q2
        dsimp only at hX c2
        generalize h3 : takeR n2 r2 = q3 at hX
        have c3 := (takeR_bound n2 r2).1
        rw [h3] at c3
        obtain ⟨pl, r3⟩ := q3
        dsimp only at hX c3
        generalize h4 : cntR 4096 r3 = q4 at hX
        have c4 := (cntR_bound 4096 r3).1
        rw [h4] at c4
        obtain ⟨size, r4⟩ := q4
        dsimp only at hX c4
        have HX2 := Aside0.mk hX
        have Hh1 := Aside0.mk h1
        have Hh2 := Aside0.mk h2
        have Hh3 := Aside0.mk h3
        have Hh4 := Aside0.mk h4
        have C1 := Aside0.mk c1
        have C2 := Aside0.mk c2
        have C3 := Aside0.mk c3
        have C4 := Aside0.mk c4
        have z1 : (0 : Int) ≤ (n1 : Int) := by omega
        have z2 : (n1 : Int) ≤ (was.length : Int) := by omega
        clear hX h1 h2 h3 h4 c1 c2 c3 c4 HX hwl
        have hws : (toB was).size = was.length := toB_size was
        have HWS := Aside0.mk hws
        have z3 : ((toB was).size : Int) = (was.length : Int) := by rw [hws]
        have k1 := H.out.count ((toB was).size : Int) (by omega) (by have := HWL.out; omega)
        rw [Int.toNat_natCast, hws, Hh1.out] at k1
        clear hws z3
        have z4 : (n1 : Int) ≤ ((toB was).size : Int) := by rw [HWS.out]; exact z2
        clear z2
        go_wp2_with fail
        refine k1.mono ?_
        rintro e w2 ⟨rfl, H2⟩
        replace H2 := Aside0.mk H2
        clear k1
        go_wp2_with fail
        have k2 := H2.out.count 48 (by omega) (by omega)
        rw [show (48 : Int).toNat = 48 from rfl, Hh2.out] at k2
        refine k2.mono ?_
        rintro e w3 ⟨rfl, H3⟩
        replace H3 := Aside0.mk H3
        clear k2
        go_wp2_with fail
        have k3 := H3.out.take (n2 : Int) (by omega)
        rw [Int.toNat_natCast, Hh3.out] at k3
        refine k3.mono ?_
        rintro e w4 ⟨rfl, H4⟩
        replace H4 := Aside0.mk H4
        clear k3
        have hcat : ((toB was).extract 0 n1).size + (toB pl).size ≤ 9223372036854775807 := by
          have : ((toB was).extract 0 n1).size ≤ (toB was).size := by rw [ByteArray.size_extract]; omega
          have h1 := toB_size was
          have h2 := toB_size pl
          have h3 := C3.out
          have h4 := C2.out
          have h5 := HWL.out
          omega
        have hcat2 : (9223372036854775807 < ((toB was).extract 0 n1).size + (toB pl).size) = False := eq_false (Nat.not_lt.2 hcat)
        go_wp2_with fail
        clear hcat hcat2
        have k4 := H4.out.count 4096 (by omega) (by omega)
        rw [show (4096 : Int).toNat = 4096 from rfl, Hh4.out] at k4
        refine k4.mono ?_
        rintro e w5 ⟨rfl, H5⟩
        replace H5 := Aside0.mk H5.newData
        clear k4
        go_wp2_with fail
        rw [toB_take, toB_append]
        have hX := HX2.out
        have hPL : (was.take n1 ++ pl).length ≤ 96 * (i + 1) := by
          have h1 := C2.out
          have h2 := C3.out
          have h3 := HW.out
          rw [List.length_append, List.length_take]
          omega
        generalize was.take n1 ++ pl = P at hX hPL ⊢
        have HPL := Aside0.mk hPL
        clear hPL
        generalize hO : dataR (size + 1) size [] r4 = OUT at hX
        have HO := Aside0.mk hO
        have HX3 := Aside0.mk hX
        have hsz := C4.out
        clear hO hX HX2
        obtain ⟨w5', rfl⟩ : ∃ w5', w5' = w5 := ⟨_, rfl⟩
        go_loopg [9] (size + 1) (fun gg s9 wr => ∃ (d : List UInt8) (r : Rd) (A : Option Addr) (c : Nat), 1 ≤ gg ∧ size + 1 ≤ d.length + gg ∧ d.length ≤ 8192 ∧ s9 = .slice A d.length c ∧ Aside0 (dataR gg size d r = OUT) ∧ Aside0 (St w wr w.heap.size r u5 l (.slice A d.length c) d))
        case atStart => exact ⟨[], r4, none, 0, by omega, by simp, by simp, rfl, HO, H5⟩
        case round =>
          obtain ⟨d, r, A, c, hg1, hg2, hd8, rfl, HD, HS6⟩ := hrel
          obtain ⟨gk2, rfl⟩ : ∃ m, gk = m + 1 := ⟨gk - 1, by omega⟩
          clear H2 H3 H4 H5 H
          by_cases hdl : d.length < size
          · have hdz : (d.length : Int) < (size : Int) := by omega
            have hD := HD.out
            unfold dataR at hD
            rw [if_neg (by omega)] at hD
            have kc := HS6.out.count 8193 (by omega) (by omega)
            rw [show (8193 : Int).toNat = 8193 from rfl] at kc
            have cb := (cntR_bound 8193 r).1
            generalize hc : cntR 8193 r = q at hD kc cb
            obtain ⟨n, r1⟩ := q
            dsimp only at hD kc cb
            clear hc HD
            go_wp2_with fail
            refine kc.mono ?_
            rintro e w6 ⟨rfl, H6⟩
            have okc := H6.okCell
            replace H6 := Aside0.mk H6
            clear kc
            obtain ⟨s1, ok1⟩ := r1
            dsimp only at okc hD
            cases ok1 with
            | false =>
              rw [if_neg (by simp)] at hD
              have HZ := Aside0.mk (show l = FIN by have := HX3.out; rw [← hD] at this; exact this)
              clear hD
              go_wp2_with fail
              go_meet
              case rel => exact ⟨_, _, _, by rw [← HZ.out]; exact H6⟩
            | true =>
              by_cases hn : 2 ≤ n
              · rw [if_pos ⟨rfl, hn⟩] at hD
                have hnz : decide ((n : Int) < 2) = false := decide_eq_false (by omega)
                by_cases he : n % 2 = 0
                · rw [if_pos he] at hD
                  have hez : ((n : Int) % 2 == 0) = true := beq_iff_eq.mpr (by omega)
                  have kt := H6.out.take ((n : Int) / 2) (by omega)
                  have htn : ((n : Int) / 2).toNat = n / 2 := by omega
                  rw [htn] at kt
                  have tb := takeR_bound (n / 2) ⟨s1, true⟩
                  generalize ht : takeR (n / 2) ⟨s1, true⟩ = q at hD kt tb
                  obtain ⟨pt, r2⟩ := q
                  dsimp only at hD kt tb
                  have HD2 := Aside0.mk hD
                  have TB := Aside0.mk tb
                  have HLn := Aside0.mk (show (ints d).length + (toB pt).size ≤ 140737488355328 by
                    rw [ints_length, toB_size]; omega)
                  clear ht tb hD htn
                  go_wp2_with fail
                  refine kt.mono ?_
                  rintro e w7 ⟨rfl, H7⟩
                  replace H7 := Aside0.mk H7
                  clear kt
                  clear okc
                  obtain ⟨s2, ok2⟩ := r2
                  cases ok2 with
                  | true =>
                    have hD := HD2.out
                    rw [if_pos rfl] at hD
                    have HD3 := Aside0.mk hD
                    have HPT := Aside0.mk (TB.out.2.2 rfl)
                    clear hD
                    go_wp2_with (at_builtin; refine print_append_str (w0 := w) w.heap.size rfl (.tmp 53) (.tmp 57) 38 9 5 rfl Try.underlying38 Try.underlying9 info5 (.slice A d.length c) (ints d) (toB pt) rfl rfl (Kd.own_of_R H7.out.dat) H7.out.bel H7.out.bel.size HLn.out ?_; intro v8 w8 ho8 hb8 hg8; have HS8 := Aside0.mk (St.dataStr H7.out ho8 hb8 hg8); clear ho8 hb8 hg8; obtain ⟨A8, c8, hv8, hl8⟩ := HS8.out.datSlice; subst hv8; clear hl8; have okc8 := HS8.out.okCell)
                    go_roundg gk2
                    case measure => omega
                    case rel =>
                      refine ⟨d ++ pt, ⟨s2, true⟩, A8, c8, ?_, ?_, ?_, by rw [List.length_append], HD3, HS8⟩
                      · have := HPT.out; omega
                      · have := HPT.out; rw [List.length_append]; omega
                      · have := HPT.out; rw [List.length_append]; omega
                  | false =>
                    have hD := HD2.out
                    rw [if_neg (by simp)] at hD
                    have HZ := Aside0.mk (show l = FIN by have := HX3.out; rw [← hD] at this; exact this)
                    clear hD
                    go_wp2_with (at_builtin; refine print_append_str (w0 := w) w.heap.size rfl (.tmp 53) (.tmp 57) 38 9 5 rfl Try.underlying38 Try.underlying9 info5 (.slice A d.length c) (ints d) (toB pt) rfl rfl (Kd.own_of_R H7.out.dat) H7.out.bel H7.out.bel.size HLn.out ?_; intro v8 w8 ho8 hb8 hg8; have HS8 := Aside0.mk (St.dataStr H7.out ho8 hb8 hg8); clear ho8 hb8 hg8; obtain ⟨A8, c8, hv8, hl8⟩ := HS8.out.datSlice; subst hv8; clear hl8; have okc8 := HS8.out.okCell)
                    go_meet
                    case rel => exact ⟨_, _, _, by rw [← HZ.out]; exact HS8⟩
                · rw [if_neg he] at hD
                  have hez : ((n : Int) % 2 == 0) = false := beq_eq_false_iff_ne.mpr (by omega)
                  have kt := H6.out.take 1 (by omega)
                  rw [show (1 : Int).toNat = 1 from rfl] at kt
                  have tb := takeR_bound 1 ⟨s1, true⟩
                  generalize ht : takeR 1 ⟨s1, true⟩ = q at hD kt tb
                  obtain ⟨pt, r2⟩ := q
                  dsimp only at hD kt tb
                  have HD2 := Aside0.mk hD
                  have TB := Aside0.mk tb
                  clear ht tb hD
                  go_wp2_with fail
                  refine kt.mono ?_
                  rintro e w7 ⟨rfl, H7⟩
                  clear kt okc
                  have okc7 := H7.okCell
                  replace H7 := Aside0.mk H7
                  obtain ⟨s2, ok2⟩ := r2
                  dsimp only at okc7
                  cases ok2 with
                  | false =>
                    have hD := HD2.out
                    rw [if_neg (by simp)] at hD
                    have HZ := Aside0.mk (show l = FIN by have := HX3.out; rw [← hD] at this; exact this)
                    clear hD
                    go_wp2_with fail
                    go_meet
                    case rel => exact ⟨_, _, _, by rw [← HZ.out]; exact H7⟩
                  | true =>
                    have hD := HD2.out
                    rw [if_pos rfl] at hD
                    have hpt := TB.out.2.2 rfl
                    obtain ⟨cc, rfl⟩ : ∃ cc, pt = [cc] := by
                      rcases pt with _ | ⟨cc, _ | ⟨c2, t2⟩⟩
                      · simp at hpt
                      · exact ⟨cc, rfl⟩
                      · simp at hpt
                    have HD3 := Aside0.mk (show dataR gk2 size (d ++ List.replicate (n / 2) cc) ⟨s2, true⟩ = OUT from hD)
                    clear hD hpt HD2
                    have kb := print_bytes (P := Try.prog) 9 38 5 Try.underlying9 Try.underlying38 Try.underlying5 (toB [cc]) w7
                    have hz1 : (toB [cc]).size = 1 := rfl
                    rw [hz1] at kb
                    have hb8 : Below w7.heap.size w7 (Lib.bytesWorld w7 5 (toB [cc])) := bytes_below (Below.refl _ _) (Nat.le_refl _) 5 _
                    have H8 := Aside0.mk (H7.out.world hb8)
                    have hC8 : Kd.C (Kd.int .u8) (Lib.bytesWorld w7 5 (toB [cc])) (some ⟨w7.heap.size, 0, none⟩) 1 [(cc.toNat : Int)] := Kd.C_of_reads (enc := fun x => .int .u8 x) (d := 0) (h1 := fun _ => rfl) (bytes_reads w7 5 (toB [cc]) (by rw [hz1]; omega))
                    have kr := repeat_calls (some ⟨w7.heap.size, 0, none⟩) (grownCap w7 1 0 5) (cc.toNat : Int) (n / 2) (by omega) (by omega) (Lib.bytesWorld w7 5 (toB [cc])) hC8
                    have hq2 : (n : Int) / 2 = ((n / 2 : Nat) : Int) := by omega
                    have HQ2 := Aside0.mk hq2
                    obtain ⟨W8, hW8⟩ : ∃ W8, W8 = Lib.bytesWorld w7 5 (toB [cc]) := ⟨_, rfl⟩
                    rw [← hW8] at kb kr H8
                    have hpos : (0 : Int) ≤ (n : Int) / 2 := by omega
                    have HLn := Aside0.mk (show ((ints d).length + n / 2) * 1 ≤ 140737488355328 by rw [ints_length]; omega)
                    have HN2 := Aside0.mk (show 1 ≤ n / 2 ∧ n / 2 ≤ 4096 by omega)
                    clear hW8 hC8 hb8 hz1 hq2
                    go_wp2_with fail
                    rw [HQ2.out]
                    refine kr.mono ?_
                    rintro e w9 ⟨vr, rfl, hRr, hb9⟩
                    obtain ⟨Ar, cr, rfl, hlr, hCr⟩ := Kd.R_reads hRr
                    have H9 := Aside0.mk (H8.out.world hb9)
                    have HCr := Aside0.mk hCr
                    have hlr2 : (List.replicate (n / 2) (cc.toNat : Int)).length = n / 2 := by simp
                    rw [hlr2] at HCr
                    simp only [hlr2]
                    clear kr kb hRr hb9 hlr hCr hlr2 H8 okc7
                    go_wp2_with (at_builtin; refine Kd.R_append_rows (Kd.int .u8) (w0 := w) w.heap.size rfl (.tmp 65) (.tmp 70) 38 5 (.int .u8 0) 1 rfl Try.underlying38 info5 rfl (by decide) (by decide) (.slice A d.length c) (ints d) (List.replicate (n / 2) (cc.toNat : Int)) Ar (n / 2) cr (fun _ => True) (fun _ => False) rfl rfl H9.out.dat HCr.out (fun x cs h => h) (fun _ h => h.elim) (fun _ _ => trivial) H9.out.bel H9.out.bel.size HLn.out ?_; intro v10 w10 hR10 hb10 hg10 _; have HS8 := Aside0.mk (St.dataRep H9.out hR10 hb10 hg10); clear hR10 hb10 hg10; obtain ⟨A8, c8, hv8, hl8⟩ := HS8.out.datSlice; subst hv8; clear hl8; have okc8 := HS8.out.okCell)
                    go_roundg gk2
                    case measure => omega
                    case rel =>
                      refine ⟨d ++ List.replicate (n / 2) cc, ⟨s2, true⟩, A8, c8, ?_, ?_, ?_, by rw [List.length_append, List.length_replicate], HD3, HS8⟩
                      · have := HN2.out; omega
                      · have := HN2.out; rw [List.length_append, List.length_replicate]; omega
                      · have := HN2.out; rw [List.length_append, List.length_replicate]; omega
              · rw [if_neg (fun h => hn h.2)] at hD
                have hnz : decide ((n : Int) < 2) = true := decide_eq_true (by omega)
                have HZ := Aside0.mk (show l = FIN by have := HX3.out; rw [← hD] at this; exact this)
                clear hD
                go_wp2_with fail
                go_meet
                case rel => exact ⟨_, _, _, by rw [← HZ.out]; exact H6⟩
          · have hdz : ¬ (d.length : Int) < (size : Int) := by omega
            have hD := HD.out
            unfold dataR at hD
            rw [if_pos (by omega)] at hD
            have HX4 := Aside0.mk (show filesR (N - (i + 1)) (l ++ [(P, d)]) P r = FIN by have := HX3.out; rw [← hD] at this; exact this)
            clear hD HX3
            have hcv := own_string (P := Try.prog) Try.underlying38 Try.underlying5 Try.underlying9 (Kd.own_of_R HS6.out.dat)
            rw [str_ints] at hcv
            change _ = Result.ok (Value.string (toB d)) _ at hcv
            have HLn := Aside0.mk (show ((l.map sOf).length + 1) * 32 ≤ 140737488355328 by
              have := HL.out
              rw [List.length_map]
              omega)
            go_wp2_with (at_builtin; refine Kd.R_append k33 (w0 := w) w.heap.size rfl (.tmp 77) (.tmp 82) 22 33 (.agg #[.string ⟨#[]⟩, .string ⟨#[]⟩]) 32 rfl Try.underlying22 info33 rfl (by decide) (by omega) u5 (l.map sOf) (sOf (P, d)) [.string (toB P), .string (toB d)] (fun _ => True) (fun _ => False) rfl rfl (k33_mkM _ _ _ _) (fun _ h => h.elim) (fun _ _ => trivial) HS6.out.row HS6.out.bel HS6.out.bel.size HLn.out ?_; intro v9 w9 hR9 hb9 hg9 _; have H9 := Aside0.mk (St.push HS6.out hR9 hb9 hg9); clear hR9 hb9 hg9 hcv)
            go_roundg (N - (i + 1))
            case measure => omega
            case rel => exact ⟨i + 1, l ++ [(P, d)], P, r, _, d, by omega, by omega, by go_num, rfl, HPL, HX4, ⟨by rw [List.length_append, HL.out]; rfl⟩, H9⟩
      · have hltz : ¬ (i : Int) < (N : Int) := by omega
        have hE := HX.out
        rw [show N - i = 0 by omega] at hE
        have HE := Aside0.mk (show l = FIN from hE)
        clear hE
        go_wp2_with fail
        go_meet
        case rel => exact ⟨r, dv, d, by rw [← HE.out]; exact H⟩
  case rest =>
    obtain ⟨r, dv, d, H⟩ := hcut
    obtain ⟨A, c, hAc, hlc, hC⟩ := Kd.R_reads H.out.row
    have kp := pack_calls A c (FIN.map sOf) wc hC hlc
    rw [List.length_map] at hAc kp
    have HR := Aside0.mk H.out.row
    have HB := Aside0.mk H.out.bel
    have hpe : packE (FIN.map sOf) = if checkE (FIN.map sOf) = 0 then (toB (packB FIN), 0) else (⟨#[]⟩, checkE (FIN.map sOf)) := by
      unfold packE
      rw [map_flOf_sOf]
    subst hAc
    clear hlc hC H H1 HF
    by_cases hck : checkE (FIN.map sOf) = 0
    · rw [if_pos hck] at hpe
      rw [hpe] at kp
      by_cases hps : toB (packB FIN) = s
      · rw [hps] at kp
        have HVV := Aside0.mk (show v = (FIN.map sOf, 0) by rw [HV.out, if_pos ⟨hck, hps⟩])
        clear hpe hck hps
        go_wp2_with (go_at_call 30; refine kp.mono ?_; rintro e w2 ⟨rfl, hb2⟩)
        simp +zetaDelta only [Exit.noGoto_ret, Exit.inBlock, Exit.then]
        go_ret2
        exact ⟨.slice A FIN.length c, by rw [HVV.out]; rfl, by rw [HVV.out]; exact Kd.R_below HR.out hb2, HB.out.trans (hb2.mono HB.out.size)⟩
      · have hne : ((toB (packB FIN)).toList == s.toList) = false := beq_eq_false_iff_ne.mpr (fun h => hps (bytes_ext h))
        have hne2 : ((toB (packB FIN)).toList != s.toList) = true := bne_iff_ne.mpr (fun h => hps (bytes_ext h))
        have HVV := Aside0.mk (show v = ([], 4) by rw [HV.out, if_neg (fun h => hps h.2)])
        generalize toB (packB FIN) = q at kp hne hne2 hps
        clear hpe hck hps
        go_wp2_with (go_at_call 30; refine kp.mono ?_; rintro e w2 ⟨rfl, hb2⟩)
        simp +zetaDelta only [Exit.noGoto_ret, Exit.inBlock, Exit.then]
        go_ret2
        exact ⟨.slice none 0 0, by rw [HVV.out]; rfl, by rw [HVV.out]; exact Kd.R_nil _ _ _ _ _, HB.out.trans (hb2.mono HB.out.size)⟩
    · rw [if_neg hck] at hpe
      rw [hpe] at kp
      have d1 : (checkE (FIN.map sOf) == 0) = false := beq_eq_false_iff_ne.mpr hck
      have d2 : (checkE (FIN.map sOf) != 0) = true := bne_iff_ne.mpr hck
      have HVV := Aside0.mk (show v = ([], 4) by rw [HV.out, if_neg (fun h => hck h.1)])
      generalize checkE (FIN.map sOf) = x at kp d1 d2 hck
      clear hpe hck
      go_wp2_with (go_at_call 30; refine kp.mono ?_; rintro e w2 ⟨rfl, hb2⟩)
      simp +zetaDelta only [Exit.noGoto_ret, Exit.inBlock, Exit.then]
      go_ret2
      exact ⟨.slice none 0 0, by rw [HVV.out]; rfl, by rw [HVV.out]; exact Kd.R_nil _ _ _ _ _, HB.out.trans (hb2.mono HB.out.size)⟩

def unpackE (s : ByteArray) : List S33 × Int :=
  if checkE ((unpackR s.data.toList).map sOf) = 0 ∧ toB (packB (unpackR s.data.toList)) = s then ((unpackR s.data.toList).map sOf, 0) else ([], 4)
def pack_Unpack.f (a0 : ByteArray) : Option (List S33 × Int) := if a0.size ≤ 1000000 then some (unpackE a0) else none
theorem pack_Unpack.calls (a0 : ByteArray) (r1 : List S33) (r2 : Int) (w : World) (h : pack_Unpack.f a0 = some (r1, r2)) :
    Calls Try.prog 34 #[.string a0] w fun e w' => ∃ v0_ : Value, e = .returned (.tuple #[v0_, .int .i64 r2]) ∧ Kd.R k33 33 w' w.heap.size (fun _ => True) v0_ r1 ∧ Below w.heap.size w w' := by
  unfold pack_Unpack.f at h
  split at h
  · rename_i hc
    have h1 : unpackE a0 = (r1, r2) := by simpa using h
    have := unpack_walk a0 hc w (unpackE a0) (unpackR a0.data.toList) (by unfold unpackR; rfl) rfl
    rw [h1] at this
    exact this
  · cases h
#print axioms pack_Unpack.calls
end Go.Proofs.Ytgbkoeinfhlpoaa.F
