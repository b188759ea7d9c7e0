/- math/bits.Len64 below 2^32, and code.groups: how many groups of seven bits a number has. (The walk's end follows the kit's own make of this contract.) -/
/- code.lay: a number's groups, and a text, behind bytes, in room of their own. -/
import Derived.Test.YtgbkoeinfhlpoaaEDef
import Derived.Lib.Strings
import Derived.Lib.Slices
import Derived.Lib.Small
import Derived.Lib.Walk
import Derived.Lib.BitFns
import Derived.Deep.Light
import Derived.Test.YtgbkoeinfhlpoaaEPkLen
namespace Go.Proofs.Ytgbkoeinfhlpoaa.F
open Go.RowKit
set_option linter.unusedVariables false
set_option linter.unusedSimpArgs false

set_option maxRecDepth 100000 in
theorem len8tab_size : (Lib.len8tab.size : Int) = 256 := by
  have : Lib.len8tab.size = 256 := by decide
  omega
theorem wrap_add (k a b : Nat) (hk : k ≤ 56) (ha : a ≤ 8) (hb : b = k + a) : RowKit.wrap64 ((k : Int) + RowKit.wrap64 (a : Int)) = (b : Int) := by
  unfold RowKit.wrap64
  omega
theorem wrap_wrap (a : Nat) (ha : a ≤ 8) : RowKit.wrap64 (RowKit.wrap64 (a : Int)) = (a : Int) := by
  unfold RowKit.wrap64
  omega
theorem wrap_one (a : Nat) (ha : a ≤ 8) : RowKit.wrap64 (a : Int) = (a : Int) := by
  unfold RowKit.wrap64
  omega
theorem len8_get (y : Int) (h : y.toNat < Lib.len8tab.size) : ((Lib.len8tab[y.toNat]'h).toNat : Int) = Lib.len8 y := by
  unfold Lib.len8
  rw [getElem?_pos Lib.len8tab y.toNat h]
  rfl

set_option maxHeartbeats 8000000 in
set_option maxRecDepth 1000000 in
theorem bits_Len64 (x : Int) (w : World) (h0 : 0 ≤ x) (h1 : x ≤ 4294967295) :
    Calls Try.prog 116 #[.int .u64 x] w fun e w' => e = .returned (.int .i64 (Lib.bitLen x.toNat)) ∧ w' = w := by
  go_enter Try.func116, Try.ntmps116
  go_wp2
  all_goals first
    | (go_ret; refine ⟨congrArg Ending.returned (congrArg (Value.int IntKind.i64) ?_), rfl⟩; go_light)
    | (exfalso
       go_light
       have hs := len8tab_size
       omega)
  all_goals first
    | (rw [len8_get (x / 65536 / 256) _, Lib.len8_of (x / 65536 / 256) (by omega) (by omega)]
       have e : (x / 65536 / 256).toNat = x.toNat / 16777216 := by omega
       have l := Lib.bitLen_le8' (x / 65536 / 256) (by omega) (by omega)
       have s := Lib.bitLen_shift24 x.toNat (by omega) (by omega)
       rw [e] at l ⊢
       exact wrap_add 24 _ _ (by decide) l s)
    | (rw [len8_get (x / 65536) _, Lib.len8_of (x / 65536) (by omega) (by omega)]
       have e : (x / 65536).toNat = x.toNat / 65536 := by omega
       have l := Lib.bitLen_le8' (x / 65536) (by omega) (by omega)
       have s := Lib.bitLen_shift16 x.toNat (by omega) (by omega)
       rw [e] at l ⊢
       exact wrap_add 16 _ _ (by decide) l s)
    | (rw [len8_get (x / 256) _, Lib.len8_of (x / 256) (by omega) (by omega)]
       have e : (x / 256).toNat = x.toNat / 256 := by omega
       have l := Lib.bitLen_le8' (x / 256) (by omega) (by omega)
       have s := Lib.bitLen_shift8 x.toNat (by omega) (by omega)
       rw [e] at l ⊢
       exact wrap_add 8 _ _ (by decide) l s)
    | (rw [len8_get (x) _, Lib.len8_of (x) (by omega) (by omega)]
       have e : (x).toNat = x.toNat := by omega
       have l := Lib.bitLen_le8' (x) (by omega) (by omega)
       rw [e] at l ⊢
       first | exact wrap_wrap _ l | exact wrap_add 0 _ _ (by decide) l (by omega) | exact wrap_one _ l)

/-- How many groups. -/
def nG (u : Nat) : Nat := max 1 ((Lib.bitLen u + 6) / 7)
theorem bitLen_pow : ∀ (f x : Nat), x < 2 ^ 64 → x < 2 ^ f → Lib.bitLen x ≤ f
  | 0, x, _, h => by
    have : x = 0 := by simp at h; exact h
    subst this; decide
  | f + 1, x, h64, h => by
    by_cases h0 : x = 0
    · subst h0
      exact Nat.le_trans (by decide : Lib.bitLen 0 ≤ 0) (Nat.zero_le _)
    · rw [Lib.bitLen_half x h0 h64]
      have := bitLen_pow f (x / 2) (by omega) (by rw [Nat.pow_succ] at h; omega)
      omega
theorem nG_le (u : Nat) (h : u < 4294967296) : nG u ≤ 5 := by
  have := bitLen_pow 32 u (by omega) h
  unfold nG; omega
theorem bitLen_below : ∀ (x : Nat), x < 2 ^ 64 → x < 2 ^ Lib.bitLen x := by
  intro x
  induction x using Nat.strongRecOn with
  | _ x ih =>
    intro h
    by_cases h0 : x = 0
    · subst h0; exact Nat.two_pow_pos _
    · rw [Lib.bitLen_half x h0 h]
      have := ih (x / 2) (by omega) (by omega)
      rw [Nat.add_comm, Nat.pow_succ]
      omega

set_option maxHeartbeats 1000000 in
set_option maxRecDepth 100000 in
theorem groups_calls (x : Int) (w : World) (h0 : 0 ≤ x) (h1 : x ≤ 4294967295) :
    Calls Try.prog 120 #[.int .u64 x] w fun e w' => e = .returned (.int .i64 (nG x.toNat)) ∧ w = w' := by
  have hc := bits_Len64 x w h0 h1
  have hb := bitLen_pow 32 x.toNat (by omega) (by omega)
  have hn : nG x.toNat = max 1 ((Lib.bitLen x.toNat + 6) / 7) := rfl
  rw [hn]
  generalize Lib.bitLen x.toNat = b at hc hb ⊢
  clear hn h0 h1
  go_enter Try.func120, Try.ntmps120
  go_wp2_with (go_at_call 116; refine hc.mono ?_; rintro e w' ⟨rfl, rfl⟩)
  go_ret
  refine ⟨congrArg Ending.returned (congrArg (Value.int .i64) ?_), rfl⟩
  omega
#print axioms bits_Len64
end Go.Proofs.Ytgbkoeinfhlpoaa.F

namespace Go.Proofs.Ytgbkoeinfhlpoaa.F
open Go.RowKit Go.Proofs.YtgbkoeinfhlpoaaW.PrintWords Go.Proofs.YtgbkoeinfhlpoaaW.PrintLast Go.Proofs.YtgbkoeinfhlpoaaW.PrintMore
set_option linter.unusedVariables false
set_option linter.unusedSimpArgs false

def ints (l : List UInt8) : List Int := l.map fun b => (b.toNat : Int)

theorem nG_small (m : Nat) (h : m < 128) : nG m = 1 := by
  have := bitLen_pow 7 m (by omega) (by omega)
  unfold nG; omega
theorem nG_more (m : Nat) (h : 128 ≤ m) (h2 : m < 4294967296) : nG m = nG (m / 128) + 1 := by
  have h7 := Lib.bitLen_shift 7 m (by omega) (by omega)
  have hp : 1 ≤ Lib.bitLen (m / 128) := by
    rw [Lib.bitLen_half (m / 128) (by omega) (by omega)]; omega
  have e : (2 : Nat) ^ 7 = 128 := rfl
  rw [e] at h7
  unfold nG
  omega
theorem cntF_get : ∀ (f m : Nat), m < 4294967296 → m < 128 ^ f → 1 ≤ f → (cntF f m).length = nG m ∧ ∀ j, j < nG m → (cntF f m)[j]? = some (UInt8.ofNat (if j + 1 = nG m then m / 128 ^ j % 128 else 128 + m / 128 ^ j % 128))
  | 0, m, _, _, h => by omega
  | f + 1, m, h32, h, _ => by
    unfold cntF
    by_cases h1 : m < 128
    · rw [if_pos h1, nG_small m h1]
      refine ⟨rfl, fun j hj => ?_⟩
      obtain rfl : j = 0 := by omega
      simp
      rw [Nat.mod_eq_of_lt h1]
    · rw [if_neg h1, nG_more m (by omega) h32]
      have hf : 1 ≤ f := by
        rcases Nat.eq_zero_or_pos f with h0 | h0
        · subst h0; simp at h; omega
        · exact h0
      rw [Nat.pow_succ] at h
      obtain ⟨i1, i2⟩ := cntF_get f (m / 128) (by omega) (by omega) hf
      refine ⟨by rw [List.length_cons, i1], fun j hj => ?_⟩
      cases j with
      | zero =>
        rw [List.getElem?_cons_zero, if_neg (by unfold nG; omega)]
        simp
      | succ j =>
        rw [List.getElem?_cons_succ, i2 j (by omega)]
        have e : m / 128 / 128 ^ j = m / 128 ^ (j + 1) := by rw [Nat.div_div_eq_div_mul, Nat.pow_succ, Nat.mul_comm]
        rw [e]
        congr 2
        by_cases hc : j + 1 = nG (m / 128)
        · rw [if_pos hc, if_pos (by omega)]
        · rw [if_neg hc, if_neg (by omega)]
theorem cntB_length (m : Nat) (h : m < 4294967296) : (cntB m).length = nG m := (cntF_get 10 m h (by omega) (by omega)).1
theorem or128 : ∀ x : Fin 256, Go.bits BinOp.or IntKind.u8 (x.val : Int) 128 = ((128 + x.val % 128 : Nat) : Int) := by decide +kernel
theorem andNot128 : ∀ x : Fin 256, Go.bits BinOp.andNot IntKind.u8 (x.val : Int) 128 = ((x.val % 128 : Nat) : Int) := by decide +kernel
theorem group_int (a1 : Int) (k : Nat) (h0 : 0 ≤ a1) : a1 / 2 ^ (7 * k) % 256 = ((a1.toNat / 128 ^ k % 256 : Nat) : Int) := by
  obtain ⟨m, rfl⟩ := Int.eq_ofNat_of_zero_le h0
  have e : (2 : Int) ^ (7 * k) = ((128 ^ k : Nat) : Int) := by
    rw [show (128 : Nat) = 2 ^ 7 from rfl, ← Nat.pow_mul]
    simp
  rw [Int.toNat_natCast, e]
  omega
theorem cnt_more (a1 : Int) (k : Nat) (h0 : 0 ≤ a1) (h1 : a1 ≤ 4294967295) (hk : k < nG a1.toNat) (hl : ¬ k + 1 = nG a1.toNat) :
    (ints (cntB a1.toNat)).take (k + 1) = (ints (cntB a1.toNat)).take k ++ [Go.bits BinOp.or IntKind.u8 (a1 / 2 ^ (7 * k) % 256) 128] := by
  have hg := (cntF_get 10 a1.toNat (by omega) (by omega) (by omega)).2 k hk
  rw [if_neg hl] at hg
  have hb := or128 ⟨a1.toNat / 128 ^ k % 256, by omega⟩
  have e : a1.toNat / 128 ^ k % 256 % 128 = a1.toNat / 128 ^ k % 128 := by omega
  simp only [e] at hb
  rw [List.take_add_one, group_int a1 k h0, hb]
  have : (ints (cntB a1.toNat))[k]? = some (((128 + a1.toNat / 128 ^ k % 128 : Nat) : Int)) := by
    unfold ints cntB
    rw [List.getElem?_map, hg]
    simp only [Option.map_some]
    rw [toNat_ofNat (by omega)]
  rw [this]
  rfl
theorem cnt_last (a1 : Int) (k : Nat) (h0 : 0 ≤ a1) (h1 : a1 ≤ 4294967295) (hl : k + 1 = nG a1.toNat) :
    (ints (cntB a1.toNat)).take (k + 1) = (ints (cntB a1.toNat)).take k ++ [Go.bits BinOp.andNot IntKind.u8 (Go.bits BinOp.or IntKind.u8 (a1 / 2 ^ (7 * k) % 256) 128) 128] := by
  have hg := (cntF_get 10 a1.toNat (by omega) (by omega) (by omega)).2 k (by omega)
  rw [if_pos hl] at hg
  have hb := or128 ⟨a1.toNat / 128 ^ k % 256, by omega⟩
  have e : a1.toNat / 128 ^ k % 256 % 128 = a1.toNat / 128 ^ k % 128 := by omega
  simp only [e] at hb
  have hb2 := andNot128 ⟨128 + a1.toNat / 128 ^ k % 128, by omega⟩
  have e2 : (128 + a1.toNat / 128 ^ k % 128) % 128 = a1.toNat / 128 ^ k % 128 := by omega
  simp only [e2] at hb2
  rw [List.take_add_one, group_int a1 k h0, hb, hb2]
  have : (ints (cntB a1.toNat))[k]? = some (((a1.toNat / 128 ^ k % 128 : Nat) : Int)) := by
    unfold ints cntB
    rw [List.getElem?_map, hg]
    simp only [Option.map_some]
    rw [toNat_ofNat (by omega)]
  rw [this]
  rfl
theorem ints_length (l : List UInt8) : (ints l).length = l.length := by simp [ints]

set_option maxHeartbeats 2000000 in
set_option maxRecDepth 100000 in
theorem lay_calls (A0 : Option Addr) (c0 : Nat) (l0 : List Int) (a1 : Int) (a2 : ByteArray) (w : World) (hr0 : Kd.C (Kd.int .u8) w A0 l0.length l0) (hc0 : l0.length ≤ c0) (h0 : 0 ≤ a1) (h1 : a1 ≤ 4294967295) (hl0 : l0.length ≤ 1000000000) (hl2 : a2.size ≤ 1000000000) :
    Calls Try.prog 96 #[.slice A0 l0.length c0, .int .u64 a1, .string a2] w fun e w' => ∃ v0_ : Value, e = .returned (v0_) ∧ Kd.R (Kd.int .u8) 5 w' w.heap.size (fun _ => True) v0_ (l0 ++ ints (cntB a1.toNat) ++ bytesOf a2) ∧ Below w.heap.size w w' := by
  have hg := groups_calls a1 w h0 h1
  have hn := nG_le a1.toNat (by omega)
  have HL := Aside0.mk (cntB_length a1.toNat (by omega))
  have HM := Aside0.mk (fun k => cnt_more a1 k h0 h1)
  have HE := Aside0.mk (fun k => cnt_last a1 k h0 h1)
  generalize nG a1.toNat = n at hg hn HL HM HE
  have HR := Aside0.mk hr0
  obtain ⟨i0, hi, hz0, hz1, hz2⟩ := info_parts info5
  have HI := Aside0.mk (And.intro hi (And.intro hz0 (And.intro hz1 hz2)))
  clear hr0 hi hz0 hz1 hz2
  go_enter Try.func96, Try.ntmps96
  go_wp2_with (first
    | (go_at_call 120; refine hg.mono ?_; rintro e w' ⟨rfl, rfl⟩)
    | (at_make; refine wpList_make_own _ rfl _ _ 38 rfl w.heap.size 5 i0 (.int .u8 0) 1 Try.underlying38 HI.out.1 HI.out.2.1 HI.out.2.2.1 .i64 .i64 _ (l0.length + n + a2.size) rfl rfl (by omega) (by rw [HI.out.2.2.2]; omega) (by unfold maxLen; omega) (Nat.le_refl _) ?_; intro w0 hown0 hg0; have HO := Aside0.mk (Kd.R_of_own (α := Int) (enc := fun x => .int .u8 x) (h1 := fun _ => rfl) (xs := []) (ok := fun _ => True) hown0 (fun _ _ => trivial)); have HB := Aside0.mk ((Below.refl _ w).grown hg0 (Nat.le_refl _) (fun k h => by cases h)); clear hown0 hg0)
    | (at_builtin; refine Kd.R_append_rows (Kd.int .u8) (w0 := w) w.heap.size rfl (.tmp 21) (.tmp 22) 38 5 (.int .u8 0) 1 rfl Try.underlying38 info5 rfl (by decide) (by decide) _ [] l0 A0 l0.length c0 (fun _ => True) (fun _ => False) rfl rfl HO.out (Kd.C_below HR.out HB.out) (fun x cs h => h) (fun _ h => h.elim) (fun _ _ => trivial) HB.out HB.out.size (by simp; omega) ?_; intro v1 w1 hR1 hB1 _ _; clear HO HB; have HO := Aside0.mk hR1; have HB := Aside0.mk hB1; clear hR1 hB1))
  go_loopg [8, 25, 9, 10] (n + 1) (fun gg s8 s25 s9 s10 wr => ∃ k : Nat, k ≤ n ∧ n - k ≤ gg ∧ s25 = .int .i64 k ∧ Aside0 (Kd.R (Kd.int .u8) 5 wr w.heap.size (fun _ => True) s8 (l0 ++ (ints (cntB a1.toNat)).take k)) ∧ Aside0 (Below w.heap.size w wr))
  case atStart => exact ⟨0, by omega, by omega, rfl, ⟨by simpa using HO.out⟩, HB⟩
  case round =>
    obtain ⟨k, hk, hgk, rfl, HO, HB⟩ := hrel
    have HLn := Aside0.mk (show ((l0 ++ (ints (cntB a1.toNat)).take k).length + 1) * 1 ≤ 140737488355328 by
      have h1 := HL.out
      have h2 := ints_length (cntB a1.toNat)
      rw [List.length_append, List.length_take]
      omega)
    by_cases hlt : k < n
    · have hltz : (k : Int) < (n : Int) := by omega
      by_cases hl : k + 1 = n
      · have hle : ((k : Int) == (n : Int) - 1) = true := beq_iff_eq.mpr (by omega)
        have HT := Aside0.mk (HE.out k hl)
        go_wp2_with (at_builtin; refine Kd.R_append (Kd.int .u8) (w0 := w) w.heap.size rfl (.tmp 40) (.tmp 42) 38 5 (.int .u8 0) 1 rfl Try.underlying38 info5 rfl (by decide) (by decide) _ _ (Go.bits BinOp.andNot IntKind.u8 (Go.bits BinOp.or IntKind.u8 (a1 / 2 ^ (7 * k) % 256) 128) 128) [.int .u8 (Go.bits BinOp.andNot IntKind.u8 (Go.bits BinOp.or IntKind.u8 (a1 / 2 ^ (7 * k) % 256) 128) 128)] (fun _ => True) (fun _ => False) rfl rfl rfl (fun _ hk => hk.elim) (fun _ _ => trivial) HO.out HB.out HB.out.size HLn.out ?_; intro v2 w2 hR2 hB2 _ _; have HO2 := Aside0.mk hR2; have HB2 := Aside0.mk hB2; clear hR2 hB2)
        go_roundg (n - (k + 1))
        case measure => omega
        case rel => exact ⟨k + 1, by omega, by omega, by go_num, ⟨by rw [HT.out, ← List.append_assoc]; exact HO2.out⟩, HB2⟩
      · have hle : ((k : Int) == (n : Int) - 1) = false := beq_eq_false_iff_ne.mpr (by omega)
        have HT := Aside0.mk (HM.out k hlt hl)
        go_wp2_with (at_builtin; refine Kd.R_append (Kd.int .u8) (w0 := w) w.heap.size rfl (.tmp 40) (.tmp 42) 38 5 (.int .u8 0) 1 rfl Try.underlying38 info5 rfl (by decide) (by decide) _ _ (Go.bits BinOp.or IntKind.u8 (a1 / 2 ^ (7 * k) % 256) 128) [.int .u8 (Go.bits BinOp.or IntKind.u8 (a1 / 2 ^ (7 * k) % 256) 128)] (fun _ => True) (fun _ => False) rfl rfl rfl (fun _ hk => hk.elim) (fun _ _ => trivial) HO.out HB.out HB.out.size HLn.out ?_; intro v2 w2 hR2 hB2 _ _; have HO2 := Aside0.mk hR2; have HB2 := Aside0.mk hB2; clear hR2 hB2)
        go_roundg (n - (k + 1))
        case measure => omega
        case rel => exact ⟨k + 1, by omega, by omega, by go_num, ⟨by rw [HT.out, ← List.append_assoc]; exact HO2.out⟩, HB2⟩
    · have hltz : ¬ (k : Int) < (n : Int) := by omega
      have HK := Aside0.mk (show k = n by omega)
      have HT := Aside0.mk (show (ints (cntB a1.toNat)).take k = ints (cntB a1.toNat) by
        rw [HK.out, ← HL.out, ← ints_length, List.take_length])
      rw [HT.out] at HO
      have HLn2 := Aside0.mk (show (l0 ++ ints (cntB a1.toNat)).length + a2.size ≤ 140737488355328 by
        have h1 := HL.out
        have h2 := ints_length (cntB a1.toNat)
        rw [List.length_append]
        omega)
      go_wp2_with (at_builtin; refine print_append_str (w0 := w) w.heap.size rfl (.tmp 45) (.tmp 46) 38 9 5 rfl Try.underlying38 Try.underlying9 info5 _ (l0 ++ ints (cntB a1.toNat)) a2 rfl rfl (Kd.own_of_R HO.out) HB.out HB.out.size HLn2.out ?_; intro v2 w2 ho2 hB2 _; have HO2 := Aside0.mk (Kd.R_of_own (α := Int) (enc := fun x => .int .u8 x) (h1 := fun _ => rfl) (ok := fun _ => True) ho2 (fun _ _ => trivial)); have HB2 := Aside0.mk hB2; clear ho2 hB2)
      go_ret
      exact ⟨_, rfl, by rw [← List.append_assoc]; exact HO2.out, HB2.out⟩

/-! The form that the printed texts name. -/
def code_lay.f (l0 : List Int) (a1 : Int) (a2 : ByteArray) : Option (List Int) :=
  if 0 ≤ a1 ∧ a1 ≤ 4294967295 ∧ l0.length ≤ 1000000000 ∧ a2.size ≤ 1000000000 then some (l0 ++ ints (cntB a1.toNat) ++ bytesOf a2) else none
theorem code_lay.calls (A0 : Option Addr) (c0 : Nat) (l0 : List Int) (a1 : Int) (a2 : ByteArray) (r : List Int) (w : World) (hr0 : Kd.C (Kd.int .u8) w A0 l0.length l0) (hc0 : l0.length ≤ c0) (h : code_lay.f l0 a1 a2 = some r) :
    Calls Try.prog 96 #[.slice A0 l0.length c0, .int .u64 a1, .string a2] w fun e w' => ∃ v0_ : Value, e = .returned (v0_) ∧ Kd.R (Kd.int .u8) 5 w' w.heap.size (fun _ => True) v0_ r ∧ Below w.heap.size w w' := by
  unfold code_lay.f at h
  split at h
  · rename_i hc
    cases h
    exact lay_calls A0 c0 l0 a1 a2 w hr0 hc0 hc.1 hc.2.1 hc.2.2.1 hc.2.2.2
  · cases h
#print axioms code_lay.calls
end Go.Proofs.Ytgbkoeinfhlpoaa.F
