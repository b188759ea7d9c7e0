/- Counts' groups, runs, and texts of trees, as plain Lean functions on lists of bytes, with no program in sight. -/
/- Plain laws on the texts of trees. -/
/- Plain laws on the texts of trees. -/
/- Plain laws on the texts of trees. -/
/- math/bits.Len64 below 2^32, and code.groups: how many groups of seven bits a number has. (The walk's end follows the kit's own make of this contract.) -/
/- code.lay: a number's groups, and a text, behind bytes, in room of their own. -/
import Derived.Test.YtgbkoeinfhlpoaaEDef
import Derived.Lib.Strings
import Derived.Lib.Slices
import Derived.Lib.Small
import Derived.Lib.Walk
import Derived.Lib.BitFns
import Derived.Deep.Light
namespace Go.Proofs.Ytgbkoeinfhlpoaa.F

/-- A count's groups of seven bits, the lowest first. -/
def cntF : Nat → Nat → List UInt8
  | 0, _ => []
  | k + 1, n => if n < 128 then [UInt8.ofNat n] else UInt8.ofNat (128 + n % 128) :: cntF k (n / 128)
def cntB (n : Nat) : List UInt8 := cntF 10 n

/-- How many bytes ahead are alike, at most so many. -/
def alikeF : Nat → UInt8 → List UInt8 → Nat
  | 0, _, _ => 0
  | _ + 1, _, [] => 0
  | k + 1, c, x :: t => if x = c then alikeF k c t + 1 else 0
def alikeL : List UInt8 → Nat
  | [] => 0
  | c :: t => alikeF 1000 c (c :: t)
def gapL : List UInt8 → Nat
  | [] => 0
  | c :: t => if alikeL (c :: t) < 4 then gapL t + 1 else 0

def runsF : Nat → List UInt8 → List UInt8
  | 0, _ => []
  | _ + 1, [] => []
  | k + 1, c :: t => if 4 ≤ alikeL (c :: t) then cntB (2 * alikeL (c :: t) + 1) ++ c :: runsF k ((c :: t).drop (alikeL (c :: t)))
      else cntB (2 * gapL (c :: t)) ++ ((c :: t).take (gapL (c :: t)) ++ runsF k ((c :: t).drop (gapL (c :: t))))
def runsB (d : List UInt8) : List UInt8 := cntB d.length ++ runsF (d.length + 1) d

/-- A reader: what is left, and whether it has not failed. -/
structure Rd where
  s : List UInt8
  ok : Bool
  deriving DecidableEq

def cntRd (most : Nat) : Nat → Nat → Nat → List UInt8 → Option (Nat × List UInt8)
  | 0, _, _, _ => none
  | _ + 1, _, _, [] => none
  | k + 1, n, p, c :: t => if most < n + c.toNat % 128 * p then none else if c.toNat < 128 then some (n + c.toNat % 128 * p, t) else cntRd most k (n + c.toNat % 128 * p) (p * 128) t
def cntR (most : Nat) (r : Rd) : Nat × Rd :=
  match cntRd most 4 0 1 r.s with
  | some (n, t) => (n, ⟨t, r.ok⟩)
  | none => (0, ⟨r.s, false⟩)
def takeR (n : Nat) (r : Rd) : List UInt8 × Rd :=
  if r.s.length < n then ([], ⟨r.s, false⟩) else (r.s.take n, ⟨r.s.drop n, r.ok⟩)
def dataR : Nat → Nat → List UInt8 → Rd → Option (List UInt8 × Rd)
  | 0, _, _, _ => none
  | k + 1, size, d, r =>
    if size ≤ d.length then some (d, r) else
    if (cntR 8193 r).2.ok = true ∧ 2 ≤ (cntR 8193 r).1 then
      if (cntR 8193 r).1 % 2 = 0 then
        if (takeR ((cntR 8193 r).1 / 2) (cntR 8193 r).2).2.ok = true then dataR k size (d ++ (takeR ((cntR 8193 r).1 / 2) (cntR 8193 r).2).1) (takeR ((cntR 8193 r).1 / 2) (cntR 8193 r).2).2 else none
      else
        if (takeR 1 (cntR 8193 r).2).2.ok = true then dataR k size (d ++ List.replicate ((cntR 8193 r).1 / 2) ((takeR 1 (cntR 8193 r).2).1.headD 0)) (takeR 1 (cntR 8193 r).2).2 else none
    else none

theorem toNat_ofNat {n : Nat} (h : n < 256) : (UInt8.ofNat n).toNat = n := by simp [UInt8.toNat_ofNat']; omega

theorem cntRd_cnt : ∀ (k j most n p m : Nat) (t : List UInt8), m < 128 ^ k → 1 ≤ k → k ≤ j → n + m * p ≤ most → cntRd most k n p (cntF j m ++ t) = some (n + m * p, t)
  | 0, j, most, n, p, m, t, _, h, _, _ => by omega
  | k + 1, 0, most, n, p, m, t, h, _, hj, _ => by omega
  | k + 1, j + 1, most, n, p, m, t, h, _, hj, hm => by
    unfold cntF
    by_cases h1 : m < 128
    · rw [if_pos h1]
      simp only [List.cons_append, List.nil_append, cntRd]
      rw [toNat_ofNat (by omega), Nat.mod_eq_of_lt h1, if_neg (by omega), if_pos h1]
    · rw [if_neg h1]
      simp only [List.cons_append, cntRd]
      rw [toNat_ofNat (by omega)]
      have e1 : (128 + m % 128) % 128 = m % 128 := by omega
      have e2 : m * p = m % 128 * p + m / 128 * (p * 128) := by
        have : m = m % 128 + 128 * (m / 128) := by omega
        calc m * p = (m % 128 + 128 * (m / 128)) * p := by rw [← this]
          _ = m % 128 * p + m / 128 * (p * 128) := by rw [Nat.add_mul]; congr 1; rw [Nat.mul_comm 128, Nat.mul_assoc, Nat.mul_comm 128 p]
      rw [e1, if_neg (by omega), if_neg (by omega)]
      have hk : 1 ≤ k := by
        rcases Nat.eq_zero_or_pos k with h0 | h0
        · subst h0; simp at h; omega
        · exact h0
      rw [Nat.pow_succ] at h
      rw [cntRd_cnt k j most _ _ (m / 128) t (by omega) hk (by omega) (by omega), e2, Nat.add_assoc]

theorem cntR_cnt {most m : Nat} {t : List UInt8} {ok : Bool} (h : m ≤ most) (hm : m < 268435456) : cntR most ⟨cntB m ++ t, ok⟩ = (m, ⟨t, ok⟩) := by
  unfold cntR cntB
  simp only
  rw [cntRd_cnt 4 10 most 0 1 m t (by omega) (by omega) (by omega) (by omega)]
  simp

theorem takeR_app {a t : List UInt8} {ok : Bool} {n : Nat} (h : n = a.length) : takeR n ⟨a ++ t, ok⟩ = (a, ⟨t, ok⟩) := by
  subst h
  unfold takeR
  rw [if_neg (by simp)]
  simp

theorem alikeF_le : ∀ (k : Nat) (c : UInt8) (l : List UInt8), alikeF k c l ≤ l.length ∧ alikeF k c l ≤ k
  | 0, _, l => by simp [alikeF]
  | _ + 1, _, [] => by simp [alikeF]
  | k + 1, c, x :: t => by
    have := alikeF_le k c t
    unfold alikeF
    split <;> simp <;> omega
theorem alikeF_rep : ∀ (k : Nat) (c : UInt8) (l : List UInt8), l.take (alikeF k c l) = List.replicate (alikeF k c l) c
  | 0, _, l => by simp [alikeF]
  | _ + 1, _, [] => by simp [alikeF]
  | k + 1, c, x :: t => by
    have := alikeF_rep k c t
    unfold alikeF
    split
    · rename_i h
      rw [List.take_succ_cons, this, List.replicate_succ, h]
    · simp
theorem alikeL_le (l : List UInt8) : alikeL l ≤ l.length ∧ alikeL l ≤ 1000 := by
  cases l with
  | nil => simp [alikeL]
  | cons c t => exact alikeF_le 1000 c (c :: t)
theorem alikeL_rep (c : UInt8) (t : List UInt8) : (c :: t).take (alikeL (c :: t)) = List.replicate (alikeL (c :: t)) c := alikeF_rep 1000 c (c :: t)
theorem alikeL_pos (c : UInt8) (t : List UInt8) : 1 ≤ alikeL (c :: t) := by
  unfold alikeL alikeF; simp
theorem gapL_le : ∀ (l : List UInt8), gapL l ≤ l.length
  | [] => by simp [gapL]
  | c :: t => by
    have := gapL_le t
    unfold gapL
    split <;> simp <;> omega
theorem gapL_pos {c : UInt8} {t : List UInt8} (h : alikeL (c :: t) < 4) : 1 ≤ gapL (c :: t) := by
  unfold gapL; rw [if_pos h]; omega

theorem dataR_runs : ∀ (j k size : Nat) (d rest t : List UInt8), rest.length < j → rest.length < k → d.length + rest.length = size → size ≤ 4096 →
    dataR k size d ⟨runsF j rest ++ t, true⟩ = some (d ++ rest, ⟨t, true⟩)
  | 0, k, size, d, rest, t, h, _, _, _ => by omega
  | j + 1, 0, size, d, rest, t, _, h, _, _ => by omega
  | j + 1, k + 1, size, d, [], t, _, _, hs, hb => by
    unfold dataR runsF
    rw [if_pos (by simp at hs; omega)]
    simp
  | j + 1, k + 1, size, d, c :: r, t, hj, hk, hs, hb => by
    have hp := alikeL_pos c r
    obtain ⟨hl, hl2⟩ := alikeL_le (c :: r)
    have hlen : (c :: r).length = r.length + 1 := rfl
    unfold dataR
    rw [if_neg (by simp at hs; omega)]
    unfold runsF
    by_cases h4 : 4 ≤ alikeL (c :: r)
    · rw [if_pos h4]
      have e : cntB (2 * alikeL (c :: r) + 1) ++ c :: runsF j ((c :: r).drop (alikeL (c :: r))) ++ t = cntB (2 * alikeL (c :: r) + 1) ++ ([c] ++ (runsF j ((c :: r).drop (alikeL (c :: r))) ++ t)) := by simp
      rw [e, cntR_cnt (by omega) (by omega)]
      simp only
      rw [takeR_app (a := [c]) (n := 1) rfl]
      have h1 : ¬ (2 * alikeL (c :: r) + 1) % 2 = 0 := by omega
      have h2 : (2 * alikeL (c :: r) + 1) / 2 = alikeL (c :: r) := by omega
      have h0 : 2 ≤ 2 * alikeL (c :: r) + 1 := by omega
      simp only [h1, h2, h0, and_true, if_true, if_false, List.headD_cons]
      rw [dataR_runs j k size _ _ t (by simp; omega) (by simp; omega) (by simp at hs ⊢; simp at hl; omega) hb]
      rw [← alikeL_rep, List.append_assoc, List.take_append_drop]
    · rw [if_neg h4]
      have hg := gapL_pos (c := c) (t := r) (by omega)
      have hg2 := gapL_le (c :: r)
      have e : cntB (2 * gapL (c :: r)) ++ ((c :: r).take (gapL (c :: r)) ++ runsF j ((c :: r).drop (gapL (c :: r)))) ++ t = cntB (2 * gapL (c :: r)) ++ ((c :: r).take (gapL (c :: r)) ++ (runsF j ((c :: r).drop (gapL (c :: r))) ++ t)) := by simp
      rw [e, cntR_cnt (by simp at hs hg2; omega) (by simp at hs hg2; omega)]
      simp only
      have h2 : 2 * gapL (c :: r) / 2 = gapL (c :: r) := by omega
      have h1 : 2 * gapL (c :: r) % 2 = 0 := by omega
      have h0 : 2 ≤ 2 * gapL (c :: r) := by omega
      rw [h2, takeR_app (by simp; simp at hg2; omega)]
      simp only [h1, h0, and_true, if_true]
      rw [dataR_runs j k size _ _ t (by simp; omega) (by simp; omega) (by simp at hs ⊢; simp at hg2; omega) hb]
      rw [List.append_assoc, List.take_append_drop]
end Go.Proofs.Ytgbkoeinfhlpoaa.F

namespace Go.Proofs.Ytgbkoeinfhlpoaa.F

/-- The document's reader. -/
def valF : List UInt8 → Nat
  | [] => 0
  | c :: t => c.toNat % 128 + 128 * valF t
/-- The number whose groups stand ahead: tried from so many bytes on, so many times. -/
def offF : Nat → Nat → List UInt8 → Nat × Nat
  | 0, _, _ => (0, 0)
  | k + 1, n, s => if s.length < n then (0, 0) else if cntB (valF (s.take n)) = s.take n then (valF (s.take n), n) else offF k (n + 1) s
def offR (s : List UInt8) : Nat × Nat := offF 10 1 s

theorem valF_cnt : ∀ (k n : Nat), n < 128 ^ k → valF (cntF k n) = n
  | 0, n, h => by simp at h; subst h; rfl
  | k + 1, n, h => by
    unfold cntF
    by_cases h1 : n < 128
    · rw [if_pos h1]
      unfold valF
      rw [toNat_ofNat (by omega)]
      simp [valF]; omega
    · rw [if_neg h1]
      unfold valF
      rw [Nat.pow_succ] at h
      rw [toNat_ofNat (by omega), valF_cnt k (n / 128) (by omega)]
      omega
theorem cntF_ne : ∀ (k n : Nat), 1 ≤ k → cntF k n ≠ []
  | 0, _, h => by omega
  | k + 1, n, _ => by unfold cntF; split <;> simp
theorem cntF_len : ∀ (k n : Nat), (cntF k n).length ≤ k
  | 0, _ => by simp [cntF]
  | k + 1, n => by
    have := cntF_len k (n / 128)
    unfold cntF; split <;> simp <;> omega
/-- The last group is below 128, all others are not. -/
theorem cntF_last : ∀ (k n : Nat), n < 128 ^ k → 1 ≤ k → ∀ c ∈ (cntF k n).getLast?, c.toNat < 128
  | 0, _, _, h => by omega
  | k + 1, n, h, _ => by
    intro c hc
    unfold cntF at hc
    by_cases h1 : n < 128
    · rw [if_pos h1] at hc
      simp at hc
      subst hc
      rw [toNat_ofNat (by omega)]; exact h1
    · rw [if_neg h1] at hc
      have hk : 1 ≤ k := by
        rcases Nat.eq_zero_or_pos k with h0 | h0
        · subst h0; simp at h; omega
        · exact h0
      rw [Nat.pow_succ] at h
      refine cntF_last k (n / 128) (by omega) hk c ?_
      rw [List.getLast?_cons] at hc
      cases e : (cntF k (n / 128)).getLast? with
      | none => rw [List.getLast?_eq_none_iff] at e; exact absurd e (cntF_ne k _ hk)
      | some x => rw [e] at hc; simpa using hc
theorem cntF_more : ∀ (k n j : Nat), j + 1 < (cntF k n).length → ∀ c ∈ (cntF k n)[j]?, 128 ≤ c.toNat
  | 0, _, _, h => by simp [cntF] at h
  | k + 1, n, j, h => by
    intro c hc
    unfold cntF at h hc
    by_cases h1 : n < 128
    · rw [if_pos h1] at h; simp at h
    · rw [if_neg h1] at h hc
      cases j with
      | zero =>
        simp only [List.getElem?_cons_zero, Option.mem_def, Option.some.injEq] at hc
        subst hc
        rw [toNat_ofNat (by omega)]; omega
      | succ j =>
        simp at h hc
        exact cntF_more k (n / 128) j (by omega) c (by simpa using hc)

theorem offF_cnt (m : Nat) (t : List UInt8) (hm : m < 128 ^ 9) : ∀ (k n : Nat), 1 ≤ n → n ≤ (cntB m).length → (cntB m).length < n + k → offF k n (cntB m ++ t) = (m, (cntB m).length)
  | 0, n, h1, h2, h3 => by omega
  | k + 1, n, h1, h2, h3 => by
    have hm' : m < 128 ^ 10 := by omega
    unfold offF
    rw [if_neg (by simp; omega)]
    by_cases he : n = (cntB m).length
    · subst he
      have hv : valF (cntB m) = m := valF_cnt 10 m hm'
      rw [List.take_left' rfl, hv, if_pos rfl]
    · have hlt : n < (cntB m).length := by omega
      rw [if_neg, offF_cnt m t hm k (n + 1) (by omega) (by omega) (by omega)]
      intro h
      have htk : (cntB m ++ t).take n = (cntB m).take n := by rw [List.take_append_of_le_length (by omega)]
      rw [htk] at h
      have hb : valF ((cntB m).take n) < 128 ^ 10 := by
        have hlen : ((cntB m).take n).length ≤ 10 := by
          have := cntF_len 10 m
          simp only [List.length_take]
          unfold cntB at *; omega
        have : ∀ l : List UInt8, valF l < 128 ^ l.length := by
          intro l
          induction l with
          | nil => simp [valF]
          | cons c l ih =>
            unfold valF
            rw [List.length_cons, Nat.pow_succ]
            omega
        have h2 := this ((cntB m).take n)
        have h3 : 128 ^ ((cntB m).take n).length ≤ 128 ^ 10 := Nat.pow_le_pow_right (by omega) hlen
        omega
      have hlast := cntF_last 10 _ hb (by omega)
      have hc : (cntB m)[n - 1]? = some ((cntB m)[n - 1]'(by omega)) := List.getElem?_eq_getElem (by omega)
      have hmore := cntF_more 10 m (n - 1) (by unfold cntB at *; omega) _ hc
      have hl2 : (cntF 10 (valF ((cntB m).take n))).getLast? = some ((cntB m)[n - 1]'(by omega)) := by
        show (cntB (valF ((cntB m).take n))).getLast? = _
        rw [h, List.getLast?_eq_getElem?, List.length_take, Nat.min_eq_left (by omega), List.getElem?_take, if_pos (by omega), hc]
      have := hlast _ hl2
      omega
theorem offR_cnt (m : Nat) (t : List UInt8) (hm : m < 128 ^ 9) : offR (cntB m ++ t) = (m, (cntB m).length) := by
  refine offF_cnt m t hm 10 1 (by omega) ?_ ?_
  · have := cntF_ne 10 m (by omega)
    unfold cntB
    exact List.length_pos_iff.mpr this
  · have := cntF_len 10 m
    unfold cntB; omega
/-- The document's reader of counts: none if there is none. -/
def cntD (most : Nat) (s : List UInt8) : Option (Nat × List UInt8) :=
  if (offR s).2 = 0 ∨ 2147483647 < (offR s).1 ∨ most < (offR s).1 then none else some ((offR s).1, s.drop (offR s).2)
theorem cntD_cnt {most m : Nat} {t : List UInt8} (h : m ≤ most) (hm : m ≤ 2147483647) : cntD most (cntB m ++ t) = some (m, t) := by
  unfold cntD
  rw [offR_cnt m t (by omega)]
  simp only
  have hl : 1 ≤ (cntB m).length := List.length_pos_iff.mpr (cntF_ne 10 m (by omega))
  rw [if_neg (by omega), List.drop_left' rfl]

end Go.Proofs.Ytgbkoeinfhlpoaa.F

namespace Go.Proofs.Ytgbkoeinfhlpoaa.F

abbrev Fl := List UInt8 × List UInt8
def commonL : List UInt8 → List UInt8 → Nat
  | a :: s, b :: t => if a = b then commonL s t + 1 else 0
  | _, _ => 0
def packG : List UInt8 → List Fl → List UInt8
  | _, [] => []
  | was, f :: t => cntB (commonL was f.1) ++ (cntB (f.1.length - commonL was f.1) ++ (f.1.drop (commonL was f.1) ++ (runsB f.2 ++ packG f.1 t)))
def packB (l : List Fl) : List UInt8 := cntB l.length ++ packG [] l

theorem commonL_le : ∀ (a b : List UInt8), commonL a b ≤ a.length ∧ commonL a b ≤ b.length
  | [], _ => by simp [commonL]
  | _ :: _, [] => by simp [commonL]
  | a :: s, b :: t => by
    have := commonL_le s t
    unfold commonL
    split <;> simp <;> omega
theorem commonL_take : ∀ (a b : List UInt8), a.take (commonL a b) = b.take (commonL a b)
  | [], _ => by simp [commonL]
  | _ :: _, [] => by simp [commonL]
  | a :: s, b :: t => by
    have := commonL_take s t
    unfold commonL
    split
    · rename_i h; subst h; simp [this]
    · simp

/-! The program's reader. -/
def filesR : Nat → List Fl → List UInt8 → Rd → List Fl
  | 0, l, _, _ => l
  | k + 1, l, was, r =>
    let a := cntR was.length r
    let b := cntR 48 a.2
    let p := takeR b.1 b.2
    let c := cntR 4096 p.2
    match dataR (c.1 + 1) c.1 [] c.2 with
    | none => l
    | some (d, r') => filesR k (l ++ [(was.take a.1 ++ p.1, d)]) (was.take a.1 ++ p.1) r'
def unpackR (s : List UInt8) : List Fl := filesR (cntR 64 ⟨s, true⟩).1 [] [] (cntR 64 ⟨s, true⟩).2

theorem filesR_pack : ∀ (rest l : List Fl) (was : List UInt8) (t : List UInt8), was.length ≤ 48 → (∀ f ∈ rest, f.1.length ≤ 48 ∧ f.2.length ≤ 4096) →
    filesR rest.length l was ⟨packG was rest ++ t, true⟩ = l ++ rest
  | [], l, was, t, _, _ => by simp [filesR]
  | f :: rest, l, was, t, hw, hf => by
    obtain ⟨h1, h2⟩ := hf f List.mem_cons_self
    have hc := commonL_le was f.1
    have hd : (f.1.drop (commonL was f.1)).length = f.1.length - commonL was f.1 := by simp
    rw [List.length_cons]
    unfold filesR packG
    simp only [List.append_assoc]
    rw [cntR_cnt (by omega) (by omega)]
    simp only
    rw [cntR_cnt (by omega) (by omega)]
    simp only
    rw [takeR_app hd.symm]
    simp only
    unfold runsB
    simp only [List.append_assoc]
    rw [cntR_cnt (by omega) (by omega)]
    simp only
    rw [dataR_runs _ _ _ _ _ _ (by omega) (by omega) (by simp) (by omega)]
    simp only [List.nil_append]
    have e : was.take (commonL was f.1) ++ f.1.drop (commonL was f.1) = f.1 := by rw [commonL_take, List.take_append_drop]
    rw [e, filesR_pack rest _ f.1 t h1 (fun g hg => hf g (List.mem_cons_of_mem _ hg))]
    simp
theorem unpackR_pack (l : List Fl) (hl : l.length ≤ 64) (hf : ∀ f ∈ l, f.1.length ≤ 48 ∧ f.2.length ≤ 4096) : unpackR (packB l) = l := by
  unfold unpackR packB
  rw [cntR_cnt (by omega) (by omega)]
  have := filesR_pack l [] [] [] (by simp) hf
  simpa using this

/-! The document's. -/
def dataD : Nat → Nat → List UInt8 → List UInt8 → Option (List UInt8 × List UInt8)
  | 0, _, _, _ => none
  | k + 1, size, d, s =>
    if size ≤ d.length then some (d, s) else
    match cntD 10000 s with
    | none => none
    | some (m, t) => if m < 2 then none else
      if m % 2 = 1 then
        match t with
        | [] => none
        | c :: t' => dataD k size (d ++ List.replicate (m / 2) c) t'
      else if m / 2 ≤ t.length then dataD k size (d ++ t.take (m / 2)) (t.drop (m / 2)) else none
def filesD : Nat → List Fl → List UInt8 → List UInt8 → Option (List Fl)
  | 0, l, _, _ => some l
  | k + 1, l, was, s =>
    match cntD was.length s with
    | none => none
    | some (n, s1) =>
      match cntD 48 s1 with
      | none => none
      | some (m, s2) =>
        if s2.length < m then none else
        match cntD 4096 (s2.drop m) with
        | none => none
        | some (size, s3) =>
          match dataD (size + 1) size [] s3 with
          | none => none
          | some (d, s4) => filesD k (l ++ [(was.take n ++ s2.take m, d)]) (was.take n ++ s2.take m) s4
def unpackD (s : List UInt8) : Option (List Fl) :=
  match cntD 64 s with
  | none => none
  | some (n, t) => filesD n [] [] t

theorem dataD_runs : ∀ (j k size : Nat) (d rest t : List UInt8), rest.length < j → rest.length < k → d.length + rest.length = size → size ≤ 4096 →
    dataD k size d (runsF j rest ++ t) = some (d ++ rest, t)
  | 0, k, size, d, rest, t, h, _, _, _ => by omega
  | j + 1, 0, size, d, rest, t, _, h, _, _ => by omega
  | j + 1, k + 1, size, d, [], t, _, _, hs, hb => by
    unfold dataD runsF
    rw [if_pos (by simp at hs; omega)]
    simp
  | j + 1, k + 1, size, d, c :: r, t, hj, hk, hs, hb => by
    have hp := alikeL_pos c r
    obtain ⟨hl, hl2⟩ := alikeL_le (c :: r)
    have hlen : (c :: r).length = r.length + 1 := rfl
    unfold dataD
    rw [if_neg (by simp at hs; omega)]
    unfold runsF
    by_cases h4 : 4 ≤ alikeL (c :: r)
    · rw [if_pos h4, List.append_assoc, cntD_cnt (by omega) (by omega)]
      simp only [List.cons_append]
      rw [if_neg (by omega), if_pos (by omega), show (2 * alikeL (c :: r) + 1) / 2 = alikeL (c :: r) by omega]
      rw [dataD_runs j k size _ _ t (by simp; omega) (by simp; omega) (by simp at hs ⊢; simp at hl; omega) hb]
      rw [← alikeL_rep, List.append_assoc, List.take_append_drop]
    · rw [if_neg h4]
      have hg := gapL_pos (c := c) (t := r) (by omega)
      have hg2 := gapL_le (c :: r)
      have hl3 : ((c :: r).take (gapL (c :: r))).length = gapL (c :: r) := by rw [List.length_take]; omega
      rw [List.append_assoc, cntD_cnt (by simp at hs hg2; omega) (by simp at hs hg2; omega)]
      simp only
      rw [if_neg (by omega), if_neg (by omega), show 2 * gapL (c :: r) / 2 = gapL (c :: r) by omega, if_pos (by simp only [List.length_append]; omega), List.append_assoc, List.take_left' hl3, List.drop_left' hl3]
      rw [dataD_runs j k size _ _ t (by simp; omega) (by simp; omega) (by simp at hs ⊢; simp at hg2; omega) hb]
      rw [List.append_assoc, List.take_append_drop]
theorem filesD_pack : ∀ (rest l : List Fl) (was : List UInt8) (t : List UInt8), was.length ≤ 48 → (∀ f ∈ rest, f.1.length ≤ 48 ∧ f.2.length ≤ 4096) →
    filesD rest.length l was (packG was rest ++ t) = some (l ++ rest)
  | [], l, was, t, _, _ => by simp [filesD]
  | f :: rest, l, was, t, hw, hf => by
    obtain ⟨h1, h2⟩ := hf f List.mem_cons_self
    have hc := commonL_le was f.1
    have hd : (f.1.drop (commonL was f.1)).length = f.1.length - commonL was f.1 := by simp
    rw [List.length_cons]
    unfold filesD packG
    simp only [List.append_assoc]
    rw [cntD_cnt (by omega) (by omega)]
    simp only
    rw [cntD_cnt (by omega) (by omega)]
    simp only
    rw [if_neg (by simp only [List.length_append]; omega), List.drop_left' hd, List.take_left' hd]
    unfold runsB
    simp only [List.append_assoc]
    rw [cntD_cnt (by omega) (by omega)]
    simp only
    rw [dataD_runs _ _ _ _ _ _ (by omega) (by omega) (by simp) (by omega)]
    simp only [List.nil_append]
    have e : was.take (commonL was f.1) ++ f.1.drop (commonL was f.1) = f.1 := by rw [commonL_take, List.take_append_drop]
    rw [e, filesD_pack rest _ f.1 t h1 (fun g hg => hf g (List.mem_cons_of_mem _ hg))]
    simp
theorem unpackD_pack (l : List Fl) (hl : l.length ≤ 64) (hf : ∀ f ∈ l, f.1.length ≤ 48 ∧ f.2.length ≤ 4096) : unpackD (packB l) = some l := by
  unfold unpackD packB
  rw [cntD_cnt (by omega) (by omega)]
  have := filesD_pack l [] [] [] (by simp) hf
  simpa using this

/-! How long a text is. -/
theorem cntF_len_le : ∀ (k j n : Nat), n < 128 ^ j → 1 ≤ j → (cntF k n).length ≤ j
  | 0, j, n, _, _ => by simp [cntF]
  | k + 1, 0, n, _, h => by omega
  | k + 1, j + 1, n, h, _ => by
    unfold cntF
    by_cases h1 : n < 128
    · rw [if_pos h1]; simp
    · rw [if_neg h1]
      have hj : 1 ≤ j := by
        rcases Nat.eq_zero_or_pos j with h0 | h0
        · subst h0; simp at h; omega
        · exact h0
      rw [Nat.pow_succ] at h
      have := cntF_len_le k j (n / 128) (by omega) hj
      simp; omega
end Go.Proofs.Ytgbkoeinfhlpoaa.F

namespace Go.Proofs.Ytgbkoeinfhlpoaa.F

theorem cntB_two {n : Nat} (h : n < 16384) : (cntB n).length ≤ 2 := cntF_len_le 10 2 n (by omega) (by omega)
theorem cntB_one {n : Nat} (h : n < 128) : (cntB n).length ≤ 1 := cntF_len_le 10 1 n (by omega) (by omega)
theorem cntB_three {n : Nat} (h : n < 2097152) : (cntB n).length ≤ 3 := cntF_len_le 10 3 n (by omega) (by omega)

theorem gapL_stop : ∀ (s : List UInt8), s.drop (gapL s) = [] ∨ 4 ≤ alikeL (s.drop (gapL s))
  | [] => .inl (by simp [gapL])
  | c :: t => by
    have := gapL_stop t
    unfold gapL
    by_cases h : alikeL (c :: t) < 4
    · rw [if_pos h, List.drop_succ_cons]; exact this
    · rw [if_neg h, List.drop_zero]; exact .inr (by omega)

theorem runsF_len : ∀ (k : Nat) (s : List UInt8), s.length < k → s.length ≤ 4096 →
    (runsF k s).length ≤ s.length + s.length / 4 + 2 ∧ (s = [] ∨ 4 ≤ alikeL s → (runsF k s).length ≤ s.length + s.length / 4)
  | 0, s, h, _ => by omega
  | k + 1, [], _, _ => by simp [runsF]
  | k + 1, c :: r, h, hb => by
    have hp := alikeL_pos c r
    obtain ⟨hl, hl2⟩ := alikeL_le (c :: r)
    have hlen : (c :: r).length = r.length + 1 := rfl
    unfold runsF
    by_cases h4 : 4 ≤ alikeL (c :: r)
    · rw [if_pos h4]
      have hd : ((c :: r).drop (alikeL (c :: r))).length = (c :: r).length - alikeL (c :: r) := by rw [List.length_drop]
      have ih := (runsF_len k ((c :: r).drop (alikeL (c :: r))) (by omega) (by omega)).1
      have h2 := cntB_two (n := 2 * alikeL (c :: r) + 1) (by omega)
      rw [List.length_append, List.length_cons]
      have : (cntB (2 * alikeL (c :: r) + 1)).length + ((runsF k ((c :: r).drop (alikeL (c :: r)))).length + 1) ≤ (c :: r).length + (c :: r).length / 4 := by omega
      exact ⟨by omega, fun _ => this⟩
    · rw [if_neg h4]
      have hg := gapL_pos (c := c) (t := r) (by omega)
      have hg2 := gapL_le (c :: r)
      have hd : ((c :: r).drop (gapL (c :: r))).length = (c :: r).length - gapL (c :: r) := by rw [List.length_drop]
      have ht : ((c :: r).take (gapL (c :: r))).length = gapL (c :: r) := by rw [List.length_take]; omega
      have ih := (runsF_len k ((c :: r).drop (gapL (c :: r))) (by omega) (by omega)).2 (gapL_stop _)
      have h2 := cntB_two (n := 2 * gapL (c :: r)) (by omega)
      rw [List.length_append, List.length_append, ht]
      exact ⟨by omega, fun h => by rcases h with h | h; (· cases h); (· exact absurd h h4)⟩
theorem runsB_len (s : List UInt8) (h : s.length ≤ 4096) : (runsB s).length ≤ s.length + s.length / 4 * 3 + 4 := by
  have h1 := (runsF_len (s.length + 1) s (by omega) h).1
  have h2 := cntB_two (n := s.length) (by omega)
  unfold runsB
  rw [List.length_append]
  omega

def mostL : List Fl → Nat
  | [] => 0
  | f :: t => 8 + f.1.length + f.2.length + f.2.length / 4 * 3 + mostL t
theorem packG_len : ∀ (l : List Fl) (was : List UInt8), was.length ≤ 48 → (∀ f ∈ l, f.1.length ≤ 48 ∧ f.2.length ≤ 4096) → (packG was l).length ≤ mostL l
  | [], was, _, _ => by simp [packG, mostL]
  | f :: t, was, hw, hf => by
    obtain ⟨h1, h2⟩ := hf f List.mem_cons_self
    have hc := commonL_le was f.1
    have ih := packG_len t f.1 h1 (fun g hg => hf g (List.mem_cons_of_mem _ hg))
    have r := runsB_len f.2 h2
    have c1 := cntB_one (n := commonL was f.1) (by omega)
    have c2 := cntB_one (n := f.1.length - commonL was f.1) (by omega)
    unfold packG mostL
    simp only [List.length_append, List.length_drop]
    omega
theorem packB_len (l : List Fl) (hl : l.length ≤ 64) (hf : ∀ f ∈ l, f.1.length ≤ 48 ∧ f.2.length ≤ 4096) : (packB l).length ≤ 4 + mostL l := by
  have := packG_len l [] (by simp) hf
  have c1 := cntB_one (n := l.length) (by omega)
  unfold packB
  rw [List.length_append]
  omega

theorem alikeF_replicate : ∀ (k n : Nat) (c : UInt8), alikeF k c (List.replicate n c) = min k n
  | 0, n, c => by simp [alikeF]
  | k + 1, 0, c => by simp [alikeF]
  | k + 1, n + 1, c => by
    rw [List.replicate_succ]
    unfold alikeF
    rw [if_pos rfl, alikeF_replicate k n c]
    omega
theorem alikeL_replicate (n : Nat) (c : UInt8) : alikeL (List.replicate n c) = min 1000 n := by
  cases n with
  | zero => simp [alikeL]
  | succ n =>
    have := alikeF_replicate 1000 (n + 1) c
    rw [List.replicate_succ] at *
    exact this
theorem gapL_replicate : ∀ (n : Nat) (c : UInt8), n < 4 → gapL (List.replicate n c) = n
  | 0, c, _ => by simp [gapL]
  | n + 1, c, h => by
    have ha := alikeL_replicate (n + 1) c
    have ih := gapL_replicate n c (by omega)
    rw [List.replicate_succ] at *
    unfold gapL
    rw [if_pos (by omega), ih]
theorem runsF_replicate : ∀ (k n : Nat) (c : UInt8), n < k → (runsF k (List.replicate n c)).length ≤ 3 * (n / 1000 + 1) + 1
  | 0, n, c, h => by omega
  | k + 1, 0, c, _ => by simp [runsF]
  | k + 1, n + 1, c, h => by
    have ha := alikeL_replicate (n + 1) c
    by_cases h4 : 4 ≤ n + 1
    · have hs : runsF (k + 1) (List.replicate (n + 1) c) = cntB (2 * alikeL (List.replicate (n + 1) c) + 1) ++ c :: runsF k ((List.replicate (n + 1) c).drop (alikeL (List.replicate (n + 1) c))) := by
        have h4' : 4 ≤ alikeL (List.replicate (n + 1) c) := by omega
        rw [List.replicate_succ] at h4' ⊢
        conv => lhs; unfold runsF
        rw [if_pos h4']
      rw [hs, ha, List.drop_replicate, List.length_append, List.length_cons]
      have h2 := cntB_two (n := 2 * min 1000 (n + 1) + 1) (by omega)
      have ih := runsF_replicate k (n + 1 - min 1000 (n + 1)) c (by omega)
      by_cases hn : n + 1 < 1000
      · rw [Nat.min_eq_right (by omega)] at *
        have : runsF k (List.replicate (n + 1 - (n + 1)) c) = [] := by
          rw [Nat.sub_self]
          cases k <;> simp [runsF]
        rw [this]
        simp
        omega
      · rw [Nat.min_eq_left (by omega)] at *
        omega
    · have hg := gapL_replicate (n + 1) c (by omega)
      have hs : runsF (k + 1) (List.replicate (n + 1) c) = cntB (2 * gapL (List.replicate (n + 1) c)) ++ ((List.replicate (n + 1) c).take (gapL (List.replicate (n + 1) c)) ++ runsF k ((List.replicate (n + 1) c).drop (gapL (List.replicate (n + 1) c)))) := by
        have h4' : ¬ 4 ≤ alikeL (List.replicate (n + 1) c) := by omega
        rw [List.replicate_succ] at h4' ⊢
        conv => lhs; unfold runsF
        rw [if_neg h4']
      have h1 := cntB_one (n := 2 * (n + 1)) (by omega)
      have : runsF k (List.replicate (n + 1 - (n + 1)) c) = [] := by
        rw [Nat.sub_self]
        cases k <;> simp [runsF]
      rw [hs, hg, List.drop_replicate, this]
      simp
      omega
theorem runsB_replicate (n : Nat) (c : UInt8) (h : n < 40000) : (runsB (List.replicate n c)).length ≤ 3 + 3 * (n / 1000 + 1) + 3 := by
  have h1 := runsF_replicate (n + 1) n c (by omega)
  have h2 := cntB_three (n := n) (by omega)
  unfold runsB
  rw [List.length_append, List.length_replicate]
  omega
end Go.Proofs.Ytgbkoeinfhlpoaa.F

namespace Go.Proofs.Ytgbkoeinfhlpoaa.F
open Go.RowKit
set_option linter.unusedVariables false
set_option linter.unusedSimpArgs false

set_option maxRecDepth 100000 in
theorem len8tab_size : (Lib.len8tab.size : Int) = 256 := by
  have : Lib.len8tab.size = 256 := by decide
  omega
theorem wrap_add (k a b : Nat) (hk : k ≤ 56) (ha : a ≤ 8) (hb : b = k + a) : RowKit.wrap64 ((k : Int) + RowKit.wrap64 (a : Int)) = (b : Int) := by
  unfold RowKit.wrap64
  omega
theorem wrap_wrap (a : Nat) (ha : a ≤ 8) : RowKit.wrap64 (RowKit.wrap64 (a : Int)) = (a : Int) := by
  unfold RowKit.wrap64
  omega
theorem wrap_one (a : Nat) (ha : a ≤ 8) : RowKit.wrap64 (a : Int) = (a : Int) := by
  unfold RowKit.wrap64
  omega
theorem len8_get (y : Int) (h : y.toNat < Lib.len8tab.size) : ((Lib.len8tab[y.toNat]'h).toNat : Int) = Lib.len8 y := by
  unfold Lib.len8
  rw [getElem?_pos Lib.len8tab y.toNat h]
  rfl

set_option maxHeartbeats 8000000 in
set_option maxRecDepth 1000000 in
theorem bits_Len64 (x : Int) (w : World) (h0 : 0 ≤ x) (h1 : x ≤ 4294967295) :
    Calls Try.prog 116 #[.int .u64 x] w fun e w' => e = .returned (.int .i64 (Lib.bitLen x.toNat)) ∧ w' = w := by
  go_enter Try.func116, Try.ntmps116
  go_wp2
  all_goals first
    | (go_ret; refine ⟨congrArg Ending.returned (congrArg (Value.int IntKind.i64) ?_), rfl⟩; go_light)
    | (exfalso
       go_light
       have hs := len8tab_size
       omega)
  all_goals first
    | (rw [len8_get (x / 65536 / 256) _, Lib.len8_of (x / 65536 / 256) (by omega) (by omega)]
       have e : (x / 65536 / 256).toNat = x.toNat / 16777216 := by omega
       have l := Lib.bitLen_le8' (x / 65536 / 256) (by omega) (by omega)
       have s := Lib.bitLen_shift24 x.toNat (by omega) (by omega)
       rw [e] at l ⊢
       exact wrap_add 24 _ _ (by decide) l s)
    | (rw [len8_get (x / 65536) _, Lib.len8_of (x / 65536) (by omega) (by omega)]
       have e : (x / 65536).toNat = x.toNat / 65536 := by omega
       have l := Lib.bitLen_le8' (x / 65536) (by omega) (by omega)
       have s := Lib.bitLen_shift16 x.toNat (by omega) (by omega)
       rw [e] at l ⊢
       exact wrap_add 16 _ _ (by decide) l s)
    | (rw [len8_get (x / 256) _, Lib.len8_of (x / 256) (by omega) (by omega)]
       have e : (x / 256).toNat = x.toNat / 256 := by omega
       have l := Lib.bitLen_le8' (x / 256) (by omega) (by omega)
       have s := Lib.bitLen_shift8 x.toNat (by omega) (by omega)
       rw [e] at l ⊢
       exact wrap_add 8 _ _ (by decide) l s)
    | (rw [len8_get (x) _, Lib.len8_of (x) (by omega) (by omega)]
       have e : (x).toNat = x.toNat := by omega
       have l := Lib.bitLen_le8' (x) (by omega) (by omega)
       rw [e] at l ⊢
       first | exact wrap_wrap _ l | exact wrap_add 0 _ _ (by decide) l (by omega) | exact wrap_one _ l)

/-- How many groups. -/
def nG (u : Nat) : Nat := max 1 ((Lib.bitLen u + 6) / 7)
theorem bitLen_pow : ∀ (f x : Nat), x < 2 ^ 64 → x < 2 ^ f → Lib.bitLen x ≤ f
  | 0, x, _, h => by
    have : x = 0 := by simp at h; exact h
    subst this; decide
  | f + 1, x, h64, h => by
    by_cases h0 : x = 0
    · subst h0
      exact Nat.le_trans (by decide : Lib.bitLen 0 ≤ 0) (Nat.zero_le _)
    · rw [Lib.bitLen_half x h0 h64]
      have := bitLen_pow f (x / 2) (by omega) (by rw [Nat.pow_succ] at h; omega)
      omega
theorem nG_le (u : Nat) (h : u < 4294967296) : nG u ≤ 5 := by
  have := bitLen_pow 32 u (by omega) h
  unfold nG; omega
theorem bitLen_below : ∀ (x : Nat), x < 2 ^ 64 → x < 2 ^ Lib.bitLen x := by
  intro x
  induction x using Nat.strongRecOn with
  | _ x ih =>
    intro h
    by_cases h0 : x = 0
    · subst h0; exact Nat.two_pow_pos _
    · rw [Lib.bitLen_half x h0 h]
      have := ih (x / 2) (by omega) (by omega)
      rw [Nat.add_comm, Nat.pow_succ]
      omega

set_option maxHeartbeats 1000000 in
set_option maxRecDepth 100000 in
theorem groups_calls (x : Int) (w : World) (h0 : 0 ≤ x) (h1 : x ≤ 4294967295) :
    Calls Try.prog 120 #[.int .u64 x] w fun e w' => e = .returned (.int .i64 (nG x.toNat)) ∧ w = w' := by
  have hc := bits_Len64 x w h0 h1
  have hb := bitLen_pow 32 x.toNat (by omega) (by omega)
  have hn : nG x.toNat = max 1 ((Lib.bitLen x.toNat + 6) / 7) := rfl
  rw [hn]
  generalize Lib.bitLen x.toNat = b at hc hb ⊢
  clear hn h0 h1
  go_enter Try.func120, Try.ntmps120
  go_wp2_with (go_at_call 116; refine hc.mono ?_; rintro e w' ⟨rfl, rfl⟩)
  go_ret
  refine ⟨congrArg Ending.returned (congrArg (Value.int .i64) ?_), rfl⟩
  omega
#print axioms bits_Len64
end Go.Proofs.Ytgbkoeinfhlpoaa.F

namespace Go.Proofs.Ytgbkoeinfhlpoaa.F
open Go.RowKit Go.Proofs.YtgbkoeinfhlpoaaW.PrintWords Go.Proofs.YtgbkoeinfhlpoaaW.PrintLast Go.Proofs.YtgbkoeinfhlpoaaW.PrintMore
set_option linter.unusedVariables false
set_option linter.unusedSimpArgs false

def ints (l : List UInt8) : List Int := l.map fun b => (b.toNat : Int)

theorem nG_small (m : Nat) (h : m < 128) : nG m = 1 := by
  have := bitLen_pow 7 m (by omega) (by omega)
  unfold nG; omega
theorem nG_more (m : Nat) (h : 128 ≤ m) (h2 : m < 4294967296) : nG m = nG (m / 128) + 1 := by
  have h7 := Lib.bitLen_shift 7 m (by omega) (by omega)
  have hp : 1 ≤ Lib.bitLen (m / 128) := by
    rw [Lib.bitLen_half (m / 128) (by omega) (by omega)]; omega
  have e : (2 : Nat) ^ 7 = 128 := rfl
  rw [e] at h7
  unfold nG
  omega
theorem cntF_get : ∀ (f m : Nat), m < 4294967296 → m < 128 ^ f → 1 ≤ f → (cntF f m).length = nG m ∧ ∀ j, j < nG m → (cntF f m)[j]? = some (UInt8.ofNat (if j + 1 = nG m then m / 128 ^ j % 128 else 128 + m / 128 ^ j % 128))
  | 0, m, _, _, h => by omega
  | f + 1, m, h32, h, _ => by
    unfold cntF
    by_cases h1 : m < 128
    · rw [if_pos h1, nG_small m h1]
      refine ⟨rfl, fun j hj => ?_⟩
      obtain rfl : j = 0 := by omega
      simp
      rw [Nat.mod_eq_of_lt h1]
    · rw [if_neg h1, nG_more m (by omega) h32]
      have hf : 1 ≤ f := by
        rcases Nat.eq_zero_or_pos f with h0 | h0
        · subst h0; simp at h; omega
        · exact h0
      rw [Nat.pow_succ] at h
      obtain ⟨i1, i2⟩ := cntF_get f (m / 128) (by omega) (by omega) hf
      refine ⟨by rw [List.length_cons, i1], fun j hj => ?_⟩
      cases j with
      | zero =>
        rw [List.getElem?_cons_zero, if_neg (by unfold nG; omega)]
        simp
      | succ j =>
        rw [List.getElem?_cons_succ, i2 j (by omega)]
        have e : m / 128 / 128 ^ j = m / 128 ^ (j + 1) := by rw [Nat.div_div_eq_div_mul, Nat.pow_succ, Nat.mul_comm]
        rw [e]
        congr 2
        by_cases hc : j + 1 = nG (m / 128)
        · rw [if_pos hc, if_pos (by omega)]
        · rw [if_neg hc, if_neg (by omega)]
theorem cntB_length (m : Nat) (h : m < 4294967296) : (cntB m).length = nG m := (cntF_get 10 m h (by omega) (by omega)).1
theorem or128 : ∀ x : Fin 256, Go.bits BinOp.or IntKind.u8 (x.val : Int) 128 = ((128 + x.val % 128 : Nat) : Int) := by decide +kernel
theorem andNot128 : ∀ x : Fin 256, Go.bits BinOp.andNot IntKind.u8 (x.val : Int) 128 = ((x.val % 128 : Nat) : Int) := by decide +kernel
theorem group_int (a1 : Int) (k : Nat) (h0 : 0 ≤ a1) : a1 / 2 ^ (7 * k) % 256 = ((a1.toNat / 128 ^ k % 256 : Nat) : Int) := by
  obtain ⟨m, rfl⟩ := Int.eq_ofNat_of_zero_le h0
  have e : (2 : Int) ^ (7 * k) = ((128 ^ k : Nat) : Int) := by
    rw [show (128 : Nat) = 2 ^ 7 from rfl, ← Nat.pow_mul]
    simp
  rw [Int.toNat_natCast, e]
  omega
theorem cnt_more (a1 : Int) (k : Nat) (h0 : 0 ≤ a1) (h1 : a1 ≤ 4294967295) (hk : k < nG a1.toNat) (hl : ¬ k + 1 = nG a1.toNat) :
    (ints (cntB a1.toNat)).take (k + 1) = (ints (cntB a1.toNat)).take k ++ [Go.bits BinOp.or IntKind.u8 (a1 / 2 ^ (7 * k) % 256) 128] := by
  have hg := (cntF_get 10 a1.toNat (by omega) (by omega) (by omega)).2 k hk
  rw [if_neg hl] at hg
  have hb := or128 ⟨a1.toNat / 128 ^ k % 256, by omega⟩
  have e : a1.toNat / 128 ^ k % 256 % 128 = a1.toNat / 128 ^ k % 128 := by omega
  simp only [e] at hb
  rw [List.take_add_one, group_int a1 k h0, hb]
  have : (ints (cntB a1.toNat))[k]? = some (((128 + a1.toNat / 128 ^ k % 128 : Nat) : Int)) := by
    unfold ints cntB
    rw [List.getElem?_map, hg]
    simp only [Option.map_some]
    rw [toNat_ofNat (by omega)]
  rw [this]
  rfl
theorem cnt_last (a1 : Int) (k : Nat) (h0 : 0 ≤ a1) (h1 : a1 ≤ 4294967295) (hl : k + 1 = nG a1.toNat) :
    (ints (cntB a1.toNat)).take (k + 1) = (ints (cntB a1.toNat)).take k ++ [Go.bits BinOp.andNot IntKind.u8 (Go.bits BinOp.or IntKind.u8 (a1 / 2 ^ (7 * k) % 256) 128) 128] := by
  have hg := (cntF_get 10 a1.toNat (by omega) (by omega) (by omega)).2 k (by omega)
  rw [if_pos hl] at hg
  have hb := or128 ⟨a1.toNat / 128 ^ k % 256, by omega⟩
  have e : a1.toNat / 128 ^ k % 256 % 128 = a1.toNat / 128 ^ k % 128 := by omega
  simp only [e] at hb
  have hb2 := andNot128 ⟨128 + a1.toNat / 128 ^ k % 128, by omega⟩
  have e2 : (128 + a1.toNat / 128 ^ k % 128) % 128 = a1.toNat / 128 ^ k % 128 := by omega
  simp only [e2] at hb2
  rw [List.take_add_one, group_int a1 k h0, hb, hb2]
  have : (ints (cntB a1.toNat))[k]? = some (((a1.toNat / 128 ^ k % 128 : Nat) : Int)) := by
    unfold ints cntB
    rw [List.getElem?_map, hg]
    simp only [Option.map_some]
    rw [toNat_ofNat (by omega)]
  rw [this]
  rfl
theorem ints_length (l : List UInt8) : (ints l).length = l.length := by simp [ints]

set_option maxHeartbeats 2000000 in
set_option maxRecDepth 100000 in
theorem lay_calls (A0 : Option Addr) (c0 : Nat) (l0 : List Int) (a1 : Int) (a2 : ByteArray) (w : World) (hr0 : Kd.C (Kd.int .u8) w A0 l0.length l0) (hc0 : l0.length ≤ c0) (h0 : 0 ≤ a1) (h1 : a1 ≤ 4294967295) (hl0 : l0.length ≤ 1000000000) (hl2 : a2.size ≤ 1000000000) :
    Calls Try.prog 96 #[.slice A0 l0.length c0, .int .u64 a1, .string a2] w fun e w' => ∃ v0_ : Value, e = .returned (v0_) ∧ Kd.R (Kd.int .u8) 5 w' w.heap.size (fun _ => True) v0_ (l0 ++ ints (cntB a1.toNat) ++ bytesOf a2) ∧ Below w.heap.size w w' := by
  have hg := groups_calls a1 w h0 h1
  have hn := nG_le a1.toNat (by omega)
  have HL := Aside0.mk (cntB_length a1.toNat (by omega))
  have HM := Aside0.mk (fun k => cnt_more a1 k h0 h1)
  have HE := Aside0.mk (fun k => cnt_last a1 k h0 h1)
  generalize nG a1.toNat = n at hg hn HL HM HE
  have HR := Aside0.mk hr0
  obtain ⟨i0, hi, hz0, hz1, hz2⟩ := info_parts info5
  have HI := Aside0.mk (And.intro hi (And.intro hz0 (And.intro hz1 hz2)))
  clear hr0 hi hz0 hz1 hz2
  go_enter Try.func96, Try.ntmps96
  go_wp2_with (first
    | (go_at_call 120; refine hg.mono ?_; rintro e w' ⟨rfl, rfl⟩)
    | (at_make; refine wpList_make_own _ rfl _ _ 38 rfl w.heap.size 5 i0 (.int .u8 0) 1 Try.underlying38 HI.out.1 HI.out.2.1 HI.out.2.2.1 .i64 .i64 _ (l0.length + n + a2.size) rfl rfl (by omega) (by rw [HI.out.2.2.2]; omega) (by unfold maxLen; omega) (Nat.le_refl _) ?_; intro w0 hown0 hg0; have HO := Aside0.mk (Kd.R_of_own (α := Int) (enc := fun x => .int .u8 x) (h1 := fun _ => rfl) (xs := []) (ok := fun _ => True) hown0 (fun _ _ => trivial)); have HB := Aside0.mk ((Below.refl _ w).grown hg0 (Nat.le_refl _) (fun k h => by cases h)); clear hown0 hg0)
    | (at_builtin; refine Kd.R_append_rows (Kd.int .u8) (w0 := w) w.heap.size rfl (.tmp 21) (.tmp 22) 38 5 (.int .u8 0) 1 rfl Try.underlying38 info5 rfl (by decide) (by decide) _ [] l0 A0 l0.length c0 (fun _ => True) (fun _ => False) rfl rfl HO.out (Kd.C_below HR.out HB.out) (fun x cs h => h) (fun _ h => h.elim) (fun _ _ => trivial) HB.out HB.out.size (by simp; omega) ?_; intro v1 w1 hR1 hB1 _ _; clear HO HB; have HO := Aside0.mk hR1; have HB := Aside0.mk hB1; clear hR1 hB1))
  go_loopg [8, 25, 9, 10] (n + 1) (fun gg s8 s25 s9 s10 wr => ∃ k : Nat, k ≤ n ∧ n - k ≤ gg ∧ s25 = .int .i64 k ∧ Aside0 (Kd.R (Kd.int .u8) 5 wr w.heap.size (fun _ => True) s8 (l0 ++ (ints (cntB a1.toNat)).take k)) ∧ Aside0 (Below w.heap.size w wr))
  case atStart => exact ⟨0, by omega, by omega, rfl, ⟨by simpa using HO.out⟩, HB⟩
  case round =>
    obtain ⟨k, hk, hgk, rfl, HO, HB⟩ := hrel
    have HLn := Aside0.mk (show ((l0 ++ (ints (cntB a1.toNat)).take k).length + 1) * 1 ≤ 140737488355328 by
      have h1 := HL.out
      have h2 := ints_length (cntB a1.toNat)
      rw [List.length_append, List.length_take]
      omega)
    by_cases hlt : k < n
    · have hltz : (k : Int) < (n : Int) := by omega
      by_cases hl : k + 1 = n
      · have hle : ((k : Int) == (n : Int) - 1) = true := beq_iff_eq.mpr (by omega)
        have HT := Aside0.mk (HE.out k hl)
        go_wp2_with (at_builtin; refine Kd.R_append (Kd.int .u8) (w0 := w) w.heap.size rfl (.tmp 40) (.tmp 42) 38 5 (.int .u8 0) 1 rfl Try.underlying38 info5 rfl (by decide) (by decide) _ _ (Go.bits BinOp.andNot IntKind.u8 (Go.bits BinOp.or IntKind.u8 (a1 / 2 ^ (7 * k) % 256) 128) 128) [.int .u8 (Go.bits BinOp.andNot IntKind.u8 (Go.bits BinOp.or IntKind.u8 (a1 / 2 ^ (7 * k) % 256) 128) 128)] (fun _ => True) (fun _ => False) rfl rfl rfl (fun _ hk => hk.elim) (fun _ _ => trivial) HO.out HB.out HB.out.size HLn.out ?_; intro v2 w2 hR2 hB2 _ _; have HO2 := Aside0.mk hR2; have HB2 := Aside0.mk hB2; clear hR2 hB2)
        go_roundg (n - (k + 1))
        case measure => omega
        case rel => exact ⟨k + 1, by omega, by omega, by go_num, ⟨by rw [HT.out, ← List.append_assoc]; exact HO2.out⟩, HB2⟩
      · have hle : ((k : Int) == (n : Int) - 1) = false := beq_eq_false_iff_ne.mpr (by omega)
        have HT := Aside0.mk (HM.out k hlt hl)
        go_wp2_with (at_builtin; refine Kd.R_append (Kd.int .u8) (w0 := w) w.heap.size rfl (.tmp 40) (.tmp 42) 38 5 (.int .u8 0) 1 rfl Try.underlying38 info5 rfl (by decide) (by decide) _ _ (Go.bits BinOp.or IntKind.u8 (a1 / 2 ^ (7 * k) % 256) 128) [.int .u8 (Go.bits BinOp.or IntKind.u8 (a1 / 2 ^ (7 * k) % 256) 128)] (fun _ => True) (fun _ => False) rfl rfl rfl (fun _ hk => hk.elim) (fun _ _ => trivial) HO.out HB.out HB.out.size HLn.out ?_; intro v2 w2 hR2 hB2 _ _; have HO2 := Aside0.mk hR2; have HB2 := Aside0.mk hB2; clear hR2 hB2)
        go_roundg (n - (k + 1))
        case measure => omega
        case rel => exact ⟨k + 1, by omega, by omega, by go_num, ⟨by rw [HT.out, ← List.append_assoc]; exact HO2.out⟩, HB2⟩
    · have hltz : ¬ (k : Int) < (n : Int) := by omega
      have HK := Aside0.mk (show k = n by omega)
      have HT := Aside0.mk (show (ints (cntB a1.toNat)).take k = ints (cntB a1.toNat) by
        rw [HK.out, ← HL.out, ← ints_length, List.take_length])
      rw [HT.out] at HO
      have HLn2 := Aside0.mk (show (l0 ++ ints (cntB a1.toNat)).length + a2.size ≤ 140737488355328 by
        have h1 := HL.out
        have h2 := ints_length (cntB a1.toNat)
        rw [List.length_append]
        omega)
      go_wp2_with (at_builtin; refine print_append_str (w0 := w) w.heap.size rfl (.tmp 45) (.tmp 46) 38 9 5 rfl Try.underlying38 Try.underlying9 info5 _ (l0 ++ ints (cntB a1.toNat)) a2 rfl rfl (Kd.own_of_R HO.out) HB.out HB.out.size HLn2.out ?_; intro v2 w2 ho2 hB2 _; have HO2 := Aside0.mk (Kd.R_of_own (α := Int) (enc := fun x => .int .u8 x) (h1 := fun _ => rfl) (ok := fun _ => True) ho2 (fun _ _ => trivial)); have HB2 := Aside0.mk hB2; clear ho2 hB2)
      go_ret
      exact ⟨_, rfl, by rw [← List.append_assoc]; exact HO2.out, HB2.out⟩

/-! The form that the printed texts name. -/
def code_lay.f (l0 : List Int) (a1 : Int) (a2 : ByteArray) : Option (List Int) :=
  if 0 ≤ a1 ∧ a1 ≤ 4294967295 ∧ l0.length ≤ 1000000000 ∧ a2.size ≤ 1000000000 then some (l0 ++ ints (cntB a1.toNat) ++ bytesOf a2) else none
theorem code_lay.calls (A0 : Option Addr) (c0 : Nat) (l0 : List Int) (a1 : Int) (a2 : ByteArray) (r : List Int) (w : World) (hr0 : Kd.C (Kd.int .u8) w A0 l0.length l0) (hc0 : l0.length ≤ c0) (h : code_lay.f l0 a1 a2 = some r) :
    Calls Try.prog 96 #[.slice A0 l0.length c0, .int .u64 a1, .string a2] w fun e w' => ∃ v0_ : Value, e = .returned (v0_) ∧ Kd.R (Kd.int .u8) 5 w' w.heap.size (fun _ => True) v0_ r ∧ Below w.heap.size w w' := by
  unfold code_lay.f at h
  split at h
  · rename_i hc
    cases h
    exact lay_calls A0 c0 l0 a1 a2 w hr0 hc0 hc.1 hc.2.1 hc.2.2.1 hc.2.2.2
  · cases h
#print axioms code_lay.calls
end Go.Proofs.Ytgbkoeinfhlpoaa.F
