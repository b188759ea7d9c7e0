/- The document's Runs and Pack (bastionref18), what they come to: the same as the program's. -/
/- The document's Pack: the same as the program's. -/
/- PackWrites: the plain law. -/
import Derived.Test.YtgbkoeinfhlpoaaFx14
import Derived.Test.YtgbkoeinfhlpoaaFx15
import Derived.Test.YtgbkoeinfhlpoaaFx16
import Derived.Test.YtgbkoeinfhlpoaaFx17
import Derived.Test.YtgbkoeinfhlpoaaFx18
import Derived.Test.YtgbkoeinfhlpoaaFx25
import Derived.Test.YtgbkoeinfhlpoaaFx26
import Derived.Test.YtgbkoeinfhlpoaaFx27
import Derived.Test.YtgbkoeinfhlpoaaEUnpack
import Derived.Test.YtgbkoeinfhlpoaaEQRef
import Derived.Test.YtgbkoeinfhlpoaaEPkAwake
import Derived.Test.YtgbkoeinfhlpoaaFx28
namespace Go.Proofs.Ytgbkoeinfhlpoaa.F
open Go.RowKit Go.Shelf Go.Proofs Go.Proofs.YtgbkoeinfhlpoaaW.PrintWords Go.Proofs.YtgbkoeinfhlpoaaW.PrintLast Go.Proofs.YtgbkoeinfhlpoaaW.PrintMore
set_option linter.unusedVariables false
set_option linter.unusedSectionVars false
set_option linter.unusedSimpArgs false

theorem u64_id (n : Nat) (h : n < 4611686018427387904) : IntKind.u64.wrap (n : Int) = (n : Int) := by rw [IntKind.wrap_u64]; omega
theorem strOf_one (n : Nat) (h : n < 256) : strOfNums [((n : Nat) : Int) % 256] = toB [UInt8.ofNat n] := by
  rw [show ((n : Nat) : Int) % 256 = (n : Int) by omega]
  unfold strOfNums toB
  simp
theorem cntF_ten (j n : Nat) (h : n ≤ 2147483647) : (cntF j n).length ≤ 5 := cntF_len_le j 5 n (Nat.lt_of_le_of_lt h (by decide)) (by decide)
theorem pow_div {j n : Nat} (h : n < 128 ^ (j + 1)) : n / 128 < 128 ^ j := by
  rw [Nat.pow_succ, Nat.mul_comm] at h
  exact Nat.div_lt_of_lt_mul h
theorem pow_pos {j n : Nat} (h : n < 128 ^ (j + 1)) (hn : ¬ n < 128) : 1 ≤ j := by
  rcases Nat.eq_zero_or_pos j with h0 | h0
  · rw [h0, Nat.zero_add, Nat.pow_one] at h
    exact absurd h hn
  · exact h0
theorem groups_val : ∀ (j n : Nat), n ≤ 2147483647 → Aside0 (n < 128 ^ j) → 1 ≤ j → ∀ k, j ≤ k → bastionref01_groups.f k (n : Int) = some (toB (cntF j n))
  | 0, n, _, _, h, _, _ => absurd h (by decide)
  | j + 1, n, hb, hn, _, k, hk => by
    obtain ⟨k, rfl⟩ : ∃ m, k = m + 1 := ⟨k - 1, by omega⟩
    unfold bastionref01_groups.f
    unfold cntF
    by_cases h : n < 128
    · rw [if_pos (by omega), if_pos h, strOf_one n (by omega)]
    · have h128 := Aside0.mk (pow_div hn.out)
      have hj := pow_pos hn.out h
      have ih := groups_val j (n / 128) (by omega) h128 hj k (by omega)
      clear hn h128
      rw [if_neg (by omega), if_neg h]
      have e1 : Int.tdiv (n : Int) 128 = ((n / 128 : Nat) : Int) := by rw [Int.tdiv_eq_ediv_of_nonneg (by omega)]; omega
      have e2 : (128 : Int) + Int.tmod (n : Int) 128 = ((128 + n % 128 : Nat) : Int) := by rw [tmod128]; omega
      rw [e1, e2, u64_id _ (by omega), u64_id _ (by omega), Option.bind_some, ih, Option.bind_some, strOf_one _ (by omega), toB_append]
      have hl := cntF_len j (n / 128)
      have hl2 : (toB [UInt8.ofNat (128 + n % 128)]).size + (toB (cntF j (n / 128))).size ≤ 9223372036854775807 := by
        rw [toB_size, toB_size]
        have h3 := cntF_ten j (n / 128) (by omega)
        simp only [List.length_singleton]
        omega
      rw [if_pos hl2]
      rfl

theorem rd_getI (l : List Int) (j : Nat) : rd l (j : Int) = l.getD j 0 := by simp [rd]
theorem behind_l1 (s : ByteArray) (hs : s.size ≤ 1000000000) (l : List Int) (hl : l.length ≤ 1000000000) : ∀ (d i k : Nat), s.size - i = d → i ≤ s.size → d < k → bastionref01_behind.l1 k s (l ++ (bytesOf s).take i) (i : Int) = some (l ++ bytesOf s)
  | d, i, 0, _, _, hk => by omega
  | d, i, k + 1, hd, hi, hk => by
    unfold bastionref01_behind.l1
    have hbl : (bytesOf s).length = s.size := by rw [show bytesOf s = ints s.data.toList from rfl, ints_length, ← Lib.size_eq]
    by_cases h1 : i < s.size
    · obtain ⟨c, hc, hb⟩ := bt_lt s i h1
      have e : (bytesOf s).take (i + 1) = (bytesOf s).take i ++ [bt s (i : Int)] := by
        rw [List.take_succ_eq_append_getElem (by omega), hb]
        congr 2
        have : (bytesOf s)[i]? = some (c.toNat : Int) := by
          rw [show bytesOf s = ints s.data.toList from rfl]
          unfold ints
          rw [List.getElem?_map, hc]
          rfl
        exact (List.getElem?_eq_some_iff.mp this).2
      rw [if_pos (by omega), if_pos (by omega), if_pos (by rw [List.length_append, List.length_take]; omega), wrap_next (by omega), List.append_assoc, ← e]
      exact behind_l1 s hs l hl (d - 1) (i + 1) k (by omega) (by omega) (by omega)
    · rw [if_neg (by omega), List.take_of_length_le (by omega)]
theorem behind_l0 (s : ByteArray) (hs : s.size ≤ 1000000000) (l : List Int) (hl : l.length ≤ 1000000000) : ∀ (d i k : Nat), l.length - i = d → i ≤ l.length → d + s.size + 2 ≤ k → bastionref01_behind.l0 k l s (l.take i) (i : Int) = some (l ++ bytesOf s)
  | d, i, 0, _, _, hk => by omega
  | d, i, k + 1, hd, hi, hk => by
    unfold bastionref01_behind.l0
    by_cases h1 : i < l.length
    · rw [if_pos (by omega), if_pos (by omega), if_pos (by rw [List.length_take]; omega), wrap_next (by omega), rd_getI]
      have e : l.take i ++ [l.getD i 0] = l.take (i + 1) := by
        rw [List.take_succ_eq_append_getElem h1]
        simp [h1]
      rw [e]
      exact behind_l0 s hs l hl (d - 1) (i + 1) k (by omega) (by omega) (by omega)
    · rw [if_neg (by omega), List.take_of_length_le (by omega)]
      have := behind_l1 s hs l hl s.size 0 k (by omega) (by omega) (by omega)
      rw [List.take_zero, List.append_nil] at this
      exact this
theorem behind_val (s : ByteArray) (hs : s.size ≤ 1000000000) (l : List Int) (hl : l.length ≤ 1000000000) (k : Nat) (hk : l.length + s.size + 2 ≤ k) : bastionref01_behind.f k l s = some (l ++ bytesOf s) := by
  unfold bastionref01_behind.f
  have := behind_l0 s hs l hl l.length 0 k (by omega) (by omega) hk
  rw [List.take_zero] at this
  exact this
theorem rcnt_j0 (k : Nat) (x0 : List Int) (x1 : Int) : bastionref01_Count.j0 (k + 1) x0 x1 false = ((bastionref01_groups.f k (IntKind.u64.wrap (x1))).bind fun t191 => ((bastionref01_behind.f k x0 t191).bind fun t192 => (some t192))) := by
  unfold bastionref01_Count.j0; rfl
theorem refCount (b : List UInt8) (n : Nat) (hn : n ≤ 2147483647) (hb : b.length ≤ 1000000) : Ev (fun k => bastionref01_Count.f k (ints b) (n : Int)) (ints (b ++ cntB n)) := by
  have h5 := cntB_short n (by omega)
  refine ⟨b.length + 20, fun k hk => ?_⟩
  obtain ⟨k, rfl⟩ : ∃ m, k = m + 1 := ⟨k - 1, by omega⟩
  dsimp only
  unfold bastionref01_Count.f
  rw [if_neg (by omega), show decide ((n : Int) > 2147483647) = false from decide_eq_false (by omega), rcnt_j0, u64_id n (by omega), groups_val 10 n hn ⟨Nat.lt_of_le_of_lt hn (by decide)⟩ (by omega) k (by omega), Option.bind_some]
  rw [behind_val (toB (cntF 10 n)) (by rw [toB_size]; have : (cntB n).length = (cntF 10 n).length := rfl; omega) (ints b) (by rw [ints_length]; omega) k (by rw [ints_length, toB_size]; have : (cntB n).length = (cntF 10 n).length := rfl; omega), Option.bind_some, ints_append]
  rfl

theorem alikeL_spec (c : UInt8) (t : List UInt8) : (∀ i, i < alikeL (c :: t) → (c :: t)[i]? = some c) ∧ (alikeL (c :: t) = 1000 ∨ (c :: t)[alikeL (c :: t)]? ≠ some c) := alikeF_spec 1000 c (c :: t)
theorem gap_cons (c : UInt8) (t : List UInt8) : gapL (c :: t) = if alikeL (c :: t) < 4 then gapL t + 1 else 0 := rfl
theorem drop_cons8 (s : ByteArray) (a : Nat) (ha : a < s.size) : ∃ c, s.data.toList.drop a = c :: s.data.toList.drop (a + 1) ∧ bt s (a : Int) = (c.toNat : Int) := by
  obtain ⟨c, hc, hb⟩ := bt_lt s a ha
  refine ⟨c, ?_, hb⟩
  rw [List.drop_eq_getElem_cons (by rw [← Lib.size_eq]; exact ha)]
  congr 1
  exact (List.getElem?_eq_some_iff.mp hc).2
theorem ext_ints (s : ByteArray) (a b : Nat) : bytesOf (s.extract a b) = ints ((s.data.toList.drop a).take (b - a)) := by
  rw [show bytesOf (s.extract a b) = ints (s.extract a b).data.toList from rfl, ← Lib.toList_data, Lib.extract_toList]
theorem ext_len (s : ByteArray) (a b : Nat) : (s.extract a b).size ≤ s.size := by rw [ByteArray.size_extract]; omega
theorem drop_len (s : ByteArray) (a : Nat) : (s.data.toList.drop a).length = s.size - a := by rw [List.length_drop, ← Lib.size_eq]

/-- What alike says at a place. -/
structure AlikeAt (s : ByteArray) (a n : Nat) (c : UInt8) : Prop where
  is : alikeL (s.data.toList.drop a) = n
  cons : s.data.toList.drop a = c :: s.data.toList.drop (a + 1)
  byte : bt s (a : Int) = (c.toNat : Int)
  all : ∀ i, i < n → s.data.toList[a + i]? = some c
  stop : n = 1000 ∨ s.data.toList[a + n]? ≠ some c
theorem alike_at (s : ByteArray) (a : Nat) (ha : a < s.size) : ∃ n c, AlikeAt s a n c ∧ n ≤ s.size - a ∧ n ≤ 1000 ∧ 1 ≤ n := by
  obtain ⟨c, hc, hb⟩ := drop_cons8 s a ha
  have hle := alikeL_le (s.data.toList.drop a)
  have hp : 1 ≤ alikeL (s.data.toList.drop a) := by rw [hc]; exact alikeL_pos _ _
  have hsp := alikeL_spec c (s.data.toList.drop (a + 1))
  rw [← hc] at hsp
  rw [drop_len] at hle
  generalize hn : alikeL (s.data.toList.drop a) = n at hle hp hsp
  refine ⟨n, c, ⟨hn, hc, hb, fun i hi => ?_, ?_⟩, hle.1, hle.2, hp⟩
  · have := hsp.1 i hi
    rwa [List.getElem?_drop] at this
  · rcases hsp.2 with h | h
    · exact .inl h
    · rw [List.getElem?_drop] at h
      exact .inr h

theorem ralike_l0 (s : ByteArray) (hs : s.size ≤ 1000000) (a n : Nat) (c : UInt8) (ha : a < s.size) (H : AlikeAt s a n c) (h1 : n ≤ s.size - a) (h2 : n ≤ 1000) : ∀ (d k j : Nat), n - j = d → j ≤ n → d < k → bastionref18_alike.l0 k s (a : Int) (j : Int) = some (n : Int)
  | d, 0, j, _, _, hk => by omega
  | d, k + 1, j, hd, hj, hk => by
    unfold bastionref18_alike.l0
    have e : wrap64 ((a : Int) + (j : Int)) = ((a + j : Nat) : Int) := by rw [← Int.natCast_add]; exact w64 _ (by omega)
    rw [e]
    by_cases h3 : a + j < s.size
    · rw [if_pos (by omega), if_pos (by omega), if_pos (by omega), if_pos (by omega)]
      obtain ⟨c2, hc2, hb2⟩ := bt_lt s (a + j) h3
      rw [H.byte, hb2]
      by_cases hlt : j < n
      · have h4 := H.all j hlt
        rw [hc2] at h4
        injection h4 with h4
        rw [if_pos (by rw [h4]), if_pos (by omega), wrap_next (by omega)]
        exact ralike_l0 s hs a n c ha H h1 h2 (d - 1) k (j + 1) (by omega) (by omega) (by omega)
      · have hje : j = n := by omega
        rcases H.stop with h | h
        · by_cases hcc : (c2.toNat : Int) = (c.toNat : Int)
          · rw [if_pos hcc, if_neg (by omega), hje]
          · rw [if_neg hcc, hje]
        · rw [if_neg ?_, hje]
          intro hcc
          have h5 : c2 = c := UInt8.toNat_inj.mp (by omega)
          rw [← hje, hc2, h5] at h
          exact h rfl
    · rw [if_neg (by omega)]
      have : j = n := by omega
      rw [this]
theorem ralike (s : ByteArray) (hs : s.size ≤ 1000000) (a n : Nat) (c : UInt8) (ha : a < s.size) (H : AlikeAt s a n c) (h1 : n ≤ s.size - a) (h2 : n ≤ 1000) : Ev (fun k => bastionref18_alike.f k s (a : Int)) (n : Int) :=
  ⟨n + 1, fun k hk => by
    unfold bastionref18_alike.f
    exact ralike_l0 s hs a n c ha H h1 h2 _ k 0 rfl (by omega) (by omega)⟩

theorem gap_at (s : ByteArray) (a n : Nat) (c : UInt8) (H : AlikeAt s a n c) : gapL (s.data.toList.drop a) = if n < 4 then gapL (s.data.toList.drop (a + 1)) + 1 else 0 := by
  rw [H.cons, gap_cons, ← H.cons, H.is]
theorem gap_end (s : ByteArray) (a : Nat) (ha : s.size ≤ a) : gapL (s.data.toList.drop a) = 0 := by
  rw [List.drop_of_length_le (by rw [← Lib.size_eq]; exact ha)]
  rfl

section
variable (s : ByteArray) (hs : s.size ≤ 100000)
include hs
theorem rruns_end (B : List UInt8) (hB : B.length ≤ 700000) (a g : Nat) (R : ByteArray) (hn : Ev (fun k => bastionref18_Runs.l0 k s (ints (B ++ (cntB (2 * g) ++ (s.data.toList.drop a).take g))) ((a + g : Nat) : Int)) R) :
    ∀ q : Nat, a ≤ q → q ≤ s.size → g = q - a → Ev (fun k => ((bastionref01_Count.f k (ints B) (wrap64 (2 * (wrap64 ((q : Int) - (a : Int)))))).bind fun t206 => (if (0 : Int) ≤ (a : Int) then (if (a : Int) ≤ (q : Int) then (if (q : Int) ≤ (s.size : Int) then (if t206.length + (s.extract ((a : Int)).toNat ((q : Int)).toNat).size < 140737488355328 then (bastionref18_Runs.l0 k s (t206 ++ bytesOf (s.extract ((a : Int)).toNat ((q : Int)).toNat)) (q : Int)) else (none)) else (none)) else (none)) else (none)))) R := by
  intro q h1 h2 hg
  have e : wrap64 (2 * wrap64 ((q : Int) - (a : Int))) = ((2 * g : Nat) : Int) := by
    rw [show (q : Int) - (a : Int) = ((q - a : Nat) : Int) by omega, w64 (q - a) (by omega), show (2 : Int) * ((q - a : Nat) : Int) = ((2 * (q - a) : Nat) : Int) by omega, w64 (2 * (q - a)) (by omega), hg]
  obtain ⟨K1, hc⟩ := refCount B (2 * g) (by omega) (by omega)
  obtain ⟨K2, hn⟩ := hn
  refine ⟨K1 + K2, fun k hk => ?_⟩
  have hc := hc k (by omega)
  have hn := hn k (by omega)
  dsimp only at hc hn ⊢
  have hx := ext_len s a q
  have h5 := cntB_short (2 * g) (by omega)
  rw [e, hc, Option.bind_some, if_pos (by omega), if_pos (by omega), if_pos (by omega), if_pos (by rw [ints_length, List.length_append, Int.toNat_natCast, Int.toNat_natCast]; omega), Int.toNat_natCast, Int.toNat_natCast, ext_ints, ← ints_append, List.append_assoc, ← hg]
  rw [show q = a + g by omega]
  exact hn
/-- The second loop. -/
theorem rruns_l1 (B : List UInt8) (hB : B.length ≤ 700000) (a g : Nat) (R : ByteArray) (hn : Ev (fun k => bastionref18_Runs.l0 k s (ints (B ++ (cntB (2 * g) ++ (s.data.toList.drop a).take g))) ((a + g : Nat) : Int)) R) :
    ∀ (d q gt : Nat), s.size - q = d → a ≤ q → q ≤ s.size → Aside0 (gapL (s.data.toList.drop q) = gt) → g = (q - a) + gt → Ev (fun k => bastionref18_Runs.l1 k s (ints B) (a : Int) (q : Int)) R := by
  have hend := rruns_end s hs B hB a g R hn
  intro d
  induction d with
  | zero =>
    intro q gt hd h1 h2 hgt hg
    have h0 : gt = 0 := by rw [← hgt.out, gap_end s q (by omega)]
    obtain ⟨K, hK⟩ := hend q h1 h2 (by omega)
    refine ⟨K + 1, fun k hk => ?_⟩
    obtain ⟨k, rfl⟩ : ∃ m, k = m + 1 := ⟨k - 1, by omega⟩
    dsimp only
    unfold bastionref18_Runs.l1
    rw [if_neg (by omega)]
    exact hK k (by omega)
  | succ d ih =>
    intro q gt hd h1 h2 hgt hg
    obtain ⟨n, c, H, a1, a2, a3⟩ := alike_at s q (by omega)
    obtain ⟨K1, ha⟩ := ralike s (by omega) q n c (by omega) H a1 a2
    have hga := gap_at s q n c H
    rw [hgt.out] at hga
    by_cases h4 : n < 4
    · rw [if_pos h4] at hga
      generalize hg2 : gapL (s.data.toList.drop (q + 1)) = g2 at hga
      obtain ⟨K2, hK⟩ := ih (q + 1) g2 (by omega) (by omega) (by omega) ⟨hg2⟩ (by omega)
      clear hg2
      refine ⟨K1 + K2 + 1, fun k hk => ?_⟩
      obtain ⟨k, rfl⟩ : ∃ m, k = m + 1 := ⟨k - 1, by omega⟩
      dsimp only
      have ha := ha k (by omega)
      dsimp only at ha
      unfold bastionref18_Runs.l1
      rw [if_pos (by omega), ha, Option.bind_some, if_pos (by omega), wrap_next (by omega)]
      exact hK k (by omega)
    · rw [if_neg h4] at hga
      obtain ⟨K2, hK⟩ := hend q h1 h2 (by omega)
      refine ⟨K1 + K2 + 1, fun k hk => ?_⟩
      obtain ⟨k, rfl⟩ : ∃ m, k = m + 1 := ⟨k - 1, by omega⟩
      dsimp only
      have ha := ha k (by omega)
      dsimp only at ha
      unfold bastionref18_Runs.l1
      rw [if_pos (by omega), ha, Option.bind_some, if_neg (by omega)]
      exact hK k (by omega)

theorem runsF_run (K a n : Nat) (c : UInt8) (H : AlikeAt s a n c) (h4 : 4 ≤ n) : runsF (K + 1) (s.data.toList.drop a) = cntB (2 * n + 1) ++ c :: runsF K (s.data.toList.drop (a + n)) := by
  have hi := H.is
  rw [H.cons] at hi
  conv => lhs; rw [H.cons]; unfold runsF
  rw [hi, if_pos h4, ← H.cons, List.drop_drop]
theorem runsF_gap (K a n g : Nat) (c : UInt8) (H : AlikeAt s a n c) (h4 : ¬ 4 ≤ n) (hg : gapL (s.data.toList.drop a) = g) : runsF (K + 1) (s.data.toList.drop a) = cntB (2 * g) ++ ((s.data.toList.drop a).take g ++ runsF K (s.data.toList.drop (a + g))) := by
  have hi := H.is
  rw [H.cons] at hi hg
  conv => lhs; rw [H.cons]; unfold runsF
  rw [hi, if_neg h4, hg, ← H.cons, List.drop_drop]

omit hs in
theorem small_len (B X : List UInt8) (h1 : B.length ≤ 700000) (h2 : X.length ≤ 5) : (ints (B ++ X)).length < 140737488355328 := by
  rw [ints_length, List.length_append]
  omega
theorem rruns_l0 : ∀ (K : Nat) (a : Nat) (B : List UInt8), s.size - a < K → a ≤ s.size → B.length ≤ 10 + 6 * a →
    Ev (fun k => bastionref18_Runs.l0 k s (ints B) (a : Int)) (toB (B ++ runsF K (s.data.toList.drop a)))
  | 0, a, B, h, _, _ => absurd h (Nat.not_lt_zero _)
  | K + 1, a, B, h, ha, hB => by
    by_cases hlt : a < s.size
    · obtain ⟨n, c, H, a1, a2, a3⟩ := alike_at s a hlt
      obtain ⟨K1, hal⟩ := ralike s (by omega) a n c hlt H a1 a2
      by_cases h4 : 4 ≤ n
      · rw [runsF_run s hs K a n c H h4]
        have h5 := cntB_short (2 * n + 1) (by omega)
        obtain ⟨K2, hct⟩ := refCount B (2 * n + 1) (by omega) (by omega)
        obtain ⟨K3, hn⟩ := rruns_l0 K (a + n) (B ++ cntB (2 * n + 1) ++ [c]) (by omega) (by omega) (by simp only [List.length_append, List.length_singleton]; omega)
        refine ⟨K1 + K2 + K3 + 1, fun k hk => ?_⟩
        obtain ⟨k, rfl⟩ : ∃ m, k = m + 1 := ⟨k - 1, by omega⟩
        have hal := hal k (by omega)
        have hct := hct k (by omega)
        have hn := hn k (by omega)
        dsimp only at hal hct hn ⊢
        unfold bastionref18_Runs.l0
        have E1 := Aside0.mk (show wrap64 (wrap64 (2 * (n : Int)) + 1) = ((2 * n + 1 : Nat) : Int) by
          rw [show (2 : Int) * (n : Int) = ((2 * n : Nat) : Int) by omega, w64 (2 * n) (by omega), wrap_next (by omega)])
        have E2 := Aside0.mk (show wrap64 ((a : Int) + (n : Int)) = ((a + n : Nat) : Int) by rw [← Int.natCast_add]; exact w64 _ (by omega))
        have hl := small_len B (cntB (2 * n + 1)) (by omega) h5
        have hi : ints (B ++ cntB (2 * n + 1)) ++ [((c.toNat : Nat) : Int)] = ints (B ++ cntB (2 * n + 1) ++ [c]) := (ints_append (B ++ cntB (2 * n + 1)) [c]).symm
        have hf : B ++ cntB (2 * n + 1) ++ [c] ++ runsF K (s.data.toList.drop (a + n)) = B ++ (cntB (2 * n + 1) ++ c :: runsF K (s.data.toList.drop (a + n))) := by
          generalize cntB (2 * n + 1) = X
          generalize runsF K (s.data.toList.drop (a + n)) = Y
          simp
        rw [← hf]
        clear hf
        rw [if_pos (by omega), hal, Option.bind_some, if_pos (by omega), E1.out, hct, Option.bind_some, if_pos (by omega), if_pos hl, E2.out, H.byte, hi]
        exact hn
      · have hga := gap_at s a n c H
        rw [if_pos (by omega)] at hga
        have hgl := gapL_le (s.data.toList.drop a)
        rw [drop_len] at hgl
        generalize hg : gapL (s.data.toList.drop a) = g at hga hgl
        rw [runsF_gap s hs K a n g c H h4 hg]
        have h5 := cntB_short (2 * g) (by omega)
        have hg1 : 1 ≤ g := by rw [hga]; exact Nat.succ_le_succ (Nat.zero_le _)
        clear hga
        have HG := Aside0.mk hg
        clear hg
        have hn := rruns_l0 K (a + g) (B ++ (cntB (2 * g) ++ (s.data.toList.drop a).take g)) (by omega) (by omega) (by
          simp only [List.length_append, List.length_take]; omega)
        obtain ⟨K2, h2⟩ := rruns_l1 s hs B (by omega) a g _ hn (s.size - a) a g rfl (Nat.le_refl _) ha HG (by omega)
        refine ⟨K1 + K2 + 1, fun k hk => ?_⟩
        obtain ⟨k, rfl⟩ : ∃ m, k = m + 1 := ⟨k - 1, by omega⟩
        have hal := hal k (by omega)
        have h2 := h2 k (by omega)
        dsimp only at hal h2 ⊢
        unfold bastionref18_Runs.l0
        rw [if_pos (by omega), hal, Option.bind_some, if_neg (by omega), h2]
        simp only [List.append_assoc]
    · refine ⟨1, fun k hk => ?_⟩
      obtain ⟨k, rfl⟩ : ∃ m, k = m + 1 := ⟨k - 1, by omega⟩
      dsimp only
      unfold bastionref18_Runs.l0
      rw [if_neg (by omega), str_ints, List.drop_of_length_le (by rw [← Lib.size_eq]; omega)]
      simp [runsF, toB]
end
theorem refRuns (s : ByteArray) (hs : s.size ≤ 100000) : Ev (fun k => bastionref18_Runs.f k s) (toB (runsB s.data.toList)) := by
  have h5 := cntB_short s.size (by omega)
  obtain ⟨K1, hc⟩ := refCount [] s.size (by omega) (by simp)
  obtain ⟨K2, h2⟩ := rruns_l0 s hs (s.size + 1) 0 (cntB s.size) (by omega) (by omega) (by omega)
  refine ⟨K1 + K2, fun k hk => ?_⟩
  have hc := hc k (by omega)
  have h2 := h2 k (by omega)
  dsimp only at hc h2 ⊢
  unfold bastionref18_Runs.f
  rw [show ([] : List Int) = ints [] from rfl, hc, Option.bind_some, List.nil_append]
  rw [show ((0 : Nat) : Int) = 0 from rfl, List.drop_zero] at h2
  rw [h2]
  unfold runsB
  rw [← Lib.size_eq]
#print axioms refRuns
end Go.Proofs.Ytgbkoeinfhlpoaa.F

namespace Go.Proofs.Ytgbkoeinfhlpoaa.F
open Go.RowKit Go.Shelf Go.Proofs Go.Proofs.YtgbkoeinfhlpoaaW.PrintWords Go.Proofs.YtgbkoeinfhlpoaaW.PrintLast Go.Proofs.YtgbkoeinfhlpoaaW.PrintMore
set_option linter.unusedVariables false
set_option linter.unusedSimpArgs false
set_option linter.unusedSectionVars false

theorem rcommon_l0 (a b : ByteArray) (ha : a.size ≤ 1000000) (n : Nat) (h1 : n ≤ a.size) (h2 : n ≤ b.size) (hall : ∀ i, i < n → ∃ c, a.data.toList[i]? = some c ∧ b.data.toList[i]? = some c)
    (hend : n = a.size ∨ n = b.size ∨ ∃ c d, a.data.toList[n]? = some c ∧ b.data.toList[n]? = some d ∧ c ≠ d) : ∀ (d j k : Nat), n - j = d → j ≤ n → d < k → bastionref18_common.l0 k a b (j : Int) = some (n : Int)
  | d, j, 0, _, _, hk => by omega
  | d, j, k + 1, hd, hj, hk => by
    unfold bastionref18_common.l0
    by_cases hlt : j < n
    · obtain ⟨c, e1, e2⟩ := hall j hlt
      rw [if_pos (by omega), if_pos (by omega), if_pos (by omega), bt_get a j c e1, bt_get b j c e2, if_pos rfl, wrap_next (by omega)]
      exact rcommon_l0 a b ha n h1 h2 hall hend (d - 1) (j + 1) k (by omega) (by omega) (by omega)
    · have hjn : j = n := by omega
      rcases hend with h | h | ⟨c, d', e1, e2, hne⟩
      · rw [if_neg (by omega), hjn]
      · by_cases h3 : (j : Int) < (a.size : Int)
        · rw [if_pos h3, if_neg (by omega), hjn]
        · rw [if_neg h3, hjn]
      · by_cases h3 : (j : Int) < (a.size : Int)
        · rw [if_pos h3]
          by_cases h4 : (j : Int) < (b.size : Int)
          · rw [if_pos h4, if_pos (by omega), hjn, bt_get a n c e1, bt_get b n d' e2, if_neg]
            intro h
            exact hne (UInt8.toNat_inj.mp (by omega))
          · rw [if_neg h4, hjn]
        · rw [if_neg h3, hjn]
theorem rcommon (was : List UInt8) (b : ByteArray) (hw : was.length ≤ 48) : Ev (fun k => bastionref18_common.f k (toB was) b) (commonL was b.data.toList : Int) := by
  have hle := commonL_le was b.data.toList
  have hgo := common_go was b.data.toList
  have hen := common_end was b.data.toList
  rw [← Lib.size_eq] at hle hen
  generalize commonL was b.data.toList = n at hle hgo hen
  refine ⟨n + 1, fun k hk => ?_⟩
  unfold bastionref18_common.f
  have hs := toB_size was
  exact rcommon_l0 (toB was) b (by omega) n (by omega) hle.2 (fun i hi => hgo i hi) (by rw [hs]; exact hen) n 0 k (by omega) (by omega) (by omega)

theorem refStr (b : List UInt8) (s : ByteArray) (hs : s.size ≤ 100000) (hb : b.length ≤ 1000000) : Ev (fun k => bastionref01_Str.f k (ints b) s) (ints (b ++ cntB s.size ++ s.data.toList)) := by
  obtain ⟨K, hc⟩ := refCount b s.size (by omega) hb
  have h5 := cntB_short s.size (by omega)
  refine ⟨K + b.length + 5 + s.size + 2, fun k hk => ?_⟩
  have hc := hc k (by omega)
  dsimp only at hc ⊢
  unfold bastionref01_Str.f
  rw [hc, Option.bind_some, behind_val s (by omega) _ (by rw [ints_length, List.length_append]; omega) k (by rw [ints_length, List.length_append]; omega), Option.bind_some, ints_append (b ++ cntB s.size)]
  rfl

theorem rpack_l0 (L : List S33) (hL : L.length ≤ 64) (hf : ∀ f ∈ L, f.f0.size ≤ 48 ∧ f.f1.size ≤ 4096) : ∀ (d i : Nat) (b was : List UInt8), L.length - i = d → i ≤ L.length → was.length ≤ 48 → b.length ≤ 10005 * i + 5 →
    Ev (fun k => bastionref18_Pack.l0 k L (ints b) (toB was) (i : Int)) (toB (b ++ packG was ((L.drop i).map flOf)), 0) := by
  intro d
  induction d with
  | zero =>
    intro i b was hd hi hw hb
    refine ⟨1, fun k hk => ?_⟩
    obtain ⟨k, rfl⟩ : ∃ m, k = m + 1 := ⟨k - 1, by omega⟩
    have hni : ¬ ((i : Int) < (L.length : Int)) := by omega
    dsimp only
    unfold bastionref18_Pack.l0
    rw [if_neg hni, str_ints, List.drop_eq_nil_iff.mpr (by omega)]
    simp [packG, toB]
  | succ d ih =>
    intro i b was hd hi hw hb
    have hlt : i < L.length := by omega
    have hm := hf L[i] (List.getElem_mem hlt)
    have hg : rd_T33 L (i : Int) = L[i] := by simp [rd_T33, List.getD_eq_getElem?_getD, List.getElem?_eq_getElem hlt]
    have hdr : L.drop i = L[i] :: L.drop (i + 1) := List.drop_eq_getElem_cons hlt
    generalize L[i] = f at hm hg hdr
    have hs1 : (flOf f).1.length ≤ 48 := by have := hm.1; rw [Lib.size_eq] at this; exact this
    have hs2 : (flOf f).2.length ≤ 4096 := by have := hm.2; rw [Lib.size_eq] at this; exact this
    have hone := packOne_len was (flOf f) hs1 hs2
    have hnext := ih (i + 1) (b ++ packOne was (flOf f)) (flOf f).1 (by omega) (by omega) hs1 (by rw [List.length_append]; omega)
    have hcle := commonL_le was f.f0.data.toList
    obtain ⟨K1, k1⟩ := rcommon was f.f0 hw
    have hR : toB (b ++ packG was ((L.drop i).map flOf)) = toB (b ++ packOne was (flOf f) ++ packG (flOf f).1 ((L.drop (i + 1)).map flOf)) := by
      rw [hdr, List.map_cons]
      congr 1
      conv => lhs; unfold packG
      unfold packOne
      simp only [List.append_assoc]
    rw [hR]
    have hpo : packOne was (flOf f) = cntB (commonL was f.f0.data.toList) ++ (cntB (f.f0.data.toList.length - commonL was f.f0.data.toList) ++ (f.f0.data.toList.drop (commonL was f.f0.data.toList) ++ runsB f.f1.data.toList)) := rfl
    rw [← Lib.size_eq] at hcle hpo
    generalize commonL was f.f0.data.toList = n at hcle k1 hpo
    have h5 := cntB_short n (by omega)
    have hst : f.f0.extract n f.f0.size = toB (f.f0.data.toList.drop n) := toB_drop f.f0.data.toList n
    have hstl : (toB (f.f0.data.toList.drop n)).size = f.f0.size - n := by rw [toB_size, List.length_drop, ← Lib.size_eq]
    obtain ⟨K2, k2⟩ := refCount b n (by omega) (by omega)
    obtain ⟨K3, k3⟩ := refStr (b ++ cntB n) (toB (f.f0.data.toList.drop n)) (by omega) (by rw [List.length_append]; omega)
    obtain ⟨K4, k4⟩ := refRuns f.f1 (by omega)
    obtain ⟨K5, k5⟩ := hnext
    refine ⟨K1 + K2 + K3 + K4 + K5 + 1, fun k hk => ?_⟩
    obtain ⟨k, rfl⟩ : ∃ m, k = m + 1 := ⟨k - 1, by omega⟩
    have k1 := k1 k (by omega)
    have k2 := k2 k (by omega)
    have k3 := k3 k (by omega)
    have k4 := k4 k (by omega)
    have k5 := k5 k (by omega)
    dsimp only at k1 k2 k3 k4 k5 ⊢
    rw [hstl] at k3
    unfold bastionref18_Pack.l0
    have hfin : ints (b ++ cntB n ++ cntB (f.f0.size - n) ++ (toB (f.f0.data.toList.drop n)).data.toList) ++ bytesOf (toB (runsB f.f1.data.toList)) = ints (b ++ packOne was (flOf f)) := by
      rw [hpo, show bytesOf (toB (runsB f.f1.data.toList)) = ints (runsB f.f1.data.toList) from rfl, ← ints_append, show (toB (f.f0.data.toList.drop n)).data.toList = f.f0.data.toList.drop n from rfl]
      congr 1
      generalize runsB f.f1.data.toList = Y
      generalize cntB n = X
      generalize cntB (f.f0.size - n) = Z
      simp only [List.append_assoc]
    have hsz : (ints (b ++ cntB n ++ cntB (f.f0.size - n) ++ (toB (f.f0.data.toList.drop n)).data.toList)).length + (toB (runsB f.f1.data.toList)).size < 140737488355328 := by
      have h := congrArg List.length hfin
      rw [List.length_append, ints_length (b ++ packOne was (flOf f)), List.length_append] at h
      have h6 : (bytesOf (toB (runsB f.f1.data.toList))).length = (toB (runsB f.f1.data.toList)).size := by
        rw [show bytesOf (toB (runsB f.f1.data.toList)) = ints (runsB f.f1.data.toList) from rfl, ints_length, toB_size]
      omega
    rw [if_pos (by omega), if_pos (by omega), hg, k1, Option.bind_some, k2, Option.bind_some, if_pos (by omega), if_pos (by omega), Int.toNat_natCast, hst, k3, Option.bind_some, k4, Option.bind_some, if_pos hsz, wrap_next (by omega), hfin]
    exact k5

theorem refPack (L : List S33) (hl : L.length ≤ 1000000000) : Ev (fun k => bastionref18_Pack.f k L) (packE L) := by
  unfold packE
  by_cases hc : checkE L = 0
  · rw [if_pos hc]
    have hfull := check_full hc
    have hs : ∀ f ∈ L, f.f0.size ≤ 48 ∧ f.f1.size ≤ 4096 := fun f hf => ⟨path_short (check_files hc f hf), data_short (check_files hc f hf)⟩
    have a1 := cntB_short L.length (by omega)
    obtain ⟨K, hK⟩ := rpack_l0 L hfull.1 hs L.length 0 (cntB L.length) [] (by omega) (by omega) (by simp) (by omega)
    obtain ⟨K2, h2⟩ := refCount [] L.length (by omega) (by simp)
    refine ⟨K + K2 + big L.length, fun k hk => ?_⟩
    have hK := hK k (by omega)
    have h2 := h2 k (by omega)
    dsimp only at hK h2 ⊢
    unfold bastionref18_Pack.f
    rw [refCheck L hl k (by omega), Option.bind_some, if_pos hc, show ([] : List Int) = ints [] from rfl, h2, Option.bind_some, List.nil_append]
    rw [List.drop_zero] at hK
    unfold packB
    rw [List.length_map]
    exact hK
  · rw [if_neg hc]
    refine ⟨big L.length, fun k hk => ?_⟩
    dsimp only
    unfold bastionref18_Pack.f
    rw [refCheck L hl k hk, Option.bind_some, if_neg hc]
#print axioms refPack
end Go.Proofs.Ytgbkoeinfhlpoaa.F

namespace Go.Proofs.Ytgbkoeinfhlpoaa.F
open Go.RowKit Go.Shelf Go.Proofs Go.Proofs.YtgbkoeinfhlpoaaW.PrintWords Go.Proofs.YtgbkoeinfhlpoaaW.PrintLast Go.Proofs.YtgbkoeinfhlpoaaW.PrintMore
set_option linter.unusedVariables false
set_option linter.unusedSimpArgs false

theorem PackWrites_pure (l0 : List S33) (a1 : ByteArray) (y0 : Light l0) : ∃ k, bastionlaw18_PackWrites.f k l0 a1 = some true := by
  have hl : l0.length ≤ 4398046511104 := by have := y0.len; omega
  obtain ⟨K0, haw⟩ := awake_true
  by_cases hc : l0.length ≤ 40000 ∧ a1.size ≤ 40000
  · obtain ⟨K1, k1⟩ := pack_val l0
    obtain ⟨K2, k2⟩ := refPack l0 (by omega)
    obtain ⟨K3, k3⟩ := refRuns a1 (by omega)
    obtain ⟨k, hk⟩ : ∃ k, k = K0 + K1 + K2 + K3 + l0.length + 1 := ⟨_, rfl⟩
    have k1 := k1 k (by omega)
    have k2 := k2 k (by omega)
    have k3 := k3 k (by omega)
    have haw := haw k (by omega)
    obtain ⟨b, hb, hb2⟩ := large18 y0 k (by omega)
    dsimp only at k1 k2 k3 haw
    refine ⟨k, ?_⟩
    have haw1 : ((bastionlaw18_awake.f k).bind fun t => some t) = some true := by rw [haw]; rfl
    unfold bastionlaw18_PackWrites.f
    rw [hb, Option.bind_some]
    by_cases c0 : b = true
    · rw [if_pos c0]; exact haw1
    rw [if_neg c0, if_neg (by omega), Option.bind_some, if_pos (by simp only [List.length_nil]; omega), Option.bind_some, List.nil_append, k1, Option.bind_some, k2, Option.bind_some, if_pos rfl, if_pos rfl]
    rw [show pack_Runs.f a1 = some (toB (runsB a1.data.toList)) by unfold pack_Runs.f; rw [if_pos (by omega)]; rfl, Option.bind_some, k3, Option.bind_some, if_pos rfl, same17 l0 l0 (by omega) k (by omega), Option.bind_some, if_pos (by simp)]
    exact haw1
  · obtain ⟨k, hk⟩ : ∃ k, k = K0 + l0.length + 1 := ⟨_, rfl⟩
    have haw := haw k (by omega)
    obtain ⟨b, hb, hb2⟩ := large18 y0 k (by omega)
    dsimp only at haw
    refine ⟨k, ?_⟩
    have haw1 : ((bastionlaw18_awake.f k).bind fun t => some t) = some true := by rw [haw]; rfl
    unfold bastionlaw18_PackWrites.f
    rw [hb, Option.bind_some]
    by_cases c0 : b = true
    · rw [if_pos c0]; exact haw1
    · have h1 := hb2 (by simpa using c0)
      rw [if_neg c0, if_pos (by omega)]
      exact haw1

theorem PackWrites_law (A0 : Option Addr) (c0 : Nat) (l0 : List S33) (a1 : ByteArray) (w : World) (hr0 : Kd.C k33 w A0 l0.length l0) (hc0 : l0.length ≤ c0) (y0 : Light l0) (w1 : a1.size ≤ 140737488351232) :
    Calls Try.prog 7 #[.slice A0 l0.length c0, .string a1] w fun e w' => e = .returned (.bool true) ∧ Below w.heap.size w w' := by
  obtain ⟨k, h⟩ := PackWrites_pure l0 a1 y0
  exact bastionlaw18_PackWrites.calls k A0 c0 l0 a1 true w hr0 hc0 h
#print axioms PackWrites_law
end Go.Proofs.Ytgbkoeinfhlpoaa.F
