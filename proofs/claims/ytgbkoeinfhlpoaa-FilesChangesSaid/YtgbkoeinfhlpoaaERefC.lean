/- The document's answers for layer 17: path, file, way, size: the same as the program's. -/
/- The document's answers for layer 17: check, put, del, lay, same: the same as the program's. -/
/- The document's answers for layer 17: put, del, lay, same: the same as the program's. -/
import Derived.Test.YtgbkoeinfhlpoaaFx5
import Derived.Test.YtgbkoeinfhlpoaaEWorks
import Derived.Test.YtgbkoeinfhlpoaaELawPut
import Derived.Test.YtgbkoeinfhlpoaaFx6
import Derived.Test.YtgbkoeinfhlpoaaFx7
namespace Go.Proofs.Ytgbkoeinfhlpoaa.F
open Go.RowKit Go.Proofs.YtgbkoeinfhlpoaaW.PrintWords Go.Proofs.YtgbkoeinfhlpoaaW.PrintLast Go.Proofs.YtgbkoeinfhlpoaaW.PrintMore
set_option linter.unusedVariables false
set_option linter.unusedSimpArgs false
set_option linter.unusedSectionVars false

/-- A path's rest, where cur of its part is read. -/
def restB : List UInt8 → List UInt8 → Bool
  | cur, [] => partB cur
  | cur, c :: r => if c = 47 then partB cur && restB [] r else plainB c && restB (cur ++ [c]) r

theorem plain47 : plainB 47 = false := by decide

theorem split_pre : ∀ (cur rest : List UInt8), (∀ c ∈ cur, c ≠ 47) → ∀ p ps, splitS rest = p :: ps → splitS (cur ++ rest) = (cur ++ p) :: ps
  | [], rest, _, p, ps, h => h
  | c :: cur, rest, hc, p, ps, h => by
    have ih := split_pre cur rest (fun x hx => hc x (List.mem_cons_of_mem _ hx)) p ps h
    show splitS (c :: (cur ++ rest)) = _
    unfold splitS
    rw [if_neg (hc c List.mem_cons_self), ih]
    rfl
theorem split_some : ∀ (l : List UInt8), ∃ p ps, splitS l = p :: ps
  | [] => ⟨[], [], rfl⟩
  | c :: t => by
    obtain ⟨p, ps, h⟩ := split_some t
    unfold splitS
    by_cases hc : c = 47
    · rw [if_pos hc]; exact ⟨_, _, rfl⟩
    · rw [if_neg hc, h]; exact ⟨_, _, rfl⟩
theorem restB_split : ∀ (rest cur : List UInt8), (∀ c ∈ cur, c ≠ 47) → restB cur rest = (splitS (cur ++ rest)).all partB
  | [], cur, hc => by
    rw [split_pre cur [] hc [] [] rfl]
    simp [restB]
  | c :: r, cur, hc => by
    unfold restB
    by_cases h : c = 47
    · subst h
      rw [if_pos rfl, split_pre cur (47 :: r) hc [] (splitS r) (by rw [splitS, if_pos rfl]), List.all_cons, List.append_nil, restB_split r [] (by simp)]
      rfl
    · rw [if_neg h, restB_split r (cur ++ [c]) (by intro x hx; rcases List.mem_append.mp hx with hx | hx; · exact hc x hx
                                                   · rw [List.mem_singleton.mp hx]; exact h), List.append_assoc]
      show (plainB c && (splitS (cur ++ c :: r)).all partB) = _
      obtain ⟨p, ps, hr⟩ := split_some r
      have h1 : splitS (c :: r) = (c :: p) :: ps := by unfold splitS; rw [if_neg h, hr]
      rw [split_pre cur (c :: r) hc _ _ h1, List.all_cons]
      cases hp : plainB c with
      | true => rfl
      | false =>
        have : partB (cur ++ c :: p) = false := by
          unfold partB
          simp [hp]
        rw [this]; rfl

theorem j2_plain (k : Nat) (x0 : ByteArray) (f i : Int) (h0 : 0 ≤ i) (h1 : i < (x0.size : Int)) :
    bastionref17_Path.j2 (k + 1) x0 f i true = bastionref17_Path.j3 k x0 f i (!plainI (bt x0 i)) := by
  unfold bastionref17_Path.j2
  rw [if_pos rfl, if_pos h0, if_pos h1]
  generalize bt x0 i = n
  have hy : ∀ (h : (97 ≤ n ∧ n ≤ 122) ∨ (65 ≤ n ∧ n ≤ 90) ∨ (48 ≤ n ∧ n ≤ 57) ∨ n = 45 ∨ n = 95), bastionref17_Path.j3 k x0 f i false = bastionref17_Path.j3 k x0 f i (!plainI n) := by
    intro h
    have : plainI n = true := by unfold plainI; rw [decide_eq_true_eq]; omega
    rw [this]; rfl
  have hn : ∀ (h : ¬ ((97 ≤ n ∧ n ≤ 122) ∨ (65 ≤ n ∧ n ≤ 90) ∨ (48 ≤ n ∧ n ≤ 57) ∨ n = 45 ∨ n = 95)), bastionref17_Path.j3 k x0 f i (n != 46) = bastionref17_Path.j3 k x0 f i (!plainI n) := by
    intro h
    by_cases h46 : n = 46
    · subst h46; rfl
    · have : plainI n = false := by unfold plainI; rw [decide_eq_false_iff_not]; omega
      rw [this, show (n != 46) = true by simp [h46]]; rfl
  repeat' split
  all_goals first | exact hy (by omega) | exact hn (by omega)

theorem bt_list (x0 : ByteArray) (i : Nat) (h : i < x0.size) : ∃ c r, x0.data.toList.drop i = c :: r ∧ r = x0.data.toList.drop (i + 1) ∧ bt x0 (i : Int) = (c.toNat : Int) := by
  have h' : i < x0.data.toList.length := by rw [← Lib.size_eq]; exact h
  refine ⟨x0.data.toList[i], _, List.drop_eq_getElem_cons h', rfl, ?_⟩
  have e : bt x0 (i : Int) = (x0[i].toNat : Int) := by simp [bt, h]
  rw [e]; rfl

theorem take_snoc (l : List UInt8) (f i : Nat) (c : UInt8) (r : List UInt8) (hfi : f ≤ i) (h : l.drop i = c :: r) : (l.drop f).take (i + 1 - f) = (l.drop f).take (i - f) ++ [c] := by
  rw [show i + 1 - f = (i - f) + 1 by omega, List.take_add_one]
  congr 1
  rw [List.getElem?_drop, show f + (i - f) = i by omega]
  have : (l.drop i)[0]? = some c := by rw [h]; rfl
  rw [List.getElem?_drop, Nat.add_zero] at this
  rw [this]; rfl

theorem part_spec (cur : List UInt8) (hc : ∀ c ∈ cur, plainB c = true) : partB cur = (cur != [] && cur != [46] && cur != [46, 46]) := by
  unfold partB
  rw [show cur.all plainB = true from List.all_eq_true.mpr hc, Bool.and_true]

theorem path_go (x0 : ByteArray) (hsz : x0.size ≤ 1000) : ∀ (n f i k : Nat), x0.size + 1 - i ≤ n → f ≤ i → i ≤ x0.size → (∀ c ∈ (x0.data.toList.drop f).take (i - f), plainB c = true) → 3 * n + 3 < k →
    bastionref17_Path.l0 k x0 (f : Int) (i : Int) = some (restB ((x0.data.toList.drop f).take (i - f)) (x0.data.toList.drop i))
  | 0, f, i, k, hn, _, hi, _, _ => by omega
  | n + 1, f, i, k, hn, hfi, hi, hp, hk => by
    obtain ⟨k, rfl⟩ : ∃ k', k = k' + 3 := ⟨k - 3, by omega⟩
    have hlen : x0.data.toList.length = x0.size := (Lib.size_eq x0).symm
    have hext : (x0.extract ((f : Int)).toNat ((i : Int)).toNat).toList = (x0.data.toList.drop f).take (i - f) := by
      rw [Int.toNat_natCast, Int.toNat_natCast, Lib.extract_toList]
    -- the part's end
    have hend : ∀ (rest : Bool), bastionref17_Path.l0 (k + 1) x0 ((i + 1 : Nat) : Int) ((i + 1 : Nat) : Int) = some rest →
        bastionref17_Path.j2 (k + 2) x0 (f : Int) (i : Int) false = some (partB ((x0.data.toList.drop f).take (i - f)) && rest) := by
      intro rest hr
      rw [part_spec _ hp]
      unfold bastionref17_Path.j2
      rw [if_neg (by simp), if_pos (by omega), if_pos (by omega), if_pos (by omega), hext, wrap_succ (by omega), hr]
      generalize (x0.data.toList.drop f).take (i - f) = cur
      by_cases h1 : cur = []
      · rw [if_pos h1]; simp [h1]
      · rw [if_neg h1]
        by_cases h2 : cur = [46]
        · rw [if_pos h2]; simp [h2]
        · rw [if_neg h2]
          by_cases h3 : cur = [46, 46]
          · rw [if_pos h3]; simp [h3]
          · rw [if_neg h3]; simp [h1, h2, h3]
    show bastionref17_Path.l0 ((k + 2) + 1) _ _ _ = _
    unfold bastionref17_Path.l0
    rw [if_pos (by omega)]
    by_cases hlt : i < x0.size
    · rw [if_pos (by omega), if_pos (by omega)]
      obtain ⟨c, r, hd, hr, hb⟩ := bt_list x0 i hlt
      rw [hb, hd]
      by_cases h47 : c = 47
      · subst h47
        rw [show (((47 : UInt8).toNat : Int) != 47) = false by decide]
        have ih := path_go x0 hsz n (i + 1) (i + 1) (k + 1) (by omega) (Nat.le_refl _) (by omega) (by simp) (by omega)
        rw [Nat.sub_self, List.take_zero, ← hr] at ih
        rw [hend _ ih, restB, if_pos rfl]
      · have hne : ((c.toNat : Int) != 47) = true := by
          have : c.toNat ≠ 47 := fun e => h47 (UInt8.toNat_inj.mp e)
          have h2 : (c.toNat : Int) ≠ 47 := by omega
          simp [h2]
        rw [hne, show k + 2 = (k + 1) + 1 from rfl, j2_plain (k + 1) x0 _ _ (by omega) (by omega), hb, plainI_byte]
        unfold bastionref17_Path.j3
        unfold restB
        rw [if_neg h47]
        cases hpl : plainB c with
        | false => simp
        | true =>
          have ih := path_go x0 hsz n f (i + 1) k (by omega) (by omega) (by omega) (by
            rw [take_snoc _ _ _ _ _ hfi hd]
            intro x hx
            rcases List.mem_append.mp hx with hx | hx
            · exact hp x hx
            · rw [List.mem_singleton.mp hx]; exact hpl) (by omega)
          rw [take_snoc _ _ _ _ _ hfi hd, ← hr] at ih
          simp only [Bool.not_true, Bool.false_eq_true, if_false, Bool.true_and]
          rw [wrap_succ (by omega)]
          exact ih
    · rw [if_neg (by omega)]
      have hie : i = x0.size := by omega
      have hr : bastionref17_Path.l0 (k + 1) x0 ((i + 1 : Nat) : Int) ((i + 1 : Nat) : Int) = some true := by
        unfold bastionref17_Path.l0
        rw [if_neg (by omega)]
      rw [hend true hr, Bool.and_true, show x0.data.toList.drop i = [] from List.drop_eq_nil_of_le (by omega), restB]

theorem j0_eq (k : Nat) (x0 : ByteArray) (b : Bool) : bastionref17_Path.j0 (k + 1) x0 b = if b = true then some false else bastionref17_Path.l0 k x0 0 0 := by
  unfold bastionref17_Path.j0; rfl
theorem refPath (x0 : ByteArray) (k : Nat) (hk : 200 ≤ k) : bastionref17_Path.f k x0 = some (pathB x0.toList) := by
  obtain ⟨k, rfl⟩ : ∃ k', k = k' + 1 := ⟨k - 1, by omega⟩
  unfold bastionref17_Path.f
  have hlen : x0.toList.length = x0.size := by rw [Lib.toList_data, ← Lib.size_eq]
  unfold pathB
  rw [hlen]
  by_cases h : (x0.size : Int) > 48
  · rw [if_pos h, decide_eq_false (by omega), Bool.false_and]
    rw [j0_eq, if_pos rfl]
  · rw [if_neg h, decide_eq_true (by omega), Bool.true_and]
    rw [j0_eq]
    by_cases he : x0.toList = []
    · rw [show (x0.toList == []) = true by simp [he], if_pos rfl, he]
      rfl
    · rw [show (x0.toList == []) = false by simp [he], if_neg (by simp)]
      have := path_go x0 (by omega) (x0.size + 1) 0 0 k (by omega) (Nat.le_refl _) (Nat.zero_le _) (by simp) (by omega)
      rw [show ((0 : Nat) : Int) = 0 from rfl] at this
      rw [this, Nat.sub_self, List.take_zero, List.drop_zero, restB_split _ [] (by simp), Lib.toList_data]
      rfl

theorem refFile (a0 a1 : ByteArray) (k : Nat) (hk : 200 ≤ k) : bastionref17_file.f k a0 a1 = some (fileE ⟨a0, a1⟩) := by
  unfold bastionref17_file.f fileE
  rw [refPath a0 k hk, Option.bind_some]
  show (if pathB a0.toList = true then _ else _) = some (if pathB a0.toList = true then (if a1.size ≤ 4096 then 0 else 40) else 63)
  by_cases h : pathB a0.toList = true
  · rw [if_pos h, if_pos h]
    by_cases h2 : a1.size ≤ 4096
    · rw [if_pos h2, if_neg (by omega)]
    · rw [if_neg h2, if_pos (by omega)]
  · rw [if_neg h, if_neg h]

theorem refWay (a0 a1 : ByteArray) : bastionref17_Way.f a0 a1 = some (wayB a0.toList a1.toList) := by
  unfold bastionref17_Way.f bastionref17_Under.f wayB
  simp only [Option.bind_some]
  by_cases h : a0.toList = a1.toList
  · rw [if_pos h]; simp [h]
  · rw [if_neg h, show (a0.toList == a1.toList) = false by simp [h], Bool.false_or]
    cases underB a0.toList a1.toList <;> simp

theorem sizeF_take (l : List S33) (j : Nat) (h : j < l.length) : sizeF (l.take (j + 1)) = sizeF (l.take j) + (l.getD j z33).f1.size := by
  rw [List.take_add_one, List.getElem?_eq_getElem h, sizeF_append]
  simp [sizeF, List.getD_eq_getElem?_getD, h]
theorem size_go (l : List S33) (hs : sizeF l ≤ 4611686018427387903) (hl : l.length ≤ 4611686018427387903) : ∀ (k j : Nat), l.length - j < k → bastionref17_Size.l0 k l (sizeF (l.take j) : Int) (j : Int) = some (sizeF l : Int)
  | 0, j, h => by omega
  | k + 1, j, h => by
    unfold bastionref17_Size.l0
    by_cases h1 : j < l.length
    · rw [if_pos (by omega), if_pos (by omega), getD_rd, wrap_succ (by omega)]
      have hle : sizeF (l.take (j + 1)) ≤ sizeF l := by
        conv => rhs; rw [← List.take_append_drop (j + 1) l, sizeF_append]
        omega
      have e : wrap64 ((sizeF (l.take j) : Int) + ((l.getD j z33).f1.size : Int)) = (sizeF (l.take (j + 1)) : Int) := by
        rw [sizeF_take l j h1] at hle ⊢
        unfold wrap64
        omega
      rw [e]
      exact size_go l hs hl k (j + 1) (by omega)
    · rw [if_neg (by omega), List.take_of_length_le (by omega)]
theorem refSize (l : List S33) (hs : sizeF l ≤ 4611686018427387903) (hl : l.length ≤ 4611686018427387903) (k : Nat) (hk : l.length < k) : bastionref17_Size.f k l = some (sizeF l : Int) := by
  unfold bastionref17_Size.f
  exact size_go l hs hl k 0 (by omega)

#print axioms refFile
#print axioms refSize
end Go.Proofs.Ytgbkoeinfhlpoaa.F

namespace Go.Proofs.Ytgbkoeinfhlpoaa.F
open Go.RowKit Go.Proofs.YtgbkoeinfhlpoaaW.PrintWords Go.Proofs.YtgbkoeinfhlpoaaW.PrintLast Go.Proofs.YtgbkoeinfhlpoaaW.PrintMore
set_option linter.unusedVariables false
set_option linter.unusedSimpArgs false
set_option linter.unusedSectionVars false

/-! ### Check -/
section
variable (l : List S33) (hl : l.length ≤ 1000000000)
include hl
theorem chk_l2_end (k j : Nat) (hk : l.length + 5 < k) (hj : l.length ≤ j) (hf : ∀ f ∈ l, fileE f = 0) : bastionref17_Check.l2 (k + 1) l (j : Int) = some (fullE l) := by
  unfold bastionref17_Check.l2
  rw [if_neg (by omega)]
  unfold fullE
  by_cases h1 : (l.length : Int) > 64
  · rw [if_pos h1, if_neg (by omega)]
  · have hs := sizeF_le 4096 l (fun f hf' => data_short (hf f hf'))
    rw [if_neg h1, refSize l (by omega) (by omega) k (by omega), Option.bind_some]
    by_cases h2 : (sizeF l : Int) > 16384
    · rw [if_pos h2, if_neg (by omega)]
    · rw [if_neg h2, if_pos (by omega)]

/-- Is some file ahead of the j-th, from the i-th on, in its way? -/
theorem chk_l3 (j : Nat) (hj : j < l.length) (k' : Nat) (next : Option Int) (hnext : ∀ k, k' ≤ k → bastionref17_Check.l2 k l ((j + 1 : Nat) : Int) = next) :
    ∀ (n i k : Nat), j - i ≤ n → i ≤ j → k' + n + 1 ≤ k →
      ((∃ t, i ≤ t ∧ t < j ∧ wayB (l.getD j z33).p (l.getD t z33).p = true) ∧ bastionref17_Check.l3 k l (j : Int) (i : Int) = some 50) ∨
      ((¬ ∃ t, i ≤ t ∧ t < j ∧ wayB (l.getD j z33).p (l.getD t z33).p = true) ∧ bastionref17_Check.l3 k l (j : Int) (i : Int) = next)
  | n, i, 0, _, _, hk => by omega
  | n, i, k + 1, hn, hi, hk => by
    unfold bastionref17_Check.l3
    by_cases h1 : i < j
    · obtain ⟨n, rfl⟩ : ∃ m, n = m + 1 := ⟨n - 1, by omega⟩
      rw [if_pos (by omega), if_pos (by omega), if_pos (by omega), if_pos (by omega), if_pos (by omega), getD_rd, getD_rd, refWay, Option.bind_some, wrap_succ (by omega)]
      change ((∃ t, i ≤ t ∧ t < j ∧ wayB (l.getD j z33).p (l.getD t z33).p = true) ∧ (if wayB (l.getD j z33).p (l.getD i z33).p = true then some 50 else bastionref17_Check.l3 k l (j : Int) ((i + 1 : Nat) : Int)) = some 50) ∨ ((¬ ∃ t, i ≤ t ∧ t < j ∧ wayB (l.getD j z33).p (l.getD t z33).p = true) ∧ (if wayB (l.getD j z33).p (l.getD i z33).p = true then some 50 else bastionref17_Check.l3 k l (j : Int) ((i + 1 : Nat) : Int)) = next)
      by_cases h2 : wayB (l.getD j z33).p (l.getD i z33).p = true
      · rw [if_pos h2]
        exact .inl ⟨⟨i, Nat.le_refl _, h1, h2⟩, rfl⟩
      · rw [if_neg h2]
        rcases chk_l3 j hj k' next hnext n (i + 1) k (by omega) (by omega) (by omega) with ⟨⟨t, a, b, c⟩, h⟩ | ⟨hno, h⟩
        · exact .inl ⟨⟨t, by omega, b, c⟩, h⟩
        · refine .inr ⟨?_, h⟩
          rintro ⟨t, a, b, c⟩
          rcases Nat.eq_or_lt_of_le a with rfl | hlt
          · exact h2 c
          · exact hno ⟨t, hlt, b, c⟩
    · rw [if_neg (by omega), wrap_succ (by omega), hnext k (by omega)]
      refine .inr ⟨?_, rfl⟩
      rintro ⟨t, a, b, _⟩; omega

theorem chk_l2 (hf : ∀ f ∈ l, fileE f = 0) : ∀ (n j k : Nat), l.length - j ≤ n → j ≤ l.length → (n + 1) * (l.length + 5) + l.length + 10 ≤ k →
      ((∃ s t, j ≤ s ∧ s < l.length ∧ t < s ∧ wayB (l.getD s z33).p (l.getD t z33).p = true) ∧ bastionref17_Check.l2 k l (j : Int) = some 50) ∨
      ((¬ ∃ s t, j ≤ s ∧ s < l.length ∧ t < s ∧ wayB (l.getD s z33).p (l.getD t z33).p = true) ∧ bastionref17_Check.l2 k l (j : Int) = some (fullE l))
  | n, j, 0, _, _, hk => by omega
  | 0, j, k + 1, hn, hj, hk => by
    refine .inr ⟨?_, chk_l2_end l hl k j (by omega) (by omega) hf⟩
    rintro ⟨s, t, a, b, _⟩; omega
  | n + 1, j, k + 1, hn, hj, hk => by
    by_cases h1 : j < l.length
    · unfold bastionref17_Check.l2
      rw [if_pos (by omega)]
      have h3 : (n + 1 + 1) * (l.length + 5) = (n + 1) * (l.length + 5) + (l.length + 5) := by rw [Nat.add_mul, Nat.one_mul]
      rcases Classical.em (∃ s t, j + 1 ≤ s ∧ s < l.length ∧ t < s ∧ wayB (l.getD s z33).p (l.getD t z33).p = true) with hE | hE
      · have hnext : ∀ k, (n + 1) * (l.length + 5) + l.length + 10 ≤ k → bastionref17_Check.l2 k l ((j + 1 : Nat) : Int) = some 50 := fun k hk => by
          rcases chk_l2 hf n (j + 1) k (by omega) (by omega) hk with ⟨_, h⟩ | ⟨h, _⟩
          · exact h
          · exact absurd hE h
        obtain ⟨s, t, a, b, c, d⟩ := hE
        refine .inl ⟨⟨s, t, by omega, b, c, d⟩, ?_⟩
        rcases chk_l3 l hl j h1 _ _ hnext j 0 k (by omega) (Nat.zero_le _) (by omega) with ⟨_, h⟩ | ⟨_, h⟩ <;> exact h
      · have hnext : ∀ k, (n + 1) * (l.length + 5) + l.length + 10 ≤ k → bastionref17_Check.l2 k l ((j + 1 : Nat) : Int) = some (fullE l) := fun k hk => by
          rcases chk_l2 hf n (j + 1) k (by omega) (by omega) hk with ⟨h, _⟩ | ⟨_, h⟩
          · exact absurd h hE
          · exact h
        rcases chk_l3 l hl j h1 _ _ hnext j 0 k (by omega) (Nat.zero_le _) (by omega) with ⟨⟨t, _, b, c⟩, h⟩ | ⟨hno, h⟩
        · exact .inl ⟨⟨j, t, Nat.le_refl _, h1, b, c⟩, h⟩
        · refine .inr ⟨?_, h⟩
          rintro ⟨s, t, a, b, c, d⟩
          rcases Nat.eq_or_lt_of_le a with rfl | hlt
          · exact hno ⟨t, Nat.zero_le _, c, d⟩
          · exact hE ⟨s, t, hlt, b, c, d⟩
    · refine .inr ⟨?_, chk_l2_end l hl k j (by omega) (by omega) hf⟩
      rintro ⟨s, t, a, b, _⟩; omega

theorem way_some (hr : risingB l = true) : (∃ s t, 0 ≤ s ∧ s < l.length ∧ t < s ∧ wayB (l.getD s z33).p (l.getD t z33).p = true) ↔ someWay l = true := by
  have hd : Apart l := (rising_pair l hr).imp lt_ne
  constructor
  · rintro ⟨s, t, _, hs, hts, hw⟩
    have hms : l.getD s z33 ∈ l := by simp [hs]
    have hmt : l.getD t z33 ∈ l := by simp [show t < l.length by omega]
    have hne : (l.getD s z33).p ≠ (l.getD t z33).p := by
      have := List.pairwise_iff_getElem.mp hd t s (by omega) hs hts
      simp only [List.getD_eq_getElem?_getD, List.getElem?_eq_getElem hs, List.getElem?_eq_getElem (show t < l.length by omega), Option.getD_some]
      exact fun e => this e.symm
    unfold wayB at hw
    simp only [Bool.or_eq_true, beq_iff_eq] at hw
    unfold someWay
    rw [List.any_eq_true]
    rcases hw with (hw | hw) | hw
    · exact absurd hw hne
    · exact ⟨_, hms, List.any_eq_true.mpr ⟨_, hmt, hw⟩⟩
    · exact ⟨_, hmt, List.any_eq_true.mpr ⟨_, hms, hw⟩⟩
  · intro h
    unfold someWay at h
    obtain ⟨f, hf, h⟩ := List.any_eq_true.mp h
    obtain ⟨g, hg, h⟩ := List.any_eq_true.mp h
    obtain ⟨a, ha, rfl⟩ := List.mem_iff_getElem.mp hf
    obtain ⟨b, hb, rfl⟩ := List.mem_iff_getElem.mp hg
    have ea : l.getD a z33 = l[a] := by simp [List.getD_eq_getElem?_getD, ha]
    have eb : l.getD b z33 = l[b] := by simp [List.getD_eq_getElem?_getD, hb]
    rcases Nat.lt_trichotomy a b with hab | hab | hab
    · refine ⟨b, a, Nat.zero_le _, hb, hab, ?_⟩
      rw [ea, eb]; unfold wayB; simp [h]
    · subst hab
      rw [under_self] at h; cases h
    · refine ⟨a, b, Nat.zero_le _, ha, hab, ?_⟩
      rw [ea, eb]; unfold wayB; simp [h]

theorem chk_l1 (hf : ∀ f ∈ l, fileE f = 0) : ∀ (n j k : Nat), l.length - j ≤ n → 1 ≤ j → (∀ i, i + 1 < j → i + 1 < l.length → ltB (gp l i) (gp l (i + 1)) = true) → (l.length + 1) * (l.length + 5) + l.length + 11 + n ≤ k →
      bastionref17_Check.l1 k l (j : Int) = if risingB l = true then (if someWay l = true then some 50 else some (fullE l)) else some 4
  | n, j, 0, _, _, _, hk => by omega
  | n, j, k + 1, hn, hj, hr, hk => by
    unfold bastionref17_Check.l1
    by_cases h1 : j < l.length
    · obtain ⟨n, rfl⟩ : ∃ m, n = m + 1 := ⟨n - 1, by omega⟩
      have hw : wrap64 ((j : Int) - 1) = ((j - 1 : Nat) : Int) := by unfold wrap64; omega
      rw [if_pos (by omega), hw, if_pos (by omega), if_pos (by omega), if_pos (by omega), getD_rd, getD_rd, wrap_succ (by omega)]
      change (if ltB (gp l (j - 1)) (gp l j) = true then bastionref17_Check.l1 k l ((j + 1 : Nat) : Int) else some 4) = _
      by_cases h2 : ltB (gp l (j - 1)) (gp l j) = true
      · rw [if_pos h2]
        refine chk_l1 hf n (j + 1) k (by omega) (by omega) (fun i hi hi2 => ?_) (by omega)
        rcases Nat.lt_or_ge (i + 1) j with h | h
        · exact hr i h hi2
        · obtain rfl : j = i + 1 := by omega
          exact h2
      · rw [if_neg h2, if_neg]
        intro hc
        have := (rising_iff l).mp hc (j - 1) (by omega)
        rw [show j - 1 + 1 = j by omega] at this
        exact h2 this
    · have hrise : risingB l = true := (rising_iff l).mpr (fun i hi => hr i (by omega) hi)
      rw [if_neg (by omega), if_pos hrise]
      have := chk_l2 l hl hf l.length 0 k (by omega) (Nat.zero_le _) (by omega)
      rw [show ((0 : Nat) : Int) = 0 from rfl] at this
      have hw := way_some l hl hrise
      rcases this with ⟨h, e⟩ | ⟨h, e⟩
      · rw [e, if_pos (hw.mp h)]
      · rw [e, if_neg (fun h2 => h (hw.mpr h2))]

theorem chk_l0 : ∀ (n j k : Nat), l.length - j ≤ n → (∀ i, i < j → i < l.length → fileE (l.getD i z33) = 0) → (l.length + 1) * (l.length + 5) + 2 * l.length + 300 + n ≤ k →
      bastionref17_Check.l0 k l (j : Int) = some (checkE l)
  | n, j, 0, _, _, hk => by omega
  | n, j, k + 1, hn, hf, hk => by
    unfold bastionref17_Check.l0
    by_cases h1 : j < l.length
    · obtain ⟨n, rfl⟩ : ∃ m, n = m + 1 := ⟨n - 1, by omega⟩
      rw [if_pos (by omega), if_pos (by omega), getD_rd, refFile _ _ k (by omega), Option.bind_some, wrap_succ (by omega)]
      change (if fileE (l.getD j z33) = 0 then _ else some (fileE (l.getD j z33))) = _
      by_cases h2 : fileE (l.getD j z33) = 0
      · rw [if_pos h2]
        refine chk_l0 n (j + 1) k (by omega) (fun i hi hi2 => ?_) (by omega)
        rcases Nat.lt_or_ge i j with h | h
        · exact hf i h hi2
        · obtain rfl : i = j := by omega
          exact h2
      · rw [if_neg h2]
        have := firstE_hit l j h1 (fun i hi => hf i hi (by omega)) h2
        unfold checkE
        rw [if_neg (by rw [this]; exact h2), this]
    · have hz : firstE l = 0 := firstE_zero l (fun i hi => hf i (by omega) hi)
      rw [if_neg (by omega)]
      have := chk_l1 l hl (firstE_all l hz) l.length 1 k (by omega) (Nat.le_refl _) (fun i hi _ => by omega) (by omega)
      rw [show ((1 : Nat) : Int) = 1 from rfl] at this
      rw [this]
      unfold checkE
      rw [if_pos hz]
      by_cases hr : risingB l = true
      · rw [if_pos hr, if_pos hr]
        by_cases hs : someWay l = true
        · rw [if_pos hs, if_pos hs]
        · rw [if_neg hs, if_neg hs]
      · rw [if_neg hr, if_neg hr]
end

/-- Rounds enough for a list. -/
def big (n : Nat) : Nat := (n + 1) * (n + 5) + 3 * n + 300
theorem big_mono {n m : Nat} (h : n ≤ m) : big n ≤ big m := by
  unfold big
  have := Nat.mul_le_mul (show n + 1 ≤ m + 1 by omega) (show n + 5 ≤ m + 5 by omega)
  omega
theorem refCheck (l : List S33) (hl : l.length ≤ 1000000000) (k : Nat) (hk : big l.length ≤ k) : bastionref17_Check.f k l = some (checkE l) := by
  unfold bastionref17_Check.f
  unfold big at hk
  exact chk_l0 l hl l.length 0 k (by omega) (fun i hi => by omega) (by omega)

#print axioms refCheck
end Go.Proofs.Ytgbkoeinfhlpoaa.F

namespace Go.Proofs.Ytgbkoeinfhlpoaa.F
open Go.RowKit Go.Proofs.YtgbkoeinfhlpoaaW.PrintWords Go.Proofs.YtgbkoeinfhlpoaaW.PrintLast Go.Proofs.YtgbkoeinfhlpoaaW.PrintMore
set_option linter.unusedVariables false
set_option linter.unusedSimpArgs false
set_option linter.unusedSectionVars false

theorem inE_insF {f : S33} : ∀ {l : List S33}, (∀ g ∈ l, g.p ≠ f.p) → inE l f = insF l f
  | [], _ => rfl
  | g :: t, h => by
    have ih := inE_insF (f := f) (l := t) (fun x hx => h x (List.mem_cons_of_mem _ hx))
    unfold inE at ih ⊢
    unfold insF frontF
    rw [if_neg (h g List.mem_cons_self)]
    by_cases h2 : ltB g.p f.p = true
    · rw [if_pos h2, if_pos h2, ← ih]; simp
    · rw [if_neg h2, if_neg h2]; simp

theorem drop_cons (l : List S33) (j : Nat) (h : j < l.length) : l.drop j = l.getD j z33 :: l.drop (j + 1) := by
  rw [List.drop_eq_getElem_cons h]
  congr 1
  simp [List.getD_eq_getElem?_getD, h]
theorem take_one (l : List S33) (j : Nat) (h : j < l.length) : l.take (j + 1) = l.take j ++ [l.getD j z33] := by
  rw [List.take_add_one, List.getElem?_eq_getElem h]
  simp [List.getD_eq_getElem?_getD, h]
theorem in_ok {l : List S33} (h : l.length ≤ 1000000000) (a0 a1 : ByteArray) : bastionref17_in.f l a0 a1 = some (inE l ⟨a0, a1⟩) := by
  unfold bastionref17_in.f; rw [if_pos h]

/-! ### Put -/
theorem put_go (l : List S33) (hl : l.length ≤ 100000000) (q data : ByteArray) (K : Nat) (hK : big (l.length + 1) ≤ K) : ∀ (n j k : Nat), l.length - j ≤ n → K + n + 1 ≤ k →
    bastionref17_Put.l0 k l q ((l.take j).filter (fun g => g.p != q.toList)) (j : Int) q data =
      if (l.drop j).any (fun g => g.p != q.toList && wayB g.p q.toList) = true then some ([], 50)
      else if checkE (insF (l.filter (fun g => g.p != q.toList)) ⟨q, data⟩) = 0 then some (insF (l.filter (fun g => g.p != q.toList)) ⟨q, data⟩, 0) else some ([], 3)
  | n, j, 0, _, hk => by omega
  | n, j, k + 1, hn, hk => by
    unfold bastionref17_Put.l0
    by_cases h1 : j < l.length
    · obtain ⟨n, rfl⟩ : ∃ m, n = m + 1 := ⟨n - 1, by omega⟩
      have ih := put_go l hl q data K hK n (j + 1) k (by omega) (by omega)
      rw [if_pos (by omega), if_pos (by omega), getD_rd, wrap_succ (by omega), drop_cons l j h1, List.any_cons]
      rw [take_one l j h1, List.filter_append] at ih
      by_cases h2 : (l.getD j z33).f0.toList = q.toList
      · have hp : ((l.getD j z33).p != q.toList) = false := bne_eq_false_iff_eq.mpr h2
        rw [if_pos h2, hp, Bool.false_and, Bool.false_or]
        rw [List.filter_cons_of_neg (by show ¬ ((l.getD j z33).p != q.toList) = true; rw [hp]; simp), List.filter_nil, List.append_nil] at ih
        exact ih
      · have hp : ((l.getD j z33).p != q.toList) = true := bne_iff_ne.mpr h2
        rw [if_neg h2, refWay, Option.bind_some, hp, Bool.true_and]
        rw [List.filter_cons_of_pos (p := fun g : S33 => g.p != q.toList) (a := l.getD j z33) hp, List.filter_nil] at ih
        change (if wayB (l.getD j z33).p q.toList = true then _ else _) = _
        by_cases h3 : wayB (l.getD j z33).p q.toList = true
        · rw [if_pos h3, h3, Bool.true_or, if_pos rfl]
        · have h3' : wayB (l.getD j z33).p q.toList = false := by simpa using h3
          have hlen := List.length_filter_le (fun g : S33 => g.p != q.toList) (l.take j)
          rw [List.length_take] at hlen
          rw [if_neg h3, h3', Bool.false_or, if_pos (by omega)]
          exact ih
    · rw [if_neg (by omega), List.drop_eq_nil_of_le (by omega), List.any_nil, if_neg (by simp), List.take_of_length_le (by omega)]
      have hlen := List.length_filter_le (fun g : S33 => g.p != q.toList) l
      have hin : inE (l.filter (fun g => g.p != q.toList)) ⟨q, data⟩ = insF (l.filter (fun g => g.p != q.toList)) ⟨q, data⟩ := inE_insF (fun g hg => by simpa [S33.p] using (List.mem_filter.mp hg).2)
      have hl2 := insF_len (l.filter (fun g => g.p != q.toList)) ⟨q, data⟩
      rw [in_ok (by omega), Option.bind_some, hin, refCheck _ (by omega) k (Nat.le_trans (big_mono (m := l.length + 1) (by omega)) (by omega)), Option.bind_some]

theorem insF_filter {l : List S33} {f : S33} (hr : Rise l) : insF (l.filter (fun g => g.p != f.p)) f = insF l f := by
  have hf : Rise (l.filter (fun g => g.p != f.p)) := List.Pairwise.filter _ hr
  refine sorted_one (l := insF l f) (insF_rise hr).apart ?_ (List.Perm.refl _) (insF_rise hf).sorted (insF_rise hr).sorted
  refine (insF_perm hf).trans ?_
  rw [List.filter_filter]
  simp only [Bool.and_self]
  exact (insF_perm hr).symm

theorem refPut (l : List S33) (hl : l.length ≤ 100000000) (q data : ByteArray) (k : Nat) (hk : big (l.length + 1) + l.length + 300 ≤ k) : bastionref17_Put.f k l q data = some (putE l ⟨q, data⟩) := by
  unfold bastionref17_Put.f putE
  rw [refCheck l (by omega) k (Nat.le_trans (big_mono (show l.length ≤ l.length + 1 by omega)) (by omega)), Option.bind_some]
  by_cases h1 : checkE l = 0
  · have G := good_of h1
    rw [if_pos h1, if_pos h1, refFile q data k (by omega), Option.bind_some]
    by_cases h2 : fileE ⟨q, data⟩ = 0
    · rw [if_pos h2, if_pos h2]
      have := put_go l hl q data (big (l.length + 1)) (Nat.le_refl _) l.length 0 k (by omega) (by omega)
      rw [List.take_zero, List.filter_nil, List.drop_zero, show ((0 : Nat) : Int) = 0 from rfl] at this
      rw [this]
      have hfi : insF (l.filter (fun g => g.p != q.toList)) ⟨q, data⟩ = insF l ⟨q, data⟩ := insF_filter (f := ⟨q, data⟩) G.rise
      rw [hfi]
      change _ = some (if l.any (fun g => g.p != q.toList && wayB g.p q.toList) = true then _ else _)
      cases h3 : l.any (fun g => g.p != q.toList && wayB g.p q.toList) with
      | true => rw [if_pos rfl, if_pos rfl]
      | false =>
        rw [if_neg Bool.false_ne_true, if_neg Bool.false_ne_true]
        by_cases h4 : fullE (insF l ⟨q, data⟩) = 0
        · rw [if_pos h4, if_pos (check_of (put_good (f := ⟨q, data⟩) G h2 h3 h4))]
        · rw [if_neg h4, if_neg (fun hc => h4 (full_good (good_of hc)))]
    · rw [if_neg h2, if_neg h2]
  · rw [if_neg h1, if_neg h1]

/-! ### Del -/
theorem del_go (l : List S33) (hl : l.length ≤ 100000000) (q : ByteArray) : ∀ (n j k : Nat), l.length - j ≤ n → n + 1 ≤ k →
    bastionref17_Del.l0 k l q ((l.take j).filter (fun g => g.p != q.toList)) (j : Int) =
      if (((l.filter (fun g => g.p != q.toList)).length : Nat) : Int) = (l.length : Int) then some ([], 5) else some (l.filter (fun g => g.p != q.toList), 0)
  | n, j, 0, _, hk => by omega
  | n, j, k + 1, hn, hk => by
    unfold bastionref17_Del.l0
    by_cases h1 : j < l.length
    · obtain ⟨n, rfl⟩ : ∃ m, n = m + 1 := ⟨n - 1, by omega⟩
      have ih := del_go l hl q n (j + 1) k (by omega) (by omega)
      rw [if_pos (by omega), if_pos (by omega), getD_rd, wrap_succ (by omega)]
      rw [take_one l j h1, List.filter_append] at ih
      by_cases h2 : (l.getD j z33).f0.toList = q.toList
      · have hp : ((l.getD j z33).p != q.toList) = false := bne_eq_false_iff_eq.mpr h2
        rw [if_pos h2]
        rw [List.filter_cons_of_neg (by show ¬ ((l.getD j z33).p != q.toList) = true; rw [hp]; simp), List.filter_nil, List.append_nil] at ih
        exact ih
      · have hp : ((l.getD j z33).p != q.toList) = true := bne_iff_ne.mpr h2
        rw [List.filter_cons_of_pos (p := fun g : S33 => g.p != q.toList) (a := l.getD j z33) hp, List.filter_nil] at ih
        have hlen := List.length_filter_le (fun g : S33 => g.p != q.toList) (l.take j)
        rw [List.length_take] at hlen
        rw [if_neg h2, if_pos (by omega)]
        exact ih
    · rw [if_neg (by omega), List.take_of_length_le (by omega)]
theorem refDel (l : List S33) (hl : l.length ≤ 100000000) (q : ByteArray) (k : Nat) (hk : big l.length + l.length + 10 ≤ k) : bastionref17_Del.f k l q = some (delE l q.toList) := by
  unfold bastionref17_Del.f delE
  rw [refCheck l (by omega) k (by omega), Option.bind_some]
  by_cases h1 : checkE l = 0
  · rw [if_pos h1, if_pos h1]
    have := del_go l hl q l.length 0 k (by omega) (by omega)
    rw [List.take_zero, List.filter_nil, show ((0 : Nat) : Int) = 0 from rfl] at this
    rw [this]
    cases h2 : l.any (fun g => g.p == q.toList) with
    | true =>
      rw [if_pos rfl, if_neg]
      intro h
      have h3 : (l.filter (fun g => g.p != q.toList)).length = l.length := by omega
      rw [List.length_filter_eq_length_iff] at h3
      obtain ⟨g, hg, hgq⟩ := List.any_eq_true.mp h2
      have := h3 g hg
      simp at this hgq
      exact this hgq
    | false =>
      have h3 : l.filter (fun g => g.p != q.toList) = l := filter_no (fun g hg e => by
        have := List.any_eq_false.mp h2 g hg
        simp [e] at this)
      rw [if_neg Bool.false_ne_true, h3, if_pos rfl]
  · rw [if_neg h1, if_neg h1]

/-! ### Lay -/
section
variable (a b : List S33) (ha : a.length ≤ 100000000) (hb : b.length ≤ 100000000) (Ga : Good a) (Gb : Good b)
include ha hb Ga Gb
/-- What is free in a. -/
def freeF (b : List S33) (f : S33) : Bool := !b.any (fun g => wayB f.p g.p)
theorem lay_end (x : List S33) (hx : Rise x) (hp : x.Perm (overF a b)) : x = (overF a b).mergeSort leF :=
  sorted_one (over_apart Ga.rising Gb.rising) hp (List.mergeSort_perm _ _) hx.sorted (merge_sorted _)
theorem lay_l1 : ∀ (n j k : Nat) (x : List S33), a.length - j ≤ n → Rise x → x.Perm (b ++ (a.take j).filter (freeF b)) → (n + 1) * (b.length + 5) + a.length + b.length + 10 ≤ k →
    bastionref17_Lay.l1 k a b x (j : Int) = some (if fullE (overF a b) = 0 then ((overF a b).mergeSort leF, 0) else ([], 3))
  | n, j, 0, x, _, _, _, hk => by omega
  | n, j, k + 1, x, hn, hx, hp, hk => by
    have hlx : x.length ≤ a.length + b.length := by
      rw [hp.length_eq, List.length_append]
      have := List.length_filter_le (freeF b) (a.take j)
      rw [List.length_take] at this
      omega
    unfold bastionref17_Lay.l1
    by_cases h1 : j < a.length
    · obtain ⟨n, rfl⟩ : ∃ m, n = m + 1 := ⟨n - 1, by omega⟩
      have h3 : (n + 1 + 1) * (b.length + 5) = (n + 1) * (b.length + 5) + (b.length + 5) := by rw [Nat.add_mul, Nat.one_mul]
      rw [if_pos (by omega)]
      -- the inner loop
      have inner : ∀ (m t k : Nat), b.length - t ≤ m → (n + 1) * (b.length + 5) + a.length + b.length + 10 + m + 1 ≤ k →
          bastionref17_Lay.l2 k a b x (j : Int) (!(b.take t).any (fun g => wayB (a.getD j z33).p g.p)) (t : Int) = some (if fullE (overF a b) = 0 then ((overF a b).mergeSort leF, 0) else ([], 3)) := by
        intro m
        induction m with
        | zero =>
          intro t k hm hk
          obtain ⟨k, rfl⟩ : ∃ k', k = k' + 1 := ⟨k - 1, by omega⟩
          unfold bastionref17_Lay.l2
          rw [if_neg (by omega), List.take_of_length_le (by omega)]
          have hT := take_one a j h1
          by_cases hf : freeF b (a.getD j z33) = true
          · have hf' : (!b.any (fun g => wayB (a.getD j z33).p g.p)) = true := hf
            rw [hf', if_pos rfl, if_pos (by omega), if_pos (by omega), getD_rd, in_ok (by omega), Option.bind_some, wrap_succ (by omega)]
            have hne : ∀ g ∈ x, g.p ≠ (a.getD j z33).p := by
              intro g hg e
              rcases List.mem_append.mp (hp.mem_iff.mp hg) with h | h
              · have : b.any (fun g => wayB (a.getD j z33).p g.p) = true := List.any_eq_true.mpr ⟨g, h, by rw [e]; exact wayB_self _⟩
                rw [this] at hf'; cases hf'
              · have hgt := (List.mem_filter.mp h).1
                obtain ⟨i, hi, rfl⟩ := List.mem_iff_getElem.mp hgt
                rw [List.length_take] at hi
                have := List.pairwise_iff_getElem.mp Ga.apart i j (by omega) h1 (by omega)
                rw [List.getElem_take] at e
                simp only [List.getD_eq_getElem?_getD, List.getElem?_eq_getElem h1, Option.getD_some] at e
                exact this e
            have e : inE x ⟨(a.getD j z33).f0, (a.getD j z33).f1⟩ = insF x (a.getD j z33) := inE_insF hne
            rw [e]
            refine lay_l1 n (j + 1) k _ (by omega) (insF_rise hx) ?_ (by omega)
            refine (insF_perm hx).trans ?_
            rw [filter_no hne, hT, List.filter_append, List.filter_cons_of_pos hf, List.filter_nil, ← List.append_assoc]
            exact (hp.cons _).trans (List.perm_append_comm (l₁ := [a.getD j z33]))
          · have hf' : (!b.any (fun g => wayB (a.getD j z33).p g.p)) = false := by
              unfold freeF at hf; simpa using hf
            rw [hf', if_neg Bool.false_ne_true, wrap_succ (by omega)]
            refine lay_l1 n (j + 1) k _ (by omega) hx ?_ (by omega)
            rw [hT, List.filter_append, List.filter_cons_of_neg hf, List.filter_nil, List.append_nil]
            exact hp
        | succ m ihm =>
          intro t k hm hk
          by_cases ht : t < b.length
          · obtain ⟨k, rfl⟩ : ∃ k', k = k' + 1 := ⟨k - 1, by omega⟩
            have ih := ihm (t + 1) k (by omega) (by omega)
            rw [take_one b t ht, List.any_append, List.any_cons, List.any_nil, Bool.or_false] at ih
            unfold bastionref17_Lay.l2
            rw [if_pos (by omega)]
            cases hc : (b.take t).any (fun g => wayB (a.getD j z33).p g.p) with
            | true =>
              rw [hc, Bool.true_or] at ih
              rw [Bool.not_true, if_neg Bool.false_ne_true, wrap_succ (by omega)]
              exact ih
            | false =>
              rw [hc, Bool.false_or] at ih
              rw [Bool.not_false, if_pos rfl, if_pos (by omega), if_pos (by omega), if_pos (by omega), getD_rd, getD_rd, refWay, Option.bind_some, wrap_succ (by omega)]
              exact ih
          · exact ihm t k (by omega) (by omega)
      have := inner b.length 0 k (by omega) (by omega)
      rw [List.take_zero, List.any_nil] at this
      exact this
    · rw [if_neg (by omega)]
      rw [List.take_of_length_le (by omega)] at hp
      have hx2 := lay_end a b ha hb Ga Gb x hx hp
      have hfe : fullE x = fullE (overF a b) := fullE_perm hp
      rw [← hfe, ← hx2]
      unfold fullE
      have hd : ∀ f ∈ x, f.f1.size ≤ 4096 := by
        intro f hf
        rcases over_mem.mp (hp.mem_iff.mp hf) with h | ⟨h, _⟩
        · exact data_short (Gb.file f h)
        · exact data_short (Ga.file f h)
      have hs := sizeF_le 4096 x hd
      by_cases h2 : (x.length : Int) > 64
      · rw [if_pos h2, if_neg (by omega)]
      · rw [if_neg h2, refSize x (by omega) (by omega) k (by omega), Option.bind_some]
        by_cases h3 : (sizeF x : Int) > 16384
        · rw [if_pos h3, if_neg (by omega)]
        · rw [if_neg h3, if_pos (by omega)]

theorem lay_l0 : ∀ (n j k : Nat) (x : List S33), b.length - j ≤ n → Rise x → x.Perm (b.take j) → (a.length + 1) * (b.length + 5) + a.length + b.length + 11 + n ≤ k →
    bastionref17_Lay.l0 k a b x (j : Int) = some (if fullE (overF a b) = 0 then ((overF a b).mergeSort leF, 0) else ([], 3))
  | n, j, 0, x, _, _, _, hk => by omega
  | n, j, k + 1, x, hn, hx, hp, hk => by
    unfold bastionref17_Lay.l0
    by_cases h1 : j < b.length
    · obtain ⟨n, rfl⟩ : ∃ m, n = m + 1 := ⟨n - 1, by omega⟩
      have hlx : x.length ≤ b.length := by rw [hp.length_eq, List.length_take]; omega
      rw [if_pos (by omega), if_pos (by omega), getD_rd, wrap_succ (by omega), in_ok (by omega), Option.bind_some]
      have hne : ∀ g ∈ x, g.p ≠ (b.getD j z33).p := by
        intro g hg e
        obtain ⟨i, hi, rfl⟩ := List.mem_iff_getElem.mp (hp.mem_iff.mp hg)
        rw [List.length_take] at hi
        have := List.pairwise_iff_getElem.mp Gb.apart i j (by omega) h1 (by omega)
        rw [List.getElem_take] at e
        simp only [List.getD_eq_getElem?_getD, List.getElem?_eq_getElem h1, Option.getD_some] at e
        exact this e
      have e : inE x ⟨(b.getD j z33).f0, (b.getD j z33).f1⟩ = insF x (b.getD j z33) := inE_insF hne
      rw [e]
      refine lay_l0 n (j + 1) k _ (by omega) (insF_rise hx) ?_ (by omega)
      refine (insF_perm hx).trans ?_
      rw [filter_no hne, take_one b j h1]
      exact (hp.cons _).trans (List.perm_append_comm (l₁ := [b.getD j z33]))
    · rw [if_neg (by omega)]
      rw [List.take_of_length_le (by omega)] at hp
      exact lay_l1 a b ha hb Ga Gb a.length 0 k x (by omega) hx (by rw [List.take_zero, List.filter_nil, List.append_nil]; exact hp) (by omega)
end

theorem layj0_eq (k : Nat) (a b : List S33) (x : Bool) : bastionref17_Lay.j0 (k + 1) a b x = if x = true then some ([], 4) else bastionref17_Lay.l0 k a b [] 0 := by
  unfold bastionref17_Lay.j0; rfl
theorem refLay (a b : List S33) (ha : a.length ≤ 100000000) (hb : b.length ≤ 100000000) (k : Nat) (hk : big a.length + big b.length + (a.length + 1) * (b.length + 5) + a.length + 2 * b.length + 20 ≤ k) : bastionref17_Lay.f k a b = some (layE a b) := by
  obtain ⟨k, rfl⟩ : ∃ k', k = k' + 1 := ⟨k - 1, by omega⟩
  unfold bastionref17_Lay.f layE
  rw [refCheck a (by omega) _ (by omega), Option.bind_some]
  by_cases h1 : checkE a = 0
  · rw [if_pos h1, refCheck b (by omega) _ (by omega), Option.bind_some]
    rw [layj0_eq]
    by_cases h2 : checkE b = 0
    · rw [h2, show ((0 : Int) != 0) = false by decide, if_neg Bool.false_ne_true, if_pos ⟨h1, rfl⟩]
      have := lay_l0 a b ha hb (good_of h1) (good_of h2) b.length 0 k [] (by omega) List.Pairwise.nil (by rw [List.take_zero]) (by omega)
      exact this
    · rw [show (checkE b != 0) = true by simp [h2], if_pos rfl, if_neg (fun h => h2 h.2)]
  · rw [if_neg h1, if_neg (fun h => h1 h.1)]
    rw [layj0_eq, if_pos rfl]

/-! ### Same -/
theorem rsame_go (l : List S33) (hl : l.length ≤ 4611686018427387903) : ∀ (k j : Nat), l.length - j < k → bastionref17_Same.l0 k l l (j : Int) = some true
  | 0, j, h => by omega
  | k + 1, j, h => by
    unfold bastionref17_Same.l0
    by_cases h1 : (j : Int) < (l.length : Int)
    · rw [if_pos h1, if_pos (by omega), if_pos h1, if_pos rfl, if_pos rfl, wrap_succ (by omega)]
      exact rsame_go l hl k (j + 1) (by omega)
    · rw [if_neg h1]
theorem rsame_refl (l : List S33) (hl : l.length ≤ 4611686018427387903) (k : Nat) (hk : l.length < k) : bastionref17_Same.f k l l = some true := by
  unfold bastionref17_Same.f
  rw [if_pos rfl]
  exact rsame_go l hl k 0 (by omega)

#print axioms refPut
#print axioms refLay
end Go.Proofs.Ytgbkoeinfhlpoaa.F
