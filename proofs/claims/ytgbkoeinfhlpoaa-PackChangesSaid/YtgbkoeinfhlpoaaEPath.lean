/- A range over a function whose iterator keeps its place in a variable of its own (one cell, block B, laid ahead of the loop) and writes it between two rounds: a law for the caller, and what the iterator owes. No premise of the program's. -/
/- strings.Cut at the separator of one byte 47: what stands ahead of it, what behind it, and whether it stands there. -/
/- files.plain: may a byte stand in a path's part. -/
/- files.parts: the iterator over a path's parts hands on what splitS says, one by one. -/
/- files.Path: is a text a path? -/
import Derived.Test.YtgbkoeinfhlpoaaEDef
import Derived.RangeFuncNested
import Derived.RangeFuncFrom
import Derived.RangeFuncBound
import Derived.RangeFuncCalls
import Derived.RangeFuncLeaves
import Derived.Shelf.Abstract
import Derived.OwnWalkIn
import Derived.TacticsInMore
import Derived.LoopNIn
import Derived.LoopIn
import Derived.Shelf.RegionOpen
import Derived.Lib.Bytealg
import Derived.Lib.Strings
import Derived.Deep.QuietTactic
import Derived.BigQuiet
namespace Go.Proofs.Ytgbkoeinfhlpoaa.F
open Go.RowKit Go.Shelf

/-- The iterator's own cell reads as before. -/
def SameBox (B : Nat) (W W' : World) : Prop := W'.cell? ⟨B, 0, none⟩ = W.cell? ⟨B, 0, none⟩ ∧ W'.frozen? ⟨B, 0, none⟩ = W.frozen? ⟨B, 0, none⟩
/-- A claim on worlds that a store into that cell does not touch. -/
def Deaf {β : Type} (B : Nat) (J : β → World → Prop) : Prop := ∀ s W v, J s W → J s (W.setCell ⟨B, 0, none⟩ v)
/-- .. nor a block that is laid, nor an order that is drawn. -/
def Grows {β : Type} (J : β → World → Prop) : Prop := ∀ s W W', J s W → W.grownBy W' none → J s W'

/-- What the iterator owes: it hands on xs, one by one, till a round says that no more is wanted. -/
def SeqBox {α : Type} (F : Fence) (n : Nat) (P : Program) (g : Nat) (lb : Array Value) (encs : α → Array Value) (B : Nat) (xs : List α) (w : World) : Prop :=
  ∀ (l : Nat) (J Jx : List α → World → Prop) (W : World), Below w.heap.size w W → Deaf B J → Deaf B Jx → Grows J → Grows Jx →
    (∀ pre x W1, J pre W1 → pre ++ [x] <+: xs → YieldAt F (n - 1) P l (encs x) W1 fun e W' =>
      (e = .returned (.bool true) ∧ J (pre ++ [x]) W' ∧ SameBox B W1 W') ∨ (e = .returned (.bool false) ∧ Jx (pre ++ [x]) W')) →
    J [] W →
    CallsIn F n P g (#[.func (.yield l) #[] #[]] ++ lb) W fun e W' => (∃ v, e = .returned v) ∧ (J xs W' ∨ ∃ pre, pre <+: xs ∧ Jx pre W')

theorem grown_same {W W' : World} {k : Nat} {o : Obj} (h : W.grownBy W' none) (hk : W.heap[k]? = some o) : W'.heap[k]? = some o :=
  (h.block k (Array.getElem?_eq_some_iff.1 hk).1 (by simp)).trans hk

variable {F : Fence} {n : Nat} {P : Program}

/-- The caller's law. -/
theorem range_box {α : Type} {g : Operand} {ps : Array Tmp} {assign body : Code} {Q : Exit → Act → World → Prop} {a : Act} {w : World}
    (hro : F.round = none) (h1 : 1 ≤ n) {gf : Nat} {lb : Array Value} (hg : a.eval g = .func (.func gf) #[] lb) (hFg : F.fn gf) (eg : ∀ args w, (callFunc gf args).run P w = .ok (.enter gf args) w)
    {encs : α → Array Value} {B : Nat} {xs : List α} (hB : B < w.heap.size) (hseq : SeqBox F (n - 1) P gf lb encs B xs w) (hps : ∀ x, (encs x).size = ps.size)
    (I : List α → World → Prop) (Ix : Code → List α → World → Prop) (hI : OwnFrom w.heap.size I) (hIx : ∀ c, OwnFrom w.heap.size (Ix c)) (hD : Deaf B I) (hDx : ∀ c, Deaf B (Ix c)) (h0 : I [] w) (a₁ : α → Act)
    (hassign : ∀ (l : Nat) (x : α) (W : World) (K : Act → World → Prop), K (a₁ x) W →
      assign.wpIn (F.inRound l) (n - 1 - 1) P (Exit.then K (fun _ _ _ => False)) { tmps := (ps.zip (encs x)).foldl (fun t (p, v) => t.setIfInBounds p v) a.tmps, defers := [] } W)
    (hbody : ∀ (l : Nat) (pre : List α) (x : α) (W : World), I pre W → pre ++ [x] <+: xs → body.wpIn (F.inRound l) (n - 1 - 1) P (ownPostK (SameBox B) I Ix (pre ++ [x]) W) (a₁ x) W)
    (hdone : ∀ (D : Nat) (W : World), w.heap.size ≤ D → I xs W → W.heap[D]? = some (.deferred (some [])) → Q .normal { a with defers := { target := .collected D, args := #[] } :: a.defers } W)
    (hstop : ∀ (D : Nat) (c : Code) (pre : List α) (W : World), w.heap.size ≤ D → pre <+: xs → Ix c pre W → W.heap[D]? = some (.deferred (some [])) → c.wpIn F n P Q { a with defers := { target := .collected D, args := #[] } :: a.defers } W) :
    (Code.rangeFunc g ps assign body).wpIn F n P Q a w := by
  refine wpIn_rangeFunc fun fn hfn => ?_
  rw [hro]
  -- the two blocks of the loop's book-keeping
  let D := w.heap.size
  let st : LoopState → Option Code → Loop := fun s pe => { state := s, pending := pe, fn, tmps := a.tmps, params := ps, assign, body, defers := D }
  let W1 := (w.alloc (.deferred (some []))).alloc (.loop (st .ready none))
  have hL1 : W1.heap[D + 1]? = some (.loop (st .ready none)) := by
    have := World.alloc_heap_new (w.alloc (.deferred (some []))) (.loop (st .ready none))
    rwa [World.size_alloc] at this
  have hD1 : W1.heap[D]? = some (.deferred (some [])) := (Below.heap_alloc _ _ _ (by simp [D])).trans (World.alloc_heap_new w _)
  have hI1 : I [] W1 := hI.alloc _ (hI.alloc _ h0)
  have hb1 : Below w.heap.size w W1 := ((Below.refl _ w).alloc (Nat.le_refl _) _).alloc (by simp) _
  -- the caller's claims, with the book-keeping beside them
  let J : List α → World → Prop := fun pre W => I pre W ∧ W.heap[D + 1]? = some (.loop (st .ready none)) ∧ W.heap[D]? = some (.deferred (some []))
  let Jx : List α → World → Prop := fun pre W => ∃ c, Ix c pre W ∧ W.heap[D + 1]? = some (.loop (st .done (some c))) ∧ W.heap[D]? = some (.deferred (some []))
  have hset : ∀ (W : World) (v : Value) (k : Nat) (o : Obj), D ≤ k → W.heap[k]? = some o → (W.setCell ⟨B, 0, none⟩ v).heap[k]? = some o := fun W v k o hk h =>
    (Below.heap_setCell W ⟨B, 0, none⟩ v k (by show k ≠ B; have : B < D := hB; omega)).trans h
  have hJd : Deaf B J := fun s W v h => ⟨hD s W v h.1, hset W v _ _ (by omega) h.2.1, hset W v _ _ (Nat.le_refl _) h.2.2⟩
  have hJxd : Deaf B Jx := fun s W v ⟨c, hc, hl, hk⟩ => ⟨c, hDx c s W v hc, hset W v _ _ (by omega) hl, hset W v _ _ (Nat.le_refl _) hk⟩
  have hJg : Grows J := fun s W W' h hw => ⟨hI s W W' none h.1 hw (fun r e => by cases e), grown_same hw h.2.1, grown_same hw h.2.2⟩
  have hJxg : Grows Jx := fun s W W' ⟨c, hc, hl, hk⟩ hw => ⟨c, hIx c s W W' none hc hw (fun r e => by cases e), grown_same hw hl, grown_same hw hk⟩
  have hput : ∀ (W : World) (k : Nat) (o o' : Obj), D ≤ k → W.heap[k]? = some o → SameBox B W (W.putObj k o') := fun W k o o' hk h => by
    have hk' := (Array.getElem?_eq_some_iff.1 h).1
    have hb := belowK_b (w := w) (n₀ := w.heap.size) (Nat.le_refl _) W k o o' hk h
    have hBk : B ≠ k := by have : B < D := hB; omega
    have he : (W.putObj k o').heap[B]? = W.heap[B]? := World.putObj_heap_other hBk
    constructor <;> simp [World.cell?, World.frozen?, he]
  refine ⟨D + 1, [{ target := .collected D, args := #[] }], W1, { target := .fn (.func gf) lb, args := #[.func (.yield (D + 1)) #[] #[]] }, W1, gf,
    #[.func (.yield (D + 1)) #[] #[]] ++ lb, W1, run_enterLoop_outer _ _ _ _ _, ?_, ?_, ?_, fun _ => h1, ?_⟩
  · simp only [resolve, hg]
    simp [go_sem]
  · intro f' hf'
    simp [Target.leads] at hf'
    subst hf'
    exact hFg
  · simp [invoke, go_sem, eg]
  refine (hseq (D + 1) J Jx W1 hb1 hJd hJxd hJg hJxg ?_ ⟨hI1, hL1, hD1⟩).mono ?_
  · -- one round
    rintro pre x W ⟨hi, hl, hk⟩ hpre
    have hlt : D + 1 < W.heap.size := (Array.getElem?_eq_some_iff.1 hl).1
    refine ⟨fn, _, assign, body, run_yield (P := P) (args := encs x) hl (hps x), roundIn_of_wpIn hfn (hassign _ x W _ ⟨_, run_beginRound hl rfl, ?_⟩)⟩
    have hl2 : (W.putObj (D + 1) (.loop { st .ready none with state := .busy })).heap[D + 1]? = some (.loop { st .ready none with state := .busy }) := World.putObj_heap_same hlt
    have hk2 : (W.putObj (D + 1) (.loop { st .ready none with state := .busy })).heap[D]? = some (.deferred (some [])) := (World.putObj_heap_other (by omega)).trans hk
    have hs2 := hput W (D + 1) _ (.loop { st .ready none with state := .busy }) (by omega) hl
    refine wpIn_mono (hbody _ pre x _ (hI.putObj _ hi (by show D ≤ D + 1; omega) hl rfl) hpre) ?_
    have leave : ∀ (c : Code) (W3 : World), KeepsOthers (W.putObj (D + 1) (.loop { st .ready none with state := .busy })) W3 → Ix c (pre ++ [x]) W3 →
        ∃ v W4, (Instr.endRound (D + 1) (some c)).run P W3 = .ok v W4 ∧ v = .bool false ∧ Jx (pre ++ [x]) W4 := fun c W3 hk3 hi3 => by
      have hl3 := hk3.same _ _ hl2 rfl
      exact ⟨_, _, run_endRound (P := P) (some c) hl3, rfl, c, (hIx c).putObj _ hi3 (by show D ≤ D + 1; omega) hl3 rfl, World.putObj_heap_same (Array.getElem?_eq_some_iff.1 hl3).1, (World.putObj_heap_other (by omega)).trans (hk3.same _ _ hk2 rfl)⟩
    rintro e a3 W3 hp
    cases e with
    | normal =>
      obtain ⟨hk3, hs3, hi3⟩ := hp
      have hl3 := hk3.same _ _ hl2 rfl
      have hs4 := hput W3 (D + 1) _ (.loop (st .ready none)) (by omega) hl3
      refine ⟨_, _, run_endRound (P := P) none hl3, .inl ⟨rfl, ⟨hI.putObj _ hi3 (by show D ≤ D + 1; omega) hl3 rfl, World.putObj_heap_same (Array.getElem?_eq_some_iff.1 hl3).1, (World.putObj_heap_other (by omega)).trans (hk3.same _ _ hk2 rfl)⟩, ?_⟩⟩
      exact ⟨hs4.1.trans (hs3.1.trans hs2.1), hs4.2.trans (hs3.2.trans hs2.2)⟩
    | ret =>
      obtain ⟨v, W4, hr, rfl, hx⟩ := leave .ret W3 hp.1 hp.2
      exact ⟨_, _, hr, .inr ⟨rfl, hx⟩⟩
    | exit id =>
      obtain ⟨v, W4, hr, rfl, hx⟩ := leave (.exit id) W3 hp.1 hp.2
      exact ⟨_, _, hr, .inr ⟨rfl, hx⟩⟩
    | goto t =>
      obtain ⟨v, W4, hr, rfl, hx⟩ := leave (.goto t) W3 hp.1 hp.2
      exact ⟨_, _, hr, .inr ⟨rfl, hx⟩⟩
    | panic ch => exact hp.elim
    | outgrown => exact hp.elim
  · -- behind the iterator
    rintro e W2 ⟨⟨v, rfl⟩, (⟨hi, hl, hk⟩ | ⟨pre, hpre, c, hi, hl, hk⟩)⟩
    · exact ⟨none, _, run_endLoop (P := P) hl (by simp [st]), hdone D _ (Nat.le_refl _) (hI.putObj _ hi (by show D ≤ D + 1; omega) hl rfl) ((World.putObj_heap_other (by omega)).trans hk)⟩
    · exact ⟨some c, _, run_endLoop (P := P) hl (by simp [st]), hstop D c pre _ (Nat.le_refl _) hpre ((hIx c).putObj _ hi (by show D ≤ D + 1; omega) hl rfl) ((World.putObj_heap_other (by omega)).trans hk)⟩

#print axioms range_box
end Go.Proofs.Ytgbkoeinfhlpoaa.F

namespace Go.Proofs.Ytgbkoeinfhlpoaa.F
open Go.RowKit Go.Shelf Go.Proofs.YtgbkoeinfhlpoaaW.PrintWords Go.Proofs.YtgbkoeinfhlpoaaW.PrintLast Go.Proofs.YtgbkoeinfhlpoaaW.PrintMore
set_option linter.unusedVariables false
set_option linter.unusedSimpArgs false

def slash : ByteArray := ⟨#[47]⟩

/-- The place of the first byte 47, or -1. -/
def at47 (s : ByteArray) : Int := Lib.indexByte s.data.toList 47

set_option maxHeartbeats 1000000 in
set_option maxRecDepth 100000 in
theorem IndexByte47 (s : ByteArray) (w : World) :
    Calls Try.prog 146 #[.string s, .int .u8 47] w fun e w' => e = .returned (.int .i64 (at47 s)) ∧ w' = w := by
  go_enter Try.func146, Try.ntmps146
  go_wp2
  rw [run_callFunc_extern Try.func151 (by kernel_rfl) (by kernel_rfl) (by kernel_rfl) (e := Extern.BytealgIndexByte.indexByte) (by kernel_rfl), Lib.run_indexByteString]
  simp only [Result.andThen]
  rw [Oper.upon_value]
  go_wp2
  go_ret
  exact ⟨rfl, rfl⟩

theorem at47_slash : at47 slash = 0 := by decide

theorem bytes_ext {a b : ByteArray} (h : a.toList = b.toList) : a = b := by
  rw [Lib.toList_data, Lib.toList_data] at h
  cases a; cases b
  congr
  exact Array.toList_inj.mp h
theorem slash_list : slash.toList = [47] := by rw [Lib.toList_data]; rfl

set_option maxHeartbeats 1000000 in
set_option maxRecDepth 100000 in
theorem Index47 (s : ByteArray) (w : World) :
    Calls Try.prog 139 #[.string s, .string slash] w fun e w' => e = .returned (.int .i64 (at47 s)) ∧ w' = w := by
  have hc := IndexByte47 s w
  by_cases hs : s = slash
  · subst hs
    rw [at47_slash] at hc ⊢
    unfold slash at hc ⊢
    go_enter Try.func139, Try.ntmps139
    go_wp2
    go_ret
    exact ⟨rfl, rfl⟩
  · have hne : (([47] : List UInt8) == s.toList) = false := by
      rw [beq_eq_false_iff_ne]
      intro h
      exact hs (bytes_ext (by rw [slash_list, h]))
    clear hs
    generalize at47 s = r at hc ⊢
    unfold slash
    go_enter Try.func139, Try.ntmps139
    go_wp2_with (go_at_call 146; refine hc.mono ?_; rintro e w' ⟨rfl, rfl⟩)
    go_ret
    exact ⟨rfl, rfl⟩

/-- What strings.Cut answers. -/
def cutV (s : ByteArray) : Value :=
  if at47 s < 0 then .tuple #[.string s, .string ⟨#[]⟩, .bool false]
  else .tuple #[.string (s.extract 0 (at47 s).toNat), .string (s.extract ((at47 s).toNat + 1) s.size), .bool true]

theorem indexByte_ge : ∀ (l : List UInt8) (c : UInt8), -1 ≤ Lib.indexByte l c ∧ Lib.indexByte l c < l.length
  | [], c => by simp [Lib.indexByte]
  | b :: l, c => by
    have h := indexByte_ge l c
    unfold Lib.indexByte
    split
    · simp only [List.length_cons]; omega
    · split
      · simp only [List.length_cons]; omega
      · simp only [List.length_cons]; omega
theorem at47_ge (s : ByteArray) : -1 ≤ at47 s ∧ at47 s < s.size := by
  have h := indexByte_ge s.data.toList 47
  unfold at47
  have e : s.data.toList.length = s.size := (Lib.size_eq s).symm
  omega

set_option maxHeartbeats 1000000 in
set_option maxRecDepth 100000 in
theorem Cut0 (s : ByteArray) (hs : s.size ≤ 140737488351232) (w : World) :
    Calls Try.prog 118 #[.string s, .string slash] w fun e w' => e = .returned (cutV s) ∧ ∃ n, w' = w.drewN n := by
  have hc := Index47 s w
  obtain ⟨h1, h2⟩ := at47_ge s
  unfold cutV
  by_cases hm : at47 s < 0
  · rw [if_pos hm]
    obtain e : at47 s = -1 := by omega
    rw [e] at hc
    clear h1 h2 hm e
    unfold slash at hc ⊢
    go_enter Try.func118, Try.ntmps118
    go_wp2_with (go_at_call 139; refine hc.mono ?_; rintro e w' ⟨rfl, rfl⟩)
    go_ret3
    exact ⟨rfl, 0, rfl⟩
  · rw [if_neg hm]
    obtain ⟨i, hi⟩ : ∃ i : Nat, at47 s = i := ⟨(at47 s).toNat, by omega⟩
    rw [hi] at hc h2 hm ⊢
    clear hi h1
    have c1 : (0 : Int) ≤ ↑i := by omega
    have c2 : (↑i : Int) ≤ ↑s.size := by omega
    have c3 : (0 : Int) ≤ ↑i + 1 := by omega
    have c4 : (↑i + 1 : Int) ≤ ↑s.size := by omega
    clear hm h2
    unfold slash at hc ⊢
    go_enter Try.func118, Try.ntmps118
    go_wp2_with (go_at_call 139; refine hc.mono ?_; rintro e w' ⟨rfl, rfl⟩)
    go_quiet (fail)
    go_wp2
    go_ret3
    exact ⟨rfl, _, rfl⟩

set_option maxHeartbeats 1000000 in
set_option maxRecDepth 100000 in
theorem Cut_calls (s : ByteArray) (hs : s.size ≤ 140737488351232) (w : World) :
    Calls Try.prog 88 #[.string s, .string slash] w fun e w' => e = .returned (cutV s) ∧ ∃ n, w' = w.drewN n := by
  have hc := Cut0 s hs w
  unfold cutV at hc ⊢
  by_cases hm : at47 s < 0
  · rw [if_pos hm] at hc ⊢
    clear hm
    unfold slash at hc ⊢
    go_enter Try.func88, Try.ntmps88
    go_wp2_with (go_at_call 118; refine hc.mono ?_; rintro e w' ⟨rfl, n, rfl⟩)
    go_ret3
    exact ⟨rfl, n, rfl⟩
  · rw [if_neg hm] at hc ⊢
    clear hm
    generalize s.extract 0 (at47 s).toNat = a at hc ⊢
    generalize s.extract ((at47 s).toNat + 1) s.size = b at hc ⊢
    unfold slash at hc ⊢
    go_enter Try.func88, Try.ntmps88
    go_wp2_with (go_at_call 118; refine hc.mono ?_; rintro e w' ⟨rfl, n, rfl⟩)
    go_ret3
    exact ⟨rfl, n, rfl⟩

#print axioms Cut_calls
end Go.Proofs.Ytgbkoeinfhlpoaa.F

namespace Go.Proofs.Ytgbkoeinfhlpoaa.F
open Go.RowKit
set_option linter.unusedVariables false
set_option linter.unusedSimpArgs false

def plainI (n : Int) : Bool := decide ((97 ≤ n ∧ n ≤ 122) ∨ (65 ≤ n ∧ n ≤ 90) ∨ (48 ≤ n ∧ n ≤ 57) ∨ n = 45 ∨ n = 95 ∨ n = 46)

theorem plainI_byte (c : UInt8) : plainI (c.toNat : Int) = plainB c := by
  unfold plainI plainB
  rw [Bool.eq_iff_iff]
  simp [UInt8.le_iff_toNat_le, ← UInt8.toNat_inj]
  omega

set_option maxHeartbeats 1000000 in
set_option maxRecDepth 100000 in
theorem pl_A (n : Int) (h0 : 0 ≤ n) (h1 : n ≤ 255) (h2 : n < 45) (w : World) :
    Calls Try.prog 53 #[.int .u8 n] w fun e w' => e = .returned (.bool false) ∧ w' = w := by
  have e45 : (n == 45) = false := beq_eq_false_iff_ne.mpr (by omega)
  have e95 : (n == 95) = false := beq_eq_false_iff_ne.mpr (by omega)
  have e46 : (n == 46) = false := beq_eq_false_iff_ne.mpr (by omega)
  have d97 : decide (97 ≤ n) = false := decide_eq_false (by omega)
  have d65 : decide (65 ≤ n) = false := decide_eq_false (by omega)
  have d48 : decide (48 ≤ n) = false := decide_eq_false (by omega)
  have d122 : decide (n ≤ 122) = true := decide_eq_true (by omega)
  have d90 : decide (n ≤ 90) = true := decide_eq_true (by omega)
  have d57 : decide (n ≤ 57) = true := decide_eq_true (by omega)
  go_enter Try.func53, Try.ntmps53
  go_wp2
  repeat (go_quiet (fail); try go_wp2)
  go_ret
  exact ⟨rfl, rfl⟩
set_option maxHeartbeats 1000000 in
set_option maxRecDepth 100000 in
theorem pl_B (n : Int) (h0 : 0 ≤ n) (h1 : n ≤ 255) (h2 : 45 ≤ n) (h3 : n ≤ 45) (w : World) :
    Calls Try.prog 53 #[.int .u8 n] w fun e w' => e = .returned (.bool true) ∧ w' = w := by
  have e45 : (n == 45) = true := beq_iff_eq.mpr (by omega)
  have e95 : (n == 95) = false := beq_eq_false_iff_ne.mpr (by omega)
  have e46 : (n == 46) = false := beq_eq_false_iff_ne.mpr (by omega)
  have d97 : decide (97 ≤ n) = false := decide_eq_false (by omega)
  have d65 : decide (65 ≤ n) = false := decide_eq_false (by omega)
  have d48 : decide (48 ≤ n) = false := decide_eq_false (by omega)
  have d122 : decide (n ≤ 122) = true := decide_eq_true (by omega)
  have d90 : decide (n ≤ 90) = true := decide_eq_true (by omega)
  have d57 : decide (n ≤ 57) = true := decide_eq_true (by omega)
  go_enter Try.func53, Try.ntmps53
  go_wp2
  repeat (go_quiet (fail); try go_wp2)
  go_ret
  exact ⟨rfl, rfl⟩
set_option maxHeartbeats 1000000 in
set_option maxRecDepth 100000 in
theorem pl_C (n : Int) (h0 : 0 ≤ n) (h1 : n ≤ 255) (h2 : 46 ≤ n) (h3 : n ≤ 46) (w : World) :
    Calls Try.prog 53 #[.int .u8 n] w fun e w' => e = .returned (.bool true) ∧ w' = w := by
  have e45 : (n == 45) = false := beq_eq_false_iff_ne.mpr (by omega)
  have e95 : (n == 95) = false := beq_eq_false_iff_ne.mpr (by omega)
  have e46 : (n == 46) = true := beq_iff_eq.mpr (by omega)
  have d97 : decide (97 ≤ n) = false := decide_eq_false (by omega)
  have d65 : decide (65 ≤ n) = false := decide_eq_false (by omega)
  have d48 : decide (48 ≤ n) = false := decide_eq_false (by omega)
  have d122 : decide (n ≤ 122) = true := decide_eq_true (by omega)
  have d90 : decide (n ≤ 90) = true := decide_eq_true (by omega)
  have d57 : decide (n ≤ 57) = true := decide_eq_true (by omega)
  go_enter Try.func53, Try.ntmps53
  go_wp2
  repeat (go_quiet (fail); try go_wp2)
  go_ret
  exact ⟨rfl, rfl⟩
set_option maxHeartbeats 1000000 in
set_option maxRecDepth 100000 in
theorem pl_D (n : Int) (h0 : 0 ≤ n) (h1 : n ≤ 255) (h2 : 47 ≤ n) (h3 : n ≤ 47) (w : World) :
    Calls Try.prog 53 #[.int .u8 n] w fun e w' => e = .returned (.bool false) ∧ w' = w := by
  have e45 : (n == 45) = false := beq_eq_false_iff_ne.mpr (by omega)
  have e95 : (n == 95) = false := beq_eq_false_iff_ne.mpr (by omega)
  have e46 : (n == 46) = false := beq_eq_false_iff_ne.mpr (by omega)
  have d97 : decide (97 ≤ n) = false := decide_eq_false (by omega)
  have d65 : decide (65 ≤ n) = false := decide_eq_false (by omega)
  have d48 : decide (48 ≤ n) = false := decide_eq_false (by omega)
  have d122 : decide (n ≤ 122) = true := decide_eq_true (by omega)
  have d90 : decide (n ≤ 90) = true := decide_eq_true (by omega)
  have d57 : decide (n ≤ 57) = true := decide_eq_true (by omega)
  go_enter Try.func53, Try.ntmps53
  go_wp2
  repeat (go_quiet (fail); try go_wp2)
  go_ret
  exact ⟨rfl, rfl⟩
set_option maxHeartbeats 1000000 in
set_option maxRecDepth 100000 in
theorem pl_E (n : Int) (h0 : 0 ≤ n) (h1 : n ≤ 255) (h2 : 48 ≤ n) (h3 : n ≤ 57) (w : World) :
    Calls Try.prog 53 #[.int .u8 n] w fun e w' => e = .returned (.bool true) ∧ w' = w := by
  have e45 : (n == 45) = false := beq_eq_false_iff_ne.mpr (by omega)
  have e95 : (n == 95) = false := beq_eq_false_iff_ne.mpr (by omega)
  have e46 : (n == 46) = false := beq_eq_false_iff_ne.mpr (by omega)
  have d97 : decide (97 ≤ n) = false := decide_eq_false (by omega)
  have d65 : decide (65 ≤ n) = false := decide_eq_false (by omega)
  have d48 : decide (48 ≤ n) = true := decide_eq_true (by omega)
  have d122 : decide (n ≤ 122) = true := decide_eq_true (by omega)
  have d90 : decide (n ≤ 90) = true := decide_eq_true (by omega)
  have d57 : decide (n ≤ 57) = true := decide_eq_true (by omega)
  go_enter Try.func53, Try.ntmps53
  go_wp2
  repeat (go_quiet (fail); try go_wp2)
  go_ret
  exact ⟨rfl, rfl⟩
set_option maxHeartbeats 1000000 in
set_option maxRecDepth 100000 in
theorem pl_F (n : Int) (h0 : 0 ≤ n) (h1 : n ≤ 255) (h2 : 58 ≤ n) (h3 : n ≤ 64) (w : World) :
    Calls Try.prog 53 #[.int .u8 n] w fun e w' => e = .returned (.bool false) ∧ w' = w := by
  have e45 : (n == 45) = false := beq_eq_false_iff_ne.mpr (by omega)
  have e95 : (n == 95) = false := beq_eq_false_iff_ne.mpr (by omega)
  have e46 : (n == 46) = false := beq_eq_false_iff_ne.mpr (by omega)
  have d97 : decide (97 ≤ n) = false := decide_eq_false (by omega)
  have d65 : decide (65 ≤ n) = false := decide_eq_false (by omega)
  have d48 : decide (48 ≤ n) = true := decide_eq_true (by omega)
  have d122 : decide (n ≤ 122) = true := decide_eq_true (by omega)
  have d90 : decide (n ≤ 90) = true := decide_eq_true (by omega)
  have d57 : decide (n ≤ 57) = false := decide_eq_false (by omega)
  go_enter Try.func53, Try.ntmps53
  go_wp2
  repeat (go_quiet (fail); try go_wp2)
  go_ret
  exact ⟨rfl, rfl⟩
set_option maxHeartbeats 1000000 in
set_option maxRecDepth 100000 in
theorem pl_G (n : Int) (h0 : 0 ≤ n) (h1 : n ≤ 255) (h2 : 65 ≤ n) (h3 : n ≤ 90) (w : World) :
    Calls Try.prog 53 #[.int .u8 n] w fun e w' => e = .returned (.bool true) ∧ w' = w := by
  have e45 : (n == 45) = false := beq_eq_false_iff_ne.mpr (by omega)
  have e95 : (n == 95) = false := beq_eq_false_iff_ne.mpr (by omega)
  have e46 : (n == 46) = false := beq_eq_false_iff_ne.mpr (by omega)
  have d97 : decide (97 ≤ n) = false := decide_eq_false (by omega)
  have d65 : decide (65 ≤ n) = true := decide_eq_true (by omega)
  have d48 : decide (48 ≤ n) = true := decide_eq_true (by omega)
  have d122 : decide (n ≤ 122) = true := decide_eq_true (by omega)
  have d90 : decide (n ≤ 90) = true := decide_eq_true (by omega)
  have d57 : decide (n ≤ 57) = false := decide_eq_false (by omega)
  go_enter Try.func53, Try.ntmps53
  go_wp2
  repeat (go_quiet (fail); try go_wp2)
  go_ret
  exact ⟨rfl, rfl⟩
set_option maxHeartbeats 1000000 in
set_option maxRecDepth 100000 in
theorem pl_H (n : Int) (h0 : 0 ≤ n) (h1 : n ≤ 255) (h2 : 91 ≤ n) (h3 : n ≤ 94) (w : World) :
    Calls Try.prog 53 #[.int .u8 n] w fun e w' => e = .returned (.bool false) ∧ w' = w := by
  have e45 : (n == 45) = false := beq_eq_false_iff_ne.mpr (by omega)
  have e95 : (n == 95) = false := beq_eq_false_iff_ne.mpr (by omega)
  have e46 : (n == 46) = false := beq_eq_false_iff_ne.mpr (by omega)
  have d97 : decide (97 ≤ n) = false := decide_eq_false (by omega)
  have d65 : decide (65 ≤ n) = true := decide_eq_true (by omega)
  have d48 : decide (48 ≤ n) = true := decide_eq_true (by omega)
  have d122 : decide (n ≤ 122) = true := decide_eq_true (by omega)
  have d90 : decide (n ≤ 90) = false := decide_eq_false (by omega)
  have d57 : decide (n ≤ 57) = false := decide_eq_false (by omega)
  go_enter Try.func53, Try.ntmps53
  go_wp2
  repeat (go_quiet (fail); try go_wp2)
  go_ret
  exact ⟨rfl, rfl⟩
set_option maxHeartbeats 1000000 in
set_option maxRecDepth 100000 in
theorem pl_I (n : Int) (h0 : 0 ≤ n) (h1 : n ≤ 255) (h2 : 95 ≤ n) (h3 : n ≤ 95) (w : World) :
    Calls Try.prog 53 #[.int .u8 n] w fun e w' => e = .returned (.bool true) ∧ w' = w := by
  have e45 : (n == 45) = false := beq_eq_false_iff_ne.mpr (by omega)
  have e95 : (n == 95) = true := beq_iff_eq.mpr (by omega)
  have e46 : (n == 46) = false := beq_eq_false_iff_ne.mpr (by omega)
  have d97 : decide (97 ≤ n) = false := decide_eq_false (by omega)
  have d65 : decide (65 ≤ n) = true := decide_eq_true (by omega)
  have d48 : decide (48 ≤ n) = true := decide_eq_true (by omega)
  have d122 : decide (n ≤ 122) = true := decide_eq_true (by omega)
  have d90 : decide (n ≤ 90) = false := decide_eq_false (by omega)
  have d57 : decide (n ≤ 57) = false := decide_eq_false (by omega)
  go_enter Try.func53, Try.ntmps53
  go_wp2
  repeat (go_quiet (fail); try go_wp2)
  go_ret
  exact ⟨rfl, rfl⟩
set_option maxHeartbeats 1000000 in
set_option maxRecDepth 100000 in
theorem pl_J (n : Int) (h0 : 0 ≤ n) (h1 : n ≤ 255) (h2 : 96 ≤ n) (h3 : n ≤ 96) (w : World) :
    Calls Try.prog 53 #[.int .u8 n] w fun e w' => e = .returned (.bool false) ∧ w' = w := by
  have e45 : (n == 45) = false := beq_eq_false_iff_ne.mpr (by omega)
  have e95 : (n == 95) = false := beq_eq_false_iff_ne.mpr (by omega)
  have e46 : (n == 46) = false := beq_eq_false_iff_ne.mpr (by omega)
  have d97 : decide (97 ≤ n) = false := decide_eq_false (by omega)
  have d65 : decide (65 ≤ n) = true := decide_eq_true (by omega)
  have d48 : decide (48 ≤ n) = true := decide_eq_true (by omega)
  have d122 : decide (n ≤ 122) = true := decide_eq_true (by omega)
  have d90 : decide (n ≤ 90) = false := decide_eq_false (by omega)
  have d57 : decide (n ≤ 57) = false := decide_eq_false (by omega)
  go_enter Try.func53, Try.ntmps53
  go_wp2
  repeat (go_quiet (fail); try go_wp2)
  go_ret
  exact ⟨rfl, rfl⟩
set_option maxHeartbeats 1000000 in
set_option maxRecDepth 100000 in
theorem pl_K (n : Int) (h0 : 0 ≤ n) (h1 : n ≤ 255) (h2 : 97 ≤ n) (h3 : n ≤ 122) (w : World) :
    Calls Try.prog 53 #[.int .u8 n] w fun e w' => e = .returned (.bool true) ∧ w' = w := by
  have e45 : (n == 45) = false := beq_eq_false_iff_ne.mpr (by omega)
  have e95 : (n == 95) = false := beq_eq_false_iff_ne.mpr (by omega)
  have e46 : (n == 46) = false := beq_eq_false_iff_ne.mpr (by omega)
  have d97 : decide (97 ≤ n) = true := decide_eq_true (by omega)
  have d65 : decide (65 ≤ n) = true := decide_eq_true (by omega)
  have d48 : decide (48 ≤ n) = true := decide_eq_true (by omega)
  have d122 : decide (n ≤ 122) = true := decide_eq_true (by omega)
  have d90 : decide (n ≤ 90) = false := decide_eq_false (by omega)
  have d57 : decide (n ≤ 57) = false := decide_eq_false (by omega)
  go_enter Try.func53, Try.ntmps53
  go_wp2
  repeat (go_quiet (fail); try go_wp2)
  go_ret
  exact ⟨rfl, rfl⟩
set_option maxHeartbeats 1000000 in
set_option maxRecDepth 100000 in
theorem pl_L (n : Int) (h0 : 0 ≤ n) (h1 : n ≤ 255) (h2 : 123 ≤ n) (w : World) :
    Calls Try.prog 53 #[.int .u8 n] w fun e w' => e = .returned (.bool false) ∧ w' = w := by
  have e45 : (n == 45) = false := beq_eq_false_iff_ne.mpr (by omega)
  have e95 : (n == 95) = false := beq_eq_false_iff_ne.mpr (by omega)
  have e46 : (n == 46) = false := beq_eq_false_iff_ne.mpr (by omega)
  have d97 : decide (97 ≤ n) = true := decide_eq_true (by omega)
  have d65 : decide (65 ≤ n) = true := decide_eq_true (by omega)
  have d48 : decide (48 ≤ n) = true := decide_eq_true (by omega)
  have d122 : decide (n ≤ 122) = false := decide_eq_false (by omega)
  have d90 : decide (n ≤ 90) = false := decide_eq_false (by omega)
  have d57 : decide (n ≤ 57) = false := decide_eq_false (by omega)
  go_enter Try.func53, Try.ntmps53
  go_wp2
  repeat (go_quiet (fail); try go_wp2)
  go_ret
  exact ⟨rfl, rfl⟩
theorem plain_calls (n : Int) (h0 : 0 ≤ n) (h1 : n ≤ 255) (w : World) :
    Calls Try.prog 53 #[.int .u8 n] w fun e w' => e = .returned (.bool (plainI n)) ∧ w' = w := by
  have t : ∀ b, b = plainI n → (Calls Try.prog 53 #[.int .u8 n] w fun e w' => e = .returned (.bool b) ∧ w' = w) → Calls Try.prog 53 #[.int .u8 n] w fun e w' => e = .returned (.bool (plainI n)) ∧ w' = w := fun b hb h => by rw [← hb]; exact h
  by_cases cA : n < 45
  · exact t _ (by unfold plainI; rw [decide_eq_false]; omega) (pl_A n h0 h1 (by omega) w)
  by_cases cB : n ≤ 45
  · exact t _ (by unfold plainI; rw [decide_eq_true]; omega) (pl_B n h0 h1 (by omega) (by omega) w)
  by_cases cC : n ≤ 46
  · exact t _ (by unfold plainI; rw [decide_eq_true]; omega) (pl_C n h0 h1 (by omega) (by omega) w)
  by_cases cD : n ≤ 47
  · exact t _ (by unfold plainI; rw [decide_eq_false]; omega) (pl_D n h0 h1 (by omega) (by omega) w)
  by_cases cE : n ≤ 57
  · exact t _ (by unfold plainI; rw [decide_eq_true]; omega) (pl_E n h0 h1 (by omega) (by omega) w)
  by_cases cF : n ≤ 64
  · exact t _ (by unfold plainI; rw [decide_eq_false]; omega) (pl_F n h0 h1 (by omega) (by omega) w)
  by_cases cG : n ≤ 90
  · exact t _ (by unfold plainI; rw [decide_eq_true]; omega) (pl_G n h0 h1 (by omega) (by omega) w)
  by_cases cH : n ≤ 94
  · exact t _ (by unfold plainI; rw [decide_eq_false]; omega) (pl_H n h0 h1 (by omega) (by omega) w)
  by_cases cI : n ≤ 95
  · exact t _ (by unfold plainI; rw [decide_eq_true]; omega) (pl_I n h0 h1 (by omega) (by omega) w)
  by_cases cJ : n ≤ 96
  · exact t _ (by unfold plainI; rw [decide_eq_false]; omega) (pl_J n h0 h1 (by omega) (by omega) w)
  by_cases cK : n ≤ 122
  · exact t _ (by unfold plainI; rw [decide_eq_true]; omega) (pl_K n h0 h1 (by omega) (by omega) w)
  exact t _ (by unfold plainI; rw [decide_eq_false]; omega) (pl_L n h0 h1 (by omega) w)
#print axioms plain_calls
end Go.Proofs.Ytgbkoeinfhlpoaa.F

namespace Go.Proofs.Ytgbkoeinfhlpoaa.F
open Go.RowKit Go.Shelf Go.Proofs.YtgbkoeinfhlpoaaW.PrintWords
attribute [local go_sem] Oper.semAt_some
set_option linter.unusedVariables false
set_option linter.unusedSimpArgs false

/-- The parts of a text, by cuts. -/
def partsB : Nat → ByteArray → List ByteArray
  | 0, _ => []
  | k + 1, s => if at47 s < 0 then [s] else s.extract 0 (at47 s).toNat :: partsB k (s.extract ((at47 s).toNat + 1) s.size)

theorem size_ext (s : ByteArray) (a b : Nat) (h : b ≤ s.size) : (s.extract a b).size = b - a := by
  rw [ByteArray.size_extract]; omega

theorem partsB_more : ∀ (k j : Nat) (s : ByteArray), s.size < k → s.size < j → partsB k s = partsB j s
  | 0, _, _, h, _ => by omega
  | _ + 1, 0, _, _, h => by omega
  | k + 1, j + 1, s, hk, hj => by
    unfold partsB
    by_cases h : at47 s < 0
    · rw [if_pos h, if_pos h]
    · rw [if_neg h, if_neg h]
      have := at47_ge s
      have hs : (s.extract ((at47 s).toNat + 1) s.size).size = s.size - ((at47 s).toNat + 1) := size_ext _ _ _ (Nat.le_refl _)
      rw [partsB_more k j _ (by omega) (by omega)]

/-- How many bytes the iterator's cell still has. -/
def leftB (B : Nat) (W : World) : Nat := match W.cell? ⟨B, 0, none⟩ with
  | some (.string q) => q.size
  | _ => 0
theorem leftB_eq {B : Nat} {W : World} {q : ByteArray} (h : W.cell? ⟨B, 0, none⟩ = some (.string q)) : leftB B W = q.size := by unfold leftB; rw [h]
def measB (B : Nat) (v : Value) (W : World) : Nat := match v with
  | .bool true => leftB B W + 1
  | _ => 0

theorem pre_snoc {α : Type} (pre : List α) (x : α) (l : List α) : pre ++ [x] <+: pre ++ x :: l := ⟨l, by simp⟩
theorem grown_drewN (W : World) (n : Nat) : W.grownBy (W.drewN n) none := ⟨rfl, rfl, rfl, Nat.le_refl _, fun _ _ _ => rfl⟩

set_option maxRecDepth 100000 in
set_option maxHeartbeats 2000000 in
theorem parts_seq (n : Nat) (hn : 1 ≤ n) (B : Nat) (s : ByteArray) (hs : s.size ≤ 140737488351232) (w : World) (hB : B < w.heap.size) (hc : w.cell? ⟨B, 0, none⟩ = some (.string s)) (hf : w.frozen? ⟨B, 0, none⟩ = false) :
    SeqBox Fence.wide n Try.prog 87 #[.pointer (some ⟨B, 0, none⟩)] (fun x : ByteArray => #[Value.string x]) B (partsB (s.size + 1) s) w := by
  intro l J Jx W hW hJd hJxd hJg hJxg hY h0
  have hBc : W.cell? ⟨B, 0, none⟩ = some (.string s) := (hW.cell (p := ⟨B, 0, none⟩) hB).trans hc
  have hBf : W.frozen? ⟨B, 0, none⟩ = false := (hW.frozen (p := ⟨B, 0, none⟩) hB).trans hf
  have HS := Aside0.mk hs
  have HJd := Aside0.mk hJd
  have HJg := Aside0.mk hJg
  have HY := Aside0.mk hY
  clear hJd hJg hY hs hc hf hW hB
  refine callsIn_of_wp Try.func87 rfl trivial ?_ rfl
  simp only [Try.ntmps87, List.size_toArray, List.length_cons, List.length_nil, Nat.reduceAdd, Nat.reduceSub, Array.replicate_succ, Array.replicate_zero, List.push_toArray, List.append_toArray, List.nil_append, List.cons_append]
  gi_wp2
  gi_loopw [3, 4] (fun v3 v4 wr => ∃ (more : Bool) (pre : List ByteArray) (q : ByteArray), v3 = .bool more ∧ Aside0 (if more = true then partsB (s.size + 1) s = pre ++ partsB (q.size + 1) q else partsB (s.size + 1) s = pre) ∧ Aside0 (q.size ≤ 140737488351232) ∧ wr.cell? ⟨B, 0, none⟩ = some (.string q) ∧ wr.frozen? ⟨B, 0, none⟩ = false ∧ J pre wr)
    (fun v3 v4 wr => measB B v3 wr)
  case atStart => exact ⟨true, [], s, rfl, ⟨by simp⟩, HS, hBc, hBf, h0⟩
  case round =>
    obtain ⟨more, pre, q, rfl, HX, HQ, hcq, hfq, hJ⟩ := hrel
    cases more with
    | false =>
      have hx : partsB (s.size + 1) s = pre := by simpa using HX.out
      have HZ := Aside0.mk hx
      clear hx HX
      gi_wp2
      go_end0
      exact ⟨⟨_, rfl⟩, .inl (by rw [HZ.out]; exact hJ)⟩
    | true =>
      have hx : partsB (s.size + 1) s = pre ++ partsB (q.size + 1) q := by simpa using HX.out
      have HZ := Aside0.mk hx
      clear hx HX
      have hcut := Cut_calls q HQ.out wr
      unfold cutV at hcut
      by_cases hm : at47 q < 0
      · rw [if_pos hm] at hcut
        have hpq : partsB (q.size + 1) q = [q] := by unfold partsB; rw [if_pos hm]
        rw [hpq] at HZ
        clear hm hpq
        gi_wp2_with (refine ⟨trivial, ?_⟩; gi_at_call 88; refine (callsIn_wide.2 hcut).mono ?_; rintro e w' ⟨rfl, nq, rfl⟩; obtain ⟨fn, tmps, assign, body, hy, hR⟩ := HY.out pre q ((wr.drewN nq).setCell ⟨B, 0, none⟩ (.string ⟨#[]⟩)) (HJd.out _ _ _ (HJg.out _ _ _ hJ (grown_drewN _ _))) (by rw [HZ.out]; exact List.prefix_refl _))
        refine hR.mono ?_
        rintro e W3 (⟨rfl, hJ3, hk3⟩ | ⟨rfl, hJx3⟩)
        · have hc3 := hk3.1
          have hf3 := hk3.2
          rw [World.cell?_setCell_same' _ _ _ (by show ((wr.drewN nq).cell? _).isSome = true; rw [show (wr.drewN nq).cell? ⟨B, 0, none⟩ = wr.cell? ⟨B, 0, none⟩ from rfl, hcq]; rfl)] at hc3
          rw [World.frozen?_setCell, show (wr.drewN nq).frozen? ⟨B, 0, none⟩ = wr.frozen? ⟨B, 0, none⟩ from rfl, hfq] at hf3
          gi_wp2
          go_roundw
          case rel => exact ⟨false, pre ++ [q], ⟨#[]⟩, rfl, ⟨by simpa using HZ.out⟩, ⟨by simp [ByteArray.size]⟩, hc3, hf3, hJ3⟩
          case measure => simp [measB]
        · gi_wp2
          refine bodyPost_ret (results_none rfl _ _ _) rfl ?_
          exact ⟨⟨_, rfl⟩, .inr ⟨pre ++ [q], by rw [HZ.out]; exact List.prefix_refl _, hJx3⟩⟩
      · rw [if_neg hm] at hcut
        obtain ⟨i, hi⟩ : ∃ i : Nat, (at47 q).toNat = i := ⟨_, rfl⟩
        have hge := at47_ge q
        have hsz := size_ext q (i + 1) q.size (Nat.le_refl _)
        have hpq : partsB (q.size + 1) q = q.extract 0 i :: partsB ((q.extract (i + 1) q.size).size + 1) (q.extract (i + 1) q.size) := by
          rw [← hi] at hsz ⊢
          conv => lhs; unfold partsB
          rw [if_neg hm, partsB_more q.size ((q.extract ((at47 q).toNat + 1) q.size).size + 1) _ (by omega) (by omega)]
        rw [hi] at hcut
        rw [hpq] at HZ
        have HM := Aside0.mk (show (q.extract (i + 1) q.size).size < q.size by omega)
        clear hm hpq hi hge hsz
        generalize q.extract 0 i = q1 at hcut HZ
        generalize q.extract (i + 1) q.size = q2 at hcut HZ HM
        gi_wp2_with (refine ⟨trivial, ?_⟩; gi_at_call 88; refine (callsIn_wide.2 hcut).mono ?_; rintro e w' ⟨rfl, nq, rfl⟩; obtain ⟨fn, tmps, assign, body, hy, hR⟩ := HY.out pre q1 ((wr.drewN nq).setCell ⟨B, 0, none⟩ (.string q2)) (HJd.out _ _ _ (HJg.out _ _ _ hJ (grown_drewN _ _))) (by rw [HZ.out]; exact pre_snoc _ _ _))
        refine hR.mono ?_
        rintro e W3 (⟨rfl, hJ3, hk3⟩ | ⟨rfl, hJx3⟩)
        · have hc3 := hk3.1
          have hf3 := hk3.2
          rw [World.cell?_setCell_same' _ _ _ (by show ((wr.drewN nq).cell? _).isSome = true; rw [show (wr.drewN nq).cell? ⟨B, 0, none⟩ = wr.cell? ⟨B, 0, none⟩ from rfl, hcq]; rfl)] at hc3
          rw [World.frozen?_setCell, show (wr.drewN nq).frozen? ⟨B, 0, none⟩ = wr.frozen? ⟨B, 0, none⟩ from rfl, hfq] at hf3
          have hl1 := leftB_eq hc3
          have hl2 := leftB_eq hcq
          have HL := Aside0.mk (And.intro hl1 hl2)
          clear hl1 hl2
          gi_wp2
          go_roundw
          case rel => exact ⟨true, pre ++ [q1], q2, rfl, ⟨by simpa using HZ.out⟩, ⟨by have := HM.out; have := HQ.out; omega⟩, hc3, hf3, hJ3⟩
          case measure =>
            show leftB B W3 + 1 < leftB B wr + 1
            rw [HL.out.1, HL.out.2]
            have := HM.out
            omega
        · gi_wp2
          refine bodyPost_ret (results_none rfl _ _ _) rfl ?_
          exact ⟨⟨_, rfl⟩, .inr ⟨pre ++ [q1], by rw [HZ.out]; exact pre_snoc _ _ _, hJx3⟩⟩

set_option maxRecDepth 100000 in
set_option maxHeartbeats 1000000 in
/-- The maker of the iterator. -/
theorem parts_calls (s : ByteArray) (w : World) :
    Calls Try.prog 52 #[.string s] w fun e w' => e = .returned (.func (.func 87) #[] #[.pointer (some ⟨w.heap.size, 0, none⟩)]) ∧ w' = w.alloc (.cells #[.string s] 9) := by
  go_enter Try.func52, Try.ntmps52
  go_wp2
  go_ret
  exact ⟨rfl, rfl⟩
#print axioms parts_seq
end Go.Proofs.Ytgbkoeinfhlpoaa.F

namespace Go.Proofs.Ytgbkoeinfhlpoaa.F
open Go.RowKit Go.Shelf Go.Proofs.YtgbkoeinfhlpoaaW.PrintWords
attribute [local go_sem] Oper.semAt_some
set_option linter.unusedVariables false
set_option linter.unusedSimpArgs false

def partI (x : ByteArray) : Bool := partB x.toList
def pathI (s : ByteArray) : Bool := decide (s.size ≤ 48) && (partsB (s.size + 1) s).all partI

theorem partI_bad (x : ByteArray) (h : x.toList = [] ∨ x.toList = [46] ∨ x.toList = [46, 46]) : partI x = false := by
  unfold partI partB
  rcases h with h | h | h <;> rw [h] <;> decide
theorem partI_ok (x : ByteArray) (h0 : ¬ x.toList = []) (h1 : ¬ x.toList = [46]) (h2 : ¬ x.toList = [46, 46]) (h : ∀ j, j < x.size → plainI (bt x (j : Int)) = true) : partI x = true := by
  unfold partI partB
  have e0 : (x.toList != []) = true := bne_iff_ne.mpr h0
  have e1 : (x.toList != [46]) = true := bne_iff_ne.mpr h1
  have e2 : (x.toList != [46, 46]) = true := bne_iff_ne.mpr h2
  rw [e0, e1, e2]
  simp only [Bool.true_and, List.all_eq_true]
  intro c hc
  rw [Lib.toList_data] at hc
  obtain ⟨j, hj, rfl⟩ := List.mem_iff_getElem.mp hc
  have hj' : j < x.size := by rw [Lib.size_eq]; exact hj
  have := h j hj'
  rw [← plainI_byte]
  have e : bt x (j : Int) = (x[j].toNat : Int) := by simp [bt, hj']
  rw [e] at this
  exact this
theorem partI_byte (x : ByteArray) (k : Nat) (hk : k < x.size) (h : plainI (bt x (k : Int)) = false) : partI x = false := by
  unfold partI partB
  have : x.toList.all plainB = false := by
    rw [List.all_eq_false]
    refine ⟨x[k], ?_, ?_⟩
    · rw [Lib.toList_data]
      have hk' : k < x.data.toList.length := by rw [← Lib.size_eq]; exact hk
      exact List.mem_iff_getElem.mpr ⟨k, hk', rfl⟩
    · rw [← plainI_byte]
      have e : bt x (k : Int) = (x[k].toNat : Int) := by simp [bt, hk]
      rw [← e, h]
      simp
  rw [this]
  simp

theorem partsB_size : ∀ (k : Nat) (s y : ByteArray), y ∈ partsB k s → y.size ≤ s.size
  | 0, s, y, h => by simp [partsB] at h
  | k + 1, s, y, h => by
    unfold partsB at h
    have hg := at47_ge s
    by_cases hm : at47 s < 0
    · rw [if_pos hm] at h
      simp at h
      rw [h]
      exact Nat.le_refl _
    · rw [if_neg hm] at h
      rcases List.mem_cons.mp h with h | h
      · rw [h, size_ext _ _ _ (by omega)]; omega
      · have := partsB_size k _ y h
        rw [size_ext _ _ _ (Nat.le_refl _)] at this
        omega

def pI (w : World) (pre : List ByteArray) (W : World) : Prop :=
  ((∀ y ∈ pre, partI y = true) ∧ W.cell? ⟨w.heap.size, 0, none⟩ = some (.bool false) ∧ W.frozen? ⟨w.heap.size, 0, none⟩ = false) ∧ Below w.heap.size w W
def pX (w : World) (c : Code) (pre : List ByteArray) (W : World) : Prop :=
  (c = .ret ∧ (∃ y ∈ pre, partI y = false) ∧ W.cell? ⟨w.heap.size, 0, none⟩ = some (.bool false)) ∧ Below w.heap.size w W

def frameP (s : ByteArray) (R : Nat) (x : ByteArray) : Act :=
  { tmps := #[.string s, undef, .pointer (some ⟨R, 0, none⟩), .string x, undef, .string s, .int .i64 s.size, .bool false, .string s, .func (.func 87) #[] #[.pointer (some ⟨R + 1, 0, none⟩)], .string x, undef, undef, undef, undef, undef, undef, undef, undef, undef, undef, undef, undef, undef, undef, undef, undef, undef, undef, undef, undef, undef], defers := [] }

set_option maxRecDepth 100000 in
set_option maxHeartbeats 4000000 in
theorem path_in (s : ByteArray) (hs : s.size ≤ 48) (w : World) :
    CallsIn Fence.wide 3 Try.prog 21 #[.string s] w fun e W' => e = .returned (.bool ((partsB (s.size + 1) s).all partI)) ∧ Below w.heap.size w W' := by
  have hd : decide ((48 : Int) < (s.size : Int)) = false := decide_eq_false (by omega)
  have hs2 : s.size ≤ 140737488351232 := by omega
  have HS := Aside0.mk hs2
  have HS1 := Aside0.mk hs
  clear hs2 hs
  refine callsIn_of_wp_marks Try.func21 rfl trivial ?_ rfl
  simp only [Try.ntmps21, List.size_toArray, List.length_cons, List.length_nil, Nat.reduceAdd, Nat.reduceSub, Array.replicate_succ, Array.replicate_zero, List.push_toArray, List.append_toArray, List.nil_append, List.cons_append]
  gi_wp2_with (refine ⟨trivial, ?_⟩; gi_at_call 52; refine (callsIn_wide.2 (parts_calls s _)).mono ?_; rintro e w' ⟨rfl, rfl⟩)
  have hB0 : Below w.heap.size w ((w.alloc (.cells #[.bool false] 4)).alloc (.cells #[.string s] 9)) := ((Below.refl _ w).alloc (Nat.le_refl _) _).alloc (by simp) _
  have c0 : ((w.alloc (.cells #[.bool false] 4)).alloc (.cells #[.string s] 9)).cell? ⟨w.heap.size, 0, none⟩ = some (.bool false) := by simp
  have f0 : ((w.alloc (.cells #[.bool false] 4)).alloc (.cells #[.string s] 9)).frozen? ⟨w.heap.size, 0, none⟩ = false := by simp
  have c1 : ((w.alloc (.cells #[.bool false] 4)).alloc (.cells #[.string s] 9)).cell? ⟨w.heap.size + 1, 0, none⟩ = some (.string s) := by simp
  have f1 : ((w.alloc (.cells #[.bool false] 4)).alloc (.cells #[.string s] 9)).frozen? ⟨w.heap.size + 1, 0, none⟩ = false := by simp
  have hz : ((w.alloc (.cells #[.bool false] 4)).alloc (.cells #[.string s] 9)).heap.size = w.heap.size + 1 + 1 := by simp
  generalize (w.alloc (.cells #[.bool false] 4)).alloc (.cells #[.string s] 9) = W0 at hB0 c0 f0 c1 f1 hz ⊢
  refine range_box (B := w.heap.size + 1) (xs := partsB (s.size + 1) s) rfl (by omega) (gf := 87) (lb := #[.pointer (some ⟨w.heap.size + 1, 0, none⟩)]) rfl trivial (enters_of Try.func87 (by kernel_rfl) rfl) (by omega)
    (parts_seq 2 (by omega) (w.heap.size + 1) s HS.out W0 (by omega) c1 f1) (fun _ => rfl)
    (pI w) (pX w)
    (OwnFrom.and (Own.from (fun s A B row hs hg hr => ⟨hs.1, cell_kept hs.2.1 hg hr, (frozen_kept hs.2.1 hg hr).trans hs.2.2⟩) _) (ownFrom_below (Nat.le_refl _) (by omega)))
    (fun c => OwnFrom.and (Own.from (fun s A B row hs hg hr => ⟨hs.1, hs.2.1, cell_kept hs.2.2 hg hr⟩) _) (ownFrom_below (Nat.le_refl _) (by omega)))
    (fun pre W v h => ⟨⟨h.1.1, (World.cell?_setCell_far _ _ _ _ (by simp)).trans h.1.2.1, (World.frozen?_setCell _ _ _ _).trans h.1.2.2⟩, h.2.setCell (p := ⟨w.heap.size + 1, 0, none⟩) (by simp) _⟩)
    (fun c pre W v h => ⟨⟨h.1.1, h.1.2.1, (World.cell?_setCell_far _ _ _ _ (by simp)).trans h.1.2.2⟩, h.2.setCell (p := ⟨w.heap.size + 1, 0, none⟩) (by simp) _⟩)
    ⟨⟨by simp, c0, f0⟩, hB0⟩ (frameP s w.heap.size) ?assign ?body ?done ?stop
  case assign =>
    intro l x W K hK
    unfold frameP at hK
    gi_wp2
    exact hK
  case body =>
    rintro l pre x W ⟨⟨hp, hcr, hfr⟩, hB⟩ hpre
    have hx48 : x.size ≤ 48 := by
      have h1 : x ∈ partsB (s.size + 1) s := hpre.subset (by simp)
      have h2 := partsB_size _ _ _ h1
      have := HS1.out
      omega
    have HP := Aside0.mk hp
    have HB := Aside0.mk hB
    clear hp hB hpre c0 f0 c1 f1 hB0
    unfold frameP
    have out : ∀ (a : Act), partI x = false → ownPostK (SameBox (w.heap.size + 1)) (pI w) (pX w) (pre ++ [x]) W .ret a (W.setCell ⟨w.heap.size, 0, none⟩ (.bool false)) := fun a hb =>
      ⟨KeepsOthers.setCell _ _ _, ⟨rfl, ⟨x, by simp, hb⟩, World.cell?_setCell_same' _ _ _ (by rw [hcr]; rfl)⟩, HB.out.setCell (p := ⟨w.heap.size, 0, none⟩) (Nat.le_refl _) _⟩
    have HO := Aside0.mk out
    clear out
    by_cases h0 : x.toList = []
    · have b0 : (x.toList == ([] : List UInt8)) = true := beq_iff_eq.mpr h0
      have b1 : x.toList.isEmpty = true := by rw [h0]; rfl
      have HBad := Aside0.mk (partI_bad x (.inl h0))
      gi_wp2
      exact HO.out _ HBad.out
    · have b0 : (x.toList == ([] : List UInt8)) = false := beq_eq_false_iff_ne.mpr h0
      have b1 : x.toList.isEmpty = false := by simpa using h0
      by_cases h1 : x.toList = [46]
      · have c0 : (x.toList == ([46] : List UInt8)) = true := beq_iff_eq.mpr h1
        have HBad := Aside0.mk (partI_bad x (.inr (.inl h1)))
        clear h1
        gi_wp2
        exact HO.out _ HBad.out
      · have c0 : (x.toList == ([46] : List UInt8)) = false := beq_eq_false_iff_ne.mpr h1
        by_cases h2 : x.toList = [46, 46]
        · have d0 : (x.toList == ([46, 46] : List UInt8)) = true := beq_iff_eq.mpr h2
          have HBad := Aside0.mk (partI_bad x (.inr (.inr h2)))
          clear h2
          gi_wp2
          exact HO.out _ HBad.out
        · have d0 : (x.toList == ([46, 46] : List UInt8)) = false := beq_eq_false_iff_ne.mpr h2
          have HGood := Aside0.mk (partI_ok x h0 h1 h2)
          clear h0 h1 h2
          gi_wp2
          gi_loopw [4, 23] (fun v4 v23 wr => ∃ k : Nat, v23 = .int .i64 (k : Int) ∧ k ≤ x.size ∧ wr = W ∧ Aside0 (∀ j, j < k → plainI (bt x (j : Int)) = true)) (fun v4 v23 wr => x.size - (intOf v23).toNat)
          case atStart => exact ⟨0, rfl, by omega, rfl, ⟨fun j hj => by omega⟩⟩
          case round =>
            obtain ⟨k, rfl, hk, rfl, HJ⟩ := hrel
            by_cases hlt : k < x.size
            · have hltz : (k : Int) < (x.size : Int) := by omega
              have hbt : ∀ h : k < x.size, ((x[k]'h).toNat : Int) = bt x (k : Int) := fun h => by simp [bt, h]
              have hr := bt_range x (k : Int)
              have hpl := plain_calls (bt x (k : Int)) hr.1 hr.2 wr
              have HBy := Aside0.mk (partI_byte x k hlt)
              cases hb : plainI (bt x (k : Int)) with
              | true =>
                rw [hb] at hpl
                have HB2 := Aside0.mk hb
                clear hb
                gi_wp2_with (refine ⟨trivial, ?_⟩; gi_at_call 53; refine (CallsIn.inRound l (callsIn_wide.2 hpl)).mono ?_; rintro e w' ⟨rfl, rfl⟩)
                go_roundw
                case rel =>
                  refine ⟨k + 1, by go_num, by omega, (by first | trivial | rfl), ⟨fun j hj => ?_⟩⟩
                  by_cases e : j = k
                  · subst e; exact HB2.out
                  · exact HJ.out j (by omega)
                case measure => simp [intOf]; omega
              | false =>
                rw [hb] at hpl
                have HB2 := Aside0.mk (HBy.out hb)
                clear hb
                gi_wp2_with (refine ⟨trivial, ?_⟩; gi_at_call 53; refine (CallsIn.inRound l (callsIn_wide.2 hpl)).mono ?_; rintro e w' ⟨rfl, rfl⟩)
                exact HO.out _ HB2.out
            · have hltz : ¬ (k : Int) < (x.size : Int) := by omega
              have HE := Aside0.mk (show k = x.size by omega)
              gi_wp2
              refine ⟨KeepsOthers.refl _, ⟨rfl, rfl⟩, ⟨fun y hy => ?_, hcr, hfr⟩, HB.out⟩
              rcases List.mem_append.mp hy with h | h
              · exact HP.out y h
              · obtain rfl : y = x := by simpa using h
                exact HGood.out (fun j hj => HJ.out j (by have := HE.out; omega))
  case done =>
    rintro D W hD ⟨⟨hp, hcr, hfr⟩, hB⟩ hK
    have hall : (partsB (s.size + 1) s).all partI = true := List.all_eq_true.mpr hp
    have HA := Aside0.mk hall
    clear hp hall
    gi_wp2
    have hK' := (KeepsOthers.setCell W ⟨w.heap.size, 0, none⟩ (.bool true)).same D _ hK rfl
    refine ⟨by simp, .inl ⟨_, _, rfl, run_takeDeferred hK', ?_⟩⟩
    have hc5 := cell_kept (World.cell?_setCell_same' W ⟨w.heap.size, 0, none⟩ (.bool true) (by rw [hcr]; rfl)) (grownBy_putObj' _ D (.deferred none)) (fun r e => by cases e; exact ⟨_, hK', rfl⟩)
    refine ⟨.bool true, ?_, by rw [HA.out], (hB.setCell (p := ⟨w.heap.size, 0, none⟩) (Nat.le_refl _) _).trans (belowK_b (w := w) (Nat.le_refl _) _ D _ _ (by omega) hK' rfl rfl)⟩
    simp [results, Try.f21, go_sem, hc5]
  case stop =>
    rintro D c pre W hD hpre ⟨⟨rfl, ⟨y, hy, hby⟩, hcr⟩, hB⟩ hK
    have hall : (partsB (s.size + 1) s).all partI = false := List.all_eq_false.mpr ⟨y, hpre.subset hy, by rw [hby]; simp⟩
    have HA := Aside0.mk hall
    clear hall hy hby hpre
    gi_wp2
    refine ⟨by simp, .inl ⟨_, _, rfl, run_takeDeferred hK, ?_⟩⟩
    have hc5 := cell_kept hcr (grownBy_putObj' _ D (.deferred none)) (fun r e => by cases e; exact ⟨_, hK, rfl⟩)
    refine ⟨.bool false, ?_, by rw [HA.out], hB.trans (belowK_b (w := w) (Nat.le_refl _) W D _ _ (by omega) hK rfl rfl)⟩
    simp [results, Try.f21, go_sem, hc5]

set_option maxRecDepth 100000 in
set_option maxHeartbeats 1000000 in
theorem path_calls (s : ByteArray) (w : World) :
    Calls Try.prog 21 #[.string s] w fun e W' => e = .returned (.bool (pathI s)) ∧ Below w.heap.size w W' := by
  unfold pathI
  by_cases hs : s.size ≤ 48
  · rw [decide_eq_true hs, Bool.true_and]
    exact (callsIn_wide (n := 3)).1 (path_in s hs w)
  · rw [decide_eq_false hs, Bool.false_and]
    have hd : decide ((48 : Int) < (s.size : Int)) = true := decide_eq_true (by omega)
    go_enter Try.func21, Try.ntmps21
    go_wp2
    refine bodyPost_ret (v := .bool false) ?_ rfl ⟨(by first | trivial | rfl), (((Below.refl _ _).alloc (Nat.le_refl _) _))⟩
    simp [results, Try.f21, go_sem]

theorem split47 : ∀ (l : List UInt8), (Lib.indexByte l 47 < 0 → splitS l = [l]) ∧ (0 ≤ Lib.indexByte l 47 → splitS l = l.take (Lib.indexByte l 47).toNat :: splitS (l.drop ((Lib.indexByte l 47).toNat + 1)))
  | [] => ⟨fun _ => rfl, fun h => by simp [Lib.indexByte] at h⟩
  | c :: l => by
    have ih := split47 l
    have hg := (indexByte_ge l 47).1
    by_cases hc : c = 47
    · subst hc
      have e : Lib.indexByte (47 :: l) 47 = 0 := by simp [Lib.indexByte]
      rw [e]
      refine ⟨fun h => by omega, fun _ => ?_⟩
      simp [splitS]
    · have hc' : (c == 47) = false := beq_eq_false_iff_ne.mpr hc
      by_cases hm : Lib.indexByte l 47 = -1
      · have e : Lib.indexByte (c :: l) 47 = -1 := by simp [Lib.indexByte, hc', hm]
        rw [e]
        refine ⟨fun _ => ?_, fun h => by omega⟩
        unfold splitS
        rw [if_neg hc, ih.1 (by omega)]
      · have e : Lib.indexByte (c :: l) 47 = Lib.indexByte l 47 + 1 := by
          have : (Lib.indexByte l 47 == -1) = false := beq_eq_false_iff_ne.mpr hm
          simp [Lib.indexByte, hc', this]
        rw [e]
        refine ⟨fun h => by omega, fun _ => ?_⟩
        have e2 : (Lib.indexByte l 47 + 1).toNat = (Lib.indexByte l 47).toNat + 1 := by omega
        rw [e2]
        conv => lhs; unfold splitS
        rw [if_neg hc, ih.2 (by omega)]
        simp

theorem partsB_split : ∀ (k : Nat) (s : ByteArray), s.size < k → (partsB k s).map (fun x => x.toList) = splitS s.toList
  | 0, s, h => by omega
  | k + 1, s, h => by
    have hg := at47_ge s
    have hs := split47 s.data.toList
    rw [Lib.toList_data]
    unfold partsB
    by_cases hm : at47 s < 0
    · rw [if_pos hm, hs.1 hm]
      simp [Lib.toList_data]
    · rw [if_neg hm, hs.2 (by unfold at47 at hm; omega), List.map_cons, partsB_split k _ (by rw [size_ext _ _ _ (Nat.le_refl _)]; omega), Lib.toList_data, Lib.toList_data, Lib.extract_data, Lib.extract_data]
      have e : s.size = s.data.toList.length := Lib.size_eq s
      show _ :: _ = List.take (at47 s).toNat _ :: splitS (List.drop ((at47 s).toNat + 1) _)
      rw [e]
      congr 1
      congr 1
      rw [List.take_of_length_le (by rw [List.length_drop]; omega)]

theorem pathI_eq (s : ByteArray) : pathI s = pathB s.toList := by
  unfold pathI pathB
  rw [← partsB_split (s.size + 1) s (by omega), List.all_map]
  have e : s.toList.length = s.size := by rw [Lib.toList_data, Lib.size_eq]
  rw [e]
  rfl

theorem files_Path.calls (a0 : ByteArray) (r : Bool) (w : World) (h : files_Path.f a0 = some r) :
    Calls Try.prog 21 #[.string a0] w fun e w' => e = .returned (.bool r) ∧ Below w.heap.size w w' := by
  obtain rfl : pathB a0.toList = r := by simpa [files_Path.f] using h
  rw [← pathI_eq]
  exact path_calls a0 w

#print axioms files_Path.calls
end Go.Proofs.Ytgbkoeinfhlpoaa.F
