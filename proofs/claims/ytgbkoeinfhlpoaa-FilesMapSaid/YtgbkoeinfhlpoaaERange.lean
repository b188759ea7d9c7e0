/- A range over a function whose iterator keeps its place in a variable of its own (one cell, block B, laid ahead of the loop) and writes it between two rounds: a law for the caller, and what the iterator owes. No premise of the program's. -/
import Derived.Test.YtgbkoeinfhlpoaaEDef
import Derived.RangeFuncNested
import Derived.RangeFuncFrom
import Derived.RangeFuncBound
import Derived.RangeFuncCalls
import Derived.RangeFuncLeaves
import Derived.Shelf.Abstract
import Derived.OwnWalkIn
import Derived.TacticsInMore
import Derived.LoopNIn
import Derived.LoopIn
namespace Go.Proofs.Ytgbkoeinfhlpoaa.F
open Go.RowKit Go.Shelf

/-- The iterator's own cell reads as before. -/
def SameBox (B : Nat) (W W' : World) : Prop := W'.cell? ⟨B, 0, none⟩ = W.cell? ⟨B, 0, none⟩ ∧ W'.frozen? ⟨B, 0, none⟩ = W.frozen? ⟨B, 0, none⟩
/-- A claim on worlds that a store into that cell does not touch. -/
def Deaf {β : Type} (B : Nat) (J : β → World → Prop) : Prop := ∀ s W v, J s W → J s (W.setCell ⟨B, 0, none⟩ v)
/-- .. nor a block that is laid, nor an order that is drawn. -/
def Grows {β : Type} (J : β → World → Prop) : Prop := ∀ s W W', J s W → W.grownBy W' none → J s W'

/-- What the iterator owes: it hands on xs, one by one, till a round says that no more is wanted. -/
def SeqBox {α : Type} (F : Fence) (n : Nat) (P : Program) (g : Nat) (lb : Array Value) (encs : α → Array Value) (B : Nat) (xs : List α) (w : World) : Prop :=
  ∀ (l : Nat) (J Jx : List α → World → Prop) (W : World), Below w.heap.size w W → Deaf B J → Deaf B Jx → Grows J → Grows Jx →
    (∀ pre x W1, J pre W1 → pre ++ [x] <+: xs → YieldAt F (n - 1) P l (encs x) W1 fun e W' =>
      (e = .returned (.bool true) ∧ J (pre ++ [x]) W' ∧ SameBox B W1 W') ∨ (e = .returned (.bool false) ∧ Jx (pre ++ [x]) W')) →
    J [] W →
    CallsIn F n P g (#[.func (.yield l) #[] #[]] ++ lb) W fun e W' => (∃ v, e = .returned v) ∧ (J xs W' ∨ ∃ pre, pre <+: xs ∧ Jx pre W')

theorem grown_same {W W' : World} {k : Nat} {o : Obj} (h : W.grownBy W' none) (hk : W.heap[k]? = some o) : W'.heap[k]? = some o :=
  (h.block k (Array.getElem?_eq_some_iff.1 hk).1 (by simp)).trans hk

variable {F : Fence} {n : Nat} {P : Program}

/-- The caller's law. -/
theorem range_box {α : Type} {g : Operand} {ps : Array Tmp} {assign body : Code} {Q : Exit → Act → World → Prop} {a : Act} {w : World}
    (hro : F.round = none) (h1 : 1 ≤ n) {gf : Nat} {lb : Array Value} (hg : a.eval g = .func (.func gf) #[] lb) (hFg : F.fn gf) (eg : ∀ args w, (callFunc gf args).run P w = .ok (.enter gf args) w)
    {encs : α → Array Value} {B : Nat} {xs : List α} (hB : B < w.heap.size) (hseq : SeqBox F (n - 1) P gf lb encs B xs w) (hps : ∀ x, (encs x).size = ps.size)
    (I : List α → World → Prop) (Ix : Code → List α → World → Prop) (hI : OwnFrom w.heap.size I) (hIx : ∀ c, OwnFrom w.heap.size (Ix c)) (hD : Deaf B I) (hDx : ∀ c, Deaf B (Ix c)) (h0 : I [] w) (a₁ : α → Act)
    (hassign : ∀ (l : Nat) (x : α) (W : World) (K : Act → World → Prop), K (a₁ x) W →
      assign.wpIn (F.inRound l) (n - 1 - 1) P (Exit.then K (fun _ _ _ => False)) { tmps := (ps.zip (encs x)).foldl (fun t (p, v) => t.setIfInBounds p v) a.tmps, defers := [] } W)
    (hbody : ∀ (l : Nat) (pre : List α) (x : α) (W : World), I pre W → pre ++ [x] <+: xs → body.wpIn (F.inRound l) (n - 1 - 1) P (ownPostK (SameBox B) I Ix (pre ++ [x]) W) (a₁ x) W)
    (hdone : ∀ (D : Nat) (W : World), w.heap.size ≤ D → I xs W → W.heap[D]? = some (.deferred (some [])) → Q .normal { a with defers := { target := .collected D, args := #[] } :: a.defers } W)
    (hstop : ∀ (D : Nat) (c : Code) (pre : List α) (W : World), w.heap.size ≤ D → pre <+: xs → Ix c pre W → W.heap[D]? = some (.deferred (some [])) → c.wpIn F n P Q { a with defers := { target := .collected D, args := #[] } :: a.defers } W) :
    (Code.rangeFunc g ps assign body).wpIn F n P Q a w := by
  refine wpIn_rangeFunc fun fn hfn => ?_
  rw [hro]
  -- the two blocks of the loop's book-keeping
  let D := w.heap.size
  let st : LoopState → Option Code → Loop := fun s pe => { state := s, pending := pe, fn, tmps := a.tmps, params := ps, assign, body, defers := D }
  let W1 := (w.alloc (.deferred (some []))).alloc (.loop (st .ready none))
  have hL1 : W1.heap[D + 1]? = some (.loop (st .ready none)) := by
    have := World.alloc_heap_new (w.alloc (.deferred (some []))) (.loop (st .ready none))
    rwa [World.size_alloc] at this
  have hD1 : W1.heap[D]? = some (.deferred (some [])) := (Below.heap_alloc _ _ _ (by simp [D])).trans (World.alloc_heap_new w _)
  have hI1 : I [] W1 := hI.alloc _ (hI.alloc _ h0)
  have hb1 : Below w.heap.size w W1 := ((Below.refl _ w).alloc (Nat.le_refl _) _).alloc (by simp) _
  -- the caller's claims, with the book-keeping beside them
  let J : List α → World → Prop := fun pre W => I pre W ∧ W.heap[D + 1]? = some (.loop (st .ready none)) ∧ W.heap[D]? = some (.deferred (some []))
  let Jx : List α → World → Prop := fun pre W => ∃ c, Ix c pre W ∧ W.heap[D + 1]? = some (.loop (st .done (some c))) ∧ W.heap[D]? = some (.deferred (some []))
  have hset : ∀ (W : World) (v : Value) (k : Nat) (o : Obj), D ≤ k → W.heap[k]? = some o → (W.setCell ⟨B, 0, none⟩ v).heap[k]? = some o := fun W v k o hk h =>
    (Below.heap_setCell W ⟨B, 0, none⟩ v k (by show k ≠ B; have : B < D := hB; omega)).trans h
  have hJd : Deaf B J := fun s W v h => ⟨hD s W v h.1, hset W v _ _ (by omega) h.2.1, hset W v _ _ (Nat.le_refl _) h.2.2⟩
  have hJxd : Deaf B Jx := fun s W v ⟨c, hc, hl, hk⟩ => ⟨c, hDx c s W v hc, hset W v _ _ (by omega) hl, hset W v _ _ (Nat.le_refl _) hk⟩
  have hJg : Grows J := fun s W W' h hw => ⟨hI s W W' none h.1 hw (fun r e => by cases e), grown_same hw h.2.1, grown_same hw h.2.2⟩
  have hJxg : Grows Jx := fun s W W' ⟨c, hc, hl, hk⟩ hw => ⟨c, hIx c s W W' none hc hw (fun r e => by cases e), grown_same hw hl, grown_same hw hk⟩
  have hput : ∀ (W : World) (k : Nat) (o o' : Obj), D ≤ k → W.heap[k]? = some o → SameBox B W (W.putObj k o') := fun W k o o' hk h => by
    have hk' := (Array.getElem?_eq_some_iff.1 h).1
    have hb := belowK_b (w := w) (n₀ := w.heap.size) (Nat.le_refl _) W k o o' hk h
    have hBk : B ≠ k := by have : B < D := hB; omega
    have he : (W.putObj k o').heap[B]? = W.heap[B]? := World.putObj_heap_other hBk
    constructor <;> simp [World.cell?, World.frozen?, he]
  refine ⟨D + 1, [{ target := .collected D, args := #[] }], W1, { target := .fn (.func gf) lb, args := #[.func (.yield (D + 1)) #[] #[]] }, W1, gf,
    #[.func (.yield (D + 1)) #[] #[]] ++ lb, W1, run_enterLoop_outer _ _ _ _ _, ?_, ?_, ?_, fun _ => h1, ?_⟩
  · simp only [resolve, hg]
    simp [go_sem]
  · intro f' hf'
    simp [Target.leads] at hf'
    subst hf'
    exact hFg
  · simp [invoke, go_sem, eg]
  refine (hseq (D + 1) J Jx W1 hb1 hJd hJxd hJg hJxg ?_ ⟨hI1, hL1, hD1⟩).mono ?_
  · -- one round
    rintro pre x W ⟨hi, hl, hk⟩ hpre
    have hlt : D + 1 < W.heap.size := (Array.getElem?_eq_some_iff.1 hl).1
    refine ⟨fn, _, assign, body, run_yield (P := P) (args := encs x) hl (hps x), roundIn_of_wpIn hfn (hassign _ x W _ ⟨_, run_beginRound hl rfl, ?_⟩)⟩
    have hl2 : (W.putObj (D + 1) (.loop { st .ready none with state := .busy })).heap[D + 1]? = some (.loop { st .ready none with state := .busy }) := World.putObj_heap_same hlt
    have hk2 : (W.putObj (D + 1) (.loop { st .ready none with state := .busy })).heap[D]? = some (.deferred (some [])) := (World.putObj_heap_other (by omega)).trans hk
    have hs2 := hput W (D + 1) _ (.loop { st .ready none with state := .busy }) (by omega) hl
    refine wpIn_mono (hbody _ pre x _ (hI.putObj _ hi (by show D ≤ D + 1; omega) hl rfl) hpre) ?_
    have leave : ∀ (c : Code) (W3 : World), KeepsOthers (W.putObj (D + 1) (.loop { st .ready none with state := .busy })) W3 → Ix c (pre ++ [x]) W3 →
        ∃ v W4, (Instr.endRound (D + 1) (some c)).run P W3 = .ok v W4 ∧ v = .bool false ∧ Jx (pre ++ [x]) W4 := fun c W3 hk3 hi3 => by
      have hl3 := hk3.same _ _ hl2 rfl
      exact ⟨_, _, run_endRound (P := P) (some c) hl3, rfl, c, (hIx c).putObj _ hi3 (by show D ≤ D + 1; omega) hl3 rfl, World.putObj_heap_same (Array.getElem?_eq_some_iff.1 hl3).1, (World.putObj_heap_other (by omega)).trans (hk3.same _ _ hk2 rfl)⟩
    rintro e a3 W3 hp
    cases e with
    | normal =>
      obtain ⟨hk3, hs3, hi3⟩ := hp
      have hl3 := hk3.same _ _ hl2 rfl
      have hs4 := hput W3 (D + 1) _ (.loop (st .ready none)) (by omega) hl3
      refine ⟨_, _, run_endRound (P := P) none hl3, .inl ⟨rfl, ⟨hI.putObj _ hi3 (by show D ≤ D + 1; omega) hl3 rfl, World.putObj_heap_same (Array.getElem?_eq_some_iff.1 hl3).1, (World.putObj_heap_other (by omega)).trans (hk3.same _ _ hk2 rfl)⟩, ?_⟩⟩
      exact ⟨hs4.1.trans (hs3.1.trans hs2.1), hs4.2.trans (hs3.2.trans hs2.2)⟩
    | ret =>
      obtain ⟨v, W4, hr, rfl, hx⟩ := leave .ret W3 hp.1 hp.2
      exact ⟨_, _, hr, .inr ⟨rfl, hx⟩⟩
    | exit id =>
      obtain ⟨v, W4, hr, rfl, hx⟩ := leave (.exit id) W3 hp.1 hp.2
      exact ⟨_, _, hr, .inr ⟨rfl, hx⟩⟩
    | goto t =>
      obtain ⟨v, W4, hr, rfl, hx⟩ := leave (.goto t) W3 hp.1 hp.2
      exact ⟨_, _, hr, .inr ⟨rfl, hx⟩⟩
    | panic ch => exact hp.elim
    | outgrown => exact hp.elim
  · -- behind the iterator
    rintro e W2 ⟨⟨v, rfl⟩, (⟨hi, hl, hk⟩ | ⟨pre, hpre, c, hi, hl, hk⟩)⟩
    · exact ⟨none, _, run_endLoop (P := P) hl (by simp [st]), hdone D _ (Nat.le_refl _) (hI.putObj _ hi (by show D ≤ D + 1; omega) hl rfl) ((World.putObj_heap_other (by omega)).trans hk)⟩
    · exact ⟨some c, _, run_endLoop (P := P) hl (by simp [st]), hstop D c pre _ (Nat.le_refl _) hpre ((hIx c).putObj _ hi (by show D ≤ D + 1; omega) hl rfl) ((World.putObj_heap_other (by omega)).trans hk)⟩

#print axioms range_box
end Go.Proofs.Ytgbkoeinfhlpoaa.F
