/- bastionref18.Changed. -/
import Derived.Test.YtgbkoeinfhlpoaaEPutS
namespace Go.Proofs.Ytgbkoeinfhlpoaa.F
open Go.RowKit Go.Shelf Go.Proofs Go.Proofs.YtgbkoeinfhlpoaaW.PrintWords Go.Proofs.YtgbkoeinfhlpoaaW.PrintLast Go.Proofs.YtgbkoeinfhlpoaaW.PrintMore
set_option linter.unusedVariables false
set_option linter.unusedSimpArgs false

theorem getE_cons (x : S33) (t : List S33) (p : List UInt8) : getE (x :: t) p = if x.p = p then (x.f1, true) else getE t p := by
  unfold getE
  by_cases h : x.p = p
  · rw [if_pos h, List.find?_cons_of_pos (by simpa using h)]
  · rw [if_neg h, List.find?_cons_of_neg (by simpa using h)]
theorem drop_z33 (l : List S33) (j : Nat) (h : j < l.length) : l.drop j = l.getD j z33 :: l.drop (j + 1) := by
  rw [List.drop_eq_getElem_cons h]
  simp [h]

set_option maxHeartbeats 4000000 in
set_option maxRecDepth 100000 in
theorem rget_calls (A : Option Addr) (c : Nat) (l : List S33) (q : ByteArray) (w : World) (hr : Kd.C k33 w A l.length l) (hl : l.length ≤ 1000000) :
    Calls Try.prog 80 #[.slice A l.length c, .string q] w fun e w' => e = .returned (.tuple #[.string (getE l q.toList).1, .bool (getE l q.toList).2]) ∧ w = w' := by
  have hu33 := Try.underlying33
  have HR := Aside0.mk hr
  have HG := Aside0.mk (show getE l q.toList = getE (l.drop 0) q.toList by rw [List.drop_zero])
  clear hr
  generalize hR : getE l q.toList = R at HG ⊢
  clear hR
  obtain ⟨r1, r2⟩ := R
  go_enter Try.func80, Try.ntmps80
  go_wp2_with fail
  go_loopg [6] (l.length + 1) (fun gg s6 wr => ∃ i : Nat, i ≤ l.length ∧ l.length + 1 - i ≤ gg ∧ s6 = .int .i64 i ∧ w = wr ∧ Aside0 ((r1, r2) = getE (l.drop i) q.toList))
  case atStart => exact ⟨0, by omega, by omega, rfl, rfl, HG⟩
  case round =>
    clear HG
    obtain ⟨i, hi, hgi, rfl, rfl, HG⟩ := hrel
    by_cases hlt : i < l.length
    · have hltz : (i : Int) < (l.length : Int) := by omega
      obtain ⟨ad, e, hx0, hx1⟩ := at_T33 HR.out (i : Int) (by omega) (by omega)
      cases e
      rw [getD_rd, Int.toNat_natCast] at hx0 hx1
      have hg := HG.out
      rw [drop_z33 l i hlt, getE_cons] at hg
      generalize l.getD i z33 = x at hx0 hx1 hg
      cases heq : x.f0.toList == q.toList with
      | true =>
        rw [if_pos (by simpa [S33.p] using heq)] at hg
        injection hg with h1 h2
        subst h1 h2
        go_wp2_with fail
        go_ret2
        exact ⟨rfl, rfl⟩
      | false =>
        rw [if_neg (by simpa [S33.p] using heq)] at hg
        have HG2 := Aside0.mk hg
        clear hg
        go_wp2_with fail
        go_roundg (l.length + 1 - (i + 1))
        case measure => omega
        case rel => exact ⟨i + 1, by omega, by omega, by go_num, rfl, HG2⟩
    · have hltz : ¬ (i : Int) < (l.length : Int) := by omega
      have hg := HG.out
      rw [List.drop_of_length_le (by omega)] at hg
      have hg2 : (r1, r2) = ((⟨#[]⟩ : ByteArray), false) := hg
      injection hg2 with h1 h2
      subst h1 h2
      clear hg
      go_wp2_with fail
      go_ret2
      exact ⟨rfl, rfl⟩
#print axioms rget_calls

/-- What the document's Changed has come to. -/
def refOut (l0 l1 m : List S33) : List ByteArray := m.foldl (fun out f => if unlike l0 l1 f.f0 = true then putS out f.f0 else out) []
theorem refOut_snoc (l0 l1 m : List S33) (f : S33) : refOut l0 l1 (m ++ [f]) = if unlike l0 l1 f.f0 = true then putS (refOut l0 l1 m) f.f0 else refOut l0 l1 m := by
  unfold refOut
  rw [List.foldl_append]
  rfl
theorem putS_len (l : List ByteArray) (q : ByteArray) : (putS l q).length ≤ l.length + 1 := by
  unfold putS
  split
  · omega
  · simp; omega
theorem refOut_len (l0 l1 : List S33) (m : List S33) : (refOut l0 l1 m).length ≤ m.length := by
  have h : ∀ (m : List S33) (out : List ByteArray), (m.foldl (fun out f => if unlike l0 l1 f.f0 = true then putS out f.f0 else out) out).length ≤ out.length + m.length := by
    intro m
    induction m with
    | nil => intro out; simp
    | cons f t ih =>
      intro out
      rw [List.foldl_cons, List.length_cons]
      have h1 := ih (if unlike l0 l1 f.f0 = true then putS out f.f0 else out)
      have h2 : (if unlike l0 l1 f.f0 = true then putS out f.f0 else out).length ≤ out.length + 1 := by
        split
        · exact putS_len _ _
        · omega
      omega
  have := h m []
  simpa [refOut] using this

set_option maxHeartbeats 4000000 in
set_option maxRecDepth 100000 in
theorem rchanged_walk (A0 : Option Addr) (c0 : Nat) (l0 : List S33) (A1 : Option Addr) (c1 : Nat) (l1 : List S33) (w : World)
    (hr0 : Kd.C k33 w A0 l0.length l0) (hr1 : Kd.C k33 w A1 l1.length l1) (b0 : l0.length ≤ 1000000) (b1 : l1.length ≤ 1000000) :
    Calls Try.prog 38 #[.slice A0 l0.length c0, .slice A1 l1.length c1] w fun e w' => ∃ v0_ : Value, e = .returned v0_ ∧ Kd.R Kd.string 9 w' w.heap.size (fun _ => True) v0_ (refOut l0 l1 (l0 ++ l1)) ∧ Below w.heap.size w w' := by
  have hu33 := Try.underlying33
  have HR0 := Aside0.mk hr0
  have HR1 := Aside0.mk hr1
  have HL := Aside0.mk (show l0.length ≤ 1000000 ∧ l1.length ≤ 1000000 ∧ (l0 ++ l1).length ≤ 2000000 from ⟨b0, b1, by rw [List.length_append]; omega⟩)
  have hlen : (l0 ++ l1).length = l0.length + l1.length := List.length_append
  have hget : ∀ i, i < (l0 ++ l1).length → (l0 ++ l1).getD i z33 = if i < l0.length then l0.getD i z33 else l1.getD (i - l0.length) z33 := fun i hi => by
    simp only [List.getD_eq_getElem?_getD]
    by_cases h : i < l0.length
    · rw [if_pos h, List.getElem?_append_left h]
    · rw [if_neg h, List.getElem?_append_right (by omega)]
  have hsn : ∀ i, i < (l0 ++ l1).length → refOut l0 l1 ((l0 ++ l1).take (i + 1)) = if unlike l0 l1 ((l0 ++ l1).getD i z33).f0 = true then putS (refOut l0 l1 ((l0 ++ l1).take i)) ((l0 ++ l1).getD i z33).f0 else refOut l0 l1 ((l0 ++ l1).take i) := fun i hi => by
    rw [← refOut_snoc]
    congr 1
    rw [List.take_succ_eq_append_getElem hi, List.getD_eq_getElem?_getD, List.getElem?_eq_getElem hi]
    rfl
  clear hr0 hr1
  generalize l0 ++ l1 = LL at HL hlen hget hsn ⊢
  have HGET := Aside0.mk hget
  have HSN := Aside0.mk hsn
  have HLEN := Aside0.mk hlen
  clear hget hsn hlen
  go_enter Try.func38, Try.ntmps38
  go_wp2_with fail
  go_loopg [5, 6] (LL.length + 1) (fun gg s5 s6 wr => ∃ (i : Nat), i ≤ LL.length ∧ LL.length + 1 - i ≤ gg ∧ s6 = .int .i64 i ∧ Aside0 (Kd.R Kd.string 9 wr w.heap.size (fun _ => True) s5 (refOut l0 l1 (LL.take i))) ∧ Aside0 (Below w.heap.size w wr))
  case atStart => exact ⟨0, by omega, by omega, rfl, ⟨by simpa [refOut] using Kd.R_nil _ _ _ _ _⟩, ⟨Below.refl _ _⟩⟩
  case round =>
    obtain ⟨i, hi, hgi, rfl, HO, HB⟩ := hrel
    by_cases hlt : i < LL.length
    · have HLT := Aside0.mk hlt
      have hltz : (i : Int) < (l0.length : Int) + (l1.length : Int) := by have := HLEN.out; omega
      have hX := HSN.out i hlt
      have hgx := HGET.out i hlt
      by_cases h0 : i < l0.length
      · have h0z : (i : Int) < (l0.length : Int) := by omega
        rw [if_pos h0] at hgx
        rw [hgx] at hX
        obtain ⟨ad, e, hx0, hx1⟩ := at_T33 (Kd.C_below HR0.out HB.out) (i : Int) (by omega) (by omega)
        cases e
        rw [getD_rd, Int.toNat_natCast] at hx0 hx1
        clear hgx
        generalize l0.getD i z33 = x at hx0 hx1 hX
        have HC0 := Aside0.mk (Kd.C_below HR0.out HB.out)
        have HC1 := Aside0.mk (Kd.C_below HR1.out HB.out)
        have G0 := rget_calls _ c0 l0 x.f0 wr HC0.out HL.out.1
        have G1 := rget_calls _ c1 l1 x.f0 wr HC1.out HL.out.2.1
        have hun : unlike l0 l1 x.f0 = (((getE l0 x.f0.toList).2 != (getE l1 x.f0.toList).2) || ((getE l0 x.f0.toList).1.toList != (getE l1 x.f0.toList).1.toList)) := rfl
        generalize (getE l0 x.f0.toList).1 = ra at G0 hun
        generalize (getE l0 x.f0.toList).2 = ba at G0 hun
        generalize (getE l1 x.f0.toList).1 = rb at G1 hun
        generalize (getE l1 x.f0.toList).2 = bb at G1 hun
        have HUN := Aside0.mk hun
        have HG1 := Aside0.mk G1
        have HX := Aside0.mk hX
        have hpu := put_calls w.heap.size u5 (refOut l0 l1 (LL.take i)) x.f0 wr HO.out HB.out.size (by have := refOut_len l0 l1 (LL.take i); rw [List.length_take] at this; have := HL.out.2.2; omega)
        have HPU := Aside0.mk hpu
        clear hun G1 hX hpu
        go_wp2_with fail
        refine G0.mono ?_
        rintro e w1 ⟨rfl, rfl⟩
        clear G0
        go_wp2_with fail
        refine HG1.out.mono ?_
        rintro e w2 ⟨rfl, rfl⟩
        by_cases hbb : ba = bb
        · have hbz : (ba != bb) = false := by rw [hbb]; simp
          cases hab : ra.toList == rb.toList with
          | true =>
            have hab2 : (ra.toList != rb.toList) = false := by unfold bne; rw [hab]; rfl
            have HU := Aside0.mk (show unlike l0 l1 x.f0 = false by rw [HUN.out, hbz, hab2]; rfl)
            have HX4 := Aside0.mk (show refOut l0 l1 (LL.take (i + 1)) = refOut l0 l1 (LL.take i) by rw [HX.out, HU.out]; simp)
            go_wp2_with fail
            go_roundg (LL.length + 1 - (i + 1))
            case measure => omega
            case rel => exact ⟨i + 1, by have := HLT.out; omega, by omega, by go_num, by rw [HX4.out]; exact HO, HB⟩
          | false =>
            have hab2 : (ra.toList != rb.toList) = true := by unfold bne; rw [hab]; rfl
            have HU := Aside0.mk (show unlike l0 l1 x.f0 = true by rw [HUN.out, hbz, hab2]; rfl)
            have HX4 := Aside0.mk (show refOut l0 l1 (LL.take (i + 1)) = putS (refOut l0 l1 (LL.take i)) x.f0 by rw [HX.out, HU.out]; rfl)
            go_wp2_with fail
            refine HPU.out.mono ?_
            rintro e w3 ⟨v3, rfl, hR3, hb3⟩
            have HO3 := Aside0.mk hR3
            have HB3 := Aside0.mk (HB.out.trans hb3)
            clear hR3 hb3
            go_wp2_with fail
            go_roundg (LL.length + 1 - (i + 1))
            case measure => omega
            case rel => exact ⟨i + 1, by have := HLT.out; omega, by omega, by go_num, by rw [HX4.out]; exact HO3, HB3⟩
        · have hbz : (ba != bb) = true := bne_iff_ne.mpr hbb
          have HU := Aside0.mk (show unlike l0 l1 x.f0 = true by rw [HUN.out, hbz]; rfl)
          have HX4 := Aside0.mk (show refOut l0 l1 (LL.take (i + 1)) = putS (refOut l0 l1 (LL.take i)) x.f0 by rw [HX.out, HU.out]; rfl)
          go_wp2_with fail
          refine HPU.out.mono ?_
          rintro e w3 ⟨v3, rfl, hR3, hb3⟩
          have HO3 := Aside0.mk hR3
          have HB3 := Aside0.mk (HB.out.trans hb3)
          clear hR3 hb3
          go_wp2_with fail
          go_roundg (LL.length + 1 - (i + 1))
          case measure => omega
          case rel => exact ⟨i + 1, by have := HLT.out; omega, by omega, by go_num, by rw [HX4.out]; exact HO3, HB3⟩
      · have h0z : ¬ (i : Int) < (l0.length : Int) := by omega
        rw [if_neg h0] at hgx
        rw [hgx] at hX
        obtain ⟨j, hj⟩ : ∃ j, j = i - l0.length := ⟨_, rfl⟩
        rw [← hj] at hX hgx
        have hjl : j < l1.length := by have := HLEN.out; omega
        have hs0 : (i : Int) - (l0.length : Int) = (j : Int) := by omega
        obtain ⟨ad, e, hx0, hx1⟩ := at_T33 (Kd.C_below HR1.out HB.out) (j : Int) (by omega) (by omega)
        cases e
        rw [getD_rd, Int.toNat_natCast] at hx0 hx1
        have hs1 : (j : Int) < (l1.length : Int) := by omega
        clear hgx
        generalize l1.getD j z33 = x at hx0 hx1 hX
        rw [hj] at hx0 hx1
        have HC0 := Aside0.mk (Kd.C_below HR0.out HB.out)
        have HC1 := Aside0.mk (Kd.C_below HR1.out HB.out)
        have G0 := rget_calls _ c0 l0 x.f0 wr HC0.out HL.out.1
        have G1 := rget_calls _ c1 l1 x.f0 wr HC1.out HL.out.2.1
        have hun : unlike l0 l1 x.f0 = (((getE l0 x.f0.toList).2 != (getE l1 x.f0.toList).2) || ((getE l0 x.f0.toList).1.toList != (getE l1 x.f0.toList).1.toList)) := rfl
        generalize (getE l0 x.f0.toList).1 = ra at G0 hun
        generalize (getE l0 x.f0.toList).2 = ba at G0 hun
        generalize (getE l1 x.f0.toList).1 = rb at G1 hun
        generalize (getE l1 x.f0.toList).2 = bb at G1 hun
        have HUN := Aside0.mk hun
        have HG1 := Aside0.mk G1
        have HX := Aside0.mk hX
        have hpu := put_calls w.heap.size u5 (refOut l0 l1 (LL.take i)) x.f0 wr HO.out HB.out.size (by have := refOut_len l0 l1 (LL.take i); rw [List.length_take] at this; have := HL.out.2.2; omega)
        have HPU := Aside0.mk hpu
        clear hun G1 hX hpu
        go_wp2_with fail
        refine G0.mono ?_
        rintro e w1 ⟨rfl, rfl⟩
        clear G0
        go_wp2_with fail
        refine HG1.out.mono ?_
        rintro e w2 ⟨rfl, rfl⟩
        by_cases hbb : ba = bb
        · have hbz : (ba != bb) = false := by rw [hbb]; simp
          cases hab : ra.toList == rb.toList with
          | true =>
            have hab2 : (ra.toList != rb.toList) = false := by unfold bne; rw [hab]; rfl
            have HU := Aside0.mk (show unlike l0 l1 x.f0 = false by rw [HUN.out, hbz, hab2]; rfl)
            have HX4 := Aside0.mk (show refOut l0 l1 (LL.take (i + 1)) = refOut l0 l1 (LL.take i) by rw [HX.out, HU.out]; simp)
            go_wp2_with fail
            go_roundg (LL.length + 1 - (i + 1))
            case measure => omega
            case rel => exact ⟨i + 1, by have := HLT.out; omega, by omega, by go_num, by rw [HX4.out]; exact HO, HB⟩
          | false =>
            have hab2 : (ra.toList != rb.toList) = true := by unfold bne; rw [hab]; rfl
            have HU := Aside0.mk (show unlike l0 l1 x.f0 = true by rw [HUN.out, hbz, hab2]; rfl)
            have HX4 := Aside0.mk (show refOut l0 l1 (LL.take (i + 1)) = putS (refOut l0 l1 (LL.take i)) x.f0 by rw [HX.out, HU.out]; rfl)
            go_wp2_with fail
            refine HPU.out.mono ?_
            rintro e w3 ⟨v3, rfl, hR3, hb3⟩
            have HO3 := Aside0.mk hR3
            have HB3 := Aside0.mk (HB.out.trans hb3)
            clear hR3 hb3
            go_wp2_with fail
            go_roundg (LL.length + 1 - (i + 1))
            case measure => omega
            case rel => exact ⟨i + 1, by have := HLT.out; omega, by omega, by go_num, by rw [HX4.out]; exact HO3, HB3⟩
        · have hbz : (ba != bb) = true := bne_iff_ne.mpr hbb
          have HU := Aside0.mk (show unlike l0 l1 x.f0 = true by rw [HUN.out, hbz]; rfl)
          have HX4 := Aside0.mk (show refOut l0 l1 (LL.take (i + 1)) = putS (refOut l0 l1 (LL.take i)) x.f0 by rw [HX.out, HU.out]; rfl)
          go_wp2_with fail
          refine HPU.out.mono ?_
          rintro e w3 ⟨v3, rfl, hR3, hb3⟩
          have HO3 := Aside0.mk hR3
          have HB3 := Aside0.mk (HB.out.trans hb3)
          clear hR3 hb3
          go_wp2_with fail
          go_roundg (LL.length + 1 - (i + 1))
          case measure => omega
          case rel => exact ⟨i + 1, by have := HLT.out; omega, by omega, by go_num, by rw [HX4.out]; exact HO3, HB3⟩
    · have hltz : ¬ (i : Int) < (l0.length : Int) + (l1.length : Int) := by have := HLEN.out; omega
      have HE := Aside0.mk (show LL.take i = LL from List.take_of_length_le (by omega))
      go_wp2_with fail
      go_ret
      exact ⟨_, rfl, by rw [HE.out] at HO; exact HO.out, HB.out⟩

def bastionref18_Changed.f (l0 l1 : List S33) : Option (List ByteArray) := if l0.length ≤ 1000000 ∧ l1.length ≤ 1000000 then some (refOut l0 l1 (l0 ++ l1)) else none
theorem bastionref18_Changed.calls (A0 : Option Addr) (c0 : Nat) (l0 : List S33) (A1 : Option Addr) (c1 : Nat) (l1 : List S33) (r : List ByteArray) (w : World) (hr0 : Kd.C k33 w A0 l0.length l0) (hc0 : l0.length ≤ c0) (hr1 : Kd.C k33 w A1 l1.length l1) (hc1 : l1.length ≤ c1) (h : bastionref18_Changed.f l0 l1 = some r) :
    Calls Try.prog 38 #[.slice A0 l0.length c0, .slice A1 l1.length c1] w fun e w' => ∃ v0_ : Value, e = .returned v0_ ∧ Kd.R Kd.string 9 w' w.heap.size (fun _ => True) v0_ r ∧ Below w.heap.size w w' := by
  unfold bastionref18_Changed.f at h
  split at h
  · rename_i hb
    cases h
    exact rchanged_walk A0 c0 l0 A1 c1 l1 w hr0 hr1 hb.1 hb.2
  · cases h
#print axioms bastionref18_Changed.calls
end Go.Proofs.Ytgbkoeinfhlpoaa.F
