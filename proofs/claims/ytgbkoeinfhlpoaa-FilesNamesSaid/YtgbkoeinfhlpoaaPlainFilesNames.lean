/- FilesNames: the closed statement's walk. Printed by wip/tools/gennames.py. -/
import Derived.Test.YtgbkoeinfhlpoaaENames
import Derived.Test.YtgbkoeinfhlpoaaELay
namespace Go.Proofs.Ytgbkoeinfhlpoaa.F
open Go.RowKit Go.Shelf Go.Proofs.YtgbkoeinfhlpoaaW.PrintWords Go.Proofs.YtgbkoeinfhlpoaaW.PrintLast Go.Proofs.YtgbkoeinfhlpoaaW.PrintMore
set_option linter.unusedVariables false
set_option linter.unusedSimpArgs false

theorem many_at (n s : Nat) (hn : n ≤ 1000) (hs : s ≤ 100000) (W : World) :
    Calls Try.prog 20 #[.int .i64 n, .int .i64 s] W fun e w' => ∃ (l : List S33) (A : Option Addr) (c : Nat), Aside0 (l = manyL n s) ∧ e = .returned (.slice A l.length c) ∧ l.length ≤ c ∧ Kd.C k33 w' A l.length l ∧ Below W.heap.size W w' := by
  refine (bastionlaw17_many.calls (n + 1) n s (manyL n s) W (many_f n s hn hs)).mono ?_
  rintro e w' ⟨v, rfl, hR, hb⟩
  obtain ⟨A, c, rfl, hl, hC⟩ := Kd.R_reads hR
  exact ⟨_, A, c, ⟨rfl⟩, rfl, hl, hC, hb⟩
theorem put_at (A : Option Addr) (c : Nat) (l : List S33) (q d : ByteArray) (x : Int) (W : World) (hr : Kd.C k33 W A l.length l) (hc : l.length ≤ c) (h : (putE l ⟨q, d⟩).2 = x) :
    Calls Try.prog 22 #[.slice A l.length c, .string q, .string d] W fun e w' => ∃ v, e = .returned (.tuple #[v, .int .i64 x]) ∧ Below W.heap.size W w' := by
  refine (files_Put.calls A c l q d (putE l ⟨q, d⟩).1 x W hr hc (by unfold files_Put.f; rw [← h])).mono ?_
  rintro e w' ⟨v, rfl, _, hb⟩
  exact ⟨v, rfl, hb⟩
theorem del_at (A : Option Addr) (c : Nat) (l : List S33) (q : ByteArray) (x : Int) (W : World) (hr : Kd.C k33 W A l.length l) (hc : l.length ≤ c) (h : (delE l q.toList).2 = x) :
    Calls Try.prog 23 #[.slice A l.length c, .string q] W fun e w' => ∃ v, e = .returned (.tuple #[v, .int .i64 x]) ∧ Below W.heap.size W w' := by
  refine (files_Del.calls A c l q (delE l q.toList).1 x W hr hc (by unfold files_Del.f; rw [← h])).mono ?_
  rintro e w' ⟨v, rfl, _, hb⟩
  exact ⟨v, rfl, hb⟩
theorem lay_at (A : Option Addr) (c : Nat) (l : List S33) (A' : Option Addr) (c' : Nat) (l' : List S33) (x : Int) (W : World) (hr : Kd.C k33 W A l.length l) (hc : l.length ≤ c) (hr' : Kd.C k33 W A' l'.length l') (hc' : l'.length ≤ c') (h : (layE l l').2 = x) :
    Calls Try.prog 17 #[.slice A l.length c, .slice A' l'.length c'] W fun e w' => ∃ v, e = .returned (.tuple #[v, .int .i64 x]) ∧ Below W.heap.size W w' := by
  refine (files_Lay.calls A c l A' c' l' (layE l l').1 x W hr hc hr' hc' (by unfold files_Lay.f; rw [← h])).mono ?_
  rintro e w' ⟨v, rfl, _, hb⟩
  exact ⟨v, rfl, hb⟩
theorem check_at (A : Option Addr) (c : Nat) (l : List S33) (x : Int) (W : World) (hr : Kd.C k33 W A l.length l) (h : checkE l = x) :
    Calls Try.prog 16 #[.slice A l.length c] W fun e w' => e = .returned (.int .i64 x) ∧ Below W.heap.size W w' := by
  rw [← h]; exact Check_calls A c l W hr

theorem path_at (q : ByteArray) (b : Bool) (W : World) (h : pathB q.toList = b) :
    Calls Try.prog 21 #[.string q] W fun e w' => e = .returned (.bool b) ∧ Below W.heap.size W w' := files_Path.calls q b W (by unfold files_Path.f; rw [h])
theorem zeros_size (n : Nat) : (strOfNums (List.replicate n 0)).size = n := by simp [strOfNums, ByteArray.size]
theorem put_nil (q d : ByteArray) (x : Int) (h : fileE ⟨q, d⟩ = x) (hx : x ≠ 0) : (putE [] ⟨q, d⟩).2 = x := by
  unfold putE
  rw [if_pos (check_of Good.nil), if_neg (by rw [h]; exact hx), h]

theorem file_x (d : ByteArray) (h : 4096 < d.size) : fileE ⟨(⟨#[120]⟩ : ByteArray), d⟩ = 40 := by
  have hp : pathB (S33.p ⟨(⟨#[120]⟩ : ByteArray), d⟩) = true := by
    show pathB (ByteArray.toList ⟨#[120]⟩) = true
    rw [Lib.toList_data]; decide +kernel
  unfold fileE
  rw [hp, if_pos rfl, if_neg (by show ¬ d.size ≤ 4096; omega)]
theorem file_ab (d : ByteArray) : fileE ⟨(⟨#[97, 32, 98]⟩ : ByteArray), d⟩ = 63 := by
  have hp : pathB (S33.p ⟨(⟨#[97, 32, 98]⟩ : ByteArray), d⟩) = false := by
    show pathB (ByteArray.toList ⟨#[97, 32, 98]⟩) = false
    rw [Lib.toList_data]; decide +kernel
  unfold fileE
  rw [hp, if_neg Bool.false_ne_true]
def litF (q : ByteArray) : S33 := ⟨q, ⟨#[]⟩⟩
theorem lit_check (l : List S33) (x : Int) (h : checkE l = x) : checkE l = x := h
theorem put_form (l : List S33) (f : S33) (h : checkE l ≠ 0) : (putE l f).2 = 4 := by
  unfold putE; rw [if_neg h]
theorem chk_ba : checkE [litF ⟨#[98]⟩, litF ⟨#[97]⟩] = 4 := by
  simp only [litF, checkE, firstE, fileE, fullE, sizeF, risingB, someWay, S33.p, Lib.toList_data, List.any_cons, List.any_nil]; decide +kernel
theorem chk_bb : checkE [litF ⟨#[98]⟩, litF ⟨#[98]⟩] = 4 := by
  simp only [litF, checkE, firstE, fileE, fullE, sizeF, risingB, someWay, S33.p, Lib.toList_data, List.any_cons, List.any_nil]; decide +kernel
theorem chk_bs : checkE [litF ⟨#[98]⟩, litF ⟨#[47]⟩] = 63 := by
  simp only [litF, checkE, firstE, fileE, fullE, sizeF, risingB, someWay, S33.p, Lib.toList_data, List.any_cons, List.any_nil]; decide +kernel
theorem chk_under : checkE [litF ⟨#[97]⟩, litF ⟨#[97, 45, 98]⟩, litF ⟨#[97, 47, 98]⟩] = 50 := by
  simp only [litF, checkE, firstE, fileE, fullE, sizeF, risingB, someWay, S33.p, Lib.toList_data, List.any_cons, List.any_nil]; decide +kernel
theorem good_x : Good [litF ⟨#[120]⟩] := good_of (by simp only [litF, checkE, firstE, fileE, fullE, sizeF, risingB, someWay, S33.p, Lib.toList_data, List.any_cons, List.any_nil]; decide +kernel)
theorem del_none : (delE (manyL 2 1) (ByteArray.toList ⟨#[120]⟩)).2 = 5 := by
  have G := many_good 2 1 (by omega) (by omega) (by omega)
  unfold delE
  rw [if_pos (check_of G), if_neg]
  rw [List.any_eq_true]
  rintro ⟨g, hg, hgq⟩
  obtain ⟨i, hi, rfl⟩ := many_mem (by omega) hg
  rw [mF_p 1 i hi, Lib.toList_data] at hgq
  have := (pOf_way i hi [120] (by simp)).1
  simp at hgq this
  exact this hgq
theorem lay_many : (layE (manyL 64 0) [litF ⟨#[120]⟩]).2 = 3 := by
  have G := many_good 64 0 (by omega) (by omega) (by omega)
  have ho : (overF (manyL 64 0) [litF ⟨#[120]⟩]).length = 65 := by
    unfold overF
    rw [List.filter_eq_self.mpr, List.length_append, manyL_len]
    · rfl
    · intro f hf
      obtain ⟨i, hi, rfl⟩ := many_mem (by omega) hf
      have := (pOf_way i hi [120] (by simp)).2
      rw [List.any_cons, List.any_nil, mF_p 0 i hi, show (litF ⟨#[120]⟩).p = [120] from Lib.toList_data _, this]
      rfl
  rw [lay_full G good_x]
  intro h
  have := (fullE_zero.mp h).1
  omega
theorem lay_form : (layE (manyL 65 0) []).2 = 4 := by
  unfold layE
  rw [if_neg]
  rintro ⟨h, _⟩
  rw [many_check 65 0 (by omega) (by omega), if_neg (by omega)] at h
  cases h
theorem many_big : checkE (manyL 1 4097) = 40 := by
  have hm : manyL 1 4097 = [mF 4097 0] := rfl
  have hf : fileE (mF 4097 0) = 40 := by rw [many_file (by omega), if_neg (by omega)]
  have h1 : firstE [mF 4097 0] = 40 := by
    unfold firstE
    rw [if_neg (by rw [hf]; decide), hf]
  unfold checkE
  rw [hm, h1, if_neg (by decide)]

/-- What is no path. -/
def namesB : List ByteArray := [⟨#[]⟩, ⟨#[47, 97]⟩, ⟨#[97, 47]⟩, ⟨#[97, 47, 47, 98]⟩, ⟨#[46, 47, 97]⟩, ⟨#[97, 47, 46, 46]⟩, ⟨#[97, 32, 98]⟩, ⟨#[46, 46]⟩, ⟨#[97, 0]⟩, ⟨#[195, 164]⟩, (⟨#[102, 97, 97]⟩ : ByteArray) ++ (⟨#[43]⟩ : ByteArray)]
theorem names_bad : ∀ j, j < 11 → pathB (namesB.getD j ⟨#[]⟩).toList = false := by
  intro j hj
  rcases j with _ | _ | _ | _ | _ | _ | _ | _ | _ | _ | _ | j
  all_goals first
    | omega
    | (show pathB ((⟨#[102, 97, 97]⟩ : ByteArray) ++ (⟨#[43]⟩ : ByteArray)).toList = false; rw [append_list, Lib.toList_data, Lib.toList_data]; decide +kernel)
    | (show pathB (ByteArray.toList _) = false; rw [Lib.toList_data]; decide +kernel)

/-- A literal's row, read. -/
theorem lits_C (W : World) (l : List S33) (hl : l.length ≤ 1000) : Kd.C k33 (W.alloc (.cells (flatF l).toArray 33)) (some ⟨W.heap.size, 0, none⟩) l.length l := by
  have h : OwnF (W.alloc (.cells (flatF l).toArray 33)) 0 W.heap.size l.length (flatF l).toArray l := ⟨by show (W.heap.push _)[W.heap.size]? = _; rw [Array.getElem?_push_size], Nat.zero_le _, Nat.le_refl _, by unfold maxLen; omega, by simp [flatF_len], by rw [← flatF_len]; exact List.take_length⟩
  exact (Kd.R_reads' (R_of h)).2.2

set_option maxHeartbeats 16000000 in
set_option maxRecDepth 100000 in
theorem FilesNames_law (w : World) : Calls Try.prog 4 #[] w fun e w' => e = .returned (.bool true) ∧ Below w.heap.size w w' := by
  have hu33 := Try.underlying33
  have HB0 := Aside0.mk (Below.refl w.heap.size w)
  go_enter Try.func4, Try.ntmps4
  go_wp2_with fail
  refine (bastionlaw17_works.calls true w works_true).mono ?_
  rintro e w1 ⟨rfl, hb1⟩
  have HB1 := Aside0.mk (HB0.out.trans (hb1.mono (HB0.out).size))
  clear hb1
  go_wp2_with fail
  refine (many_at 1 0 (by omega) (by omega) _).mono ?_
  rintro e w2 ⟨l2, A2, c2, hm2, rfl, hl2, hC2, hb2⟩
  have HB2 := Aside0.mk (HB1.out.trans (hb2.mono (HB1.out).size))
  have HL2 := Aside0.mk hl2
  have HC2 := Aside0.mk hC2
  clear hb2 hl2 hC2
  obtain ⟨ad, e, hx0, hx1⟩ := at_T33 HC2.out 0 (by omega) (by rw [hm2.out, manyL_len]; decide)
  cases e
  clear hx1
  have hy : (rd_T33 l2 0).f0 = (⟨#[102, 97, 97]⟩ : ByteArray) := by rw [hm2.out]; show (mF 0 0).f0 = _; exact bytes_ext ((mF_p 0 0 (by omega)).trans (by rw [Lib.toList_data]; rfl))
  rw [hy] at hx0
  have hx0a : w2.cell? (ad.add 0) = some (.string (⟨#[102, 97, 97]⟩ : ByteArray)) := hx0
  have hx0b : w2.cell? ad = some (.string (⟨#[102, 97, 97]⟩ : ByteArray)) := by have := hx0; simpa [Addr.add] using this
  have hlz : (0 : Int) < (l2.length : Int) := by rw [hm2.out, manyL_len]; decide
  have hln : 0 < l2.length := by rw [hm2.out, manyL_len]; decide
  go_wp2_with fail
  go_loopg [54] 12 (fun gg s54 wr => ∃ k : Nat, k ≤ 11 ∧ 11 - k ≤ gg ∧ s54 = .int .i64 k ∧ Aside0 (Below w.heap.size w wr) ∧ Aside0 (∀ j, j < 11 → wr.cell? ⟨w2.heap.size, j, none⟩ = some (.string (namesB.getD j ⟨#[]⟩))))
  case atStart =>
    refine ⟨0, by omega, by omega, rfl, ⟨HB2.out.alloc HB2.out.size _⟩, ⟨fun j hj => ?_⟩⟩
    rw [World.cell?_alloc_at _ _ w2.heap.size j rfl]
    rcases j with _ | _ | _ | _ | _ | _ | _ | _ | _ | _ | _ | j <;> first | rfl | omega
  case round =>
    obtain ⟨k, hk, hg, rfl, HB, HN⟩ := hrel
    by_cases hlt : k < 11
    · have hltz : (k : Int) < 11 := by omega
      have hk0 : (0 : Int) ≤ (k : Int) := by omega
      have hcell := HN.out k hlt
      have hp := names_bad k hlt
      generalize namesB.getD k ⟨#[]⟩ = q at hcell hp
      have hpc := files_Path.calls q false wr (by unfold files_Path.f; rw [hp])
      clear hp
      go_wp2_with (go_at_call 21; refine hpc.mono ?_; rintro e wa ⟨rfl, hba⟩)
      go_roundg (11 - (k + 1))
      case measure => omega
      case rel => exact ⟨k + 1, by omega, by omega, (by congr 1; (try simp only [wrap64]); try omega), ⟨HB.out.trans (hba.mono HB.out.size)⟩, ⟨fun j hj => (hba.cell (World.block_lt_of_cell? wr _ (HN.out j hj))).trans (HN.out j hj)⟩⟩
    · have hltz : ¬ (k : Int) < 11 := by omega
      have hkk : k = 11 := by omega
      subst hkk
      clear HN hk hg hlt
      have HB100 := HB
      clear HB
      go_wp2_with fail
      refine (path_at (⟨#[97]⟩ : ByteArray) true _ (by rw [Lib.toList_data]; decide +kernel)).mono ?_
      rintro e w101 ⟨rfl, hb101⟩
      have HB101 := Aside0.mk (HB100.out.trans (hb101.mono (HB100.out).size))
      clear hb101
      go_wp2_with fail
      refine (path_at (⟨#[97, 45, 49, 47, 66, 95, 50, 47, 46, 46, 120]⟩ : ByteArray) true _ (by rw [Lib.toList_data]; decide +kernel)).mono ?_
      rintro e w102 ⟨rfl, hb102⟩
      have HB102 := Aside0.mk (HB101.out.trans (hb102.mono (HB101.out).size))
      clear hb102
      go_wp2_with fail
      refine (path_at (⟨#[97, 97, 97, 97, 97, 97, 97, 97, 97, 97, 97, 97, 97, 97, 97, 97, 97, 97, 97, 97, 97, 97, 97, 97, 97, 97, 97, 97, 97, 97, 97, 97, 97, 97, 97, 97, 97, 97, 97, 97, 97, 97, 97, 97, 97, 97, 97, 97]⟩ : ByteArray) true _ (by rw [Lib.toList_data]; decide +kernel)).mono ?_
      rintro e w103 ⟨rfl, hb103⟩
      have HB103 := Aside0.mk (HB102.out.trans (hb103.mono (HB102.out).size))
      clear hb103
      go_wp2_with fail
      refine (path_at ((⟨#[97, 97, 97, 97, 97, 97, 97, 97, 97, 97, 97, 97, 97, 97, 97, 97, 97, 97, 97, 97, 97, 97, 97, 97, 97, 97, 97, 97, 97, 97, 97, 97, 97, 97, 97, 97, 97, 97, 97, 97, 97, 97, 97, 97, 97, 97, 97, 97]⟩ : ByteArray) ++ (⟨#[97]⟩ : ByteArray)) false _ (by rw [append_list, Lib.toList_data, Lib.toList_data]; decide +kernel)).mono ?_
      rintro e w104 ⟨rfl, hb104⟩
      have HB104 := Aside0.mk (HB103.out.trans (hb104.mono (HB103.out).size))
      clear hb104
      go_wp2_with fail
      refine (many_at 64 1 (by omega) (by omega) _).mono ?_
      rintro e w105 ⟨l105, A105, c105, hm105, rfl, hl105, hC105, hb105⟩
      have HB105 := Aside0.mk (HB104.out.trans (hb105.mono (HB104.out).size))
      have HL105 := Aside0.mk hl105
      have HC105 := Aside0.mk hC105
      clear hb105 hl105 hC105
      go_wp2_with fail
      refine (put_at A105 c105 l105 (⟨#[102, 97]⟩ : ByteArray) (⟨#[]⟩ : ByteArray) 3 _ HC105.out HL105.out (by rw [hm105.out]; obtain ⟨r, hr⟩ := many_put 64 1 (by omega) (by omega) (by omega) (⟨#[102, 97]⟩ : ByteArray) (⟨#[]⟩ : ByteArray) (by rw [Lib.toList_data]; decide) (by decide); rw [hr]; rfl)).mono ?_
      rintro e w106 ⟨v106, rfl, hb106⟩
      have HB106 := Aside0.mk (HB105.out.trans (hb106.mono (HB105.out).size))
      clear hb106
      clear HC105 HL105 hm105
      go_wp2_with fail
      refine (many_at 63 1 (by omega) (by omega) _).mono ?_
      rintro e w107 ⟨l107, A107, c107, hm107, rfl, hl107, hC107, hb107⟩
      have HB107 := Aside0.mk (HB106.out.trans (hb107.mono (HB106.out).size))
      have HL107 := Aside0.mk hl107
      have HC107 := Aside0.mk hC107
      clear hb107 hl107 hC107
      go_wp2_with fail
      refine (put_at A107 c107 l107 (⟨#[102, 97]⟩ : ByteArray) (⟨#[]⟩ : ByteArray) 0 _ HC107.out HL107.out (by rw [hm107.out]; obtain ⟨r, hr⟩ := many_put 63 1 (by omega) (by omega) (by omega) (⟨#[102, 97]⟩ : ByteArray) (⟨#[]⟩ : ByteArray) (by rw [Lib.toList_data]; decide) (by decide); rw [hr]; rfl)).mono ?_
      rintro e w108 ⟨v108, rfl, hb108⟩
      have HB108 := Aside0.mk (HB107.out.trans (hb108.mono (HB107.out).size))
      clear hb108
      clear HC107 HL107 hm107
      go_wp2_with fail
      refine (many_at 4 4096 (by omega) (by omega) _).mono ?_
      rintro e w109 ⟨l109, A109, c109, hm109, rfl, hl109, hC109, hb109⟩
      have HB109 := Aside0.mk (HB108.out.trans (hb109.mono (HB108.out).size))
      have HL109 := Aside0.mk hl109
      have HC109 := Aside0.mk hC109
      clear hb109 hl109 hC109
      go_wp2_with fail
      refine (put_at A109 c109 l109 (⟨#[120]⟩ : ByteArray) (⟨#[121]⟩ : ByteArray) 3 _ HC109.out HL109.out (by rw [hm109.out]; obtain ⟨r, hr⟩ := many_put 4 4096 (by omega) (by omega) (by omega) (⟨#[120]⟩ : ByteArray) (⟨#[121]⟩ : ByteArray) (by rw [Lib.toList_data]; decide) (by decide); rw [hr]; rfl)).mono ?_
      rintro e w110 ⟨v110, rfl, hb110⟩
      have HB110 := Aside0.mk (HB109.out.trans (hb110.mono (HB109.out).size))
      clear hb110
      clear HC109 HL109 hm109
      go_wp2_with fail
      refine (many_at 4 4096 (by omega) (by omega) _).mono ?_
      rintro e w111 ⟨l111, A111, c111, hm111, rfl, hl111, hC111, hb111⟩
      have HB111 := Aside0.mk (HB110.out.trans (hb111.mono (HB110.out).size))
      have HL111 := Aside0.mk hl111
      have HC111 := Aside0.mk hC111
      clear hb111 hl111 hC111
      go_wp2_with fail
      refine (put_at A111 c111 l111 (⟨#[120]⟩ : ByteArray) (⟨#[]⟩ : ByteArray) 0 _ HC111.out HL111.out (by rw [hm111.out]; obtain ⟨r, hr⟩ := many_put 4 4096 (by omega) (by omega) (by omega) (⟨#[120]⟩ : ByteArray) (⟨#[]⟩ : ByteArray) (by rw [Lib.toList_data]; decide) (by decide); rw [hr]; rfl)).mono ?_
      rintro e w112 ⟨v112, rfl, hb112⟩
      have HB112 := Aside0.mk (HB111.out.trans (hb112.mono (HB111.out).size))
      clear hb112
      clear HC111 HL111 hm111
      go_wp2_with (at_make; refine Kd.R_make (Kd.int .u8) (w0 := w) w.heap.size 5 rfl (N := 98) rfl 38 (.const (.int .i64 4097)) (.const (.int .i64 4097)) rfl 4097 rfl rfl Try.underlying38 (.int .u8 0) 1 info5 rfl (by decide) (by omega) 0 (ok := fun _ => True) (okp := fun _ => True) rfl (fun _ h => h) trivial (by omega) (by decide) HB112.out HB112.out.size ?_; intro v113 w113 hR113 hb113 _ _; have hz113 := zeros_size (Int.toNat 4097); generalize List.replicate (Int.toNat 4097) (0 : Int) = z113 at hR113 hz113; obtain ⟨Z113, y113, rfl, hlz113, hZ113⟩ := Kd.R_reads hR113; have hcv113 := Kd.C_string (P := Try.prog) (A := Z113) (c := y113) Try.underlying38 Try.underlying5 Try.underlying9 hZ113)
      have HB113 := Aside0.mk hb113
      clear hb113 hR113 hZ113
      refine (put_at none 0 [] (⟨#[120]⟩ : ByteArray) (strOfNums z113) 40 _ (Kd.C_nil k33 _) (Nat.le_refl _) (put_nil _ _ _ (file_x _ (by rw [hz113]; decide)) (by decide))).mono ?_
      rintro e w114 ⟨v114, rfl, hb114⟩
      have HB114 := Aside0.mk (HB113.out.trans (hb114.mono HB113.out.size))
      clear hb114 hcv113 hz113
      go_wp2_with (at_make; refine Kd.R_make (Kd.int .u8) (w0 := w) w.heap.size 5 rfl (N := 104) rfl 38 (.const (.int .i64 4097)) (.const (.int .i64 4097)) rfl 4097 rfl rfl Try.underlying38 (.int .u8 0) 1 info5 rfl (by decide) (by omega) 0 (ok := fun _ => True) (okp := fun _ => True) rfl (fun _ h => h) trivial (by omega) (by decide) HB114.out HB114.out.size ?_; intro v115 w115 hR115 hb115 _ _; have hz115 := zeros_size (Int.toNat 4097); generalize List.replicate (Int.toNat 4097) (0 : Int) = z115 at hR115 hz115; obtain ⟨Z115, y115, rfl, hlz115, hZ115⟩ := Kd.R_reads hR115; have hcv115 := Kd.C_string (P := Try.prog) (A := Z115) (c := y115) Try.underlying38 Try.underlying5 Try.underlying9 hZ115)
      have HB115 := Aside0.mk hb115
      clear hb115 hR115 hZ115
      refine (put_at none 0 [] (⟨#[97, 32, 98]⟩ : ByteArray) (strOfNums z115) 63 _ (Kd.C_nil k33 _) (Nat.le_refl _) (put_nil _ _ _ (file_ab _) (by decide))).mono ?_
      rintro e w116 ⟨v116, rfl, hb116⟩
      have HB116 := Aside0.mk (HB115.out.trans (hb116.mono HB115.out.size))
      clear hb116 hcv115 hz115
      go_wp2_with fail
      refine (put_at (some ⟨w116.heap.size, 0, none⟩) 2 [litF ⟨#[98]⟩, litF ⟨#[97]⟩] ⟨#[]⟩ ⟨#[]⟩ 4 _ (lits_C w116 [litF ⟨#[98]⟩, litF ⟨#[97]⟩] (by decide)) (by decide) (put_form _ _ (by rw [chk_ba]; decide))).mono ?_
      rintro e w117 ⟨v117, rfl, hb117⟩
      have HB117 := Aside0.mk ((HB116.out.alloc HB116.out.size _).trans (hb117.mono ((HB116.out.alloc HB116.out.size _)).size))
      clear hb117
      go_wp2_with fail
      refine (many_at 2 1 (by omega) (by omega) _).mono ?_
      rintro e w118 ⟨l118, A118, c118, hm118, rfl, hl118, hC118, hb118⟩
      have HB118 := Aside0.mk (HB117.out.trans (hb118.mono (HB117.out).size))
      have HL118 := Aside0.mk hl118
      have HC118 := Aside0.mk hC118
      clear hb118 hl118 hC118
      go_wp2_with fail
      refine (del_at A118 c118 l118 (⟨#[120]⟩ : ByteArray) 5 _ HC118.out HL118.out (by rw [hm118.out]; exact del_none)).mono ?_
      rintro e w119 ⟨v119, rfl, hb119⟩
      have HB119 := Aside0.mk (HB118.out.trans (hb119.mono (HB118.out).size))
      clear hb119
      clear HC118 HL118 hm118
      go_wp2_with fail
      refine (many_at 64 0 (by omega) (by omega) _).mono ?_
      rintro e w120 ⟨l120, A120, c120, hm120, rfl, hl120, hC120, hb120⟩
      have HB120 := Aside0.mk (HB119.out.trans (hb120.mono (HB119.out).size))
      have HL120 := Aside0.mk hl120
      have HC120 := Aside0.mk hC120
      clear hb120 hl120 hC120
      go_wp2_with fail
      refine (lay_at A120 c120 l120 (some ⟨w120.heap.size, 0, none⟩) 1 [litF ⟨#[120]⟩] 3 _ (Kd.C_alloc HC120.out _) HL120.out (lits_C w120 [litF ⟨#[120]⟩] (by decide)) (by decide) (by rw [hm120.out]; exact lay_many)).mono ?_
      rintro e w121 ⟨v121, rfl, hb121⟩
      have HB121 := Aside0.mk ((HB120.out.alloc HB120.out.size _).trans (hb121.mono ((HB120.out.alloc HB120.out.size _)).size))
      clear hb121
      clear HC120 HL120 hm120
      go_wp2_with fail
      refine (many_at 65 0 (by omega) (by omega) _).mono ?_
      rintro e w122 ⟨l122, A122, c122, hm122, rfl, hl122, hC122, hb122⟩
      have HB122 := Aside0.mk (HB121.out.trans (hb122.mono (HB121.out).size))
      have HL122 := Aside0.mk hl122
      have HC122 := Aside0.mk hC122
      clear hb122 hl122 hC122
      go_wp2_with fail
      refine (lay_at A122 c122 l122 none 0 [] 4 _ HC122.out HL122.out (Kd.C_nil k33 _) (Nat.le_refl _) (by rw [hm122.out]; exact lay_form)).mono ?_
      rintro e w123 ⟨v123, rfl, hb123⟩
      have HB123 := Aside0.mk (HB122.out.trans (hb123.mono (HB122.out).size))
      clear hb123
      clear HC122 HL122 hm122
      go_wp2_with fail
      refine (check_at (some ⟨w123.heap.size, 0, none⟩) 3 [litF ⟨#[97]⟩, litF ⟨#[97, 45, 98]⟩, litF ⟨#[97, 47, 98]⟩] 50 _ (lits_C w123 [litF ⟨#[97]⟩, litF ⟨#[97, 45, 98]⟩, litF ⟨#[97, 47, 98]⟩] (by decide)) chk_under).mono ?_
      rintro e w124 ⟨rfl, hb124⟩
      have HB124 := Aside0.mk ((HB123.out.alloc HB123.out.size _).trans (hb124.mono ((HB123.out.alloc HB123.out.size _)).size))
      clear hb124
      go_wp2_with fail
      refine (many_at 64 256 (by omega) (by omega) _).mono ?_
      rintro e w125 ⟨l125, A125, c125, hm125, rfl, hl125, hC125, hb125⟩
      have HB125 := Aside0.mk (HB124.out.trans (hb125.mono (HB124.out).size))
      have HL125 := Aside0.mk hl125
      have HC125 := Aside0.mk hC125
      clear hb125 hl125 hC125
      go_wp2_with fail
      refine (check_at A125 c125 l125 0 _ HC125.out (by rw [hm125.out]; rw [many_check 64 256 (by omega) (by omega), if_pos (by omega)])).mono ?_
      rintro e w126 ⟨rfl, hb126⟩
      have HB126 := Aside0.mk (HB125.out.trans (hb126.mono (HB125.out).size))
      clear hb126
      clear HC125 HL125 hm125
      go_wp2_with fail
      refine (many_at 64 257 (by omega) (by omega) _).mono ?_
      rintro e w127 ⟨l127, A127, c127, hm127, rfl, hl127, hC127, hb127⟩
      have HB127 := Aside0.mk (HB126.out.trans (hb127.mono (HB126.out).size))
      have HL127 := Aside0.mk hl127
      have HC127 := Aside0.mk hC127
      clear hb127 hl127 hC127
      go_wp2_with fail
      refine (check_at A127 c127 l127 3 _ HC127.out (by rw [hm127.out]; rw [many_check 64 257 (by omega) (by omega), if_neg (by omega)])).mono ?_
      rintro e w128 ⟨rfl, hb128⟩
      have HB128 := Aside0.mk (HB127.out.trans (hb128.mono (HB127.out).size))
      clear hb128
      clear HC127 HL127 hm127
      go_wp2_with fail
      refine (many_at 65 0 (by omega) (by omega) _).mono ?_
      rintro e w129 ⟨l129, A129, c129, hm129, rfl, hl129, hC129, hb129⟩
      have HB129 := Aside0.mk (HB128.out.trans (hb129.mono (HB128.out).size))
      have HL129 := Aside0.mk hl129
      have HC129 := Aside0.mk hC129
      clear hb129 hl129 hC129
      go_wp2_with fail
      refine (check_at A129 c129 l129 3 _ HC129.out (by rw [hm129.out]; rw [many_check 65 0 (by omega) (by omega), if_neg (by omega)])).mono ?_
      rintro e w130 ⟨rfl, hb130⟩
      have HB130 := Aside0.mk (HB129.out.trans (hb130.mono (HB129.out).size))
      clear hb130
      clear HC129 HL129 hm129
      go_wp2_with fail
      refine (many_at 1 4097 (by omega) (by omega) _).mono ?_
      rintro e w131 ⟨l131, A131, c131, hm131, rfl, hl131, hC131, hb131⟩
      have HB131 := Aside0.mk (HB130.out.trans (hb131.mono (HB130.out).size))
      have HL131 := Aside0.mk hl131
      have HC131 := Aside0.mk hC131
      clear hb131 hl131 hC131
      go_wp2_with fail
      refine (check_at A131 c131 l131 40 _ HC131.out (by rw [hm131.out]; exact many_big)).mono ?_
      rintro e w132 ⟨rfl, hb132⟩
      have HB132 := Aside0.mk (HB131.out.trans (hb132.mono (HB131.out).size))
      clear hb132
      clear HC131 HL131 hm131
      go_wp2_with fail
      refine (check_at (some ⟨w132.heap.size, 0, none⟩) 2 [litF ⟨#[98]⟩, litF ⟨#[97]⟩] 4 _ (lits_C w132 [litF ⟨#[98]⟩, litF ⟨#[97]⟩] (by decide)) chk_ba).mono ?_
      rintro e w133 ⟨rfl, hb133⟩
      have HB133 := Aside0.mk ((HB132.out.alloc HB132.out.size _).trans (hb133.mono ((HB132.out.alloc HB132.out.size _)).size))
      clear hb133
      go_wp2_with fail
      refine (check_at (some ⟨w133.heap.size, 0, none⟩) 2 [litF ⟨#[98]⟩, litF ⟨#[98]⟩] 4 _ (lits_C w133 [litF ⟨#[98]⟩, litF ⟨#[98]⟩] (by decide)) chk_bb).mono ?_
      rintro e w134 ⟨rfl, hb134⟩
      have HB134 := Aside0.mk ((HB133.out.alloc HB133.out.size _).trans (hb134.mono ((HB133.out.alloc HB133.out.size _)).size))
      clear hb134
      go_wp2_with fail
      refine (check_at (some ⟨w134.heap.size, 0, none⟩) 2 [litF ⟨#[98]⟩, litF ⟨#[47]⟩] 63 _ (lits_C w134 [litF ⟨#[98]⟩, litF ⟨#[47]⟩] (by decide)) chk_bs).mono ?_
      rintro e w135 ⟨rfl, hb135⟩
      have HB135 := Aside0.mk ((HB134.out.alloc HB134.out.size _).trans (hb135.mono ((HB134.out.alloc HB134.out.size _)).size))
      clear hb135
      go_wp2_with fail
      refine (check_at none 0 [] 0 _ (Kd.C_nil k33 _) (check_of Good.nil)).mono ?_
      rintro e w136 ⟨rfl, hb136⟩
      have HB136 := Aside0.mk (HB135.out.trans (hb136.mono (HB135.out).size))
      clear hb136
      go_wp2_with fail
      go_ret
      exact ⟨rfl, HB136.out⟩

#print axioms FilesNames_law
end Go.Proofs.Ytgbkoeinfhlpoaa.F
