/- The reference's Identity and OrthogonalSpace; the law of OrthogonalSpace. -/
import Derived.Test.YtjcgnpnnhejfhaaLawSpan
import Derived.Test.YtjcgnpnnhejfhaaNulS
namespace Go.Proofs.Ytjcgnpnnhejfhaa
open Go.RowKit
set_option linter.unusedVariables false
set_option maxRecDepth 20000

def idR (n j : Nat) : List (List Int) := (List.range j).map (unitV n)
theorem idR_succ (n j : Nat) : idR n (j + 1) = idR n j ++ [unitV n j] := by simp [idR, List.range_succ]
theorem idR_length (n j : Nat) : (idR n j).length = j := by simp [idR]
theorem idR_null (n : Nat) : nullTo [] n n = idR n n := by
  unfold nullTo idR
  rw [List.filter_eq_self.2 (fun a _ => by simp [isFree])]
  refine List.map_congr_left fun f hf => ?_
  apply List.ext_getElem?
  intro j
  by_cases hj : j < n
  · rw [unitV_get hj]
    simp [nullV, nullE, hj]
  · rw [List.getElem?_eq_none (by rw [nullV_length]; omega), List.getElem?_eq_none (by rw [unitV_length]; omega)]

set_option maxHeartbeats 1000000 in
theorem specIdentity_ok (n : Nat) (w : World) (hn : n ≤ 40) : Calls Try.prog 77 #[.int .i64 n] w (NewM w (idR n n)) := by
  have o0 := OM.new0 w
  have e0 := (Ext.refl w).alloc (.cells #[] 42)
  have hn' : (n : Int) ≤ 40 := by omega
  go_enter Try.func77, Try.ntmps77
  go_wp2_with fail
  go_loopw [3, 4] (fun v i wr => ∃ (j : Nat) (a1 : Option Addr) (c1 : Nat) (yss : List (List Int)), j ≤ n ∧ i = .int .i64 j ∧ v = .slice a1 yss.length c1 ∧ Hid (yss = idR n j) ∧ OM wr w.heap.size wr.heap.size a1 c1 yss ∧ Ext w wr) (fun _ i _ => n - (intOf i).toNat)
  case atStart => exact ⟨0, _, _, [], Nat.zero_le _, rfl, rfl, rfl, o0, e0⟩
  case round =>
    clear o0 e0
    obtain ⟨j, a1, c1, yss, hj, rfl, rfl, HY, ho, he⟩ := hrel
    have hyl : yss.length ≤ 1048576 := by rw [HY.out, idR_length]; omega
    by_cases hlt : j < n
    · have hlt' : (j : Int) < (n : Int) := by omega
      have hsz := he.size_le
      have CU := Lib.hid (specUnitVector_ok n j wr hlt hn)
      obtain ⟨xs, hxs⟩ : ∃ xs, Hid (xs = unitV n j) := ⟨_, rfl⟩
      rw [← hxs.out] at CU
      have hxl : xs.length ≤ 40 := by rw [hxs.out, unitV_length]; exact hn
      go_wp2_with fail
      (with_reducible refine CU.out.mono ?_)
      rintro e w2 ⟨a2, c2, rfl, o2, e2⟩
      obtain ⟨zss, hzs⟩ : ∃ zss, Hid (zss = yss ++ [xs]) := ⟨_, rfl⟩
      have HT : Hid (zss = idR n (j + 1)) := by rw [idR_succ, ← HY.out, ← hxs.out]; exact hzs
      have O5 := (ho.ext e2).ext ((Ext.refl w2).alloc (.cells #[.slice a2 xs.length c2] 42))
      have R5 := ((OI.of o2).ext ((Ext.refl w2).alloc (.cells #[.slice a2 xs.length c2] 42))).mono (C := wr.heap.size) (C2 := (w2.alloc (.cells #[.slice a2 xs.length c2] 42)).heap.size) (Nat.le_refl _) (by simp)
      have E5 := (he.trans e2).alloc (.cells #[.slice a2 xs.length c2] 42)
      have hnew : Vals (w2.alloc (.cells #[.slice a2 xs.length c2] 42)) (some ⟨w2.heap.size, 0, none⟩) [.slice a2 xs.length c2] := Vals.new w2 [.slice a2 xs.length c2] 42
      have hob := ho.block
      have z2 := e2.size_le
      clear o2 e2 ho he CU
      go_wp2_with (at_builtin; refine wpList_appM _ rfl _ _ rfl w.heap.size wr.heap.size _ _ yss rfl O5 _ _ _ _ xs rfl hnew R5 hsz (by simp; omega) zss hzs.out (by omega) ?_)
      intro a5 c5 w5 o5 g5
      have e5 := E5.grown g5 (fun k hk => (hob k hk).1)
      clear g5 E5 O5 R5 hnew hob
      go_wp2_with fail
      go_roundw
      case rel => exact ⟨j + 1, a5, c5, zss, by omega, by go_num, rfl, HT, o5, e5⟩
      case measure => simp [intOf]; omega
    · obtain rfl : j = n := by omega
      go_wp2_with fail
      go_ret
      rw [← HY.out]
      exact ⟨a1, c1, rfl, ho, he⟩

theorem nsp_RM {k : Nat} {m : List (List Int)} (h : RM k m) (hk : k ≤ 40) (hm : 0 < m.length) (hl : m.length ≤ 40) : nsp m = nullTo m k k := by
  have hc : cols m = k := h.1.cols hm
  have hv : validM m = true := validM_true.2 ⟨by rw [hc]; exact h.1, hl⟩
  have hg := gj_red (k := k) hk h.1
  have he : rowRed m = m := by rw [rowRed_yes hv, hc]; exact hg.1.eq h (hg.2.2 (Nat.le_refl _)).symm
  unfold nsp
  rw [hv, he, hc]
  rfl

set_option maxHeartbeats 4000000 in
theorem specOrthogonalSpace_ok (n : Int) (a : Option Addr) (c : Nat) (m : List (List Int)) (w : World) (h : MatR w a m) (hl : m.length ≤ 1048576) (hr : ∀ xs ∈ m, xs.length ≤ 1048576) :
    Calls Try.prog 30 #[bsV n a c m] w (NewB w (orthW n m) (orthR n m)) := by
  have E : Ext w ((w.alloc (.cells #[.int .i64 n, .slice a m.length c] 30)).alloc (.cells #[.int .i64 0, .slice none 0 0] 30)) := ((Ext.refl w).alloc _).alloc _
  have Q := Lib.hid (specIsValidBasis_ok n a c m _ (h.ext E) hl hr)
  have HE := Lib.hid E
  have HRR := Lib.hid hr
  clear hr E
  cases q1 : validB n m
  · have HW : Hid (orthW n m = basisW 0) := by unfold orthW; rw [q1]; exact Lib.hid rfl
    have HR : Hid (orthR n m = []) := by unfold orthR; rw [q1]; exact Lib.hid rfl
    rw [q1] at Q
    go_enter Try.func30, Try.ntmps30
    go_wp2_with fail
    (with_reducible refine Q.out.mono ?_)
    rintro e w1 ⟨rfl, e1⟩
    have E1 := HE.out.trans e1
    go_wp2_with fail
    (with_reducible refine (specNewBasis0_ok _ _).mono ?_)
    rintro e w2 ⟨rfl, e2⟩
    have E2 := E1.trans e2
    obtain ⟨k1, f1⟩ := (e1.trans e2).look
    have z1 := (e1.trans e2).size_le
    simp at k1 f1 z1
    go_wp2_with fail
    refine bodyPost_ret (v := bsV (basisW 0) none 0 []) (by simp only [results, Try.results30]; go_simp) rfl ?_
    rw [HW.out, HR.out]
    exact ⟨none, 0, rfl, OM.nil _ _ _, (E2.setCell (by simp) _).setCell (by simp) _⟩
  obtain ⟨n0, n1, hRM, hm⟩ := validB_true.1 q1
  obtain ⟨k, rfl⟩ := Int.eq_ofNat_of_zero_le n0
  have HW : Hid (orthW (k : Int) m = basisW (k : Int)) := by unfold orthW basisW; rw [q1, inR_true.2 ⟨n0, n1⟩]; exact Lib.hid rfl
  have HR : Hid (orthR (k : Int) m = spanR (nullTo m k k) (k : Int)) := by unfold orthR; rw [q1]; exact Lib.hid rfl
  have HRM : Hid (RM k m) := by rw [show ((k : Int)).toNat = k by omega] at hRM; exact hRM
  have hk : k ≤ 40 := by omega
  obtain ⟨ns, hns⟩ : ∃ ns, Hid (ns = nullTo m k k) := ⟨_, rfl⟩
  have C1 : Hid (m.length = 0 → ∀ W, Calls Try.prog 77 #[.int .i64 (k : Nat)] W (NewM W ns)) := fun h0 W => by
    rw [hns.out, List.length_eq_zero_iff.1 h0, idR_null]
    exact specIdentity_ok k W hk
  have C2 : Hid (¬ m.length = 0 → ∀ W, Ext w W → Calls Try.prog 22 #[.slice a m.length c] W (NewM W ns)) := fun h0 W hW => by
    rw [hns.out, ← nsp_RM HRM.out hk (by omega) hm]
    exact specNullSpace_ok a c m W (h.ext hW) hl HRR.out
  have hnl : ns.length ≤ 40 := by rw [hns.out]; have := nullTo_len m k k; omega
  have HNR : Hid (∀ xs ∈ ns, xs.length ≤ 1048576) := fun xs hx => by rw [hns.out] at hx; have := (nullTo_VR hk xs hx).2; omega
  rw [← hns.out] at HR
  rw [q1] at Q
  clear q1 hRM
  have FIN : Hid (∀ (w1 w3 w4 : World) (a4 : Option Addr) (c4 : Nat), Ext w w1 → Ext w1 w3 → Ext w3 w4 → w.heap.size + 1 < w1.heap.size → OM w4 w3.heap.size w4.heap.size a4 c4 (spanR ns (k : Int)) → NewB w (orthW (k : Int) m) (orthR (k : Int) m) (.returned (bsV (basisW (k : Int)) a4 c4 (spanR ns (k : Int)))) ((w4.setCell ⟨w.heap.size + 1, 0, none⟩ (.int .i64 (basisW (k : Int)))).setCell ⟨w.heap.size + 1, 1, none⟩ (.slice a4 (spanR ns (k : Int)).length c4))) := by
    intro w1 w3 w4 a4 c4 E1 e3 e4 zres o4
    have E4 := ((E1.trans e3).trans e4)
    have z13 := (E1.trans e3).size_le
    rw [HW.out, HR.out]
    have z3 : w.heap.size + 1 < w3.heap.size := Nat.lt_of_lt_of_le zres e3.size_le
    refine ⟨a4, c4, rfl, (((o4.setCell (p := ⟨w.heap.size + 1, 0, none⟩) (by show w.heap.size + 1 < _; omega) _).setCell (p := ⟨w.heap.size + 1, 1, none⟩) (by show w.heap.size + 1 < _; omega) _).mono (by omega) (by simp)), ?_⟩
    exact (E4.setCell (p := ⟨w.heap.size + 1, 0, none⟩) (by show w.heap.size ≤ w.heap.size + 1; omega) _).setCell (p := ⟨w.heap.size + 1, 1, none⟩) (by show w.heap.size ≤ w.heap.size + 1; omega) _
  by_cases hz : m.length = 0
  · have hz' : ((m.length : Int) == 0) = true := by simp [hz]
    replace C1 := Lib.hid (C1.out hz)
    clear hz C2
    go_enter Try.func30, Try.ntmps30
    go_wp2_with fail
    (with_reducible refine Q.out.mono ?_)
    rintro e w1 ⟨rfl, e1⟩
    have E1 := HE.out.trans e1
    have c0 := e1.cell (p := ⟨w.heap.size, 0, none⟩) (v := .int .i64 (k : Nat)) (by simp)
    have c1 := e1.cell (p := ⟨w.heap.size, 1, none⟩) (v := .slice a m.length c) (by simp)
    have r0 := e1.cell (p := ⟨w.heap.size + 1, 0, none⟩) (v := .int .i64 0) (by simp)
    have r1 := e1.cell (p := ⟨w.heap.size + 1, 1, none⟩) (v := .slice none 0 0) (by simp)
    have zres : w.heap.size + 1 < w1.heap.size := World.block_lt_of_cell? _ _ r0
    have f0 : w1.frozen? ⟨w.heap.size + 1, 0, none⟩ = false := (e1.look.2 (w.heap.size + 1) 0 (by simp)).trans (by simp)
    have f1 : w1.frozen? ⟨w.heap.size + 1, 1, none⟩ = false := (e1.look.2 (w.heap.size + 1) 1 (by simp)).trans (by simp)
    clear e1 Q HE
    go_wp2_with fail
    go_region_held3 (fun w' => w'.cell? ⟨w.heap.size, 0, none⟩ = some (.int .i64 (k : Nat)))
      (first | exact e3.cell c0 | exact e4.cell (e3.cell c0) | exact S4.out | go_keep)
      (first
        | (go_at_call 77; (with_reducible refine (C1.out _).mono ?_); rintro e w3 ⟨a3, c3, rfl, o3, e3'⟩; have e3 : Ext w1 w3 := (Ext.refl w1).drew.trans e3')
        | (go_at_call 24; (with_reducible refine (specSpanOf_ok _ _ ns _ _ o3.reads (by omega) HNR.out).mono ?_); rintro e w4 ⟨a4, c4, rfl, o4, e4⟩; have x0 := (e3.trans e4).cell r0; have x1 := (e3.trans e4).cell r1; have y0 := ((e3.trans e4).look.2 (w.heap.size + 1) 0 zres).trans f0; have y1 := ((e3.trans e4).look.2 (w.heap.size + 1) 1 zres).trans f1; have S4 : Hid (((w4.setCell ⟨w.heap.size + 1, 0, none⟩ (.int .i64 (basisW (k : Int)))).setCell ⟨w.heap.size + 1, 1, none⟩ (.slice a4 (spanR ns (k : Int)).length c4)).cell? ⟨w.heap.size, 0, none⟩ = some (.int .i64 (k : Nat))) := (World.cell?_setCell_other _ _ _ _ (by simp)).trans ((World.cell?_setCell_other _ _ _ _ (by simp)).trans (e4.cell (e3.cell c0)))))
    have HF := Lib.hid (FIN.out w1 w3 w4 a4 c4 E1 e3 e4 zres o4)
    obtain ⟨zs, hzs⟩ : ∃ zs, Hid (zs = spanR ns (k : Int)) := ⟨_, rfl⟩
    rw [← hzs.out] at HF ⊢
    clear E1 e3 e4 o3 o4 C1 S4 c0 c1 e3' FIN
    go_wp2_with fail
    refine bodyPost_ret (v := bsV (basisW (k : Int)) a4 c4 zs) (by simp only [results, Try.results30]; go_simp) rfl ?_
    exact HF.out
  · have hz' : ((m.length : Int) == 0) = false := not_eq_of (by omega)
    replace C2 := Lib.hid (C2.out hz)
    clear hz C1
    go_enter Try.func30, Try.ntmps30
    go_wp2_with fail
    (with_reducible refine Q.out.mono ?_)
    rintro e w1 ⟨rfl, e1⟩
    have E1 := HE.out.trans e1
    have c0 := e1.cell (p := ⟨w.heap.size, 0, none⟩) (v := .int .i64 (k : Nat)) (by simp)
    have c1 := e1.cell (p := ⟨w.heap.size, 1, none⟩) (v := .slice a m.length c) (by simp)
    have r0 := e1.cell (p := ⟨w.heap.size + 1, 0, none⟩) (v := .int .i64 0) (by simp)
    have r1 := e1.cell (p := ⟨w.heap.size + 1, 1, none⟩) (v := .slice none 0 0) (by simp)
    have zres : w.heap.size + 1 < w1.heap.size := World.block_lt_of_cell? _ _ r0
    have f0 : w1.frozen? ⟨w.heap.size + 1, 0, none⟩ = false := (e1.look.2 (w.heap.size + 1) 0 (by simp)).trans (by simp)
    have f1 : w1.frozen? ⟨w.heap.size + 1, 1, none⟩ = false := (e1.look.2 (w.heap.size + 1) 1 (by simp)).trans (by simp)
    clear e1 Q HE
    go_wp2_with fail
    go_region_held3 (fun w' => w'.cell? ⟨w.heap.size, 0, none⟩ = some (.int .i64 (k : Nat)) ∧ w'.cell? ⟨w.heap.size, 1, none⟩ = some (.slice a m.length c))
      (first | exact ⟨(e3.cell c0), (e3.cell c1)⟩ | exact ⟨e4.cell (e3.cell c0), e4.cell (e3.cell c1)⟩ | exact ⟨S4.out.1, S4.out.2⟩ | go_keep)
      (first
        | (go_at_call 22; (with_reducible refine (C2.out _ E1.drew).mono ?_); rintro e w3 ⟨a3, c3, rfl, o3, e3'⟩; have e3 : Ext w1 w3 := (Ext.refl w1).drew.trans e3')
        | (go_at_call 24; (with_reducible refine (specSpanOf_ok _ _ ns _ _ o3.reads (by omega) HNR.out).mono ?_); rintro e w4 ⟨a4, c4, rfl, o4, e4⟩; have x0 := (e3.trans e4).cell r0; have x1 := (e3.trans e4).cell r1; have y0 := ((e3.trans e4).look.2 (w.heap.size + 1) 0 zres).trans f0; have y1 := ((e3.trans e4).look.2 (w.heap.size + 1) 1 zres).trans f1; have S4 : Hid ((((w4.setCell ⟨w.heap.size + 1, 0, none⟩ (.int .i64 (basisW (k : Int)))).setCell ⟨w.heap.size + 1, 1, none⟩ (.slice a4 (spanR ns (k : Int)).length c4)).cell? ⟨w.heap.size, 0, none⟩ = some (.int .i64 (k : Nat))) ∧ (((w4.setCell ⟨w.heap.size + 1, 0, none⟩ (.int .i64 (basisW (k : Int)))).setCell ⟨w.heap.size + 1, 1, none⟩ (.slice a4 (spanR ns (k : Int)).length c4)).cell? ⟨w.heap.size, 1, none⟩ = some (.slice a m.length c))) := ⟨(World.cell?_setCell_other _ _ _ _ (by simp)).trans ((World.cell?_setCell_other _ _ _ _ (by simp)).trans (e4.cell (e3.cell c0))), (World.cell?_setCell_other _ _ _ _ (by simp)).trans ((World.cell?_setCell_other _ _ _ _ (by simp)).trans (e4.cell (e3.cell c1)))⟩))
    have HF := Lib.hid (FIN.out w1 w3 w4 a4 c4 E1 e3 e4 zres o4)
    obtain ⟨zs, hzs⟩ : ∃ zs, Hid (zs = spanR ns (k : Int)) := ⟨_, rfl⟩
    rw [← hzs.out] at HF ⊢
    clear E1 e3 e4 o3 o4 C2 S4 c0 c1 e3' FIN
    go_wp2_with fail
    refine bodyPost_ret (v := bsV (basisW (k : Int)) a4 c4 zs) (by simp only [results, Try.results30]; go_simp) rfl ?_
    exact HF.out

theorem orthR_tot (n : Int) (m : List (List Int)) : (orthR n m).length ≤ 1048576 ∧ tot (orthR n m) ≤ 1048576 := by
  unfold orthR
  split
  · exact spanR_tot _ _
  · simp [tot]

set_option maxHeartbeats 4000000 in
set_option maxRecDepth 100000 in
theorem lawOrthogonalSpace (n0 : Int) (a0 : Option Addr) (c0 : Nat) (xss0 : List (List Int)) (w : World) (r0_0 : MatR w a0 xss0) (m0_0 : xss0.length ≤ maxLen) (m0_1 : ∀ xs ∈ xss0, xs.length ≤ maxLen) :
    Calls Try.prog 6 #[bsV n0 a0 c0 xss0] w (Gives w (.bool true)) := by
  replace m0_1 := Lib.hid m0_1
  by_cases hs0 : szM xss0 1048576 < 0
  · skip
    go_enter Try.func6, Try.ntmps6
    go_wp2_with fail
    refine (szBasis_ok _ _ _ _ _ _ (r0_0.ext ((Ext.refl w).alloc _)) m0_0 m0_1.out (by omega) (by omega)).mono ?_
    rintro e w1 ⟨rfl, e1⟩
    have E := ((Ext.refl w).alloc _).trans e1
    have z0 := e1.size_le
    simp at z0
    have p0_0 := e1.cell (p := ⟨w.heap.size, 0, none⟩) (v := .int .i64 n0) (by simp)
    have p0_1 := e1.cell (p := ⟨w.heap.size, 1, none⟩) (v := .slice a0 xss0.length c0) (by simp)
    go_wp2_with fail
    go_ret
    exact ⟨rfl, E⟩
  obtain ⟨hle0, heq0⟩ := szM_le (Int.not_lt.1 hs0)
  have hl0 : xss0.length ≤ 1048576 := by omega
  have hr0 : Hid (∀ xs ∈ xss0, xs.length ≤ 1048576) := fun xs hx => by have := rows_le hx; omega
  have ht0 : tot xss0 ≤ 1099511627776 := by omega
  have hu0 : tot xss0 ≤ 1048576 := by omega
  have hf0 : szM xss0 1048576 ≤ 1048576 := by omega
  have hg0 : 0 ≤ szM xss0 1048576 := by omega
  replace heq0 := Lib.hid heq0
  have hres : (orthR n0 xss0).length ≤ 1048576 ∧ tot (orthR n0 xss0) ≤ 1048576 := (orthR_tot n0 xss0)
  have hrr : Hid (∀ xs ∈ (orthR n0 xss0), xs.length ≤ 1048576) := fun xs hx => by have := rows_le hx; omega
  obtain ⟨hres1, hres2⟩ := hres
  go_enter Try.func6, Try.ntmps6
  go_wp2_with fail
  refine (szBasis_ok _ _ _ _ _ _ (r0_0.ext ((Ext.refl w).alloc _)) m0_0 m0_1.out (by omega) (by omega)).mono ?_
  rintro e w1 ⟨rfl, e1⟩
  have E := ((Ext.refl w).alloc _).trans e1
  have z0 := e1.size_le
  simp at z0
  have p0_0 := e1.cell (p := ⟨w.heap.size, 0, none⟩) (v := .int .i64 n0) (by simp)
  have p0_1 := e1.cell (p := ⟨w.heap.size, 1, none⟩) (v := .slice a0 xss0.length c0) (by simp)
  go_wp2_with fail
  refine (toBasis_ok _ _ _ _ _ (r0_0.ext (E)) hl0 hr0.out).mono ?_
  rintro e w2 ⟨t2a, t2c, rfl, t2o, e2⟩
  have z2 := e2.size_le
  replace p0_0 := e2.cell p0_0
  replace p0_1 := e2.cell p0_1
  replace E := E.trans e2
  clear e2
  go_wp2_with fail
  refine (specOrthogonalSpace_ok _ _ _ _ _ (t2o.reads) hl0 hr0.out).mono ?_
  rintro e w3 ⟨u0a, u0c, rfl, u0o, e3⟩
  have z3 := e3.size_le
  replace p0_0 := e3.cell p0_0
  replace p0_1 := e3.cell p0_1
  replace t2o := t2o.ext e3
  replace E := E.trans e3
  clear e3
  have y_p0_0 := ((Ext.refl w3).alloc (.cells #[.int .i64 (orthW n0 xss0), .slice u0a (orthR n0 xss0).length u0c] 30)).cell p0_0
  have y_p0_1 := ((Ext.refl w3).alloc (.cells #[.int .i64 (orthW n0 xss0), .slice u0a (orthR n0 xss0).length u0c] 30)).cell p0_1
  go_wp2_with fail
  refine (toBasis_ok _ _ _ _ _ (r0_0.ext (E.alloc _)) hl0 hr0.out).mono ?_
  clear y_p0_0 y_p0_1
  rintro e w4 ⟨t4a, t4c, rfl, t4o, e4⟩
  have z4 := e4.size_le
  simp at z4
  replace p0_0 := (((Ext.refl w3).alloc _).trans e4).cell p0_0
  replace p0_1 := (((Ext.refl w3).alloc _).trans e4).cell p0_1
  replace u0o := u0o.ext (((Ext.refl w3).alloc _).trans e4)
  have w0_0 := e4.cell (p := ⟨w3.heap.size, 0, none⟩) (v := .int .i64 (orthW n0 xss0)) (by simp)
  have w0_1 := e4.cell (p := ⟨w3.heap.size, 1, none⟩) (v := .slice u0a (orthR n0 xss0).length u0c) (by simp)
  replace E := (E.alloc _).trans e4
  clear e4
  replace t4o := t4o.mono (C := w3.heap.size + 1) (C2 := w4.heap.size) (by simp) (Nat.le_refl _)
  have y_p0_0 := ((Ext.refl w4).alloc (.cells #[.int .i64 n0, .slice t4a xss0.length t4c] 30)).cell p0_0
  have y_p0_1 := ((Ext.refl w4).alloc (.cells #[.int .i64 n0, .slice t4a xss0.length t4c] 30)).cell p0_1
  have y_w0_0 := ((Ext.refl w4).alloc (.cells #[.int .i64 n0, .slice t4a xss0.length t4c] 30)).cell w0_0
  have y_w0_1 := ((Ext.refl w4).alloc (.cells #[.int .i64 n0, .slice t4a xss0.length t4c] 30)).cell w0_1
  go_wp2_with fail
  refine (implOrthogonalSpace_ok _ _ _ _ _ ((t4o.reads).ext ((Ext.refl _).alloc _)) hl0 hr0.out).mono ?_
  clear y_p0_0 y_p0_1 y_w0_0 y_w0_1
  rintro e w5 ⟨u1a, u1c, rfl, u1o, e5⟩
  have z5 := e5.size_le
  simp at z5
  replace p0_0 := (((Ext.refl w4).alloc _).trans e5).cell p0_0
  replace p0_1 := (((Ext.refl w4).alloc _).trans e5).cell p0_1
  replace w0_0 := (((Ext.refl w4).alloc _).trans e5).cell w0_0
  replace w0_1 := (((Ext.refl w4).alloc _).trans e5).cell w0_1
  replace u0o := u0o.ext (((Ext.refl w4).alloc _).trans e5)
  replace t4o := t4o.ext (((Ext.refl w4).alloc _).trans e5)
  have x0_0 := e5.cell (p := ⟨w4.heap.size, 0, none⟩) (v := .int .i64 n0) (by simp)
  have x0_1 := e5.cell (p := ⟨w4.heap.size, 1, none⟩) (v := .slice t4a xss0.length t4c) (by simp)
  replace E := (E.alloc _).trans e5
  clear e5
  replace u1o := u1o.mono (C := w4.heap.size + 1) (C2 := w5.heap.size) (by simp) (Nat.le_refl _)
  have qself := eqB_self (orthW n0 xss0) (orthR n0 xss0)
  have y_p0_0 := ((Ext.refl w5).alloc (.cells #[.int .i64 (orthW n0 xss0), .slice u1a (orthR n0 xss0).length u1c] 30)).cell p0_0
  have y_p0_1 := ((Ext.refl w5).alloc (.cells #[.int .i64 (orthW n0 xss0), .slice u1a (orthR n0 xss0).length u1c] 30)).cell p0_1
  have y_w0_0 := ((Ext.refl w5).alloc (.cells #[.int .i64 (orthW n0 xss0), .slice u1a (orthR n0 xss0).length u1c] 30)).cell w0_0
  have y_w0_1 := ((Ext.refl w5).alloc (.cells #[.int .i64 (orthW n0 xss0), .slice u1a (orthR n0 xss0).length u1c] 30)).cell w0_1
  have y_x0_0 := ((Ext.refl w5).alloc (.cells #[.int .i64 (orthW n0 xss0), .slice u1a (orthR n0 xss0).length u1c] 30)).cell x0_0
  have y_x0_1 := ((Ext.refl w5).alloc (.cells #[.int .i64 (orthW n0 xss0), .slice u1a (orthR n0 xss0).length u1c] 30)).cell x0_1
  go_wp2_with fail
  refine (eqBasis_ok _ _ _ _ _ _ _ _ _ ((u1o.reads).ext ((Ext.refl _).alloc _)) ((u0o.reads).ext ((Ext.refl _).alloc _)) hres1 hrr.out).mono ?_
  clear y_p0_0 y_p0_1 y_w0_0 y_w0_1 y_x0_0 y_x0_1
  rintro e w6 ⟨rfl, e6⟩
  have z6 := e6.size_le
  simp at z6
  replace p0_0 := (((Ext.refl w5).alloc _).trans e6).cell p0_0
  replace p0_1 := (((Ext.refl w5).alloc _).trans e6).cell p0_1
  replace w0_0 := (((Ext.refl w5).alloc _).trans e6).cell w0_0
  replace w0_1 := (((Ext.refl w5).alloc _).trans e6).cell w0_1
  replace x0_0 := (((Ext.refl w5).alloc _).trans e6).cell x0_0
  replace x0_1 := (((Ext.refl w5).alloc _).trans e6).cell x0_1
  replace u0o := u0o.ext (((Ext.refl w5).alloc _).trans e6)
  replace t4o := t4o.ext (((Ext.refl w5).alloc _).trans e6)
  replace u1o := u1o.ext (((Ext.refl w5).alloc _).trans e6)
  have g0_0 := e6.cell (p := ⟨w5.heap.size, 0, none⟩) (v := .int .i64 (orthW n0 xss0)) (by simp)
  have g0_1 := e6.cell (p := ⟨w5.heap.size, 1, none⟩) (v := .slice u1a (orthR n0 xss0).length u1c) (by simp)
  replace E := (E.alloc _).trans e6
  clear e6
  have qe0 := eqB_self n0 xss0
  go_wp2_with fail
  go_region_held3 (fun w' => w'.cell? ⟨w.heap.size, 0, none⟩ = some (.int .i64 n0) ∧ w'.cell? ⟨w.heap.size, 1, none⟩ = some (.slice a0 xss0.length c0) ∧ w'.cell? ⟨w3.heap.size, 0, none⟩ = some (.int .i64 (orthW n0 xss0)) ∧ w'.cell? ⟨w3.heap.size, 1, none⟩ = some (.slice u0a (orthR n0 xss0).length u0c) ∧ w'.cell? ⟨w4.heap.size, 0, none⟩ = some (.int .i64 n0) ∧ w'.cell? ⟨w4.heap.size, 1, none⟩ = some (.slice t4a xss0.length t4c) ∧ w'.cell? ⟨w5.heap.size, 0, none⟩ = some (.int .i64 (orthW n0 xss0)) ∧ w'.cell? ⟨w5.heap.size, 1, none⟩ = some (.slice u1a (orthR n0 xss0).length u1c))
    (first | go_keep | exact ⟨(e8).cell ((e7).cell (p0_0)), (e8).cell ((e7).cell (p0_1)), (e8).cell ((e7).cell (w0_0)), (e8).cell ((e7).cell (w0_1)), (e8).cell ((e7).cell (x0_0)), (e8).cell ((e7).cell (x0_1)), (e8).cell ((e7).cell (g0_0)), (e8).cell ((e7).cell (g0_1))⟩ | exact ⟨(e7).cell (p0_0), (e7).cell (p0_1), (e7).cell (w0_0), (e7).cell (w0_1), (e7).cell (x0_0), (e7).cell (x0_1), (e7).cell (g0_0), (e7).cell (g0_1)⟩)
    (first | (go_at_call 31; (with_reducible refine (toBasis_ok _ _ _ _ _ (r0_0.ext (E.trans ((Ext.refl w6).drew))) hl0 hr0.out).mono ?_); rintro e w7 ⟨t7a, t7c, rfl, t7o, e7⟩) | (go_at_call 26; (with_reducible refine (eqBasis_ok _ _ _ _ _ _ _ _ _ ((t4o.reads).ext (((Ext.refl w6).drew).trans e7)) (t7o.reads) hl0 hr0.out).mono ?_); rintro e w8 ⟨rfl, e8⟩))
  have z7 := (((Ext.refl w6).drew.trans e7)).size_le
  have z8 := (e8).size_le
  replace p0_0 := (e8).cell ((e7).cell (p0_0))
  replace p0_1 := (e8).cell ((e7).cell (p0_1))
  replace w0_0 := (e8).cell ((e7).cell (w0_0))
  replace w0_1 := (e8).cell ((e7).cell (w0_1))
  replace x0_0 := (e8).cell ((e7).cell (x0_0))
  replace x0_1 := (e8).cell ((e7).cell (x0_1))
  replace g0_0 := (e8).cell ((e7).cell (g0_0))
  replace g0_1 := (e8).cell ((e7).cell (g0_1))
  replace u0o := u0o.ext ((((Ext.refl w6).drew).trans e7).trans e8)
  replace t4o := t4o.ext ((((Ext.refl w6).drew).trans e7).trans e8)
  replace u1o := u1o.ext ((((Ext.refl w6).drew).trans e7).trans e8)
  replace E := E.trans ((((Ext.refl w6).drew).trans e7).trans e8)
  go_wp2_with fail
  refine (markBasis_ok _ _ _ _ _ _ _ _ t4o (by omega) (by omega) ht0 (by omega) (by omega)).mono ?_
  rintro e w9 ⟨rfl, t4o', s9⟩
  have z9 := s9.size
  replace p0_0 := s9.cell p0_0 (by show w.heap.size < _ ∨ _ ≤ w.heap.size; omega)
  replace p0_1 := s9.cell p0_1 (by show w.heap.size < _ ∨ _ ≤ w.heap.size; omega)
  replace w0_0 := s9.cell w0_0 (by show w3.heap.size < _ ∨ _ ≤ w3.heap.size; omega)
  replace w0_1 := s9.cell w0_1 (by show w3.heap.size < _ ∨ _ ≤ w3.heap.size; omega)
  replace x0_0 := s9.cell x0_0 (by show w4.heap.size < _ ∨ _ ≤ w4.heap.size; omega)
  replace x0_1 := s9.cell x0_1 (by show w4.heap.size < _ ∨ _ ≤ w4.heap.size; omega)
  replace g0_0 := s9.cell g0_0 (by show w5.heap.size < _ ∨ _ ≤ w5.heap.size; omega)
  replace g0_1 := s9.cell g0_1 (by show w5.heap.size < _ ∨ _ ≤ w5.heap.size; omega)
  replace u0o := u0o.span s9 (by omega)
  replace u1o := u1o.span s9 (by omega)
  replace E := Span.ext E s9 (by omega)
  clear s9 t4o
  have t4o := t4o'
  clear t4o'
  go_wp2_with fail
  refine (eqBasis_ok _ _ _ _ _ _ _ _ _ (u1o.reads) (u0o.reads) hres1 hrr.out).mono ?_
  rintro e w10 ⟨rfl, e10⟩
  have z10 := e10.size_le
  replace p0_0 := e10.cell p0_0
  replace p0_1 := e10.cell p0_1
  replace w0_0 := e10.cell w0_0
  replace w0_1 := e10.cell w0_1
  replace x0_0 := e10.cell x0_0
  replace x0_1 := e10.cell x0_1
  replace g0_0 := e10.cell g0_0
  replace g0_1 := e10.cell g0_1
  replace u0o := u0o.ext e10
  replace u1o := u1o.ext e10
  replace E := E.trans e10
  clear e10
  go_wp2_with fail
  refine (markBasis_ok _ _ _ _ _ _ _ _ u1o (by omega) (by omega) (Nat.le_trans hres2 (by omega)) (by omega) (by omega)).mono ?_
  rintro e w11 ⟨rfl, u1o', s11⟩
  have z11 := s11.size
  replace p0_0 := s11.cell p0_0 (by show w.heap.size < _ ∨ _ ≤ w.heap.size; omega)
  replace p0_1 := s11.cell p0_1 (by show w.heap.size < _ ∨ _ ≤ w.heap.size; omega)
  replace w0_0 := s11.cell w0_0 (by show w3.heap.size < _ ∨ _ ≤ w3.heap.size; omega)
  replace w0_1 := s11.cell w0_1 (by show w3.heap.size < _ ∨ _ ≤ w3.heap.size; omega)
  replace x0_0 := s11.cell x0_0 (by show w4.heap.size < _ ∨ _ ≤ w4.heap.size; omega)
  replace x0_1 := s11.cell x0_1 (by show w4.heap.size < _ ∨ _ ≤ w4.heap.size; omega)
  replace g0_0 := s11.cell g0_0 (by show w5.heap.size < _ ∨ _ ≤ w5.heap.size; omega)
  replace g0_1 := s11.cell g0_1 (by show w5.heap.size < _ ∨ _ ≤ w5.heap.size; omega)
  replace u0o := u0o.span s11 (by omega)
  replace E := Span.ext E s11 (by omega)
  clear s11 u1o
  have u1o := u1o'
  clear u1o'
  go_wp2_with fail
  refine (heldBasis_ok _ _ _ _ _ _ (u1o.reads) (by omega) (Nat.le_trans hres2 (by omega)) (by omega) (by omega)).mono ?_
  rintro e w12 ⟨rfl, e12⟩
  have z12 := e12.size_le
  replace p0_0 := e12.cell p0_0
  replace p0_1 := e12.cell p0_1
  replace w0_0 := e12.cell w0_0
  replace w0_1 := e12.cell w0_1
  replace x0_0 := e12.cell x0_0
  replace x0_1 := e12.cell x0_1
  replace g0_0 := e12.cell g0_0
  replace g0_1 := e12.cell g0_1
  replace u0o := u0o.ext e12
  replace u1o := u1o.ext e12
  replace E := E.trans e12
  clear e12
  go_wp2_with fail
  refine (toBasis_ok _ _ _ _ _ (r0_0.ext (E)) hl0 hr0.out).mono ?_
  rintro e w13 ⟨t13a, t13c, rfl, t13o, e13⟩
  have z13 := e13.size_le
  replace p0_0 := e13.cell p0_0
  replace p0_1 := e13.cell p0_1
  replace w0_0 := e13.cell w0_0
  replace w0_1 := e13.cell w0_1
  replace x0_0 := e13.cell x0_0
  replace x0_1 := e13.cell x0_1
  replace g0_0 := e13.cell g0_0
  replace g0_1 := e13.cell g0_1
  replace u0o := u0o.ext e13
  replace u1o := u1o.ext e13
  replace E := E.trans e13
  clear e13
  go_wp2_with fail
  refine (implOrthogonalSpace_ok _ _ _ _ _ (t13o.reads) hl0 hr0.out).mono ?_
  rintro e w14 ⟨u2a, u2c, rfl, u2o, e14⟩
  have z14 := e14.size_le
  replace p0_0 := e14.cell p0_0
  replace p0_1 := e14.cell p0_1
  replace w0_0 := e14.cell w0_0
  replace w0_1 := e14.cell w0_1
  replace x0_0 := e14.cell x0_0
  replace x0_1 := e14.cell x0_1
  replace g0_0 := e14.cell g0_0
  replace g0_1 := e14.cell g0_1
  replace u0o := u0o.ext e14
  replace u1o := u1o.ext e14
  replace t13o := t13o.ext e14
  replace E := E.trans e14
  clear e14
  have y_p0_0 := ((Ext.refl w14).alloc (.cells #[.int .i64 (orthW n0 xss0), .slice u2a (orthR n0 xss0).length u2c] 30)).cell p0_0
  have y_p0_1 := ((Ext.refl w14).alloc (.cells #[.int .i64 (orthW n0 xss0), .slice u2a (orthR n0 xss0).length u2c] 30)).cell p0_1
  have y_w0_0 := ((Ext.refl w14).alloc (.cells #[.int .i64 (orthW n0 xss0), .slice u2a (orthR n0 xss0).length u2c] 30)).cell w0_0
  have y_w0_1 := ((Ext.refl w14).alloc (.cells #[.int .i64 (orthW n0 xss0), .slice u2a (orthR n0 xss0).length u2c] 30)).cell w0_1
  have y_x0_0 := ((Ext.refl w14).alloc (.cells #[.int .i64 (orthW n0 xss0), .slice u2a (orthR n0 xss0).length u2c] 30)).cell x0_0
  have y_x0_1 := ((Ext.refl w14).alloc (.cells #[.int .i64 (orthW n0 xss0), .slice u2a (orthR n0 xss0).length u2c] 30)).cell x0_1
  have y_g0_0 := ((Ext.refl w14).alloc (.cells #[.int .i64 (orthW n0 xss0), .slice u2a (orthR n0 xss0).length u2c] 30)).cell g0_0
  have y_g0_1 := ((Ext.refl w14).alloc (.cells #[.int .i64 (orthW n0 xss0), .slice u2a (orthR n0 xss0).length u2c] 30)).cell g0_1
  go_wp2_with fail
  refine (eqBasis_ok _ _ _ _ _ _ _ _ _ ((u2o.reads).ext ((Ext.refl _).alloc _)) ((u0o.reads).ext ((Ext.refl _).alloc _)) hres1 hrr.out).mono ?_
  clear y_p0_0 y_p0_1 y_w0_0 y_w0_1 y_x0_0 y_x0_1 y_g0_0 y_g0_1
  rintro e w15 ⟨rfl, e15⟩
  have z15 := e15.size_le
  simp at z15
  replace p0_0 := (((Ext.refl w14).alloc _).trans e15).cell p0_0
  replace p0_1 := (((Ext.refl w14).alloc _).trans e15).cell p0_1
  replace w0_0 := (((Ext.refl w14).alloc _).trans e15).cell w0_0
  replace w0_1 := (((Ext.refl w14).alloc _).trans e15).cell w0_1
  replace x0_0 := (((Ext.refl w14).alloc _).trans e15).cell x0_0
  replace x0_1 := (((Ext.refl w14).alloc _).trans e15).cell x0_1
  replace g0_0 := (((Ext.refl w14).alloc _).trans e15).cell g0_0
  replace g0_1 := (((Ext.refl w14).alloc _).trans e15).cell g0_1
  replace u0o := u0o.ext (((Ext.refl w14).alloc _).trans e15)
  replace u1o := u1o.ext (((Ext.refl w14).alloc _).trans e15)
  replace u2o := u2o.ext (((Ext.refl w14).alloc _).trans e15)
  have h0_0 := e15.cell (p := ⟨w14.heap.size, 0, none⟩) (v := .int .i64 (orthW n0 xss0)) (by simp)
  have h0_1 := e15.cell (p := ⟨w14.heap.size, 1, none⟩) (v := .slice u2a (orthR n0 xss0).length u2c) (by simp)
  replace E := (E.alloc _).trans e15
  clear e15
  go_wp2_with fail
  refine (heldBasis_ok _ _ _ _ _ _ (u1o.reads) (by omega) (Nat.le_trans hres2 (by omega)) (by omega) (by omega)).mono ?_
  rintro e w16 ⟨rfl, e16⟩
  have z16 := e16.size_le
  replace p0_0 := e16.cell p0_0
  replace p0_1 := e16.cell p0_1
  replace w0_0 := e16.cell w0_0
  replace w0_1 := e16.cell w0_1
  replace x0_0 := e16.cell x0_0
  replace x0_1 := e16.cell x0_1
  replace g0_0 := e16.cell g0_0
  replace g0_1 := e16.cell g0_1
  replace h0_0 := e16.cell h0_0
  replace h0_1 := e16.cell h0_1
  replace u0o := u0o.ext e16
  replace u1o := u1o.ext e16
  replace u2o := u2o.ext e16
  replace E := E.trans e16
  clear e16
  go_wp2_with fail
  go_ret
  exact ⟨rfl, E⟩

end Go.Proofs.Ytjcgnpnnhejfhaa
