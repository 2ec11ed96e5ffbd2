/- RandomBasis: contracts and law. -/
import Derived.Test.YtjcgnpnnhejfhaaLawSpan
namespace Go.Proofs.Ytjcgnpnnhejfhaa
open Go.RowKit
set_option linter.unusedVariables false
set_option maxRecDepth 20000

/-- The first k vectors of a random basis. -/
def rbS (s n : Int) (k : Nat) : List (List Int) := (List.range k).map fun (i : Nat) => rvec (wrap64 (s + ((i : Int) + 1))) n
theorem rbS_length (s n : Int) (k : Nat) : (rbS s n k).length = k := by simp [rbS]
theorem rbS_succ (s n : Int) (k : Nat) : rbS s n (k + 1) = rbS s n k ++ [rvec (wrap64 (s + ((k : Int) + 1))) n] := by simp [rbS, List.range_succ]
theorem rbS_get {s n : Int} {k K : Nat} (h : k < K) : (rbS s n K)[k]? = some (rvec (wrap64 (s + ((k : Int) + 1))) n) := by simp [rbS, h]
theorem rvec_ok {s : Int} {n : Nat} (h : inR (n : Int) 1 40 = true) : AllEl (rvec s n) ∧ (rvec s n).length = n := by
  unfold rvec
  rw [h]
  simp only [if_true]
  rw [orUnit_length, rvTo_length]
  refine ⟨fun x hx => ?_, by omega⟩
  have base : ∀ x ∈ rvTo s ((n : Int)).toNat, inR x 0 1018 = true := fun x hx => by
    unfold rvTo at hx
    obtain ⟨i, _, rfl⟩ := List.mem_map.1 hx
    have h1 := (rnum_range s i 1019).1
    have h2 := rnum_lt s i 1019 (by omega) (by omega)
    exact inR_true.2 (by omega)
  unfold orUnit at hx
  split at hx
  · rcases List.mem_or_eq_of_mem_set hx with hx | rfl
    · exact base x hx
    · rfl
  · exact base x hx
/-- How many vectors. -/
def rbK (t : Int) : Nat := (if (40 : Int) < t then 40 else t).toNat
theorem rbK_le (t : Int) : rbK t ≤ 40 := by unfold rbK; split <;> omega
def rbW (n : Int) : Int := if inR n 1 40 then n else 0
def rbB (s n t : Int) : List (List Int) := if inR n 1 40 then spanR (rbS s n (rbK t)) n else []
theorem rbB_tot (s n t : Int) : (rbB s n t).length ≤ 1048576 ∧ tot (rbB s n t) ≤ 1048576 := by
  unfold rbB
  split
  · exact spanR_tot _ _
  · simp [tot]

theorem specMin_ok (x y : Int) (w : World) : Calls Try.prog 102 #[.int .i64 x, .int .i64 y] w fun e w' => e = .returned (.int .i64 (if y < x then y else x)) ∧ w = w' := by
  by_cases h : y < x
  · have HV : Hid ((if y < x then y else x) = y) := if_pos h
    go_enter Try.func102, Try.ntmps102
    go_wp2_with fail
    go_ret
    first | exact ⟨rfl, rfl⟩ | (rw [HV.out]; exact ⟨rfl, rfl⟩)
  · have HV : Hid ((if y < x then y else x) = x) := if_neg h
    go_enter Try.func102, Try.ntmps102
    go_wp2_with fail
    go_ret
    first | exact ⟨rfl, rfl⟩ | (rw [HV.out]; exact ⟨rfl, rfl⟩)

set_option maxHeartbeats 4000000 in
theorem implRandomBasis_ok (s n t : Int) (w : World) : Calls Try.prog 34 #[.int .i64 s, .int .i64 n, .int .i64 t] w (NewB w (rbW n) (rbB s n t)) := by
  cases h1 : inR n 1 40
  · have HB : Hid (rbW n = basisW 0) := by unfold rbW; rw [h1]; exact Lib.hid rfl
    have HS : Hid (rbB s n t = []) := by unfold rbB; rw [h1]; exact Lib.hid rfl
    go_enter Try.func34, Try.ntmps34
    go_wp2_with (go_at_call 96; (with_reducible refine (implInRange_ok _ _ _ _).mono ?_); rintro e w' ⟨rfl, rfl⟩; rw [h1])
    (with_reducible refine (implNewBasis0_ok _ _).mono ?_)
    rintro e w1 ⟨rfl, e1⟩
    have E1 := ((Ext.refl w).alloc (.cells #[.int .i64 0, .slice none 0 0] 30)).trans e1
    obtain ⟨k1, f1⟩ := e1.look
    have z1 := e1.size_le
    simp at k1 f1 z1
    go_wp2_with fail
    refine bodyPost_ret (v := bsV (basisW 0) none 0 []) (by simp only [results, Try.results34]; go_simp) rfl ?_
    rw [HB.out, HS.out]
    exact ⟨none, 0, rfl, OM.nil _ _ _, (E1.setCell (by simp) _).setCell (by simp) _⟩
  obtain ⟨n0, n1⟩ := inR_true.1 h1
  obtain ⟨m, rfl⟩ := Int.eq_ofNat_of_zero_le (show 0 ≤ n by omega)
  have h2 : inR (m : Int) 0 40 = true := inR_true.2 (by omega)
  have HB : Hid (rbW (m : Int) = (m : Int)) := by unfold rbW; rw [h1]; exact Lib.hid rfl
  have HS : Hid (rbB s (m : Int) t = spanTo (rbS s (m : Int) (rbK t)) m (rbK t)) := by unfold rbB; rw [h1]; simp only [if_true]; rw [spanR_yes h2, rbS_length]; exact Lib.hid rfl
  have hm : m ≤ 40 := by omega
  have hK := rbK_le t
  have HK : Hid (rbK t = (if (40 : Int) < t then 40 else t).toNat) := Lib.hid rfl
  obtain ⟨K, hKK⟩ : ∃ K, Hid (K = rbK t) := ⟨_, rfl⟩
  rw [← hKK.out] at HS hK HK
  obtain ⟨vs, hvs⟩ : ∃ vs, Hid (vs = rbS s (m : Int) K) := ⟨_, rfl⟩
  rw [← hvs.out] at HS
  have HSP := Lib.hid (spanTo_RM (vs := vs) hm)
  have CB := implNewBasis0_ok (m : Int) (w.alloc (.cells #[.int .i64 0, .slice none 0 0] 30))
  rw [show basisW (m : Int) = (m : Int) by unfold basisW; rw [h2]; rfl] at CB
  have HCB := Lib.hid CB
  clear CB
  go_enter Try.func34, Try.ntmps34
  go_wp2_with (go_at_call 96; (with_reducible refine (implInRange_ok _ _ _ _).mono ?_); rintro e w' ⟨rfl, rfl⟩; rw [h1])
  (with_reducible refine HCB.out.mono ?_)
  rintro e w1 ⟨rfl, e1⟩
  have E1 := ((Ext.refl w).alloc (.cells #[.int .i64 0, .slice none 0 0] 30)).trans e1
  have r0 := e1.cell (p := ⟨w.heap.size, 0, none⟩) (v := .int .i64 0) (by simp)
  have r1 := e1.cell (p := ⟨w.heap.size, 1, none⟩) (v := .slice none 0 0) (by simp)
  have zres : w.heap.size < w1.heap.size := World.block_lt_of_cell? _ _ r0
  have f0 : w1.frozen? ⟨w.heap.size, 0, none⟩ = false := (e1.look.2 w.heap.size 0 (by simp)).trans (by simp)
  have f1 : w1.frozen? ⟨w.heap.size, 1, none⟩ = false := (e1.look.2 w.heap.size 1 (by simp)).trans (by simp)
  have B0 : BasisAt w1 w1.heap.size (m : Nat) (spanTo vs m 0) (w1.alloc (.cells #[.int .i64 (m : Nat), .slice none 0 0] 30)) :=
    ⟨none, 0, (Ext.refl w1).alloc _, Nat.le_refl _, by simp, by simp [spanTo], by simp, OM.nil _ _ _⟩
  clear e1 HCB
  go_wp2_with fail
  go_loopw [8] (fun i wr => ∃ k : Nat, k ≤ K ∧ i = .int .i64 ((k : Int) + 1) ∧ BasisAt w1 w1.heap.size (m : Nat) (spanTo vs m k) wr) (fun i _ => K + 1 - (intOf i).toNat)
  case atStart => exact ⟨0, Nat.zero_le _, rfl, B0⟩
  case round =>
    clear B0
    obtain ⟨k, hk, rfl, hB⟩ := hrel
    have he : Ext w1 wr := by obtain ⟨_, _, h, _⟩ := hB; exact h
    have hrl := (HSP.out k).2
    by_cases hlt : k < K
    · have hx := rbS_get (s := s) (n := (m : Int)) hlt
      rw [← hvs.out] at hx
      obtain ⟨xs, hxs⟩ : ∃ xs, Hid (xs = rvec (wrap64 (s + ((k : Int) + 1))) m) := ⟨_, rfl⟩
      have hxv := rvec_ok (s := wrap64 (s + ((k : Int) + 1))) h1
      have CV : Hid (∀ W, Calls Try.prog 45 #[.int .i64 (wrap64 (s + ((k : Int) + 1))), .int .i64 (m : Int)] W (NewI W xs)) := fun W => by rw [hxs.out]; exact implRandomVector_ok _ _ W
      rw [← hxs.out] at hx hxv
      have HKS := Lib.hid (spanTo_yes hx (validV_true.2 ⟨hxv.1, by omega⟩) hxv.2)
      have HX := Lib.hid hxv
      obtain ⟨bb, hbb⟩ : ∃ bb, Hid (bb = decide (ld (redV (spanTo vs m k) xs) < m)) := ⟨_, rfl⟩
      have CC : Hid (∀ W ra rc, BasisAt w1 w1.heap.size (m : Nat) (spanTo vs m k) W → Vals W ra (I xs) → Calls Try.prog 99 #[.pointer (some ⟨w1.heap.size, 0, none⟩), .slice ra xs.length rc] W (fun e w' => e = .returned (.bool bb) ∧ BasisAt w1 w1.heap.size (m : Nat) (spanTo vs m (k + 1)) w')) := fun W ra rc hW hV => by
        rw [HKS.out, hbb.out]
        exact insert_ok w1 w1.heap.size (m : Nat) (spanTo vs m k) ra rc xs m W hW hV (HSP.out k).1 HX.out.1 HX.out.2 hm (by omega)
      have hA : (k : Int) + 1 ≤ 40 := by omega
      have hC : (k : Int) + 1 ≤ t := by have := HK.out; split at this <;> omega
      clear hx hxv
      by_cases h40 : (40 : Int) < t
      all_goals (
        go_wp2_with fail
        (with_reducible refine (CV.out _).mono ?_)
        rintro e w2 ⟨a2, c2, rfl, o2, e2⟩
        go_wp2_with fail
        (with_reducible refine (CC.out _ _ _ (hB.ext e2) o2.vals).mono ?_)
        rintro e w3 ⟨rfl, B3⟩
        clear CC CV o2 e2 hB
        go_wp2_with fail
        go_roundw
        case rel => exact ⟨k + 1, by omega, by go_num, B3⟩
        case measure => simp [intOf]; omega)
    · obtain rfl : k = K := by omega
      have hA : Hid (¬ (k : Int) + 1 ≤ (if (40 : Int) < t then 40 else t)) := by have := HK.out; exact Lib.hid (by omega)
      obtain ⟨a2, c2, q1, q2, q3, q4, q5, q6⟩ := hB
      rw [← HS.out] at q4 q6
      replace r0 := q1.cell r0
      replace r1 := q1.cell r1
      have E2 := E1.trans q1
      have zz := World.block_lt_of_cell? _ _ q3
      have zw := E1.size_le
      have g0 : wr.frozen? ⟨w.heap.size, 0, none⟩ = false := (q1.look.2 w.heap.size 0 zres).trans f0
      have g1 : wr.frozen? ⟨w.heap.size, 1, none⟩ = false := (q1.look.2 w.heap.size 1 zres).trans f1
      obtain ⟨zs, hzs⟩ : ∃ zs, Hid (zs = rbB s (m : Int) t) := ⟨_, rfl⟩
      rw [← hzs.out] at q4 q6 ⊢
      have HF : Hid (∀ W : World, W = (wr.setCell ⟨w.heap.size, 0, none⟩ (.int .i64 (m : Nat))).setCell ⟨w.heap.size, 1, none⟩ (.slice a2 zs.length c2) → NewB w (rbW (m : Int)) zs (.returned (bsV (m : Int) a2 c2 zs)) W) := fun W hW => by
        subst hW
        rw [HB.out]
        refine ⟨a2, c2, rfl, (((q6.setCell (p := ⟨w.heap.size, 0, none⟩) (by show w.heap.size < _; omega) _).setCell (p := ⟨w.heap.size, 1, none⟩) (by show w.heap.size < _; omega) _).mono (by omega) (by simp)), ?_⟩
        exact (E2.setCell (p := ⟨w.heap.size, 0, none⟩) (Nat.le_refl _) _).setCell (p := ⟨w.heap.size, 1, none⟩) (Nat.le_refl _) _
      clear q1 q6 E1 E2
      by_cases h40 : (40 : Int) < t
      · have hC : ¬ (k : Int) + 1 ≤ 40 := by have := hA.out; rwa [if_pos h40] at this
        go_wp2_with fail
        refine bodyPost_ret (v := bsV (m : Int) a2 c2 zs) (by simp only [results, Try.results34]; go_simp) rfl ?_
        rw [← hzs.out]
        exact HF.out _ rfl
      · have hC : ¬ (k : Int) + 1 ≤ t := by have := hA.out; rwa [if_neg h40] at this
        go_wp2_with fail
        refine bodyPost_ret (v := bsV (m : Int) a2 c2 zs) (by simp only [results, Try.results34]; go_simp) rfl ?_
        rw [← hzs.out]
        exact HF.out _ rfl

set_option maxHeartbeats 4000000 in
theorem specRandomBasis_ok (s n t : Int) (w : World) : Calls Try.prog 33 #[.int .i64 s, .int .i64 n, .int .i64 t] w (NewB w (rbW n) (rbB s n t)) := by
  cases h1 : inR n 1 40
  · have HB : Hid (rbW n = basisW 0) := by unfold rbW; rw [h1]; exact Lib.hid rfl
    have HS : Hid (rbB s n t = []) := by unfold rbB; rw [h1]; exact Lib.hid rfl
    go_enter Try.func33, Try.ntmps33
    go_wp2_with (go_at_call 94; (with_reducible refine (specInRange_ok _ _ _ _).mono ?_); rintro e w' ⟨rfl, rfl⟩; rw [h1])
    (with_reducible refine (specNewBasis0_ok _ _).mono ?_)
    rintro e w1 ⟨rfl, e1⟩
    have E1 := ((Ext.refl w).alloc (.cells #[.int .i64 0, .slice none 0 0] 30)).trans e1
    obtain ⟨k1, f1⟩ := e1.look
    have z1 := e1.size_le
    simp at k1 f1 z1
    go_wp2_with fail
    refine bodyPost_ret (v := bsV (basisW 0) none 0 []) (by simp only [results, Try.results33]; go_simp) rfl ?_
    rw [HB.out, HS.out]
    exact ⟨none, 0, rfl, OM.nil _ _ _, (E1.setCell (by simp) _).setCell (by simp) _⟩
  have HB : Hid (rbW n = basisW n) := by
    have h2 : inR n 0 40 = true := inR_true.2 (by have := inR_true.1 h1; omega)
    unfold rbW basisW; rw [h1, h2]; exact Lib.hid rfl
  have HS : Hid (rbB s n t = spanR (rbS s n (rbK t)) n) := by unfold rbB; rw [h1]; exact Lib.hid rfl
  obtain ⟨mt, hmt⟩ : ∃ mt, Hid (mt = if (40 : Int) < t then 40 else t) := ⟨_, rfl⟩
  obtain ⟨K, hKK⟩ : ∃ K, Hid (K = rbK t) := ⟨_, rfl⟩
  have hK := rbK_le t
  have HK : Hid (rbK t = mt.toNat) := by rw [hmt.out]; exact Lib.hid rfl
  rw [← hKK.out] at HS hK HK
  have CM : Hid (∀ W, Calls Try.prog 102 #[.int .i64 t, .int .i64 40] W fun e w' => e = .returned (.int .i64 mt) ∧ W = w') := fun W => by rw [hmt.out]; exact specMin_ok t 40 W
  have X0 := (Ext.refl w).alloc (.cells #[.int .i64 0, .slice none 0 0] 30)
  have zx := X0.size_le
  obtain ⟨wx, hwx⟩ : ∃ wx, Hid (wx = w.alloc (.cells #[.int .i64 0, .slice none 0 0] 30)) := ⟨_, rfl⟩
  have r0 : wx.cell? ⟨w.heap.size, 0, none⟩ = some (.int .i64 0) := by rw [hwx.out]; simp
  have r1 : wx.cell? ⟨w.heap.size, 1, none⟩ = some (.slice none 0 0) := by rw [hwx.out]; simp
  have f0 : wx.frozen? ⟨w.heap.size, 0, none⟩ = false := by rw [hwx.out]; simp
  have f1 : wx.frozen? ⟨w.heap.size, 1, none⟩ = false := by rw [hwx.out]; simp
  have zres : w.heap.size < wx.heap.size := World.block_lt_of_cell? _ _ r0
  rw [← hwx.out] at X0 zx
  have HSX : Hid (w.heap.size + 1 = wx.heap.size) := by rw [hwx.out]; exact Lib.hid (by simp)
  have o0 : OM (wx.alloc (.cells #[] 42)) wx.heap.size (wx.alloc (.cells #[] 42)).heap.size (some ⟨w.heap.size + 1, 0, none⟩) 0 [] := by rw [HSX.out]; exact OM.new0 wx
  have e0 := (Ext.refl wx).alloc (.cells #[] 42)
  go_enter Try.func33, Try.ntmps33
  go_wp2_with (go_at_call 94; (with_reducible refine (specInRange_ok _ _ _ _).mono ?_); rintro e w' ⟨rfl, rfl⟩; rw [h1])
  rw [← hwx.out]
  go_loopw [7, 8] (fun v i wr => ∃ (k : Nat) (a1 : Option Addr) (c1 : Nat) (yss : List (List Int)), k ≤ K ∧ i = .int .i64 ((k : Int) + 1) ∧ v = .slice a1 yss.length c1 ∧ Hid (yss = rbS s n k) ∧ OM wr wx.heap.size wr.heap.size a1 c1 yss ∧ Ext wx wr) (fun _ i _ => K + 1 - (intOf i).toNat)
  case atStart => exact ⟨0, _, _, [], Nat.zero_le _, rfl, rfl, rfl, o0, e0⟩
  case round =>
    clear o0 e0
    obtain ⟨k, a1, c1, yss, hk, rfl, rfl, HY, ho, he⟩ := hrel
    have hyl : yss.length ≤ 40 := by rw [HY.out, rbS_length]; omega
    by_cases hlt : k < K
    · have hlt' : (k : Int) + 1 ≤ mt := by have := HK.out; omega
      have hsz := he.size_le
      obtain ⟨xs, hxs⟩ : ∃ xs, Hid (xs = rvec (wrap64 (s + ((k : Int) + 1))) n) := ⟨_, rfl⟩
      have CV : Hid (∀ W, Calls Try.prog 103 #[.int .i64 (wrap64 (s + ((k : Int) + 1))), .int .i64 n] W (NewI W xs)) := fun W => by rw [hxs.out]; exact specRandomVector_ok _ _ W
      have hxl : xs.length ≤ 40 := by rw [hxs.out]; exact rvec_len _ _
      go_wp2_with (go_at_call 102; (with_reducible refine (CM.out _).mono ?_); rintro e w' ⟨rfl, rfl⟩)
      (with_reducible refine (CV.out _).mono ?_)
      rintro e w2 ⟨a2, c2, rfl, o2, e2⟩
      obtain ⟨zss, hzs⟩ : ∃ zss, Hid (zss = yss ++ [xs]) := ⟨_, rfl⟩
      have HT : Hid (zss = rbS s n (k + 1)) := by rw [rbS_succ, ← HY.out, ← hxs.out]; exact hzs
      have O5 := (ho.ext e2).ext ((Ext.refl w2).alloc (.cells #[.slice a2 xs.length c2] 42))
      have R5 := ((OI.of o2).ext ((Ext.refl w2).alloc (.cells #[.slice a2 xs.length c2] 42))).mono (C := wr.heap.size) (C2 := (w2.alloc (.cells #[.slice a2 xs.length c2] 42)).heap.size) (Nat.le_refl _) (by simp)
      have E5 := (he.trans e2).alloc (.cells #[.slice a2 xs.length c2] 42)
      have hnew : Vals (w2.alloc (.cells #[.slice a2 xs.length c2] 42)) (some ⟨w2.heap.size, 0, none⟩) [.slice a2 xs.length c2] := Vals.new w2 [.slice a2 xs.length c2] 42
      have hob := ho.block
      have z2 := e2.size_le
      clear o2 e2 ho he CV
      go_wp2_with (at_builtin; refine wpList_appM _ rfl _ _ rfl wx.heap.size wr.heap.size _ _ yss rfl O5 _ _ _ _ xs rfl hnew R5 hsz (by simp; omega) zss hzs.out (by omega) ?_)
      intro a5 c5 w5 o5 g5
      have e5 := E5.grown g5 (fun k hk => (hob k hk).1)
      clear g5 E5 O5 R5 hnew hob
      go_wp2_with fail
      go_roundw
      case rel => exact ⟨k + 1, a5, c5, zss, by omega, by go_num, rfl, HT, o5, e5⟩
      case measure => simp [intOf]; omega
    · obtain rfl : k = K := by omega
      have hlt' : ¬ (k : Int) + 1 ≤ mt := by have := HK.out; omega
      have CS := specSpanOf_ok a1 c1 yss n wr ho.reads (by omega) (fun xs hx => by
        rw [HY.out] at hx
        unfold rbS at hx
        obtain ⟨i, _, rfl⟩ := List.mem_map.1 hx
        have := rvec_len (wrap64 (s + ((i : Int) + 1))) n
        omega)
      rw [HY.out, ← HS.out, ← HB.out, ← HY.out] at CS
      have HCS := Lib.hid CS
      clear CS
      go_wp2_with (go_at_call 102; (with_reducible refine (CM.out _).mono ?_); rintro e w' ⟨rfl, rfl⟩)
      (with_reducible refine HCS.out.mono ?_)
      rintro e w4 ⟨a4, c4, rfl, o4, e4⟩
      have E4 := he.trans e4
      replace r0 := E4.cell r0
      replace r1 := E4.cell r1
      have g0 : w4.frozen? ⟨w.heap.size, 0, none⟩ = false := (E4.look.2 w.heap.size 0 zres).trans f0
      have g1 : w4.frozen? ⟨w.heap.size, 1, none⟩ = false := (E4.look.2 w.heap.size 1 zres).trans f1
      have z3 := he.size_le
      have z4 := e4.size_le
      obtain ⟨zs, hzs⟩ : ∃ zs, Hid (zs = rbB s n t) := ⟨_, rfl⟩
      rw [← hzs.out] at o4 ⊢
      have HF : Hid (∀ W : World, W = (w4.setCell ⟨w.heap.size, 0, none⟩ (.int .i64 (rbW n))).setCell ⟨w.heap.size, 1, none⟩ (.slice a4 zs.length c4) → NewB w (rbW n) zs (.returned (bsV (rbW n) a4 c4 zs)) W) := fun W hW => by
        subst hW
        refine ⟨a4, c4, rfl, (((o4.setCell (p := ⟨w.heap.size, 0, none⟩) (by show w.heap.size < _; omega) _).setCell (p := ⟨w.heap.size, 1, none⟩) (by show w.heap.size < _; omega) _).mono (by omega) (by simp)), ?_⟩
        exact ((X0.trans E4).setCell (p := ⟨w.heap.size, 0, none⟩) (Nat.le_refl _) _).setCell (p := ⟨w.heap.size, 1, none⟩) (Nat.le_refl _) _
      clear E4 e4 he X0 o4 ho HCS
      go_wp2_with fail
      refine bodyPost_ret (v := bsV (rbW n) a4 c4 zs) (by simp only [results, Try.results33]; go_simp) rfl ?_
      rw [← hzs.out]
      exact HF.out _ rfl

set_option maxHeartbeats 4000000 in
set_option maxRecDepth 100000 in
theorem lawRandomBasis (n0 : Int) (n1 : Int) (n2 : Int) (w : World) :
    Calls Try.prog 7 #[.int .i64 n0, .int .i64 n1, .int .i64 n2] w (Gives w (.bool true)) := by
  have hres : (rbB n0 n1 n2).length ≤ 1048576 ∧ tot (rbB n0 n1 n2) ≤ 1048576 := (rbB_tot n0 n1 n2)
  have hrr : Hid (∀ xs ∈ (rbB n0 n1 n2), xs.length ≤ 1048576) := fun xs hx => by have := rows_le hx; omega
  obtain ⟨hres1, hres2⟩ := hres
  go_enter Try.func7, Try.ntmps7
  go_wp2_with fail
  refine (specRandomBasis_ok _ _ _ _).mono ?_
  rintro e w1 ⟨u0a, u0c, rfl, u0o, e1⟩
  have E := (Ext.refl w).trans e1
  have z0 := e1.size_le
  go_wp2_with fail
  refine (implRandomBasis_ok _ _ _ _).mono ?_
  rintro e w2 ⟨u1a, u1c, rfl, u1o, e2⟩
  have z2 := e2.size_le
  simp at z2
  replace u0o := u0o.ext (((Ext.refl w1).alloc _).trans e2)
  have w0_0 := e2.cell (p := ⟨w1.heap.size, 0, none⟩) (v := .int .i64 (rbW n1)) (by simp)
  have w0_1 := e2.cell (p := ⟨w1.heap.size, 1, none⟩) (v := .slice u0a (rbB n0 n1 n2).length u0c) (by simp)
  replace E := (E.alloc _).trans e2
  clear e2
  replace u1o := u1o.mono (C := w1.heap.size + 1) (C2 := w2.heap.size) (by simp) (Nat.le_refl _)
  have qself := eqB_self (rbW n1) (rbB n0 n1 n2)
  have y_w0_0 := ((Ext.refl w2).alloc (.cells #[.int .i64 (rbW n1), .slice u1a (rbB n0 n1 n2).length u1c] 30)).cell w0_0
  have y_w0_1 := ((Ext.refl w2).alloc (.cells #[.int .i64 (rbW n1), .slice u1a (rbB n0 n1 n2).length u1c] 30)).cell w0_1
  go_wp2_with fail
  refine (eqBasis_ok _ _ _ _ _ _ _ _ _ ((u1o.reads).ext ((Ext.refl _).alloc _)) ((u0o.reads).ext ((Ext.refl _).alloc _)) hres1 hrr.out).mono ?_
  clear y_w0_0 y_w0_1
  rintro e w3 ⟨rfl, e3⟩
  have z3 := e3.size_le
  simp at z3
  replace w0_0 := (((Ext.refl w2).alloc _).trans e3).cell w0_0
  replace w0_1 := (((Ext.refl w2).alloc _).trans e3).cell w0_1
  replace u0o := u0o.ext (((Ext.refl w2).alloc _).trans e3)
  replace u1o := u1o.ext (((Ext.refl w2).alloc _).trans e3)
  have g0_0 := e3.cell (p := ⟨w2.heap.size, 0, none⟩) (v := .int .i64 (rbW n1)) (by simp)
  have g0_1 := e3.cell (p := ⟨w2.heap.size, 1, none⟩) (v := .slice u1a (rbB n0 n1 n2).length u1c) (by simp)
  replace E := (E.alloc _).trans e3
  clear e3
  go_wp2_with fail
  refine (markBasis_ok _ _ _ _ _ _ _ _ u1o (by omega) (by omega) (Nat.le_trans hres2 (by omega)) (by omega) (by omega)).mono ?_
  rintro e w4 ⟨rfl, u1o', s4⟩
  have z4 := s4.size
  replace w0_0 := s4.cell w0_0 (by show w1.heap.size < _ ∨ _ ≤ w1.heap.size; omega)
  replace w0_1 := s4.cell w0_1 (by show w1.heap.size < _ ∨ _ ≤ w1.heap.size; omega)
  replace g0_0 := s4.cell g0_0 (by show w2.heap.size < _ ∨ _ ≤ w2.heap.size; omega)
  replace g0_1 := s4.cell g0_1 (by show w2.heap.size < _ ∨ _ ≤ w2.heap.size; omega)
  replace u0o := u0o.span s4 (by omega)
  replace E := Span.ext E s4 (by omega)
  clear s4 u1o
  have u1o := u1o'
  clear u1o'
  go_wp2_with fail
  refine (heldBasis_ok _ _ _ _ _ _ (u1o.reads) (by omega) (Nat.le_trans hres2 (by omega)) (by omega) (by omega)).mono ?_
  rintro e w5 ⟨rfl, e5⟩
  have z5 := e5.size_le
  replace w0_0 := e5.cell w0_0
  replace w0_1 := e5.cell w0_1
  replace g0_0 := e5.cell g0_0
  replace g0_1 := e5.cell g0_1
  replace u0o := u0o.ext e5
  replace u1o := u1o.ext e5
  replace E := E.trans e5
  clear e5
  go_wp2_with fail
  refine (implRandomBasis_ok _ _ _ _).mono ?_
  rintro e w6 ⟨u2a, u2c, rfl, u2o, e6⟩
  have z6 := e6.size_le
  replace w0_0 := e6.cell w0_0
  replace w0_1 := e6.cell w0_1
  replace g0_0 := e6.cell g0_0
  replace g0_1 := e6.cell g0_1
  replace u0o := u0o.ext e6
  replace u1o := u1o.ext e6
  replace E := E.trans e6
  clear e6
  have y_w0_0 := ((Ext.refl w6).alloc (.cells #[.int .i64 (rbW n1), .slice u2a (rbB n0 n1 n2).length u2c] 30)).cell w0_0
  have y_w0_1 := ((Ext.refl w6).alloc (.cells #[.int .i64 (rbW n1), .slice u2a (rbB n0 n1 n2).length u2c] 30)).cell w0_1
  have y_g0_0 := ((Ext.refl w6).alloc (.cells #[.int .i64 (rbW n1), .slice u2a (rbB n0 n1 n2).length u2c] 30)).cell g0_0
  have y_g0_1 := ((Ext.refl w6).alloc (.cells #[.int .i64 (rbW n1), .slice u2a (rbB n0 n1 n2).length u2c] 30)).cell g0_1
  go_wp2_with fail
  refine (eqBasis_ok _ _ _ _ _ _ _ _ _ ((u2o.reads).ext ((Ext.refl _).alloc _)) ((u0o.reads).ext ((Ext.refl _).alloc _)) hres1 hrr.out).mono ?_
  clear y_w0_0 y_w0_1 y_g0_0 y_g0_1
  rintro e w7 ⟨rfl, e7⟩
  have z7 := e7.size_le
  simp at z7
  replace w0_0 := (((Ext.refl w6).alloc _).trans e7).cell w0_0
  replace w0_1 := (((Ext.refl w6).alloc _).trans e7).cell w0_1
  replace g0_0 := (((Ext.refl w6).alloc _).trans e7).cell g0_0
  replace g0_1 := (((Ext.refl w6).alloc _).trans e7).cell g0_1
  replace u0o := u0o.ext (((Ext.refl w6).alloc _).trans e7)
  replace u1o := u1o.ext (((Ext.refl w6).alloc _).trans e7)
  replace u2o := u2o.ext (((Ext.refl w6).alloc _).trans e7)
  have h0_0 := e7.cell (p := ⟨w6.heap.size, 0, none⟩) (v := .int .i64 (rbW n1)) (by simp)
  have h0_1 := e7.cell (p := ⟨w6.heap.size, 1, none⟩) (v := .slice u2a (rbB n0 n1 n2).length u2c) (by simp)
  replace E := (E.alloc _).trans e7
  clear e7
  go_wp2_with fail
  refine (heldBasis_ok _ _ _ _ _ _ (u1o.reads) (by omega) (Nat.le_trans hres2 (by omega)) (by omega) (by omega)).mono ?_
  rintro e w8 ⟨rfl, e8⟩
  have z8 := e8.size_le
  replace w0_0 := e8.cell w0_0
  replace w0_1 := e8.cell w0_1
  replace g0_0 := e8.cell g0_0
  replace g0_1 := e8.cell g0_1
  replace h0_0 := e8.cell h0_0
  replace h0_1 := e8.cell h0_1
  replace u0o := u0o.ext e8
  replace u1o := u1o.ext e8
  replace u2o := u2o.ext e8
  replace E := E.trans e8
  clear e8
  go_wp2_with fail
  go_ret
  exact ⟨rfl, E⟩

end Go.Proofs.Ytjcgnpnnhejfhaa
