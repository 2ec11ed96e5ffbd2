/- RandomBasis: contracts and law. -/
import Derived.Test.YtninamlcffemoaaLawSpan
namespace Go.Proofs.Ytninamlcffemoaa
open Go.RowKit
set_option linter.unusedVariables false
set_option maxRecDepth 20000

/-- The first k vectors of a random basis. -/
def rbS (s n : Int) (k : Nat) : List (List Int) := (List.range k).map fun (i : Nat) => rvec (wrap64 (s + ((i : Int) + 1))) n
theorem rbS_length (s n : Int) (k : Nat) : (rbS s n k).length = k := by simp [rbS]
theorem rbS_succ (s n : Int) (k : Nat) : rbS s n (k + 1) = rbS s n k ++ [rvec (wrap64 (s + ((k : Int) + 1))) n] := by simp [rbS, List.range_succ]
theorem rbS_get {s n : Int} {k K : Nat} (h : k < K) : (rbS s n K)[k]? = some (rvec (wrap64 (s + ((k : Int) + 1))) n) := by simp [rbS, h]
theorem rvec_ok {s : Int} {n : Nat} (h : inR (n : Int) 1 40 = true) : AllEl (rvec s n) ∧ (rvec s n).length = n := by
  unfold rvec
  rw [h]
  simp only [if_true]
  rw [orUnit_length, rvTo_length]
  refine ⟨fun x hx => ?_, by omega⟩
  have base : ∀ x ∈ rvTo s ((n : Int)).toNat, inR x 0 1018 = true := fun x hx => by
    unfold rvTo at hx
    obtain ⟨i, _, rfl⟩ := List.mem_map.1 hx
    have h1 := (rnum_range s i 1019).1
    have h2 := rnum_lt s i 1019 (by omega) (by omega)
    exact inR_true.2 (by omega)
  unfold orUnit at hx
  split at hx
  · rcases List.mem_or_eq_of_mem_set hx with hx | rfl
    · exact base x hx
    · rfl
  · exact base x hx
/-- How many vectors. -/
def rbK (t : Int) : Nat := (if (40 : Int) < t then 40 else t).toNat
theorem rbK_le (t : Int) : rbK t ≤ 40 := by unfold rbK; split <;> omega
def rbW (n : Int) : Int := if inR n 1 40 then n else 0
def rbB (s n t : Int) : List (List Int) := if inR n 1 40 then spanR (rbS s n (rbK t)) n else []
theorem rbB_tot (s n t : Int) : (rbB s n t).length ≤ 1048576 ∧ tot (rbB s n t) ≤ 1048576 := by
  unfold rbB
  split
  · exact spanR_tot _ _
  · simp [tot]

set_option maxHeartbeats 4000000 in
theorem implRandomBasis_ok (s n t : Int) (w : World) : Calls Try.prog 71 #[.int .i64 s, .int .i64 n, .int .i64 t] w (NewB w (rbW n) (rbB s n t)) := by
  cases h1 : inR n 1 40
  · have HB : Hid (rbW n = basisW 0) := by unfold rbW; rw [h1]; exact Lib.hid rfl
    have HS : Hid (rbB s n t = []) := by unfold rbB; rw [h1]; exact Lib.hid rfl
    go_enter Try.func71, Try.ntmps71
    go_wp2_with (go_at_call 119; (with_reducible refine (implInRange_ok _ _ _ _).mono ?_); rintro e w' ⟨rfl, rfl⟩; rw [h1])
    (with_reducible refine (implNewBasis0_ok _ _).mono ?_)
    rintro e w1 ⟨rfl, e1⟩
    have E1 := ((Ext.refl w).alloc (.cells #[.int .i64 0, .slice none 0 0] 46)).trans e1
    obtain ⟨k1, f1⟩ := e1.look
    have z1 := e1.size_le
    simp at k1 f1 z1
    go_wp2_with fail
    refine bodyPost_ret (v := bsV (basisW 0) none 0 []) (by simp only [results, Try.results71]; go_simp) rfl ?_
    rw [HB.out, HS.out]
    exact ⟨none, 0, rfl, OM.nil _ _ _, (E1.setCell (by simp) _).setCell (by simp) _⟩
  obtain ⟨n0, n1⟩ := inR_true.1 h1
  obtain ⟨m, rfl⟩ := Int.eq_ofNat_of_zero_le (show 0 ≤ n by omega)
  have h2 : inR (m : Int) 0 40 = true := inR_true.2 (by omega)
  have HB : Hid (rbW (m : Int) = (m : Int)) := by unfold rbW; rw [h1]; exact Lib.hid rfl
  have HS : Hid (rbB s (m : Int) t = spanTo (rbS s (m : Int) (rbK t)) m (rbK t)) := by unfold rbB; rw [h1]; simp only [if_true]; rw [spanR_yes h2, rbS_length]; exact Lib.hid rfl
  have hm : m ≤ 40 := by omega
  have hK := rbK_le t
  have HK : Hid (rbK t = (if (40 : Int) < t then 40 else t).toNat) := Lib.hid rfl
  obtain ⟨K, hKK⟩ : ∃ K, Hid (K = rbK t) := ⟨_, rfl⟩
  rw [← hKK.out] at HS hK HK
  obtain ⟨vs, hvs⟩ : ∃ vs, Hid (vs = rbS s (m : Int) K) := ⟨_, rfl⟩
  rw [← hvs.out] at HS
  have HSP := Lib.hid (spanTo_RM (vs := vs) hm)
  have CB := implNewBasis0_ok (m : Int) (w.alloc (.cells #[.int .i64 0, .slice none 0 0] 46))
  rw [show basisW (m : Int) = (m : Int) by unfold basisW; rw [h2]; rfl] at CB
  have HCB := Lib.hid CB
  clear CB
  go_enter Try.func71, Try.ntmps71
  go_wp2_with (go_at_call 119; (with_reducible refine (implInRange_ok _ _ _ _).mono ?_); rintro e w' ⟨rfl, rfl⟩; rw [h1])
  (with_reducible refine HCB.out.mono ?_)
  rintro e w1 ⟨rfl, e1⟩
  have E1 := ((Ext.refl w).alloc (.cells #[.int .i64 0, .slice none 0 0] 46)).trans e1
  have r0 := e1.cell (p := ⟨w.heap.size, 0, none⟩) (v := .int .i64 0) (by simp)
  have r1 := e1.cell (p := ⟨w.heap.size, 1, none⟩) (v := .slice none 0 0) (by simp)
  have zres : w.heap.size < w1.heap.size := World.block_lt_of_cell? _ _ r0
  have f0 : w1.frozen? ⟨w.heap.size, 0, none⟩ = false := (e1.look.2 w.heap.size 0 (by simp)).trans (by simp)
  have f1 : w1.frozen? ⟨w.heap.size, 1, none⟩ = false := (e1.look.2 w.heap.size 1 (by simp)).trans (by simp)
  have B0 : BasisAt w1 w1.heap.size (m : Nat) (spanTo vs m 0) (w1.alloc (.cells #[.int .i64 (m : Nat), .slice none 0 0] 46)) :=
    ⟨none, 0, (Ext.refl w1).alloc _, Nat.le_refl _, by simp, by simp [spanTo], by simp, OM.nil _ _ _⟩
  clear e1 HCB
  go_wp2_with fail
  go_loopw [8] (fun i wr => ∃ k : Nat, k ≤ K ∧ i = .int .i64 ((k : Int) + 1) ∧ BasisAt w1 w1.heap.size (m : Nat) (spanTo vs m k) wr) (fun i _ => K + 1 - (intOf i).toNat)
  case atStart => exact ⟨0, Nat.zero_le _, rfl, B0⟩
  case round =>
    clear B0
    obtain ⟨k, hk, rfl, hB⟩ := hrel
    have he : Ext w1 wr := by obtain ⟨_, _, h, _⟩ := hB; exact h
    have hrl := (HSP.out k).2
    by_cases hlt : k < K
    · have hx := rbS_get (s := s) (n := (m : Int)) hlt
      rw [← hvs.out] at hx
      obtain ⟨xs, hxs⟩ : ∃ xs, Hid (xs = rvec (wrap64 (s + ((k : Int) + 1))) m) := ⟨_, rfl⟩
      have hxv := rvec_ok (s := wrap64 (s + ((k : Int) + 1))) h1
      have CV : Hid (∀ W, Calls Try.prog 67 #[.int .i64 (wrap64 (s + ((k : Int) + 1))), .int .i64 (m : Int)] W (NewI W xs)) := fun W => by rw [hxs.out]; exact implRandomVector_ok _ _ W
      rw [← hxs.out] at hx hxv
      have HKS := Lib.hid (spanTo_yes hx (validV_true.2 ⟨hxv.1, by omega⟩) hxv.2)
      have HX := Lib.hid hxv
      obtain ⟨bb, hbb⟩ : ∃ bb, Hid (bb = decide (ld (redV (spanTo vs m k) xs) < m)) := ⟨_, rfl⟩
      have CC : Hid (∀ W ra rc, BasisAt w1 w1.heap.size (m : Nat) (spanTo vs m k) W → Vals W ra (I xs) → Calls Try.prog 98 #[.pointer (some ⟨w1.heap.size, 0, none⟩), .slice ra xs.length rc] W (fun e w' => e = .returned (.bool bb) ∧ BasisAt w1 w1.heap.size (m : Nat) (spanTo vs m (k + 1)) w')) := fun W ra rc hW hV => by
        rw [HKS.out, hbb.out]
        exact insert_ok w1 w1.heap.size (m : Nat) (spanTo vs m k) ra rc xs m W hW hV (HSP.out k).1 HX.out.1 HX.out.2 hm (by omega)
      have hA : (k : Int) + 1 ≤ 40 := by omega
      have hC : (k : Int) + 1 ≤ t := by have := HK.out; split at this <;> omega
      clear hx hxv
      by_cases h40 : (40 : Int) < t
      all_goals (
        go_wp2_with fail
        (with_reducible refine (CV.out _).mono ?_)
        rintro e w2 ⟨a2, c2, rfl, o2, e2⟩
        go_wp2_with fail
        (with_reducible refine (CC.out _ _ _ (hB.ext e2) o2.vals).mono ?_)
        rintro e w3 ⟨rfl, B3⟩
        clear CC CV o2 e2 hB
        go_wp2_with fail
        go_roundw
        case rel => exact ⟨k + 1, by omega, by go_num, B3⟩
        case measure => simp [intOf]; omega)
    · obtain rfl : k = K := by omega
      have hA : Hid (¬ (k : Int) + 1 ≤ (if (40 : Int) < t then 40 else t)) := by have := HK.out; exact Lib.hid (by omega)
      obtain ⟨a2, c2, q1, q2, q3, q4, q5, q6⟩ := hB
      rw [← HS.out] at q4 q6
      replace r0 := q1.cell r0
      replace r1 := q1.cell r1
      have E2 := E1.trans q1
      have zz := World.block_lt_of_cell? _ _ q3
      have zw := E1.size_le
      have g0 : wr.frozen? ⟨w.heap.size, 0, none⟩ = false := (q1.look.2 w.heap.size 0 zres).trans f0
      have g1 : wr.frozen? ⟨w.heap.size, 1, none⟩ = false := (q1.look.2 w.heap.size 1 zres).trans f1
      obtain ⟨zs, hzs⟩ : ∃ zs, Hid (zs = rbB s (m : Int) t) := ⟨_, rfl⟩
      rw [← hzs.out] at q4 q6 ⊢
      have HF : Hid (∀ W : World, W = (wr.setCell ⟨w.heap.size, 0, none⟩ (.int .i64 (m : Nat))).setCell ⟨w.heap.size, 1, none⟩ (.slice a2 zs.length c2) → NewB w (rbW (m : Int)) zs (.returned (bsV (m : Int) a2 c2 zs)) W) := fun W hW => by
        subst hW
        rw [HB.out]
        refine ⟨a2, c2, rfl, (((q6.setCell (p := ⟨w.heap.size, 0, none⟩) (by show w.heap.size < _; omega) _).setCell (p := ⟨w.heap.size, 1, none⟩) (by show w.heap.size < _; omega) _).mono (by omega) (by simp)), ?_⟩
        exact (E2.setCell (p := ⟨w.heap.size, 0, none⟩) (Nat.le_refl _) _).setCell (p := ⟨w.heap.size, 1, none⟩) (Nat.le_refl _) _
      clear q1 q6 E1 E2
      by_cases h40 : (40 : Int) < t
      · have hC : ¬ (k : Int) + 1 ≤ 40 := by have := hA.out; rwa [if_pos h40] at this
        go_wp2_with fail
        refine bodyPost_ret (v := bsV (m : Int) a2 c2 zs) (by simp only [results, Try.results71]; go_simp) rfl ?_
        rw [← hzs.out]
        exact HF.out _ rfl
      · have hC : ¬ (k : Int) + 1 ≤ t := by have := hA.out; rwa [if_neg h40] at this
        go_wp2_with fail
        refine bodyPost_ret (v := bsV (m : Int) a2 c2 zs) (by simp only [results, Try.results71]; go_simp) rfl ?_
        rw [← hzs.out]
        exact HF.out _ rfl

end Go.Proofs.Ytninamlcffemoaa
