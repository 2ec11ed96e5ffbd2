/- Contracts of RandomVector; its law. -/
import Derived.Test.YtninamlcffemoaaMats
import Derived.Test.YtninamlcffemoaaHash
import Derived.Deep.RegionHeld3
namespace Go.Proofs.Ytninamlcffemoaa
open Go.RowKit
set_option linter.unusedVariables false
set_option maxRecDepth 20000

theorem rnum_range (s i l : Int) : 0 ≤ rnum s i l ∧ rnum s i l ≤ 2147483646 := by
  unfold rnum
  split
  · rename_i h
    have h1 := (inR_true.1 h).1
    obtain ⟨k1, k2⟩ := khash_range s [i, 71]
    obtain ⟨s1, s2⟩ := sq_le k1 k2
    generalize khash s [i, 71] * khash s [i, 71] = q at *
    have h2 : 0 ≤ q % 2147483647 := Int.emod_nonneg _ (by omega)
    have h3 : q % 2147483647 < 2147483647 := Int.emod_lt_of_pos _ (by omega)
    refine ⟨Int.emod_nonneg _ (by omega), ?_⟩
    by_cases hq : q % 2147483647 < l
    · rw [Int.emod_eq_of_lt h2 hq]; omega
    · have := Int.emod_lt_of_pos (q % 2147483647) (show 0 < l by omega)
      omega
  · omega
theorem rnum_lt (s i l : Int) (h : 1 ≤ l) (h' : l ≤ 1000000000000) : rnum s i l < l := by
  unfold rnum
  rw [if_pos (inR_true.2 ⟨h, h'⟩)]
  exact Int.emod_lt_of_pos _ (by omega)

/-- The first k numbers of a random vector. -/
def rvTo (s : Int) (k : Nat) : List Int := (List.range k).map fun i => rnum s (i : Nat) 1019
theorem rvTo_length (s : Int) (k : Nat) : (rvTo s k).length = k := by simp [rvTo]
theorem rvTo_succ (s : Int) (k : Nat) : rvTo s (k + 1) = rvTo s k ++ [rnum s k 1019] := by simp [rvTo, List.range_succ]
def orUnit (xs : List Int) : List Int := if leadI xs < 0 then xs.set 0 1 else xs
theorem orUnit_length (xs : List Int) : (orUnit xs).length = xs.length := by unfold orUnit; split <;> simp
def rvec (s n : Int) : List Int := if inR n 1 40 then orUnit (rvTo s n.toNat) else []
theorem rvec_len (s n : Int) : (rvec s n).length ≤ 40 := by
  unfold rvec
  split
  · rename_i h; rw [orUnit_length, rvTo_length]; have := inR_true.1 h; omega
  · simp

set_option maxHeartbeats 1000000 in
set_option maxRecDepth 10000 in
theorem implRandomVector_ok (s n : Int) (w : World) : Calls Try.prog 67 #[.int .i64 s, .int .i64 n] w (NewI w (rvec s n)) := by
  cases h1 : inR n 1 40
  · go_enter Try.func67, Try.ntmps67
    go_wp2_with (go_at_call 119; refine (implInRange_ok _ _ _ _).mono ?_; rintro e w' ⟨rfl, rfl⟩)
    go_ret
    rw [show rvec s n = [] by simp [rvec, h1]]
    exact ⟨none, 0, rfl, OwnI.nil _ _, Ext.refl _⟩
  · obtain ⟨n0, n1⟩ := inR_true.1 h1
    obtain ⟨m, rfl⟩ := Int.eq_ofNat_of_zero_le (show 0 ≤ n by omega)
    obtain ⟨i, hi, hz0, hz1, hz2⟩ := info_parts infoInt
    go_enter Try.func67, Try.ntmps67
    go_wp2_with (first | (go_at_call 119; refine (implInRange_ok _ _ _ _).mono ?_; rintro e w' ⟨rfl, rfl⟩) | (at_make; refine wpList_make_full _ rfl _ _ 36 rfl w.heap.size 3 i (.int .i64 0) 1 Try.underlying36 hi hz0 hz1 _ _ _ _ m rfl rfl rfl rfl ?b1 ?b2 (Nat.le_refl _) ?_))
    case b1 => rw [hz2]; omega
    case b2 => unfold maxLen; omega
    intro w1 hown hgrow
    have o0 : OI w1 w.heap.size w1.heap.size (some ⟨w.heap.size, 0, none⟩) m (rvTo s 0 ++ List.replicate (m - 0) 0) := by
      refine OI.of ?_
      unfold OwnI
      simpa [Value.cells, toList_madeCells_one, rvTo] using hown
    have e0 := (Ext.refl w).grown hgrow (by simp)
    clear hown hgrow
    go_wp2_with fail
    go_loopw [14] (fun i wr => ∃ k : Nat, k ≤ m ∧ i = .int .i64 k ∧ OI wr w.heap.size w1.heap.size (some ⟨w.heap.size, 0, none⟩) m (rvTo s k ++ List.replicate (m - k) 0) ∧ Ext w wr) (fun i _ => m - (intOf i).toNat)
    case atStart => exact ⟨0, Nat.zero_le _, rfl, o0, e0⟩
    case round =>
      clear o0 e0
      obtain ⟨k, hk, rfl, ho, he⟩ := hrel
      have hlen : (rvTo s k ++ List.replicate (m - k) (0 : Int)).length = m := by simp [rvTo_length]; omega
      by_cases hlt : k < m
      · go_wp2_with fail
        refine (implRandomNumber_ok _ _ _ _).mono ?_
        rintro e w2 ⟨rfl, e2⟩
        have ho2 := ho.ext e2
        obtain ⟨s1, s2, s3, u, s4⟩ := ho2.store k (rnum s k 1019) (by omega)
        have hset : (rvTo s k ++ List.replicate (m - k) (0 : Int)).set k (rnum s k 1019) = rvTo s (k + 1) ++ List.replicate (m - (k + 1)) 0 := by
          obtain ⟨q, hq⟩ : ∃ q, m - k = q + 1 := ⟨m - k - 1, by omega⟩
          rw [List.set_append_right _ _ (by rw [rvTo_length]; exact Nat.le_refl _), rvTo_length, Nat.sub_self, hq, List.replicate_succ, List.set_cons_zero, rvTo_succ, show m - (k + 1) = q by omega, List.append_assoc]
          rfl
        rw [hset] at s1
        have e3 := (he.trans e2).setCell (p := ⟨w.heap.size, k, none⟩) (Nat.le_refl _) (.int .i64 (rnum s k 1019))
        clear ho ho2 he e2 s2 hlen hset
        go_wp2_with fail
        go_roundw
        case rel => exact ⟨k + 1, by omega, by go_num, s1, e3⟩
        case measure => simp [intOf]; omega
      · obtain rfl : k = m := by omega
        rw [Nat.sub_self, List.replicate_zero, List.append_nil] at ho
        have hl := rvTo_length s k
        have hvv : Vals wr (some ⟨w.heap.size, 0, none⟩) (I (rvTo s k)) := ho.vals
        have hcc := implLeadingIndex_ok (some ⟨w.heap.size, 0, none⟩) k (rvTo s k) wr hvv (by omega)
        rw [hl] at hcc
        have HC := Lib.hid hcc
        clear hcc hvv hlen
        have hrv : Hid (rvec s (k : Int) = orUnit (rvTo s k)) := by simp [rvec, h1, Hid]
        by_cases hlead : leadI (rvTo s k) < 0
        · obtain ⟨s1, s2, s3, u, s4⟩ := ho.store 0 1 (by omega)
          have e3 := he.setCell (p := ⟨w.heap.size, 0, none⟩) (Nat.le_refl _) (.int .i64 1)
          have hpos : 0 < k := by omega
          have hor : Hid (orUnit (rvTo s k) = (rvTo s k).set 0 1) := by unfold orUnit; rw [Hid, if_pos hlead]
          have HL := Lib.hid hl
          clear s2 hl ho he
          go_wp2_with (go_at_call 39; refine HC.out.mono ?_; rintro e w' ⟨rfl, rfl⟩)
          go_ret
          rw [hrv.out, hor.out]
          refine ⟨some ⟨w.heap.size, 0, none⟩, k, ?_, s1.1, e3⟩
          simp [HL.out]
        · have hor : Hid (orUnit (rvTo s k) = rvTo s k) := by unfold orUnit; rw [Hid, if_neg hlead]
          have HL := Lib.hid hl
          have HO := Lib.hid ho
          have HE := Lib.hid he
          have hl0 : 0 ≤ leadI (rvTo s k) := by omega
          clear hl ho he hlead
          go_wp2_with (go_at_call 39; refine HC.out.mono ?_; rintro e w' ⟨rfl, rfl⟩)
          go_ret
          rw [hrv.out, hor.out]
          refine ⟨some ⟨w.heap.size, 0, none⟩, k, ?_, HO.out.1, HE.out⟩
          simp [HL.out]

end Go.Proofs.Ytninamlcffemoaa
