/- The reference's Identity (a copy that needs no text on orthogonal spaces). -/
import Derived.Test.YtninamlcffemoaaNulW
import Derived.Test.YtninamlcffemoaaRowApp
namespace Go.Proofs.Ytninamlcffemoaa
open Go.RowKit
set_option linter.unusedVariables false
set_option maxRecDepth 20000

def idL (n j : Nat) : List (List Int) := (List.range j).map (unitV n)
theorem idL_succ (n j : Nat) : idL n (j + 1) = idL n j ++ [unitV n j] := by simp [idL, List.range_succ]
theorem idL_length (n j : Nat) : (idL n j).length = j := by simp [idL]

set_option maxHeartbeats 1000000 in
theorem specIdent_ok (n : Nat) (w : World) (hn : n ≤ 40) : Calls Try.prog 30 #[.int .i64 n] w (NewM w (idL n n)) := by
  have o0 := OM.new0 w
  have e0 := (Ext.refl w).alloc (.cells #[] 36)
  have hn' : (n : Int) ≤ 40 := by omega
  go_enter Try.func30, Try.ntmps30
  go_wp2_with fail
  go_loopw [3, 4] (fun v i wr => ∃ (j : Nat) (a1 : Option Addr) (c1 : Nat) (yss : List (List Int)), j ≤ n ∧ i = .int .i64 j ∧ v = .slice a1 yss.length c1 ∧ Hid (yss = idL n j) ∧ OM wr w.heap.size wr.heap.size a1 c1 yss ∧ Ext w wr) (fun _ i _ => n - (intOf i).toNat)
  case atStart => exact ⟨0, _, _, [], Nat.zero_le _, rfl, rfl, rfl, o0, e0⟩
  case round =>
    clear o0 e0
    obtain ⟨j, a1, c1, yss, hj, rfl, rfl, HY, ho, he⟩ := hrel
    have hyl : yss.length ≤ 1048576 := by rw [HY.out, idL_length]; omega
    by_cases hlt : j < n
    · have hlt' : (j : Int) < (n : Int) := by omega
      have hsz := he.size_le
      have CU := Lib.hid (specUnitVector_ok n j wr hlt hn)
      obtain ⟨xs, hxs⟩ : ∃ xs, Hid (xs = unitV n j) := ⟨_, rfl⟩
      rw [← hxs.out] at CU
      have hxl : xs.length ≤ 40 := by rw [hxs.out, unitV_length]; exact hn
      go_wp2_with fail
      (with_reducible refine CU.out.mono ?_)
      rintro e w2 ⟨a2, c2, rfl, o2, e2⟩
      obtain ⟨zss, hzs⟩ : ∃ zss, Hid (zss = yss ++ [xs]) := ⟨_, rfl⟩
      have HT : Hid (zss = idL n (j + 1)) := by rw [idL_succ, ← HY.out, ← hxs.out]; exact hzs
      have O5 := (ho.ext e2).ext ((Ext.refl w2).alloc (.cells #[.slice a2 xs.length c2] 36))
      have R5 := ((OI.of o2).ext ((Ext.refl w2).alloc (.cells #[.slice a2 xs.length c2] 36))).mono (C := wr.heap.size) (C2 := (w2.alloc (.cells #[.slice a2 xs.length c2] 36)).heap.size) (Nat.le_refl _) (by simp)
      have E5 := (he.trans e2).alloc (.cells #[.slice a2 xs.length c2] 36)
      have hnew : Vals (w2.alloc (.cells #[.slice a2 xs.length c2] 36)) (some ⟨w2.heap.size, 0, none⟩) [.slice a2 xs.length c2] := Vals.new w2 [.slice a2 xs.length c2] 36
      have hob := ho.block
      have z2 := e2.size_le
      clear o2 e2 ho he CU
      go_wp2_with (at_builtin; refine wpList_appM _ rfl _ _ rfl w.heap.size wr.heap.size _ _ yss rfl O5 _ _ _ _ xs rfl hnew R5 hsz (by simp; omega) zss hzs.out (by omega) ?_)
      intro a5 c5 w5 o5 g5
      have e5 := E5.grown g5 (fun k hk => (hob k hk).1)
      clear g5 E5 O5 R5 hnew hob
      go_wp2_with fail
      go_roundw
      case rel => exact ⟨j + 1, a5, c5, zss, by omega, by go_num, rfl, HT, o5, e5⟩
      case measure => simp [intOf]; omega
    · obtain rfl : j = n := by omega
      go_wp2_with fail
      go_ret
      rw [← HY.out]
      exact ⟨a1, c1, rfl, ho, he⟩

end Go.Proofs.Ytninamlcffemoaa
