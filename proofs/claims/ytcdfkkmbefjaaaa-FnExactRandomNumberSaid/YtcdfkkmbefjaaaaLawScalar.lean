/- Laws whose argument is one slice of integers and whose result is a number; FnExactRandomNumber. -/
import Derived.Test.YtcdfkkmbefjaaaaVec
import Derived.Test.YtcdfkkmbefjaaaaHash
namespace Go.Proofs.Ytcdfkkmbefjaaaa
open Go.RowKit
set_option linter.unusedVariables false

set_option maxHeartbeats 400000 in
theorem lawCountNonzero (a : Option Addr) (c : Nat) (xs : List Int) (w : World) (h : Vals w a (I xs)) (hm : xs.length ≤ maxLen) :
    Calls Try.prog 3 #[.slice a xs.length c] w (Gives w (.bool true)) := by
  unfold maxLen at hm
  by_cases hl : xs.length ≤ 1048576
  · have d1 : decide ((1048576 : Int) < (xs.length : Int)) = false := by simp; omega
    go_enter Try.func3, Try.ntmps3
    go_wp2_with fail
    refine (toIntS_ok _ _ _ _ h hl).mono ?_
    rintro e w1 ⟨a1, c1, rfl, o1, e1⟩
    go_wp2_with fail
    refine (specCountNonzero_ok _ _ _ _ o1.vals hl).mono ?_
    rintro e w2 ⟨rfl, rfl⟩
    go_wp2_with fail
    refine (toIntS_ok _ _ _ _ (h.ext e1) hl).mono ?_
    rintro e w2 ⟨a2, c2, rfl, o2, e2⟩
    go_wp2_with fail
    refine (implCountNonzero_ok _ _ _ _ o2.vals hl).mono ?_
    rintro e w3 ⟨rfl, rfl⟩
    have t1 : (((cnz xs : Int)) != ((cnz xs : Int))) = false := by simp
    go_wp2_with fail
    refine (toIntS_ok _ _ _ _ ((h.ext e1).ext e2) hl).mono ?_
    rintro e w3 ⟨a3, c3, rfl, o3, e3⟩
    go_wp2_with fail
    refine (eqIntS_ok _ _ _ _ _ _ _ (o2.vals.ext e3) o3.vals (by omega)).mono ?_
    rintro e w4 ⟨rfl, e4⟩
    go_wp2_with fail
    go_ret
    exact ⟨rfl, ((e1.trans e2).trans e3).trans e4.ext⟩
  · have d1 : (1048576 : Int) < (xs.length : Int) := by omega
    go_enter Try.func3, Try.ntmps3
    go_wp2_with fail
    go_ret
    exact ⟨rfl, Ext.refl _⟩

set_option maxHeartbeats 400000 in
theorem lawDensityPercent (a : Option Addr) (c : Nat) (xs : List Int) (w : World) (h : Vals w a (I xs)) (hm : xs.length ≤ maxLen) :
    Calls Try.prog 4 #[.slice a xs.length c] w (Gives w (.bool true)) := by
  unfold maxLen at hm
  by_cases hl : xs.length ≤ 1048576
  · have d1 : decide ((1048576 : Int) < (xs.length : Int)) = false := by simp; omega
    go_enter Try.func4, Try.ntmps4
    go_wp2_with fail
    refine (toIntS_ok _ _ _ _ h hl).mono ?_
    rintro e w1 ⟨a1, c1, rfl, o1, e1⟩
    go_wp2_with fail
    refine (specDensityPercent_ok _ _ _ _ o1.vals hl).mono ?_
    rintro e w2 ⟨rfl, rfl⟩
    go_wp2_with fail
    refine (toIntS_ok _ _ _ _ (h.ext e1) hl).mono ?_
    rintro e w2 ⟨a2, c2, rfl, o2, e2⟩
    go_wp2_with fail
    refine (implDensityPercent_ok _ _ _ _ o2.vals hl).mono ?_
    rintro e w3 ⟨rfl, rfl⟩
    have t1 : ((density xs) != (density xs)) = false := by simp
    go_wp2_with fail
    refine (toIntS_ok _ _ _ _ ((h.ext e1).ext e2) hl).mono ?_
    rintro e w3 ⟨a3, c3, rfl, o3, e3⟩
    go_wp2_with fail
    refine (eqIntS_ok _ _ _ _ _ _ _ (o2.vals.ext e3) o3.vals (by omega)).mono ?_
    rintro e w4 ⟨rfl, e4⟩
    go_wp2_with fail
    go_ret
    exact ⟨rfl, ((e1.trans e2).trans e3).trans e4.ext⟩
  · have d1 : (1048576 : Int) < (xs.length : Int) := by omega
    go_enter Try.func4, Try.ntmps4
    go_wp2_with fail
    go_ret
    exact ⟨rfl, Ext.refl _⟩

theorem lawRandomNumber (s i l : Int) (w : World) : Calls Try.prog 5 #[.int .i64 s, .int .i64 i, .int .i64 l] w (Gives w (.bool true)) := by
  have t1 : (rnum s i l != rnum s i l) = false := by simp
  go_enter Try.func5, Try.ntmps5
  go_wp2_with fail
  refine (specRandomNumber_ok _ _ _ _).mono ?_
  rintro e w1 ⟨rfl, e1⟩
  go_wp2_with fail
  refine (implRandomNumber_ok _ _ _ _).mono ?_
  rintro e w2 ⟨rfl, e2⟩
  go_wp2_with fail
  go_ret
  exact ⟨rfl, e1.trans e2⟩

end Go.Proofs.Ytcdfkkmbefjaaaa
