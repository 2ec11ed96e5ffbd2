/- NewBasis, NewDecoder: contracts and laws. -/
import Derived.Test.YtninamlcffemoaaPairs
import Derived.Deep.RegionHeld3
namespace Go.Proofs.Ytninamlcffemoaa
open Go.RowKit
set_option linter.unusedVariables false
set_option maxRecDepth 20000

/-- No row. -/
def noRows : List (List Int) := []
def basisW (n : Int) : Int := if inR n 0 40 then n else 0

theorem implNewBasis_ok (n : Int) (w : World) : Calls Try.prog 113 #[.int .i64 n] w (NewB w (basisW n) noRows) := by
  have fin : ∀ W, Ext w W → ∀ m, m = basisW n → NewB w (basisW n) noRows (.returned (bsV m none 0 [])) W := fun W hW m hm => ⟨none, 0, by rw [hm]; rfl, ⟨[], World.ownsRow_nil _ _ _ _, fun k hk => by simp [blockOf] at hk, RowsO.nil _ _ _⟩, hW⟩
  have FIN := Lib.hid fin
  clear fin
  cases h1 : inR n 0 40
  · go_enter Try.func113, Try.ntmps113
    go_wp2_with (go_at_call 119; refine (implInRange_ok _ _ _ _).mono ?_; rintro e w' ⟨rfl, rfl⟩)
    refine bodyPost_ret (v := bsV 0 none 0 []) (by simp only [results, Try.results113]; go_simp) rfl (FIN.out _ ?_ _ (by simp [basisW, h1]))
    exact (Ext.refl w).alloc _
  · go_enter Try.func113, Try.ntmps113
    go_wp2_with (go_at_call 119; refine (implInRange_ok _ _ _ _).mono ?_; rintro e w' ⟨rfl, rfl⟩)
    refine bodyPost_ret (v := bsV n none 0 []) (by simp only [results, Try.results113]; go_simp) rfl (FIN.out _ ?_ _ (by simp [basisW, h1]))
    exact (Ext.refl w).alloc _

theorem specNewBasis_ok (n : Int) (w : World) : Calls Try.prog 142 #[.int .i64 n] w (NewB w (basisW n) noRows) := by
  have fin : ∀ W, Ext w W → ∀ m, m = basisW n → NewB w (basisW n) noRows (.returned (bsV m none 0 [])) W := fun W hW m hm => ⟨none, 0, by rw [hm]; rfl, ⟨[], World.ownsRow_nil _ _ _ _, fun k hk => by simp [blockOf] at hk, RowsO.nil _ _ _⟩, hW⟩
  have FIN := Lib.hid fin
  clear fin
  cases h1 : inR n 0 40
  · go_enter Try.func142, Try.ntmps142
    go_wp2_with (go_at_call 120; refine (specInRange_ok _ _ _ _).mono ?_; rintro e w' ⟨rfl, rfl⟩)
    refine bodyPost_ret (v := bsV 0 none 0 []) (by simp only [results, Try.results142]; go_simp) rfl (FIN.out _ ?_ _ (by simp [basisW, h1]))
    exact (Ext.refl w).alloc _
  · go_enter Try.func142, Try.ntmps142
    go_wp2_with (go_at_call 120; refine (specInRange_ok _ _ _ _).mono ?_; rintro e w' ⟨rfl, rfl⟩)
    refine bodyPost_ret (v := bsV n none 0 []) (by simp only [results, Try.results142]; go_simp) rfl (FIN.out _ ?_ _ (by simp [basisW, h1]))
    exact (Ext.refl w).alloc _

/-- The value of a decoder. -/
abbrev decV (g s d n : Int) (a : Option Addr) (c : Nat) (xss : List (List Int)) : Value := .agg #[.int .i64 g, .int .i64 s, .int .i64 d, .int .i64 n, .slice a xss.length c]
def NewD (w : World) (g s d n : Int) (xss : List (List Int)) (e : Ending) (w' : World) : Prop := ∃ a c, e = .returned (decV g s d n a c xss) ∧ OM w' w.heap.size w'.heap.size a c xss ∧ Ext w w'
def eqD (g s d n : Int) (xss : List (List Int)) (g' s' d' n' : Int) (yss : List (List Int)) : Bool := decide (g = g') && (decide (s = s') && (decide (d = d') && eqB n xss n' yss))
theorem eqD_self (g s d n : Int) (xss : List (List Int)) : eqD g s d n xss g s d n xss = true := by simp [eqD, eqB_self]

def dec0 (g s d x : Int) : Int := if fmtOk g s d then x else 0

end Go.Proofs.Ytninamlcffemoaa
