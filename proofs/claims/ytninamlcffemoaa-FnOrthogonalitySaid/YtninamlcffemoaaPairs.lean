/- Contracts of the functions over bases and generations (a number and rows) that only read or copy. -/
import Derived.Test.YtninamlcffemoaaMats
namespace Go.Proofs.Ytninamlcffemoaa
open Go.RowKit
set_option linter.unusedVariables false
set_option maxRecDepth 20000

def eqB (n : Int) (xss : List (List Int)) (m : Int) (yss : List (List Int)) : Bool := decide (n = m) && decide (xss = yss)
theorem eqB_self (n : Int) (xss : List (List Int)) : eqB n xss n xss = true := by simp [eqB]
/-- A call hands back a new basis or generation. -/
def NewB (w : World) (n : Int) (xss : List (List Int)) (e : Ending) (w' : World) : Prop := ∃ a c, e = .returned (bsV n a c xss) ∧ OM w' w.heap.size w'.heap.size a c xss ∧ Ext w w'

theorem szM_le {xss : List (List Int)} {left : Int} (h : 0 ≤ szM xss left) : (xss.length : Int) + tot xss ≤ left ∧ szM xss left = left - xss.length - tot xss := by
  unfold szM at h ⊢
  unfold tot
  split at h
  · omega
  · rename_i h'; rw [if_neg h']; omega
theorem szM_neg {xss : List (List Int)} {left : Int} (h : szM xss left < 0) : szM xss left = -1 := by
  unfold szM at h ⊢
  split at h
  · rename_i h'; rw [if_pos h']
  · omega
theorem rows_le {xss : List (List Int)} {xs : List Int} (h : xs ∈ xss) : xs.length ≤ tot xss := by
  unfold tot
  induction xss with
  | nil => simp at h
  | cons x r ih =>
    rw [List.flatten_cons, List.length_append]
    rcases List.mem_cons.1 h with rfl | h
    · omega
    · have := ih h; omega

theorem OM.setCell {w : World} {B B2 : Nat} {a : Option Addr} {c : Nat} {xss : List (List Int)} (h : OM w B B2 a c xss) {p : Addr} (hp : p.block < B) (u : Value) : OM (w.setCell p u) B B2 a c xss :=
  h.span ((Span.refl p.block (p.block + 1) w).setCell ⟨Nat.le_refl _, Nat.lt_succ_self _⟩ u) (.inr hp)

set_option maxHeartbeats 400000 in
theorem implEqualBases_ok (n : Int) (a : Option Addr) (c : Nat) (xss : List (List Int)) (m : Int) (b : Option Addr) (d : Nat) (yss : List (List Int)) (w : World) (h1 : MatR w a xss) (h2 : MatR w b yss) (hl : xss.length ≤ 1048576) (hr : ∀ xs ∈ xss, xs.length ≤ 1048576) :
    Calls Try.prog 50 #[bsV n a c xss, bsV m b d yss] w (Gives w (.bool (eqB n xss m yss))) := by
  have HR : Hid (∀ xs ∈ xss, xs.length ≤ 1099511627776) := fun xs hx => Nat.le_trans (hr xs hx) (by omega)
  clear hr
  by_cases hn : n = m
  · have hn1 := eq_of hn
    have HN : Hid (decide (n = m) = true) := decide_eq_true hn
    clear hn
    go_enter Try.func50, Try.ntmps50
    go_wp2_with fail
    refine (implEqualMatrices_ok _ _ _ _ _ _ _ (h1.ext (((Ext.refl w).alloc _).alloc _)) (h2.ext (((Ext.refl w).alloc _).alloc _)) (by omega) HR.out).mono ?_
    rintro e w1 ⟨rfl, q, rfl⟩
    cases hx : decide (xss = yss)
    all_goals
      have HX := Lib.hid hx
      clear hx
      go_wp2_with fail
      go_ret
      exact ⟨ret_bool (by unfold eqB; rw [HN.out, HX.out]; rfl), (((Ext.refl w).alloc _).alloc _).drewN _⟩
  · have hn1 := not_eq_of hn
    have HN : Hid (decide (n = m) = false) := decide_eq_false hn
    clear hn
    go_enter Try.func50, Try.ntmps50
    go_wp2_with fail
    go_ret
    exact ⟨ret_bool (by unfold eqB; rw [HN.out, Bool.false_and]), ((Ext.refl w).alloc _).alloc _⟩

end Go.Proofs.Ytninamlcffemoaa
