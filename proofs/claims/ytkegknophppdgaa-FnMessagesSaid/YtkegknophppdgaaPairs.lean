/- Contracts of the functions over bases and generations (a number and rows) that only read or copy. -/
import Derived.Test.YtkegknophppdgaaMats
namespace Go.Proofs.Ytkegknophppdgaa
open Go.RowKit
set_option linter.unusedVariables false
set_option maxRecDepth 20000

def eqB (n : Int) (xss : List (List Int)) (m : Int) (yss : List (List Int)) : Bool := decide (n = m) && decide (xss = yss)
theorem eqB_self (n : Int) (xss : List (List Int)) : eqB n xss n xss = true := by simp [eqB]
/-- A call hands back a new basis or generation. -/
def NewB (w : World) (n : Int) (xss : List (List Int)) (e : Ending) (w' : World) : Prop := ∃ a c, e = .returned (bsV n a c xss) ∧ OM w' w.heap.size w'.heap.size a c xss ∧ Ext w w'

theorem szM_le {xss : List (List Int)} {left : Int} (h : 0 ≤ szM xss left) : (xss.length : Int) + tot xss ≤ left ∧ szM xss left = left - xss.length - tot xss := by
  unfold szM at h ⊢
  unfold tot
  split at h
  · omega
  · rename_i h'; rw [if_neg h']; omega
theorem szM_neg {xss : List (List Int)} {left : Int} (h : szM xss left < 0) : szM xss left = -1 := by
  unfold szM at h ⊢
  split at h
  · rename_i h'; rw [if_pos h']
  · omega
theorem rows_le {xss : List (List Int)} {xs : List Int} (h : xs ∈ xss) : xs.length ≤ tot xss := by
  unfold tot
  induction xss with
  | nil => simp at h
  | cons x r ih =>
    rw [List.flatten_cons, List.length_append]
    rcases List.mem_cons.1 h with rfl | h
    · omega
    · have := ih h; omega

theorem OM.setCell {w : World} {B B2 : Nat} {a : Option Addr} {c : Nat} {xss : List (List Int)} (h : OM w B B2 a c xss) {p : Addr} (hp : p.block < B) (u : Value) : OM (w.setCell p u) B B2 a c xss :=
  h.span ((Span.refl p.block (p.block + 1) w).setCell ⟨Nat.le_refl _, Nat.lt_succ_self _⟩ u) (.inr hp)

theorem szGeneration_ok (n : Int) (a : Option Addr) (c : Nat) (xss : List (List Int)) (left : Int) (w : World) (h : MatR w a xss) (hm : xss.length ≤ maxLen) (hr : ∀ xs ∈ xss, xs.length ≤ maxLen) (h0 : 0 ≤ left) (h1 : left ≤ 1048576) :
    Calls Try.prog 35 #[bsV n a c xss, .int .i64 left] w (Gives w (.int .i64 (szM xss left))) := by
  have HR := Lib.hid hr
  clear hr
  by_cases hn : szM xss left < 0
  · have HN := Lib.hid (szM_neg hn)
    go_enter Try.func35, Try.ntmps35
    go_wp2_with (go_at_call 43; refine (szIntSS_ok _ _ _ _ _ (h.ext ((Ext.refl w).alloc _)) hm HR.out h0 h1).mono ?_; rintro e w' ⟨rfl, rfl⟩)
    go_ret
    exact ⟨ret_int HN.out.symm, (Ext.refl w).alloc _⟩
  · go_enter Try.func35, Try.ntmps35
    go_wp2_with (go_at_call 43; refine (szIntSS_ok _ _ _ _ _ (h.ext ((Ext.refl w).alloc _)) hm HR.out h0 h1).mono ?_; rintro e w' ⟨rfl, rfl⟩)
    go_ret
    exact ⟨rfl, (Ext.refl w).alloc _⟩

set_option maxHeartbeats 400000 in
theorem toGeneration_ok (n : Int) (a : Option Addr) (c : Nat) (xss : List (List Int)) (w : World) (h : MatR w a xss) (hl : xss.length ≤ 1048576) (hr : ∀ xs ∈ xss, xs.length ≤ 1048576) :
    Calls Try.prog 37 #[bsV n a c xss] w (NewB w n xss) := by
  have HR := Lib.hid hr
  clear hr
  go_enter Try.func37, Try.ntmps37
  go_wp2_with fail
  refine (toIntSS_ok _ _ _ _ (h.ext ((((Ext.refl w).alloc _).alloc _).alloc _)) hl HR.out).mono ?_
  rintro e w1 ⟨a1, c1, rfl, o1, e1⟩
  have e01 := ((((Ext.refl w).alloc _).alloc _).alloc _).trans e1
  obtain ⟨k1, f1⟩ := e1.look
  have z1 := e1.size_le
  simp at o1 k1 f1 z1
  have z4 : w.heap.size + 1 < w1.heap.size := by omega
  go_wp2_with fail
  refine bodyPost_ret (v := bsV n a1 c1 xss) (by simp only [results, Try.results37]; go_simp) rfl ⟨a1, c1, rfl, ?_, ?_⟩
  · exact (((o1.setCell (by simp) _).setCell (by simp) _).setCell (by simp) _).mono (by omega) (by simp)
  · exact ((e01.setCell (by simp; omega) _).setCell (by simp) _).setCell (by simp) _

set_option maxHeartbeats 400000 in
theorem eqGeneration_ok (n : Int) (a : Option Addr) (c : Nat) (xss : List (List Int)) (m : Int) (b : Option Addr) (d : Nat) (yss : List (List Int)) (w : World) (h1 : MatR w a xss) (h2 : MatR w b yss) (hl : xss.length ≤ 1048576) (hr : ∀ xs ∈ xss, xs.length ≤ 1048576) :
    Calls Try.prog 39 #[bsV n a c xss, bsV m b d yss] w (Gives w (.bool (eqB n xss m yss))) := by
  have HR : Hid (∀ xs ∈ xss, xs.length ≤ 1099511627776) := fun xs hx => Nat.le_trans (hr xs hx) (by omega)
  clear hr
  by_cases hn : n = m
  · have hn1 := not_ne_of hn
    have HN : Hid (decide (n = m) = true) := decide_eq_true hn
    clear hn
    go_enter Try.func39, Try.ntmps39
    go_wp2_with fail
    refine (eqIntSS_ok _ _ _ _ _ _ _ (h1.ext (((Ext.refl w).alloc _).alloc _)) (h2.ext (((Ext.refl w).alloc _).alloc _)) (by omega) HR.out).mono ?_
    rintro e w1 ⟨rfl, q, rfl⟩
    cases hx : decide (xss = yss)
    all_goals
      have HX := Lib.hid hx
      clear hx
      go_wp2_with fail
      go_ret
      exact ⟨ret_bool (by unfold eqB; rw [HN.out, HX.out]; rfl), (((Ext.refl w).alloc _).alloc _).drewN _⟩
  · have hn1 := ne_of hn
    have HN : Hid (decide (n = m) = false) := decide_eq_false hn
    clear hn
    go_enter Try.func39, Try.ntmps39
    go_wp2_with fail
    go_ret
    exact ⟨ret_bool (by unfold eqB; rw [HN.out, Bool.false_and]), ((Ext.refl w).alloc _).alloc _⟩

theorem markGeneration_ok (B B2 : Nat) (n : Int) (a : Option Addr) (c : Nat) (xss : List (List Int)) (k : Int) (w : World) (h : OM w B B2 a c xss) (hB : B2 ≤ w.heap.size) (hl : xss.length ≤ 1099511627776) (ht : tot xss ≤ 1099511627776) (h0 : 0 ≤ k) (h1 : k ≤ 1048576) :
    Calls Try.prog 40 #[bsV n a c xss, .int .i64 k] w fun e w' => e = .returned (.int .i64 (k + tot xss)) ∧ OM w' B B2 a c (upRows k xss) ∧ Span B B2 w w' := by
  go_enter Try.func40, Try.ntmps40
  go_wp2_with fail
  refine (markIntSS_ok B B2 _ _ _ _ _ (h.ext ((Ext.refl w).alloc _)) hl ht h0 h1).mono ?_
  rintro e w1 ⟨rfl, o1, s1⟩
  go_wp2_with fail
  go_ret
  exact ⟨rfl, o1, (Span.of_ext ((Ext.refl w).alloc _)).trans s1⟩

theorem implGenerationSize_ok (n : Int) (a : Option Addr) (c : Nat) (xss : List (List Int)) (w : World) :
    Calls Try.prog 62 #[bsV n a c xss] w (Gives w (.int .i64 xss.length)) := by
  go_enter Try.func62, Try.ntmps62
  go_wp2_with fail
  go_ret
  exact ⟨rfl, (Ext.refl w).alloc _⟩

theorem implSymbolWidth_ok (n : Int) (a : Option Addr) (c : Nat) (xss : List (List Int)) (w : World) (h : MatR w a xss) :
    Calls Try.prog 61 #[bsV n a c xss] w (Gives w (.int .i64 (cols xss))) := by
  go_enter Try.func61, Try.ntmps61
  go_wp2_with (go_at_call 115; refine (implColumnsOf_ok _ _ _ _ (h.ext ((Ext.refl w).alloc _))).mono ?_; rintro e w' ⟨rfl, rfl⟩)
  go_ret
  exact ⟨rfl, (Ext.refl w).alloc _⟩

end Go.Proofs.Ytkegknophppdgaa
