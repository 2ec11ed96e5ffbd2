/- Contracts of the reference's SpanOf and Identity. -/
import Derived.Test.YtninamlcffemoaaSpanS
namespace Go.Proofs.Ytninamlcffemoaa
open Go.RowKit
set_option linter.unusedVariables false
set_option maxRecDepth 20000

theorem insV_span {k : Nat} {R : List (List Int)} {v : List Int} (hk : k ≤ 40) (hR : RM k R) (hl : R.length ≤ 40) : insV (k : Int) R v = if validV v && decide (v.length = k) then insM R v else R := by
  have hB : validB (k : Int) R = true := validB_true.2 ⟨by omega, by omega, by rw [show ((k : Int)).toNat = k by omega]; exact hR, hl⟩
  unfold insV insOk cvB fitsB
  rw [hB, show decide ((v.length : Int) = (k : Int)) = decide (v.length = k) from decide_eq_decide.2 (by omega)]
  cases h : validV v && decide (v.length = k)
  · simp
  · simp only [Bool.true_and, if_true]
    rw [Bool.and_eq_true, decide_eq_true_eq] at h
    have hv := (validV_true.1 h.1).1
    by_cases hlt : ld (redV R v) < (redV R v).length
    · rw [leadI_ld, if_pos hlt]
      rw [if_pos (by simp)]
      have hVR : VR k (R ++ [v]) := fun xs hx => by
        rcases List.mem_append.1 hx with hx | hx
        · exact hR.1 xs hx
        · simp at hx; subst hx; exact h
      obtain ⟨g1, g2, g3⟩ := gj_red (k := k) hk hVR
      obtain ⟨i1, i2⟩ := insM_ok hk hR hv h.2
      rw [show ((k : Int)).toNat = k by omega]
      exact g1.eq i1 ((g3 (Nat.le_refl _)).symm.trans i2)
    · rw [leadI_ld, if_neg hlt, insM_no hlt]
      simp

theorem insV_step {vs : List (List Int)} {k j : Nat} {v : List Int} (hk : k ≤ 40) (hx : vs[j]? = some v) : insV (k : Int) (spanTo vs k j) v = spanTo vs k (j + 1) := by
  have := spanTo_RM (vs := vs) hk j
  rw [insV_span hk this.1 (by omega), spanTo, getD_some hx]

/-- A box that holds a basis. -/
def SpB (w1 : World) (n : Int) (R : List (List Int)) (w : World) : Prop :=
  ∃ a c, Ext w1 w ∧ w.cell? ⟨w1.heap.size, 0, none⟩ = some (.int .i64 n) ∧ w.cell? ⟨w1.heap.size, 1, none⟩ = some (.slice a R.length c) ∧ w.frozen? ⟨w1.heap.size, 0, none⟩ = false ∧ w.frozen? ⟨w1.heap.size, 1, none⟩ = false ∧ OM w (w1.heap.size + 1) w.heap.size a c R
theorem SpB.put {w1 W : World} {n : Int} {R : List (List Int)} {a : Option Addr} {c : Nat} {v0 v1 : Value} (E : Ext w1 W) (q0 : W.cell? ⟨w1.heap.size, 0, none⟩ = some v0) (q1 : W.cell? ⟨w1.heap.size, 1, none⟩ = some v1)
    (g0 : W.frozen? ⟨w1.heap.size, 0, none⟩ = false) (g1 : W.frozen? ⟨w1.heap.size, 1, none⟩ = false) (o : OM W (w1.heap.size + 1) W.heap.size a c R) :
    SpB w1 n R ((W.setCell ⟨w1.heap.size, 0, none⟩ (.int .i64 n)).setCell ⟨w1.heap.size, 1, none⟩ (.slice a R.length c)) := by
  refine ⟨a, c, (E.setCell (p := ⟨w1.heap.size, 0, none⟩) (Nat.le_refl _) _).setCell (p := ⟨w1.heap.size, 1, none⟩) (Nat.le_refl _) _, ?_, ?_, by simp [g0], by simp [g1], ?_⟩
  · exact (World.cell?_setCell_other _ _ _ _ (by simp)).trans (World.cell?_setCell_same _ _ _ q0)
  · exact World.cell?_setCell_same _ _ _ ((World.cell?_setCell_other _ _ _ _ (by simp)).trans q1)
  · exact ((o.setCell (p := ⟨w1.heap.size, 0, none⟩) (Nat.lt_succ_self _) _).setCell (p := ⟨w1.heap.size, 1, none⟩) (Nat.lt_succ_self _) _).mono (Nat.le_refl _) (by simp)
theorem SpB.ext {w1 w w' : World} {n : Int} {R : List (List Int)} (h : SpB w1 n R w) (he : Ext w w') : SpB w1 n R w' := by
  obtain ⟨a, c, h1, h2, h3, h4, h5, h6⟩ := h
  have z := World.block_lt_of_cell? _ _ h3
  exact ⟨a, c, h1.trans he, he.cell h2, he.cell h3, (he.look.2 _ 0 z).trans h4, (he.look.2 _ 1 z).trans h5, (h6.ext he).mono (Nat.le_refl _) he.size_le⟩

end Go.Proofs.Ytninamlcffemoaa
