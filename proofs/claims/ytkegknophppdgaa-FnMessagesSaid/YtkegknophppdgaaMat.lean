/- Words for slices of slices of integers. -/
import Derived.Test.YtkegknophppdgaaApp
namespace Go.Proofs.Ytkegknophppdgaa
open Go.RowKit
set_option linter.unusedVariables false
set_option maxRecDepth 20000

/-- A row's slice value: its address and capacity, its numbers. -/
def rowV (r : Option Addr × Nat) (xs : List Int) : Value := .slice r.1 xs.length r.2
def RV (rs : List (Option Addr × Nat)) (xss : List (List Int)) : List Value := List.zipWith rowV rs xss

/-- The slice with address a shows the rows rs, which read as the lists xss. -/
structure Mat (w : World) (a : Option Addr) (rs : List (Option Addr × Nat)) (xss : List (List Int)) : Prop where
  len : rs.length = xss.length
  top : Vals w a (RV rs xss)
  row : ∀ (i : Nat) (r : Option Addr × Nat) (xs : List Int), rs[i]? = some r → xss[i]? = some xs → Vals w r.1 (I xs)

theorem Mat.ext {w w' : World} {a : Option Addr} {rs : List (Option Addr × Nat)} {xss : List (List Int)} (h : Mat w a rs xss) (he : Ext w w') : Mat w' a rs xss :=
  ⟨h.len, h.top.ext he, fun i r xs hr hx => (h.row i r xs hr hx).ext he⟩

theorem Mat.nil (w : World) (a : Option Addr) : Mat w a [] [] := ⟨rfl, Vals.nil _ _, fun i r xs h => by simp at h⟩

theorem Mat.at_ {w : World} {a : Option Addr} {rs : List (Option Addr × Nat)} {xss : List (List Int)} (h : Mat w a rs xss) {k : Nat} (hk : k < xss.length) :
    ∃ b o ra rc xs, a = some ⟨b, o, none⟩ ∧ b < w.heap.size ∧ Hid (rs[k]? = some (ra, rc)) ∧ Hid (xss[k]? = some xs) ∧ w.cell? ⟨b, o + k, none⟩ = some (.slice ra xs.length rc) ∧ Vals w ra (I xs) := by
  have hk' : k < rs.length := by rw [h.len]; exact hk
  have hl : (RV rs xss).length = xss.length := by simp [RV, h.len]
  obtain ⟨b, o, ha, hc⟩ := h.top k (by omega)
  have h1 : rs[k]? = some rs[k] := List.getElem?_eq_getElem hk'
  have h2 : xss[k]? = some xss[k] := List.getElem?_eq_getElem hk
  refine ⟨b, o, rs[k].1, rs[k].2, xss[k], ha, World.block_lt_of_cell? w _ hc, h1, h2, ?_, h.row k _ _ h1 h2⟩
  rw [hc]
  simp [RV, rowV]

end Go.Proofs.Ytkegknophppdgaa
