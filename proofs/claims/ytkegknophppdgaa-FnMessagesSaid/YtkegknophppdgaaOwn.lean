/- What a call made lies in a range of block numbers; a call that writes into such a range leaves all else as it was. -/
import Derived.Test.YtkegknophppdgaaMat
namespace Go.Proofs.Ytkegknophppdgaa
open Go.RowKit
set_option linter.unusedVariables false
set_option maxRecDepth 20000

/-- Only the blocks from B to B2 (B2 not among them) were written; blocks may have come. -/
structure Span (B B2 : Nat) (w w' : World) : Prop where
  os : w'.os = w.os
  tape : w'.tape = w.tape
  output : w'.output = w.output
  size : w.heap.size ≤ w'.heap.size
  block : ∀ k, k < w.heap.size → (k < B ∨ B2 ≤ k) → w'.heap[k]? = w.heap[k]?

theorem Span.refl (B B2 : Nat) (w : World) : Span B B2 w w := ⟨rfl, rfl, rfl, Nat.le_refl _, fun _ _ _ => rfl⟩
theorem Span.trans {B B2 : Nat} {a b c : World} (h : Span B B2 a b) (k : Span B B2 b c) : Span B B2 a c :=
  ⟨k.os.trans h.os, k.tape.trans h.tape, k.output.trans h.output, Nat.le_trans h.size k.size, fun i hi ho => (k.block i (Nat.lt_of_lt_of_le hi h.size) ho).trans (h.block i hi ho)⟩
theorem Span.of_ext {B B2 : Nat} {a b : World} (h : Ext a b) : Span B B2 a b := ⟨h.os, h.tape, h.output, h.size, fun i hi _ => h.block_eq hi⟩
theorem Span.ext {B B2 : Nat} {a b c : World} (h : Ext a b) (k : Span B B2 b c) (hB : a.heap.size ≤ B) : Ext a c :=
  ⟨k.os.trans h.os, k.tape.trans h.tape, k.output.trans h.output, Nat.le_trans h.size k.size, fun i hi => (k.block i (Nat.lt_of_lt_of_le hi h.size) (.inl (by omega))).trans (h.block_eq hi)⟩
theorem Span.cell {B B2 : Nat} {a w : World} (h : Span B B2 a w) {p : Addr} {v : Value} (hc : a.cell? p = some v) (hp : p.block < B ∨ B2 ≤ p.block) : w.cell? p = some v :=
  (World.cell?_of_block (h.block _ (World.block_lt_of_cell? a p hc) hp)).trans hc
theorem Span.setCell {B B2 : Nat} {a w : World} (h : Span B B2 a w) {p : Addr} (hp : B ≤ p.block ∧ p.block < B2) (u : Value) : Span B B2 a (w.setCell p u) :=
  h.trans ⟨rfl, rfl, rfl, by simp [World.setCell], fun k _ ho => Below.heap_setCell _ _ _ _ (by omega)⟩
theorem Span.mono {B B2 C C2 : Nat} {a w : World} (h : Span B B2 a w) (h1 : C ≤ B) (h2 : B2 ≤ C2) : Span C C2 a w :=
  ⟨h.os, h.tape, h.output, h.size, fun k hk ho => h.block k hk (by omega)⟩
theorem Span.grown {B B2 : Nat} {a w w' : World} {row : Option Nat} (h : Span B B2 a w) (hg : w.grownBy w' row) (hr : ∀ k, row = some k → B ≤ k ∧ k < B2) : Span B B2 a w' :=
  h.trans ⟨hg.os, hg.tape, hg.output, hg.size, fun k hk ho => hg.block k hk (fun e => by have := hr k e.symm; omega)⟩

/-- A slice of integers that lies in the range. -/
def OI (w : World) (B B2 : Nat) (a : Option Addr) (c : Nat) (xs : List Int) : Prop := OwnI w B a c xs ∧ ∀ k, blockOf a = some k → k < B2

theorem OI.of {w : World} {B : Nat} {a : Option Addr} {c : Nat} {xs : List Int} (h : OwnI w B a c xs) : OI w B w.heap.size a c xs := ⟨h, fun k hk => (h.block k hk).2⟩
theorem OI.vals {w : World} {B B2 : Nat} {a : Option Addr} {c : Nat} {xs : List Int} (h : OI w B B2 a c xs) : Vals w a (I xs) := h.1.vals
theorem OI.ext {w w' : World} {B B2 : Nat} {a : Option Addr} {c : Nat} {xs : List Int} (h : OI w B B2 a c xs) (he : Ext w w') : OI w' B B2 a c xs := ⟨h.1.ext he, h.2⟩
theorem OwnI.of_block {w w' : World} {B : Nat} {a : Option Addr} {c : Nat} {xs : List Int} (h : OwnI w B a c xs) (hb : ∀ k, blockOf a = some k → w'.heap[k]? = w.heap[k]?) : OwnI w' B a c xs := by
  refine ⟨h.1, ?_⟩
  rcases h.2 with hn | ⟨g, cap, cur, hv, hB, hg, r⟩
  · exact .inl hn
  · refine .inr ⟨g, cap, cur, hv, hB, ?_, r⟩
    rw [hb g (by injection hv with h1; rw [h1]; rfl)]
    exact hg
theorem OI.span {w w' : World} {B B2 C C2 : Nat} {a : Option Addr} {c : Nat} {xs : List Int} (h : OI w B B2 a c xs) (hs : Span C C2 w w') (hd : B2 ≤ C ∨ C2 ≤ B) : OI w' B B2 a c xs :=
  ⟨h.1.of_block fun k hk => hs.block k (h.1.block k hk).2 (by have := (h.1.block k hk).1; have := h.2 k hk; omega), h.2⟩
theorem OI.mono {w : World} {B B2 C C2 : Nat} {a : Option Addr} {c : Nat} {xs : List Int} (h : OI w B B2 a c xs) (h1 : C ≤ B) (h2 : B2 ≤ C2) : OI w C C2 a c xs :=
  ⟨h.1.more h1, fun k hk => Nat.lt_of_lt_of_le (h.2 k hk) h2⟩
theorem OI.nil (w : World) (B B2 : Nat) : OI w B B2 none 0 [] := ⟨OwnI.nil _ _, fun k hk => by simp [blockOf] at hk⟩

/-- Two slices do not begin in one block. -/
def Apart (a b : Option Addr) : Prop := ∀ k, blockOf a = some k → blockOf b ≠ some k
theorem Apart.symm {a b : Option Addr} (h : Apart a b) : Apart b a := fun k h1 h2 => h k h2 h1
theorem OI.apart {w w' : World} {B B2 C C2 : Nat} {a b : Option Addr} {c d : Nat} {xs ys : List Int} (h : OI w B B2 a c xs) (h' : OI w' C C2 b d ys) (hd : B2 ≤ C) : Apart a b := fun k h1 h2 => by
  have := h.2 k h1
  have := (h'.1.block k h2).1
  omega

/-- Rows that lie in the range, each in a block of its own. -/
structure RowsO (w : World) (B B2 : Nat) (rs : List (Option Addr × Nat)) (xss : List (List Int)) : Prop where
  len : rs.length = xss.length
  row : ∀ (i : Nat) (r : Option Addr × Nat) (xs : List Int), rs[i]? = some r → xss[i]? = some xs → OI w B B2 r.1 r.2 xs
  apart : ∀ (i j : Nat) (r r' : Option Addr × Nat), i < j → rs[i]? = some r → rs[j]? = some r' → Apart r.1 r'.1

section
variable {w w' : World} {B B2 C C2 : Nat} {rs : List (Option Addr × Nat)} {xss : List (List Int)}
theorem RowsO.nil (w : World) (B B2 : Nat) : RowsO w B B2 [] [] := ⟨rfl, fun i r xs h => by simp at h, fun i j r r' _ h => by simp at h⟩
theorem RowsO.ext (h : RowsO w B B2 rs xss) (he : Ext w w') : RowsO w' B B2 rs xss := ⟨h.len, fun i r xs hr hx => (h.row i r xs hr hx).ext he, h.apart⟩
theorem RowsO.span (h : RowsO w B B2 rs xss) (hs : Span C C2 w w') (hd : B2 ≤ C ∨ C2 ≤ B) : RowsO w' B B2 rs xss := ⟨h.len, fun i r xs hr hx => (h.row i r xs hr hx).span hs hd, h.apart⟩
theorem RowsO.mono (h : RowsO w B B2 rs xss) (h1 : C ≤ B) (h2 : B2 ≤ C2) : RowsO w C C2 rs xss := ⟨h.len, fun i r xs hr hx => (h.row i r xs hr hx).mono h1 h2, h.apart⟩
theorem RowsO.push (h : RowsO w B B2 rs xss) {ra : Option Addr} {rc : Nat} {xs : List Int} (hr : OI w B2 C2 ra rc xs) (hB : B ≤ B2) (hC : B2 ≤ C2) : RowsO w B C2 (rs ++ [(ra, rc)]) (xss ++ [xs]) := by
  refine ⟨by simp [h.len], fun i r ys hi hx => ?_, fun i j r r' hij hi hj => ?_⟩
  · rcases Nat.lt_or_ge i rs.length with hlt | hge
    · rw [List.getElem?_append_left hlt] at hi
      rw [List.getElem?_append_left (by rw [← h.len]; exact hlt)] at hx
      exact (h.row i r ys hi hx).mono (Nat.le_refl _) hC
    · rw [List.getElem?_append_right hge] at hi
      rw [List.getElem?_append_right (by rw [← h.len]; exact hge), ← h.len] at hx
      have h0 : i - rs.length = 0 := by have := (List.getElem?_eq_some_iff.1 hi).1; simpa using this
      rw [h0] at hi hx
      simp at hi hx
      subst hi hx
      exact hr.mono hB (Nat.le_refl _)
  · rcases Nat.lt_or_ge j rs.length with hlt | hge
    · rw [List.getElem?_append_left hlt] at hj
      rw [List.getElem?_append_left (by omega)] at hi
      exact h.apart i j r r' hij hi hj
    · have hjl := (List.getElem?_eq_some_iff.1 hj).1
      simp at hjl
      rw [List.getElem?_append_left (by omega)] at hi
      rw [List.getElem?_append_right hge, show j - rs.length = 0 by omega] at hj
      simp at hj
      subst hj
      have hx : xss[i]? = some (xss[i]'(by rw [← h.len]; omega)) := List.getElem?_eq_getElem _
      exact (h.row i r _ hi hx).apart hr (Nat.le_refl _)
end

/-- A slice of rows, all of it in the range. -/
def OM (w : World) (B B2 : Nat) (a : Option Addr) (c : Nat) (xss : List (List Int)) : Prop :=
  ∃ rs, w.ownsRow B 32 1 (.slice a xss.length c) xss.length (RV rs xss) ∧ (∀ k, blockOf a = some k → k < B2) ∧ RowsO w B B2 rs xss

/-- A slice of rows that can be read. -/
def MatR (w : World) (a : Option Addr) (xss : List (List Int)) : Prop := ∃ rs, Mat w a rs xss
theorem MatR.ext {w w' : World} {a : Option Addr} {xss : List (List Int)} (h : MatR w a xss) (he : Ext w w') : MatR w' a xss := by
  obtain ⟨rs, h⟩ := h
  exact ⟨rs, h.ext he⟩
theorem MatR.at_ {w : World} {a : Option Addr} {xss : List (List Int)} (h : MatR w a xss) {k : Nat} (hk : k < xss.length) :
    ∃ b o ra rc xs, a = some ⟨b, o, none⟩ ∧ b < w.heap.size ∧ Hid (xss[k]? = some xs) ∧ w.cell? ⟨b, o + k, none⟩ = some (.slice ra xs.length rc) ∧ Vals w ra (I xs) := by
  obtain ⟨rs, h⟩ := h
  obtain ⟨b, o, ra, rc, xs, h1, h2, _, h4, h5, h6⟩ := h.at_ hk
  exact ⟨b, o, ra, rc, xs, h1, h2, h4, h5, h6⟩

section
variable {w w' : World} {B B2 C C2 : Nat} {a : Option Addr} {c : Nat} {xss : List (List Int)}
theorem OM.reads (h : OM w B B2 a c xss) : MatR w a xss := by
  obtain ⟨rs, h1, h2, h3⟩ := h
  exact ⟨rs, h3.len, Vals.of_own h1, fun i r xs hr hx => (h3.row i r xs hr hx).vals⟩
theorem ownsRow_of_block {e : TypeId} {n : Nat} {vs : List Value} (h : w.ownsRow B e 1 (.slice a n c) n vs) (hb : ∀ k, blockOf a = some k → w'.heap[k]? = w.heap[k]?) : w'.ownsRow B e 1 (.slice a n c) n vs := by
  refine ⟨h.1, ?_⟩
  rcases h.2 with hn | ⟨g, cap, cur, hv, hB, hg, r⟩
  · exact .inl hn
  · refine .inr ⟨g, cap, cur, hv, hB, ?_, r⟩
    rw [hb g (by injection hv with h1; rw [h1]; rfl)]
    exact hg
theorem ownsRow_block {e : TypeId} {n : Nat} {vs : List Value} (h : w.ownsRow B e 1 (.slice a n c) n vs) : ∀ k, blockOf a = some k → B ≤ k ∧ k < w.heap.size := fun k hk =>
  World.ownsRow.lt h k (by rw [ownBlock_slice]; exact hk)
theorem OM.ext (h : OM w B B2 a c xss) (he : Ext w w') : OM w' B B2 a c xss := by
  obtain ⟨rs, h1, h2, h3⟩ := h
  exact ⟨rs, ownsRow_of_block h1 fun k hk => he.block_eq (ownsRow_block h1 k hk).2, h2, h3.ext he⟩
theorem OM.span (h : OM w B B2 a c xss) (hs : Span C C2 w w') (hd : B2 ≤ C ∨ C2 ≤ B) : OM w' B B2 a c xss := by
  obtain ⟨rs, h1, h2, h3⟩ := h
  exact ⟨rs, ownsRow_of_block h1 fun k hk => hs.block k (ownsRow_block h1 k hk).2 (by have := (ownsRow_block h1 k hk).1; have := h2 k hk; omega), h2, h3.span hs hd⟩
theorem OM.mono (h : OM w B B2 a c xss) (h1 : C ≤ B) (h2 : B2 ≤ C2) : OM w C C2 a c xss := by
  obtain ⟨rs, q1, q2, q3⟩ := h
  refine ⟨rs, ⟨q1.1, ?_⟩, fun k hk => Nat.lt_of_lt_of_le (q2 k hk) h2, q3.mono h1 h2⟩
  rcases q1.2 with hn | ⟨g, cap, cur, hv, hb, r⟩
  · exact .inl hn
  · exact .inr ⟨g, cap, cur, hv, Nat.le_trans h1 hb, r⟩
end

/-- A call hands back new rows. -/
def NewM (w : World) (xss : List (List Int)) (e : Ending) (w' : World) : Prop := ∃ a c, e = .returned (.slice a xss.length c) ∧ OM w' w.heap.size w'.heap.size a c xss ∧ Ext w w'

end Go.Proofs.Ytkegknophppdgaa
