/- Draws of generations: boxes of two cells; contracts of l10Gen, l10Any. -/
import Derived.Test.YtninamlcffemoaaDrm
import Derived.Test.YtninamlcffemoaaPairs
namespace Go.Proofs.Ytninamlcffemoaa
open Go.RowKit
set_option linter.unusedVariables false
set_option maxRecDepth 20000

/-- Two cells of a block that may be written. -/
def Box2 (w : World) (p : Nat) (u v : Value) : Prop := w.cell? ⟨p, 0, none⟩ = some u ∧ w.cell? ⟨p, 1, none⟩ = some v ∧ ∀ j, w.frozen? ⟨p, j, none⟩ = false
section
variable {w w' : World} {p : Nat} {u v : Value}
theorem Box2.lt (h : Box2 w p u v) : p < w.heap.size := World.block_lt_of_cell? _ _ h.1
theorem Box2.new (w : World) (u v : Value) (e : TypeId) : Box2 (w.alloc (.cells #[u, v] e)) w.heap.size u v := ⟨by simp, by simp, fun j => by simp⟩
theorem Box2.at_ (h : Box2 w p u v) (hb : w'.heap[p]? = w.heap[p]?) : Box2 w' p u v :=
  ⟨(World.cell?_of_block hb).trans h.1, (World.cell?_of_block hb).trans h.2.1, fun j => (World.frozen?_of_block hb).trans (h.2.2 j)⟩
theorem Box2.ext (h : Box2 w p u v) (he : Ext w w') : Box2 w' p u v := h.at_ (he.block_eq h.lt)
theorem Box2.span {C C2 : Nat} (h : Box2 w p u v) (hs : Span C C2 w w') (hd : p < C ∨ C2 ≤ p) : Box2 w' p u v := h.at_ (hs.block p h.lt hd)
theorem Box2.grown {row : Option Nat} (h : Box2 w p u v) (hg : w.grownBy w' row) (hr : row ≠ some p) : Box2 w' p u v := h.at_ (hg.block p h.lt (fun e => hr e.symm))
theorem Box2.put1 (h : Box2 w p u v) (z : Value) : Box2 (w.setCell ⟨p, 1, none⟩ z) p u z :=
  ⟨(World.cell?_setCell_other _ _ _ _ (by simp)).trans h.1, World.cell?_setCell_same _ _ _ h.2.1, fun j => by simpa using h.2.2 j⟩
theorem Box2.put0 (h : Box2 w p u v) (z : Value) : Box2 (w.setCell ⟨p, 0, none⟩ z) p z v :=
  ⟨World.cell?_setCell_same _ _ _ h.1, (World.cell?_setCell_other _ _ _ _ (by simp)).trans h.2.1, fun j => by simpa using h.2.2 j⟩
end
theorem Span.one {w : World} {p j : Nat} (v : Value) : Span p (p + 1) w (w.setCell ⟨p, j, none⟩ v) := (Span.refl p (p + 1) w).setCell (p := ⟨p, j, none⟩) ⟨Nat.le_refl _, Nat.lt_succ_self _⟩ v
theorem Cur.span {w w' : World} {g : Nat} {a : Option Addr} {c : Nat} {bs : List Int} {C C2 : Nat} (h : Cur w g a c bs) (hs : Span C C2 w w') (hd : g < C) : Cur w' g a c bs :=
  h.keep fun k hk => hs.block k (by have := h.lt; omega) (.inl (by omega))
/-- A change of blocks that are newer than a is none for a. -/
theorem Span.newer {B B2 C C2 : Nat} {a w w' : World} (h : Span B B2 a w) (hs : Span C C2 w w') (hC : a.heap.size ≤ C) : Span B B2 a w' :=
  ⟨hs.os.trans h.os, hs.tape.trans h.tape, hs.output.trans h.output, Nat.le_trans h.size hs.size, fun k hk hd => (hs.block k (Nat.lt_of_lt_of_le hk h.size) (.inl (by omega))).trans (h.block k hk hd)⟩

def DrG (g : Nat) (a : Option Addr) (c : Nat) (bs : List Int) (P : Int → List (List Int) → Prop) (w : World) (e : Ending) (w' : World) : Prop :=
  ∃ n a2 c2 xss, e = .returned (bsV n a2 c2 xss) ∧ P n xss ∧ OM w' w.heap.size w'.heap.size a2 c2 xss ∧ Cur w' g a c bs ∧ Span g (g + 1) w w'

/-- What the result's cells, stored last, leave. -/
theorem gen_fin {w W : World} {g : Nat} {a : Option Addr} {c : Nat} {bs : List Int} {a1 : Option Addr} {c1 C C2 : Nat} {xss : List (List Int)} (hg : g < w.heap.size) (hs : Span g (g + 1) w W) (hc : Cur W g a c bs) (hM : OM W C C2 a1 c1 xss) (hC : w.heap.size < C) (hC2 : C2 ≤ W.heap.size) :
    Hid (∀ u v, OM ((W.setCell ⟨w.heap.size, 0, none⟩ u).setCell ⟨w.heap.size, 1, none⟩ v) w.heap.size ((W.setCell ⟨w.heap.size, 0, none⟩ u).setCell ⟨w.heap.size, 1, none⟩ v).heap.size a1 c1 xss ∧
      Cur ((W.setCell ⟨w.heap.size, 0, none⟩ u).setCell ⟨w.heap.size, 1, none⟩ v) g a c bs ∧ Span g (g + 1) w ((W.setCell ⟨w.heap.size, 0, none⟩ u).setCell ⟨w.heap.size, 1, none⟩ v)) := fun u v =>
  ⟨((hM.span (Span.one u) (.inr (by omega))).span (Span.one v) (.inr (by omega))).mono (by omega) (by simp; omega), (hc.span (Span.one u) hg).span (Span.one v) hg, (hs.newer (Span.one u) (Nat.le_refl _)).newer (Span.one v) (Nat.le_refl _)⟩

end Go.Proofs.Ytninamlcffemoaa
