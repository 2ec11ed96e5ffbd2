/- Words of my own for memory: a slice that reads as a list of cells; a world that only grew. No program is named. -/
import Derived.WalkKit
import Derived.Below
import Derived.Lib.Hide
import Derived.Deep.Draws
import Derived.Laws.OwnMore
namespace Go.Proofs.Ytkegknophppdgaa
open Go.RowKit
set_option linter.unusedVariables false
set_option maxRecDepth 20000

/-- The world only grew: every block that was there is as it was. -/
def Ext (w w' : World) : Prop := Below w.heap.size w w'

theorem Ext.refl (w : World) : Ext w w := Below.refl _ _
theorem Ext.trans {a b c : World} (h : Ext a b) (k : Ext b c) : Ext a c := Below.trans h (Below.mono k h.size)
theorem Ext.drew {a w : World} (h : Ext a w) : Ext a w.drew := Below.drew h
theorem Ext.drewN {a w : World} (h : Ext a w) (n : Nat) : Ext a (w.drewN n) := ⟨h.os, h.tape, h.output, h.size, h.block⟩
theorem Ext.alloc {a w : World} (h : Ext a w) (o : Obj) : Ext a (w.alloc o) := Below.alloc h h.size o
theorem Ext.setCell {a w : World} (h : Ext a w) {p : Addr} (hp : a.heap.size ≤ p.block) (u : Value) : Ext a (w.setCell p u) := Below.setCell h hp u
theorem Ext.size_le {a w : World} (h : Ext a w) : a.heap.size ≤ w.heap.size := h.size
theorem Ext.block_eq {a w : World} (h : Ext a w) {k : Nat} (hk : k < a.heap.size) : w.heap[k]? = a.heap[k]? := Below.block h k hk
theorem Ext.grown {a w w' : World} {row : Option Nat} (h : Ext a w) (hg : w.grownBy w' row) (hr : ∀ k, row = some k → a.heap.size ≤ k) : Ext a w' := Below.grown h hg h.size hr
theorem Ext.cell {a w : World} (h : Ext a w) {p : Addr} {v : Value} (hc : a.cell? p = some v) : w.cell? p = some v :=
  (World.cell?_of_block (h.block_eq (World.block_lt_of_cell? a p hc))).trans hc

theorem Ext.look {a w : World} (h : Ext a w) : (∀ b o, b < a.heap.size → w.cell? ⟨b, o, none⟩ = a.cell? ⟨b, o, none⟩) ∧ (∀ b o, b < a.heap.size → w.frozen? ⟨b, o, none⟩ = a.frozen? ⟨b, o, none⟩) :=
  ⟨fun b o hb => World.cell?_of_block (h.block_eq (k := b) hb), fun b o hb => World.frozen?_of_block (h.block_eq (k := b) hb)⟩

/-- The same world but for draws. -/
def Dr (w w' : World) : Prop := ∃ m, w' = w.drewN m
theorem Dr.refl (w : World) : Dr w w := ⟨0, rfl⟩
theorem Dr.drewN {a w : World} (h : Dr a w) (n : Nat) : Dr a (w.drewN n) := by
  obtain ⟨m, rfl⟩ := h
  exact ⟨m + n, World.drewN_drewN _ _ _⟩
theorem Dr.trans {a b c : World} (h : Dr a b) (k : Dr b c) : Dr a c := by
  obtain ⟨m, rfl⟩ := k
  exact h.drewN m
theorem Dr.ext {a w : World} (h : Dr a w) : Ext a w := by
  obtain ⟨m, rfl⟩ := h
  exact (Ext.refl a).drewN m

/-- A call hands back the value v and moves nothing but the count of draws. -/
def Quiet (w : World) (v : Value) (e : Ending) (w' : World) : Prop := e = .returned v ∧ Dr w w'
/-- A call hands back the value v; the world only grew. -/
def Gives (w : World) (v : Value) (e : Ending) (w' : World) : Prop := e = .returned v ∧ Ext w w'
theorem Quiet.gives {w : World} {v : Value} {e : Ending} {w' : World} (h : Quiet w v e w') : Gives w v e w' := ⟨h.1, h.2.ext⟩

/-- The cells that a slice value with address 'a' shows. -/
def Vals (w : World) (a : Option Addr) (vs : List Value) : Prop :=
  ∀ i (h : i < vs.length), ∃ b o, a = some ⟨b, o, none⟩ ∧ w.cell? ⟨b, o + i, none⟩ = some vs[i]

theorem Vals.nil (w : World) (a : Option Addr) : Vals w a [] := fun i h => absurd h (by simp)
theorem Vals.ext {w w' : World} {a : Option Addr} {vs : List Value} (h : Vals w a vs) (he : Ext w w') : Vals w' a vs := fun i hi => by
  obtain ⟨b, o, ha, hc⟩ := h i hi
  exact ⟨b, o, ha, he.cell hc⟩

/-- Integers. -/
abbrev I (xs : List Int) : List Value := xs.map (Value.int .i64)

theorem Vals.atI {w : World} {a : Option Addr} {xs : List Int} (h : Vals w a (I xs)) {k : Nat} (hk : k < xs.length) :
    ∃ b o x, a = some ⟨b, o, none⟩ ∧ b < w.heap.size ∧ Hid (xs[k]? = some x) ∧ w.cell? ⟨b, o + k, none⟩ = some (.int .i64 x) := by
  obtain ⟨b, o, ha, hc⟩ := h k (by simpa using hk)
  exact ⟨b, o, xs[k], ha, World.block_lt_of_cell? w _ hc, List.getElem?_eq_getElem hk, by simpa using hc⟩

/-- An owned slice of integers reads as its numbers. -/
theorem Vals.of_own {w : World} {B : Nat} {e : TypeId} {a : Option Addr} {n c : Nat} {vs : List Value} (h : w.ownsRow B e 1 (.slice a n c) n vs) : Vals w a vs := by
  intro i hi
  rcases h.2 with ⟨hv, hn⟩ | ⟨g, cap, cur, hv, _⟩
  · have := h.1; omega
  · injection hv with h1 h2 h3
    subst h1 h3
    refine ⟨g, 0, rfl, ?_⟩
    have hl := h.1
    rw [Nat.zero_add, h.cellAt i (by omega), List.getElem?_eq_getElem hi]

end Go.Proofs.Ytkegknophppdgaa
