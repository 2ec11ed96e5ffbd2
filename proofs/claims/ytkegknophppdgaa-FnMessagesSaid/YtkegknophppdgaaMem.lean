/- Words for slices of integers that a call owns, over this program's type numbers. -/
import Derived.Test.YtkegknophppdgaaProg
import Derived.Test.YtkegknophppdgaaBase
import Derived.KernelRfl
namespace Go.Proofs.Ytkegknophppdgaa
open Go.RowKit
set_option linter.unusedVariables false
set_option maxRecDepth 20000

theorem infoInt : (Try.prog.info? 3).map (fun i => (i.zero, i.size, i.bytes)) = some (some (.int .i64 0), 1, 8) := by kernel_rfl

theorem infoByte : (Try.prog.info? 5).map (fun i => (i.zero, i.size, i.bytes)) = some (some (.int .u8 0), 1, 1) := by kernel_rfl

theorem infoInts : (Try.prog.info? 32).map (fun i => (i.zero, i.size, i.bytes)) = some (some (.slice none 0 0), 1, 24) := by kernel_rfl

/-- The slice value '.slice a xs.length c' owns the integers xs, in a block from B on. -/
def OwnI (w : World) (B : Nat) (a : Option Addr) (c : Nat) (xs : List Int) : Prop := w.ownsRow B 3 1 (.slice a xs.length c) xs.length (I xs)

/-- A call hands back a new slice of the integers xs. -/
def NewI (w : World) (xs : List Int) (e : Ending) (w' : World) : Prop := ∃ a c, e = .returned (.slice a xs.length c) ∧ OwnI w' w.heap.size a c xs ∧ Ext w w'

theorem OwnI.vals {w : World} {B : Nat} {a : Option Addr} {c : Nat} {xs : List Int} (h : OwnI w B a c xs) : Vals w a (I xs) := Vals.of_own h
theorem OwnI.ext {w w' : World} {B : Nat} {a : Option Addr} {c : Nat} {xs : List Int} (h : OwnI w B a c xs) (he : Ext w w') : OwnI w' B a c xs := by
  refine ⟨h.1, ?_⟩
  rcases h.2 with hn | ⟨g, cap, cur, hv, hb, hg, r⟩
  · exact .inl hn
  · exact .inr ⟨g, cap, cur, hv, hb, (he.block_eq (Array.getElem?_eq_some_iff.1 hg).1).trans hg, r⟩

end Go.Proofs.Ytkegknophppdgaa
