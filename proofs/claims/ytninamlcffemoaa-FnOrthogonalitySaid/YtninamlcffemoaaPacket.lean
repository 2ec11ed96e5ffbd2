/- Contracts of the functions over coded packets that only read: szIntS, szCodedPacket, toCodedPacket, eqCodedPacket, IsZeroPacket, EqualPackets, IsValidPacket. -/
import Derived.Test.YtninamlcffemoaaVec
import Derived.Test.YtninamlcffemoaaOwn
import Derived.Test.YtninamlcffemoaaVals
namespace Go.Proofs.Ytninamlcffemoaa
open Go.RowKit
set_option linter.unusedVariables false
set_option maxRecDepth 20000

/-- What is left of an allowance: below 0 stands for 'too long'. -/
def szI (xs : List Int) (left : Int) : Int := if left - xs.length < 0 then -1 else left - xs.length

theorem szIntS_ok (a : Option Addr) (c : Nat) (xs : List Int) (left : Int) (w : World) (hm : xs.length ≤ maxLen) (h0 : 0 ≤ left) (h1 : left ≤ 1048576) :
    Calls Try.prog 73 #[.slice a xs.length c, .int .i64 left] w fun e w' => e = .returned (.int .i64 (szI xs left)) ∧ w = w' := by
  unfold maxLen at hm
  by_cases hn : left - xs.length < 0
  · go_enter Try.func73, Try.ntmps73
    go_wp2
    go_ret
    exact ⟨ret_int (by unfold szI; rw [if_pos hn]), rfl⟩
  · go_enter Try.func73, Try.ntmps73
    go_wp2
    go_ret
    exact ⟨ret_int (by unfold szI; rw [if_neg (by omega)]), rfl⟩

theorem szI_le {xs : List Int} {left : Int} (h : 0 ≤ szI xs left) : (xs.length : Int) ≤ left ∧ szI xs left = left - xs.length := by
  unfold szI at h ⊢
  split at h
  · omega
  · rename_i h'; rw [if_neg h']; omega

def szPk (xs ys : List Int) (left : Int) : Int := if szI xs left < 0 then -1 else szI ys (szI xs left)

theorem szPk_le {xs ys : List Int} {left : Int} (h : 0 ≤ szPk xs ys left) : (xs.length : Int) + ys.length ≤ left ∧ szPk xs ys left = left - xs.length - ys.length := by
  unfold szPk at h ⊢
  split at h
  · omega
  · rename_i h'
    rw [if_neg h']
    have h1 := szI_le (Int.not_lt.1 h')
    have h2 := szI_le h
    omega

/-- A call hands back a new packet. -/
def NewPk (w : World) (n : Int) (xs ys : List Int) (e : Ending) (w' : World) : Prop :=
  ∃ a c b d, e = .returned (pkV n a c xs b d ys) ∧ OwnI w' w.heap.size a c xs ∧ OwnI w' w.heap.size b d ys ∧ Apart a b ∧ Ext w w'

/-- The two slices of a packet, in a range, each in a block of its own. -/
structure OPk (w : World) (B B2 : Nat) (a : Option Addr) (c : Nat) (xs : List Int) (b : Option Addr) (d : Nat) (ys : List Int) : Prop where
  left : OI w B B2 a c xs
  right : OI w B B2 b d ys
  apart : Apart a b
section
variable {w w' : World} {B B2 C C2 : Nat} {a b : Option Addr} {c d : Nat} {xs ys : List Int}
theorem OPk.of (h1 : OwnI w B a c xs) (h2 : OwnI w B b d ys) (h3 : Apart a b) : OPk w B w.heap.size a c xs b d ys := ⟨OI.of h1, OI.of h2, h3⟩
theorem OPk.one (h : OPk w B B2 a c xs b d ys) : Vals w a (I xs) := h.left.vals
theorem OPk.two (h : OPk w B B2 a c xs b d ys) : Vals w b (I ys) := h.right.vals
theorem OPk.ext (h : OPk w B B2 a c xs b d ys) (he : Ext w w') : OPk w' B B2 a c xs b d ys := ⟨h.left.ext he, h.right.ext he, h.apart⟩
theorem OPk.span (h : OPk w B B2 a c xs b d ys) (hs : Span C C2 w w') (hd : B2 ≤ C ∨ C2 ≤ B) : OPk w' B B2 a c xs b d ys := ⟨h.left.span hs hd, h.right.span hs hd, h.apart⟩
end

def eqPk (n : Int) (xs ys : List Int) (n' : Int) (xs' ys' : List Int) : Bool := decide (n = n') && (decide (xs = xs') && decide (ys = ys'))
theorem eqPk_self (n : Int) (xs ys : List Int) : eqPk n xs ys n xs ys = true := by simp [eqPk]

theorem not_ne_of {n m : Int} (h : n = m) : (n != m) = false := by simp [h]
theorem eq_of {n m : Int} (h : n = m) : (n == m) = true := by simp [h]
theorem ne_of {n m : Int} (h : ¬ n = m) : (n != m) = true := by simp [h]
theorem not_eq_of {n m : Int} (h : ¬ n = m) : (n == m) = false := by simp [h]

def fmtOk (g s d : Int) : Bool := inR g 0 1000000000000 && (inR s 1 8 && inR d 1 16)

def validPk (g : Int) (xs ys : List Int) (s d : Int) : Bool := fmtOk g s d && (decide ((xs.length : Int) = s) && (decide ((ys.length : Int) = d) && (validV xs && validV ys)))

theorem fmtOk_cases (g s d : Int) : (inR g 0 1000000000000 = false ∧ fmtOk g s d = false) ∨ (inR g 0 1000000000000 = true ∧ inR s 1 8 = false ∧ fmtOk g s d = false) ∨ (inR g 0 1000000000000 = true ∧ inR s 1 8 = true ∧ inR d 1 16 = false ∧ fmtOk g s d = false) ∨
    (inR g 0 1000000000000 = true ∧ inR s 1 8 = true ∧ inR d 1 16 = true ∧ fmtOk g s d = true) := by
  unfold fmtOk
  cases inR g 0 1000000000000 <;> cases inR s 1 8 <;> cases inR d 1 16 <;> simp

def zeroPk (xs ys : List Int) : Bool := decide (leadI xs < 0) && decide (leadI ys < 0)

end Go.Proofs.Ytninamlcffemoaa
