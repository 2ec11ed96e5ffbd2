/- Contracts of IsConsistent (program and reference); its law. -/
import Derived.Test.YtkegknophppdgaaCode
import Derived.Test.YtkegknophppdgaaLawCode
import Derived.Deep.RegionHeld3
namespace Go.Proofs.Ytkegknophppdgaa
open Go.RowKit
set_option linter.unusedVariables false
set_option maxRecDepth 20000

theorem OPk.monoC {w : World} {B B2 C C2 : Nat} {a b : Option Addr} {c d : Nat} {xs ys : List Int} (h : OPk w B B2 a c xs b d ys) (h1 : C ≤ B) (h2 : B2 ≤ C2) : OPk w C C2 a c xs b d ys := ⟨h.left.mono h1 h2, h.right.mono h1 h2, h.apart⟩

def consist (n : Int) (xss : List (List Int)) (m : Int) (cs ys : List Int) : Bool := codeOk n xss cs && eqPk m cs ys (codeN n xss cs) (codeC n xss cs) (codeP n xss cs)
theorem eqPk_comm (n : Int) (xs ys : List Int) (n' : Int) (xs' ys' : List Int) : eqPk n xs ys n' xs' ys' = eqPk n' xs' ys' n xs ys := by
  unfold eqPk
  rw [decide_eq_decide.2 (show n = n' ↔ n' = n from ⟨Eq.symm, Eq.symm⟩), decide_eq_decide.2 (show xs = xs' ↔ xs' = xs from ⟨Eq.symm, Eq.symm⟩), decide_eq_decide.2 (show ys = ys' ↔ ys' = ys from ⟨Eq.symm, Eq.symm⟩)]

set_option maxHeartbeats 4000000 in
set_option maxRecDepth 100000 in
theorem implIsConsistent_ok (n : Int) (a : Option Addr) (c : Nat) (xss : List (List Int)) (m : Int) (a' : Option Addr) (c' : Nat) (cs : List Int) (b' : Option Addr) (d' : Nat) (ys : List Int) (w : World) (h : MatR w a xss) (h1 : Vals w a' (I cs)) (h2 : Vals w b' (I ys)) (hm : xss.length ≤ 1048576) (hr : ∀ xs ∈ xss, xs.length ≤ 1048576) (hmc : cs.length ≤ 1048576) (hmy : ys.length ≤ 1048576) :
    Calls Try.prog 70 #[bsV n a c xss, pkV m a' c' cs b' d' ys] w (Gives w (.bool (consist n xss m cs ys))) := by
  have E0 := ((Ext.refl w).alloc (.cells #[.int .i64 n, .slice a xss.length c] 53)).alloc (.cells #[.int .i64 m, .slice a' cs.length c', .slice b' ys.length d'] 35)
  have q := implCodePacket_ok n a c xss a' c' cs _ (h.ext E0) (h1.ext E0) hm hr hmc
  obtain ⟨bc, bp⟩ := code_bounds n xss cs
  have H1 := Lib.hid h1
  have H2 := Lib.hid h2
  clear h h1 h2 hr E0
  cases hk : codeOk n xss cs
  all_goals
    rw [hk] at q
    have Q := Lib.hid q
    have HK := Lib.hid hk
    clear q hk
    go_enter Try.func70, Try.ntmps70
    go_wp2_with fail
    refine Q.out.mono ?_
    rintro e w1 ⟨a1, c1, b1, d1, rfl, o1, o2, hap, e1⟩
    have e01 := (((Ext.refl w).alloc _).alloc _).trans e1
    have p0 := e1.cell (p := ⟨w.heap.size + 1, 0, none⟩) (v := .int .i64 m) (by simp)
    have p1 := e1.cell (p := ⟨w.heap.size + 1, 1, none⟩) (v := .slice a' cs.length c') (by simp)
    have p2 := e1.cell (p := ⟨w.heap.size + 1, 2, none⟩) (v := .slice b' ys.length d') (by simp)
    have lit : Obj := .cells #[.int .i64 (codeN n xss cs), .slice a1 (codeC n xss cs).length c1, .slice b1 (codeP n xss cs).length d1] 35
    have y0 := ((Ext.refl w1).alloc (.cells #[.int .i64 (codeN n xss cs), .slice a1 (codeC n xss cs).length c1, .slice b1 (codeP n xss cs).length d1] 35)).cell p0
    have y1 := ((Ext.refl w1).alloc (.cells #[.int .i64 (codeN n xss cs), .slice a1 (codeC n xss cs).length c1, .slice b1 (codeP n xss cs).length d1] 35)).cell p1
    have y2 := ((Ext.refl w1).alloc (.cells #[.int .i64 (codeN n xss cs), .slice a1 (codeC n xss cs).length c1, .slice b1 (codeP n xss cs).length d1] 35)).cell p2
    clear lit
    go_wp2_with fail
  · go_ret
    exact ⟨ret_bool (by unfold consist; rw [HK.out]; rfl), e01.alloc _⟩
  · refine ((implEqualPackets_ok _ _ _ _ _ _ _ _ _ _ _ _ _ _ _ (o1.vals.ext ((Ext.refl w1).alloc _)) (o2.vals.ext ((Ext.refl w1).alloc _)) (H1.out.ext (e01.alloc _)) (H2.out.ext (e01.alloc _)) (by omega) (by omega))).mono ?_
    rintro e w2 ⟨rfl, e2⟩
    go_wp2_with fail
    go_ret
    exact ⟨ret_bool (by unfold consist; rw [HK.out, Bool.true_and]; rw [eqPk_comm]), (e01.alloc _).trans e2⟩

end Go.Proofs.Ytkegknophppdgaa
