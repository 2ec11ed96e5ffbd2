/- CombinePackets: what it says, plain; rows of heads. -/
import Derived.Test.YtkegknophppdgaaPkl
import Derived.Test.YtkegknophppdgaaCode
import Derived.Deep.RegionHeld3
import Derived.Deep.QuietTactic
import Derived.BigQuiet
namespace Go.Proofs.Ytkegknophppdgaa
open Go.RowKit
set_option linter.unusedVariables false
set_option maxRecDepth 20000

/-- The coefficients (payloads) of the first k packets. -/
def colX (ps : List Pk) (k : Nat) : List (List Int) := (ps.take k).map (·.2.1)
def colY (ps : List Pk) (k : Nat) : List (List Int) := (ps.take k).map (·.2.2)
theorem colX_succ {ps : List Pk} {k : Nat} {p : Pk} (h : ps[k]? = some p) : colX ps (k + 1) = colX ps k ++ [p.2.1] := by
  unfold colX
  rw [List.take_add_one, h]
  simp
theorem colY_succ {ps : List Pk} {k : Nat} {p : Pk} (h : ps[k]? = some p) : colY ps (k + 1) = colY ps k ++ [p.2.2] := by
  unfold colY
  rw [List.take_add_one, h]
  simp
theorem colX_len (ps : List Pk) (k : Nat) : (colX ps k).length ≤ ps.length := by simp [colX]; omega
theorem colY_len (ps : List Pk) (k : Nat) : (colY ps k).length ≤ ps.length := by simp [colY]; omega
def pkId (ps : List Pk) (k : Nat) : Int := (ps.getD k (0, [], [])).1
theorem pkId_at {ps : List Pk} {k : Nat} {n : Int} {xs ys : List Int} (h : ps[k]? = some (n, xs, ys)) : pkId ps k = n := by simp [pkId, List.getD, h]
/-- All packets are of the first one's generation. -/
def sameTo (ps : List Pk) : Nat → Bool
  | 0 => true
  | k + 1 => sameTo ps k && decide (pkId ps k = pkId ps 0)
theorem sameTo_no {ps : List Pk} {k : Nat} (h : sameTo ps k = false) : ∀ j, k ≤ j → sameTo ps j = false := by
  intro j hj
  induction j with
  | zero => rwa [show k = 0 by omega] at h
  | succ j ih =>
    by_cases e : k = j + 1
    · rw [← e]; exact h
    · simp only [sameTo, ih (by omega), Bool.false_and]
def cpX (ps : List Pk) (cs : List Int) : List Int := comb (colX ps ps.length) cs
def cpY (ps : List Pk) (cs : List Int) : List Int := comb (colY ps ps.length) cs
def cpOk (ps : List Pk) (cs : List Int) : Bool := sameTo ps ps.length && (decide (¬ (cpX ps cs).length = 0) && decide (¬ (cpY ps cs).length = 0))
def cpN (ps : List Pk) (cs : List Int) : Int := if cpOk ps cs then pkId ps 0 else 0
def cpU (ps : List Pk) (cs : List Int) : List Int := if cpOk ps cs then cpX ps cs else []
def cpV (ps : List Pk) (cs : List Int) : List Int := if cpOk ps cs then cpY ps cs else []

/-- A slice of rows that can be read in the world w0 (the rows) and is ours (the heads). -/
def HS (w0 w : World) (B : Nat) (a : Option Addr) (c : Nat) (yss : List (List Int)) : Prop :=
  ∃ rs, rs.length = yss.length ∧ w.ownsRow B 32 1 (.slice a yss.length c) yss.length (RV rs yss) ∧ ∀ (i : Nat) (r : Option Addr × Nat) (xs : List Int), rs[i]? = some r → yss[i]? = some xs → Vals w0 r.1 (I xs)
theorem HS.nil (w0 w : World) (B : Nat) : HS w0 w B none 0 [] := ⟨[], rfl, World.ownsRow_nil _ _ _ _, fun i r xs hr => by simp at hr⟩
section
variable {w0 w w' : World} {B : Nat} {a : Option Addr} {c : Nat} {yss : List (List Int)}
theorem HS.ext (h : HS w0 w B a c yss) (he : Ext w w') : HS w0 w' B a c yss := by
  obtain ⟨rs, h1, h2, h3⟩ := h
  exact ⟨rs, h1, ownsRow_of_block h2 fun k hk => he.block_eq (ownsRow_block h2 k hk).2, h3⟩
theorem HS.block (h : HS w0 w B a c yss) (k : Nat) (hk : blockOf a = some k) : B ≤ k ∧ k < w.heap.size := by
  obtain ⟨rs, h1, h2, h3⟩ := h
  exact ownsRow_block h2 k hk
theorem HS.reads (h : HS w0 w B a c yss) (he : Ext w0 w) : MatR w a yss := by
  obtain ⟨rs, h1, h2, h3⟩ := h
  exact ⟨rs, h1, Vals.of_own h2, fun i r xs hr hx => (h3 i r xs hr hx).ext he⟩
theorem HS.kept {row : Option Nat} (h : HS w0 w B a c yss) (hg : w.grownBy w' row) (hne : ∀ k, blockOf a = some k → row ≠ some k) : HS w0 w' B a c yss := by
  obtain ⟨rs, h1, h2, h3⟩ := h
  exact ⟨rs, h1, ownsRow_of_block h2 fun k hk => hg.block k (ownsRow_block h2 k hk).2 (fun e => hne k hk e.symm), h3⟩
end
/-- append(rows, row) where only the row's head is copied. -/
theorem wpList_appH {ops : Array Oper} {rest : List Oper} {o : Oper} {a : Act} {Q : Exit → Act → World → Prop} (w0 w : World) (hgd : o.guard = none) (s x : Operand)
    (ho : o.op = .call { callee := .builtin .append, args := #[s, x], argTypes := #[48, 48] })
    (B : Nat) (a0 : Option Addr) (c : Nat) (xss : List (List Int)) (hs : a.eval s = .slice a0 xss.length c) (hown : HS w0 w B a0 c xss)
    (A : Option Addr) (d : Nat) (ra : Option Addr) (rc : Nat) (xs : List Int) (hx : a.eval x = .slice A 1 d) (hv : Vals w A [.slice ra xs.length rc]) (hr : Vals w0 ra (I xs))
    (zss : List (List Int)) (hz : zss = xss ++ [xs]) (h63 : xss.length + 1 ≤ 1099511627776) (hbase : B ≤ w.heap.size)
    (h : ∀ a' c' w', HS w0 w' B a' c' zss → w.grownBy w' (blockOf a0) → (blockOf a' = blockOf a0 ∨ blockOf a' = some w.heap.size) → wpList Try.prog ops Q rest (a.put o.dst (.slice a' zss.length c')) w') :
    wpList Try.prog ops Q (o :: rest) a w := by
  obtain ⟨rs, hl, hown, hrow⟩ := hown
  obtain ⟨i, hi, hz0, hz1, hz2⟩ := info_parts infoInts
  refine wpList_app w hgd s x 48 ho B 32 i (.slice none 0 0) 24 Try.underlying48 hi hz0 hz1 hz2 rfl a0 xss.length c (RV rs xss) hs hown A 1 d [.slice ra xs.length rc] hx rfl hv (fun u hu => by simp at hu; subst hu; rfl) h63 (by omega) hbase ?_
  intro a' c' w' h1 h2 h3
  have hlz : zss.length = xss.length + 1 := by rw [hz, List.length_append]; rfl
  rw [← hlz] at h1 ⊢
  have hRV : RV rs xss ++ [.slice ra xs.length rc] = RV (rs ++ [(ra, rc)]) zss := by
    rw [hz]
    unfold RV
    rw [List.zipWith_append hl]
    rfl
  rw [hRV] at h1
  refine h a' c' w' ⟨rs ++ [(ra, rc)], by simp [hl, hlz], h1, fun i r ys hr' hy => ?_⟩ h2 h3
  rw [hz] at hy
  by_cases hi : i < rs.length
  · rw [List.getElem?_append_left hi] at hr'
    rw [List.getElem?_append_left (by omega)] at hy
    exact hrow i r ys hr' hy
  · have hi2 := (List.getElem?_eq_some_iff.1 hr').1
    simp at hi2
    obtain rfl : i = rs.length := by omega
    rw [List.getElem?_append_right (by omega), Nat.sub_self] at hr'
    rw [List.getElem?_append_right (by omega), ← hl, Nat.sub_self] at hy
    simp at hr' hy
    subst hr' hy
    exact hr

theorem cp_bad {ps : List Pk} {cs : List Int} {k : Nat} {n n0 : Int} {xs ys xs0 ys0 : List Int} (h : ps[k]? = some (n, xs, ys)) (h0 : ps[0]? = some (n0, xs0, ys0)) (hb : n ≠ n0) : cpOk ps cs = false := by
  have hk := (List.getElem?_eq_some_iff.1 h).1
  have : sameTo ps ps.length = false := sameTo_no (k := k + 1) (by
    simp only [sameTo, pkId_at h, pkId_at h0]
    rw [decide_eq_false hb, Bool.and_false]) _ hk
  unfold cpOk
  rw [this, Bool.false_and]
theorem same_succ {ps : List Pk} {k : Nat} {n : Int} {xs ys xs0 ys0 : List Int} (h : ps[k]? = some (n, xs, ys)) (h0 : ps[0]? = some (n, xs0, ys0)) (hj : sameTo ps k = true) : sameTo ps (k + 1) = true := by
  simp only [sameTo, pkId_at h, pkId_at h0, hj, Bool.true_and]
  simp

end Go.Proofs.Ytkegknophppdgaa
