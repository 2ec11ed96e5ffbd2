/- Appending a row to a slice of rows. -/
import Derived.Test.YtkegknophppdgaaMats
namespace Go.Proofs.Ytkegknophppdgaa
open Go.RowKit
set_option linter.unusedVariables false
set_option maxRecDepth 20000

theorem OI.kept {w w' : World} {B B2 : Nat} {a : Option Addr} {c : Nat} {xs : List Int} {row : Option Nat} (h : OI w B B2 a c xs) (hg : w.grownBy w' row) (hne : blockOf a = none ∨ blockOf a ≠ row) : OI w' B B2 a c xs := ⟨h.1.kept hg hne, h.2⟩
theorem RowsO.kept {w w' : World} {B B2 : Nat} {rs : List (Option Addr × Nat)} {xss : List (List Int)} (h : RowsO w B B2 rs xss) {row : Option Nat} (hg : w.grownBy w' row) (hne : ∀ r ∈ rs, blockOf r.1 = none ∨ blockOf r.1 ≠ row) : RowsO w' B B2 rs xss :=
  ⟨h.len, fun i r xs hr hx => (h.row i r xs hr hx).kept hg (hne r (List.mem_of_getElem? hr)), h.apart⟩

theorem OM.nil (w : World) (B B2 : Nat) : OM w B B2 none 0 [] := ⟨[], World.ownsRow_nil _ _ _ _, fun k hk => by simp [blockOf] at hk, RowsO.nil _ _ _⟩
theorem OM.block {w : World} {B B2 : Nat} {a : Option Addr} {c : Nat} {xss : List (List Int)} (h : OM w B B2 a c xss) : ∀ k, blockOf a = some k → B ≤ k ∧ k < w.heap.size := by
  obtain ⟨rs, q1, _⟩ := h
  exact ownsRow_block q1

/-- What an append of a row leaves. -/
theorem OM.grown {w w' : World} {B C : Nat} {a0 a' : Option Addr} {c c' : Nat} {xss : List (List Int)} {rs : List (Option Addr × Nat)} {ra : Option Addr} {rc : Nat} {xs : List Int}
    (q1 : w.ownsRow B 32 1 (.slice a0 xss.length c) xss.length (RV rs xss)) (q3 : RowsO w B C rs xss) (hrow : OI w C w.heap.size ra rc xs) (hBC : B ≤ C) (hC : C ≤ w.heap.size)
    (h1 : w'.ownsRow B 32 1 (.slice a' (xss.length + 1) c') (xss.length + 1) (RV rs xss ++ [.slice ra xs.length rc])) (h2 : w.grownBy w' (blockOf a0)) (hz : w.heap.size ≤ w'.heap.size) : OM w' B w'.heap.size a' c' (xss ++ [xs]) := by
  have hp := q3.push hrow hBC hC
  refine ⟨rs ++ [(ra, rc)], ?_, fun k hk => (ownsRow_block h1 k hk).2, (hp.kept h2 ?_).mono (Nat.le_refl _) hz⟩
  · rw [RV_push q3.len, List.length_append]
    exact h1
  · intro r hr
    obtain ⟨i, hi⟩ := List.mem_iff_getElem?.1 hr
    have hil := (List.getElem?_eq_some_iff.1 hi).1
    have hx : (xss ++ [xs])[i]? = some ((xss ++ [xs])[i]'(by rw [← hp.len]; exact hil)) := List.getElem?_eq_getElem _
    have hap := block_ne q1 (hp.row i r _ hi hx).1 ints_ne
    cases hb : blockOf r.1 with
    | none => exact .inl rfl
    | some k => exact .inr (fun e => hap k e.symm hb)

/-- append(rows, row). -/
theorem wpList_appM {ops : Array Oper} {rest : List Oper} {o : Oper} {a : Act} {Q : Exit → Act → World → Prop} (w : World) (hgd : o.guard = none) (s x : Operand)
    (ho : o.op = .call { callee := .builtin .append, args := #[s, x], argTypes := #[48, 48] })
    (B C : Nat) (a0 : Option Addr) (c : Nat) (xss : List (List Int)) (hs : a.eval s = .slice a0 xss.length c) (hown : OM w B C a0 c xss)
    (A : Option Addr) (d : Nat) (ra : Option Addr) (rc : Nat) (xs : List Int) (hx : a.eval x = .slice A 1 d) (hv : Vals w A [.slice ra xs.length rc]) (hrow : OI w C w.heap.size ra rc xs) (hBC : B ≤ C) (hC : C ≤ w.heap.size)
    (yss : List (List Int)) (hy : yss = xss ++ [xs]) (h63 : xss.length + 1 ≤ 1099511627776)
    (h : ∀ a' c' w', OM w' B w'.heap.size a' c' yss → w.grownBy w' (blockOf a0) → wpList Try.prog ops Q rest (a.put o.dst (.slice a' yss.length c')) w') :
    wpList Try.prog ops Q (o :: rest) a w := by
  obtain ⟨rs, q1, q2, q3⟩ := hown
  obtain ⟨i, hi, hz0, hz1, hz2⟩ := info_parts infoInts
  refine wpList_app w hgd s x 48 ho B 32 i (.slice none 0 0) 24 Try.underlying48 hi hz0 hz1 hz2 rfl a0 xss.length c (RV rs xss) hs q1 A 1 d [.slice ra xs.length rc] hx rfl hv (by simp [Value.oneCell']) h63 (by omega) (by omega) ?_
  intro a' c' w' h1 h2 h3
  have hz := h2.size
  have := OM.grown q1 q3 hrow hBC hC h1 h2 hz
  have hl : yss.length = xss.length + 1 := by rw [hy]; simp
  rw [← hl]
  rw [← hy] at this
  exact h a' c' w' this h2

/-- The same at a step of a region that draws its order. -/
theorem step_appM {ops : Array Oper} {o : Oper} {a : Act} {K : Act → World → Prop} {Q : Exit → Act → World → Prop} {E : Prop} (w : World) (hgd : o.guard = none) (s x : Operand)
    (ho : o.op = .call { callee := .builtin .append, args := #[s, x], argTypes := #[48, 48] })
    (B C : Nat) (a0 : Option Addr) (c : Nat) (xss : List (List Int)) (hs : a.eval s = .slice a0 xss.length c) (hown : OM w B C a0 c xss)
    (A : Option Addr) (d : Nat) (ra : Option Addr) (rc : Nat) (xs : List Int) (hx : a.eval x = .slice A 1 d) (hv : Vals w A [.slice ra xs.length rc]) (hrow : OI w C w.heap.size ra rc xs) (hBC : B ≤ C) (hC : C ≤ w.heap.size)
    (yss : List (List Int)) (hy : yss = xss ++ [xs]) (h63 : xss.length + 1 ≤ 1099511627776)
    (h : ∀ a' c' w', OM w' B w'.heap.size a' c' yss → w.grownBy w' (blockOf a0) → K (a.put o.dst (.slice a' yss.length c')) w') :
    if Region.wanted o (yielded ops a.tmps) = true then Oper.wp Try.prog o a w K Q else E := by
  have hw : Region.wanted o (yielded ops a.tmps) = true := by simp [Region.wanted, hgd]
  rw [if_pos hw]
  obtain ⟨rs, q1, q2, q3⟩ := hown
  obtain ⟨i, hi, hz0, hz1, hz2⟩ := info_parts infoInts
  obtain ⟨a', c', w', hr, h1, h2, h3⟩ := run_app (P := Try.prog) w B 48 o.type 32 i (.slice none 0 0) 24 Try.underlying48 hi hz0 hz1 hz2 rfl a0 xss.length c (RV rs xss) q1 A 1 d [.slice ra xs.length rc] rfl hv (by simp [Value.oneCell']) h63 (by omega) (by omega)
  unfold Oper.wp
  simp only [execOp, ho, resolve, invoke, builtin, Sem.run_bind, Sem.run_pure, Result.andThen_ok, List.map_toArray, List.map_cons, List.map_nil, hs, hx, hr]
  have hz := h2.size
  have := OM.grown q1 q3 hrow hBC hC h1 h2 hz
  have hl : yss.length = xss.length + 1 := by rw [hy]; simp
  rw [← hl]
  rw [← hy] at this
  exact h a' c' w' this h2

theorem OM.new0 (w : World) : OM (w.alloc (.cells #[] 32)) w.heap.size (w.alloc (.cells #[] 32)).heap.size (some ⟨w.heap.size, 0, none⟩) 0 [] := by
  have := World.ownsRow_lit (e := 32) (size := 1) (base := w.heap.size) w #[] 0 (Nat.le_refl _) (by unfold maxLen; omega) (by simp)
  refine ⟨[], by simpa [RV] using this, fun k hk => ?_, RowsO.nil _ _ _⟩
  simp [blockOf] at hk
  simp
  omega

theorem OM.grownBy {w w' : World} {B C : Nat} {a : Option Addr} {c : Nat} {xss : List (List Int)} {row : Option Nat} (h : OM w B C a c xss) (hg : w.grownBy w' row) (hr : ∀ k, row = some k → k < B ∨ C ≤ k) : OM w' B C a c xss := by
  cases row with
  | none => exact h.ext ((Ext.refl w).grown hg (by simp))
  | some k => exact h.span ((Span.refl k (k + 1) w).grown hg (fun j hj => by simp at hj; omega)) (by rcases hr k rfl with h | h <;> omega)

end Go.Proofs.Ytkegknophppdgaa
