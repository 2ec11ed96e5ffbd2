/- Appending a row where a box p lies between the old rows and the new one: the rows stay when p is written. -/
import Derived.Test.YtninamlcffemoaaRowApp
import Derived.Test.YtninamlcffemoaaDgn
namespace Go.Proofs.Ytninamlcffemoaa
open Go.RowKit
set_option linter.unusedVariables false
set_option maxRecDepth 20000

theorem OM.grownH {w w' : World} {B C p : Nat} {a0 a' : Option Addr} {c c' : Nat} {xss : List (List Int)} {rs : List (Option Addr × Nat)} {ra : Option Addr} {rc : Nat} {xs : List Int}
    (q1 : w.ownsRow B 36 1 (.slice a0 xss.length c) xss.length (RV rs xss)) (q2 : ∀ k, blockOf a0 = some k → k < C) (q3 : RowsO w B C rs xss) (hrow : OI w (p + 1) w.heap.size ra rc xs) (hBC : B ≤ C) (hCp : C ≤ p) (hpw : p < w.heap.size)
    (h1 : w'.ownsRow B 36 1 (.slice a' (xss.length + 1) c') (xss.length + 1) (RV rs xss ++ [.slice ra xs.length rc])) (h2 : w.grownBy w' (blockOf a0)) (h3 : blockOf a' = blockOf a0 ∨ blockOf a' = some w.heap.size) (v : Value) (j : Nat) :
    OM (w'.setCell ⟨p, j, none⟩ v) B w'.heap.size a' c' (xss ++ [xs]) := by
  have hz := h2.size
  have hs : Span p (p + 1) w' (w'.setCell ⟨p, j, none⟩ v) := Span.one v
  have hp := q3.push (hrow.mono (C := C) (by omega) (Nat.le_refl _)) hBC (by omega)
  have hk : RowsO w' B w'.heap.size (rs ++ [(ra, rc)]) (xss ++ [xs]) := (hp.kept h2 (fun r hr => by
    obtain ⟨i, hi⟩ := List.mem_iff_getElem?.1 hr
    have hil := (List.getElem?_eq_some_iff.1 hi).1
    have hx : (xss ++ [xs])[i]? = some ((xss ++ [xs])[i]'(by rw [← hp.len]; exact hil)) := List.getElem?_eq_getElem _
    have hap := block_ne q1 (hp.row i r _ hi hx).1 ints_ne
    cases hb : blockOf r.1 with
    | none => exact .inl rfl
    | some k => exact .inr (fun e => hap k e.symm hb))).mono (Nat.le_refl _) hz
  refine ⟨rs ++ [(ra, rc)], ?_, fun k hk => (ownsRow_block h1 k hk).2, ⟨hk.len, fun i r x hr hx => ?_, hk.apart⟩⟩
  · rw [RV_push q3.len, List.length_append]
    refine ownsRow_of_block h1 (fun k hk => hs.block k (ownsRow_block h1 k hk).2 ?_)
    rcases h3 with h3 | h3
    · rw [h3] at hk
      have := q2 k hk
      omega
    · rw [h3] at hk
      injection hk with hk
      omega
  · have ho := hk.row i r x hr hx
    refine ⟨OwnI.of_block ho.1 (fun k hkb => hs.block k (ho.1.block k hkb).2 ?_), ho.2⟩
    have hil := (List.getElem?_eq_some_iff.1 hr).1
    rw [List.length_append, List.length_singleton] at hil
    by_cases hi : i < rs.length
    · rw [List.getElem?_append_left hi] at hr
      have hix : i < xss.length := by rw [← q3.len]; exact hi
      rw [List.getElem?_append_left hix] at hx
      have := (q3.row i r x hr hx).2 k hkb
      omega
    · obtain rfl : i = rs.length := by omega
      rw [List.getElem?_append_right (Nat.le_refl _), Nat.sub_self] at hr
      simp at hr
      subst hr
      have := (hrow.1.block k hkb).1
      omega

/-- append(rows, row) at a step of a drawn region, where a box p lies between. -/
theorem step_appH {ops : Array Oper} {o : Oper} {a : Act} {K : Act → World → Prop} {Q : Exit → Act → World → Prop} {E : Prop} (w : World) (hgd : o.guard = none) (s x : Operand)
    (ho : o.op = .call { callee := .builtin .append, args := #[s, x], argTypes := #[22, 22] })
    (B C p : Nat) (a0 : Option Addr) (c : Nat) (xss : List (List Int)) (hs : a.eval s = .slice a0 xss.length c) (hown : OM w B C a0 c xss)
    (A : Option Addr) (d : Nat) (ra : Option Addr) (rc : Nat) (xs : List Int) (hx : a.eval x = .slice A 1 d) (hv : Vals w A [.slice ra xs.length rc]) (hrow : OI w (p + 1) w.heap.size ra rc xs) (hBC : B ≤ C) (hCp : C ≤ p) (hpw : p < w.heap.size)
    (yss : List (List Int)) (hy : yss = xss ++ [xs]) (h63 : xss.length + 1 ≤ 1099511627776)
    (h : ∀ a' c' w', (∀ v j, OM (w'.setCell ⟨p, j, none⟩ v) B w'.heap.size a' c' yss) → w.grownBy w' (blockOf a0) → K (a.put o.dst (.slice a' yss.length c')) w') :
    if Region.wanted o (yielded ops a.tmps) = true then Oper.wp Try.prog o a w K Q else E := by
  have hw : Region.wanted o (yielded ops a.tmps) = true := by simp [Region.wanted, hgd]
  rw [if_pos hw]
  obtain ⟨rs, q1, q2, q3⟩ := hown
  obtain ⟨i, hi, hz0, hz1, hz2⟩ := info_parts infoInts
  obtain ⟨a', c', w', hr, h1, h2, h3⟩ := run_app (P := Try.prog) w B 22 o.type 36 i (.slice none 0 0) 24 Try.underlying22 hi hz0 hz1 hz2 rfl a0 xss.length c (RV rs xss) q1 A 1 d [.slice ra xs.length rc] rfl hv (by simp [Value.oneCell']) h63 (by omega) (by omega)
  unfold Oper.wp
  simp only [execOp, ho, resolve, invoke, builtin, Sem.run_bind, Sem.run_pure, Result.andThen_ok, List.map_toArray, List.map_cons, List.map_nil, hs, hx, hr]
  have := OM.grownH q1 q2 q3 hrow hBC hCp hpw h1 h2 h3
  have hl : yss.length = xss.length + 1 := by rw [hy]; simp
  rw [← hl]
  rw [← hy] at this
  exact h a' c' w' this h2

end Go.Proofs.Ytninamlcffemoaa
