/- How the arguments of a law read: integers, slices of integers, of bytes. -/
import Derived.Test.YtkegknophppdgaaOwn
import Derived.Test.YtkegknophppdgaaVals
import Derived.ProofKit
import Derived.OpenShut
import Derived.ChangeOld
import Derived.Lib.SmallJoins
import Derived.Deep.Matrix
namespace Go.Proofs.Ytkegknophppdgaa
open Go.ChangeShapes Go.WideShapes Go.ChangeAt Go.RowKit
set_option linter.unusedVariables false
set_option maxRecDepth 20000

theorem own_knob : ownKnob Try.prog.godebug = none := by kernel_rfl
theorem laid_out : laidOutB Try.prog = true := by kernel_rfl
theorem cellsInts : Try.prog.cellsOf 32 = 1 := by kernel_rfl
theorem cellsInt : Try.prog.cellsOf 3 = 1 := by kernel_rfl

/-- Numbers of the kind int. -/
def Fits (xs : List Int) : Prop := ∀ x ∈ xs, -9223372036854775808 ≤ x ∧ x ≤ 9223372036854775807

theorem wf_i64_bounds {n : Int} (h : (Lit.int .i64 n).wf = true) : -9223372036854775808 ≤ n ∧ n ≤ 9223372036854775807 := by
  simpa [Lit.wf, IntKind.min, IntKind.max, IntKind.signed, IntKind.bits] using h

section
variable {H : Type} {enc : TypeId × Value → H} {W : World} {base : Nat} {v : Value} {d : DataW H} {p : List MemPlace}

/-- The cells of a row that came in, as a slice's values. -/
theorem vals_of_cells {k : IntKind} {x : Addr} {zs : List Int} {len : Nat} (hl : len ≤ zs.length) (hcell : ∀ i, i < zs.length → W.cell? (x.add i) = some (.int k (zs.getD i 0))) :
    Vals W (some x) ((zs.take len).map (Value.int k)) := by
  intro i hi
  have hi' : i < len ∧ i < zs.length := by simp at hi; omega
  have hc0 := hcell 0 (by omega)
  obtain ⟨b, o, s⟩ := x
  have hs : s = none := by simpa [Addr.add] using World.cell?_spot hc0
  subst hs
  refine ⟨b, o, rfl, ?_⟩
  have hc := hcell i hi'.2
  rw [Addr.add_lit] at hc
  rw [hc]
  simp [List.getD, hi'.2]

theorem open_trod_ints {fuel : Nat} {y : DataW H × List MemPlace} (h : DataW.trod enc Try.prog W 0 (fun _ => true) true fuel 32 [v] = some y) :
    ∃ a c, ∃ xs : List Int, v = .slice a xs.length c ∧ Vals W a (I xs) ∧ xs.length ≤ maxLen ∧ Fits xs := by
  rcases open_ints Try.underlying32 Try.underlying3 cellsInt h with ⟨hcs, _⟩ | ⟨x, l, c', zs, hcs, _, hl, hm, hz, _, hcell, hwz⟩
  · simp at hcs
    subst hcs
    exact ⟨none, 0, [], rfl, Vals.nil _ _, by simp, by simp [Fits]⟩
  · simp at hcs
    subst hcs
    have hz' : zs.length = c' := by simpa using hz
    have hlen : (zs.take l).length = l := by simp; omega
    refine ⟨some x, c', zs.take l, by rw [hlen], vals_of_cells (by omega) hcell, by omega, fun x hx => wf_i64_bounds (hwz x (List.mem_of_mem_take hx))⟩

theorem open_trod_bytes {fuel : Nat} {y : DataW H × List MemPlace} (h : DataW.trod enc Try.prog W 0 (fun _ => true) true fuel 22 [v] = some y) :
    ∃ a c, ∃ xs : List Int, v = .slice a xs.length c ∧ Vals W a (xs.map (Value.int .u8)) ∧ xs.length ≤ maxLen ∧ ∀ x ∈ xs, 0 ≤ x ∧ x ≤ 255 := by
  rcases open_ints Try.underlying22 Try.underlying5 (show Try.prog.cellsOf 5 = 1 by kernel_rfl) h with ⟨hcs, _⟩ | ⟨x, l, c', zs, hcs, _, hl, hm, hz, _, hcell, hwz⟩
  · simp at hcs
    subst hcs
    exact ⟨none, 0, [], rfl, Vals.nil _ _, by simp, by simp⟩
  · simp at hcs
    subst hcs
    have hz' : zs.length = c' := by simpa using hz
    have hlen : (zs.take l).length = l := by simp; omega
    refine ⟨some x, c', zs.take l, by rw [hlen], vals_of_cells (by omega) hcell, by omega, fun x hx => ?_⟩
    have := hwz x (List.mem_of_mem_take hx)
    simpa [Lit.wf, IntKind.min, IntKind.max, IntKind.signed, IntKind.bits] using this

theorem open_trod_rows {fuel : Nat} {y : DataW H × List MemPlace} (h : DataW.trod enc Try.prog W 0 (fun _ => true) true fuel 48 [v] = some y) :
    ∃ a c, ∃ xss : List (List Int), v = .slice a xss.length c ∧ MatR W a xss ∧ xss.length ≤ maxLen ∧ (∀ xs ∈ xss, xs.length ≤ maxLen) ∧ (∀ xs ∈ xss, Fits xs) := by
  rcases Go.Deep.open_int_rows Try.underlying48 Try.underlying32 Try.underlying3 cellsInts cellsInt h with ⟨hcs, _⟩ | ⟨x, l, c', A, L, C, Z, hcs, _, hl, hm, _, hrow⟩
  · simp at hcs
    subst hcs
    exact ⟨none, 0, [], rfl, ⟨[], Mat.nil _ _⟩, by simp, by simp, by simp⟩
  · simp at hcs
    subst hcs
    obtain ⟨xss, hxss⟩ : ∃ xss, xss = (List.range l).map fun r => (Z r).take (L r) := ⟨_, rfl⟩
    obtain ⟨rs, hrs⟩ : ∃ rs, rs = (List.range l).map fun r => (A r, C r) := ⟨_, rfl⟩
    have hxl : xss.length = l := by rw [hxss]; simp
    have hget : ∀ i xs, xss[i]? = some xs → i < l ∧ xs = (Z i).take (L i) := by
      intro i xs hx
      have hi : i < l := by have := (List.getElem?_eq_some_iff.1 hx).1; omega
      rw [hxss, List.getElem?_map, List.getElem?_range hi] at hx
      simp at hx
      exact ⟨hi, hx.symm⟩
    have hrget : ∀ i r, rs[i]? = some r → i < l ∧ r = (A i, C i) := by
      intro i r hx
      have hi : i < l := by have := (List.getElem?_eq_some_iff.1 hx).1; rw [hrs] at this; simpa using this
      rw [hrs, List.getElem?_map, List.getElem?_range hi] at hx
      simp at hx
      exact ⟨hi, hx.symm⟩
    have hlen : ∀ i, i < l → ((Z i).take (L i)).length = L i := by
      intro i hi
      obtain ⟨_, q1, q2, q3, _⟩ := hrow i (by omega)
      simp
      omega
    refine ⟨some x, c', xss, by rw [hxl], ⟨rs, by rw [hrs, hxss]; simp, ?_, ?_⟩, by omega, ?_, ?_⟩
    · intro i hi
      have hil : i < l := by simp [RV, hxl, hrs] at hi; omega
      obtain ⟨q0, q1, q2, q3, _⟩ := hrow i (by omega)
      obtain ⟨p0, _⟩ := hrow 0 (by omega)
      obtain ⟨b, o, s⟩ := x
      have hs : s = none := by simpa [Addr.add] using World.cell?_spot p0
      subst hs
      refine ⟨b, o, rfl, ?_⟩
      rw [Addr.add_lit] at q0
      rw [q0]
      simp only [RV, hrs, hxss, List.getElem_zipWith, List.getElem_map, List.getElem_range, rowV, hlen i hil]
    · intro i r xs hr hx
      obtain ⟨h1, rfl⟩ := hget i xs hx
      obtain ⟨_, rfl⟩ := hrget i r hr
      obtain ⟨_, q1, q2, q3, q4, q5, q6⟩ := hrow i (by omega)
      cases hA : A i with
      | none =>
        have : C i = 0 := q5 hA
        have : (Z i).take (L i) = [] := List.eq_nil_of_length_eq_zero (by rw [hlen i h1]; omega)
        rw [this]
        exact Vals.nil _ _
      | some ad =>
        exact vals_of_cells (k := .i64) (by omega) (fun j hj => (q6 ad hA).2 j (by omega))
    · intro xs hx
      obtain ⟨i, hi⟩ := List.mem_iff_getElem?.1 hx
      obtain ⟨h1, rfl⟩ := hget i xs hi
      obtain ⟨_, q1, q2, _⟩ := hrow i (by omega)
      rw [hlen i h1]
      omega
    · intro xs hx
      obtain ⟨i, hi⟩ := List.mem_iff_getElem?.1 hx
      obtain ⟨h1, rfl⟩ := hget i xs hi
      obtain ⟨_, q1, q2, q3, q4, _⟩ := hrow i (by omega)
      exact fun x hx => wf_i64_bounds (q4 x (List.mem_of_mem_take hx))

theorem open_Ints (hv : Value.okWide Try.prog W .any base 32 v) (h : DataW.Trod enc Try.prog W 0 (fun _ => true) true 32 v d p) :
    ∃ a c, ∃ xs : List Int, v = .slice a xs.length c ∧ Vals W a (I xs) ∧ xs.length ≤ maxLen ∧ Fits xs := by
  obtain ⟨a0, n0, c0, rfl⟩ := okWide_slice Try.underlying32 hv
  obtain ⟨fuel, hf⟩ := h
  exact open_trod_ints (by simpa [Value.cells] using hf)

theorem open_Bytes (hv : Value.okWide Try.prog W .any base 22 v) (h : DataW.Trod enc Try.prog W 0 (fun _ => true) true 22 v d p) :
    ∃ a c, ∃ xs : List Int, v = .slice a xs.length c ∧ Vals W a (xs.map (Value.int .u8)) ∧ xs.length ≤ maxLen ∧ ∀ x ∈ xs, 0 ≤ x ∧ x ≤ 255 := by
  obtain ⟨a0, n0, c0, rfl⟩ := okWide_slice Try.underlying22 hv
  obtain ⟨fuel, hf⟩ := h
  exact open_trod_bytes (by simpa [Value.cells] using hf)

theorem open_Mat (hv : Value.okWide Try.prog W .any base 48 v) (h : DataW.Trod enc Try.prog W 0 (fun _ => true) true 48 v d p) :
    ∃ a c, ∃ xss : List (List Int), v = .slice a xss.length c ∧ MatR W a xss ∧ xss.length ≤ maxLen ∧ (∀ xs ∈ xss, xs.length ≤ maxLen) ∧ (∀ xs ∈ xss, Fits xs) := by
  obtain ⟨a0, n0, c0, rfl⟩ := okWide_slice Try.underlying48 hv
  obtain ⟨fuel, hf⟩ := h
  exact open_trod_rows (by simpa [Value.cells] using hf)

theorem open_Int (hv : Value.okWide Try.prog W .any base 3 v) (h : DataW.Trod enc Try.prog W 0 (fun _ => true) true 3 v d p) :
    ∃ n : Int, v = .int .i64 n ∧ -9223372036854775808 ≤ n ∧ n ≤ 9223372036854775807 := by
  obtain ⟨n, rfl, rfl, rfl, wn⟩ := open_int Try.underlying3 hv h
  exact ⟨n, rfl, wf_i64_bounds wn⟩

theorem open_trod_int {fuel : Nat} {y : DataW H × List MemPlace} (h : DataW.trod enc Try.prog W 0 (fun _ => true) true fuel 3 [v] = some y) :
    ∃ n : Int, v = .int .i64 n ∧ -9223372036854775808 ≤ n ∧ n ≤ 9223372036854775807 := by
  obtain ⟨n, hn, _, wn⟩ := DataW.trod_int Try.underlying3 h
  simp at hn
  exact ⟨n, hn, wf_i64_bounds wn⟩

theorem open_Generation (hv : Value.okWide Try.prog W .any base 50 v) (h : DataW.Trod enc Try.prog W 0 (fun _ => true) true 50 v d p) :
    ∃ (n : Int) (a : Option Addr) (c : Nat) (xss : List (List Int)), v = bsV n a c xss ∧ MatR W a xss ∧ xss.length ≤ maxLen ∧ (∀ xs ∈ xss, xs.length ≤ maxLen) ∧ (∀ xs ∈ xss, Fits xs) ∧ -9223372036854775808 ≤ n ∧ n ≤ 9223372036854775807 := by
  obtain ⟨c0, c1, y0, y1, m, rfl, rfl, rfl, hy0, hy1⟩ := Go.Joins.open_agg2 Try.underlying50 (by kernel_rfl) (by kernel_rfl) hv h
  obtain ⟨n, rfl, n1, n2⟩ := open_trod_int hy0
  obtain ⟨a, c, xss, rfl, q1, q2, q3, q4⟩ := open_trod_rows hy1
  exact ⟨n, a, c, xss, rfl, q1, q2, q3, q4, n1, n2⟩

theorem open_Packet (hv : Value.okWide Try.prog W .any base 98 v) (h : DataW.Trod enc Try.prog W 0 (fun _ => true) true 98 v d p) :
    ∃ (n : Int) (a : Option Addr) (c : Nat) (xs : List Int) (b : Option Addr) (d : Nat) (ys : List Int), v = pkV n a c xs b d ys ∧ Vals W a (I xs) ∧ Vals W b (I ys) ∧ xs.length ≤ maxLen ∧ ys.length ≤ maxLen ∧ Fits xs ∧ Fits ys ∧ -9223372036854775808 ≤ n ∧ n ≤ 9223372036854775807 := by
  obtain ⟨c0, c1, c2, y0, y1, y2, m, rfl, rfl, rfl, hy0, hy1, hy2⟩ := Go.Joins.open_agg3 Try.underlying98 (by kernel_rfl) (by kernel_rfl) hv h
  obtain ⟨n, rfl, n1, n2⟩ := open_trod_int hy0
  obtain ⟨a, c, xs, rfl, q1, q2, q3⟩ := open_trod_ints hy1
  obtain ⟨b, d, ys, rfl, r1, r2, r3⟩ := open_trod_ints hy2
  exact ⟨n, a, c, xs, b, d, ys, rfl, q1, r1, q2, r2, q3, r3, n1, n2⟩

end

end Go.Proofs.Ytkegknophppdgaa
