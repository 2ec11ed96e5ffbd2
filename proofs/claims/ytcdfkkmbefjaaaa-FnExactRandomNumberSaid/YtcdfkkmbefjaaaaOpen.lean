/- How the arguments of a law read: integers, slices of integers, of bytes. -/
import Derived.Test.YtcdfkkmbefjaaaaMem
import Derived.ProofKit
import Derived.OpenShut
import Derived.ChangeOld
import Derived.Lib.SmallJoins
import Derived.Deep.Matrix
namespace Go.Proofs.Ytcdfkkmbefjaaaa
open Go.ChangeShapes Go.WideShapes Go.ChangeAt Go.RowKit
set_option linter.unusedVariables false

theorem own_knob : ownKnob Try.prog.godebug = none := by kernel_rfl
theorem laid_out : laidOutB Try.prog = true := by kernel_rfl
theorem cellsInt : Try.prog.cellsOf 3 = 1 := by kernel_rfl

/-- Numbers of the kind int. -/
def Fits (xs : List Int) : Prop := ∀ x ∈ xs, -9223372036854775808 ≤ x ∧ x ≤ 9223372036854775807

theorem wf_i64_bounds {n : Int} (h : (Lit.int .i64 n).wf = true) : -9223372036854775808 ≤ n ∧ n ≤ 9223372036854775807 := by
  simpa [Lit.wf, IntKind.min, IntKind.max, IntKind.signed, IntKind.bits] using h

section
variable {H : Type} {enc : TypeId × Value → H} {W : World} {base : Nat} {v : Value} {d : DataW H} {p : List MemPlace}

/-- The cells of a row that came in, as a slice's values. -/
theorem vals_of_cells {k : IntKind} {x : Addr} {zs : List Int} {len : Nat} (hl : len ≤ zs.length) (hcell : ∀ i, i < zs.length → W.cell? (x.add i) = some (.int k (zs.getD i 0))) :
    Vals W (some x) ((zs.take len).map (Value.int k)) := by
  intro i hi
  have hi' : i < len ∧ i < zs.length := by simp at hi; omega
  have hc0 := hcell 0 (by omega)
  obtain ⟨b, o, s⟩ := x
  have hs : s = none := by simpa [Addr.add] using World.cell?_spot hc0
  subst hs
  refine ⟨b, o, rfl, ?_⟩
  have hc := hcell i hi'.2
  rw [Addr.add_lit] at hc
  rw [hc]
  simp [List.getD, hi'.2]

theorem open_trod_ints {fuel : Nat} {a0 : Option Addr} {n0 c0 : Nat} {y : DataW H × List MemPlace} (h : DataW.trod enc Try.prog W 0 (fun _ => true) true fuel 22 [.slice a0 n0 c0] = some y) :
    ∃ xs : List Int, n0 = xs.length ∧ Vals W a0 (I xs) ∧ xs.length ≤ maxLen ∧ Fits xs := by
  rcases open_ints Try.underlying22 Try.underlying3 cellsInt h with ⟨hcs, _⟩ | ⟨x, l, c', zs, hcs, _, hl, hm, hz, _, hcell, hwz⟩
  · simp at hcs
    obtain ⟨rfl, rfl, rfl⟩ := hcs
    exact ⟨[], rfl, Vals.nil _ _, by simp, by simp [Fits]⟩
  · simp at hcs
    obtain ⟨rfl, rfl, rfl⟩ := hcs
    have hz' : zs.length = c0 := by simpa using hz
    refine ⟨zs.take n0, by simp; omega, vals_of_cells (by omega) hcell, by simp; omega, fun x hx => wf_i64_bounds (hwz x (List.mem_of_mem_take hx))⟩

theorem open_Ints (hv : Value.okWide Try.prog W .any base 22 v) (h : DataW.Trod enc Try.prog W 0 (fun _ => true) true 22 v d p) :
    ∃ a c, ∃ xs : List Int, v = .slice a xs.length c ∧ Vals W a (I xs) ∧ xs.length ≤ maxLen ∧ Fits xs := by
  obtain ⟨a0, n0, c0, rfl⟩ := okWide_slice Try.underlying22 hv
  obtain ⟨fuel, hf⟩ := h
  obtain ⟨xs, rfl, h1, h2, h3⟩ := open_trod_ints (a0 := a0) (n0 := n0) (c0 := c0) (by simpa [Value.cells] using hf)
  exact ⟨a0, c0, xs, rfl, h1, h2, h3⟩

theorem open_Int (hv : Value.okWide Try.prog W .any base 3 v) (h : DataW.Trod enc Try.prog W 0 (fun _ => true) true 3 v d p) :
    ∃ n : Int, v = .int .i64 n ∧ -9223372036854775808 ≤ n ∧ n ≤ 9223372036854775807 := by
  obtain ⟨n, rfl, rfl, rfl, wn⟩ := open_int Try.underlying3 hv h
  exact ⟨n, rfl, wf_i64_bounds wn⟩
end

end Go.Proofs.Ytcdfkkmbefjaaaa
