/- How an argument that is a slice of packets is opened. -/
import Derived.Test.YtkegknophppdgaaOpnG
namespace Go.Proofs.Ytkegknophppdgaa
open Go.RowKit Go.ChangeShapes Go.WideShapes
set_option linter.unusedVariables false
set_option maxRecDepth 20000

section
variable {H : Type} {enc : TypeId × Value → H} {W : World} {base : Nat} {v : Value} {d : DataW H} {p : List MemPlace}
theorem open_Packets (hv : Value.okWide Try.prog W .any base 31 v) (h : DataW.Trod enc Try.prog W 0 (fun _ => true) true 31 v d p) :
    ∃ a c, ∃ ps : List Pk, v = .slice a ps.length c ∧ SR PK W a ps ∧ ps.length ≤ maxLen ∧ (∀ p ∈ ps, p.2.1.length ≤ maxLen ∧ p.2.2.length ≤ maxLen) := by
  obtain ⟨a0, n0, c0, rfl⟩ := okWide_slice Try.underlying31 hv
  obtain ⟨fuel, hf⟩ := h
  have ce : Try.prog.cellsOf 98 = 3 := by kernel_rfl
  rcases Go.Deep.open_slice Try.underlying31 (by simpa [Value.cells] using hf) with ⟨hcs, _⟩ | ⟨x, l, c', m, n, D, Pl, hcs, _, hl, hm, hmm, _, hrow⟩
  · simp at hcs
    obtain ⟨rfl, rfl, rfl⟩ := hcs
    exact ⟨none, 0, [], rfl, SR.nil _ _, by simp, by simp⟩
  · simp at hcs
    obtain ⟨rfl, rfl, rfl⟩ := hcs
    have hmc : m = c0 := by simpa using hmm
    obtain ⟨b, o, s⟩ := x
    obtain ⟨hs, ps, h1, h2, h3⟩ := build_lists (p := fun i (k : (Option Addr × Nat) × (Option Addr × Nat)) (p : Pk) => (∀ j, j < 3 → W.cell? ((⟨b, o, s⟩ : Addr).add (i * 3 + j)) = (PK.cells k p)[j]?) ∧ PK.read W k p ∧ p.2.1.length ≤ maxLen ∧ p.2.2.length ≤ maxLen) n0 (fun i hi => by
      obtain ⟨cs', q1, q2⟩ := hrow i (by omega)
      rw [ce] at q1
      obtain ⟨_, hlen, hcell⟩ := World.cells?_some q1
      obtain ⟨xs, k, hk, hxy, _, hxl, hfd⟩ := DataW.trod_struct Try.underlying98 q2
      match xs, hxl, cs', hlen with
      | [y0, y1, y2], _, [v0, v1, v2], _ =>
        have g0 := hfd 0 _ rfl
        have g1 := hfd 1 _ rfl
        have g2 := hfd 2 _ rfl
        simp [cellsInt, cellsInts] at g0 g1 g2
        have e0 := hcell 0 (by omega)
        have e1 := hcell 1 (by omega)
        have e2 := hcell 2 (by omega)
        rw [Go.Deep.add_add] at e0 e1 e2
        obtain ⟨u, rfl, _, _⟩ := open_trod_int g0
        obtain ⟨ra, rc, xs, rfl, hX, x1, _⟩ := open_trod_ints g1
        obtain ⟨sa, sc, ys, rfl, hY, y1, _⟩ := open_trod_ints g2
        refine ⟨((ra, rc), (sa, sc)), (u, xs, ys), fun j hj => ?_, ⟨hX, hY⟩, x1, y1⟩
        match j, hj with
        | 0, _ => exact e0
        | 1, _ => exact e1
        | 2, _ => exact e2)
    have hlen := flat_len PK_ok (hs := hs) (xs := ps) (by omega)
    have hmem : ∀ p ∈ ps, p.2.1.length ≤ maxLen ∧ p.2.2.length ≤ maxLen := fun g hg => by
      obtain ⟨i, hi⟩ := List.mem_iff_getElem?.1 hg
      have hil := (List.getElem?_eq_some_iff.1 hi).1
      obtain ⟨_, _, g1, g2⟩ := h3 i _ g (List.getElem?_eq_getElem (show i < hs.length by omega)) hi
      exact ⟨g1, g2⟩
    refine ⟨some ⟨b, o, s⟩, c0, ps, by rw [h2], ⟨hs, by omega, fun t ht => ?_, fun i k g hk hg => (h3 i k g hk hg).2.1⟩, by omega, hmem⟩
    rw [hlen] at ht
    have hsz : PK.sz = 3 := rfl
    rw [hsz] at ht
    have hi : t / 3 < ps.length := by omega
    have hk : hs[t / 3]? = some (hs[t / 3]'(by omega)) := List.getElem?_eq_getElem _
    have hg : ps[t / 3]? = some (ps[t / 3]'hi) := List.getElem?_eq_getElem _
    have q0 := (h3 _ _ _ hk hg).1 (t % 3) (by omega)
    have q00 := (h3 0 _ _ (List.getElem?_eq_getElem (show 0 < hs.length by omega)) (List.getElem?_eq_getElem (show 0 < ps.length by omega))).1 0 (by omega)
    have hs0 : s = none := by
      have : (PK.cells (hs[0]'(by omega)) (ps[0]'(by omega)))[0]? = some (.int .i64 (ps[0]'(by omega)).1) := rfl
      rw [this] at q00
      simpa [Addr.add] using World.cell?_spot q00
    subst hs0
    refine ⟨b, o, rfl, ?_⟩
    rw [Addr.add_lit] at q0
    have hfl : (flat PK hs ps)[t]? = (PK.cells (hs[t / 3]'(by omega)) (ps[t / 3]'hi))[t % 3]? := by
      have := flat_get PK_ok hk hg (j := t % 3) (by rw [hsz]; omega)
      rw [hsz, show t / 3 * 3 + t % 3 = t by omega] at this
      exact this
    rw [show t / 3 * 3 + t % 3 = t by omega] at q0
    rw [q0, ← hfl, List.getElem?_eq_getElem]
end

end Go.Proofs.Ytkegknophppdgaa
