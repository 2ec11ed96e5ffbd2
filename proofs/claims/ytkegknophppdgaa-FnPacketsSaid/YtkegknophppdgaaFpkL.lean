/- FnPackets: the law. -/
import Derived.Test.YtkegknophppdgaaFpkP
import Derived.Test.YtkegknophppdgaaDkp
import Derived.Test.YtkegknophppdgaaSame
import Derived.Deep.RegionHeld3
import Derived.Deep.QuietTactic
import Derived.BigQuiet
namespace Go.Proofs.Ytkegknophppdgaa
open Go.RowKit
set_option linter.unusedVariables false
set_option maxRecDepth 20000

/-- Three cells of a block that may be written. -/
def Box3 (w : World) (p : Nat) (u v z : Value) : Prop := w.cell? ⟨p, 0, none⟩ = some u ∧ w.cell? ⟨p, 1, none⟩ = some v ∧ w.cell? ⟨p, 2, none⟩ = some z ∧ ∀ j, w.frozen? ⟨p, j, none⟩ = false
section
variable {w w' : World} {p : Nat} {u v z : Value}
theorem Box3.lt (h : Box3 w p u v z) : p < w.heap.size := World.block_lt_of_cell? _ _ h.1
theorem Box3.new (w : World) (u v z : Value) (e : TypeId) : Box3 (w.alloc (.cells #[u, v, z] e)) w.heap.size u v z := ⟨by simp, by simp, by simp, fun j => by simp⟩
theorem Box3.at_ (h : Box3 w p u v z) (hb : w'.heap[p]? = w.heap[p]?) : Box3 w' p u v z :=
  ⟨(World.cell?_of_block hb).trans h.1, (World.cell?_of_block hb).trans h.2.1, (World.cell?_of_block hb).trans h.2.2.1, fun j => (World.frozen?_of_block hb).trans (h.2.2.2 j)⟩
theorem Box3.ext (h : Box3 w p u v z) (he : Ext w w') : Box3 w' p u v z := h.at_ (he.block_eq h.lt)
theorem Box3.span {C C2 : Nat} (h : Box3 w p u v z) (hs : Span C C2 w w') (hd : p < C ∨ C2 ≤ p) : Box3 w' p u v z := h.at_ (hs.block p h.lt hd)
theorem Box3.grown {row : Option Nat} (h : Box3 w p u v z) (hg : w.grownBy w' row) (hr : row ≠ some p) : Box3 w' p u v z := h.at_ (hg.block p h.lt (fun e => hr e.symm))
theorem Box3.put2 (h : Box3 w p u v z) (y : Value) : Box3 (w.setCell ⟨p, 2, none⟩ y) p u v y :=
  ⟨(World.cell?_setCell_other _ _ _ _ (by simp)).trans h.1, (World.cell?_setCell_other _ _ _ _ (by simp)).trans h.2.1, World.cell?_setCell_same _ _ _ h.2.2.1, fun j => by simpa using h.2.2.2 j⟩
end

theorem sameInts_me (a b : Option Addr) (c d : Nat) (xs : List Int) (w : World) (h : Vals w a (I xs)) (h' : Vals w b (I xs)) (hl : xs.length ≤ 1099511627776) :
    Calls Try.prog 71 #[.slice a xs.length c, .slice b xs.length d] w (Quiet w (.bool true)) := by
  have := sameInts_ok a b c d xs xs w h h' hl
  rw [show decide (xs = xs) = true from decide_eq_true rfl] at this
  exact this

/-- The byte at place 0 is the same in each later world. -/
theorem at_det (a : Option Addr) (c : Nat) (bs : List Int) (w : World) (h : Vals w a (Y bs)) (hb : ∀ x ∈ bs, 0 ≤ x ∧ x ≤ 255) (hl : bs.length ≤ 1048576) :
    ∃ x : Int, 0 ≤ x ∧ x ≤ 255 ∧ ∀ W, Ext w W → Calls Try.prog 68 #[.slice a bs.length c, .int .i64 0] W fun e w' => e = .returned (.int .i64 x) ∧ W = w' := by
  by_cases hlt : 0 < bs.length
  · obtain ⟨b, o, x, rfl, hbs, hx, hcx⟩ := h.atY hlt
    obtain ⟨x0, x1⟩ := hb x (List.mem_of_getElem? hx.out)
    refine ⟨x, x0, x1, fun W hW => ?_⟩
    have hcW := hW.cell hcx
    rw [Nat.add_zero] at hcW
    have i1 : (0 : Int) < (bs.length : Int) := by omega
    clear h hx hcx hW
    go_enter Try.func68, Try.ntmps68
    go_wp2
    go_ret
    first | exact ⟨rfl, rfl⟩ | simp
  · obtain rfl : bs = [] := List.eq_nil_of_length_eq_zero (by omega)
    refine ⟨0, by omega, by omega, fun W hW => ?_⟩
    have i1 : ¬ (0 : Int) < (([] : List Int).length : Int) := by simp
    go_enter Try.func68, Try.ntmps68
    go_wp2
    go_ret
    first | exact ⟨rfl, rfl⟩ | simp

set_option maxHeartbeats 8000000 in
set_option maxRecDepth 100000 in
theorem lawFnPackets (a : Option Addr) (c : Nat) (xs : List Int) (w : World) (r0 : Vals w a (Y xs)) (m0 : xs.length ≤ maxLen) (m1 : ∀ x ∈ xs, 0 ≤ x ∧ x ≤ 255) :
    Calls Try.prog 11 #[.slice a xs.length c] w (Gives w (.bool true)) := by
  by_cases hl : xs.length ≤ 1048576
  rotate_left
  · have C1 := Lib.hid (big_yes a c xs w hl m0)
    clear r0 m1 hl m0
    go_enter Try.func11, Try.ntmps11
    go_wp2_with (go_at_call 57; (with_reducible refine C1.out.mono ?_); rintro e w' ⟨rfl, rfl⟩)
    go_ret
    exact ⟨rfl, Ext.refl _⟩
  have C1 := Lib.hid (big_no a c xs w hl)
  have CD := Lib.hid (drawCodePacket_ok a c xs w r0 m1 hl)
  obtain ⟨y, y0, y1, hat⟩ := at_det a c xs w r0 m1 hl
  have CAt := Lib.hid hat
  clear r0 m1 hl m0 hat
  go_enter Try.func11, Try.ntmps11
  go_wp2_with (go_at_call 57; (with_reducible refine C1.out.mono ?_); rintro e w' ⟨rfl, rfl⟩)
  (with_reducible refine CD.out.mono ?_)
  rintro e w1 ⟨n, a2, c2, xss, b, d, cs, rfl, ⟨⟨hn0, hn1⟩, hx60, hx81, hc200⟩, hM, hv, E1⟩
  have HR : Hid (∀ xs ∈ xss, xs.length ≤ 1048576) := fun xs hx => by have := hx81 xs hx; omega
  have x1 := (Ext.refl w1).alloc (.cells #[.int .i64 n, .slice a2 xss.length c2] 53)
  have p1 := Box2.new w1 (.int .i64 n) (.slice a2 xss.length c2) 53
  have CP := implCodePacket_ok n a2 c2 xss b d cs _ (hM.ext x1) (hv.ext x1) (by omega) HR.out (by omega)
  have HM := Lib.hid hM
  have HV := Lib.hid hv
  clear C1 CD hx81 hM hv
  cases hk : codeOk n xss cs
  · obtain ⟨q1, q2, q3⟩ := codeOk_no hk
    rw [q1, q2, q3, hk] at CP
    obtain ⟨es, hes⟩ : ∃ es : List Int, Hid (es = []) := ⟨[], rfl⟩
    have CZ : Hid (∀ W a3 c3 b3 d3, Calls Try.prog 67 #[pkV 0 a3 c3 es b3 d3 es] W (Gives W (.bool true))) := fun W a3 c3 b3 d3 => by
      have : es = [] := hes.out
      subst this
      exact implIsZeroPacket_ok 0 a3 c3 [] b3 d3 [] W (fun i hi => by simp at hi) (fun i hi => by simp at hi) (by simp) (by simp)
    rw [← hes.out] at CP
    have HCP := Lib.hid CP
    have hcase := codeOk_split hk
    clear q1 q2 q3 hk CP hes CAt
    go_wp2_with fail
    (with_reducible refine HCP.out.mono ?_)
    rintro e w2 ⟨a3, c3, b3, d3, rfl, o1, o2, _, e2⟩
    have E2 := (E1.trans x1).trans e2
    have p2 := p1.ext e2
    have x3 := (Ext.refl w2).alloc (.cells #[.int .i64 0, .slice a3 es.length c3, .slice b3 es.length d3] 35)
    have E3 := E2.trans x3
    have p3 := p2.ext x3
    have t3 := Box3.new w2 (.int .i64 0) (.slice a3 es.length c3) (.slice b3 es.length d3) 35
    have CG := specIsValidGeneration_ok n a2 c2 xss _ (HM.out.ext (x1.trans (e2.trans x3))) (by omega) (fun xs hx => by have := HR.out xs hx; omega)
    have hvv := HV.out.ext (x1.trans (e2.trans x3))
    clear e2 p1 p2 x1 x3 o1 o2 E1 E2
    obtain ⟨z3, hz3⟩ : ∃ z, w2.heap.size = z := ⟨_, rfl⟩
    obtain ⟨p30, p31, p32⟩ := p3
    rcases hcase with h1 | ⟨h1, h2⟩ | ⟨h1, h2, h3⟩
    · rw [h1] at CG
      replace CG := Lib.hid CG
      obtain ⟨t30, t31, t32, t33⟩ := t3
      clear h1 hz3 t33
      go_wp2_with fail
      (with_reducible refine CG.out.mono ?_)
      rintro e w4 ⟨rfl, e4⟩
      replace t30 := e4.cell t30
      replace t31 := e4.cell t31
      replace t32 := e4.cell t32
      replace E3 := E3.trans e4
      clear e4
      go_wp2_with fail
      (with_reducible refine (CZ.out _ _ _ _ _).mono ?_)
      rintro e w5 ⟨rfl, e5⟩
      replace t30 := e5.cell t30
      replace E3 := E3.trans e5
      clear e5
      go_wp2_with fail
      go_ret
      exact ⟨rfl, E3⟩
    · rw [h1] at CG
      replace CG := Lib.hid CG
      have CV := fun W (hE : Ext _ W) => specIsValidVector_ok b d cs W (hvv.ext hE) (by omega)
      rw [h2] at CV
      replace CV := Lib.hid CV
      obtain ⟨t30, t31, t32, t33⟩ := t3
      clear h1 h2 hz3 t33 hvv
      go_wp2_with fail
      (with_reducible refine CG.out.mono ?_)
      rintro e w4 ⟨rfl, e4⟩
      replace t30 := e4.cell t30
      replace t31 := e4.cell t31
      replace t32 := e4.cell t32
      replace p30 := e4.cell p30
      replace p31 := e4.cell p31
      replace E3 := E3.trans e4
      have CV1 := Lib.hid (CV.out _ e4)
      clear e4
      go_wp2_with fail
      (with_reducible refine CV1.out.mono ?_)
      rintro e w5 ⟨rfl, rfl⟩
      go_wp2_with fail
      (with_reducible refine (CZ.out _ _ _ _ _).mono ?_)
      rintro e w6 ⟨rfl, e6⟩
      replace t30 := e6.cell t30
      replace E3 := E3.trans e6
      clear e6
      go_wp2_with fail
      go_ret
      exact ⟨rfl, E3⟩
    · rw [h1] at CG
      replace CG := Lib.hid CG
      have CV := fun W (hE : Ext _ W) => specIsValidVector_ok b d cs W (hvv.ext hE) (by omega)
      rw [h2] at CV
      replace CV := Lib.hid CV
      have h3a : ¬ (cs.length : Int) = (xss.length : Int) := by omega
      have h3b : decide ((cs.length : Int) = (xss.length : Int)) = false := decide_eq_false h3a
      have h3c := not_eq_of h3a
      obtain ⟨t30, t31, t32, t33⟩ := t3
      clear h1 h2 h3 hz3 t33 hvv
      go_wp2_with fail
      (with_reducible refine CG.out.mono ?_)
      rintro e w4 ⟨rfl, e4⟩
      replace t30 := e4.cell t30
      replace t31 := e4.cell t31
      replace t32 := e4.cell t32
      replace p30 := e4.cell p30
      replace p31 := e4.cell p31
      replace E3 := E3.trans e4
      have CV1 := Lib.hid (CV.out _ e4)
      clear e4
      go_wp2_with fail
      (with_reducible refine CV1.out.mono ?_)
      rintro e w5 ⟨rfl, rfl⟩
      go_wp2_with fail
      (with_reducible refine (CZ.out _ _ _ _ _).mono ?_)
      rintro e w6 ⟨rfl, e6⟩
      replace t30 := e6.cell t30
      replace E3 := E3.trans e6
      clear e6
      go_wp2_with fail
      go_ret
      exact ⟨rfl, E3⟩
  · obtain ⟨q1, q2, q3, q4, q5, q6⟩ := codeOk_yes hk
    obtain ⟨g1, g2, g3, g4, g5, g6, g7⟩ := codeOk_parts hk
    have HVP0 := valid_code hk
    have HCO0 := consist_code hk
    have HCB0 := fun z => consist_bad z hk
    have HSR : Hid (∀ k : Nat, k < xss.length → srcOk n xss k = true ∧ srcN n xss k = n ∧ srcC n xss k = unitV xss.length k ∧ srcP n xss k = xss.getD k []) := fun k hk' => src_code hk hk'
    rw [q1, q2, hk] at CP
    obtain ⟨ps, hps⟩ : ∃ ps, Hid (ps = codeP n xss cs) := ⟨_, rfl⟩
    rw [← hps.out] at CP q3 q4 HVP0 HCO0 HCB0
    have HCP := Lib.hid CP
    have HVP := Lib.hid HVP0
    have HCO := Lib.hid HCO0
    have HCB := Lib.hid HCB0
    have HPA := Lib.hid q4
    have hp1 : 1 ≤ ps.length := by omega
    have hp16 : ps.length ≤ 16 := by omega
    have h3b : decide ((cs.length : Int) = (xss.length : Int)) = true := decide_eq_true (by omega)
    have h3c := eq_of (show (cs.length : Int) = (xss.length : Int) by omega)
    have hcs : cs.length ≤ 8 := by omega
    obtain ⟨k, hkk⟩ : ∃ k : Nat, y % xss.length = k ∧ k < xss.length := by
      have := Int.emod_nonneg y (show (xss.length : Int) ≠ 0 by omega)
      have := Int.emod_lt_of_pos y (show (0 : Int) < xss.length by omega)
      exact ⟨(y % xss.length).toNat, by omega, by omega⟩
    obtain ⟨hkm, hk8⟩ := hkk
    have HKM := Lib.hid hkm
    have HPL := Lib.hid q3
    have HG1 := Lib.hid g1
    have HG2 := Lib.hid g2
    clear q1 q2 q3 q4 hk CP hps HVP0 HCO0 HCB0 g1 g2 g3 g4 g5 hkm
    go_wp2_with fail
    (with_reducible refine HCP.out.mono ?_)
    rintro e w2 ⟨a3, c3, b3, d3, rfl, o1, o2, _, e2⟩
    have E2 := (E1.trans x1).trans e2
    have p2 := p1.ext e2
    have x3 := (Ext.refl w2).alloc (.cells #[.int .i64 n, .slice a3 cs.length c3, .slice b3 ps.length d3] 35)
    have E3 := E2.trans x3
    have p3 := p2.ext x3
    have t3 := Box3.new w2 (.int .i64 n) (.slice a3 cs.length c3) (.slice b3 ps.length d3) 35
    have hM3 := HM.out.ext (x1.trans (e2.trans x3))
    have hv3 := HV.out.ext (x1.trans (e2.trans x3))
    have hc3 := o1.vals.ext x3
    have hp3 := o2.vals.ext x3
    have CG := specIsValidGeneration_ok n a2 c2 xss _ hM3 (by omega) (fun xs hx => by have := HR.out xs hx; omega)
    have CV := fun W (hE : Ext _ W) => specIsValidVector_ok b d cs W (hv3.ext hE) (by omega)
    rw [HG1.out] at CG
    rw [HG2.out] at CV
    replace CG := Lib.hid CG
    replace CV := Lib.hid CV
    obtain ⟨t30, t31, t32, t33⟩ := t3
    obtain ⟨p30, p31, p32⟩ := p3
    clear HCP hv3 HM HV E1 E2 p1 p2 x1 x3 e2 o1 o2 t33 p32
    go_wp2_with fail
    (with_reducible refine CG.out.mono ?_)
    rintro e w4 ⟨rfl, e4⟩
    replace t30 := e4.cell t30
    replace t31 := e4.cell t31
    replace t32 := e4.cell t32
    replace p30 := e4.cell p30
    replace p31 := e4.cell p31
    replace E3 := E3.trans e4
    replace hM3 := hM3.ext e4
    replace hc3 := hc3.ext e4
    replace hp3 := hp3.ext e4
    have CV1 := Lib.hid (CV.out _ e4)
    clear e4 CG CV
    go_wp2_with fail
    (with_reducible refine CV1.out.mono ?_)
    rintro e w5 ⟨rfl, rfl⟩
    have hx0 : ¬ (xss.length : Int) = 0 := by omega
    clear CV1
    go_wp2_with fail
    go_quiet ((go_at_call 68; exact Calls.same_quiet (CAt.out _ (E3.drewN _))))
    go_wp2_with fail
    rw [HKM.out]
    obtain ⟨b0, o0, ra, rc, row, ra0, rc0, rfl, hb0, hrow, hck, hvr, hc0⟩ := hM3.at0 hk8
    obtain ⟨us, hus⟩ : ∃ us, Hid (us = unitV xss.length k) := ⟨_, rfl⟩
    have DN : Ext w4 (w4.drewN nq) := (Ext.refl w4).drewN nq
    have CS := implSourcePacket_ok n _ c2 xss k _ (hM3.ext DN) (by omega) HR.out
    obtain ⟨f1, f2, f3, f4⟩ := HSR.out k hk8
    rw [f1, f2, f3, f4, ← hus.out, show xss.getD k [] = row by rw [List.getD_eq_getElem?_getD, hrow.out]; rfl] at CS
    have hul : us.length ≤ 8 := by rw [hus.out, unitV_length]; exact g7
    have hrl : row.length ≤ 1048576 := HR.out row (List.mem_of_getElem? hrow.out)
    replace CS := Lib.hid CS
    clear f1 f2 f3 f4
    (with_reducible refine CS.out.mono ?_)
    rintro e w6 ⟨a5, c5, b5, d5, rfl, o5, o6, _, e6⟩
    have x6 := (Ext.refl w6).alloc (.cells #[.int .i64 n, .slice a5 us.length c5, .slice b5 row.length d5] 35)
    have D6 := (DN.trans e6).trans x6
    have E7 := E3.trans D6
    have s7 := Box3.new w6 (.int .i64 n) (.slice a5 us.length c5) (.slice b5 row.length d5) 35
    replace p30 := D6.cell p30
    replace p31 := D6.cell p31
    have hz30 := t30
    have hz31 := t31
    have hz32 := t32
    replace t30 := D6.cell t30
    replace t31 := D6.cell t31
    replace t32 := D6.cell t32
    replace hck := D6.cell hck
    replace hc0 := D6.cell hc0
    replace hM3 := hM3.ext D6
    replace hc3 := hc3.ext D6
    replace hp3 := hp3.ext D6
    replace hvr := hvr.ext D6
    have hu5 := o5.vals.ext x6
    have hr5 := o6.vals.ext x6
    obtain ⟨s70, s71, s72, s73⟩ := s7
    have hpz : ¬ (ps.length : Int) = 0 := by omega
    have z26 : w2.heap.size < w6.heap.size := by have := DN.size_le; have := e6.size_le; have := (show w2.heap.size < w4.heap.size from World.block_lt_of_cell? _ _ hz32); omega
    have z26a : w2.heap.size ≠ w6.heap.size := by omega
    have z26b : w2.heap.size ≠ w6.heap.size + 1 := by omega
    have z26d : w2.heap.size < w6.heap.size + 1 := by omega
    have z26e : w2.heap.size < w6.heap.size + 2 := by omega
    have z26f : w2.heap.size < w6.heap.size + 1 + 1 := by omega
    have z26c : w2.heap.size ≠ w6.heap.size + 2 := by omega
    obtain ⟨wb, hwb⟩ : ∃ wb, wb = w6.alloc (.cells #[.int .i64 n, .slice a5 us.length c5, .slice b5 row.length d5] 35) := ⟨_, rfl⟩
    have zb : wb.heap.size = w6.heap.size + 1 := by rw [hwb]; simp
    rw [← hwb] at E7 p30 p31 t30 t31 t32 hck hc0 hM3 hc3 hp3 hvr hu5 hr5 s70 s71 s72
    have t32' : w6.cell? ⟨w2.heap.size, 2, none⟩ = some (.slice b3 ps.length d3) := (DN.trans e6).cell hz32
    have t31' : w6.cell? ⟨w2.heap.size, 1, none⟩ = some (.slice a3 cs.length c3) := (DN.trans e6).cell hz31
    have t30' : w6.cell? ⟨w2.heap.size, 0, none⟩ = some (.int .i64 n) := (DN.trans e6).cell hz30
    obtain ⟨b10, hb10⟩ : ∃ o : Obj, o = .cells #[.int .i64 n, .slice a3 cs.length c3, .slice b3 ps.length d3] 35 := ⟨_, rfl⟩
    have x8 := ((Ext.refl wb).alloc b10).alloc (.cells (I []).toArray 3)
    have q10 := (Box3.new wb (.int .i64 n) (.slice a3 cs.length c3) (.slice b3 ps.length d3) 35)
    rw [← hb10] at q10
    replace q10 := q10.ext ((Ext.refl _).alloc (.cells (I []).toArray 3))
    have o8 := OwnI.new (wb.alloc b10) (w6.heap.size + 1 + 1) [] (by simp [zb]) (by simp)
    have ha8 : (wb.alloc b10).heap.size = w6.heap.size + 1 + 1 := by simp [zb]
    rw [ha8] at o8
    have hp8 := hp3.ext x8
    obtain ⟨T30, T31, T32⟩ : Hid (wb.cell? ⟨w2.heap.size, 0, none⟩ = some (.int .i64 n)) ∧ Hid (wb.cell? ⟨w2.heap.size, 1, none⟩ = some (.slice a3 cs.length c3)) ∧ Hid (wb.cell? ⟨w2.heap.size, 2, none⟩ = some (.slice b3 ps.length d3)) := ⟨t30, t31, t32⟩
    clear CS DN e6 x6 D6 E3 o5 o6 s73 t30 t31 t32 hz30 hz31 hz32
    rw [hb10, hwb] at x8 o8 hp8 q10
    go_wp2_with (at_builtin; go_loud (refine wpList_appI _ rfl _ _ rfl _ _ _ [] rfl o8 _ _ ps rfl hp8 ps (List.nil_append ps).symm (by simp; omega) (by simp) ?_))
    intro a7 c7 w7 o7 gr7 _
    obtain ⟨p, hp⟩ : ∃ p, w6.heap.size + 1 = p := ⟨_, rfl⟩
    rw [← hwb] at x8 q10
    rw [hp] at zb o7 gr7 z26b z26d ⊢
    have e7 : Ext wb w7 := x8.grown (by rw [hwb]; exact gr7) (fun k hk => by simp [blockOf] at hk; omega)
    have q7 := (show Box3 _ wb.heap.size _ _ _ from q10).grown (by rw [hwb]; exact gr7) (by simp [blockOf]; omega)
    rw [zb] at q7
    have z67 : w6.heap.size < p := by omega
    have z27 : w2.heap.size < p := by omega
    obtain ⟨ga, rfl, hga1, hga2, hga3⟩ := OI.form (OI.of o7) (show 0 < ps.length by omega)
    have hsp : Span p (p + 1) w7 (w7.setCell ⟨p, 2, none⟩ (.slice (some ⟨ga, 0, none⟩) ps.length c7)) := Span.one _
    have o9 := (OI.of o7).span hsp (.inr (Nat.le_refl _))
    have q9 := q7.put2 (.slice (some ⟨ga, 0, none⟩) ps.length c7)
    have e8 := e7.setCell (p := ⟨p, 2, none⟩) (by show wb.heap.size ≤ p; omega) (.slice (some ⟨ga, 0, none⟩) ps.length c7)
    obtain ⟨q70, q71, q72, q73⟩ := q7
    have q732 := q73 2
    clear x8 q10 o8 hp8 ha8 hb10 hp o7 gr7 hsp e7 t30' t31' t32' z26 z26a z26b z26c z26d z26e z26f
    go_wp2_with fail
    obtain ⟨w8, hw8⟩ : ∃ w8, w8 = w7.setCell ⟨p, 2, none⟩ (.slice (some ⟨ga, 0, none⟩) ps.length c7) := ⟨_, rfl⟩
    rw [← hw8] at o9 q9 e8 ⊢
    clear hw8 q70 q71 q72 q73 q732
    have c10 := q9.2.2.1
    have ct2 := e8.cell T32.out
    obtain ⟨bp, op, x, rfl, hbp, hpx, hcx⟩ := (hp3.ext e8).atI (k := 0) (by omega)
    rw [Nat.add_zero] at hcx
    obtain ⟨xx0, xx1⟩ := HPA.out.get hpx.out
    have i1 : (0 : Int) < (ps.length : Int) := by omega
    obtain ⟨z, hz⟩ : ∃ z : Int, Hid (z = (x + 1) % 1019) := ⟨_, rfl⟩
    obtain ⟨st1, st2, st3, u, st4⟩ := o9.store 0 z (by omega)
    have HZ : Hid (consist n xss n cs (ps.set 0 z) = false) := HCB.out z (by rw [hpx.out]; intro e; injection e with e; have := hz.out; omega)
    obtain ⟨bad, hbad⟩ : ∃ l, Hid (l = ps.set 0 z) := ⟨_, rfl⟩
    rw [← hbad.out] at st1 HZ
    have lb : bad.length = ps.length := by rw [hbad.out, List.length_set]
    have E9 : Ext wb (w8.setCell ⟨ga, 0, none⟩ (.int .i64 z)).drew := (e8.setCell (p := ⟨ga, 0, none⟩) (by show wb.heap.size ≤ ga; omega) _).drew
    have Q9 := (q9.span (Span.one (p := ga) (j := 0) (.int .i64 z)) (.inl (by omega))).ext (Ext.refl _).drew
    have V9 := st1.vals.ext (Ext.refl _).drew
    clear st1 st2
    go_region
    rw [← hz.out]
    obtain ⟨w9, hw9⟩ : ∃ w9, w9 = (w8.setCell ⟨ga, 0, none⟩ (.int .i64 z)).drew := ⟨_, rfl⟩
    rw [← hw9] at E9 Q9 V9 ⊢
    have KEEP : Hid (∀ w', Ext w9 w' → w'.cell? ⟨w1.heap.size, 0, none⟩ = some (.int .i64 n) ∧ w'.cell? ⟨w1.heap.size, 1, none⟩ = some (.slice (some ⟨b0, o0, none⟩) xss.length c2) ∧ w'.cell? ⟨w2.heap.size, 0, none⟩ = some (.int .i64 n) ∧ w'.cell? ⟨w2.heap.size, 1, none⟩ = some (.slice a3 cs.length c3) ∧ w'.cell? ⟨w2.heap.size, 2, none⟩ = some (.slice (some ⟨bp, op, none⟩) ps.length d3) ∧ w'.cell? ⟨w6.heap.size, 1, none⟩ = some (.slice a5 us.length c5) ∧ w'.cell? ⟨w6.heap.size, 2, none⟩ = some (.slice b5 row.length d5) ∧ w'.cell? ⟨p, 0, none⟩ = some (.int .i64 n) ∧ w'.cell? ⟨p, 1, none⟩ = some (.slice a3 cs.length c3) ∧ w'.cell? ⟨p, 2, none⟩ = some (.slice (some ⟨ga, 0, none⟩) ps.length c7) ∧ w'.cell? ⟨b0, o0, none⟩ = some (.slice ra0 (cols xss) rc0) ∧ w'.cell? ⟨b0, o0 + k, none⟩ = some (.slice ra row.length rc)) := fun w' hE =>
      have hF := E9.trans hE
      have hQ := Q9.ext hE
      ⟨hF.cell p30, hF.cell p31, hF.cell T30.out, hF.cell T31.out, hF.cell T32.out, hF.cell s71, hF.cell s72, hQ.1, hQ.2.1, hQ.2.2.1, hF.cell hc0, hF.cell hck⟩
    have CV : Hid (∀ W, Ext w9 W → Calls Try.prog 69 #[pkV n a3 c3 cs (some ⟨bp, op, none⟩) d3 ps, .int .i64 xss.length, .int .i64 (cols xss)] W (Gives W (.bool true))) := fun W hE => by
      have := implIsValidPacket_ok n a3 c3 cs (some ⟨bp, op, none⟩) d3 ps xss.length (cols xss) W (hc3.ext (E9.trans hE)) (hp3.ext (E9.trans hE)) (by omega) (by omega)
      rwa [HVP.out] at this
    have CC1 : Hid (∀ W, Ext w9 W → Calls Try.prog 70 #[bsV n (some ⟨b0, o0, none⟩) c2 xss, pkV n a3 c3 cs (some ⟨bp, op, none⟩) d3 ps] W (Gives W (.bool true))) := fun W hE => by
      have := implIsConsistent_ok n (some ⟨b0, o0, none⟩) c2 xss n a3 c3 cs (some ⟨bp, op, none⟩) d3 ps W (hM3.ext (E9.trans hE)) (hc3.ext (E9.trans hE)) (hp3.ext (E9.trans hE)) (by omega) HR.out (by omega) (by omega)
      rwa [HCO.out] at this
    have CC2 : Hid (∀ W, Ext w9 W → Calls Try.prog 70 #[bsV n (some ⟨b0, o0, none⟩) c2 xss, .agg #[.int .i64 n, .slice a3 cs.length c3, .slice (some ⟨ga, 0, none⟩) ps.length c7]] W (Gives W (.bool false))) := fun W hE => by
      have := implIsConsistent_ok n (some ⟨b0, o0, none⟩) c2 xss n a3 c3 cs (some ⟨ga, 0, none⟩) c7 bad W (hM3.ext (E9.trans hE)) (hc3.ext (E9.trans hE)) (V9.ext hE) (by omega) HR.out (by omega) (by omega)
      rwa [HZ.out, pkV, lb] at this
    have CS1 : Hid (∀ W, Ext w9 W → Calls Try.prog 71 #[.slice b5 row.length d5, .slice ra row.length rc] W (Quiet W (.bool true))) := fun W hE => sameInts_me _ _ _ _ row W (hr5.ext (E9.trans hE)) (hvr.ext (E9.trans hE)) (by omega)
    have CU : Hid (∀ W, Calls Try.prog 72 #[.int .i64 xss.length, .int .i64 k] W (NewI W us)) := fun W => by
      rw [hus.out]
      exact specUnitVector_ok xss.length k W hk8 (by omega)
    have HU : Hid (∀ W, Ext w9 W → Vals W a5 (I us)) := fun W hE => hu5.ext (E9.trans hE)
    have EW := E7.trans E9
    have i2 : (0 : Int) < (xss.length : Int) := by omega
    have i3 : (k : Int) < (xss.length : Int) := by omega
    have i2n : 0 < xss.length := by omega
    have i2e : xss ≠ [] := fun e => by rw [e] at i2n; simp at i2n
    have x0 : Ext w9 w9.drew := (Ext.refl w9).drew
    clear hw9 E9 Q9 V9 e8 q9 o9 c10 ct2 hcx st3 st4 lb hM3 hc3 hp3 hr5 hvr hu5 hck hc0 p30 p31 s70 s71 s72 hwb zb E7
    go_wp2_with fail
    go_region_held3 (fun w' => w'.cell? ⟨w1.heap.size, 0, none⟩ = some (.int .i64 n) ∧ w'.cell? ⟨w1.heap.size, 1, none⟩ = some (.slice (some ⟨b0, o0, none⟩) xss.length c2) ∧ w'.cell? ⟨w2.heap.size, 0, none⟩ = some (.int .i64 n) ∧ w'.cell? ⟨w2.heap.size, 1, none⟩ = some (.slice a3 cs.length c3) ∧ w'.cell? ⟨w2.heap.size, 2, none⟩ = some (.slice (some ⟨bp, op, none⟩) ps.length d3) ∧ w'.cell? ⟨w6.heap.size, 1, none⟩ = some (.slice a5 us.length c5) ∧ w'.cell? ⟨w6.heap.size, 2, none⟩ = some (.slice b5 row.length d5) ∧ w'.cell? ⟨p, 0, none⟩ = some (.int .i64 n) ∧ w'.cell? ⟨p, 1, none⟩ = some (.slice a3 cs.length c3) ∧ w'.cell? ⟨p, 2, none⟩ = some (.slice (some ⟨ga, 0, none⟩) ps.length c7) ∧ w'.cell? ⟨b0, o0, none⟩ = some (.slice ra0 (cols xss) rc0) ∧ w'.cell? ⟨b0, o0 + k, none⟩ = some (.slice ra row.length rc))
      (first | exact KEEP.out _ x6 | exact KEEP.out _ x5 | exact KEEP.out _ x4 | exact KEEP.out _ x3 | exact KEEP.out _ x2 | exact KEEP.out _ x1 | exact KEEP.out _ x0 | exact KEEP.out _ (Ext.refl _) | go_keep)
      (first
        | (go_at_call 71; (with_reducible refine (sameInts_me a5 a9 c5 c9 us _ (HU.out _ x5) o10.vals (by omega)).mono ?_); rintro e v6 ⟨rfl, f6⟩; have x6 := x5.trans f6.ext)
        | (go_at_call 72; (with_reducible refine (CU.out _).mono ?_); rintro e v5 ⟨a9, c9, rfl, o10, f5⟩; have x5 := x4.trans f5)
        | (go_at_call 71; (with_reducible refine (CS1.out _ x3).mono ?_); rintro e v4 ⟨rfl, f4⟩; have x4 := x3.trans f4.ext)
        | (go_at_call 70; (with_reducible refine (CC2.out _ x2).mono ?_); rintro e v3 ⟨rfl, f3⟩; have x3 := x2.trans f3)
        | (go_at_call 70; (with_reducible refine (CC1.out _ x1).mono ?_); rintro e v2 ⟨rfl, f2⟩; have x2 := x1.trans f2)
        | (go_at_call 69; (with_reducible refine (CV.out _ x0).mono ?_); rintro e v1 ⟨rfl, f1⟩; have x1 := x0.trans f1))
    go_wp2_with fail
    go_ret
    exact ⟨rfl, EW.trans x6⟩

end Go.Proofs.Ytkegknophppdgaa
