/- Draws of packets: l11One, DrawEncodePacket. -/
import Derived.Test.YtkegknophppdgaaDpa
namespace Go.Proofs.Ytkegknophppdgaa
open Go.RowKit
set_option linter.unusedVariables false
set_option maxRecDepth 20000

def DOne (w : World) (e : Ending) (w' : World) : Prop :=
  ∃ n a2 c2 xss m a3 c3 cs a4 c4 ps, e = .returned (.tuple #[bsV n a2 c2 xss, pkV m a3 c3 cs a4 c4 ps]) ∧ okQ m cs ps ∧ Vals w' a3 (I cs) ∧ Vals w' a4 (I ps) ∧ ((∀ k, blockOf a3 = some k → w.heap.size ≤ k) ∧ (∀ k, blockOf a4 = some k → w.heap.size ≤ k)) ∧ Ext w w'
def DPk (w : World) (e : Ending) (w' : World) : Prop :=
  ∃ m a3 c3 cs a4 c4 ps, e = .returned (pkV m a3 c3 cs a4 c4 ps) ∧ okQ m cs ps ∧ Vals w' a3 (I cs) ∧ Vals w' a4 (I ps) ∧ Ext w w'

set_option maxHeartbeats 8000000 in
set_option maxRecDepth 100000 in
theorem l11One_ok (a : Option Addr) (c : Nat) (bs : List Int) (w : World) (h : Vals w a (Y bs)) (hb : ∀ x ∈ bs, 0 ≤ x ∧ x ≤ 255) (hl : bs.length ≤ 1048576) :
    Calls Try.prog 135 #[.slice a bs.length c] w (DOne w) := by
  obtain ⟨w0, hw0⟩ : ∃ w0, w0 = (w.alloc (.cells #[.int .i64 0, .slice none 0 0] 53)).alloc (.cells #[.int .i64 0, .slice none 0 0, .slice none 0 0] 35) := ⟨_, rfl⟩
  have x0 : Ext w w0 := by rw [hw0]; exact ((Ext.refl w).alloc _).alloc _
  have z0 : w.heap.size + 2 ≤ w0.heap.size ∧ w0.heap.size ≤ w.heap.size + 2 := by rw [hw0]; simp
  have T0 : Bx3 w0 (w.heap.size + 1) (.int .i64 0) (.slice none 0 0) (.slice none 0 0) := by
    rw [hw0]
    have := Bx3.new (w.alloc (.cells #[.int .i64 0, .slice none 0 0] 53)) (.int .i64 0) (.slice none 0 0) (.slice none 0 0) 35
    rwa [show (w.alloc (.cells #[.int .i64 0, .slice none 0 0] 53)).heap.size = w.heap.size + 1 by simp] at this
  have B0 : Box2 w0 w.heap.size (.int .i64 0) (.slice none 0 0) := by
    rw [hw0]
    exact (Box2.new w _ _ _).ext ((Ext.refl _).alloc _)
  have C1 := l1New_ok a c bs w0 (h.ext x0) hb hl
  obtain ⟨g, hgg⟩ : ∃ g, w0.heap.size = g := ⟨_, rfl⟩
  rw [hgg] at C1 z0
  rw [hw0] at C1 hgg
  replace C1 := Lib.hid C1
  have CG := Lib.hid (fun W (hW : Cur W g a c bs) => l10Gen_ok g a c bs W hW)
  have CQ := Lib.hid (fun W n a2 c2 xss B C (hW : Cur W g a c bs) => l11Any_ok g a c bs n a2 c2 xss B C W hW)
  have HW0 := Lib.hid hw0
  clear h hb hw0 hgg
  go_enter Try.func135, Try.ntmps135
  go_wp2_with fail
  (with_reducible refine C1.out.mono ?_)
  rintro e w1 ⟨rfl, k1, e1'⟩
  have e1 : Ext w0 w1 := by rw [HW0.out]; exact e1'
  have E1 := x0.trans e1
  have b1 := B0.ext e1
  have t1 := T0.ext e1
  have z1 := k1.lt
  clear C1 e1' e1 x0 B0 T0 HW0
  go_wp2_with fail
  (with_reducible refine (CG.out _ k1).mono ?_)
  rintro e w2 ⟨n, a2, c2, xss, rfl, ⟨⟨n0, n1⟩, hx4, hx3⟩, m2, k2, s2⟩
  have HX3 := Lib.hid hx3
  have x2 := (Ext.refl w2).alloc (.cells #[.int .i64 n, .slice a2 xss.length c2] 53)
  have k3 := k2.ext x2
  have p3 := Box2.new w2 (.int .i64 n) (.slice a2 xss.length c2) 53
  have b3 := (b1.span s2 (.inl (by omega))).ext x2
  have t3 := (t1.span s2 (.inl (by omega))).ext x2
  have m3 := m2.ext x2
  have E3 := (Span.ext E1 s2 (by omega)).trans x2
  have D0 := (Ext.refl (w2.alloc (.cells #[.int .i64 n, .slice a2 xss.length c2] 53))).drew
  obtain ⟨p, hp⟩ : ∃ p, w2.heap.size = p := ⟨_, rfl⟩
  have hpg : g < p := by have := k2.lt; omega
  rw [hp] at p3 m3
  have CQ1 := Lib.hid (CQ.out _ n a2 c2 xss w1.heap.size p (k3.ext D0) (m3.ext D0) (by omega) (by omega) (by omega) (fun xs hx => by have := HX3.out xs hx; omega))
  have P3 := Lib.hid (p3.ext D0)
  have B3 := Lib.hid (b3.ext D0)
  have T3 := Lib.hid (t3.ext D0)
  have E4 := E3.trans D0
  have zd : p < (w2.alloc (.cells #[.int .i64 n, .slice a2 xss.length c2] 53)).drew.heap.size := P3.out.lt
  obtain ⟨p30, p31, p32⟩ := p3
  clear CG CQ hx3 k1 k2 k3 b1 t1 b3 t3 m2 m3 s2 x2 E1 E3 D0 p32
  go_wp2_with fail
  go_region_held3 (fun w' => w'.cell? ⟨p, 0, none⟩ = some (.int .i64 n) ∧ w'.cell? ⟨p, 1, none⟩ = some (.slice a2 xss.length c2))
    (first | exact KEEP.out _ (Span.refl _ _ _) | exact KEEP.out _ (sA _ _) | exact KEEP.out _ (sB _ _ _ _ _) | exact KEEP.out _ (sC _ _ _) | exact KEEP.out _ (sD _ _ _ _ _) | exact ⟨P3.out.1, P3.out.2.1⟩ | exact ⟨p30, p31⟩ | go_keep)
    (first
      | (go_at_call 166; (with_reducible refine CQ1.out.mono ?_); rintro e w4 ⟨m, a3, c3, cs, a4, c4, ps, rfl, HQ, v3, v4, ⟨f3, f4⟩, k4, s4⟩; have p4 := P3.out.span s4 (.inr (by omega)); have b4 := B3.out.span s4 (.inl (by omega)); have t4 := T3.out.span s4 (.inl (by omega)); have KEEP : Hid (∀ W, Span w.heap.size (w.heap.size + 2) w4 W → W.cell? ⟨p, 0, none⟩ = some (.int .i64 n) ∧ W.cell? ⟨p, 1, none⟩ = some (.slice a2 xss.length c2)) := (fun W hW => ⟨hW.cell p4.1 (.inr (by show w.heap.size + 2 ≤ p; omega)), hW.cell p4.2.1 (.inr (by show w.heap.size + 2 ≤ p; omega))⟩); have sA : ∀ u v, Span w.heap.size (w.heap.size + 2) w4 ((w4.setCell ⟨w.heap.size, 0, none⟩ u).setCell ⟨w.heap.size, 1, none⟩ v) := (fun u v => ((Span.refl _ _ _).setCell (p := ⟨w.heap.size, 0, none⟩) ⟨Nat.le_refl _, by show w.heap.size < _; omega⟩ u).setCell (p := ⟨w.heap.size, 1, none⟩) ⟨Nat.le_refl _, by show w.heap.size < _; omega⟩ v); have sC : ∀ u v x, Span w.heap.size (w.heap.size + 2) w4 (((w4.setCell ⟨w.heap.size + 1, 0, none⟩ u).setCell ⟨w.heap.size + 1, 1, none⟩ v).setCell ⟨w.heap.size + 1, 2, none⟩ x) := (fun u v x => (((Span.refl _ _ _).setCell (p := ⟨w.heap.size + 1, 0, none⟩) ⟨Nat.le_succ _, by show w.heap.size + 1 < _; omega⟩ u).setCell (p := ⟨w.heap.size + 1, 1, none⟩) ⟨Nat.le_succ _, by show w.heap.size + 1 < _; omega⟩ v).setCell (p := ⟨w.heap.size + 1, 2, none⟩) ⟨Nat.le_succ _, by show w.heap.size + 1 < _; omega⟩ x); have sB : ∀ u v q r x, Span w.heap.size (w.heap.size + 2) w4 (((((w4.setCell ⟨w.heap.size, 0, none⟩ u).setCell ⟨w.heap.size, 1, none⟩ v).setCell ⟨w.heap.size + 1, 0, none⟩ q).setCell ⟨w.heap.size + 1, 1, none⟩ r).setCell ⟨w.heap.size + 1, 2, none⟩ x) := (fun u v q r x => ((((sA u v).setCell (p := ⟨w.heap.size + 1, 0, none⟩) ⟨Nat.le_succ _, by show w.heap.size + 1 < _; omega⟩ q).setCell (p := ⟨w.heap.size + 1, 1, none⟩) ⟨Nat.le_succ _, by show w.heap.size + 1 < _; omega⟩ r).setCell (p := ⟨w.heap.size + 1, 2, none⟩) ⟨Nat.le_succ _, by show w.heap.size + 1 < _; omega⟩ x)); have sD : ∀ u v q r x, Span w.heap.size (w.heap.size + 2) w4 (((((w4.setCell ⟨w.heap.size + 1, 0, none⟩ q).setCell ⟨w.heap.size + 1, 1, none⟩ r).setCell ⟨w.heap.size + 1, 2, none⟩ x).setCell ⟨w.heap.size, 0, none⟩ u).setCell ⟨w.heap.size, 1, none⟩ v) := (fun u v q r x => (((sC q r x).setCell (p := ⟨w.heap.size, 0, none⟩) ⟨Nat.le_refl _, by show w.heap.size < _; omega⟩ u).setCell (p := ⟨w.heap.size, 1, none⟩) ⟨Nat.le_refl _, by show w.heap.size < _; omega⟩ v)); have nb1 : w.heap.size ≠ w.heap.size + 1 := (by omega); have nb2 : w.heap.size + 1 ≠ w.heap.size := (by omega); obtain ⟨b40, b41, b42⟩ := b4; obtain ⟨t40, t41, t42, t43⟩ := t4; have b420 := b42 0; have b421 := b42 1; have t430 := t43 0; have t431 := t43 1; have t432 := t43 2; clear b42 t43))
  have SB := sB (.int .i64 n) (.slice a2 xss.length c2) (.int .i64 m) (.slice a3 cs.length c3) (.slice a4 ps.length c4)
  have V3 := v3.span SB (fun k hk => .inr (by have := f3 k hk; omega))
  have V4 := v4.span SB (fun k hk => .inr (by have := f4 k hk; omega))
  have EE := Span.ext (Span.ext E4 s4 (by omega)) SB (Nat.le_refl _)
  have HF : Hid (DOne w (.returned (.tuple #[bsV n a2 c2 xss, pkV m a3 c3 cs a4 c4 ps])) (((((w4.setCell ⟨w.heap.size, 0, none⟩ (.int .i64 n)).setCell ⟨w.heap.size, 1, none⟩ (.slice a2 xss.length c2)).setCell ⟨w.heap.size + 1, 0, none⟩ (.int .i64 m)).setCell ⟨w.heap.size + 1, 1, none⟩ (.slice a3 cs.length c3)).setCell ⟨w.heap.size + 1, 2, none⟩ (.slice a4 ps.length c4))) :=
    ⟨n, a2, c2, xss, m, a3, c3, cs, a4, c4, ps, rfl, HQ, V3, V4, ⟨fun k hk => by have := f3 k hk; omega, fun k hk => by have := f4 k hk; omega⟩, EE⟩
  clear SB V3 V4 EE sA sB sC sD v3 v4 f3 f4 E4 s4 k4 p4
  go_wp2_with fail
  refine bodyPost_ret (v := .tuple #[bsV n a2 c2 xss, pkV m a3 c3 cs a4 c4 ps]) (by simp only [results, Try.results135]; go_simp) rfl HF.out

end Go.Proofs.Ytkegknophppdgaa
