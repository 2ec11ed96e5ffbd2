/- Draw of a generation and coefficients: contract of DrawCodePacket. -/
import Derived.Test.YtkegknophppdgaaDgn
import Derived.Deep.RegionHeld3
namespace Go.Proofs.Ytkegknophppdgaa
open Go.RowKit
set_option linter.unusedVariables false
set_option maxRecDepth 20000

/-- What is said of a drawn generation and coefficients. -/
def okGV (n : Int) (xss : List (List Int)) (cs : List Int) : Prop := (-1 ≤ n ∧ n ≤ 1000000000001) ∧ xss.length ≤ 60 ∧ (∀ xs ∈ xss, xs.length ≤ 81) ∧ cs.length ≤ 200
def DGV (w : World) (e : Ending) (w' : World) : Prop := ∃ n a2 c2 xss b d cs, e = .returned (.tuple #[bsV n a2 c2 xss, .slice b cs.length d]) ∧ okGV n xss cs ∧ MatR w' a2 xss ∧ Vals w' b (I cs) ∧ Ext w w'

set_option maxHeartbeats 8000000 in
set_option maxRecDepth 100000 in
theorem drawCodePacket_ok (a : Option Addr) (c : Nat) (bs : List Int) (w : World) (h : Vals w a (Y bs)) (hb : ∀ x ∈ bs, 0 ≤ x ∧ x ≤ 255) (hl : bs.length ≤ 1048576) :
    Calls Try.prog 63 #[.slice a bs.length c] w (DGV w) := by
  have xa := (Ext.refl w).alloc (.cells #[.int .i64 0, .slice none 0 0] 53)
  have b0 := Box2.new w (.int .i64 0) (.slice none 0 0) 53
  have C1 := Lib.hid (l1New_ok a c bs _ (h.ext xa) hb hl)
  have CB := Lib.hid (fun W n g (hW : Cur W g a c bs) (hn : n ≤ 1000000000) => l1Below_ok g a c bs n W hW hn)
  have CO := Lib.hid (fun W n g (hW : Cur W g a c bs) (hn : n ≤ 1000000000) => l1Once_ok g a c bs n W hW hn)
  have CG := Lib.hid (fun W g (hW : Cur W g a c bs) => l10Any_ok g a c bs W hW)
  have CA := Lib.hid (fun W (n : Nat) g (hW : Cur W g a c bs) (hn : n ≤ 1000) => l5Any_ok g a c bs n W hW (by omega))
  have CV := Lib.hid (fun W (n : Nat) g (hW : Cur W g a c bs) (hn : n ≤ 1000) => l5Vector_ok g a c bs n W hW (by omega))
  clear h hb
  go_enter Try.func63, Try.ntmps63
  go_wp2_with fail
  (with_reducible refine C1.out.mono ?_)
  rintro e w1 ⟨rfl, k1, e1⟩
  obtain ⟨g, hgg⟩ : ∃ g, (w.alloc (.cells #[.int .i64 0, .slice none 0 0] 53)).heap.size = g := ⟨_, rfl⟩
  rw [hgg] at k1 ⊢
  have hgw : w.heap.size < g := by rw [← hgg]; simp
  clear hgg
  have E1 := xa.trans e1
  have b1 := b0.ext e1
  clear C1 xa b0 e1
  go_wp2_with fail
  (with_reducible refine (CG.out _ _ k1).mono ?_)
  rintro e w2 ⟨n, a2, c2, xss, rfl, HP, m2, k2, s2⟩
  have HP2 := Lib.hid HP
  have hx60 : xss.length ≤ 60 := HP.2.1
  have b2 := b1.span s2 (.inl hgw)
  have t2 := s2
  have z1 := k1.lt
  have x2 := (Ext.refl w2).alloc (.cells #[.int .i64 n, .slice a2 xss.length c2] 53)
  have k3 := k2.ext x2
  have p3 := Box2.new w2 (.int .i64 n) (.slice a2 xss.length c2) 53
  have b3 := b2.ext x2
  have m3 := (m2.mono (C2 := w2.heap.size) (Nat.le_refl _) (Nat.le_refl _)).ext x2
  have t3 := t2.alloc (.cells #[.int .i64 n, .slice a2 xss.length c2] 53)
  obtain ⟨p, hp⟩ : ∃ p, w2.heap.size = p := ⟨_, rfl⟩
  have hpg : g < p := by have := k2.lt; omega
  have hgp1 : g + 1 ≤ w1.heap.size := by omega
  rw [hp] at p3 m3
  clear HP b1 b2 k1 k2 s2 t2 m2 x2
  go_wp2_with fail
  (with_reducible refine (CO.out _ _ _ k3 (by omega)).mono ?_)
  rintro e w4 ⟨q, rfl, k4, s4⟩
  have p4 := p3.span s4 (.inr (by omega))
  have b4 := b3.span s4 (.inl hgw)
  have m4 := m3.span s4 (.inr (by omega))
  have t4 := t3.trans s4
  have E4 := Span.ext E1 t4 (by omega)
  clear p3 b3 m3 t3 k3 s4 E1 t4 hp
  have z4 := p4.lt
  cases q
  · have D0 : Ext w4 w4.drew := (Ext.refl w4).drew
    have CV1 := Lib.hid (CV.out _ xss.length _ (k4.ext D0) (by omega))
    clear CB CO CG CA CV k4
    go_wp2_with fail
    go_region_held3 (fun w' => w'.cell? ⟨p, 0, none⟩ = some (.int .i64 n) ∧ w'.cell? ⟨p, 1, none⟩ = some (.slice a2 xss.length c2))
      (first | exact ⟨p5.1, p5.2.1⟩ | exact ⟨S9.out.1, S9.out.2⟩ | exact ⟨p4.1, p4.2.1⟩ | go_keep)
      (first
        | (go_at_call 125; (with_reducible refine CV1.out.mono ?_); rintro e w5 ⟨a5, c5, vs, rfl, hv, o5, k5, s5⟩; have t5 := (Span.of_ext (B := g) (B2 := g + 1) D0).trans s5; have p5 := p4.span t5 (.inr (by omega)); obtain ⟨x50, x51, x52⟩ := b4.span t5 (.inl hgw); have x520 := x52 0; have x521 := x52 1; clear x52; have S9 : Hid (((w5.setCell ⟨w.heap.size, 0, none⟩ (.int .i64 n)).setCell ⟨w.heap.size, 1, none⟩ (.slice a2 xss.length c2)).cell? ⟨p, 0, none⟩ = some (.int .i64 n) ∧ ((w5.setCell ⟨w.heap.size, 0, none⟩ (.int .i64 n)).setCell ⟨w.heap.size, 1, none⟩ (.slice a2 xss.length c2)).cell? ⟨p, 1, none⟩ = some (.slice a2 xss.length c2)) := ⟨(World.cell?_setCell_other _ _ _ _ (by first | (simp; done) | (simp; omega))).trans ((World.cell?_setCell_other _ _ _ _ (by first | (simp; done) | (simp; omega))).trans p5.1), (World.cell?_setCell_other _ _ _ _ (by first | (simp; done) | (simp; omega))).trans ((World.cell?_setCell_other _ _ _ _ (by first | (simp; done) | (simp; omega))).trans p5.2.1)⟩))
    have hgd : g < w4.drew.heap.size := by show g < w4.heap.size; omega
    have M5 := m4.span t5 (.inr (by omega))
    have E5 := Span.ext E4 t5 (by omega)
    have z5 := E5.size_le
    have zs := (t5).size
    have MM := ((M5.span (Span.one (p := w.heap.size) (j := 0) (.int .i64 n)) (.inr (by omega))).span (Span.one (p := w.heap.size) (j := 1) (.slice a2 xss.length c2)) (.inr (by omega))).reads
    have VV := (((o5.setCell (p := ⟨w.heap.size, 0, none⟩) (by show w.heap.size < w4.drew.heap.size; have := s5.size; omega) (.int .i64 n)).setCell (p := ⟨w.heap.size, 1, none⟩) (by show w.heap.size < w4.drew.heap.size; have := s5.size; omega) (.slice a2 xss.length c2))).vals
    have EE := (E5.setCell (p := ⟨w.heap.size, 0, none⟩) (Nat.le_refl _) (.int .i64 n)).setCell (p := ⟨w.heap.size, 1, none⟩) (Nat.le_refl _) (.slice a2 xss.length c2)
    have HF : Hid (DGV w (.returned (.tuple #[bsV n a2 c2 xss, .slice a5 vs.length c5])) ((w5.setCell ⟨w.heap.size, 0, none⟩ (.int .i64 n)).setCell ⟨w.heap.size, 1, none⟩ (.slice a2 xss.length c2))) := ⟨n, a2, c2, xss, a5, c5, vs, rfl, ⟨HP2.out.1, HP2.out.2.1, HP2.out.2.2, by omega⟩, MM, VV, EE⟩
    clear MM VV EE E5 M5 o5 m4 E4 t5 s5
    go_wp2_with fail
    refine bodyPost_ret (v := .tuple #[bsV n a2 c2 xss, .slice a5 vs.length c5]) (by simp only [results, Try.results63]; go_simp) rfl HF.out
  · have D0 : Ext w4 w4.drew := (Ext.refl w4).drew
    have CB1 := Lib.hid (CB.out _ 5 _ (k4.ext D0) (by omega))
    clear CB CO CG CV k4
    go_wp2_with fail
    go_region_held3 (fun w' => w'.cell? ⟨p, 0, none⟩ = some (.int .i64 n) ∧ w'.cell? ⟨p, 1, none⟩ = some (.slice a2 xss.length c2))
      (first | exact ⟨p6.1, p6.2.1⟩ | exact ⟨p5.1, p5.2.1⟩ | exact ⟨S9.out.1, S9.out.2⟩ | exact ⟨p4.1, p4.2.1⟩ | go_keep)
      (first
        | (go_at_call 124; (with_reducible refine CB1.out.mono ?_); rintro e w5 ⟨y, rfl, y0, y1, k5, s5⟩; obtain ⟨m, rfl⟩ := Int.eq_ofNat_of_zero_le y0; have t5 := (Span.of_ext (B := g) (B2 := g + 1) D0).trans s5; have p5 := p4.span t5 (.inr (by omega)); have CA1 := Lib.hid (CA.out _ m _ k5 (by omega)))
        | (go_at_call 123; (with_reducible refine CA1.out.mono ?_); rintro e w6 ⟨a5, c5, vs, rfl, hv, o5, k6, s6⟩; have p6 := p5.span s6 (.inr (by omega)); obtain ⟨x50, x51, x52⟩ := (b4.span t5 (.inl hgw)).span s6 (.inl hgw); have x520 := x52 0; have x521 := x52 1; clear x52; have S9 : Hid (((w6.setCell ⟨w.heap.size, 0, none⟩ (.int .i64 n)).setCell ⟨w.heap.size, 1, none⟩ (.slice a2 xss.length c2)).cell? ⟨p, 0, none⟩ = some (.int .i64 n) ∧ ((w6.setCell ⟨w.heap.size, 0, none⟩ (.int .i64 n)).setCell ⟨w.heap.size, 1, none⟩ (.slice a2 xss.length c2)).cell? ⟨p, 1, none⟩ = some (.slice a2 xss.length c2)) := ⟨(World.cell?_setCell_other _ _ _ _ (by first | (simp; done) | (simp; omega))).trans ((World.cell?_setCell_other _ _ _ _ (by first | (simp; done) | (simp; omega))).trans p6.1), (World.cell?_setCell_other _ _ _ _ (by first | (simp; done) | (simp; omega))).trans ((World.cell?_setCell_other _ _ _ _ (by first | (simp; done) | (simp; omega))).trans p6.2.1)⟩))
    have hgd : g < w4.drew.heap.size := by show g < w4.heap.size; omega
    have M5 := m4.span (t5.trans s6) (.inr (by omega))
    have E5 := Span.ext E4 (t5.trans s6) (by omega)
    have z5 := E5.size_le
    have zs := ((t5.trans s6)).size
    have MM := ((M5.span (Span.one (p := w.heap.size) (j := 0) (.int .i64 n)) (.inr (by omega))).span (Span.one (p := w.heap.size) (j := 1) (.slice a2 xss.length c2)) (.inr (by omega))).reads
    have VV := (((o5.setCell (p := ⟨w.heap.size, 0, none⟩) (by show w.heap.size < w5.heap.size; have := s5.size; omega) (.int .i64 n)).setCell (p := ⟨w.heap.size, 1, none⟩) (by show w.heap.size < w5.heap.size; have := s5.size; omega) (.slice a2 xss.length c2))).vals
    have EE := (E5.setCell (p := ⟨w.heap.size, 0, none⟩) (Nat.le_refl _) (.int .i64 n)).setCell (p := ⟨w.heap.size, 1, none⟩) (Nat.le_refl _) (.slice a2 xss.length c2)
    have HF : Hid (DGV w (.returned (.tuple #[bsV n a2 c2 xss, .slice a5 vs.length c5])) ((w6.setCell ⟨w.heap.size, 0, none⟩ (.int .i64 n)).setCell ⟨w.heap.size, 1, none⟩ (.slice a2 xss.length c2))) := ⟨n, a2, c2, xss, a5, c5, vs, rfl, ⟨HP2.out.1, HP2.out.2.1, HP2.out.2.2, by omega⟩, MM, VV, EE⟩
    clear MM VV EE E5 M5 o5 m4 E4 t5 s5
    go_wp2_with fail
    refine bodyPost_ret (v := .tuple #[bsV n a2 c2 xss, .slice a5 vs.length c5]) (by simp only [results, Try.results63]; go_simp) rfl HF.out

end Go.Proofs.Ytkegknophppdgaa
