/- Draw of a basis and a vector: contract of l8Pair. Written after Dkp. -/
import Derived.Test.YtninamlcffemoaaDbb
import Derived.Deep.RegionHeld3
import Derived.Deep.RegionLaw
namespace Go.Proofs.Ytninamlcffemoaa
open Go.RowKit
set_option linter.unusedVariables false
set_option maxRecDepth 20000

/-- What is said of a drawn basis and vector. -/
def okBV (n : Int) (xss : List (List Int)) (cs : List Int) : Prop := okB n xss ∧ cs.length ≤ 200
def DBV (w : World) (e : Ending) (w' : World) : Prop := ∃ n a2 c2 xss b d cs, e = .returned (.tuple #[bsV n a2 c2 xss, .slice b cs.length d]) ∧ okBV n xss cs ∧ OM w' w.heap.size w'.heap.size a2 c2 xss ∧ OwnI w' w.heap.size b d cs ∧ Ext w w'

set_option maxHeartbeats 8000000 in
set_option maxRecDepth 100000 in
theorem l8Pair_ok (a : Option Addr) (c : Nat) (bs : List Int) (w : World) (h : Vals w a (Y bs)) (hb : ∀ x ∈ bs, 0 ≤ x ∧ x ≤ 255) (hl : bs.length ≤ 1048576) :
    Calls Try.prog 115 #[.slice a bs.length c] w (DBV w) := by
  have xa := (Ext.refl w).alloc (.cells #[.int .i64 0, .slice none 0 0] 46)
  have b0 := Box2.new w (.int .i64 0) (.slice none 0 0) 46
  have C1 := Lib.hid (l1New_ok a c bs _ (h.ext xa) hb hl)
  have CB := Lib.hid (fun W n g (hW : Cur W g a c bs) (hn : n ≤ 1000000000) => l1Below_ok g a c bs n W hW hn)
  have CO := Lib.hid (fun W n g (hW : Cur W g a c bs) (hn : n ≤ 1000000000) => l1Once_ok g a c bs n W hW hn)
  have CG := Lib.hid (fun W (n : Nat) g (hW : Cur W g a c bs) (hn : n ≤ 20) => l8Any_ok g a c bs n W hW hn)
  have CA := Lib.hid (fun W (n : Nat) g (hW : Cur W g a c bs) (hn : n ≤ 1000) => l5Any_ok g a c bs n W hW (by omega))
  have CV := Lib.hid (fun W (n : Nat) g (hW : Cur W g a c bs) (hn : n ≤ 1000) => l5Vector_ok g a c bs n W hW (by omega))
  clear h hb
  go_enter Try.func115, Try.ntmps115
  go_wp2_with fail
  (with_reducible refine C1.out.mono ?_)
  rintro e w1 ⟨rfl, k1, e1⟩
  obtain ⟨g, hgg⟩ : ∃ g, (w.alloc (.cells #[.int .i64 0, .slice none 0 0] 46)).heap.size = g := ⟨_, rfl⟩
  rw [hgg] at k1 ⊢
  have hgw : w.heap.size < g := by rw [← hgg]; simp
  clear hgg
  have E1' := xa.trans e1
  have b1' := b0.ext e1
  have z1' := k1.lt
  clear C1 xa b0 e1
  go_wp2_with fail
  (with_reducible refine (CB.out _ _ _ k1 (by omega)).mono ?_)
  rintro e w1 ⟨y, rfl, y0, y1, k1, s1⟩
  obtain ⟨N, rfl⟩ := Int.eq_ofNat_of_zero_le y0
  have hN : N ≤ 4 := by omega
  have E1 := Span.ext E1' s1 (by omega)
  have b1 := b1'.span s1 (.inl hgw)
  clear E1' b1' s1 y0 y1
  go_wp2_with fail
  (with_reducible refine (CG.out _ N _ k1 (by omega)).mono ?_)
  rintro e w2 ⟨n, a2, c2, xss, rfl, HP, m2, k2, s2⟩
  have HP2 := Lib.hid HP
  have hx60 : xss.length ≤ 60 := HP.2.1
  have b2 := b1.span s2 (.inl hgw)
  have t2 := s2
  have z1 := k1.lt
  have x2 := (Ext.refl w2).alloc (.cells #[.int .i64 n, .slice a2 xss.length c2] 46)
  have k3 := k2.ext x2
  have p3 := Box2.new w2 (.int .i64 n) (.slice a2 xss.length c2) 46
  have b3 := b2.ext x2
  have m3 := (m2.mono (C2 := w2.heap.size) (Nat.le_refl _) (Nat.le_refl _)).ext x2
  have t3 := t2.alloc (.cells #[.int .i64 n, .slice a2 xss.length c2] 46)
  obtain ⟨p, hp⟩ : ∃ p, w2.heap.size = p := ⟨_, rfl⟩
  have hpg : g < p := by have := k2.lt; omega
  have hgp1 : g + 1 ≤ w1.heap.size := by omega
  rw [hp] at p3 m3
  clear HP b1 b2 k1 k2 s2 t2 m2 x2
  go_wp2_with fail
  · (with_reducible refine (CO.out _ _ _ k3 (by omega)).mono ?_)
    rintro e w4 ⟨q, rfl, k4, s4⟩
    have p4 := p3.span s4 (.inr (by omega))
    have b4 := b3.span s4 (.inl hgw)
    have m4 := m3.span s4 (.inr (by omega))
    have E4 := Span.ext E1 (t3.trans s4) (by omega)
    cases q
    · clear p3 b3 m3 t3 k3 s4 E1
      have D0 : Ext w4 w4.drew := (Ext.refl _).drew
      have CA1 := Lib.hid (CA.out _ N _ (k4.ext D0) (by omega))
      have PD := Lib.hid (p4.ext D0)
      have BD := Lib.hid (b4.ext D0)
      have MD := Lib.hid (m4.ext D0)
      have ED := E4.trans D0
      have zd : p < w4.drew.heap.size := PD.out.lt
      have pc0 := p4.1
      have pc1 := p4.2.1
      clear CB CO CG CV k4 D0
      go_wp2_with fail
      go_region_held3 (fun w' => w'.cell? ⟨p, 0, none⟩ = some (.int .i64 n) ∧ w'.cell? ⟨p, 1, none⟩ = some (.slice a2 xss.length c2))
        (first | exact ⟨p5.1, p5.2.1⟩ | exact ⟨S9.out.1, S9.out.2⟩ | exact ⟨PD.out.1, PD.out.2.1⟩ | go_keep)
        (first
          | (go_at_call 107; (with_reducible refine CA1.out.mono ?_); rintro e w5 ⟨a5, c5, vs, rfl, hv, o5, k5, s5⟩; have p5 := PD.out.span s5 (.inr (by omega)); obtain ⟨x50, x51, x52⟩ := BD.out.span s5 (.inl hgw); have x520 := x52 0; have x521 := x52 1; clear x52; have S9 : Hid (((w5.setCell ⟨w.heap.size, 0, none⟩ (.int .i64 n)).setCell ⟨w.heap.size, 1, none⟩ (.slice a2 xss.length c2)).cell? ⟨p, 0, none⟩ = some (.int .i64 n) ∧ ((w5.setCell ⟨w.heap.size, 0, none⟩ (.int .i64 n)).setCell ⟨w.heap.size, 1, none⟩ (.slice a2 xss.length c2)).cell? ⟨p, 1, none⟩ = some (.slice a2 xss.length c2)) := ⟨(World.cell?_setCell_other _ _ _ _ (by first | (simp; done) | (simp; omega))).trans ((World.cell?_setCell_other _ _ _ _ (by first | (simp; done) | (simp; omega))).trans p5.1), (World.cell?_setCell_other _ _ _ _ (by first | (simp; done) | (simp; omega))).trans ((World.cell?_setCell_other _ _ _ _ (by first | (simp; done) | (simp; omega))).trans p5.2.1)⟩))
      have M5 := MD.out.span s5 (.inr (by omega))
      have E5 := Span.ext ED s5 (by omega)
      have z5 := E5.size_le
      have zs := s5.size
      have MM := ((M5.span (Span.one (p := w.heap.size) (j := 0) (.int .i64 n)) (.inr (by omega))).span (Span.one (p := w.heap.size) (j := 1) (.slice a2 xss.length c2)) (.inr (by omega))).mono (C := w.heap.size) (C2 := ((w5.setCell ⟨w.heap.size, 0, none⟩ (.int .i64 n)).setCell ⟨w.heap.size, 1, none⟩ (.slice a2 xss.length c2)).heap.size) (by omega) (by simp; omega)
      have VV := (((o5.setCell (p := ⟨w.heap.size, 0, none⟩) (by show w.heap.size < w4.drew.heap.size; omega) (.int .i64 n)).setCell (p := ⟨w.heap.size, 1, none⟩) (by show w.heap.size < w4.drew.heap.size; omega) (.slice a2 xss.length c2))).more (B' := w.heap.size) (by omega)
      have EE := (E5.setCell (p := ⟨w.heap.size, 0, none⟩) (Nat.le_refl _) (.int .i64 n)).setCell (p := ⟨w.heap.size, 1, none⟩) (Nat.le_refl _) (.slice a2 xss.length c2)
      have HF : Hid (DBV w (.returned (.tuple #[bsV n a2 c2 xss, .slice a5 vs.length c5])) ((w5.setCell ⟨w.heap.size, 0, none⟩ (.int .i64 n)).setCell ⟨w.heap.size, 1, none⟩ (.slice a2 xss.length c2))) := ⟨n, a2, c2, xss, a5, c5, vs, rfl, ⟨HP2.out, by omega⟩, MM, VV, EE⟩
      clear MM VV EE E5 M5 o5 ED s5
      go_wp2_with fail
      refine bodyPost_ret (v := .tuple #[bsV n a2 c2 xss, .slice a5 vs.length c5]) (by simp only [results, Try.results115]; go_simp) rfl HF.out
    · have hx1 : 0 < xss.length := by first | omega | assumption
      clear p3 b3 m3 t3 k3 s4 E1
      obtain ⟨gb, rfl, gb0, gb1, gb2⟩ := m4.form hx1
      have D0 : Ext w4 w4.drew := (Ext.refl _).drew
      have CB1 := Lib.hid (CB.out _ (xss.length : Int) _ (k4.ext D0) (by omega))
      have CE := Lib.hid (l4Element_ok g a c bs)
      have PD := Lib.hid (p4.ext D0)
      have BD := Lib.hid (b4.ext D0)
      have MD := Lib.hid (m4.ext D0)
      have ED := Lib.hid (E4.trans D0)
      have zd : p < w4.drew.heap.size := PD.out.lt
      have zgb2 : g + 1 ≤ gb := by omega
      have RW : Hid (∀ k : Nat, k < xss.length → ∃ ra rc xs, Hid (validV xs = true) ∧ w4.drew.cell? ⟨gb, k, none⟩ = some (.slice ra xs.length rc) ∧ Hid (∀ W, Span g (g + 1) w4.drew W → Vals W ra (I xs))) := fun k hk => by
        obtain ⟨ra, rc, h1, h2, _, _⟩ := MD.out.row hk
        exact ⟨ra, rc, xss.getD k [], HP2.out.2.2 _ (List.mem_of_getElem? (getD_get hk)), h1, fun W hW => (h2.span hW (.inr hgp1)).vals⟩
      have CS : Hid (∀ W ra rc xs z, Vals W ra (I xs) → validV xs = true → inR z 0 1018 = true → Calls Try.prog 132 #[.slice ra xs.length rc, .int .i64 z] W (fun e w' => ∃ a3 c3 ys, e = .returned (.slice a3 ys.length c3) ∧ Hid (ys.length ≤ 40) ∧ OwnI w' W.heap.size a3 c3 ys ∧ Ext W w')) := fun W ra rc xs z h1 h2 h3 =>
        (specScaleVector_ok _ _ _ _ _ h1 h2 h3).mono (by rintro e w' ⟨a3, c3, rfl, o3, e3⟩; exact ⟨a3, c3, _, rfl, by rw [scl_length]; exact (validV_true.1 h2).2, o3, e3⟩)
      have pc0 := p4.1
      have pc1 := p4.2.1
      have pd0 := PD.out.1
      have pd1 := PD.out.2.1
      have i2 : (0 : Int) < (xss.length : Int) := by omega
      clear CB CO CG CV CA k4 D0 p4 b4 m4 E4 gb0 gb1 gb2
      go_wp2_with fail
      go_region_law
        (first
          | (go_simp; go_at_call 132; (with_reducible refine (CS.out _ _ _ _ _ (hrow.out w6 (s5.trans s6)) hxv.out hz).mono ?_); rintro e w7 ⟨a7, c7, vs, rfl, hvs, o7, e7⟩; obtain ⟨x70, x71, x72⟩ := ((BD.out.span s5 (.inl hgw)).span s6 (.inl hgw)).ext e7; have x720 := x72 0; have x721 := x72 1; clear x72; have p70 := e7.cell p60; have p71 := e7.cell p61; go_wp2_with fail)
          | (go_simp; go_at_call 141; (with_reducible refine (CE.out _ k5).mono ?_); rintro e w6 ⟨z, rfl, hz, k6, s6⟩; have p60 := s6.cell p50 (.inr (by show g + 1 ≤ p; omega)); have p61 := s6.cell p51 (.inr (by show g + 1 ≤ p; omega)); have r6 := s6.cell r5 (.inr (by show g + 1 ≤ gb; omega)); go_wp2_with fail)
          | (go_simp; go_at_call 105; (with_reducible refine CB1.out.mono ?_); rintro e w5 ⟨y, rfl, y0, y1, k5, s5⟩; obtain ⟨k, rfl⟩ := Int.eq_ofNat_of_zero_le y0; have hk : k < xss.length := (by omega); have hki : (k : Int) < (xss.length : Int) := (by omega); obtain ⟨ra, rc, xs, hxv, hcl, hrow⟩ := RW.out k hk; have p50 := s5.cell pd0 (.inr (by show g + 1 ≤ p; omega)); have p51 := s5.cell pd1 (.inr (by show g + 1 ≤ p; omega)); have r5 := s5.cell hcl (.inr (by show g + 1 ≤ gb; omega)); go_wp2_with fail))
      all_goals (
        have zw4 : w4.drew.heap.size ≤ w7.heap.size := Nat.le_trans (Nat.le_trans s5.size s6.size) e7.size_le
        have zg4 : w.heap.size < w6.heap.size := by have := s5.size; have := s6.size; omega
        have E7 := (Span.ext ED.out (s5.trans s6) (by omega)).trans e7
        have M7 := ((MD.out.span s5 (.inr (by omega))).span s6 (.inr (by omega))).ext e7
        have MM := ((M7.span (Span.one (p := w.heap.size) (j := 0) (.int .i64 n)) (.inr (by omega))).span (Span.one (p := w.heap.size) (j := 1) (.slice (some ⟨gb, 0, none⟩) xss.length c2)) (.inr (by omega))).mono (C := w.heap.size) (C2 := ((w7.setCell ⟨w.heap.size, 0, none⟩ (.int .i64 n)).setCell ⟨w.heap.size, 1, none⟩ (.slice (some ⟨gb, 0, none⟩) xss.length c2)).heap.size) (by omega) (by simp; omega)
        have VV := (((o7.setCell (p := ⟨w.heap.size, 0, none⟩) (by show w.heap.size < w6.heap.size; omega) (.int .i64 n)).setCell (p := ⟨w.heap.size, 1, none⟩) (by show w.heap.size < w6.heap.size; omega) (.slice (some ⟨gb, 0, none⟩) xss.length c2))).more (B' := w.heap.size) (by omega)
        have EE := (E7.setCell (p := ⟨w.heap.size, 0, none⟩) (Nat.le_refl _) (.int .i64 n)).setCell (p := ⟨w.heap.size, 1, none⟩) (Nat.le_refl _) (.slice (some ⟨gb, 0, none⟩) xss.length c2)
        have HF : Hid (DBV w (.returned (.tuple #[bsV n (some ⟨gb, 0, none⟩) c2 xss, .slice a7 vs.length c7])) ((w7.setCell ⟨w.heap.size, 0, none⟩ (.int .i64 n)).setCell ⟨w.heap.size, 1, none⟩ (.slice (some ⟨gb, 0, none⟩) xss.length c2))) := ⟨n, _, c2, xss, a7, c7, vs, rfl, ⟨HP2.out, by have := hvs.out; omega⟩, MM, VV, EE⟩
        clear MM VV EE E7 M7 o7 ED s5 s6 e7 MD BD PD RW CS CE CB1 k5 k6 p70 p71 p60 p61 p50 p51 r5 r6 hcl hrow
        go_wp2_with fail
        refine bodyPost_ret (v := .tuple #[bsV n (some ⟨gb, 0, none⟩) c2 xss, .slice a7 vs.length c7]) (by simp only [results, Try.results115]; go_simp) rfl HF.out)
  · have E3 := Span.ext E1 t3 (by omega)
    clear t3 E1
    have D0 : Ext (w2.alloc (.cells #[.int .i64 n, .slice a2 xss.length c2] 46)) (w2.alloc (.cells #[.int .i64 n, .slice a2 xss.length c2] 46)).drew := (Ext.refl _).drew
    have CA1 := Lib.hid (CA.out _ N _ (k3.ext D0) (by omega))
    have PD := Lib.hid (p3.ext D0)
    have BD := Lib.hid (b3.ext D0)
    have MD := Lib.hid (m3.ext D0)
    have ED := E3.trans D0
    have zd : p < (w2.alloc (.cells #[.int .i64 n, .slice a2 xss.length c2] 46)).drew.heap.size := PD.out.lt
    have pc0 := p3.1
    have pc1 := p3.2.1
    clear CB CO CG CV k3 D0
    go_wp2_with fail
    go_region_held3 (fun w' => w'.cell? ⟨p, 0, none⟩ = some (.int .i64 n) ∧ w'.cell? ⟨p, 1, none⟩ = some (.slice a2 xss.length c2))
      (first | exact ⟨p5.1, p5.2.1⟩ | exact ⟨S9.out.1, S9.out.2⟩ | exact ⟨PD.out.1, PD.out.2.1⟩ | go_keep)
      (first
        | (go_at_call 107; (with_reducible refine CA1.out.mono ?_); rintro e w5 ⟨a5, c5, vs, rfl, hv, o5, k5, s5⟩; have p5 := PD.out.span s5 (.inr (by omega)); obtain ⟨x50, x51, x52⟩ := BD.out.span s5 (.inl hgw); have x520 := x52 0; have x521 := x52 1; clear x52; have S9 : Hid (((w5.setCell ⟨w.heap.size, 0, none⟩ (.int .i64 n)).setCell ⟨w.heap.size, 1, none⟩ (.slice a2 xss.length c2)).cell? ⟨p, 0, none⟩ = some (.int .i64 n) ∧ ((w5.setCell ⟨w.heap.size, 0, none⟩ (.int .i64 n)).setCell ⟨w.heap.size, 1, none⟩ (.slice a2 xss.length c2)).cell? ⟨p, 1, none⟩ = some (.slice a2 xss.length c2)) := ⟨(World.cell?_setCell_other _ _ _ _ (by first | (simp; done) | (simp; omega))).trans ((World.cell?_setCell_other _ _ _ _ (by first | (simp; done) | (simp; omega))).trans p5.1), (World.cell?_setCell_other _ _ _ _ (by first | (simp; done) | (simp; omega))).trans ((World.cell?_setCell_other _ _ _ _ (by first | (simp; done) | (simp; omega))).trans p5.2.1)⟩))
    have M5 := MD.out.span s5 (.inr (by omega))
    have E5 := Span.ext ED s5 (by omega)
    have z5 := E5.size_le
    have zs := s5.size
    have MM := ((M5.span (Span.one (p := w.heap.size) (j := 0) (.int .i64 n)) (.inr (by omega))).span (Span.one (p := w.heap.size) (j := 1) (.slice a2 xss.length c2)) (.inr (by omega))).mono (C := w.heap.size) (C2 := ((w5.setCell ⟨w.heap.size, 0, none⟩ (.int .i64 n)).setCell ⟨w.heap.size, 1, none⟩ (.slice a2 xss.length c2)).heap.size) (by omega) (by simp; omega)
    have VV := (((o5.setCell (p := ⟨w.heap.size, 0, none⟩) (by show w.heap.size < (w2.alloc (.cells #[.int .i64 n, .slice a2 xss.length c2] 46)).drew.heap.size; omega) (.int .i64 n)).setCell (p := ⟨w.heap.size, 1, none⟩) (by show w.heap.size < (w2.alloc (.cells #[.int .i64 n, .slice a2 xss.length c2] 46)).drew.heap.size; omega) (.slice a2 xss.length c2))).more (B' := w.heap.size) (by omega)
    have EE := (E5.setCell (p := ⟨w.heap.size, 0, none⟩) (Nat.le_refl _) (.int .i64 n)).setCell (p := ⟨w.heap.size, 1, none⟩) (Nat.le_refl _) (.slice a2 xss.length c2)
    have HF : Hid (DBV w (.returned (.tuple #[bsV n a2 c2 xss, .slice a5 vs.length c5])) ((w5.setCell ⟨w.heap.size, 0, none⟩ (.int .i64 n)).setCell ⟨w.heap.size, 1, none⟩ (.slice a2 xss.length c2))) := ⟨n, a2, c2, xss, a5, c5, vs, rfl, ⟨HP2.out, by omega⟩, MM, VV, EE⟩
    clear MM VV EE E5 M5 o5 ED s5
    go_wp2_with fail
    refine bodyPost_ret (v := .tuple #[bsV n a2 c2 xss, .slice a5 vs.length c5]) (by simp only [results, Try.results115]; go_simp) rfl HF.out

end Go.Proofs.Ytninamlcffemoaa
