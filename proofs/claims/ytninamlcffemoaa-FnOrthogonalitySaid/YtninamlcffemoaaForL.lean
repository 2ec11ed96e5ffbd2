/- FnOrthogonality: DrawSpaces; the law. -/
import Derived.Test.YtninamlcffemoaaDba
import Derived.Test.YtninamlcffemoaaCop
import Derived.Test.YtninamlcffemoaaSame
import Derived.Deep.RegionHeld3
namespace Go.Proofs.Ytninamlcffemoaa
open Go.RowKit
set_option linter.unusedVariables false
set_option maxRecDepth 20000

/-- Two drawn bases, of which the first is told. -/
def DSP (w : World) (e : Ending) (w' : World) : Prop := ∃ (n : Nat) (a2 : Option Addr) (c2 : Nat) (R : List (List Int)) (m : Int) (a3 : Option Addr) (c3 : Nat) (S : List (List Int)), e = .returned (.tuple #[bsV n a2 c2 R, bsV m a3 c3 S]) ∧ (1 ≤ n ∧ n ≤ 5) ∧ RM n R ∧ MatR w' a2 R ∧ Ext w w'

set_option maxHeartbeats 8000000 in
set_option maxRecDepth 100000 in
theorem drawSpaces_ok (a : Option Addr) (c : Nat) (bs : List Int) (w : World) (h : Vals w a (Y bs)) (hb : ∀ x ∈ bs, 0 ≤ x ∧ x ≤ 255) (hl : bs.length ≤ 1048576) :
    Calls Try.prog 46 #[.slice a bs.length c] w (DSP w) := by
  have xa := ((Ext.refl w).alloc (.cells #[.int .i64 0, .slice none 0 0] 46)).alloc (.cells #[.int .i64 0, .slice none 0 0] 46)
  have b0 := (Box2.new w (.int .i64 0) (.slice none 0 0) 46).ext ((Ext.refl _).alloc (.cells #[.int .i64 0, .slice none 0 0] 46))
  have d0 := Box2.new (w.alloc (.cells #[.int .i64 0, .slice none 0 0] 46)) (.int .i64 0) (.slice none 0 0) 46
  rw [show (w.alloc (.cells #[.int .i64 0, .slice none 0 0] 46)).heap.size = w.heap.size + 1 by simp] at d0
  have C1 := Lib.hid (l1New_ok a c bs _ (h.ext xa) hb hl)
  have CB := Lib.hid (fun W n g (hW : Cur W g a c bs) (hn : n ≤ 1000000000) => l1Below_ok g a c bs n W hW hn)
  have CG := Lib.hid (fun W (n : Nat) g (hW : Cur W g a c bs) (hn : n ≤ 20) => l8Basis_ok g a c bs n W hW hn)
  clear h hb
  go_enter Try.func46, Try.ntmps46
  go_wp2_with fail
  (with_reducible refine C1.out.mono ?_)
  rintro e w0 ⟨rfl, k0, e0⟩
  obtain ⟨g, hgg⟩ : ∃ g, ((w.alloc (.cells #[.int .i64 0, .slice none 0 0] 46)).alloc (.cells #[.int .i64 0, .slice none 0 0] 46)).heap.size = g := ⟨_, rfl⟩
  rw [hgg] at k0 ⊢
  have hgw : w.heap.size + 1 < g := by rw [← hgg]; simp
  clear hgg
  replace b0 := b0.ext e0
  replace d0 := d0.ext e0
  have E0 := xa.trans e0
  have hg := k0.lt
  clear C1 xa e0
  go_wp2_with fail
  (with_reducible refine (CB.out _ _ _ k0 (by omega)).mono ?_)
  rintro e w1 ⟨y, rfl, y0, y1, k1, s1⟩
  obtain ⟨N, rfl⟩ := Int.eq_ofNat_of_zero_le y0
  have hN : N ≤ 4 := by omega
  replace b0 := b0.span s1 (.inl (by omega))
  replace d0 := d0.span s1 (.inl (by omega))
  have E1 := Span.ext E0 s1 (by omega)
  clear E0 k0 s1 y0 y1
  go_wp2_with fail
  obtain ⟨M, hM⟩ : ∃ M : Nat, 1 + (N : Int) = M := ⟨1 + N, by omega⟩
  have hM1 : 1 ≤ M := by omega
  have hM5 : M ≤ 5 := by omega
  rw [hM]
  clear hM hN
  (with_reducible refine (CG.out _ M _ k1 (by omega)).mono ?_)
  rintro e w2 ⟨n, a2, c2, R, rfl, ⟨rfl, hR⟩, m2, k2, s2⟩
  have hRl := hR.rows_le
  have HRV := Lib.hid hR
  replace b0 := b0.span s2 (.inl (by omega))
  replace d0 := d0.span s2 (.inl (by omega))
  have E2 := Span.ext E1 s2 (by omega)
  have z1 := k1.lt
  have x2 := (Ext.refl w2).alloc (.cells #[.int .i64 M, .slice a2 R.length c2] 46)
  have k3 := k2.ext x2
  have p3 := Box2.new w2 (.int .i64 M) (.slice a2 R.length c2) 46
  have b3 := b0.ext x2
  have d3 := d0.ext x2
  have m3 := m2.ext x2
  have E3 := E2.trans x2
  obtain ⟨p, hp⟩ : ∃ p, w2.heap.size = p := ⟨_, rfl⟩
  have hpg : g < p := by have := k2.lt; omega
  rw [hp] at p3 m3
  obtain ⟨w3, hw3⟩ : ∃ w3, w3 = w2.alloc (.cells #[.int .i64 M, .slice a2 R.length c2] 46) := ⟨_, rfl⟩
  rw [← hw3] at k3 p3 b3 d3 m3 E3
  have D0 : Ext w3 w3.drew := (Ext.refl _).drew
  have CG1 := Lib.hid (CG.out _ M _ (k3.ext D0) (by omega))
  have PD := Lib.hid (p3.ext D0)
  have BD := Lib.hid (b3.ext D0)
  have DD := Lib.hid (d3.ext D0)
  have MD := Lib.hid (m3.ext D0)
  have ED := Lib.hid (E3.trans D0)
  have zd : p < w3.drew.heap.size := PD.out.lt
  have pc0 := p3.1
  have pc1 := p3.2.1
  clear CB CG k1 k2 k3 b0 d0 b3 d3 m2 m3 E1 E2 E3 s2 x2 D0 hR p3
  go_wp2_with fail
  rw [← hw3]
  clear hw3 hp
  have n01 : w.heap.size ≠ w.heap.size + 1 := by omega
  have n10 : w.heap.size + 1 ≠ w.heap.size := by omega
  have n0p : w.heap.size ≠ p := by omega
  have n1p : w.heap.size + 1 ≠ p := by omega
  have np0 : p ≠ w.heap.size := by omega
  have np1 : p ≠ w.heap.size + 1 := by omega
  have pd0 := PD.out.1
  have pd1 := PD.out.2.1
  go_region_with (go_at_call 111; (with_reducible refine CG1.out.mono ?_); rintro e w5 ⟨n', a5, c5, S, rfl, ⟨rfl, hS⟩, m5, k5, s5⟩; have p50 := s5.cell pd0 (.inr (by show g + 1 ≤ p; omega)); have p51 := s5.cell pd1 (.inr (by show g + 1 ≤ p; omega)); obtain ⟨x50, x51, x52⟩ := BD.out.span s5 (.inl (by omega)); have x520 := x52 0; have x521 := x52 1; clear x52; obtain ⟨y50, y51, y52⟩ := DD.out.span s5 (.inl (by omega)); have y520 := y52 0; have y521 := y52 1; clear y52)
  all_goals (
    have HF : Hid (DSP w (.returned (.tuple #[bsV (M : Int) a2 c2 R, bsV (M : Int) a5 c5 S])) ((((w5.setCell ⟨w.heap.size, 0, none⟩ (.int .i64 M)).setCell ⟨w.heap.size, 1, none⟩ (.slice a2 R.length c2)).setCell ⟨w.heap.size + 1, 0, none⟩ (.int .i64 M)).setCell ⟨w.heap.size + 1, 1, none⟩ (.slice a5 S.length c5))) :=
      ⟨M, a2, c2, R, M, a5, c5, S, rfl, ⟨hM1, hM5⟩, HRV.out, (((((MD.out.span s5 (.inr (by omega))).span (Span.one (p := w.heap.size) (j := 0) (.int .i64 M)) (.inr (by omega))).span (Span.one (p := w.heap.size) (j := 1) (.slice a2 R.length c2)) (.inr (by omega))).span (Span.one (p := w.heap.size + 1) (j := 0) (.int .i64 M)) (.inr (by omega))).span (Span.one (p := w.heap.size + 1) (j := 1) (.slice a5 S.length c5)) (.inr (by omega))).reads, (((((Span.ext ED.out s5 (by omega)).setCell (p := ⟨w.heap.size, 0, none⟩) (by show w.heap.size ≤ w.heap.size; omega) (.int .i64 M)).setCell (p := ⟨w.heap.size, 1, none⟩) (by show w.heap.size ≤ w.heap.size; omega) (.slice a2 R.length c2)).setCell (p := ⟨w.heap.size + 1, 0, none⟩) (by show w.heap.size ≤ w.heap.size + 1; omega) (.int .i64 M)).setCell (p := ⟨w.heap.size + 1, 1, none⟩) (by show w.heap.size ≤ w.heap.size + 1; omega) (.slice a5 S.length c5))⟩
    clear MD ED BD DD PD CG1 m5 k5 s5 hS
    go_wp2_with fail
    refine bodyPost_ret (v := .tuple #[bsV (M : Int) a2 c2 R, bsV (M : Int) a5 c5 S]) (by simp only [results, Try.results46]; go_simp) rfl HF.out)

set_option maxHeartbeats 8000000 in
set_option maxRecDepth 100000 in
theorem lawFnOrthogonality (a : Option Addr) (c : Nat) (xs : List Int) (w : World) (r0 : Vals w a (Y xs)) (m0 : xs.length ≤ maxLen) (m1 : ∀ x ∈ xs, 0 ≤ x ∧ x ≤ 255) :
    Calls Try.prog 8 #[.slice a xs.length c] w (Gives w (.bool true)) := by
  by_cases hl : xs.length ≤ 1048576
  rotate_left
  · have C1 := Lib.hid (big_yes a c xs w hl m0)
    clear r0 m1 hl m0
    go_enter Try.func8, Try.ntmps8
    go_wp2_with (go_at_call 23; (with_reducible refine C1.out.mono ?_); rintro e w' ⟨rfl, rfl⟩)
    go_ret
    exact ⟨rfl, Ext.refl _⟩
  have C1 := Lib.hid (big_no a c xs w hl)
  have CD := Lib.hid (drawSpaces_ok a c xs w r0 m1 hl)
  clear r0 m1 hl m0
  go_enter Try.func8, Try.ntmps8
  go_wp2_with (go_at_call 23; (with_reducible refine C1.out.mono ?_); rintro e w' ⟨rfl, rfl⟩)
  (with_reducible refine CD.out.mono ?_)
  rintro e w1 ⟨n, am, cm, R, m, a3, c3, S, rfl, ⟨hn1, hn5⟩, hR, hM, e1⟩
  have hn40 : n ≤ 40 := by omega
  have hRl := hR.le'
  have hdim := orth_dim hn40 hR
  have hoo := orth_orth hn40 hR
  have hop := orth_RM hn40 hR
  have HPP : Hid (∀ i k, i < R.length → k < (orthR (n : Int) R).length → dotI (R.getD i []) ((orthR (n : Int) R).getD k []) = 0) := fun i k hi hk => orth_perp hn40 hR hi hk
  have HRV : Hid (RM n R) := hR
  have HRM : Hid (∀ xs ∈ R, xs.length ≤ 1048576) := fun xs hx => by have := (hR.1 xs hx).2; omega
  have hv1 : validB (n : Int) R = true := hR.validB hn40 (by omega)
  have x1 := ((Ext.refl w1).alloc (.cells #[.int .i64 n, .slice am R.length cm] 46)).alloc (.cells #[.int .i64 m, .slice a3 S.length c3] 46)
  have p1 := (Box2.new w1 (.int .i64 n) (.slice am R.length cm) 46).ext ((Ext.refl _).alloc (.cells #[.int .i64 m, .slice a3 S.length c3] 46))
  have CO := implOrthogonalSpace_ok n am cm R _ (hM.ext x1) (by omega) HRM.out
  rw [show orthW (n : Int) R = (n : Int) by unfold orthW; rw [hv1]; rfl] at CO
  obtain ⟨o, ho⟩ : ∃ o, Hid (o = orthR (n : Int) R) := ⟨_, rfl⟩
  rw [← ho.out] at CO hdim hoo hop HPP
  have HOV : Hid (RM n o) := hop.1
  have HOM : Hid (∀ xs ∈ o, xs.length ≤ 1048576) := fun xs hx => by have := (HOV.out.1 xs hx).2; omega
  have hol : o.length ≤ 5 := by omega
  have hv2 : validB (n : Int) o = true := HOV.out.validB hn40 (by omega)
  have D1 : Hid (dimB (n : Int) R = (R.length : Int)) := by unfold dimB; rw [hv1]; exact Lib.hid rfl
  have D2 : Hid (dimB (n : Int) o = (o.length : Int)) := by unfold dimB; rw [hv2]; exact Lib.hid rfl
  have W2 : Hid (orthW (n : Int) o = (n : Int)) := by unfold orthW; rw [hv2]; exact Lib.hid rfl
  have HOO := Lib.hid hoo
  have hR5 : R.length ≤ 5 := by omega
  have q1 : (o.length : Int) = (n : Int) - (R.length : Int) := by omega
  have q2 : IntKind.i64.wrap ((n : Int) - (R.length : Int)) = (o.length : Int) := by rw [IntKind.wrap_i64]; omega
  have q3 : ((o.length : Int) == (n : Int) - (R.length : Int)) = true := eq_of q1
  have q4 : ((o.length : Int) == (o.length : Int)) = true := eq_of rfl
  have hM1 := Lib.hid hM
  replace CO := Lib.hid CO
  clear hR hM hop hoo hv1 hv2 C1 CD ho hdim q1
  go_wp2_with fail
  (with_reducible refine CO.out.mono ?_)
  rintro e w2 ⟨ao, co, rfl, oO, e2⟩
  have X2 := (x1.trans e2).alloc (.cells #[.int .i64 n, .slice ao o.length co] 46)
  have E3 := e1.trans X2
  have P3 := Lib.hid ((p1.ext e2).ext ((Ext.refl _).alloc (.cells #[.int .i64 n, .slice ao o.length co] 46)))
  have Q3 := Lib.hid (Box2.new w2 (.int .i64 n) (.slice ao o.length co) 46)
  have hO3 := Lib.hid (oO.reads.ext ((Ext.refl w2).alloc (.cells #[.int .i64 n, .slice ao o.length co] 46)))
  have hM3 := Lib.hid (hM1.out.ext X2)
  obtain ⟨w3, hw3⟩ : ∃ w3, w3 = w2.alloc (.cells #[.int .i64 n, .slice ao o.length co] 46) := ⟨_, rfl⟩
  rw [← hw3] at E3 P3 Q3 hO3 hM3
  have KEEP : Hid (∀ w', Ext w3 w' → w'.cell? ⟨w1.heap.size, 0, none⟩ = some (.int .i64 n) ∧ w'.cell? ⟨w1.heap.size, 1, none⟩ = some (.slice am R.length cm) ∧ w'.cell? ⟨w2.heap.size, 0, none⟩ = some (.int .i64 n) ∧ w'.cell? ⟨w2.heap.size, 1, none⟩ = some (.slice ao o.length co)) := fun w' hE =>
    have h1 := P3.out.ext hE
    have h2 := Q3.out.ext hE
    ⟨h1.1, h1.2.1, h2.1, h2.2.1⟩
  have CM1 : Hid (∀ W, Ext w3 W → Calls Try.prog 49 #[bsV n ao co o] W (Gives W (.int .i64 o.length))) := fun W hE => by
    have := implDimension_ok n ao co o W (hO3.out.ext hE) (by omega) HOM.out
    rwa [D2.out] at this
  have CM2 : Hid (∀ W, Ext w3 W → Calls Try.prog 49 #[bsV n am cm R] W (Gives W (.int .i64 R.length))) := fun W hE => by
    have := implDimension_ok n am cm R W (hM3.out.ext hE) (by omega) HRM.out
    rwa [D1.out] at this
  have CO2 : Hid (∀ W, Ext w3 W → Calls Try.prog 47 #[bsV n ao co o] W (NewB W n R)) := fun W hE => by
    have := implOrthogonalSpace_ok n ao co o W (hO3.out.ext hE) (by omega) HOM.out
    rwa [W2.out, HOO.out] at this
  have CE : Hid (∀ W b d, Ext w3 W → MatR W b R → Calls Try.prog 50 #[bsV n b d R, bsV n am cm R] W (Gives W (.bool true))) := fun W b d hE hb => by
    have := implEqualBases_ok n b d R n am cm R W hb (hM3.out.ext hE) (by omega) HRM.out
    rwa [eqB_self] at this
  clear CO e1 x1 p1 e2 X2 oO P3 Q3 D1 D2 W2 HOO hM1
  go_wp2_with fail
  rw [← hw3]
  clear hw3
  go_loopw [6] (fun i wr => ∃ k : Nat, k ≤ R.length ∧ i = .int .i64 k ∧ Ext w3 wr) (fun i _ => R.length - (intOf i).toNat)
  case atStart => exact ⟨0, Nat.zero_le _, rfl, Ext.refl _⟩
  case round =>
    obtain ⟨k, hk, rfl, he⟩ := hrel
    obtain ⟨wq, hwq⟩ : ∃ wq, wq = wr := ⟨_, rfl⟩
    subst hwq
    obtain ⟨p30, p31, q30, q31⟩ := KEEP.out _ he
    by_cases hlt : k < R.length
    · have i1 : (k : Int) < (R.length : Int) := by omega
      have HE := Lib.hid he
      clear he
      go_wp2_with fail
      go_loopw [7] (fun i wz => ∃ j : Nat, j ≤ o.length ∧ i = .int .i64 j ∧ Ext w3 wz) (fun i _ => o.length - (intOf i).toNat)
      case atStart => exact ⟨0, Nat.zero_le _, rfl, HE.out⟩
      case round =>
        obtain ⟨j, hj, rfl, he⟩ := hrel
        clear p30 p31 q30 q31
        obtain ⟨p30, p31, q30, q31⟩ := KEEP.out _ he
        by_cases hlj : j < o.length
        · have i2 : (j : Int) < (o.length : Int) := by omega
          obtain ⟨b1, o1, ra, rc, u, rfl, hb1, hu, hcu, hru⟩ := (hM3.out.ext he).at_ hlt
          obtain ⟨b2, o2, rb, rd, v, rfl, hb2, hv, hcv, hrv⟩ := (hO3.out.ext he).at_ hlj
          have hdv : dotI u v = 0 := by
            have := HPP.out k j hlt hlj
            rwa [List.getD_eq_getElem?_getD, List.getD_eq_getElem?_getD, hu.out, hv.out] at this
          have hvu := HRV.out.1 u (List.mem_of_getElem? hu.out)
          have hvv := HOV.out.1 v (List.mem_of_getElem? hv.out)
          have CDt : Hid (∀ W, Ext wr W → Calls Try.prog 48 #[.slice ra u.length rc, .slice rb v.length rd] W fun e w' => e = .returned (.int .i64 0) ∧ W = w') := fun W hE => by
            rw [← hdv]
            exact implDotP_ok ra rb rc rd u v W (hru.ext hE) (hrv.ext hE) hvu.1 hvv.1 (by rw [hvu.2, hvv.2])
          have HE2 := Lib.hid he
          clear hdv hvu hvv hru hrv he hu hv
          go_wp2_with fail
          go_quiet ((go_at_call 48; exact Calls.same_quiet (CDt.out _ ((Ext.refl _).drewN _))))
          go_wp2_with fail
          go_roundw
          case rel => exact ⟨j + 1, by omega, by go_num, HE2.out.drewN _⟩
          case measure => simp [intOf]; omega
        · obtain rfl : j = o.length := by omega
          have HE2 := Lib.hid he
          clear he
          go_wp2_with fail
          go_roundw
          case rel => exact ⟨k + 1, by omega, by go_num, HE2.out⟩
          case measure => simp [intOf]; omega
    · obtain rfl : k = R.length := by omega
      have EW := E3.trans he
      have K2 : Hid (∀ w', Ext wq w' → w'.cell? ⟨w1.heap.size, 0, none⟩ = some (.int .i64 n) ∧ w'.cell? ⟨w1.heap.size, 1, none⟩ = some (.slice am R.length cm) ∧ w'.cell? ⟨w2.heap.size, 0, none⟩ = some (.int .i64 n) ∧ w'.cell? ⟨w2.heap.size, 1, none⟩ = some (.slice ao o.length co)) := fun w' hE => KEEP.out _ (he.trans hE)
      have CM1' : Hid (∀ W, Ext wq W → Calls Try.prog 49 #[bsV n ao co o] W (Gives W (.int .i64 o.length))) := fun W hE => CM1.out W (he.trans hE)
      have CM2' : Hid (∀ W, Ext wq W → Calls Try.prog 49 #[bsV n am cm R] W (Gives W (.int .i64 R.length))) := fun W hE => CM2.out W (he.trans hE)
      have CO2' : Hid (∀ W, Ext wq W → Calls Try.prog 47 #[bsV n ao co o] W (NewB W n R)) := fun W hE => CO2.out W (he.trans hE)
      have CE' : Hid (∀ W b d, Ext wq W → MatR W b R → Calls Try.prog 50 #[bsV n b d R, bsV n am cm R] W (Gives W (.bool true))) := fun W b d hE hb => CE.out W b d (he.trans hE) hb
      have x0 : Ext wq wq.drew := (Ext.refl wq).drew
      clear KEEP CM1 CM2 CO2 CE he E3 HPP HRV HOV hM3 hO3
      go_wp2_with fail
      go_region_held3 (fun w' => w'.cell? ⟨w1.heap.size, 0, none⟩ = some (.int .i64 n) ∧ w'.cell? ⟨w1.heap.size, 1, none⟩ = some (.slice am R.length cm) ∧ w'.cell? ⟨w2.heap.size, 0, none⟩ = some (.int .i64 n) ∧ w'.cell? ⟨w2.heap.size, 1, none⟩ = some (.slice ao o.length co))
        (first | exact K2.out _ x4 | exact K2.out _ x3 | exact K2.out _ x2 | exact K2.out _ x1 | exact K2.out _ x0 | exact K2.out _ (Ext.refl _) | go_keep)
        (first
          | (go_at_call 50; (with_reducible refine (CE'.out _ _ _ x3 o3.reads).mono ?_); rintro e v4 ⟨rfl, f4⟩; have x4 := x3.trans f4)
          | (go_at_call 47; (with_reducible refine (CO2'.out _ x2).mono ?_); rintro e v3 ⟨a6, c6, rfl, o3, f3⟩; have x3 := x2.trans f3)
          | (go_at_call 49; (with_reducible refine (CM2'.out _ x1).mono ?_); rintro e v2 ⟨rfl, f2⟩; have x2 := x1.trans f2)
          | (go_at_call 49; (with_reducible refine (CM1'.out _ x0).mono ?_); rintro e v1 ⟨rfl, f1⟩; have x1 := x0.trans f1))
      go_wp2_with fail
      go_ret
      exact ⟨rfl, EW.trans x4⟩

end Go.Proofs.Ytninamlcffemoaa
