/- Draws of bases: l8Any. -/
import Derived.Test.YtninamlcffemoaaDba
import Derived.Test.YtninamlcffemoaaOph
import Derived.Deep.RegionLaw
namespace Go.Proofs.Ytninamlcffemoaa
open Go.RowKit
set_option linter.unusedVariables false
set_option maxRecDepth 20000

/-- What is said of a drawn basis, valid or not. -/
def okB (n : Int) (R : List (List Int)) : Prop := (-1 ≤ n ∧ n ≤ 41) ∧ R.length ≤ 60 ∧ ∀ xs ∈ R, validV xs = true

set_option maxHeartbeats 8000000 in
set_option maxRecDepth 100000 in
theorem l8Any_ok (g : Nat) (a : Option Addr) (c : Nat) (bs : List Int) (n : Nat) (w : World) (h : Cur w g a c bs) (hn : n ≤ 20) :
    Calls Try.prog 147 #[curV g, .int .i64 n] w (DrG g a c bs okB w) := by
  have hg := h.lt
  have CB := Lib.hid (fun W n (hW : Cur W g a c bs) (hn : n ≤ 1000000000) => l1Below_ok g a c bs n W hW hn)
  have CI := Lib.hid (l1Int_ok g a c bs)
  have CV := Lib.hid (fun W (hW : Cur W g a c bs) => l5Vector_ok g a c bs n W hW (by omega))
  have k0 := h.ext ((Ext.refl w).alloc (.cells #[.int .i64 0, .slice none 0 0] 46))
  have s0 := (Span.refl g (g + 1) w).alloc (.cells #[.int .i64 0, .slice none 0 0] 46)
  have b0 := Box2.new w (.int .i64 0) (.slice none 0 0) 46
  have CG := Lib.hid (l8Basis_ok g a c bs n _ k0 hn)
  clear h k0
  go_enter Try.func147, Try.ntmps147
  go_wp2_with fail
  (with_reducible refine CG.out.mono ?_)
  rintro e w1 ⟨n', a1, c1, R, rfl, ⟨rfl, hR⟩, m1, k1, s1⟩
  have hRl := hR.rows_le
  have HX : Hid (R.length ≤ 20 ∧ ∀ xs ∈ R, validV xs = true) := ⟨by omega, fun xs hx => (hR.1 xs hx).1⟩
  have b1 := b0.span s1 (.inr hg)
  have t1 := s0.trans s1
  have z1 := s1.size
  simp at z1
  have x2 := (Ext.refl w1).alloc (.cells #[.int .i64 n, .slice a1 R.length c1] 46)
  have k2 := k1.ext x2
  have p2 := Box2.new w1 (.int .i64 n) (.slice a1 R.length c1) 46
  have b2 := b1.ext x2
  have t2 := t1.alloc (.cells #[.int .i64 n, .slice a1 R.length c1] 46)
  have m2 : OM _ (w.heap.size + 1) w1.heap.size a1 c1 R := (m1.ext x2).mono (by simp) (Nat.le_refl _)
  clear CG s0 b0 b1 k1 s1 t1 m1 x2
  go_wp2_with fail
  (with_reducible refine (CB.out _ _ k2 (by omega)).mono ?_)
  rintro e w2 ⟨y, rfl, y0, y1, k3, s3⟩
  obtain ⟨p, hp⟩ : ∃ p, w1.heap.size = p := ⟨_, rfl⟩
  have hpg : w.heap.size < p := by omega
  have p3 := p2.span s3 (.inr (by omega))
  have b3 := b2.span s3 (.inr hg)
  have m3 := m2.span s3 (.inr (by omega))
  have t3 := t2.trans s3
  rw [hp] at p3 m3 ⊢
  have z3 := p3.lt
  clear k2 p2 b2 t2 m2 s3 z1 hp hR
  by_cases e0 : y = 0
  · subst e0
    have x3 := (Ext.refl w2).alloc (.cells (I [-1, (n : Int) + 1, 41]).toArray 3)
    have LV := Lib.hid (lit_span (w := w2) (g := g) k3.lt [-1, (n : Int) + 1, 41] 3)
    have KL := Lib.hid (k3.ext x3)
    have p4 := p3.ext x3
    have b4 := b3.ext x3
    have m4 := m3.ext x3
    have t4 := t3.alloc (.cells (I [-1, (n : Int) + 1, 41]).toArray 3)
    obtain ⟨p30, p31, p32⟩ := p3
    clear b3 m3 t3 k3 x3 p32
    go_wp2_with fail
    refine (CI.out (some ⟨w2.heap.size, 0, none⟩) 3 [-1, (n : Int) + 1, 41] _ KL.out LV.out (by simp) (by simp)).mono ?_
    rintro e w4 ⟨z, rfl, hz, k5, s5⟩
    have hz2 : -1 ≤ z ∧ z ≤ 41 := by simp at hz; omega
    have p5 := p4.span s5 (.inr (by omega))
    have b5 := b4.span s5 (.inr hg)
    have m5 := m4.span s5 (.inr (by omega))
    have t5 := t4.trans s5
    have z5 := p5.lt
    have hsp : Span p (p + 1) w4 (w4.setCell ⟨p, 0, none⟩ (.int .i64 z)) := Span.one _
    have p6 := p5.put0 (.int .i64 z)
    have b6 := b5.span hsp (.inl hpg)
    have m6 := m5.span hsp (.inl (Nat.le_refl _))
    have k6 := k5.span hsp (by omega)
    have t6 := t5.newer hsp (by omega)
    obtain ⟨p50, p51, p52⟩ := p5
    have p520 := p52 0
    clear LV KL hz s5 p4 b4 m4 t4 b5 m5 t5 k5 p52 hsp p30 p31
    have F := gen_fin hg t6 k6 m6 (by omega) (by first | (simp; done) | (simp; omega) | omega)
    obtain ⟨p30, p31, p32⟩ := p6
    obtain ⟨b30, b31, b32⟩ := b6
    have b320 := b32 0
    have b321 := b32 1
    have nb1 : p ≠ w.heap.size := by omega
    have nb2 : w.heap.size ≠ p := by omega
    have HXX : Hid (okB z R) := ⟨hz2, by have := HX.out.1; omega, HX.out.2⟩
    clear t6 k6 m6 b32 p32
    go_wp2_with fail
    refine bodyPost_ret (v := bsV z a1 c1 R) (by simp only [results, Try.results147]; go_simp) rfl ?_
    exact ⟨z, a1, c1, R, rfl, HXX.out, (F.out _ _).1, (F.out _ _).2.1, (F.out _ _).2.2⟩
  by_cases e1 : y = 1
  · subst e1
    have D0 : Ext w2 w2.drew := (Ext.refl w2).drew
    have CV1 := Lib.hid (CV.out _ (k3.ext D0))
    have MM := Lib.hid (m3.ext D0)
    have PP := Lib.hid (p3.ext D0)
    have BB := Lib.hid (b3.ext D0)
    have TT := Lib.hid (t3.trans (Span.of_ext (B := g) (B2 := g + 1) D0))
    have zp : p < w2.drew.heap.size := by show p < w2.heap.size; omega
    have hob : Hid (∀ k, blockOf a1 = some k → k < p ∧ w.heap.size + 1 ≤ k) := fun k hk => by
      have h1 := (m3.block k hk).1
      obtain ⟨rs, q1, q2, q3⟩ := m3
      exact ⟨q2 k hk, h1⟩
    obtain ⟨p30, p31, p32⟩ := p3
    have p3d := PP.out.2.1
    have hR20 := HX.out.1
    clear m3 b3 t3 k3 D0 p32 p30
    go_wp2_with fail
    go_region_law (first
      | (go_simp; go_at_call 109; (with_reducible refine CV1.out.mono ?_); rintro e w4 ⟨a5, c5, vs, rfl, ⟨hvl, hva⟩, o5, k5, s5⟩; have HVL := Lib.hid hvl; have HVA := Lib.hid hva; clear hvl hva; obtain ⟨zss, hzs⟩ : ∃ zss, Hid (zss = R ++ [vs]) := ⟨_, rfl⟩; have x51 := s5.cell p3d (.inr (by show g + 1 ≤ p; omega)); have zp4 : p < w4.heap.size := (PP.out.span s5 (.inr (by omega))).lt; have zn4 : p ≠ w4.heap.size := Nat.ne_of_lt zp4; have X5 := Lib.hid ((Ext.refl w4).alloc (.cells #[.slice a5 vs.length c5] 36)); have O5 := Lib.hid ((MM.out.span s5 (.inr (by omega))).ext X5.out); have R5 := Lib.hid (((OI.of o5).ext X5.out).mono (C := p + 1) (C2 := (w4.alloc (.cells #[.slice a5 vs.length c5] 36)).heap.size) zp (by simp)); have hnew := Lib.hid (Vals.new w4 [.slice a5 vs.length c5] 36); have P5 := Lib.hid ((PP.out.span s5 (.inr (by omega))).ext X5.out); have hC3 : Hid (p < (w4.alloc (.cells #[.slice a5 vs.length c5] 36)).heap.size) := P5.out.lt; go_wp2_with fail)
      | (refine step_appH _ (by rfl) _ _ (by rfl) (w.heap.size + 1) p p _ _ R (by rfl) O5.out _ _ _ _ vs (by rfl) hnew.out R5.out (by omega) (Nat.le_refl _) hC3.out zss hzs.out (by omega) ?_; intro a7 c7 w7 o7 g7; obtain ⟨x70, x71, x72⟩ := P5.out.grown g7 (fun e => absurd (hob.out p e).1 (Nat.lt_irrefl _)); have x721 := x72 1))
    all_goals (
      have p8 := (P5.out.grown g7 (fun e => absurd (hob.out p e).1 (Nat.lt_irrefl _))).put1 (.slice a7 zss.length c7)
      have b8 := ((((BB.out.span s5 (.inr hg)).ext X5.out).grown g7 (fun e => absurd (hob.out _ e).2 (by omega))).span (Span.one (p := p) (j := 1) (.slice a7 zss.length c7)) (.inl hpg))
      have m8 := o7 (.slice a7 zss.length c7) 1
      have k8 := ((k5.ext X5.out).grown g7 (fun k hk => by have := (hob.out k hk).2; omega)).span (Span.one (p := p) (j := 1) (.slice a7 zss.length c7)) (by omega)
      have t8 := (((TT.out.trans s5).trans (Span.of_ext (B := g) (B2 := g + 1) X5.out)).grownN g7 (fun k hk => by have := (hob.out k hk).2; omega)).newer (Span.one (p := p) (j := 1) (.slice a7 zss.length c7)) (by omega)
      have HZ : Hid (okB (n : Int) zss) := ⟨⟨by omega, by omega⟩, by rw [hzs.out, List.length_append]; simp; omega, fun xs hx => by
        rw [hzs.out] at hx
        rcases List.mem_append.1 hx with hx | hx
        · exact HX.out.2 xs hx
        · rw [List.mem_singleton.1 hx]; exact validV_true.2 ⟨HVA.out, by rw [HVL.out]; omega⟩⟩
      have z8 : p < (w7.setCell ⟨p, 1, none⟩ (.slice a7 zss.length c7)).heap.size := p8.lt
      clear o7 g7 x70 x71 x72 x721 O5 R5 hnew X5 s5 k5 o5 MM PP BB TT CV1 P5 x51 p3d p31
      have F := gen_fin hg t8 k8 m8 (by omega) (by first | (simp; done) | (simp; omega) | omega)
      obtain ⟨p30, p31, p32⟩ := p8
      obtain ⟨b30, b31, b32⟩ := b8
      have b320 := b32 0
      have b321 := b32 1
      have nb1 : p ≠ w.heap.size := by omega
      have nb2 : w.heap.size ≠ p := by omega
      have HXX : Hid (okB (n : Int) zss) := HZ
      clear t8 k8 m8 b32 p32
      go_wp2_with fail
      refine bodyPost_ret (v := bsV (n : Int) a7 c7 zss) (by simp only [results, Try.results147]; go_simp) rfl ?_
      exact ⟨(n : Int), a7, c7, zss, rfl, HXX.out, (F.out _ _).1, (F.out _ _).2.1, (F.out _ _).2.2⟩)
  have F := gen_fin hg t3 k3 m3 (by omega) (by first | (simp; done) | (simp; omega) | omega)
  obtain ⟨p30, p31, p32⟩ := p3
  obtain ⟨b30, b31, b32⟩ := b3
  have b320 := b32 0
  have b321 := b32 1
  have nb1 : p ≠ w.heap.size := by omega
  have nb2 : w.heap.size ≠ p := by omega
  have HXX : Hid (okB (n : Int) R) := ⟨⟨by omega, by omega⟩, by have := HX.out.1; omega, HX.out.2⟩
  clear t3 k3 m3 b32 p32
  go_wp2_with fail
  refine bodyPost_ret (v := bsV (n : Int) a1 c1 R) (by simp only [results, Try.results147]; go_simp) rfl ?_
  exact ⟨(n : Int), a1, c1, R, rfl, HXX.out, (F.out _ _).1, (F.out _ _).2.1, (F.out _ _).2.2⟩

end Go.Proofs.Ytninamlcffemoaa
