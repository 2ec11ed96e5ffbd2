/- Draws of bases: l8Basis. -/
import Derived.Test.YtninamlcffemoaaDgn
import Derived.Test.YtninamlcffemoaaSpanT
namespace Go.Proofs.Ytninamlcffemoaa
open Go.RowKit
set_option linter.unusedVariables false
set_option maxRecDepth 20000

theorem RM.rows_le {n : Nat} {R : List (List Int)} (h : RM n R) : R.length ≤ n := by
  have key : ∀ i, i < R.length → i ≤ ld (R.getD i []) := by
    intro i
    induction i with
    | zero => intro _; omega
    | succ i ih => intro hi; have := ih (by omega); have := h.2.mono i (i + 1) (by omega) hi; omega
  by_cases h0 : R.length = 0
  · omega
  · have h1 := key (R.length - 1) (by omega)
    have h2 := h.ld_lt (i := R.length - 1) (by omega)
    omega
theorem insV_RM {n : Nat} {R : List (List Int)} {v : List Int} (hn : n ≤ 40) (hR : RM n R) : RM n (insV (n : Int) R v) := by
  have := hR.rows_le
  rw [insV_span hn hR (by omega)]
  split
  · rename_i h
    simp only [Bool.and_eq_true, decide_eq_true_eq] at h
    exact (insM_ok hn hR (validV_true.1 h.1).1 h.2).1
  · exact hR

set_option maxHeartbeats 8000000 in
set_option maxRecDepth 100000 in
theorem l8Basis_ok (g : Nat) (a : Option Addr) (c : Nat) (bs : List Int) (n : Nat) (w : World) (h : Cur w g a c bs) (hn : n ≤ 20) :
    Calls Try.prog 111 #[curV g, .int .i64 n] w (DrG g a c bs (fun n' R => n' = (n : Int) ∧ RM n R) w) := by
  have hg := h.lt
  have CB := Lib.hid (fun W n (hW : Cur W g a c bs) (hn : n ≤ 1000000000) => l1Below_ok g a c bs n W hW hn)
  have CV := Lib.hid (fun W (hW : Cur W g a c bs) => l5Vector_ok g a c bs n W hW (by omega))
  have xa := (Ext.refl w).alloc (.cells #[.int .i64 0, .slice none 0 0] 46)
  have k0 := h.ext xa
  have s0 := (Span.refl g (g + 1) w).alloc (.cells #[.int .i64 0, .slice none 0 0] 46)
  have b0 := Box2.new w (.int .i64 0) (.slice none 0 0) 46
  have CN := specNewBasis0_ok (n : Int) (w.alloc (.cells #[.int .i64 0, .slice none 0 0] 46))
  rw [show basisW (n : Int) = (n : Int) by unfold basisW; rw [if_pos (inR_true.2 ⟨by omega, by omega⟩)]] at CN
  replace CN := Lib.hid CN
  clear h xa
  go_enter Try.func111, Try.ntmps111
  go_wp2_with fail
  (with_reducible refine CN.out.mono ?_)
  rintro e w1 ⟨rfl, e1⟩
  have x2 := (Ext.refl w1).alloc (.cells #[.int .i64 n, .slice none 0 0] 46)
  have k2 := (k0.ext e1).ext x2
  have p2 := Box2.new w1 (.int .i64 n) (.slice none 0 0) 46
  have b2 := (b0.ext e1).ext x2
  have t2 := (s0.trans (Span.of_ext e1)).alloc (.cells #[.int .i64 n, .slice none 0 0] 46)
  have z1 := e1.size_le
  simp at z1
  clear CN k0 s0 b0 e1 x2
  go_wp2_with fail
  (with_reducible refine (CB.out _ _ k2 (by omega)).mono ?_)
  rintro e w2 ⟨y, rfl, y0, y1, k3, s3⟩
  obtain ⟨m, rfl⟩ := Int.eq_ofNat_of_zero_le y0
  have hm4 : m ≤ 4 := by omega
  obtain ⟨p, hp⟩ : ∃ p, w1.heap.size = p := ⟨_, rfl⟩
  have hpg : w.heap.size < p := by omega
  have p3 := p2.span s3 (.inr (by omega))
  have b3 := b2.span s3 (.inr hg)
  have t3 := t2.trans s3
  rw [hp] at p3 ⊢
  clear k2 p2 b2 t2 s3 z1 y0 y1 hp
  go_wp2_with fail
  go_loopw [6] (fun i wr => ∃ (k : Nat) (a1 : Option Addr) (c1 : Nat) (R : List (List Int)), k ≤ m ∧ i = .int .i64 k ∧ Hid (RM n R) ∧ Box2 wr p (.int .i64 n) (.slice a1 R.length c1) ∧ Box2 wr w.heap.size (.int .i64 0) (.slice none 0 0) ∧ OM wr (p + 1) wr.heap.size a1 c1 R ∧ Cur wr g a c bs ∧ Span g (g + 1) w wr) (fun i _ => (intOf i).toNat)
  case atStart => exact ⟨m, none, 0, [], Nat.le_refl _, rfl, RM.nil n, p3, b3, OM.nil _ _ _, k3, t3⟩
  case round =>
    clear p3 b3 k3 t3
    obtain ⟨k, a1, c1, R, hk, rfl, HR, hp, hb, hM, hc, hs⟩ := hrel
    have hRl := HR.out.rows_le
    by_cases hk0 : k = 0
    · subst hk0
      have hp0 := hp.1
      have hp1 := hp.2.1
      have F := gen_fin hg hs hc hM (by omega) (Nat.le_refl _)
      obtain ⟨hb0, hb1, hb2⟩ := hb
      have hb20 := hb2 0
      have hb21 := hb2 1
      have nb1 : p ≠ w.heap.size := by omega
      have nb2 : w.heap.size ≠ p := by omega
      clear hM hc hs hb2 hp
      go_wp2_with fail
      refine bodyPost_ret (v := bsV (n : Int) a1 c1 R) (by simp only [results, Try.results111]; go_simp) rfl ?_
      exact ⟨n, a1, c1, R, rfl, ⟨rfl, HR.out⟩, (F.out _ _).1, (F.out _ _).2.1, (F.out _ _).2.2⟩
    have i1 : (0 : Int) < (k : Int) := by omega
    have D0 : Ext wr wr.drew := (Ext.refl wr).drew
    have CV1 := Lib.hid (CV.out _ (hc.ext D0))
    have P0 := hp.ext D0
    have hpl := hp.lt
    have BB := Lib.hid (hb.ext D0)
    have MM := Lib.hid (hM.ext D0)
    have TT := Lib.hid (hs.trans (Span.of_ext (B := g) (B2 := g + 1) D0))
    have hgd : g < wr.drew.heap.size := by show g < wr.heap.size; omega
    have CI : Hid (∀ W (a5 : Option Addr) (c5 : Nat) (vs : List Int), Span g (g + 1) wr.drew W → Vals W a5 (I vs) → vs.length = n → Calls Try.prog 143 #[bsV n a1 c1 R, .slice a5 vs.length c5] W (fun e w' => ∃ R' a6 c6 ok, e = .returned (.tuple #[bsV n a6 c6 R', .bool ok]) ∧ Hid (RM n R') ∧ OM w' W.heap.size w'.heap.size a6 c6 R' ∧ Ext W w')) := fun W a5 c5 vs hW hv hl =>
      (specInsertVector_ok n a1 c1 R a5 c5 vs W ((MM.out.span hW (.inr (by omega))).reads) hv (by omega) (fun xs hx => by have := (HR.out.1 xs hx).2; omega) (by omega)).mono fun e w' ⟨a6, c6, h1, h2, h3⟩ => ⟨_, a6, c6, _, h1, insV_RM (by omega) HR.out, h2, h3⟩
    obtain ⟨p00, p01, p02⟩ := P0
    obtain ⟨q00, q01, q02⟩ := hp
    have PP : Hid (Box2 wr.drew p (.int .i64 n) (.slice a1 R.length c1)) := ⟨p00, p01, p02⟩
    have zbase : p + 1 ≤ wr.drew.heap.size := by show p + 1 ≤ wr.heap.size; omega
    clear hk0 hb hM hc hs D0 p02 q02
    go_wp2_with fail
    go_region_with (first
      | (go_at_call 143; (with_reducible refine (CI.out v1 a5 c5 vs s5 o5.vals HVL.out).mono ?_); rintro e v2 ⟨R', a6, c6, ok, rfl, HR', m6, e6⟩; have p6 := p5.ext e6; obtain ⟨x60, x61, x62⟩ := p6; have x620 := x62 0; have x621 := x62 1; clear x62)
      | (go_at_call 109; (with_reducible refine CV1.out.mono ?_); rintro e v1 ⟨a5, c5, vs, rfl, ⟨hvl, hva⟩, o5, k5, s5⟩; have HVL := Lib.hid hvl; clear hvl hva; have p5 := PP.out.span s5 (.inr (by omega)); have x50 := p5.1; have x51 := p5.2.1))
    all_goals (
      have z5 := s5.size
      have P6 := p5.ext e6
      have P7 := (P6.put0 (.int .i64 n)).put1 (.slice a6 R'.length c6)
      have B7 := (((BB.out.span s5 (.inr hg)).ext e6).span (Span.one (p := p) (j := 0) (.int .i64 n)) (.inl hpg)).span (Span.one (p := p) (j := 1) (.slice a6 R'.length c6)) (.inl hpg)
      have M7 := (((m6.mono (C := p + 1) (by omega) (Nat.le_refl _)).span (Span.one (p := p) (j := 0) (.int .i64 n)) (.inr (Nat.le_refl _))).span (Span.one (p := p) (j := 1) (.slice a6 R'.length c6)) (.inr (Nat.le_refl _))).mono (C2 := ((v2.setCell ⟨p, 0, none⟩ (.int .i64 n)).setCell ⟨p, 1, none⟩ (.slice a6 R'.length c6)).heap.size) (Nat.le_refl _) (by simp)
      have K7 := ((k5.ext e6).span (Span.one (p := p) (j := 0) (.int .i64 n)) (by omega)).span (Span.one (p := p) (j := 1) (.slice a6 R'.length c6)) (by omega)
      have T7 := (((TT.out.trans s5).trans (Span.of_ext (B := g) (B2 := g + 1) e6)).newer (Span.one (p := p) (j := 0) (.int .i64 n)) (by omega)).newer (Span.one (p := p) (j := 1) (.slice a6 R'.length c6)) (by omega)
      clear P6 p5 m6 e6 s5 o5 k5 x60 x61 x620 x621 x50 x51 q00 q01 p00 p01
      go_wp2_with fail
      go_roundw
      case rel => exact ⟨k - 1, a6, c6, R', by omega, by go_num, HR', P7, B7, M7, K7, T7⟩
      case measure => simp [intOf]; omega)

end Go.Proofs.Ytninamlcffemoaa
