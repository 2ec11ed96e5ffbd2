/- NewBasis, NewDecoder: contracts and laws. -/
import Derived.Test.YtcdfkkmbefjaaaaPairs
import Derived.Deep.RegionHeld3
namespace Go.Proofs.Ytcdfkkmbefjaaaa
open Go.RowKit
set_option linter.unusedVariables false

/-- No row. -/
def noRows : List (List Int) := []
def basisW (n : Int) : Int := if inR n 0 40 then n else 0

theorem implNewBasis_ok (n : Int) (w : World) : Calls Try.prog 38 #[.int .i64 n] w (NewB w (basisW n) noRows) := by
  have fin : ∀ W, Ext w W → ∀ m, m = basisW n → NewB w (basisW n) noRows (.returned (bsV m none 0 [])) W := fun W hW m hm => ⟨none, 0, by rw [hm]; rfl, ⟨[], World.ownsRow_nil _ _ _ _, fun k hk => by simp [blockOf] at hk, RowsO.nil _ _ _⟩, hW⟩
  have FIN := Lib.hid fin
  clear fin
  cases h1 : inR n 0 40
  · go_enter Try.func38, Try.ntmps38
    go_wp2_with (go_at_call 59; refine (implInRange_ok _ _ _ _).mono ?_; rintro e w' ⟨rfl, rfl⟩)
    refine bodyPost_ret (v := bsV 0 none 0 []) (by simp only [results, Try.results38]; go_simp) rfl (FIN.out _ ?_ _ (by simp [basisW, h1]))
    exact (Ext.refl w).alloc _
  · go_enter Try.func38, Try.ntmps38
    go_wp2_with (go_at_call 59; refine (implInRange_ok _ _ _ _).mono ?_; rintro e w' ⟨rfl, rfl⟩)
    refine bodyPost_ret (v := bsV n none 0 []) (by simp only [results, Try.results38]; go_simp) rfl (FIN.out _ ?_ _ (by simp [basisW, h1]))
    exact (Ext.refl w).alloc _

theorem specNewBasis_ok (n : Int) (w : World) : Calls Try.prog 37 #[.int .i64 n] w (NewB w (basisW n) noRows) := by
  have fin : ∀ W, Ext w W → ∀ m, m = basisW n → NewB w (basisW n) noRows (.returned (bsV m none 0 [])) W := fun W hW m hm => ⟨none, 0, by rw [hm]; rfl, ⟨[], World.ownsRow_nil _ _ _ _, fun k hk => by simp [blockOf] at hk, RowsO.nil _ _ _⟩, hW⟩
  have FIN := Lib.hid fin
  clear fin
  cases h1 : inR n 0 40
  · go_enter Try.func37, Try.ntmps37
    go_wp2_with (go_at_call 57; refine (specInRange_ok _ _ _ _).mono ?_; rintro e w' ⟨rfl, rfl⟩)
    refine bodyPost_ret (v := bsV 0 none 0 []) (by simp only [results, Try.results37]; go_simp) rfl (FIN.out _ ?_ _ (by simp [basisW, h1]))
    exact (Ext.refl w).alloc _
  · go_enter Try.func37, Try.ntmps37
    go_wp2_with (go_at_call 57; refine (specInRange_ok _ _ _ _).mono ?_; rintro e w' ⟨rfl, rfl⟩)
    refine bodyPost_ret (v := bsV n none 0 []) (by simp only [results, Try.results37]; go_simp) rfl (FIN.out _ ?_ _ (by simp [basisW, h1]))
    exact (Ext.refl w).alloc _

set_option maxHeartbeats 4000000 in
set_option maxRecDepth 100000 in
theorem lawNewBasis (n0 : Int) (w : World) :
    Calls Try.prog 10 #[.int .i64 n0] w (Gives w (.bool true)) := by
  have hres : (noRows).length ≤ 1048576 ∧ tot (noRows) ≤ 1048576 := ⟨by simp [noRows], by simp [tot, noRows]⟩
  have hrr : Hid (∀ xs ∈ (noRows), xs.length ≤ 1048576) := fun xs hx => by have := rows_le hx; omega
  obtain ⟨hres1, hres2⟩ := hres
  go_enter Try.func10, Try.ntmps10
  go_wp2_with fail
  refine (specNewBasis_ok _ _).mono ?_
  rintro e w1 ⟨u0a, u0c, rfl, u0o, e1⟩
  have E := (Ext.refl w).trans e1
  have z0 := e1.size_le
  go_wp2_with fail
  refine (implNewBasis_ok _ _).mono ?_
  rintro e w2 ⟨u1a, u1c, rfl, u1o, e2⟩
  have z2 := e2.size_le
  simp at z2
  replace u0o := u0o.ext (((Ext.refl w1).alloc _).trans e2)
  have w0_0 := e2.cell (p := ⟨w1.heap.size, 0, none⟩) (v := .int .i64 (basisW n0)) (by simp)
  have w0_1 := e2.cell (p := ⟨w1.heap.size, 1, none⟩) (v := .slice u0a (noRows).length u0c) (by simp)
  replace E := (E.alloc _).trans e2
  clear e2
  replace u1o := u1o.mono (C := w1.heap.size + 1) (C2 := w2.heap.size) (by simp) (Nat.le_refl _)
  have qself := eqB_self (basisW n0) (noRows)
  have y_w0_0 := ((Ext.refl w2).alloc (.cells #[.int .i64 (basisW n0), .slice u1a (noRows).length u1c] 50)).cell w0_0
  have y_w0_1 := ((Ext.refl w2).alloc (.cells #[.int .i64 (basisW n0), .slice u1a (noRows).length u1c] 50)).cell w0_1
  go_wp2_with fail
  refine (eqBasis_ok _ _ _ _ _ _ _ _ _ ((u1o.reads).ext ((Ext.refl _).alloc _)) ((u0o.reads).ext ((Ext.refl _).alloc _)) hres1 hrr.out).mono ?_
  clear y_w0_0 y_w0_1
  rintro e w3 ⟨rfl, e3⟩
  have z3 := e3.size_le
  simp at z3
  replace w0_0 := (((Ext.refl w2).alloc _).trans e3).cell w0_0
  replace w0_1 := (((Ext.refl w2).alloc _).trans e3).cell w0_1
  replace u0o := u0o.ext (((Ext.refl w2).alloc _).trans e3)
  replace u1o := u1o.ext (((Ext.refl w2).alloc _).trans e3)
  have g0_0 := e3.cell (p := ⟨w2.heap.size, 0, none⟩) (v := .int .i64 (basisW n0)) (by simp)
  have g0_1 := e3.cell (p := ⟨w2.heap.size, 1, none⟩) (v := .slice u1a (noRows).length u1c) (by simp)
  replace E := (E.alloc _).trans e3
  clear e3
  go_wp2_with fail
  refine (markBasis_ok _ _ _ _ _ _ _ _ u1o (by omega) (by omega) (Nat.le_trans hres2 (by omega)) (by omega) (by omega)).mono ?_
  rintro e w4 ⟨rfl, u1o', s4⟩
  have z4 := s4.size
  replace w0_0 := s4.cell w0_0 (by show w1.heap.size < _ ∨ _ ≤ w1.heap.size; omega)
  replace w0_1 := s4.cell w0_1 (by show w1.heap.size < _ ∨ _ ≤ w1.heap.size; omega)
  replace g0_0 := s4.cell g0_0 (by show w2.heap.size < _ ∨ _ ≤ w2.heap.size; omega)
  replace g0_1 := s4.cell g0_1 (by show w2.heap.size < _ ∨ _ ≤ w2.heap.size; omega)
  replace u0o := u0o.span s4 (by omega)
  replace E := Span.ext E s4 (by omega)
  clear s4 u1o
  have u1o := u1o'
  clear u1o'
  go_wp2_with fail
  refine (heldBasis_ok _ _ _ _ _ _ (u1o.reads) (by omega) (Nat.le_trans hres2 (by omega)) (by omega) (by omega)).mono ?_
  rintro e w5 ⟨rfl, e5⟩
  have z5 := e5.size_le
  replace w0_0 := e5.cell w0_0
  replace w0_1 := e5.cell w0_1
  replace g0_0 := e5.cell g0_0
  replace g0_1 := e5.cell g0_1
  replace u0o := u0o.ext e5
  replace u1o := u1o.ext e5
  replace E := E.trans e5
  clear e5
  go_wp2_with fail
  refine (implNewBasis_ok _ _).mono ?_
  rintro e w6 ⟨u2a, u2c, rfl, u2o, e6⟩
  have z6 := e6.size_le
  replace w0_0 := e6.cell w0_0
  replace w0_1 := e6.cell w0_1
  replace g0_0 := e6.cell g0_0
  replace g0_1 := e6.cell g0_1
  replace u0o := u0o.ext e6
  replace u1o := u1o.ext e6
  replace E := E.trans e6
  clear e6
  have y_w0_0 := ((Ext.refl w6).alloc (.cells #[.int .i64 (basisW n0), .slice u2a (noRows).length u2c] 50)).cell w0_0
  have y_w0_1 := ((Ext.refl w6).alloc (.cells #[.int .i64 (basisW n0), .slice u2a (noRows).length u2c] 50)).cell w0_1
  have y_g0_0 := ((Ext.refl w6).alloc (.cells #[.int .i64 (basisW n0), .slice u2a (noRows).length u2c] 50)).cell g0_0
  have y_g0_1 := ((Ext.refl w6).alloc (.cells #[.int .i64 (basisW n0), .slice u2a (noRows).length u2c] 50)).cell g0_1
  go_wp2_with fail
  refine (eqBasis_ok _ _ _ _ _ _ _ _ _ ((u2o.reads).ext ((Ext.refl _).alloc _)) ((u0o.reads).ext ((Ext.refl _).alloc _)) hres1 hrr.out).mono ?_
  clear y_w0_0 y_w0_1 y_g0_0 y_g0_1
  rintro e w7 ⟨rfl, e7⟩
  have z7 := e7.size_le
  simp at z7
  replace w0_0 := (((Ext.refl w6).alloc _).trans e7).cell w0_0
  replace w0_1 := (((Ext.refl w6).alloc _).trans e7).cell w0_1
  replace g0_0 := (((Ext.refl w6).alloc _).trans e7).cell g0_0
  replace g0_1 := (((Ext.refl w6).alloc _).trans e7).cell g0_1
  replace u0o := u0o.ext (((Ext.refl w6).alloc _).trans e7)
  replace u1o := u1o.ext (((Ext.refl w6).alloc _).trans e7)
  replace u2o := u2o.ext (((Ext.refl w6).alloc _).trans e7)
  have h0_0 := e7.cell (p := ⟨w6.heap.size, 0, none⟩) (v := .int .i64 (basisW n0)) (by simp)
  have h0_1 := e7.cell (p := ⟨w6.heap.size, 1, none⟩) (v := .slice u2a (noRows).length u2c) (by simp)
  replace E := (E.alloc _).trans e7
  clear e7
  go_wp2_with fail
  refine (heldBasis_ok _ _ _ _ _ _ (u1o.reads) (by omega) (Nat.le_trans hres2 (by omega)) (by omega) (by omega)).mono ?_
  rintro e w8 ⟨rfl, e8⟩
  have z8 := e8.size_le
  replace w0_0 := e8.cell w0_0
  replace w0_1 := e8.cell w0_1
  replace g0_0 := e8.cell g0_0
  replace g0_1 := e8.cell g0_1
  replace h0_0 := e8.cell h0_0
  replace h0_1 := e8.cell h0_1
  replace u0o := u0o.ext e8
  replace u1o := u1o.ext e8
  replace u2o := u2o.ext e8
  replace E := E.trans e8
  clear e8
  go_wp2_with fail
  go_ret
  exact ⟨rfl, E⟩

/-- The value of a decoder. -/
abbrev decV (g s d n : Int) (a : Option Addr) (c : Nat) (xss : List (List Int)) : Value := .agg #[.int .i64 g, .int .i64 s, .int .i64 d, .int .i64 n, .slice a xss.length c]
def NewD (w : World) (g s d n : Int) (xss : List (List Int)) (e : Ending) (w' : World) : Prop := ∃ a c, e = .returned (decV g s d n a c xss) ∧ OM w' w.heap.size w'.heap.size a c xss ∧ Ext w w'
def eqD (g s d n : Int) (xss : List (List Int)) (g' s' d' n' : Int) (yss : List (List Int)) : Bool := decide (g = g') && (decide (s = s') && (decide (d = d') && eqB n xss n' yss))
theorem eqD_self (g s d n : Int) (xss : List (List Int)) : eqD g s d n xss g s d n xss = true := by simp [eqD, eqB_self]

set_option maxHeartbeats 1000000 in
theorem eqDecoder_ok (g s d n : Int) (a : Option Addr) (c : Nat) (xss : List (List Int)) (g' s' d' n' : Int) (b : Option Addr) (c' : Nat) (yss : List (List Int)) (w : World) (h1 : MatR w a xss) (h2 : MatR w b yss) (hl : xss.length ≤ 1048576) (hr : ∀ xs ∈ xss, xs.length ≤ 1048576) :
    Calls Try.prog 52 #[decV g s d n a c xss, decV g' s' d' n' b c' yss] w (Gives w (.bool (eqD g s d n xss g' s' d' n' yss))) := by
  have HR := Lib.hid hr
  clear hr
  by_cases hg : g = g'
  · have hg1 := not_ne_of hg
    have HG : Hid (decide (g = g') = true) := decide_eq_true hg
    clear hg
    by_cases hs : s = s'
    · have hs1 := not_ne_of hs
      have HS : Hid (decide (s = s') = true) := decide_eq_true hs
      clear hs
      by_cases hd : d = d'
      · have hd1 := not_ne_of hd
        have HD : Hid (decide (d = d') = true) := decide_eq_true hd
        clear hd
        cases hq : eqB n xss n' yss
        all_goals
          have HQ := Lib.hid hq
          have qb := fun W x y => eqBasis_ok n a c xss n' b c' yss W x y hl HR.out
          rw [hq] at qb
          have QB := Lib.hid qb
          clear qb hq
          go_enter Try.func52, Try.ntmps52
          go_wp2_with fail
          refine (QB.out _ (h1.ext (((Ext.refl w).alloc _).alloc _)) (h2.ext (((Ext.refl w).alloc _).alloc _))).mono ?_
          rintro e w1 ⟨rfl, e1⟩
          go_wp2_with fail
          go_ret
          exact ⟨ret_bool (by unfold eqD; rw [HG.out, HS.out, HD.out, HQ.out]; rfl), (((Ext.refl w).alloc _).alloc _).trans e1⟩
      · have hd1 := ne_of hd
        have HD : Hid (decide (d = d') = false) := decide_eq_false hd
        clear hd
        go_enter Try.func52, Try.ntmps52
        go_wp2_with fail
        go_ret
        exact ⟨ret_bool (by unfold eqD; rw [HG.out, HS.out, HD.out]; rfl), ((Ext.refl w).alloc _).alloc _⟩
    · have hs1 := ne_of hs
      have HS : Hid (decide (s = s') = false) := decide_eq_false hs
      clear hs
      go_enter Try.func52, Try.ntmps52
      go_wp2_with fail
      go_ret
      exact ⟨ret_bool (by unfold eqD; rw [HG.out, HS.out]; rfl), ((Ext.refl w).alloc _).alloc _⟩
  · have hg1 := ne_of hg
    have HG : Hid (decide (g = g') = false) := decide_eq_false hg
    clear hg
    go_enter Try.func52, Try.ntmps52
    go_wp2_with fail
    go_ret
    exact ⟨ret_bool (by unfold eqD; rw [HG.out]; rfl), ((Ext.refl w).alloc _).alloc _⟩

theorem markDecoder_ok (B B2 : Nat) (g s d n : Int) (a : Option Addr) (c : Nat) (xss : List (List Int)) (k : Int) (w : World) (h : OM w B B2 a c xss) (hB : B2 ≤ w.heap.size) (hl : xss.length ≤ 1099511627776) (ht : tot xss ≤ 1099511627776) (h0 : 0 ≤ k) (h1 : k ≤ 1048576) :
    Calls Try.prog 53 #[decV g s d n a c xss, .int .i64 k] w fun e w' => e = .returned (.int .i64 (k + tot xss)) ∧ OM w' B B2 a c (upRows k xss) ∧ Span B B2 w w' := by
  go_enter Try.func53, Try.ntmps53
  go_wp2_with fail
  refine (markBasis_ok B B2 _ _ _ _ _ _ (h.ext ((Ext.refl w).alloc _)) (by simp; omega) hl ht h0 h1).mono ?_
  rintro e w1 ⟨rfl, o1, s1⟩
  go_wp2_with fail
  go_ret
  exact ⟨rfl, o1, (Span.of_ext ((Ext.refl w).alloc _)).trans s1⟩

theorem heldDecoder_ok (g s d n : Int) (a : Option Addr) (c : Nat) (xss : List (List Int)) (k : Int) (w : World) (h : MatR w a (upRows k xss)) (hl : xss.length ≤ 1099511627776) (ht : tot xss ≤ 1099511627776) (h0 : 0 ≤ k) (h1 : k ≤ 1048576) :
    Calls Try.prog 54 #[decV g s d n a c xss, .int .i64 k] w (Gives w (.int .i64 (k + tot xss))) := by
  have hnn : ¬ k + (tot xss : Int) < 0 := by omega
  go_enter Try.func54, Try.ntmps54
  go_wp2_with fail
  refine (heldBasis_ok _ _ _ _ _ _ (h.ext ((Ext.refl w).alloc _)) hl ht h0 h1).mono ?_
  rintro e w1 ⟨rfl, e1⟩
  go_wp2_with fail
  go_ret
  exact ⟨rfl, ((Ext.refl w).alloc _).trans e1⟩

def dec0 (g s d x : Int) : Int := if fmtOk g s d then x else 0

set_option maxHeartbeats 400000 in
theorem implNewDecoder_ok (g s d : Int) (w : World) : Calls Try.prog 51 #[.int .i64 g, .int .i64 s, .int .i64 d] w (NewD w (dec0 g s d g) (dec0 g s d s) (dec0 g s d d) (dec0 g s d (basisW (s + d))) noRows) := by
  cases h1 : fmtOk g s d
  · have fin : ∀ W, Ext w W → NewD w (dec0 g s d g) (dec0 g s d s) (dec0 g s d d) (dec0 g s d (basisW (s + d))) noRows (.returned (decV 0 0 0 0 none 0 noRows)) W := fun W hW =>
      ⟨none, 0, by simp [dec0, h1], ⟨[], World.ownsRow_nil _ _ _ _, fun k hk => by simp [blockOf] at hk, RowsO.nil _ _ _⟩, hW⟩
    have FIN := Lib.hid fin
    clear fin
    go_enter Try.func51, Try.ntmps51
    go_wp2_with (go_at_call 70; refine (isFormat_ok _ _ _ _).mono ?_; rintro e w' ⟨rfl, rfl⟩)
    refine bodyPost_ret (v := decV 0 0 0 0 none 0 noRows) (by simp only [results, Try.results51]; go_simp; rfl) rfl (FIN.out _ ?_)
    exact (Ext.refl w).alloc _
  · have hb : 1 ≤ s ∧ s ≤ 8 ∧ 1 ≤ d ∧ d ≤ 16 := by
      rcases fmtOk_cases g s d with ⟨_, h⟩ | ⟨_, _, h⟩ | ⟨_, _, _, h⟩ | ⟨_, p2, p3, _⟩
      · rw [h] at h1; cases h1
      · rw [h] at h1; cases h1
      · rw [h] at h1; cases h1
      · have := inR_true.1 p2; have := inR_true.1 p3; omega
    obtain ⟨b1, b2, b3, b4⟩ := hb
    have fin : ∀ W a c, OM W w.heap.size W.heap.size a c noRows → Ext w W → NewD w (dec0 g s d g) (dec0 g s d s) (dec0 g s d d) (dec0 g s d (basisW (s + d))) noRows (.returned (decV g s d (basisW (s + d)) a c noRows)) W := fun W a c hO hW =>
      ⟨a, c, by simp [dec0, h1], hO, hW⟩
    have FIN := Lib.hid fin
    clear fin
    go_enter Try.func51, Try.ntmps51
    go_wp2_with (go_at_call 70; refine (isFormat_ok _ _ _ _).mono ?_; rintro e w' ⟨rfl, rfl⟩)
    refine (implNewBasis_ok _ _).mono ?_
    rintro e w1 ⟨a1, c1, rfl, o1, e1⟩
    obtain ⟨k1, f1⟩ := e1.look
    have z1 := e1.size_le
    simp at o1 k1 f1 z1
    have e01 := ((Ext.refl w).alloc _).trans e1
    go_wp2_with fail
    refine bodyPost_ret (v := decV g s d (basisW (s + d)) a1 c1 noRows) (by simp only [results, Try.results51]; go_simp) rfl (FIN.out _ _ _ ?_ ?_)
    · exact (((((o1.setCell (by simp) _).setCell (by simp) _).setCell (by simp) _).setCell (by simp) _).setCell (by simp) _).mono (by omega) (by simp)
    · exact ((((e01.setCell (by simp) _).setCell (by simp) _).setCell (by simp) _).setCell (by simp) _).setCell (by simp) _

set_option maxHeartbeats 400000 in
theorem specNewDecoder_ok (g s d : Int) (w : World) : Calls Try.prog 50 #[.int .i64 g, .int .i64 s, .int .i64 d] w (NewD w (dec0 g s d g) (dec0 g s d s) (dec0 g s d d) (dec0 g s d (basisW (s + d))) noRows) := by
  cases h1 : fmtOk g s d
  · have fin : ∀ W, Ext w W → NewD w (dec0 g s d g) (dec0 g s d s) (dec0 g s d d) (dec0 g s d (basisW (s + d))) noRows (.returned (decV 0 0 0 0 none 0 noRows)) W := fun W hW =>
      ⟨none, 0, by simp [dec0, h1], ⟨[], World.ownsRow_nil _ _ _ _, fun k hk => by simp [blockOf] at hk, RowsO.nil _ _ _⟩, hW⟩
    have FIN := Lib.hid fin
    clear fin
    go_enter Try.func50, Try.ntmps50
    go_wp2_with (go_at_call 78; refine (l14Range_ok _ _ _ _).mono ?_; rintro e w' ⟨rfl, rfl⟩)
    refine bodyPost_ret (v := decV 0 0 0 0 none 0 noRows) (by simp only [results, Try.results50]; go_simp; rfl) rfl (FIN.out _ ?_)
    exact (Ext.refl w).alloc _
  · have hb : 1 ≤ s ∧ s ≤ 8 ∧ 1 ≤ d ∧ d ≤ 16 := by
      rcases fmtOk_cases g s d with ⟨_, h⟩ | ⟨_, _, h⟩ | ⟨_, _, _, h⟩ | ⟨_, p2, p3, _⟩
      · rw [h] at h1; cases h1
      · rw [h] at h1; cases h1
      · rw [h] at h1; cases h1
      · have := inR_true.1 p2; have := inR_true.1 p3; omega
    obtain ⟨b1, b2, b3, b4⟩ := hb
    have fin : ∀ W a c, OM W w.heap.size W.heap.size a c noRows → Ext w W → NewD w (dec0 g s d g) (dec0 g s d s) (dec0 g s d d) (dec0 g s d (basisW (s + d))) noRows (.returned (decV g s d (basisW (s + d)) a c noRows)) W := fun W a c hO hW =>
      ⟨a, c, by simp [dec0, h1], hO, hW⟩
    have FIN := Lib.hid fin
    clear fin
    go_enter Try.func50, Try.ntmps50
    go_wp2_with (go_at_call 78; refine (l14Range_ok _ _ _ _).mono ?_; rintro e w' ⟨rfl, rfl⟩)
    refine (specNewBasis_ok _ _).mono ?_
    rintro e w1 ⟨a1, c1, rfl, o1, e1⟩
    obtain ⟨k1, f1⟩ := e1.look
    have z1 := e1.size_le
    simp at o1 k1 f1 z1
    have e01 := ((Ext.refl w).alloc _).trans e1
    go_wp2_with fail
    refine bodyPost_ret (v := decV g s d (basisW (s + d)) a1 c1 noRows) (by simp only [results, Try.results50]; go_simp) rfl (FIN.out _ _ _ ?_ ?_)
    · exact (((((o1.setCell (by simp) _).setCell (by simp) _).setCell (by simp) _).setCell (by simp) _).setCell (by simp) _).mono (by omega) (by simp)
    · exact ((((e01.setCell (by simp) _).setCell (by simp) _).setCell (by simp) _).setCell (by simp) _).setCell (by simp) _

set_option maxHeartbeats 4000000 in
set_option maxRecDepth 100000 in
theorem lawNewDecoder (n0 : Int) (n1 : Int) (n2 : Int) (w : World) :
    Calls Try.prog 14 #[.int .i64 n0, .int .i64 n1, .int .i64 n2] w (Gives w (.bool true)) := by
  have hres : (noRows).length ≤ 1048576 ∧ tot (noRows) ≤ 1048576 := ⟨by simp [noRows], by simp [tot, noRows]⟩
  have hrr : Hid (∀ xs ∈ (noRows), xs.length ≤ 1048576) := fun xs hx => by have := rows_le hx; omega
  obtain ⟨hres1, hres2⟩ := hres
  go_enter Try.func14, Try.ntmps14
  go_wp2_with fail
  refine (specNewDecoder_ok _ _ _ _).mono ?_
  rintro e w1 ⟨u0a, u0c, rfl, u0o, e1⟩
  have E := (Ext.refl w).trans e1
  have z0 := e1.size_le
  go_wp2_with fail
  refine (implNewDecoder_ok _ _ _ _).mono ?_
  rintro e w2 ⟨u1a, u1c, rfl, u1o, e2⟩
  have z2 := e2.size_le
  simp at z2
  replace u0o := u0o.ext (((Ext.refl w1).alloc _).trans e2)
  have w0_0 := e2.cell (p := ⟨w1.heap.size, 0, none⟩) (v := .int .i64 (dec0 n0 n1 n2 n0)) (by simp)
  have w0_1 := e2.cell (p := ⟨w1.heap.size, 1, none⟩) (v := .int .i64 (dec0 n0 n1 n2 n1)) (by simp)
  have w0_2 := e2.cell (p := ⟨w1.heap.size, 2, none⟩) (v := .int .i64 (dec0 n0 n1 n2 n2)) (by simp)
  have w0_3 := e2.cell (p := ⟨w1.heap.size, 3, none⟩) (v := .int .i64 (dec0 n0 n1 n2 (basisW (n1 + n2)))) (by simp)
  have w0_4 := e2.cell (p := ⟨w1.heap.size, 4, none⟩) (v := .slice u0a (noRows).length u0c) (by simp)
  replace E := (E.alloc _).trans e2
  clear e2
  replace u1o := u1o.mono (C := w1.heap.size + 1) (C2 := w2.heap.size) (by simp) (Nat.le_refl _)
  have qself := eqD_self (dec0 n0 n1 n2 n0) (dec0 n0 n1 n2 n1) (dec0 n0 n1 n2 n2) (dec0 n0 n1 n2 (basisW (n1 + n2))) (noRows)
  have y_w0_0 := ((Ext.refl w2).alloc (.cells #[.int .i64 (dec0 n0 n1 n2 n0), .int .i64 (dec0 n0 n1 n2 n1), .int .i64 (dec0 n0 n1 n2 n2), .int .i64 (dec0 n0 n1 n2 (basisW (n1 + n2))), .slice u1a (noRows).length u1c] 61)).cell w0_0
  have y_w0_1 := ((Ext.refl w2).alloc (.cells #[.int .i64 (dec0 n0 n1 n2 n0), .int .i64 (dec0 n0 n1 n2 n1), .int .i64 (dec0 n0 n1 n2 n2), .int .i64 (dec0 n0 n1 n2 (basisW (n1 + n2))), .slice u1a (noRows).length u1c] 61)).cell w0_1
  have y_w0_2 := ((Ext.refl w2).alloc (.cells #[.int .i64 (dec0 n0 n1 n2 n0), .int .i64 (dec0 n0 n1 n2 n1), .int .i64 (dec0 n0 n1 n2 n2), .int .i64 (dec0 n0 n1 n2 (basisW (n1 + n2))), .slice u1a (noRows).length u1c] 61)).cell w0_2
  have y_w0_3 := ((Ext.refl w2).alloc (.cells #[.int .i64 (dec0 n0 n1 n2 n0), .int .i64 (dec0 n0 n1 n2 n1), .int .i64 (dec0 n0 n1 n2 n2), .int .i64 (dec0 n0 n1 n2 (basisW (n1 + n2))), .slice u1a (noRows).length u1c] 61)).cell w0_3
  have y_w0_4 := ((Ext.refl w2).alloc (.cells #[.int .i64 (dec0 n0 n1 n2 n0), .int .i64 (dec0 n0 n1 n2 n1), .int .i64 (dec0 n0 n1 n2 n2), .int .i64 (dec0 n0 n1 n2 (basisW (n1 + n2))), .slice u1a (noRows).length u1c] 61)).cell w0_4
  go_wp2_with fail
  refine (eqDecoder_ok _ _ _ _ _ _ _ _ _ _ _ _ _ _ _ ((u1o.reads).ext ((Ext.refl _).alloc _)) ((u0o.reads).ext ((Ext.refl _).alloc _)) hres1 hrr.out).mono ?_
  clear y_w0_0 y_w0_1 y_w0_2 y_w0_3 y_w0_4
  rintro e w3 ⟨rfl, e3⟩
  have z3 := e3.size_le
  simp at z3
  replace w0_0 := (((Ext.refl w2).alloc _).trans e3).cell w0_0
  replace w0_1 := (((Ext.refl w2).alloc _).trans e3).cell w0_1
  replace w0_2 := (((Ext.refl w2).alloc _).trans e3).cell w0_2
  replace w0_3 := (((Ext.refl w2).alloc _).trans e3).cell w0_3
  replace w0_4 := (((Ext.refl w2).alloc _).trans e3).cell w0_4
  replace u0o := u0o.ext (((Ext.refl w2).alloc _).trans e3)
  replace u1o := u1o.ext (((Ext.refl w2).alloc _).trans e3)
  have g0_0 := e3.cell (p := ⟨w2.heap.size, 0, none⟩) (v := .int .i64 (dec0 n0 n1 n2 n0)) (by simp)
  have g0_1 := e3.cell (p := ⟨w2.heap.size, 1, none⟩) (v := .int .i64 (dec0 n0 n1 n2 n1)) (by simp)
  have g0_2 := e3.cell (p := ⟨w2.heap.size, 2, none⟩) (v := .int .i64 (dec0 n0 n1 n2 n2)) (by simp)
  have g0_3 := e3.cell (p := ⟨w2.heap.size, 3, none⟩) (v := .int .i64 (dec0 n0 n1 n2 (basisW (n1 + n2)))) (by simp)
  have g0_4 := e3.cell (p := ⟨w2.heap.size, 4, none⟩) (v := .slice u1a (noRows).length u1c) (by simp)
  replace E := (E.alloc _).trans e3
  clear e3
  go_wp2_with fail
  refine (markDecoder_ok _ _ _ _ _ _ _ _ _ _ _ u1o (by omega) (by omega) (Nat.le_trans hres2 (by omega)) (by omega) (by omega)).mono ?_
  rintro e w4 ⟨rfl, u1o', s4⟩
  have z4 := s4.size
  replace w0_0 := s4.cell w0_0 (by show w1.heap.size < _ ∨ _ ≤ w1.heap.size; omega)
  replace w0_1 := s4.cell w0_1 (by show w1.heap.size < _ ∨ _ ≤ w1.heap.size; omega)
  replace w0_2 := s4.cell w0_2 (by show w1.heap.size < _ ∨ _ ≤ w1.heap.size; omega)
  replace w0_3 := s4.cell w0_3 (by show w1.heap.size < _ ∨ _ ≤ w1.heap.size; omega)
  replace w0_4 := s4.cell w0_4 (by show w1.heap.size < _ ∨ _ ≤ w1.heap.size; omega)
  replace g0_0 := s4.cell g0_0 (by show w2.heap.size < _ ∨ _ ≤ w2.heap.size; omega)
  replace g0_1 := s4.cell g0_1 (by show w2.heap.size < _ ∨ _ ≤ w2.heap.size; omega)
  replace g0_2 := s4.cell g0_2 (by show w2.heap.size < _ ∨ _ ≤ w2.heap.size; omega)
  replace g0_3 := s4.cell g0_3 (by show w2.heap.size < _ ∨ _ ≤ w2.heap.size; omega)
  replace g0_4 := s4.cell g0_4 (by show w2.heap.size < _ ∨ _ ≤ w2.heap.size; omega)
  replace u0o := u0o.span s4 (by omega)
  replace E := Span.ext E s4 (by omega)
  clear s4 u1o
  have u1o := u1o'
  clear u1o'
  go_wp2_with fail
  refine (heldDecoder_ok _ _ _ _ _ _ _ _ _ (u1o.reads) (by omega) (Nat.le_trans hres2 (by omega)) (by omega) (by omega)).mono ?_
  rintro e w5 ⟨rfl, e5⟩
  have z5 := e5.size_le
  replace w0_0 := e5.cell w0_0
  replace w0_1 := e5.cell w0_1
  replace w0_2 := e5.cell w0_2
  replace w0_3 := e5.cell w0_3
  replace w0_4 := e5.cell w0_4
  replace g0_0 := e5.cell g0_0
  replace g0_1 := e5.cell g0_1
  replace g0_2 := e5.cell g0_2
  replace g0_3 := e5.cell g0_3
  replace g0_4 := e5.cell g0_4
  replace u0o := u0o.ext e5
  replace u1o := u1o.ext e5
  replace E := E.trans e5
  clear e5
  go_wp2_with fail
  refine (implNewDecoder_ok _ _ _ _).mono ?_
  rintro e w6 ⟨u2a, u2c, rfl, u2o, e6⟩
  have z6 := e6.size_le
  replace w0_0 := e6.cell w0_0
  replace w0_1 := e6.cell w0_1
  replace w0_2 := e6.cell w0_2
  replace w0_3 := e6.cell w0_3
  replace w0_4 := e6.cell w0_4
  replace g0_0 := e6.cell g0_0
  replace g0_1 := e6.cell g0_1
  replace g0_2 := e6.cell g0_2
  replace g0_3 := e6.cell g0_3
  replace g0_4 := e6.cell g0_4
  replace u0o := u0o.ext e6
  replace u1o := u1o.ext e6
  replace E := E.trans e6
  clear e6
  have y_w0_0 := ((Ext.refl w6).alloc (.cells #[.int .i64 (dec0 n0 n1 n2 n0), .int .i64 (dec0 n0 n1 n2 n1), .int .i64 (dec0 n0 n1 n2 n2), .int .i64 (dec0 n0 n1 n2 (basisW (n1 + n2))), .slice u2a (noRows).length u2c] 61)).cell w0_0
  have y_w0_1 := ((Ext.refl w6).alloc (.cells #[.int .i64 (dec0 n0 n1 n2 n0), .int .i64 (dec0 n0 n1 n2 n1), .int .i64 (dec0 n0 n1 n2 n2), .int .i64 (dec0 n0 n1 n2 (basisW (n1 + n2))), .slice u2a (noRows).length u2c] 61)).cell w0_1
  have y_w0_2 := ((Ext.refl w6).alloc (.cells #[.int .i64 (dec0 n0 n1 n2 n0), .int .i64 (dec0 n0 n1 n2 n1), .int .i64 (dec0 n0 n1 n2 n2), .int .i64 (dec0 n0 n1 n2 (basisW (n1 + n2))), .slice u2a (noRows).length u2c] 61)).cell w0_2
  have y_w0_3 := ((Ext.refl w6).alloc (.cells #[.int .i64 (dec0 n0 n1 n2 n0), .int .i64 (dec0 n0 n1 n2 n1), .int .i64 (dec0 n0 n1 n2 n2), .int .i64 (dec0 n0 n1 n2 (basisW (n1 + n2))), .slice u2a (noRows).length u2c] 61)).cell w0_3
  have y_w0_4 := ((Ext.refl w6).alloc (.cells #[.int .i64 (dec0 n0 n1 n2 n0), .int .i64 (dec0 n0 n1 n2 n1), .int .i64 (dec0 n0 n1 n2 n2), .int .i64 (dec0 n0 n1 n2 (basisW (n1 + n2))), .slice u2a (noRows).length u2c] 61)).cell w0_4
  have y_g0_0 := ((Ext.refl w6).alloc (.cells #[.int .i64 (dec0 n0 n1 n2 n0), .int .i64 (dec0 n0 n1 n2 n1), .int .i64 (dec0 n0 n1 n2 n2), .int .i64 (dec0 n0 n1 n2 (basisW (n1 + n2))), .slice u2a (noRows).length u2c] 61)).cell g0_0
  have y_g0_1 := ((Ext.refl w6).alloc (.cells #[.int .i64 (dec0 n0 n1 n2 n0), .int .i64 (dec0 n0 n1 n2 n1), .int .i64 (dec0 n0 n1 n2 n2), .int .i64 (dec0 n0 n1 n2 (basisW (n1 + n2))), .slice u2a (noRows).length u2c] 61)).cell g0_1
  have y_g0_2 := ((Ext.refl w6).alloc (.cells #[.int .i64 (dec0 n0 n1 n2 n0), .int .i64 (dec0 n0 n1 n2 n1), .int .i64 (dec0 n0 n1 n2 n2), .int .i64 (dec0 n0 n1 n2 (basisW (n1 + n2))), .slice u2a (noRows).length u2c] 61)).cell g0_2
  have y_g0_3 := ((Ext.refl w6).alloc (.cells #[.int .i64 (dec0 n0 n1 n2 n0), .int .i64 (dec0 n0 n1 n2 n1), .int .i64 (dec0 n0 n1 n2 n2), .int .i64 (dec0 n0 n1 n2 (basisW (n1 + n2))), .slice u2a (noRows).length u2c] 61)).cell g0_3
  have y_g0_4 := ((Ext.refl w6).alloc (.cells #[.int .i64 (dec0 n0 n1 n2 n0), .int .i64 (dec0 n0 n1 n2 n1), .int .i64 (dec0 n0 n1 n2 n2), .int .i64 (dec0 n0 n1 n2 (basisW (n1 + n2))), .slice u2a (noRows).length u2c] 61)).cell g0_4
  go_wp2_with fail
  refine (eqDecoder_ok _ _ _ _ _ _ _ _ _ _ _ _ _ _ _ ((u2o.reads).ext ((Ext.refl _).alloc _)) ((u0o.reads).ext ((Ext.refl _).alloc _)) hres1 hrr.out).mono ?_
  clear y_w0_0 y_w0_1 y_w0_2 y_w0_3 y_w0_4 y_g0_0 y_g0_1 y_g0_2 y_g0_3 y_g0_4
  rintro e w7 ⟨rfl, e7⟩
  have z7 := e7.size_le
  simp at z7
  replace w0_0 := (((Ext.refl w6).alloc _).trans e7).cell w0_0
  replace w0_1 := (((Ext.refl w6).alloc _).trans e7).cell w0_1
  replace w0_2 := (((Ext.refl w6).alloc _).trans e7).cell w0_2
  replace w0_3 := (((Ext.refl w6).alloc _).trans e7).cell w0_3
  replace w0_4 := (((Ext.refl w6).alloc _).trans e7).cell w0_4
  replace g0_0 := (((Ext.refl w6).alloc _).trans e7).cell g0_0
  replace g0_1 := (((Ext.refl w6).alloc _).trans e7).cell g0_1
  replace g0_2 := (((Ext.refl w6).alloc _).trans e7).cell g0_2
  replace g0_3 := (((Ext.refl w6).alloc _).trans e7).cell g0_3
  replace g0_4 := (((Ext.refl w6).alloc _).trans e7).cell g0_4
  replace u0o := u0o.ext (((Ext.refl w6).alloc _).trans e7)
  replace u1o := u1o.ext (((Ext.refl w6).alloc _).trans e7)
  replace u2o := u2o.ext (((Ext.refl w6).alloc _).trans e7)
  have h0_0 := e7.cell (p := ⟨w6.heap.size, 0, none⟩) (v := .int .i64 (dec0 n0 n1 n2 n0)) (by simp)
  have h0_1 := e7.cell (p := ⟨w6.heap.size, 1, none⟩) (v := .int .i64 (dec0 n0 n1 n2 n1)) (by simp)
  have h0_2 := e7.cell (p := ⟨w6.heap.size, 2, none⟩) (v := .int .i64 (dec0 n0 n1 n2 n2)) (by simp)
  have h0_3 := e7.cell (p := ⟨w6.heap.size, 3, none⟩) (v := .int .i64 (dec0 n0 n1 n2 (basisW (n1 + n2)))) (by simp)
  have h0_4 := e7.cell (p := ⟨w6.heap.size, 4, none⟩) (v := .slice u2a (noRows).length u2c) (by simp)
  replace E := (E.alloc _).trans e7
  clear e7
  go_wp2_with fail
  refine (heldDecoder_ok _ _ _ _ _ _ _ _ _ (u1o.reads) (by omega) (Nat.le_trans hres2 (by omega)) (by omega) (by omega)).mono ?_
  rintro e w8 ⟨rfl, e8⟩
  have z8 := e8.size_le
  replace w0_0 := e8.cell w0_0
  replace w0_1 := e8.cell w0_1
  replace w0_2 := e8.cell w0_2
  replace w0_3 := e8.cell w0_3
  replace w0_4 := e8.cell w0_4
  replace g0_0 := e8.cell g0_0
  replace g0_1 := e8.cell g0_1
  replace g0_2 := e8.cell g0_2
  replace g0_3 := e8.cell g0_3
  replace g0_4 := e8.cell g0_4
  replace h0_0 := e8.cell h0_0
  replace h0_1 := e8.cell h0_1
  replace h0_2 := e8.cell h0_2
  replace h0_3 := e8.cell h0_3
  replace h0_4 := e8.cell h0_4
  replace u0o := u0o.ext e8
  replace u1o := u1o.ext e8
  replace u2o := u2o.ext e8
  replace E := E.trans e8
  clear e8
  go_wp2_with fail
  go_ret
  exact ⟨rfl, E⟩

end Go.Proofs.Ytcdfkkmbefjaaaa
