/- Contracts of CodePacket (program and reference); its law. -/
import Derived.Test.YtkegknophppdgaaComb
import Derived.Test.YtkegknophppdgaaEncPk
import Derived.Deep.RegionHeld3
namespace Go.Proofs.Ytkegknophppdgaa
open Go.RowKit
set_option linter.unusedVariables false
set_option maxRecDepth 20000

/-- A call hands back a new packet and a bool. -/
def NewPkF (w : World) (n : Int) (xs ys : List Int) (ok : Bool) (e : Ending) (w' : World) : Prop :=
  ∃ a c b d, e = .returned (.tuple #[pkV n a c xs b d ys, .bool ok]) ∧ OwnI w' w.heap.size a c xs ∧ OwnI w' w.heap.size b d ys ∧ Apart a b ∧ Ext w w'
def codeOk (n : Int) (xss : List (List Int)) (cs : List Int) : Bool := validG n xss && (validV cs && decide (cs.length = xss.length))
def codeN (n : Int) (xss : List (List Int)) (cs : List Int) : Int := if codeOk n xss cs then n else 0
def codeC (n : Int) (xss : List (List Int)) (cs : List Int) : List Int := if codeOk n xss cs then cs else []
def codeP (n : Int) (xss : List (List Int)) (cs : List Int) : List Int := if codeOk n xss cs then cmbTo (cols xss) xss cs xss.length else []

set_option maxHeartbeats 4000000 in
set_option maxRecDepth 100000 in
theorem codePacket_ok (n : Int) (a : Option Addr) (c : Nat) (xss : List (List Int)) (b : Option Addr) (d : Nat) (cs : List Int) (w : World) (h : MatR w a xss) (h' : Vals w b (I cs)) (hn : 0 < xss.length) (hl : xss.length = cs.length) (hv : VR (cols xss) xss) (hc : AllEl cs) (hm : xss.length ≤ 1048576) :
    Calls Try.prog 126 #[bsV n a c xss, .slice b cs.length d] w fun e w' => ∃ a2 c2, e = .returned (pkV n b d cs a2 c2 (cmbTo (cols xss) xss cs xss.length)) ∧ OwnI w' w.heap.size a2 c2 (cmbTo (cols xss) xss cs xss.length) ∧ Ext w w' := by
  have C1 : Hid (∀ W : World, Ext w W → Calls Try.prog 149 #[.slice a xss.length c, .slice b cs.length d] W (NewI W (cmbTo (cols xss) xss cs xss.length))) := fun W hW => combine_ok a b c d xss cs W (h.ext hW) (h'.ext hW) hn hl hv hc hm
  obtain ⟨ps, hps⟩ : ∃ ps, Hid (ps = cmbTo (cols xss) xss cs xss.length) := ⟨_, rfl⟩
  rw [← hps.out] at C1 ⊢
  clear hn hl hv hc hm h h'
  go_enter Try.func126, Try.ntmps126
  go_wp2_with fail
  go_region_held3 (fun w' => w'.cell? ⟨w.heap.size, 0, none⟩ = some (.int .i64 n) ∧ w'.cell? ⟨w.heap.size, 1, none⟩ = some (.slice a xss.length c))
    (first | go_keep | exact ⟨by simp, by simp⟩ | exact ⟨e4.cell (by simp), e4.cell (by simp)⟩)
    ((go_at_call 149; (with_reducible refine (C1.out _ ((((Ext.refl w).alloc _).alloc _).drew)).mono ?_); rintro e w4 ⟨a4, c4, rfl, o4, e4⟩; obtain ⟨k4, f4⟩ := e4.look; have z4 := e4.size_le; simp at k4 f4 z4))
  have e04 := ((((Ext.refl w).alloc _).alloc _).drew).trans e4
  simp at o4
  go_wp2_with fail
  refine bodyPost_ret (v := pkV n b d cs a4 c4 ps) (by simp only [results, Try.results126]; go_simp) rfl ⟨a4, c4, rfl, ?_, ?_⟩
  · exact (((o4.setCell (by simp) _).setCell (by simp) _).setCell (by simp) _).more (by omega)
  · exact ((e04.setCell (by simp) _).setCell (by simp) _).setCell (by simp) _

theorem codeOk_parts {n : Int} {xss : List (List Int)} {cs : List Int} (h : codeOk n xss cs = true) : validG n xss = true ∧ validV cs = true ∧ xss.length = cs.length ∧ VR (cols xss) xss ∧ AllEl cs ∧ 1 ≤ xss.length ∧ xss.length ≤ 8 := by
  unfold codeOk validG at h
  simp only [Bool.and_eq_true, decide_eq_true_eq] at h
  obtain ⟨⟨h1, h2, h3, h4⟩, h5, h6⟩ := h
  have := inR_true.1 h2
  exact ⟨by unfold validG; rw [h1, h2, h3, h4]; rfl, h5, h6.symm, vrows_true.1 h3, (validV_true.1 h5).1, by omega, by omega⟩

set_option maxHeartbeats 4000000 in
set_option maxRecDepth 100000 in
theorem implCodePacket_no (n : Int) (a : Option Addr) (c : Nat) (xss : List (List Int)) (b : Option Addr) (d : Nat) (cs : List Int) (w : World) (h : MatR w a xss) (h' : Vals w b (I cs)) (hm : xss.length ≤ 1048576) (hr : ∀ xs ∈ xss, xs.length ≤ 1048576) (hm' : cs.length ≤ 1048576) (hno : codeOk n xss cs = false) :
    Calls Try.prog 64 #[bsV n a c xss, .slice b cs.length d] w (NewPkF w 0 [] [] false) := by
  have q := implIsValidGeneration_ok n a c xss _ (h.ext (((Ext.refl w).alloc (.cells #[.int .i64 n, .slice a xss.length c] 53)).alloc (.cells #[.int .i64 0, .slice none 0 0, .slice none 0 0] 35))) (by omega) (fun xs hx => Nat.le_trans (hr xs hx) (by omega))
  have H' := Lib.hid h'
  clear h h' hr
  cases hg : validG n xss
  · rw [hg] at q
    have Q := Lib.hid q
    clear q
    go_enter Try.func64, Try.ntmps64
    go_wp2_with fail
    refine Q.out.mono ?_
    rintro e w1 ⟨rfl, e1⟩
    have e01 := (((Ext.refl w).alloc _).alloc _).trans e1
    obtain ⟨k1, f1⟩ := e1.look
    have z1 := e1.size_le
    simp at k1 f1 z1
    go_wp2_with fail
    refine bodyPost_ret (v := .tuple #[pkV 0 none 0 [] none 0 [], .bool false]) (by simp only [results, Try.results64]; go_simp) rfl ⟨none, 0, none, 0, rfl, OwnI.nil _ _, OwnI.nil _ _, fun k hk => by simp [blockOf] at hk, ?_⟩
    exact ((e01.setCell (by simp) _).setCell (by simp) _).setCell (by simp) _
  · rw [hg] at q
    have Q := Lib.hid q
    clear q
    cases hv : validV cs
    · go_enter Try.func64, Try.ntmps64
      go_wp2_with fail
      refine Q.out.mono ?_
      rintro e w1 ⟨rfl, e1⟩
      have e01 := (((Ext.refl w).alloc _).alloc _).trans e1
      obtain ⟨k1, f1⟩ := e1.look
      have z1 := e1.size_le
      simp at k1 f1 z1
      go_wp2_with (go_at_call 120; refine (implIsValidVector_ok _ _ _ _ (H'.out.ext e01) (by omega)).mono ?_; rintro e w' ⟨rfl, rfl⟩)
      refine bodyPost_ret (v := .tuple #[pkV 0 none 0 [] none 0 [], .bool false]) (by simp only [results, Try.results64]; go_simp) rfl ⟨none, 0, none, 0, rfl, OwnI.nil _ _, OwnI.nil _ _, fun k hk => by simp [blockOf] at hk, ?_⟩
      exact ((e01.setCell (by simp) _).setCell (by simp) _).setCell (by simp) _
    · have hne : ¬ cs.length = xss.length := fun e => by
        unfold codeOk at hno
        rw [hg, hv, decide_eq_true e] at hno
        simp at hno
      have hn1 : ((cs.length : Int) != (xss.length : Int)) = true := by simp; omega
      clear hne hno
      go_enter Try.func64, Try.ntmps64
      go_wp2_with fail
      refine Q.out.mono ?_
      rintro e w1 ⟨rfl, e1⟩
      have e01 := (((Ext.refl w).alloc _).alloc _).trans e1
      obtain ⟨k1, f1⟩ := e1.look
      have z1 := e1.size_le
      simp at k1 f1 z1
      go_wp2_with (go_at_call 120; refine (implIsValidVector_ok _ _ _ _ (H'.out.ext e01) (by omega)).mono ?_; rintro e w' ⟨rfl, rfl⟩)
      refine bodyPost_ret (v := .tuple #[pkV 0 none 0 [] none 0 [], .bool false]) (by simp only [results, Try.results64]; go_simp) rfl ⟨none, 0, none, 0, rfl, OwnI.nil _ _, OwnI.nil _ _, fun k hk => by simp [blockOf] at hk, ?_⟩
      exact ((e01.setCell (by simp) _).setCell (by simp) _).setCell (by simp) _

set_option maxHeartbeats 4000000 in
set_option maxRecDepth 100000 in
theorem specCodePacket_no (n : Int) (a : Option Addr) (c : Nat) (xss : List (List Int)) (b : Option Addr) (d : Nat) (cs : List Int) (w : World) (h : MatR w a xss) (h' : Vals w b (I cs)) (hm : xss.length ≤ 1048576) (hr : ∀ xs ∈ xss, xs.length ≤ 1048576) (hm' : cs.length ≤ 1048576) (hno : codeOk n xss cs = false) :
    Calls Try.prog 103 #[bsV n a c xss, .slice b cs.length d] w (NewPkF w 0 [] [] false) := by
  have q := specIsValidGeneration_ok n a c xss _ (h.ext (((Ext.refl w).alloc (.cells #[.int .i64 n, .slice a xss.length c] 53)).alloc (.cells #[.int .i64 0, .slice none 0 0, .slice none 0 0] 35))) (by omega) (fun xs hx => Nat.le_trans (hr xs hx) (by omega))
  have H' := Lib.hid h'
  clear h h' hr
  cases hg : validG n xss
  · rw [hg] at q
    have Q := Lib.hid q
    clear q
    go_enter Try.func103, Try.ntmps103
    go_wp2_with fail
    refine Q.out.mono ?_
    rintro e w1 ⟨rfl, e1⟩
    have e01 := (((Ext.refl w).alloc _).alloc _).trans e1
    obtain ⟨k1, f1⟩ := e1.look
    have z1 := e1.size_le
    simp at k1 f1 z1
    go_wp2_with fail
    refine bodyPost_ret (v := .tuple #[pkV 0 none 0 [] none 0 [], .bool false]) (by simp only [results, Try.results103]; go_simp) rfl ⟨none, 0, none, 0, rfl, OwnI.nil _ _, OwnI.nil _ _, fun k hk => by simp [blockOf] at hk, ?_⟩
    exact ((e01.setCell (by simp) _).setCell (by simp) _).setCell (by simp) _
  · rw [hg] at q
    have Q := Lib.hid q
    clear q
    cases hv : validV cs
    · go_enter Try.func103, Try.ntmps103
      go_wp2_with fail
      refine Q.out.mono ?_
      rintro e w1 ⟨rfl, e1⟩
      have e01 := (((Ext.refl w).alloc _).alloc _).trans e1
      obtain ⟨k1, f1⟩ := e1.look
      have z1 := e1.size_le
      simp at k1 f1 z1
      go_wp2_with (go_at_call 66; refine (specIsValidVector_ok _ _ _ _ (H'.out.ext e01) (by omega)).mono ?_; rintro e w' ⟨rfl, rfl⟩)
      refine bodyPost_ret (v := .tuple #[pkV 0 none 0 [] none 0 [], .bool false]) (by simp only [results, Try.results103]; go_simp) rfl ⟨none, 0, none, 0, rfl, OwnI.nil _ _, OwnI.nil _ _, fun k hk => by simp [blockOf] at hk, ?_⟩
      exact ((e01.setCell (by simp) _).setCell (by simp) _).setCell (by simp) _
    · have hne : ¬ cs.length = xss.length := fun e => by
        unfold codeOk at hno
        rw [hg, hv, decide_eq_true e] at hno
        simp at hno
      have hn1 : ((cs.length : Int) != (xss.length : Int)) = true := by simp; omega
      clear hne hno
      go_enter Try.func103, Try.ntmps103
      go_wp2_with fail
      refine Q.out.mono ?_
      rintro e w1 ⟨rfl, e1⟩
      have e01 := (((Ext.refl w).alloc _).alloc _).trans e1
      obtain ⟨k1, f1⟩ := e1.look
      have z1 := e1.size_le
      simp at k1 f1 z1
      go_wp2_with (go_at_call 66; refine (specIsValidVector_ok _ _ _ _ (H'.out.ext e01) (by omega)).mono ?_; rintro e w' ⟨rfl, rfl⟩)
      refine bodyPost_ret (v := .tuple #[pkV 0 none 0 [] none 0 [], .bool false]) (by simp only [results, Try.results103]; go_simp) rfl ⟨none, 0, none, 0, rfl, OwnI.nil _ _, OwnI.nil _ _, fun k hk => by simp [blockOf] at hk, ?_⟩
      exact ((e01.setCell (by simp) _).setCell (by simp) _).setCell (by simp) _

set_option maxHeartbeats 4000000 in
set_option maxRecDepth 100000 in
theorem implCodePacket_yes (n : Int) (a : Option Addr) (c : Nat) (xss : List (List Int)) (b : Option Addr) (d : Nat) (cs : List Int) (w : World) (h : MatR w a xss) (h' : Vals w b (I cs)) (hm : xss.length ≤ 1048576) (hr : ∀ xs ∈ xss, xs.length ≤ 1048576) (hm' : cs.length ≤ 1048576) (hyes : codeOk n xss cs = true) :
    Calls Try.prog 64 #[bsV n a c xss, .slice b cs.length d] w (NewPkF w n cs (cmbTo (cols xss) xss cs xss.length) true) := by
  have q := implIsValidGeneration_ok n a c xss _ (h.ext (((Ext.refl w).alloc (.cells #[.int .i64 n, .slice a xss.length c] 53)).alloc (.cells #[.int .i64 0, .slice none 0 0, .slice none 0 0] 35))) (by omega) (fun xs hx => Nat.le_trans (hr xs hx) (by omega))
  obtain ⟨hg, hv, hl, hvr, hall, hn1, hn2⟩ := codeOk_parts hyes
  have C1 : Hid (∀ (W : World) (b : Option Addr) (d : Nat), Ext w W → Vals W b (I cs) → Calls Try.prog 126 #[bsV n a c xss, .slice b cs.length d] W fun e w' => ∃ a2 c2, e = .returned (pkV n b d cs a2 c2 (cmbTo (cols xss) xss cs xss.length)) ∧ OwnI w' W.heap.size a2 c2 (cmbTo (cols xss) xss cs xss.length) ∧ Ext W w') :=
    fun W b d hW hb => codePacket_ok n a c xss b d cs W (h.ext hW) hb hn1 hl hvr hall hm
  obtain ⟨ps, hps⟩ : ∃ ps, Hid (ps = cmbTo (cols xss) xss cs xss.length) := ⟨_, rfl⟩
  rw [← hps.out] at C1 ⊢
  rw [hg] at q
  have Q := Lib.hid q
  have H' := Lib.hid h'
  have hq2 : ((cs.length : Int) != (xss.length : Int)) = false := by simp [hl]
  clear q h h' hr hvr hall hg hl hyes
  go_enter Try.func64, Try.ntmps64
  go_wp2_with fail
  refine Q.out.mono ?_
  rintro e w1 ⟨rfl, e1⟩
  have e01 := (((Ext.refl w).alloc _).alloc _).trans e1
  have c0 := e1.cell (p := ⟨w.heap.size, 0, none⟩) (v := .int .i64 n) (by simp)
  have c1 := e1.cell (p := ⟨w.heap.size, 1, none⟩) (v := .slice a xss.length c) (by simp)
  have z1 := e1.size_le
  simp at z1
  go_wp2_with (go_at_call 120; refine (implIsValidVector_ok _ _ _ _ (H'.out.ext e01) (by omega)).mono ?_; rintro e w' ⟨rfl, rfl⟩)
  go_region_held3 (fun w' => w'.cell? ⟨w.heap.size, 0, none⟩ = some (.int .i64 n) ∧ w'.cell? ⟨w.heap.size, 1, none⟩ = some (.slice a xss.length c))
    (first | go_keep | exact ⟨e4.cell (e3.cell c0), e4.cell (e3.cell c1)⟩ | exact ⟨e3.cell c0, e3.cell c1⟩)
    (first
      | (go_at_call 105; (with_reducible refine (cloneI_ok _ _ cs _ (H'.out.ext e01.drew) hm').mono ?_); rintro e w3 ⟨a3, c3, rfl, o3, e3'⟩; have e3 := (Ext.refl w1).drew.trans e3')
      | (go_at_call 126; (with_reducible refine (C1.out _ _ _ (e01.trans e3) o3.vals).mono ?_); rintro e w4 ⟨a4, c4, rfl, o4, e4⟩; obtain ⟨k4, f4⟩ := ((e1.trans e3).trans e4).look; have z3 := e3.size_le; have z4 := e4.size_le; simp at k4 f4 z3 z4))
  have e04 := (e01.trans e3).trans e4
  have o3x : OwnI w3 w1.heap.size a3 c3 cs := o3
  have o3' := o3x.ext e4
  have hap : Apart a3 a4 := fun k h1 h2 => by
    have := (o3x.block k h1).2
    have := (o4.block k h2).1
    omega
  have y3 := e3.size_le
  go_wp2_with fail
  refine bodyPost_ret (v := .tuple #[pkV n a3 c3 cs a4 c4 ps, .bool true]) (by simp only [results, Try.results64]; go_simp) rfl ⟨a3, c3, a4, c4, rfl, ?_, ?_, hap, ?_⟩
  · exact (((o3'.setCell (by simp; omega) _).setCell (by simp; omega) _).setCell (by simp; omega) _).more (by omega)
  · exact (((o4.setCell (by simp; omega) _).setCell (by simp; omega) _).setCell (by simp; omega) _).more (by omega)
  · exact ((e04.setCell (by simp) _).setCell (by simp) _).setCell (by simp) _

set_option maxHeartbeats 4000000 in
set_option maxRecDepth 100000 in
theorem specCodePacket_yes (n : Int) (a : Option Addr) (c : Nat) (xss : List (List Int)) (b : Option Addr) (d : Nat) (cs : List Int) (w : World) (h : MatR w a xss) (h' : Vals w b (I cs)) (hm : xss.length ≤ 1048576) (hr : ∀ xs ∈ xss, xs.length ≤ 1048576) (hm' : cs.length ≤ 1048576) (hyes : codeOk n xss cs = true) :
    Calls Try.prog 103 #[bsV n a c xss, .slice b cs.length d] w (NewPkF w n cs (cmbTo (cols xss) xss cs xss.length) true) := by
  have q := specIsValidGeneration_ok n a c xss _ (h.ext (((Ext.refl w).alloc (.cells #[.int .i64 n, .slice a xss.length c] 53)).alloc (.cells #[.int .i64 0, .slice none 0 0, .slice none 0 0] 35))) (by omega) (fun xs hx => Nat.le_trans (hr xs hx) (by omega))
  obtain ⟨hg, hv, hl, hvr, hall, hn1, hn2⟩ := codeOk_parts hyes
  have hcmb : comb xss cs = cmbTo (cols xss) xss cs xss.length := by unfold comb; rw [hv, vrows_true.2 hvr, decide_eq_false (show ¬ xss.length = 0 by omega)]; simp [hl]
  have C1 : Hid (∀ (W : World), Ext w W → Calls Try.prog 100 #[.slice a xss.length c, .slice b cs.length d] W (NewI W (cmbTo (cols xss) xss cs xss.length))) :=
    fun W hW => by rw [← hcmb]; exact specCombine_ok a b c d xss cs W (h.ext hW) (h'.ext hW) hm hr hm'
  obtain ⟨ps, hps⟩ : ∃ ps, Hid (ps = cmbTo (cols xss) xss cs xss.length) := ⟨_, rfl⟩
  rw [← hps.out] at C1 ⊢
  rw [hg] at q
  have Q := Lib.hid q
  have H' := Lib.hid h'
  have hq2 : ((cs.length : Int) != (xss.length : Int)) = false := by simp [hl]
  clear q h h' hr hvr hall hg hl hyes hcmb
  go_enter Try.func103, Try.ntmps103
  go_wp2_with fail
  refine Q.out.mono ?_
  rintro e w1 ⟨rfl, e1⟩
  have e01 := (((Ext.refl w).alloc _).alloc _).trans e1
  have c0 := e1.cell (p := ⟨w.heap.size, 0, none⟩) (v := .int .i64 n) (by simp)
  have c1 := e1.cell (p := ⟨w.heap.size, 1, none⟩) (v := .slice a xss.length c) (by simp)
  have z1 := e1.size_le
  simp at z1
  go_wp2_with (go_at_call 66; refine (specIsValidVector_ok _ _ _ _ (H'.out.ext e01) (by omega)).mono ?_; rintro e w' ⟨rfl, rfl⟩)
  go_region_held3 (fun w' => w'.cell? ⟨w.heap.size, 0, none⟩ = some (.int .i64 n) ∧ w'.cell? ⟨w.heap.size, 1, none⟩ = some (.slice a xss.length c))
    (first | go_keep | exact ⟨e4.cell (e3.cell c0), e4.cell (e3.cell c1)⟩ | exact ⟨e3.cell c0, e3.cell c1⟩)
    (first
      | (go_at_call 100; (with_reducible refine (C1.out _ (e01.trans e3)).mono ?_); rintro e w4 ⟨a4, c4, rfl, o4, e4⟩; obtain ⟨k4, f4⟩ := ((e1.trans e3).trans e4).look; have z3 := e3.size_le; have z4 := e4.size_le; simp at k4 f4 z3 z4)
      | (refine step_appI _ (by rfl) _ _ (by rfl) w1.heap.size _ _ [] (by rfl) ((OwnI.new w1 w1.heap.size [] (Nat.le_refl _) (by simp)).ext (Ext.refl _).drew) _ _ cs (by rfl) (H'.out.ext (e01.alloc _).drew) cs rfl (by simp; omega) (by simp) ?_; intro a3 c3 w3 o3 g3 _; have e3 := (((Ext.refl w1).alloc _).drew).grown g3 (fun k hk => by simp [blockOf] at hk; omega)))
  have e04 := (e01.trans e3).trans e4
  have o3x : OwnI w3 w1.heap.size a3 c3 cs := o3
  have o3' := o3x.ext e4
  have hap : Apart a3 a4 := fun k h1 h2 => by
    have := (o3x.block k h1).2
    have := (o4.block k h2).1
    omega
  have y3 := e3.size_le
  go_wp2_with fail
  refine bodyPost_ret (v := .tuple #[pkV n a3 c3 cs a4 c4 ps, .bool true]) (by simp only [results, Try.results103]; go_simp) rfl ⟨a3, c3, a4, c4, rfl, ?_, ?_, hap, ?_⟩
  · exact (((o3'.setCell (by simp; omega) _).setCell (by simp; omega) _).setCell (by simp; omega) _).more (by omega)
  · exact (((o4.setCell (by simp; omega) _).setCell (by simp; omega) _).setCell (by simp; omega) _).more (by omega)
  · exact ((e04.setCell (by simp) _).setCell (by simp) _).setCell (by simp) _

theorem implCodePacket_ok (n : Int) (a : Option Addr) (c : Nat) (xss : List (List Int)) (b : Option Addr) (d : Nat) (cs : List Int) (w : World) (h : MatR w a xss) (h' : Vals w b (I cs)) (hm : xss.length ≤ 1048576) (hr : ∀ xs ∈ xss, xs.length ≤ 1048576) (hm' : cs.length ≤ 1048576) :
    Calls Try.prog 64 #[bsV n a c xss, .slice b cs.length d] w (NewPkF w (codeN n xss cs) (codeC n xss cs) (codeP n xss cs) (codeOk n xss cs)) := by
  unfold codeN codeC codeP
  cases hk : codeOk n xss cs
  · exact implCodePacket_no n a c xss b d cs w h h' hm hr hm' hk
  · exact implCodePacket_yes n a c xss b d cs w h h' hm hr hm' hk

theorem specCodePacket_ok (n : Int) (a : Option Addr) (c : Nat) (xss : List (List Int)) (b : Option Addr) (d : Nat) (cs : List Int) (w : World) (h : MatR w a xss) (h' : Vals w b (I cs)) (hm : xss.length ≤ 1048576) (hr : ∀ xs ∈ xss, xs.length ≤ 1048576) (hm' : cs.length ≤ 1048576) :
    Calls Try.prog 103 #[bsV n a c xss, .slice b cs.length d] w (NewPkF w (codeN n xss cs) (codeC n xss cs) (codeP n xss cs) (codeOk n xss cs)) := by
  unfold codeN codeC codeP
  cases hk : codeOk n xss cs
  · exact specCodePacket_no n a c xss b d cs w h h' hm hr hm' hk
  · exact specCodePacket_yes n a c xss b d cs w h h' hm hr hm' hk

end Go.Proofs.Ytkegknophppdgaa
