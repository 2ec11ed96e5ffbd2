/- Contracts of SourcePacket (program and reference); its law. -/
import Derived.Test.YtkegknophppdgaaUnit
import Derived.Test.YtkegknophppdgaaLawCode
namespace Go.Proofs.Ytkegknophppdgaa
open Go.RowKit
set_option linter.unusedVariables false
set_option maxRecDepth 20000

def srcOk (n : Int) (xss : List (List Int)) (k : Int) : Bool := validG n xss && inR k 0 ((xss.length : Int) - 1)
def srcN (n : Int) (xss : List (List Int)) (k : Int) : Int := if srcOk n xss k then n else 0
def srcC (n : Int) (xss : List (List Int)) (k : Int) : List Int := if srcOk n xss k then unitV xss.length k.toNat else []
def srcP (n : Int) (xss : List (List Int)) (k : Int) : List Int := if srcOk n xss k then xss.getD k.toNat [] else []

theorem addS_none {xs ys : List Int} (h : AllEl xs) (hl : xs.length = ys.length) : addS xs ys 0 = xs := by
  apply List.ext_getElem?
  intro i
  unfold addS
  rw [List.getElem?_zipWith]
  rcases Nat.lt_or_ge i xs.length with hi | hi
  · have h1 := List.getElem?_eq_getElem hi
    have h2 := List.getElem?_eq_getElem (show i < ys.length by omega)
    have := h.get h1
    rw [h1, h2]
    simp [fma]
    try omega
  · rw [List.getElem?_eq_none hi]
theorem addS_one {n : Nat} {ys : List Int} (h : AllEl ys) (hl : ys.length = n) : addS (List.replicate n 0) ys 1 = ys := by
  apply List.ext_getElem?
  intro i
  unfold addS
  rw [List.getElem?_zipWith]
  rcases Nat.lt_or_ge i ys.length with hi | hi
  · have h1 := List.getElem?_eq_getElem hi
    have h2 : (List.replicate n (0 : Int))[i]? = some 0 := by rw [List.getElem?_replicate, if_pos (by omega)]
    have := h.get h1
    rw [h1, h2]
    simp [fma]
    try omega
  · rw [List.getElem?_eq_none hi, List.getElem?_eq_none (by simp; omega)]
/-- The combination with a unit vector is the row. -/
theorem cmb_unit {n k : Nat} {xss : List (List Int)} {row : List Int} (hv : VR n xss) (hk : xss[k]? = some row) : cmbTo n xss (unitV xss.length k) xss.length = row := by
  have hkl := (List.getElem?_eq_some_iff.1 hk).1
  have key : ∀ j, j ≤ xss.length → cmbTo n xss (unitV xss.length k) j = if j ≤ k then List.replicate n 0 else row := by
    intro j
    induction j with
    | zero => intro _; rfl
    | succ j ih =>
      intro hj
      have hx : xss[j]? = some xss[j] := List.getElem?_eq_getElem (by omega)
      have hok := hv.ok hx
      rw [cmbTo_succ hx (unitV_get (by omega)), ih (by omega)]
      rcases Nat.lt_trichotomy j k with h | h | h
      · rw [if_pos (by omega), if_neg (by omega), if_pos (by omega)]
        exact addS_none (fun x hx => by rw [List.eq_of_mem_replicate hx]; rfl) (by simp; omega)
      · subst h
        rw [if_pos (by omega), if_pos rfl, if_neg (by omega)]
        rw [hx] at hk
        injection hk with hk
        rw [hk] at hok ⊢
        exact addS_one hok.1 hok.2.2
      · rw [if_neg (by omega), if_neg (by omega), if_neg (by omega)]
        have := hv.ok hk
        exact addS_none this.1 (by omega)
  rw [key _ (Nat.le_refl _), if_neg (by omega)]

theorem srcOk_parts {n : Int} {xss : List (List Int)} {k : Int} (h : srcOk n xss k = true) : validG n xss = true ∧ 0 ≤ k ∧ k < xss.length ∧ VR (cols xss) xss ∧ xss.length ≤ 8 := by
  unfold srcOk at h
  simp only [Bool.and_eq_true] at h
  obtain ⟨h1, h2⟩ := h
  have h3 := inR_true.1 h2
  have h4 := h1
  unfold validG at h4
  simp only [Bool.and_eq_true] at h4
  have := inR_true.1 h4.2.1
  exact ⟨h1, h3.1, by omega, vrows_true.1 h4.2.2.1, by omega⟩

theorem OPk.mono {w : World} {B B2 C C2 : Nat} {a b : Option Addr} {c d : Nat} {xs ys : List Int} (h : OPk w B B2 a c xs b d ys) (h1 : C ≤ B) (h2 : B2 ≤ C2) : OPk w C C2 a c xs b d ys := ⟨h.left.mono h1 h2, h.right.mono h1 h2, h.apart⟩
theorem cell3 {w : World} {g : Nat} {p : Addr} {v x y z : Value} (h : w.cell? p = some v) (hp : p.block ≠ g) : (((w.setCell ⟨g, 0, none⟩ x).setCell ⟨g, 1, none⟩ y).setCell ⟨g, 2, none⟩ z).cell? p = some v :=
  ((((Span.refl g (g + 1) w).setCell (p := ⟨g, 0, none⟩) ⟨Nat.le_refl _, Nat.lt_succ_self _⟩ x).setCell (p := ⟨g, 1, none⟩) ⟨Nat.le_refl _, Nat.lt_succ_self _⟩ y).setCell (p := ⟨g, 2, none⟩) ⟨Nat.le_refl _, Nat.lt_succ_self _⟩ z).cell h (by omega)

set_option maxHeartbeats 4000000 in
set_option maxRecDepth 100000 in
theorem implSourcePacket_no (n : Int) (a : Option Addr) (c : Nat) (xss : List (List Int)) (k : Int) (w : World) (h : MatR w a xss) (hm : xss.length ≤ 1048576) (hr : ∀ xs ∈ xss, xs.length ≤ 1048576) (hno : srcOk n xss k = false) :
    Calls Try.prog 38 #[bsV n a c xss, .int .i64 k] w (NewPkF w 0 [] [] false) := by
  have q := implIsValidGeneration_ok n a c xss _ (h.ext (((Ext.refl w).alloc (.cells #[.int .i64 n, .slice a xss.length c] 53)).alloc (.cells #[.int .i64 0, .slice none 0 0, .slice none 0 0] 35))) (by omega) (fun xs hx => Nat.le_trans (hr xs hx) (by omega))
  clear h hr
  cases hg : validG n xss
  · rw [hg] at q
    have Q := Lib.hid q
    clear q hno
    go_enter Try.func38, Try.ntmps38
    go_wp2_with fail
    refine Q.out.mono ?_
    rintro e w1 ⟨rfl, e1⟩
    have e01 := (((Ext.refl w).alloc _).alloc _).trans e1
    obtain ⟨k1, f1⟩ := e1.look
    have z1 := e1.size_le
    simp at k1 f1 z1
    go_wp2_with fail
    refine bodyPost_ret (v := .tuple #[pkV 0 none 0 [] none 0 [], .bool false]) (by simp only [results, Try.results38]; go_simp) rfl ⟨none, 0, none, 0, rfl, OwnI.nil _ _, OwnI.nil _ _, fun k hk => by simp [blockOf] at hk, ?_⟩
    exact ((e01.setCell (by simp) _).setCell (by simp) _).setCell (by simp) _
  · rw [hg] at q
    have Q := Lib.hid q
    have r2 : inR k 0 ((xss.length : Int) - 1) = false := by
      unfold srcOk at hno
      rw [hg] at hno
      simpa using hno
    clear q hno
    go_enter Try.func38, Try.ntmps38
    go_wp2_with fail
    refine Q.out.mono ?_
    rintro e w1 ⟨rfl, e1⟩
    have e01 := (((Ext.refl w).alloc _).alloc _).trans e1
    obtain ⟨k1, f1⟩ := e1.look
    have z1 := e1.size_le
    simp at k1 f1 z1
    go_wp2_with (go_at_call 96; refine (implInRange_ok _ _ _ _).mono ?_; rintro e w' ⟨rfl, rfl⟩; rw [r2])
    refine bodyPost_ret (v := .tuple #[pkV 0 none 0 [] none 0 [], .bool false]) (by simp only [results, Try.results38]; go_simp) rfl ⟨none, 0, none, 0, rfl, OwnI.nil _ _, OwnI.nil _ _, fun k hk => by simp [blockOf] at hk, ?_⟩
    exact ((e01.setCell (by simp) _).setCell (by simp) _).setCell (by simp) _

set_option maxHeartbeats 4000000 in
set_option maxRecDepth 100000 in
theorem specSourcePacket_no (n : Int) (a : Option Addr) (c : Nat) (xss : List (List Int)) (k : Int) (w : World) (h : MatR w a xss) (hm : xss.length ≤ 1048576) (hr : ∀ xs ∈ xss, xs.length ≤ 1048576) (hno : srcOk n xss k = false) :
    Calls Try.prog 36 #[bsV n a c xss, .int .i64 k] w (NewPkF w 0 [] [] false) := by
  have q := specIsValidGeneration_ok n a c xss _ (h.ext (((Ext.refl w).alloc (.cells #[.int .i64 n, .slice a xss.length c] 53)).alloc (.cells #[.int .i64 0, .slice none 0 0, .slice none 0 0] 35))) (by omega) (fun xs hx => Nat.le_trans (hr xs hx) (by omega))
  clear h hr
  cases hg : validG n xss
  · rw [hg] at q
    have Q := Lib.hid q
    clear q hno
    go_enter Try.func36, Try.ntmps36
    go_wp2_with fail
    refine Q.out.mono ?_
    rintro e w1 ⟨rfl, e1⟩
    have e01 := (((Ext.refl w).alloc _).alloc _).trans e1
    obtain ⟨k1, f1⟩ := e1.look
    have z1 := e1.size_le
    simp at k1 f1 z1
    go_wp2_with fail
    refine bodyPost_ret (v := .tuple #[pkV 0 none 0 [] none 0 [], .bool false]) (by simp only [results, Try.results36]; go_simp) rfl ⟨none, 0, none, 0, rfl, OwnI.nil _ _, OwnI.nil _ _, fun k hk => by simp [blockOf] at hk, ?_⟩
    exact ((e01.setCell (by simp) _).setCell (by simp) _).setCell (by simp) _
  · rw [hg] at q
    have Q := Lib.hid q
    have r2 : inR k 0 ((xss.length : Int) - 1) = false := by
      unfold srcOk at hno
      rw [hg] at hno
      simpa using hno
    clear q hno
    go_enter Try.func36, Try.ntmps36
    go_wp2_with fail
    refine Q.out.mono ?_
    rintro e w1 ⟨rfl, e1⟩
    have e01 := (((Ext.refl w).alloc _).alloc _).trans e1
    obtain ⟨k1, f1⟩ := e1.look
    have z1 := e1.size_le
    simp at k1 f1 z1
    go_wp2_with (go_at_call 94; refine (specInRange_ok _ _ _ _).mono ?_; rintro e w' ⟨rfl, rfl⟩; rw [r2])
    refine bodyPost_ret (v := .tuple #[pkV 0 none 0 [] none 0 [], .bool false]) (by simp only [results, Try.results36]; go_simp) rfl ⟨none, 0, none, 0, rfl, OwnI.nil _ _, OwnI.nil _ _, fun k hk => by simp [blockOf] at hk, ?_⟩
    exact ((e01.setCell (by simp) _).setCell (by simp) _).setCell (by simp) _

set_option maxHeartbeats 4000000 in
set_option maxRecDepth 100000 in
theorem implSourcePacket_yes (n : Int) (a : Option Addr) (c : Nat) (xss : List (List Int)) (k : Nat) (row : List Int) (w : World) (h : MatR w a xss) (hm : xss.length ≤ 1048576) (hr : ∀ xs ∈ xss, xs.length ≤ 1048576) (hyes : srcOk n xss k = true) (hrow : xss[k]? = some row) :
    Calls Try.prog 38 #[bsV n a c xss, .int .i64 k] w (NewPkF w n (unitV xss.length k) row true) := by
  have q := implIsValidGeneration_ok n a c xss _ (h.ext (((Ext.refl w).alloc (.cells #[.int .i64 n, .slice a xss.length c] 53)).alloc (.cells #[.int .i64 0, .slice none 0 0, .slice none 0 0] 35))) (by omega) (fun xs hx => Nat.le_trans (hr xs hx) (by omega))
  obtain ⟨hg, hk0, hk1, hvr, hl8⟩ := srcOk_parts hyes
  have r2 : inR k 0 ((xss.length : Int) - 1) = true := inR_true.2 ⟨by omega, by omega⟩
  obtain ⟨b, o, ra, rc, xs, rfl, hb, hx, hc, hv⟩ := h.at_ (k := k) (by omega)
  obtain rfl : row = xs := by have := hx.out; rw [hrow] at this; injection this
  have hrl : row.length ≤ 1048576 := hr row (List.mem_of_getElem? hrow)
  have C1 : Hid (∀ W : World, Calls Try.prog 104 #[.int .i64 (xss.length : Nat), .int .i64 (k : Nat)] W (NewI W (unitV xss.length k))) := fun W => implUnitVector_ok xss.length k W (by omega) (by omega)
  obtain ⟨us, hus⟩ : ∃ us, Hid (us = unitV xss.length k) := ⟨_, rfl⟩
  rw [← hus.out] at C1 ⊢
  rw [hg] at q
  have Q := Lib.hid q
  have HV := Lib.hid hv
  have HC := Lib.hid hc
  clear q h hr hvr hg hyes hx hrow hv hc hk0
  go_enter Try.func38, Try.ntmps38
  go_wp2_with fail
  refine Q.out.mono ?_
  rintro e w1 ⟨rfl, e1⟩
  have e01 := (((Ext.refl w).alloc _).alloc _).trans e1
  have c0 := e1.cell (p := ⟨w.heap.size, 0, none⟩) (v := .int .i64 n) (by simp)
  have c1 := e1.cell (p := ⟨w.heap.size, 1, none⟩) (v := .slice (some ⟨b, o, none⟩) xss.length c) (by simp)
  have c2 := e01.cell HC.out
  have n0 : w.heap.size ≠ w.heap.size + 1 := by omega
  have nb : b ≠ w.heap.size + 1 := by omega
  have z1 := e1.size_le
  simp at z1
  go_wp2_with (go_at_call 96; refine (implInRange_ok _ _ _ _).mono ?_; rintro e w' ⟨rfl, rfl⟩; rw [r2])
  go_region_held3 (fun w' => w'.cell? ⟨w.heap.size, 0, none⟩ = some (.int .i64 n) ∧ w'.cell? ⟨w.heap.size, 1, none⟩ = some (.slice (some ⟨b, o, none⟩) xss.length c) ∧ w'.cell? ⟨b, o + k, none⟩ = some (.slice ra row.length rc))
    (first | exact ⟨cell3 (e4.cell (e3.cell c0)) n0, cell3 (e4.cell (e3.cell c1)) n0, cell3 (e4.cell (e3.cell c2)) nb⟩ | exact ⟨e4.cell (e3.cell c0), e4.cell (e3.cell c1), e4.cell (e3.cell c2)⟩ | go_keep | exact ⟨e3.cell c0, e3.cell c1, e3.cell c2⟩)
    (first
      | (go_at_call 105; (with_reducible refine (cloneI_ok _ _ row _ (HV.out.ext (e01.trans e3)) hrl).mono ?_); rintro e w4 ⟨a4, c4, rfl, o4, e4⟩; obtain ⟨k4, f4⟩ := ((e1.trans e3).trans e4).look; have z3 := e3.size_le; have z4 := e4.size_le; simp at k4 f4 z3 z4)
      | (go_at_call 104; (with_reducible refine (C1.out _).mono ?_); rintro e w3 ⟨a3, c3, rfl, o3, e3'⟩; have e3 := (Ext.refl w1).drew.trans e3'))
  have e04 := (e01.trans e3).trans e4
  have o3x : OwnI w3 w1.heap.size a3 c3 us := o3
  have o3' := o3x.ext e4
  have hap : Apart a3 a4 := fun k h1 h2 => by
    have := (o3x.block k h1).2
    have := (o4.block k h2).1
    omega
  have y3 := e3.size_le
  go_wp2_with fail
  refine bodyPost_ret (v := .tuple #[pkV n a3 c3 us a4 c4 row, .bool true]) (by simp only [results, Try.results38]; go_simp) rfl ⟨a3, c3, a4, c4, rfl, ?_, ?_, hap, ?_⟩
  · exact (((o3'.setCell (by simp; omega) _).setCell (by simp; omega) _).setCell (by simp; omega) _).more (by omega)
  · exact (((o4.setCell (by simp; omega) _).setCell (by simp; omega) _).setCell (by simp; omega) _).more (by omega)
  · exact ((e04.setCell (by simp) _).setCell (by simp) _).setCell (by simp) _

set_option maxHeartbeats 4000000 in
set_option maxRecDepth 100000 in
theorem specSourcePacket_yes (n : Int) (a : Option Addr) (c : Nat) (xss : List (List Int)) (k : Nat) (row : List Int) (w : World) (h : MatR w a xss) (hm : xss.length ≤ 1048576) (hr : ∀ xs ∈ xss, xs.length ≤ 1048576) (hyes : srcOk n xss k = true) (hrow : xss[k]? = some row) :
    Calls Try.prog 36 #[bsV n a c xss, .int .i64 k] w (NewPkF w n (unitV xss.length k) row true) := by
  have q := specIsValidGeneration_ok n a c xss _ (h.ext (((Ext.refl w).alloc (.cells #[.int .i64 n, .slice a xss.length c] 53)).alloc (.cells #[.int .i64 0, .slice none 0 0, .slice none 0 0] 35))) (by omega) (fun xs hx => Nat.le_trans (hr xs hx) (by omega))
  obtain ⟨hg, hk0, hk1, hvr, hl8⟩ := srcOk_parts hyes
  have r2 : inR k 0 ((xss.length : Int) - 1) = true := inR_true.2 ⟨by omega, by omega⟩
  have C1 : Hid (∀ W : World, Calls Try.prog 72 #[.int .i64 (xss.length : Nat), .int .i64 (k : Nat)] W (NewI W (unitV xss.length k))) := fun W => specUnitVector_ok xss.length k W (by omega) (by omega)
  have hul := Lib.hid (unitV_length xss.length k)
  have C2 : Hid (∀ (W : World) (b : Option Addr) (d : Nat), Ext w W → Vals W b (I (unitV xss.length k)) → Calls Try.prog 103 #[bsV n a c xss, .slice b (unitV xss.length k).length d] W (NewPkF W n (unitV xss.length k) row true)) := fun W b d hW hb => by
    have h1 := specCodePacket_yes n a c xss b d (unitV xss.length k) W (h.ext hW) hb hm hr (by rw [hul.out]; omega) (by unfold codeOk; rw [hg, validV_true.2 ⟨unitV_AllEl _ _, by rw [hul.out]; omega⟩, decide_eq_true hul.out]; rfl)
    rw [cmb_unit hvr hrow] at h1
    exact h1
  obtain ⟨us, hus⟩ : ∃ us, Hid (us = unitV xss.length k) := ⟨_, rfl⟩
  rw [← hus.out] at C1 C2 ⊢
  rw [hg] at q
  have Q := Lib.hid q
  clear q h hr hvr hg hyes hrow hul hk0
  go_enter Try.func36, Try.ntmps36
  go_wp2_with fail
  refine Q.out.mono ?_
  rintro e w1 ⟨rfl, e1⟩
  have e01 := (((Ext.refl w).alloc _).alloc _).trans e1
  have c0 := e1.cell (p := ⟨w.heap.size, 0, none⟩) (v := .int .i64 n) (by simp)
  have c1 := e1.cell (p := ⟨w.heap.size, 1, none⟩) (v := .slice a xss.length c) (by simp)
  have z1 := e1.size_le
  simp at z1
  go_wp2_with (go_at_call 94; refine (specInRange_ok _ _ _ _).mono ?_; rintro e w' ⟨rfl, rfl⟩; rw [r2])
  go_region_held3 (fun w' => w'.cell? ⟨w.heap.size, 0, none⟩ = some (.int .i64 n) ∧ w'.cell? ⟨w.heap.size, 1, none⟩ = some (.slice a xss.length c))
    (first | go_keep | exact ⟨e4.cell (e3.cell c0), e4.cell (e3.cell c1)⟩ | exact ⟨e3.cell c0, e3.cell c1⟩)
    (first
      | (go_at_call 103; (with_reducible refine (C2.out _ _ _ (e01.trans e3) o3.vals).mono ?_); rintro e w4 ⟨a4, c4, b4, d4, rfl, o4, o5, hap, e4⟩; obtain ⟨k4, f4⟩ := ((e1.trans e3).trans e4).look; have z3 := e3.size_le; have z4 := e4.size_le; simp at k4 f4 z3 z4)
      | (go_at_call 72; (with_reducible refine (C1.out _).mono ?_); rintro e w3 ⟨a3, c3, rfl, o3, e3'⟩; have e3 := (Ext.refl w1).drew.trans e3'))
  have e04 := (e01.trans e3).trans e4
  have y3 := e3.size_le
  go_wp2_with fail
  refine bodyPost_ret (v := .tuple #[pkV n a4 c4 us b4 d4 row, .bool true]) (by simp only [results, Try.results36]; go_simp) rfl ⟨a4, c4, b4, d4, rfl, ?_, ?_, hap, ?_⟩
  · exact (((o4.setCell (by simp; omega) _).setCell (by simp; omega) _).setCell (by simp; omega) _).more (by omega)
  · exact (((o5.setCell (by simp; omega) _).setCell (by simp; omega) _).setCell (by simp; omega) _).more (by omega)
  · exact ((e04.setCell (by simp) _).setCell (by simp) _).setCell (by simp) _

theorem implSourcePacket_ok (n : Int) (a : Option Addr) (c : Nat) (xss : List (List Int)) (k : Int) (w : World) (h : MatR w a xss) (hm : xss.length ≤ 1048576) (hr : ∀ xs ∈ xss, xs.length ≤ 1048576) :
    Calls Try.prog 38 #[bsV n a c xss, .int .i64 k] w (NewPkF w (srcN n xss k) (srcC n xss k) (srcP n xss k) (srcOk n xss k)) := by
  unfold srcN srcC srcP
  cases hk : srcOk n xss k
  · exact implSourcePacket_no n a c xss k w h hm hr hk
  · obtain ⟨_, hk0, hk1, _⟩ := srcOk_parts hk
    obtain ⟨k, rfl⟩ := Int.eq_ofNat_of_zero_le hk0
    have hx : xss[k]? = some (xss.getD k []) := by rw [List.getD_eq_getElem?_getD, List.getElem?_eq_getElem (by omega)]; rfl
    exact implSourcePacket_yes n a c xss k _ w h hm hr hk hx

theorem specSourcePacket_ok (n : Int) (a : Option Addr) (c : Nat) (xss : List (List Int)) (k : Int) (w : World) (h : MatR w a xss) (hm : xss.length ≤ 1048576) (hr : ∀ xs ∈ xss, xs.length ≤ 1048576) :
    Calls Try.prog 36 #[bsV n a c xss, .int .i64 k] w (NewPkF w (srcN n xss k) (srcC n xss k) (srcP n xss k) (srcOk n xss k)) := by
  unfold srcN srcC srcP
  cases hk : srcOk n xss k
  · exact specSourcePacket_no n a c xss k w h hm hr hk
  · obtain ⟨_, hk0, hk1, _⟩ := srcOk_parts hk
    obtain ⟨k, rfl⟩ := Int.eq_ofNat_of_zero_le hk0
    have hx : xss[k]? = some (xss.getD k []) := by rw [List.getD_eq_getElem?_getD, List.getElem?_eq_getElem (by omega)]; rfl
    exact specSourcePacket_yes n a c xss k _ w h hm hr hk hx

theorem src_bounds (n : Int) (xss : List (List Int)) (k : Int) : (srcC n xss k).length ≤ 1048576 ∧ (srcP n xss k).length ≤ 1048576 := by
  unfold srcC srcP
  cases hk : srcOk n xss k
  · simp
  · obtain ⟨_, hk0, hk1, hv, hl⟩ := srcOk_parts hk
    have hx : xss[k.toNat]? = some (xss.getD k.toNat []) := by rw [List.getD_eq_getElem?_getD, List.getElem?_eq_getElem (by omega)]; rfl
    have := (hv.ok hx).2.1
    simp only [if_true, unitV_length]
    omega

set_option maxHeartbeats 4000000 in
set_option maxRecDepth 100000 in
theorem lawSourcePacket (n0 : Int) (a0 : Option Addr) (c0 : Nat) (xss0 : List (List Int)) (n1 : Int) (w : World) (r0_0 : MatR w a0 xss0) (m0_0 : xss0.length ≤ maxLen) (m0_1 : ∀ xs ∈ xss0, xs.length ≤ maxLen) :
    Calls Try.prog 5 #[bsV n0 a0 c0 xss0, .int .i64 n1] w (Gives w (.bool true)) := by
  replace m0_1 := Lib.hid m0_1
  by_cases hs0 : szM xss0 1048576 < 0
  · skip
    go_enter Try.func5, Try.ntmps5
    go_wp2_with fail
    refine (szGeneration_ok _ _ _ _ _ _ (r0_0.ext ((Ext.refl w).alloc _)) m0_0 m0_1.out (by omega) (by omega)).mono ?_
    rintro e w1 ⟨rfl, e1⟩
    have E := ((Ext.refl w).alloc _).trans e1
    have z0 := e1.size_le
    simp at z0
    have p0_0 := e1.cell (p := ⟨w.heap.size, 0, none⟩) (v := .int .i64 n0) (by simp)
    have p0_1 := e1.cell (p := ⟨w.heap.size, 1, none⟩) (v := .slice a0 xss0.length c0) (by simp)
    go_wp2_with fail
    go_ret
    exact ⟨rfl, E⟩
  obtain ⟨hle0, heq0⟩ := szM_le (Int.not_lt.1 hs0)
  have hl0 : xss0.length ≤ 1048576 := by omega
  have hr0 : Hid (∀ xs ∈ xss0, xs.length ≤ 1048576) := fun xs hx => by have := rows_le hx; omega
  have ht0 : tot xss0 ≤ 1099511627776 := by omega
  have hu0 : tot xss0 ≤ 1048576 := by omega
  have hf0 : szM xss0 1048576 ≤ 1048576 := by omega
  have hg0 : 0 ≤ szM xss0 1048576 := by omega
  replace heq0 := Lib.hid heq0
  have hres1 : (srcC n0 xss0 n1).length ≤ 1048576 := (src_bounds n0 xss0 n1).1
  have hres2 : (srcP n0 xss0 n1).length ≤ 1048576 := (src_bounds n0 xss0 n1).2
  go_enter Try.func5, Try.ntmps5
  go_wp2_with fail
  refine (szGeneration_ok _ _ _ _ _ _ (r0_0.ext ((Ext.refl w).alloc _)) m0_0 m0_1.out (by omega) (by omega)).mono ?_
  rintro e w1 ⟨rfl, e1⟩
  have E := ((Ext.refl w).alloc _).trans e1
  have z0 := e1.size_le
  simp at z0
  have p0_0 := e1.cell (p := ⟨w.heap.size, 0, none⟩) (v := .int .i64 n0) (by simp)
  have p0_1 := e1.cell (p := ⟨w.heap.size, 1, none⟩) (v := .slice a0 xss0.length c0) (by simp)
  go_wp2_with fail
  refine (toGeneration_ok _ _ _ _ _ (r0_0.ext (E)) hl0 hr0.out).mono ?_
  rintro e w2 ⟨t2a, t2c, rfl, t2o, e2⟩
  have z2 := e2.size_le
  replace p0_0 := e2.cell p0_0
  replace p0_1 := e2.cell p0_1
  replace E := E.trans e2
  clear e2
  go_wp2_with fail
  refine (specSourcePacket_ok _ _ _ _ _ _ (t2o.reads) hl0 hr0.out).mono ?_
  rintro e w3 ⟨u0a, u0c, u0b, u0d, rfl, u0o, u0p, u0x, e3⟩
  have z3 := e3.size_le
  replace p0_0 := e3.cell p0_0
  replace p0_1 := e3.cell p0_1
  replace t2o := t2o.ext e3
  replace E := E.trans e3
  clear e3
  replace u0o := OPk.of u0o u0p u0x
  have y_p0_0 := ((Ext.refl w3).alloc (.cells #[.int .i64 (srcN n0 xss0 n1), .slice u0a (srcC n0 xss0 n1).length u0c, .slice u0b (srcP n0 xss0 n1).length u0d] 35)).cell p0_0
  have y_p0_1 := ((Ext.refl w3).alloc (.cells #[.int .i64 (srcN n0 xss0 n1), .slice u0a (srcC n0 xss0 n1).length u0c, .slice u0b (srcP n0 xss0 n1).length u0d] 35)).cell p0_1
  go_wp2_with fail
  refine (toGeneration_ok _ _ _ _ _ (r0_0.ext (E.alloc _)) hl0 hr0.out).mono ?_
  clear y_p0_0 y_p0_1
  rintro e w4 ⟨t4a, t4c, rfl, t4o, e4⟩
  have z4 := e4.size_le
  simp at z4
  replace p0_0 := (((Ext.refl w3).alloc _).trans e4).cell p0_0
  replace p0_1 := (((Ext.refl w3).alloc _).trans e4).cell p0_1
  replace u0o := u0o.ext (((Ext.refl w3).alloc _).trans e4)
  have w0_0 := e4.cell (p := ⟨w3.heap.size, 0, none⟩) (v := .int .i64 (srcN n0 xss0 n1)) (by simp)
  have w0_1 := e4.cell (p := ⟨w3.heap.size, 1, none⟩) (v := .slice u0a (srcC n0 xss0 n1).length u0c) (by simp)
  have w0_2 := e4.cell (p := ⟨w3.heap.size, 2, none⟩) (v := .slice u0b (srcP n0 xss0 n1).length u0d) (by simp)
  replace E := (E.alloc _).trans e4
  clear e4
  replace t4o := t4o.mono (C := w3.heap.size + 1) (C2 := w4.heap.size) (by simp) (Nat.le_refl _)
  have y_p0_0 := ((Ext.refl w4).alloc (.cells #[.int .i64 n0, .slice t4a xss0.length t4c] 53)).cell p0_0
  have y_p0_1 := ((Ext.refl w4).alloc (.cells #[.int .i64 n0, .slice t4a xss0.length t4c] 53)).cell p0_1
  have y_w0_0 := ((Ext.refl w4).alloc (.cells #[.int .i64 n0, .slice t4a xss0.length t4c] 53)).cell w0_0
  have y_w0_1 := ((Ext.refl w4).alloc (.cells #[.int .i64 n0, .slice t4a xss0.length t4c] 53)).cell w0_1
  have y_w0_2 := ((Ext.refl w4).alloc (.cells #[.int .i64 n0, .slice t4a xss0.length t4c] 53)).cell w0_2
  go_wp2_with fail
  refine (implSourcePacket_ok _ _ _ _ _ _ ((t4o.reads).ext ((Ext.refl _).alloc _)) hl0 hr0.out).mono ?_
  clear y_p0_0 y_p0_1 y_w0_0 y_w0_1 y_w0_2
  rintro e w5 ⟨u1a, u1c, u1b, u1d, rfl, u1o, u1p, u1x, e5⟩
  have z5 := e5.size_le
  simp at z5
  replace p0_0 := (((Ext.refl w4).alloc _).trans e5).cell p0_0
  replace p0_1 := (((Ext.refl w4).alloc _).trans e5).cell p0_1
  replace w0_0 := (((Ext.refl w4).alloc _).trans e5).cell w0_0
  replace w0_1 := (((Ext.refl w4).alloc _).trans e5).cell w0_1
  replace w0_2 := (((Ext.refl w4).alloc _).trans e5).cell w0_2
  replace u0o := u0o.ext (((Ext.refl w4).alloc _).trans e5)
  replace t4o := t4o.ext (((Ext.refl w4).alloc _).trans e5)
  have x0_0 := e5.cell (p := ⟨w4.heap.size, 0, none⟩) (v := .int .i64 n0) (by simp)
  have x0_1 := e5.cell (p := ⟨w4.heap.size, 1, none⟩) (v := .slice t4a xss0.length t4c) (by simp)
  replace E := (E.alloc _).trans e5
  clear e5
  replace u1o := OPk.of u1o u1p u1x
  replace u1o := u1o.mono (C := w4.heap.size + 1) (C2 := w5.heap.size) (by simp) (Nat.le_refl _)
  have qself := eqPk_self (srcN n0 xss0 n1) (srcC n0 xss0 n1) (srcP n0 xss0 n1)
  have qflag : ((srcOk n0 xss0 n1) != (srcOk n0 xss0 n1)) = false := by simp
  have y_p0_0 := ((Ext.refl w5).alloc (.cells #[.int .i64 (srcN n0 xss0 n1), .slice u1a (srcC n0 xss0 n1).length u1c, .slice u1b (srcP n0 xss0 n1).length u1d] 35)).cell p0_0
  have y_p0_1 := ((Ext.refl w5).alloc (.cells #[.int .i64 (srcN n0 xss0 n1), .slice u1a (srcC n0 xss0 n1).length u1c, .slice u1b (srcP n0 xss0 n1).length u1d] 35)).cell p0_1
  have y_w0_0 := ((Ext.refl w5).alloc (.cells #[.int .i64 (srcN n0 xss0 n1), .slice u1a (srcC n0 xss0 n1).length u1c, .slice u1b (srcP n0 xss0 n1).length u1d] 35)).cell w0_0
  have y_w0_1 := ((Ext.refl w5).alloc (.cells #[.int .i64 (srcN n0 xss0 n1), .slice u1a (srcC n0 xss0 n1).length u1c, .slice u1b (srcP n0 xss0 n1).length u1d] 35)).cell w0_1
  have y_w0_2 := ((Ext.refl w5).alloc (.cells #[.int .i64 (srcN n0 xss0 n1), .slice u1a (srcC n0 xss0 n1).length u1c, .slice u1b (srcP n0 xss0 n1).length u1d] 35)).cell w0_2
  have y_x0_0 := ((Ext.refl w5).alloc (.cells #[.int .i64 (srcN n0 xss0 n1), .slice u1a (srcC n0 xss0 n1).length u1c, .slice u1b (srcP n0 xss0 n1).length u1d] 35)).cell x0_0
  have y_x0_1 := ((Ext.refl w5).alloc (.cells #[.int .i64 (srcN n0 xss0 n1), .slice u1a (srcC n0 xss0 n1).length u1c, .slice u1b (srcP n0 xss0 n1).length u1d] 35)).cell x0_1
  go_wp2_with fail
  refine (eqCodedPacket_ok _ _ _ _ _ _ _ _ _ _ _ _ _ _ _ ((u1o.one).ext ((Ext.refl _).alloc _)) ((u1o.two).ext ((Ext.refl _).alloc _)) ((u0o.one).ext ((Ext.refl _).alloc _)) ((u0o.two).ext ((Ext.refl _).alloc _)) hres1 hres2).mono ?_
  clear y_p0_0 y_p0_1 y_w0_0 y_w0_1 y_w0_2 y_x0_0 y_x0_1
  rintro e w6 ⟨rfl, e6⟩
  have z6 := e6.size_le
  simp at z6
  replace p0_0 := (((Ext.refl w5).alloc _).trans e6).cell p0_0
  replace p0_1 := (((Ext.refl w5).alloc _).trans e6).cell p0_1
  replace w0_0 := (((Ext.refl w5).alloc _).trans e6).cell w0_0
  replace w0_1 := (((Ext.refl w5).alloc _).trans e6).cell w0_1
  replace w0_2 := (((Ext.refl w5).alloc _).trans e6).cell w0_2
  replace x0_0 := (((Ext.refl w5).alloc _).trans e6).cell x0_0
  replace x0_1 := (((Ext.refl w5).alloc _).trans e6).cell x0_1
  replace u0o := u0o.ext (((Ext.refl w5).alloc _).trans e6)
  replace t4o := t4o.ext (((Ext.refl w5).alloc _).trans e6)
  replace u1o := u1o.ext (((Ext.refl w5).alloc _).trans e6)
  have g0_0 := e6.cell (p := ⟨w5.heap.size, 0, none⟩) (v := .int .i64 (srcN n0 xss0 n1)) (by simp)
  have g0_1 := e6.cell (p := ⟨w5.heap.size, 1, none⟩) (v := .slice u1a (srcC n0 xss0 n1).length u1c) (by simp)
  have g0_2 := e6.cell (p := ⟨w5.heap.size, 2, none⟩) (v := .slice u1b (srcP n0 xss0 n1).length u1d) (by simp)
  replace E := (E.alloc _).trans e6
  clear e6
  have qe0 := eqB_self n0 xss0
  go_wp2_with fail
  go_region_held3 (fun w' => w'.cell? ⟨w.heap.size, 0, none⟩ = some (.int .i64 n0) ∧ w'.cell? ⟨w.heap.size, 1, none⟩ = some (.slice a0 xss0.length c0) ∧ w'.cell? ⟨w3.heap.size, 0, none⟩ = some (.int .i64 (srcN n0 xss0 n1)) ∧ w'.cell? ⟨w3.heap.size, 1, none⟩ = some (.slice u0a (srcC n0 xss0 n1).length u0c) ∧ w'.cell? ⟨w3.heap.size, 2, none⟩ = some (.slice u0b (srcP n0 xss0 n1).length u0d) ∧ w'.cell? ⟨w4.heap.size, 0, none⟩ = some (.int .i64 n0) ∧ w'.cell? ⟨w4.heap.size, 1, none⟩ = some (.slice t4a xss0.length t4c) ∧ w'.cell? ⟨w5.heap.size, 0, none⟩ = some (.int .i64 (srcN n0 xss0 n1)) ∧ w'.cell? ⟨w5.heap.size, 1, none⟩ = some (.slice u1a (srcC n0 xss0 n1).length u1c) ∧ w'.cell? ⟨w5.heap.size, 2, none⟩ = some (.slice u1b (srcP n0 xss0 n1).length u1d))
    (first | go_keep | exact ⟨(e8).cell ((e7).cell (p0_0)), (e8).cell ((e7).cell (p0_1)), (e8).cell ((e7).cell (w0_0)), (e8).cell ((e7).cell (w0_1)), (e8).cell ((e7).cell (w0_2)), (e8).cell ((e7).cell (x0_0)), (e8).cell ((e7).cell (x0_1)), (e8).cell ((e7).cell (g0_0)), (e8).cell ((e7).cell (g0_1)), (e8).cell ((e7).cell (g0_2))⟩ | exact ⟨(e7).cell (p0_0), (e7).cell (p0_1), (e7).cell (w0_0), (e7).cell (w0_1), (e7).cell (w0_2), (e7).cell (x0_0), (e7).cell (x0_1), (e7).cell (g0_0), (e7).cell (g0_1), (e7).cell (g0_2)⟩)
    (first | (go_at_call 37; (with_reducible refine (toGeneration_ok _ _ _ _ _ (r0_0.ext (E.trans ((Ext.refl w6).drew))) hl0 hr0.out).mono ?_); rintro e w7 ⟨t7a, t7c, rfl, t7o, e7⟩) | (go_at_call 39; (with_reducible refine (eqGeneration_ok _ _ _ _ _ _ _ _ _ ((t4o.reads).ext (((Ext.refl w6).drew).trans e7)) (t7o.reads) hl0 hr0.out).mono ?_); rintro e w8 ⟨rfl, e8⟩))
  have z7 := (((Ext.refl w6).drew.trans e7)).size_le
  have z8 := (e8).size_le
  replace p0_0 := (e8).cell ((e7).cell (p0_0))
  replace p0_1 := (e8).cell ((e7).cell (p0_1))
  replace w0_0 := (e8).cell ((e7).cell (w0_0))
  replace w0_1 := (e8).cell ((e7).cell (w0_1))
  replace w0_2 := (e8).cell ((e7).cell (w0_2))
  replace x0_0 := (e8).cell ((e7).cell (x0_0))
  replace x0_1 := (e8).cell ((e7).cell (x0_1))
  replace g0_0 := (e8).cell ((e7).cell (g0_0))
  replace g0_1 := (e8).cell ((e7).cell (g0_1))
  replace g0_2 := (e8).cell ((e7).cell (g0_2))
  replace u0o := u0o.ext ((((Ext.refl w6).drew).trans e7).trans e8)
  replace t4o := t4o.ext ((((Ext.refl w6).drew).trans e7).trans e8)
  replace u1o := u1o.ext ((((Ext.refl w6).drew).trans e7).trans e8)
  replace E := E.trans ((((Ext.refl w6).drew).trans e7).trans e8)
  go_wp2_with fail
  refine (markGeneration_ok _ _ _ _ _ _ _ _ t4o (by omega) (by omega) ht0 (by omega) (by omega)).mono ?_
  rintro e w9 ⟨rfl, t4o', s9⟩
  have z9 := s9.size
  replace p0_0 := s9.cell p0_0 (by show w.heap.size < _ ∨ _ ≤ w.heap.size; omega)
  replace p0_1 := s9.cell p0_1 (by show w.heap.size < _ ∨ _ ≤ w.heap.size; omega)
  replace w0_0 := s9.cell w0_0 (by show w3.heap.size < _ ∨ _ ≤ w3.heap.size; omega)
  replace w0_1 := s9.cell w0_1 (by show w3.heap.size < _ ∨ _ ≤ w3.heap.size; omega)
  replace w0_2 := s9.cell w0_2 (by show w3.heap.size < _ ∨ _ ≤ w3.heap.size; omega)
  replace x0_0 := s9.cell x0_0 (by show w4.heap.size < _ ∨ _ ≤ w4.heap.size; omega)
  replace x0_1 := s9.cell x0_1 (by show w4.heap.size < _ ∨ _ ≤ w4.heap.size; omega)
  replace g0_0 := s9.cell g0_0 (by show w5.heap.size < _ ∨ _ ≤ w5.heap.size; omega)
  replace g0_1 := s9.cell g0_1 (by show w5.heap.size < _ ∨ _ ≤ w5.heap.size; omega)
  replace g0_2 := s9.cell g0_2 (by show w5.heap.size < _ ∨ _ ≤ w5.heap.size; omega)
  replace u0o := u0o.span s9 (by omega)
  replace u1o := u1o.span s9 (by omega)
  replace E := Span.ext E s9 (by omega)
  clear s9 t4o
  have t4o := t4o'
  clear t4o'
  go_wp2_with fail
  refine (eqCodedPacket_ok _ _ _ _ _ _ _ _ _ _ _ _ _ _ _ (u1o.one) (u1o.two) (u0o.one) (u0o.two) hres1 hres2).mono ?_
  rintro e w10 ⟨rfl, e10⟩
  have z10 := e10.size_le
  replace p0_0 := e10.cell p0_0
  replace p0_1 := e10.cell p0_1
  replace w0_0 := e10.cell w0_0
  replace w0_1 := e10.cell w0_1
  replace w0_2 := e10.cell w0_2
  replace x0_0 := e10.cell x0_0
  replace x0_1 := e10.cell x0_1
  replace g0_0 := e10.cell g0_0
  replace g0_1 := e10.cell g0_1
  replace g0_2 := e10.cell g0_2
  replace u0o := u0o.ext e10
  replace u1o := u1o.ext e10
  replace E := E.trans e10
  clear e10
  go_wp2_with fail
  refine (markCodedPacket_ok _ _ _ _ _ _ _ _ _ _ _ u1o (by omega) (by omega) (by omega) (by omega) (by omega)).mono ?_
  rintro e w11 ⟨rfl, u1o', s11⟩
  have z11 := s11.size
  replace p0_0 := s11.cell p0_0 (by show w.heap.size < _ ∨ _ ≤ w.heap.size; omega)
  replace p0_1 := s11.cell p0_1 (by show w.heap.size < _ ∨ _ ≤ w.heap.size; omega)
  replace w0_0 := s11.cell w0_0 (by show w3.heap.size < _ ∨ _ ≤ w3.heap.size; omega)
  replace w0_1 := s11.cell w0_1 (by show w3.heap.size < _ ∨ _ ≤ w3.heap.size; omega)
  replace w0_2 := s11.cell w0_2 (by show w3.heap.size < _ ∨ _ ≤ w3.heap.size; omega)
  replace x0_0 := s11.cell x0_0 (by show w4.heap.size < _ ∨ _ ≤ w4.heap.size; omega)
  replace x0_1 := s11.cell x0_1 (by show w4.heap.size < _ ∨ _ ≤ w4.heap.size; omega)
  replace g0_0 := s11.cell g0_0 (by show w5.heap.size < _ ∨ _ ≤ w5.heap.size; omega)
  replace g0_1 := s11.cell g0_1 (by show w5.heap.size < _ ∨ _ ≤ w5.heap.size; omega)
  replace g0_2 := s11.cell g0_2 (by show w5.heap.size < _ ∨ _ ≤ w5.heap.size; omega)
  replace u0o := u0o.span s11 (by omega)
  replace E := Span.ext E s11 (by omega)
  clear s11 u1o
  have u1o := u1o'
  clear u1o'
  go_wp2_with fail
  refine (heldCodedPacket_ok _ _ _ _ _ _ _ _ _ (u1o.one) (u1o.two) (by omega) (by omega) (by omega) (by omega)).mono ?_
  rintro e w12 ⟨rfl, e12⟩
  have z12 := e12.size_le
  replace p0_0 := e12.cell p0_0
  replace p0_1 := e12.cell p0_1
  replace w0_0 := e12.cell w0_0
  replace w0_1 := e12.cell w0_1
  replace w0_2 := e12.cell w0_2
  replace x0_0 := e12.cell x0_0
  replace x0_1 := e12.cell x0_1
  replace g0_0 := e12.cell g0_0
  replace g0_1 := e12.cell g0_1
  replace g0_2 := e12.cell g0_2
  replace u0o := u0o.ext e12
  replace u1o := u1o.ext e12
  replace E := E.trans e12
  clear e12
  go_wp2_with fail
  refine (toGeneration_ok _ _ _ _ _ (r0_0.ext (E)) hl0 hr0.out).mono ?_
  rintro e w13 ⟨t13a, t13c, rfl, t13o, e13⟩
  have z13 := e13.size_le
  replace p0_0 := e13.cell p0_0
  replace p0_1 := e13.cell p0_1
  replace w0_0 := e13.cell w0_0
  replace w0_1 := e13.cell w0_1
  replace w0_2 := e13.cell w0_2
  replace x0_0 := e13.cell x0_0
  replace x0_1 := e13.cell x0_1
  replace g0_0 := e13.cell g0_0
  replace g0_1 := e13.cell g0_1
  replace g0_2 := e13.cell g0_2
  replace u0o := u0o.ext e13
  replace u1o := u1o.ext e13
  replace E := E.trans e13
  clear e13
  go_wp2_with fail
  refine (implSourcePacket_ok _ _ _ _ _ _ (t13o.reads) hl0 hr0.out).mono ?_
  rintro e w14 ⟨u2a, u2c, u2b, u2d, rfl, u2o, u2p, u2x, e14⟩
  have z14 := e14.size_le
  replace p0_0 := e14.cell p0_0
  replace p0_1 := e14.cell p0_1
  replace w0_0 := e14.cell w0_0
  replace w0_1 := e14.cell w0_1
  replace w0_2 := e14.cell w0_2
  replace x0_0 := e14.cell x0_0
  replace x0_1 := e14.cell x0_1
  replace g0_0 := e14.cell g0_0
  replace g0_1 := e14.cell g0_1
  replace g0_2 := e14.cell g0_2
  replace u0o := u0o.ext e14
  replace u1o := u1o.ext e14
  replace t13o := t13o.ext e14
  replace E := E.trans e14
  clear e14
  replace u2o := OPk.of u2o u2p u2x
  have y_p0_0 := ((Ext.refl w14).alloc (.cells #[.int .i64 (srcN n0 xss0 n1), .slice u2a (srcC n0 xss0 n1).length u2c, .slice u2b (srcP n0 xss0 n1).length u2d] 35)).cell p0_0
  have y_p0_1 := ((Ext.refl w14).alloc (.cells #[.int .i64 (srcN n0 xss0 n1), .slice u2a (srcC n0 xss0 n1).length u2c, .slice u2b (srcP n0 xss0 n1).length u2d] 35)).cell p0_1
  have y_w0_0 := ((Ext.refl w14).alloc (.cells #[.int .i64 (srcN n0 xss0 n1), .slice u2a (srcC n0 xss0 n1).length u2c, .slice u2b (srcP n0 xss0 n1).length u2d] 35)).cell w0_0
  have y_w0_1 := ((Ext.refl w14).alloc (.cells #[.int .i64 (srcN n0 xss0 n1), .slice u2a (srcC n0 xss0 n1).length u2c, .slice u2b (srcP n0 xss0 n1).length u2d] 35)).cell w0_1
  have y_w0_2 := ((Ext.refl w14).alloc (.cells #[.int .i64 (srcN n0 xss0 n1), .slice u2a (srcC n0 xss0 n1).length u2c, .slice u2b (srcP n0 xss0 n1).length u2d] 35)).cell w0_2
  have y_x0_0 := ((Ext.refl w14).alloc (.cells #[.int .i64 (srcN n0 xss0 n1), .slice u2a (srcC n0 xss0 n1).length u2c, .slice u2b (srcP n0 xss0 n1).length u2d] 35)).cell x0_0
  have y_x0_1 := ((Ext.refl w14).alloc (.cells #[.int .i64 (srcN n0 xss0 n1), .slice u2a (srcC n0 xss0 n1).length u2c, .slice u2b (srcP n0 xss0 n1).length u2d] 35)).cell x0_1
  have y_g0_0 := ((Ext.refl w14).alloc (.cells #[.int .i64 (srcN n0 xss0 n1), .slice u2a (srcC n0 xss0 n1).length u2c, .slice u2b (srcP n0 xss0 n1).length u2d] 35)).cell g0_0
  have y_g0_1 := ((Ext.refl w14).alloc (.cells #[.int .i64 (srcN n0 xss0 n1), .slice u2a (srcC n0 xss0 n1).length u2c, .slice u2b (srcP n0 xss0 n1).length u2d] 35)).cell g0_1
  have y_g0_2 := ((Ext.refl w14).alloc (.cells #[.int .i64 (srcN n0 xss0 n1), .slice u2a (srcC n0 xss0 n1).length u2c, .slice u2b (srcP n0 xss0 n1).length u2d] 35)).cell g0_2
  go_wp2_with fail
  refine (eqCodedPacket_ok _ _ _ _ _ _ _ _ _ _ _ _ _ _ _ ((u2o.one).ext ((Ext.refl _).alloc _)) ((u2o.two).ext ((Ext.refl _).alloc _)) ((u0o.one).ext ((Ext.refl _).alloc _)) ((u0o.two).ext ((Ext.refl _).alloc _)) hres1 hres2).mono ?_
  clear y_p0_0 y_p0_1 y_w0_0 y_w0_1 y_w0_2 y_x0_0 y_x0_1 y_g0_0 y_g0_1 y_g0_2
  rintro e w15 ⟨rfl, e15⟩
  have z15 := e15.size_le
  simp at z15
  replace p0_0 := (((Ext.refl w14).alloc _).trans e15).cell p0_0
  replace p0_1 := (((Ext.refl w14).alloc _).trans e15).cell p0_1
  replace w0_0 := (((Ext.refl w14).alloc _).trans e15).cell w0_0
  replace w0_1 := (((Ext.refl w14).alloc _).trans e15).cell w0_1
  replace w0_2 := (((Ext.refl w14).alloc _).trans e15).cell w0_2
  replace x0_0 := (((Ext.refl w14).alloc _).trans e15).cell x0_0
  replace x0_1 := (((Ext.refl w14).alloc _).trans e15).cell x0_1
  replace g0_0 := (((Ext.refl w14).alloc _).trans e15).cell g0_0
  replace g0_1 := (((Ext.refl w14).alloc _).trans e15).cell g0_1
  replace g0_2 := (((Ext.refl w14).alloc _).trans e15).cell g0_2
  replace u0o := u0o.ext (((Ext.refl w14).alloc _).trans e15)
  replace u1o := u1o.ext (((Ext.refl w14).alloc _).trans e15)
  replace u2o := u2o.ext (((Ext.refl w14).alloc _).trans e15)
  have h0_0 := e15.cell (p := ⟨w14.heap.size, 0, none⟩) (v := .int .i64 (srcN n0 xss0 n1)) (by simp)
  have h0_1 := e15.cell (p := ⟨w14.heap.size, 1, none⟩) (v := .slice u2a (srcC n0 xss0 n1).length u2c) (by simp)
  have h0_2 := e15.cell (p := ⟨w14.heap.size, 2, none⟩) (v := .slice u2b (srcP n0 xss0 n1).length u2d) (by simp)
  replace E := (E.alloc _).trans e15
  clear e15
  go_wp2_with fail
  refine (heldCodedPacket_ok _ _ _ _ _ _ _ _ _ (u1o.one) (u1o.two) (by omega) (by omega) (by omega) (by omega)).mono ?_
  rintro e w16 ⟨rfl, e16⟩
  have z16 := e16.size_le
  replace p0_0 := e16.cell p0_0
  replace p0_1 := e16.cell p0_1
  replace w0_0 := e16.cell w0_0
  replace w0_1 := e16.cell w0_1
  replace w0_2 := e16.cell w0_2
  replace x0_0 := e16.cell x0_0
  replace x0_1 := e16.cell x0_1
  replace g0_0 := e16.cell g0_0
  replace g0_1 := e16.cell g0_1
  replace g0_2 := e16.cell g0_2
  replace h0_0 := e16.cell h0_0
  replace h0_1 := e16.cell h0_1
  replace h0_2 := e16.cell h0_2
  replace u0o := u0o.ext e16
  replace u1o := u1o.ext e16
  replace u2o := u2o.ext e16
  replace E := E.trans e16
  clear e16
  go_wp2_with fail
  go_ret
  exact ⟨rfl, E⟩

end Go.Proofs.Ytkegknophppdgaa
