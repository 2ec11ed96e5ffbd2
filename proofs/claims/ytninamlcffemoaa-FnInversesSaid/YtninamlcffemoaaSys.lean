/- Contract of the program's SolveSystem. -/
import Derived.Test.YtninamlcffemoaaBas3
namespace Go.Proofs.Ytninamlcffemoaa
open Go.RowKit
set_option linter.unusedVariables false
set_option maxRecDepth 20000

/-- A slice that reads as a list and has room for it. -/
def VC (w : World) (a : Option Addr) (c : Nat) (xs : List Int) : Prop := Vals w a (I xs) ∧ xs.length ≤ c
theorem VC.ext {w w' : World} {a : Option Addr} {c : Nat} {xs : List Int} (h : VC w a c xs) (he : Ext w w') : VC w' a c xs := ⟨h.1.ext he, h.2⟩
theorem OwnI.cap {w : World} {B : Nat} {a : Option Addr} {c : Nat} {xs : List Int} (h : OwnI w B a c xs) : xs.length ≤ c := by
  rcases h.2 with ⟨_, hn⟩ | ⟨g, cap, cur, hv, _, _, hc, _⟩
  · omega
  · injection hv with _ _ h3
    omega
theorem OI.vc {w : World} {B B2 : Nat} {a : Option Addr} {c : Nat} {xs : List Int} (h : OI w B B2 a c xs) : VC w a c xs := ⟨h.vals, h.1.cap⟩
theorem Vals.sub {w : World} {b o : Nat} {xs : List Int} (h : Vals w (some ⟨b, o, none⟩) (I xs)) {i : Nat} {y : Int} (hy : xs[i]? = some y) : Vals w (some ⟨b, o + i, none⟩) (I [y]) := by
  intro j hj
  have h0 : j = 0 := by simpa using hj
  subst h0
  obtain ⟨hi, hyi⟩ := List.getElem?_eq_some_iff.1 hy
  obtain ⟨b', o', hab, hc⟩ := h i (by simpa using hi)
  injection hab with hab
  obtain ⟨rfl, rfl⟩ : b = b' ∧ o = o' := by simpa using hab
  exact ⟨b, o + i, rfl, by simpa [hyi] using hc⟩

/-- Two slices beside each other, as a literal holds them. -/
theorem Mat.lit2 {w : World} {e : TypeId} {a0 a1 : Option Addr} {c0 c1 : Nat} {x0 x1 : List Int} (h0 : Vals w a0 (I x0)) (h1 : Vals w a1 (I x1)) :
    Mat (w.alloc (.cells #[.slice a0 x0.length c0, .slice a1 x1.length c1] e)) (some ⟨w.heap.size, 0, none⟩) [(a0, c0), (a1, c1)] [x0, x1] := by
  have he := (Ext.refl w).alloc (.cells #[.slice a0 x0.length c0, .slice a1 x1.length c1] e)
  refine ⟨rfl, Vals.new w _ e, fun i r xs hr hx => ?_⟩
  match i with
  | 0 => simp at hr hx; subst hr hx; exact h0.ext he
  | 1 => simp at hr hx; subst hr hx; exact h1.ext he
  | i + 2 => simp at hr

def solveL (m : List (List Int)) (b : List Int) : List Int := (solve m b).getD []
def solveOk (m : List (List Int)) (b : List Int) : Bool := (solve m b).isSome
theorem solve_bad {m : List (List Int)} {b : List Int} (h : sysOk m b = false) : solveL m b = [] ∧ solveOk m b = false := by
  unfold solveL solveOk solve
  rw [h]
  exact ⟨rfl, rfl⟩
theorem solve_some {m : List (List Int)} {b o : List Int} (h : solve m b = some o) : solveL m b = o ∧ solveOk m b = true := by
  unfold solveL solveOk
  rw [h]
  exact ⟨rfl, rfl⟩
theorem solve_none {m : List (List Int)} {b : List Int} (h : solve m b = none) : solveL m b = [] ∧ solveOk m b = false := by
  unfold solveL solveOk
  rw [h]
  exact ⟨rfl, rfl⟩
theorem sysOk_parts {m : List (List Int)} {b : List Int} (h : sysOk m b = true) : VR (cols m) m ∧ m.length ≤ 40 ∧ AllEl b ∧ b.length = m.length ∧ cols m < 40 ∧ validM m = true ∧ validV b = true := by
  unfold sysOk at h
  simp only [Bool.and_eq_true, decide_eq_true_eq] at h
  have h1 := validM_true.1 h.1
  exact ⟨h1.1, h1.2, (validV_true.1 h.2.1).1, h.2.2.1, h.2.2.2, h.1, h.2.1⟩
theorem gj_nil (n : Nat) : gj [] n = [] := by
  obtain ⟨_, h, _⟩ := gj_red (n := 0) (m := []) (k := n) (by omega) (fun _ hx => by simp at hx)
  exact List.eq_nil_of_length_eq_zero (by simpa using h)
theorem wide_red {m : List (List Int)} {b : List Int} (h : VR (cols m) m) (hl : m.length ≤ 40) (hb : AllEl b) (hc : cols m < 40) : rowRed (wideTo m b m.length) = gj (wideTo m b m.length) (cols m + 1) := by
  have hw := wideTo_VR (b := b) (show cols m + 1 ≤ 40 by omega) h hb
  by_cases h0 : m.length = 0
  · have : wideTo m b m.length = [] := by rw [h0]; rfl
    rw [this, gj_nil]
    exact rowRed_yes (m := []) rfl |>.trans (gj_nil _)
  · have hcols : cols (wideTo m b m.length) = cols m + 1 := hw.cols (by rw [wideTo_length]; omega)
    rw [rowRed_yes (validM_true.2 ⟨by rw [hcols]; exact hw, by rw [wideTo_length]; exact hl⟩), hcols]
theorem wide_RM {m : List (List Int)} {b : List Int} (h : VR (cols m) m) (hb : AllEl b) (hc : cols m < 40) : RM (cols m + 1) (gj (wideTo m b m.length) (cols m + 1)) ∧ (gj (wideTo m b m.length) (cols m + 1)).length ≤ m.length := by
  have hw := wideTo_VR (b := b) (show cols m + 1 ≤ 40 by omega) h hb
  obtain ⟨g1, g2, _⟩ := gj_red (k := cols m + 1) (show cols m + 1 ≤ 40 by omega) hw
  exact ⟨g1, by rw [wideTo_length] at g2; exact g2⟩

set_option maxHeartbeats 8000000 in
set_option maxRecDepth 100000 in
theorem implSolveSystem_ok (a : Option Addr) (c : Nat) (m : List (List Int)) (b : Option Addr) (d : Nat) (v : List Int) (w : World) (h : MatR w a m) (h' : VC w b d v) (hl : m.length ≤ 1048576) (hr : ∀ xs ∈ m, xs.length ≤ 1048576) (hl' : v.length ≤ 1048576) :
    Calls Try.prog 41 #[.slice a m.length c, .slice b v.length d] w (NewIF w (solveL m v) (solveOk m v)) := by
  have Q := Lib.hid (implIsValidMatrix_ok a c m w h (by omega) (fun xs hx => Nat.le_trans (hr xs hx) (by omega)))
  have hb := h'.1
  have hd := h'.2
  clear hr h'
  have bad : Hid (sysOk m v = false → ∀ W, Ext w W → NewIF w (solveL m v) (solveOk m v) (.returned (.tuple #[.slice none 0 0, .bool false])) W) := fun hs W hW => by
    rw [(solve_bad hs).1, (solve_bad hs).2]
    exact ⟨none, 0, rfl, OwnI.nil _ _, hW⟩
  cases q1 : validM m
  · have HS : Hid (sysOk m v = false) := by unfold sysOk; rw [q1]; exact Lib.hid rfl
    rw [q1] at Q
    go_enter Try.func41, Try.ntmps41
    go_wp2_with fail
    (with_reducible refine Q.out.mono ?_)
    rintro e w1 ⟨rfl, q, rfl⟩
    go_wp2_with fail
    go_ret2
    exact bad.out HS.out _ ((Ext.refl w).drewN q)
  rw [q1] at Q
  cases q2 : validV v
  · have HS : Hid (sysOk m v = false) := by unfold sysOk; rw [q2]; simp [Hid]
    go_enter Try.func41, Try.ntmps41
    go_wp2_with fail
    (with_reducible refine Q.out.mono ?_)
    rintro e w1 ⟨rfl, q, rfl⟩
    go_wp2_with (go_at_call 100; (with_reducible refine (implIsValidVector_ok _ _ _ _ (hb.ext ((Ext.refl w).drewN q)) (by omega)).mono ?_); rintro e w' ⟨rfl, rfl⟩; rw [q2])
    go_ret2
    exact bad.out HS.out _ ((Ext.refl w).drewN q)
  by_cases q3 : v.length = m.length
  rotate_left
  · have HS : Hid (sysOk m v = false) := by unfold sysOk; rw [decide_eq_false q3]; simp [Hid]
    have q3' : ((v.length : Int) != (m.length : Int)) = true := by simp; omega
    clear q3
    go_enter Try.func41, Try.ntmps41
    go_wp2_with fail
    (with_reducible refine Q.out.mono ?_)
    rintro e w1 ⟨rfl, q, rfl⟩
    go_wp2_with (go_at_call 100; (with_reducible refine (implIsValidVector_ok _ _ _ _ (hb.ext ((Ext.refl w).drewN q)) (by omega)).mono ?_); rintro e w' ⟨rfl, rfl⟩; rw [q2])
    go_ret2
    exact bad.out HS.out _ ((Ext.refl w).drewN q)
  have q3' : ((v.length : Int) != (m.length : Int)) = false := by simp [q3]
  have HQ3 := Lib.hid q3
  have hcm := cols_le (validM_true.1 q1).1
  by_cases q4 : cols m = 40
  · have HS : Hid (sysOk m v = false) := by unfold sysOk; rw [decide_eq_false (show ¬ cols m < 40 by omega)]; simp [Hid]
    have q4' : ((cols m : Int) == 40) = true := by simp [q4]
    clear q3 q4
    go_enter Try.func41, Try.ntmps41
    go_wp2_with fail
    (with_reducible refine Q.out.mono ?_)
    rintro e w1 ⟨rfl, q, rfl⟩
    go_wp2_with (first
      | (go_at_call 100; (with_reducible refine (implIsValidVector_ok _ _ _ _ (hb.ext ((Ext.refl w).drewN q)) (by omega)).mono ?_); rintro e w' ⟨rfl, rfl⟩; rw [q2])
      | (go_at_call 81; (with_reducible refine (implColumnsOf_ok _ _ _ _ (h.ext ((Ext.refl w).drewN q))).mono ?_); rintro e w' ⟨rfl, rfl⟩))
    go_ret2
    exact bad.out HS.out _ ((Ext.refl w).drewN q)
  have q4' : ((cols m : Int) == 40) = false := by simp; omega
  have hc40 : cols m < 40 := by omega
  have HS : Hid (sysOk m v = true) := by unfold sysOk; rw [q1, q2, decide_eq_true q3, decide_eq_true hc40]; exact Lib.hid rfl
  have HV := Lib.hid (validM_true.1 q1).1
  have hm40 := (validM_true.1 q1).2
  have HB := Lib.hid (validV_true.1 q2).1
  have HRR := Lib.hid (wide_red HV.out hm40 HB.out hc40)
  have HRM := Lib.hid (wide_RM (b := v) HV.out HB.out hc40)
  have HSOL : Hid (solve m v = solTo (gj (wideTo m v m.length) (cols m + 1)) (cols m) (gj (wideTo m v m.length) (cols m + 1)).length) := by unfold solve; rw [if_pos HS.out]; exact Lib.hid rfl
  clear q3 q4 bad
  obtain ⟨i, hi, hz0, hz1, hz2⟩ := info_parts infoInt
  go_enter Try.func41, Try.ntmps41
  go_wp2_with fail
  (with_reducible refine Q.out.mono ?_)
  rintro e w1 ⟨rfl, q, rfl⟩
  have E1 := (Ext.refl w).drewN q
  clear Q
  generalize w.drewN q = w1 at *
  go_wp2_with (first
    | (go_at_call 100; (with_reducible refine (implIsValidVector_ok _ _ _ _ (hb.ext E1) (by omega)).mono ?_); rintro e w' ⟨rfl, rfl⟩; rw [q2])
    | (go_at_call 81; (with_reducible refine (implColumnsOf_ok _ _ _ _ (h.ext E1)).mono ?_); rintro e w' ⟨rfl, rfl⟩))
  go_loopw [7, 38] (fun x i wr => ∃ (j : Nat) (a1 : Option Addr) (c1 : Nat) (yss : List (List Int)), j ≤ m.length ∧ i = .int .i64 j ∧ x = .slice a1 yss.length c1 ∧ Hid (yss = wideTo m v j) ∧ OM wr w.heap.size wr.heap.size a1 c1 yss ∧ Ext w wr) (fun _ i _ => m.length - (intOf i).toNat)
  case atStart => exact ⟨0, none, 0, [], Nat.zero_le _, rfl, rfl, rfl, OM.nil _ _ _, E1⟩
  case round =>
    clear E1
    obtain ⟨j, a1, c1, yss, hj, rfl, rfl, HY, ho, he⟩ := hrel
    have hyl : yss.length ≤ 40 := by rw [HY.out, wideTo_length]; omega
    by_cases hlt : j < m.length
    · obtain ⟨b1, o1, ra, rc, xs, rfl, hbl, hx, hc, hrow⟩ := (h.ext he).at_ hlt
      have hjv : j < v.length := by rw [HQ3.out]; exact hlt
      obtain ⟨b2, o2, y, rfl, _, hy, hcy⟩ := (hb.ext he).atI hjv
      have hxl : xs.length ≤ 40 := (HV.out.ok hx.out).2.1
      have hsub := ((hb.ext he).sub hy.out)
      have i1 : ¬ (d = j) := by omega
      have i2 : (j : Int) + 1 ≤ (v.length : Int) := by omega
      have i3 : j + 1 ≤ d := by omega
      have hM := Mat.lit2 (e := 36) (c0 := rc) (c1 := d - j) hrow hsub
      have E2 := (Ext.refl wr).alloc (.cells #[.slice ra xs.length rc, .slice (some ⟨b2, o2 + j, none⟩) 1 (d - j)] 36)
      have hcc := concatI_ok _ 2 _ [xs, [y]] _ hM (by simp) (by simp; omega)
      obtain ⟨ys, hys⟩ : ∃ ys, Hid (ys = xs ++ [y]) := ⟨_, rfl⟩
      have hfl : [xs, [y]].flatten = ys := by rw [hys.out]; simp
      rw [hfl] at hcc
      have hcc2 : Calls Try.prog 91 #[.slice (some ⟨wr.heap.size, 0, none⟩) 2 2] (wr.alloc (.cells #[.slice ra xs.length rc, .slice (some ⟨b2, o2 + j, none⟩) 1 (d - j)] 36)) (NewI (wr.alloc (.cells #[.slice ra xs.length rc, .slice (some ⟨b2, o2 + j, none⟩) 1 (d - j)] 36)) ys) := hcc
      have HCC := Lib.hid hcc2
      have HE2 := Lib.hid E2
      obtain ⟨zss, hzs⟩ : ∃ zss, Hid (zss = yss ++ [ys]) := ⟨_, rfl⟩
      have HT : Hid (zss = wideTo m v (j + 1)) := by rw [wideTo_succ, getD_some hx.out, ent_some hy.out, ← HY.out, ← hys.out]; exact hzs
      have hsz := he.size_le
      clear hM hcc hcc2 hfl E2 hsub
      go_wp2_with fail
      (with_reducible refine HCC.out.mono ?_)
      rintro e w3 ⟨a3, c3, rfl, o3, e3⟩
      have e2 := HE2.out.trans e3
      have z2 := e2.size_le
      have o3' := o3.more (B' := wr.heap.size) (by simp)
      have O5 := (ho.ext e2).ext ((Ext.refl w3).alloc (.cells #[.slice a3 ys.length c3] 36))
      have R5 := ((OI.of o3').ext ((Ext.refl w3).alloc (.cells #[.slice a3 ys.length c3] 36))).mono (C := wr.heap.size) (C2 := (w3.alloc (.cells #[.slice a3 ys.length c3] 36)).heap.size) (Nat.le_refl _) (by simp)
      have E5 := (he.trans e2).alloc (.cells #[.slice a3 ys.length c3] 36)
      have hnew : Vals (w3.alloc (.cells #[.slice a3 ys.length c3] 36)) (some ⟨w3.heap.size, 0, none⟩) [.slice a3 ys.length c3] := Vals.new w3 [.slice a3 ys.length c3] 36
      have hob := ho.block
      clear o3 o3' e3 e2 ho he HCC HE2
      go_wp2_with (at_builtin; refine wpList_appM _ rfl _ _ rfl w.heap.size wr.heap.size _ _ yss rfl O5 _ _ _ _ ys rfl hnew R5 hsz (by simp; omega) zss hzs.out (by omega) ?_)
      intro a5 c5 w5 o5 g5
      have e5 := E5.grown g5 (fun k hk => (hob k hk).1)
      clear g5 E5 O5 R5 hnew hob
      go_wp2_with fail
      go_roundw
      case rel => exact ⟨j + 1, a5, c5, zss, by omega, by go_num, rfl, HT, o5, e5⟩
      case measure => simp [intOf]; omega
    · obtain rfl : j = m.length := by omega
      rw [← HY.out] at HRR HSOL HRM
      have HYL : Hid (∀ xs ∈ yss, xs.length ≤ 1048576) := fun xs hx => by rw [HY.out] at hx; have := (validV_true.1 (wideTo_VR (b := v) (show cols m + 1 ≤ 40 by omega) HV.out HB.out xs hx).1).2; omega
      obtain ⟨xx, hxx⟩ : ∃ xx, Hid (xx = gj yss (cols m + 1)) := ⟨_, rfl⟩
      rw [← hxx.out] at HRR HSOL HRM
      have hxl : xx.length ≤ 40 := by have := HRM.out.2; omega
      go_wp2_with (at_make; refine wpList_make_full _ rfl _ _ 36 rfl wr.heap.size 3 i (.int .i64 0) 1 Try.underlying36 hi hz0 hz1 _ _ _ _ (cols m) rfl rfl rfl rfl ?b1 ?b2 (Nat.le_refl _) ?_)
      case b1 => rw [hz2]; omega
      case b2 => unfold maxLen; omega
      intro w3 hown hgrow
      have q0 : OI w3 wr.heap.size w3.heap.size (some ⟨wr.heap.size, 0, none⟩) (cols m) (List.replicate (cols m) 0) := by
        refine OI.of ?_
        unfold OwnI
        simpa [Value.cells, toList_madeCells_one] using hown
      have e3 := (Ext.refl wr).grown hgrow (by simp)
      have E3 := he.trans e3
      have CR := implRowReduce_ok a1 c1 yss w3 (ho.reads.ext e3) (by omega) HYL.out
      rw [HRR.out] at CR
      have HCR := Lib.hid CR
      clear hown hgrow CR ho
      go_wp2_with fail
      (with_reducible refine HCR.out.mono ?_)
      rintro e w4 ⟨a4, c4, rfl, o4, e4⟩
      have q4 := q0.ext e4
      have E4 := E3.trans e4
      have z3 := e3.size_le
      have z4 := e4.size_le
      have zw := he.size_le
      clear q0 e4 e3 E3 HCR he
      have SE : Hid (∀ o, solTo xx (cols m) xx.length = some o → solveL m v = o ∧ solveOk m v = true) := fun o ho => solve_some (HSOL.out.trans ho)
      have SN : Hid (solTo xx (cols m) xx.length = none → solveL m v = [] ∧ solveOk m v = false) := fun ho => solve_none (HSOL.out.trans ho)
      obtain ⟨wq, hwq⟩ : ∃ wq, wq = wr := ⟨_, rfl⟩
      subst hwq
      go_wp2_with fail
      go_loopw [60] (fun i wr => ∃ (k : Nat) (o : List Int), k ≤ xx.length ∧ i = .int .i64 k ∧ Hid (solTo xx (cols m) k = some o) ∧ OI wr wq.heap.size w3.heap.size (some ⟨wq.heap.size, 0, none⟩) (cols m) o ∧ OM wr w3.heap.size w4.heap.size a4 c4 xx ∧ Ext w wr) (fun i _ => xx.length - (intOf i).toNat)
      case atStart => exact ⟨0, _, Nat.zero_le _, rfl, rfl, q4, o4, E4⟩
      case round =>
        clear q4 o4 E4
        obtain ⟨k, o, hk, rfl, HSo, hO, hM, he⟩ := hrel
        have HOL := Lib.hid (solTo_len HSo.out)
        by_cases hlt : k < xx.length
        · obtain ⟨b1, o1, ra, rc, xs, rfl, hbl, hx, hc, hrow⟩ := hM.reads.at_ hlt
          have hxs : Hid (xx.getD k [] = xs) := getD_some hx.out
          have hrk := HRM.out.1.1.getD hlt
          have hlk := HRM.out.1.ld_lt hlt
          rw [hxs.out] at hrk hlk
          obtain ⟨p, hp⟩ : ∃ p, Hid (ld xs = p) := ⟨_, rfl⟩
          rw [hp.out] at hlk
          have hxl2 : xs.length ≤ 40 := hrk.2.2
          have HP : Hid (leadI xs = (p : Int)) := leadI_nat hp.out (by rw [hrk.2.1]; exact hlk)
          have hcx : cols m < xs.length := by rw [hrk.2.1]; omega
          obtain ⟨b2, o2, y, rfl, _, hy, hcy⟩ := hrow.atI hcx
          have hye : Hid (ent xs (cols m) = y) := ent_some hy.out
          have i1 : (cols m : Int) < (xs.length : Int) := by omega
          clear hrk
          by_cases hpn : p = cols m
          · have hpn' : ((p : Int) == (cols m : Int)) = true := by simp [hpn]
            have HF := Lib.hid (SN.out (solTo_stop HSo.out hlt (by rw [hxs.out, hp.out]; exact hpn)))
            clear hpn
            go_wp2_with (go_at_call 39; (with_reducible refine (implLeadingIndex_ok _ _ _ _ hrow (by omega)).mono ?_); rintro e w' ⟨rfl, rfl⟩; rw [HP.out])
            go_ret2
            rw [HF.out.1, HF.out.2]
            exact ⟨none, 0, rfl, OwnI.nil _ _, he⟩
          · have hpn' : ((p : Int) == (cols m : Int)) = false := by simp; omega
            have hpo : p < o.length := by rw [HOL.out]; omega
            have i2 : (p : Int) < (cols m : Int) := by omega
            have HGO : Hid (solTo xx (cols m) (k + 1) = some (o.set p y)) := by
              have := solTo_go HSo.out (by rw [hxs.out, hp.out]; exact hpn)
              rw [hxs.out, hp.out, hye.out] at this
              exact this
            obtain ⟨s1, s2, s3, u, s4⟩ := hO.store p y hpo
            have s5 := hM.span s2 (.inr (Nat.le_refl _))
            have s6 := Span.ext he s2 (by omega)
            clear hpn hO hM he s2
            go_wp2_with (go_at_call 39; (with_reducible refine (implLeadingIndex_ok _ _ _ _ hrow (by omega)).mono ?_); rintro e w' ⟨rfl, rfl⟩; rw [HP.out])
            go_roundw
            case rel => exact ⟨k + 1, o.set p y, by omega, by go_num, HGO, s1, s5, s6⟩
            case measure => simp [intOf]; omega
        · obtain rfl : k = xx.length := by omega
          have HF := Lib.hid (SE.out o HSo.out)
          go_wp2_with fail
          go_ret2
          rw [HF.out.1, HF.out.2]
          exact ⟨_, _, by rw [HOL.out]; rfl, hO.1.more (by omega), he⟩

end Go.Proofs.Ytninamlcffemoaa
