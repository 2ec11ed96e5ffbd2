/- Contracts of IsValidMatrix and IsValidGeneration; the law of the second. -/
import Derived.Test.YthhojflpaebloaaPairs
import Derived.Deep.RegionHeld3
namespace Go.Proofs.Ythhojflpaebloaa
open Go.RowKit
set_option linter.unusedVariables false

theorem Calls.same_quiet {P : Program} {f : FuncId} {args : Array Value} {w : World} {n : Nat} {v : Value} (h : Calls P f args (w.drewN n) fun e w' => e = .returned v ∧ w.drewN n = w') :
    Calls P f args (w.drewN n) fun e w'' => e = .returned v ∧ ∃ m, w'' = w.drewN m := h.mono (by rintro e w' ⟨rfl, rfl⟩; exact ⟨rfl, n, rfl⟩)

/-- Rows that are vectors of n elements. -/
def VR (n : Nat) (xss : List (List Int)) : Prop := ∀ xs ∈ xss, validV xs = true ∧ xs.length = n
def vrows (xss : List (List Int)) : Bool := xss.all fun xs => validV xs && decide (xs.length = cols xss)
theorem vrows_true {xss : List (List Int)} : vrows xss = true ↔ VR (cols xss) xss := by simp [vrows, VR]
theorem VR.snoc {n k : Nat} {xss : List (List Int)} {xs : List Int} (h : VR n (xss.take k)) (hx : xss[k]? = some xs) (h1 : validV xs = true) (h2 : xs.length = n) : VR n (xss.take (k + 1)) := by
  intro y hy
  rw [List.take_add_one, hx] at hy
  rcases List.mem_append.1 hy with hy | hy
  · exact h y hy
  · simp at hy; subst hy; exact ⟨h1, h2⟩
theorem vrows_no {k : Nat} {xss : List (List Int)} {xs : List Int} (hx : xss[k]? = some xs) (h1 : validV xs = false ∨ ¬ xs.length = cols xss) : vrows xss = false := by
  cases hv : vrows xss
  · rfl
  · have := vrows_true.1 hv xs (List.mem_of_getElem? hx)
    rcases h1 with h1 | h1
    · rw [h1] at this; simp at this
    · exact absurd this.2 h1
def validM (xss : List (List Int)) : Bool := vrows xss && decide (xss.length ≤ 40)
def validG (n : Int) (xss : List (List Int)) : Bool := inR n 0 1000000000000 && (inR xss.length 1 8 && (vrows xss && inR (cols xss) 1 16))

theorem MatR.at0 {w : World} {a : Option Addr} {xss : List (List Int)} (h : MatR w a xss) {k : Nat} (hk : k < xss.length) :
    ∃ b o ra rc xs ra0 rc0, a = some ⟨b, o, none⟩ ∧ b < w.heap.size ∧ Hid (xss[k]? = some xs) ∧ w.cell? ⟨b, o + k, none⟩ = some (.slice ra xs.length rc) ∧ Vals w ra (I xs) ∧ w.cell? ⟨b, o, none⟩ = some (.slice ra0 (cols xss) rc0) := by
  obtain ⟨b, o, ra, rc, xs, h1, h2, h3, h4, h5⟩ := h.at_ hk
  obtain ⟨b', o', ra', rc', xs', h1', _, h3', h4', _⟩ := h.at_ (k := 0) (by omega)
  rw [h1] at h1'
  obtain ⟨rfl, rfl⟩ : b = b' ∧ o = o' := by simpa using h1'
  refine ⟨b, o, ra, rc, xs, ra', rc', h1, h2, h3, h4, h5, ?_⟩
  rw [Nat.add_zero] at h4'
  have : cols xss = xs'.length := by
    have := h3'.out
    cases xss with
    | nil => simp at this
    | cons x r => simp at this; subst this; rfl
  rw [h4', this]

set_option maxHeartbeats 1000000 in
theorem specIsValidMatrix_ok (a : Option Addr) (c : Nat) (xss : List (List Int)) (w : World) (h : MatR w a xss) (hl : xss.length ≤ 1099511627776) (hr : ∀ xs ∈ xss, xs.length ≤ 1099511627776) :
    Calls Try.prog 68 #[.slice a xss.length c] w (Quiet w (.bool (validM xss))) := by
  have HR := Lib.hid hr
  clear hr
  go_enter Try.func68, Try.ntmps68
  go_wp2
  go_loopw [3] (fun i wr => ∃ k : Nat, k ≤ xss.length ∧ i = .int .i64 k ∧ Hid (VR (cols xss) (xss.take k)) ∧ Dr w wr) (fun i _ => xss.length - (intOf i).toNat)
  case atStart => exact ⟨0, Nat.zero_le _, rfl, fun _ h => by simp at h, Dr.refl _⟩
  case round =>
    obtain ⟨k, hk, rfl, hvr, he⟩ := hrel
    by_cases hlt : k < xss.length
    · obtain ⟨b, o, ra, rc, xs, ra0, rc0, rfl, hb, hx, hc, hv, hc0⟩ := (h.ext he.ext).at0 hlt
      have hxm := HR.out xs (List.mem_of_getElem? hx.out)
      have i1 : (0 : Int) ≤ (k : Int) := by omega
      have i2 : (k : Int) < (xss.length : Int) := by omega
      have i4 : (0 : Int) < (xss.length : Int) := by omega
      have i5 : 0 < xss.length := by omega
      have q := fun n : Nat => specIsValidVector_ok ra rc xs (wr.drewN n) (hv.ext ((Ext.refl wr).drewN n)) hxm
      have Q := Lib.hid q
      clear q
      cases hq : validV xs
      · rw [hq] at Q
        have HQ := Lib.hid hq
        clear hq
        go_wp2
        go_quiet ((go_at_call 82; exact Calls.same_quiet (Q.out _)))
        go_wp2
        go_ret
        exact ⟨ret_bool (by unfold validM; rw [vrows_no hx.out (.inl HQ.out)]; rfl), he.drewN _⟩
      · rw [hq] at Q
        have HQ := Lib.hid hq
        clear hq
        by_cases hn : xs.length = cols xss
        · have hnn : ((xs.length : Int) != (cols xss : Int)) = false := by simp [hn]
          have HN := Lib.hid hn
          clear hn
          go_wp2
          go_quiet ((go_at_call 82; exact Calls.same_quiet (Q.out _)))
          go_wp2
          exact ⟨⟨k + 1, by omega, by go_num, VR.snoc hvr.out hx.out HQ.out HN.out, he.drewN _⟩, by simp [intOf]; omega⟩
        · have hnn : ((xs.length : Int) != (cols xss : Int)) = true := by simp; omega
          have HN := Lib.hid hn
          clear hn
          go_wp2
          go_quiet ((go_at_call 82; exact Calls.same_quiet (Q.out _)))
          go_wp2
          go_ret
          exact ⟨ret_bool (by unfold validM; rw [vrows_no hx.out (.inr HN.out)]; rfl), he.drewN _⟩
    · have := hvr.out
      rw [List.take_of_length_le (by omega)] at this
      have HV : Hid (vrows xss = true) := vrows_true.2 this
      clear this hvr
      go_wp2
      go_ret
      refine ⟨ret_bool ?_, he⟩
      unfold validM
      rw [HV.out, Bool.true_and]
      exact decide_eq_decide.2 (by omega)

set_option maxHeartbeats 1000000 in
theorem implIsValidGeneration_ok (n : Int) (a : Option Addr) (c : Nat) (xss : List (List Int)) (w : World) (h : MatR w a xss) (hl : xss.length ≤ 1099511627776) (hr : ∀ xs ∈ xss, xs.length ≤ 1099511627776) :
    Calls Try.prog 18 #[bsV n a c xss] w (Gives w (.bool (validG n xss))) := by
  have HR := Lib.hid hr
  clear hr
  have E := (Ext.refl w).alloc (.cells #[.int .i64 n, .slice a xss.length c] 27)
  cases h1 : inR n 0 1000000000000
  · go_enter Try.func18, Try.ntmps18
    go_wp2_with (go_at_call 71; refine (implInRange_ok _ _ _ _).mono ?_; rintro e w' ⟨rfl, rfl⟩)
    go_ret
    exact ⟨ret_bool (by unfold validG; rw [h1]; rfl), E⟩
  cases h2 : inR xss.length 1 8
  · go_enter Try.func18, Try.ntmps18
    go_wp2_with (go_at_call 71; refine (implInRange_ok _ _ _ _).mono ?_; rintro e w' ⟨rfl, rfl⟩)
    go_ret
    exact ⟨ret_bool (by unfold validG; rw [h1, h2]; rfl), E⟩
  have H2 := Lib.hid (inR_true.1 h2)
  have HE := Lib.hid E
  clear E
  go_enter Try.func18, Try.ntmps18
  go_wp2_with (go_at_call 71; refine (implInRange_ok _ _ _ _).mono ?_; rintro e w' ⟨rfl, rfl⟩)
  go_loop [19] (fun i => ∃ k : Nat, k ≤ xss.length ∧ i = .int .i64 k ∧ Hid (VR (cols xss) (xss.take k))) (fun i => xss.length - (intOf i).toNat)
  case atStart => exact ⟨0, Nat.zero_le _, rfl, fun _ h => by simp at h⟩
  case round =>
    obtain ⟨k, hk, rfl, hvr⟩ := hrel
    by_cases hlt : k < xss.length
    · obtain ⟨b, o, ra, rc, xs, ra0, rc0, rfl, hb, hx, hc, hv, hc0⟩ := (h.ext HE.out).at0 hlt
      have hxm := HR.out xs (List.mem_of_getElem? hx.out)
      have i2 : (k : Int) < (xss.length : Int) := by omega
      have i4 : (0 : Int) < (xss.length : Int) := by omega
      have i5 : 0 < xss.length := by omega
      cases hq : validV xs
      · have HQ := Lib.hid hq
        go_wp2_with (go_at_call 72; refine (implIsValidVector_ok _ _ _ _ hv hxm).mono ?_; rintro e w' ⟨rfl, rfl⟩)
        go_ret
        exact ⟨ret_bool (by unfold validG; rw [h1, h2, vrows_no hx.out (.inl HQ.out)]; rfl), HE.out⟩
      · have HQ := Lib.hid hq
        by_cases hn : xs.length = cols xss
        · have hnn : ((xs.length : Int) != (cols xss : Int)) = false := by simp [hn]
          have HN := Lib.hid hn
          clear hn
          go_wp2_with (go_at_call 72; refine (implIsValidVector_ok _ _ _ _ hv hxm).mono ?_; rintro e w' ⟨rfl, rfl⟩)
          go_round
          case rel => exact ⟨k + 1, by omega, by go_num, VR.snoc hvr.out hx.out HQ.out HN.out⟩
          case measure => simp [intOf]; omega
        · have hnn : ((xs.length : Int) != (cols xss : Int)) = true := by simp; omega
          have HN := Lib.hid hn
          clear hn
          go_wp2_with (go_at_call 72; refine (implIsValidVector_ok _ _ _ _ hv hxm).mono ?_; rintro e w' ⟨rfl, rfl⟩)
          go_ret
          exact ⟨ret_bool (by unfold validG; rw [h1, h2, vrows_no hx.out (.inr HN.out)]; rfl), HE.out⟩
    · have := hvr.out
      rw [List.take_of_length_le (by omega)] at this
      have HV : Hid (vrows xss = true) := vrows_true.2 this
      clear this hvr
      go_wp2_with fail
      refine (implSymbolWidth_ok _ _ _ _ _ (h.ext HE.out)).mono ?_
      rintro e w1 ⟨rfl, e1⟩
      go_wp2_with (go_at_call 71; refine (implInRange_ok _ _ _ _).mono ?_; rintro e w' ⟨rfl, rfl⟩)
      go_ret
      exact ⟨ret_bool (by unfold validG; rw [h1, h2, HV.out]; rfl), HE.out.trans e1⟩

set_option maxHeartbeats 1000000 in
theorem specIsValidGeneration_ok (n : Int) (a : Option Addr) (c : Nat) (xss : List (List Int)) (w : World) (h : MatR w a xss) (hl : xss.length ≤ 1099511627776) (hr : ∀ xs ∈ xss, xs.length ≤ 1099511627776) :
    Calls Try.prog 16 #[bsV n a c xss] w (Gives w (.bool (validG n xss))) := by
  have HR := Lib.hid hr
  clear hr
  have E := (Ext.refl w).alloc (.cells #[.int .i64 n, .slice a xss.length c] 27)
  cases h1 : inR n 0 1000000000000
  · go_enter Try.func16, Try.ntmps16
    go_wp2_with (go_at_call 67; refine (specInRange_ok _ _ _ _).mono ?_; rintro e w' ⟨rfl, rfl⟩)
    go_ret
    exact ⟨ret_bool (by unfold validG; rw [h1]; rfl), E⟩
  cases h2 : inR xss.length 1 8
  · go_enter Try.func16, Try.ntmps16
    go_wp2_with (go_at_call 67; refine (specInRange_ok _ _ _ _).mono ?_; rintro e w' ⟨rfl, rfl⟩)
    go_ret
    exact ⟨ret_bool (by unfold validG; rw [h1, h2]; rfl), E⟩
  have hvm : validM xss = vrows xss := by
    unfold validM
    rw [decide_eq_true (by have := inR_true.1 h2; omega), Bool.and_true]
  have q := specIsValidMatrix_ok a c xss _ (h.ext E) hl HR.out
  rw [hvm] at q
  have Q := Lib.hid q
  have HE := Lib.hid E
  clear E q hvm
  cases h3 : vrows xss
  · rw [h3] at Q
    go_enter Try.func16, Try.ntmps16
    go_wp2_with (go_at_call 67; refine (specInRange_ok _ _ _ _).mono ?_; rintro e w' ⟨rfl, rfl⟩)
    refine Q.out.mono ?_
    rintro e w1 ⟨rfl, m, rfl⟩
    go_wp2_with fail
    go_ret
    exact ⟨ret_bool (by unfold validG; rw [h1, h2, h3]; rfl), HE.out.drewN _⟩
  · rw [h3] at Q
    go_enter Try.func16, Try.ntmps16
    go_wp2_with (go_at_call 67; refine (specInRange_ok _ _ _ _).mono ?_; rintro e w' ⟨rfl, rfl⟩)
    refine Q.out.mono ?_
    rintro e w1 ⟨rfl, m, rfl⟩
    go_wp2_with (first | (go_at_call 67; refine (specInRange_ok _ _ _ _).mono ?_; rintro e w' ⟨rfl, rfl⟩) | (go_at_call 69; refine (specColumnsOf_ok _ _ _ _ (h.ext (HE.out.drewN _))).mono ?_; rintro e w' ⟨rfl, rfl⟩))
    go_ret
    exact ⟨ret_bool (by unfold validG; rw [h1, h2, h3]; rfl), HE.out.drewN _⟩

set_option maxHeartbeats 4000000 in
set_option maxRecDepth 100000 in
theorem lawIsValidGeneration (n0 : Int) (a0 : Option Addr) (c0 : Nat) (xss0 : List (List Int)) (w : World) (r0_0 : MatR w a0 xss0) (m0_0 : xss0.length ≤ maxLen) (m0_1 : ∀ xs ∈ xss0, xs.length ≤ maxLen) :
    Calls Try.prog 3 #[bsV n0 a0 c0 xss0] w (Gives w (.bool true)) := by
  replace m0_1 := Lib.hid m0_1
  by_cases hs0 : szM xss0 1048576 < 0
  · skip
    go_enter Try.func3, Try.ntmps3
    go_wp2_with fail
    refine (szGeneration_ok _ _ _ _ _ _ (r0_0.ext ((Ext.refl w).alloc _)) m0_0 m0_1.out (by omega) (by omega)).mono ?_
    rintro e w1 ⟨rfl, e1⟩
    have E := ((Ext.refl w).alloc _).trans e1
    have z0 := e1.size_le
    simp at z0
    have p0_0 := e1.cell (p := ⟨w.heap.size, 0, none⟩) (v := .int .i64 n0) (by simp)
    have p0_1 := e1.cell (p := ⟨w.heap.size, 1, none⟩) (v := .slice a0 xss0.length c0) (by simp)
    go_wp2_with fail
    go_ret
    exact ⟨rfl, E⟩
  obtain ⟨hle0, heq0⟩ := szM_le (Int.not_lt.1 hs0)
  have hl0 : xss0.length ≤ 1048576 := by omega
  have hr0 : Hid (∀ xs ∈ xss0, xs.length ≤ 1048576) := fun xs hx => by have := rows_le hx; omega
  have ht0 : tot xss0 ≤ 1099511627776 := by omega
  have hu0 : tot xss0 ≤ 1048576 := by omega
  have hf0 : szM xss0 1048576 ≤ 1048576 := by omega
  have hg0 : 0 ≤ szM xss0 1048576 := by omega
  replace heq0 := Lib.hid heq0
  go_enter Try.func3, Try.ntmps3
  go_wp2_with fail
  refine (szGeneration_ok _ _ _ _ _ _ (r0_0.ext ((Ext.refl w).alloc _)) m0_0 m0_1.out (by omega) (by omega)).mono ?_
  rintro e w1 ⟨rfl, e1⟩
  have E := ((Ext.refl w).alloc _).trans e1
  have z0 := e1.size_le
  simp at z0
  have p0_0 := e1.cell (p := ⟨w.heap.size, 0, none⟩) (v := .int .i64 n0) (by simp)
  have p0_1 := e1.cell (p := ⟨w.heap.size, 1, none⟩) (v := .slice a0 xss0.length c0) (by simp)
  go_wp2_with fail
  refine (toGeneration_ok _ _ _ _ _ (r0_0.ext (E)) hl0 hr0.out).mono ?_
  rintro e w2 ⟨t2a, t2c, rfl, t2o, e2⟩
  have z2 := e2.size_le
  replace p0_0 := e2.cell p0_0
  replace p0_1 := e2.cell p0_1
  replace E := E.trans e2
  clear e2
  go_wp2_with fail
  refine (specIsValidGeneration_ok _ _ _ _ _ (t2o.reads) (by omega) (fun xs hx => Nat.le_trans (hr0.out xs hx) (by omega))).mono ?_
  rintro e w3 ⟨rfl, e3⟩
  have z3 := e3.size_le
  replace p0_0 := e3.cell p0_0
  replace p0_1 := e3.cell p0_1
  replace t2o := t2o.ext e3
  replace E := E.trans e3
  clear e3
  go_wp2_with fail
  refine (toGeneration_ok _ _ _ _ _ (r0_0.ext (E)) hl0 hr0.out).mono ?_
  rintro e w4 ⟨t4a, t4c, rfl, t4o, e4⟩
  have z4 := e4.size_le
  replace p0_0 := e4.cell p0_0
  replace p0_1 := e4.cell p0_1
  replace E := E.trans e4
  clear e4
  have y_p0_0 := ((Ext.refl w4).alloc (.cells #[.int .i64 n0, .slice t4a xss0.length t4c] 27)).cell p0_0
  have y_p0_1 := ((Ext.refl w4).alloc (.cells #[.int .i64 n0, .slice t4a xss0.length t4c] 27)).cell p0_1
  go_wp2_with fail
  refine (implIsValidGeneration_ok _ _ _ _ _ ((t4o.reads).ext ((Ext.refl _).alloc _)) (by omega) (fun xs hx => Nat.le_trans (hr0.out xs hx) (by omega))).mono ?_
  clear y_p0_0 y_p0_1
  rintro e w5 ⟨rfl, e5⟩
  have z5 := e5.size_le
  simp at z5
  replace p0_0 := (((Ext.refl w4).alloc _).trans e5).cell p0_0
  replace p0_1 := (((Ext.refl w4).alloc _).trans e5).cell p0_1
  replace t4o := t4o.ext (((Ext.refl w4).alloc _).trans e5)
  have x0_0 := e5.cell (p := ⟨w4.heap.size, 0, none⟩) (v := .int .i64 n0) (by simp)
  have x0_1 := e5.cell (p := ⟨w4.heap.size, 1, none⟩) (v := .slice t4a xss0.length t4c) (by simp)
  replace E := (E.alloc _).trans e5
  clear e5
  have q0 : ((validG n0 xss0) != (validG n0 xss0)) = false := by simp
  have qe0 := eqB_self n0 xss0
  go_wp2_with fail
  go_region_held3 (fun w' => w'.cell? ⟨w.heap.size, 0, none⟩ = some (.int .i64 n0) ∧ w'.cell? ⟨w.heap.size, 1, none⟩ = some (.slice a0 xss0.length c0) ∧ w'.cell? ⟨w4.heap.size, 0, none⟩ = some (.int .i64 n0) ∧ w'.cell? ⟨w4.heap.size, 1, none⟩ = some (.slice t4a xss0.length t4c))
    (first | go_keep | exact ⟨(e7).cell ((e6).cell (p0_0)), (e7).cell ((e6).cell (p0_1)), (e7).cell ((e6).cell (x0_0)), (e7).cell ((e6).cell (x0_1))⟩ | exact ⟨(e6).cell (p0_0), (e6).cell (p0_1), (e6).cell (x0_0), (e6).cell (x0_1)⟩)
    (first | (go_at_call 17; (with_reducible refine (toGeneration_ok _ _ _ _ _ (r0_0.ext (E.trans ((Ext.refl w5).drew))) hl0 hr0.out).mono ?_); rintro e w6 ⟨t6a, t6c, rfl, t6o, e6⟩) | (go_at_call 19; (with_reducible refine (eqGeneration_ok _ _ _ _ _ _ _ _ _ ((t4o.reads).ext (((Ext.refl w5).drew).trans e6)) (t6o.reads) hl0 hr0.out).mono ?_); rintro e w7 ⟨rfl, e7⟩))
  have z6 := (((Ext.refl w5).drew.trans e6)).size_le
  have z7 := (e7).size_le
  replace p0_0 := (e7).cell ((e6).cell (p0_0))
  replace p0_1 := (e7).cell ((e6).cell (p0_1))
  replace x0_0 := (e7).cell ((e6).cell (x0_0))
  replace x0_1 := (e7).cell ((e6).cell (x0_1))
  replace t4o := t4o.ext ((((Ext.refl w5).drew).trans e6).trans e7)
  replace E := E.trans ((((Ext.refl w5).drew).trans e6).trans e7)
  go_wp2_with fail
  go_ret
  exact ⟨rfl, E⟩

end Go.Proofs.Ythhojflpaebloaa
