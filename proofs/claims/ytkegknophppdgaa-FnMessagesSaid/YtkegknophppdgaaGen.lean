/- Contracts of IsValidMatrix and IsValidGeneration; the law of the second. -/
import Derived.Test.YtkegknophppdgaaPairs
import Derived.Deep.RegionHeld3
namespace Go.Proofs.Ytkegknophppdgaa
open Go.RowKit
set_option linter.unusedVariables false
set_option maxRecDepth 20000

theorem Calls.same_quiet {P : Program} {f : FuncId} {args : Array Value} {w : World} {n : Nat} {v : Value} (h : Calls P f args (w.drewN n) fun e w' => e = .returned v ∧ w.drewN n = w') :
    Calls P f args (w.drewN n) fun e w'' => e = .returned v ∧ ∃ m, w'' = w.drewN m := h.mono (by rintro e w' ⟨rfl, rfl⟩; exact ⟨rfl, n, rfl⟩)

theorem MatR.at0 {w : World} {a : Option Addr} {xss : List (List Int)} (h : MatR w a xss) {k : Nat} (hk : k < xss.length) :
    ∃ b o ra rc xs ra0 rc0, a = some ⟨b, o, none⟩ ∧ b < w.heap.size ∧ Hid (xss[k]? = some xs) ∧ w.cell? ⟨b, o + k, none⟩ = some (.slice ra xs.length rc) ∧ Vals w ra (I xs) ∧ w.cell? ⟨b, o, none⟩ = some (.slice ra0 (cols xss) rc0) := by
  obtain ⟨b, o, ra, rc, xs, h1, h2, h3, h4, h5⟩ := h.at_ hk
  obtain ⟨b', o', ra', rc', xs', h1', _, h3', h4', _⟩ := h.at_ (k := 0) (by omega)
  rw [h1] at h1'
  obtain ⟨rfl, rfl⟩ : b = b' ∧ o = o' := by simpa using h1'
  refine ⟨b, o, ra, rc, xs, ra', rc', h1, h2, h3, h4, h5, ?_⟩
  rw [Nat.add_zero] at h4'
  have : cols xss = xs'.length := by
    have := h3'.out
    cases xss with
    | nil => simp at this
    | cons x r => simp at this; subst this; rfl
  rw [h4', this]

set_option maxHeartbeats 1000000 in
theorem specIsValidMatrix_ok (a : Option Addr) (c : Nat) (xss : List (List Int)) (w : World) (h : MatR w a xss) (hl : xss.length ≤ 1099511627776) (hr : ∀ xs ∈ xss, xs.length ≤ 1099511627776) :
    Calls Try.prog 127 #[.slice a xss.length c] w (Quiet w (.bool (validM xss))) := by
  have HR := Lib.hid hr
  clear hr
  go_enter Try.func127, Try.ntmps127
  go_wp2
  go_loopw [3] (fun i wr => ∃ k : Nat, k ≤ xss.length ∧ i = .int .i64 k ∧ Hid (VR (cols xss) (xss.take k)) ∧ Dr w wr) (fun i _ => xss.length - (intOf i).toNat)
  case atStart => exact ⟨0, Nat.zero_le _, rfl, fun _ h => by simp at h, Dr.refl _⟩
  case round =>
    obtain ⟨k, hk, rfl, hvr, he⟩ := hrel
    by_cases hlt : k < xss.length
    · obtain ⟨b, o, ra, rc, xs, ra0, rc0, rfl, hb, hx, hc, hv, hc0⟩ := (h.ext he.ext).at0 hlt
      have hxm := HR.out xs (List.mem_of_getElem? hx.out)
      have i1 : (0 : Int) ≤ (k : Int) := by omega
      have i2 : (k : Int) < (xss.length : Int) := by omega
      have i4 : (0 : Int) < (xss.length : Int) := by omega
      have i5 : 0 < xss.length := by omega
      have q := fun n : Nat => specIsValidVector_ok ra rc xs (wr.drewN n) (hv.ext ((Ext.refl wr).drewN n)) hxm
      have Q := Lib.hid q
      clear q
      cases hq : validV xs
      · rw [hq] at Q
        have HQ := Lib.hid hq
        clear hq
        go_wp2
        go_quiet ((go_at_call 66; exact Calls.same_quiet (Q.out _)))
        go_wp2
        go_ret
        exact ⟨ret_bool (by unfold validM; rw [vrows_no hx.out (.inl HQ.out)]; rfl), he.drewN _⟩
      · rw [hq] at Q
        have HQ := Lib.hid hq
        clear hq
        by_cases hn : xs.length = cols xss
        · have hnn : ((xs.length : Int) != (cols xss : Int)) = false := by simp [hn]
          have HN := Lib.hid hn
          clear hn
          go_wp2
          go_quiet ((go_at_call 66; exact Calls.same_quiet (Q.out _)))
          go_wp2
          exact ⟨⟨k + 1, by omega, by go_num, VR.snoc hvr.out hx.out HQ.out HN.out, he.drewN _⟩, by simp [intOf]; omega⟩
        · have hnn : ((xs.length : Int) != (cols xss : Int)) = true := by simp; omega
          have HN := Lib.hid hn
          clear hn
          go_wp2
          go_quiet ((go_at_call 66; exact Calls.same_quiet (Q.out _)))
          go_wp2
          go_ret
          exact ⟨ret_bool (by unfold validM; rw [vrows_no hx.out (.inr HN.out)]; rfl), he.drewN _⟩
    · have := hvr.out
      rw [List.take_of_length_le (by omega)] at this
      have HV : Hid (vrows xss = true) := vrows_true.2 this
      clear this hvr
      go_wp2
      go_ret
      refine ⟨ret_bool ?_, he⟩
      unfold validM
      rw [HV.out, Bool.true_and]
      exact decide_eq_decide.2 (by omega)

set_option maxHeartbeats 1000000 in
theorem implIsValidGeneration_ok (n : Int) (a : Option Addr) (c : Nat) (xss : List (List Int)) (w : World) (h : MatR w a xss) (hl : xss.length ≤ 1099511627776) (hr : ∀ xs ∈ xss, xs.length ≤ 1099511627776) :
    Calls Try.prog 60 #[bsV n a c xss] w (Gives w (.bool (validG n xss))) := by
  have HR := Lib.hid hr
  clear hr
  have E := (Ext.refl w).alloc (.cells #[.int .i64 n, .slice a xss.length c] 53)
  cases h1 : inR n 0 1000000000000
  · go_enter Try.func60, Try.ntmps60
    go_wp2_with (go_at_call 96; refine (implInRange_ok _ _ _ _).mono ?_; rintro e w' ⟨rfl, rfl⟩)
    go_ret
    exact ⟨ret_bool (by unfold validG; rw [h1]; rfl), E⟩
  cases h2 : inR xss.length 1 8
  · go_enter Try.func60, Try.ntmps60
    go_wp2_with (go_at_call 96; refine (implInRange_ok _ _ _ _).mono ?_; rintro e w' ⟨rfl, rfl⟩)
    go_ret
    exact ⟨ret_bool (by unfold validG; rw [h1, h2]; rfl), E⟩
  have H2 := Lib.hid (inR_true.1 h2)
  have HE := Lib.hid E
  clear E
  go_enter Try.func60, Try.ntmps60
  go_wp2_with (go_at_call 96; refine (implInRange_ok _ _ _ _).mono ?_; rintro e w' ⟨rfl, rfl⟩)
  go_loop [19] (fun i => ∃ k : Nat, k ≤ xss.length ∧ i = .int .i64 k ∧ Hid (VR (cols xss) (xss.take k))) (fun i => xss.length - (intOf i).toNat)
  case atStart => exact ⟨0, Nat.zero_le _, rfl, fun _ h => by simp at h⟩
  case round =>
    obtain ⟨k, hk, rfl, hvr⟩ := hrel
    by_cases hlt : k < xss.length
    · obtain ⟨b, o, ra, rc, xs, ra0, rc0, rfl, hb, hx, hc, hv, hc0⟩ := (h.ext HE.out).at0 hlt
      have hxm := HR.out xs (List.mem_of_getElem? hx.out)
      have i2 : (k : Int) < (xss.length : Int) := by omega
      have i4 : (0 : Int) < (xss.length : Int) := by omega
      have i5 : 0 < xss.length := by omega
      cases hq : validV xs
      · have HQ := Lib.hid hq
        go_wp2_with (go_at_call 120; refine (implIsValidVector_ok _ _ _ _ hv hxm).mono ?_; rintro e w' ⟨rfl, rfl⟩)
        go_ret
        exact ⟨ret_bool (by unfold validG; rw [h1, h2, vrows_no hx.out (.inl HQ.out)]; rfl), HE.out⟩
      · have HQ := Lib.hid hq
        by_cases hn : xs.length = cols xss
        · have hnn : ((xs.length : Int) != (cols xss : Int)) = false := by simp [hn]
          have HN := Lib.hid hn
          clear hn
          go_wp2_with (go_at_call 120; refine (implIsValidVector_ok _ _ _ _ hv hxm).mono ?_; rintro e w' ⟨rfl, rfl⟩)
          go_round
          case rel => exact ⟨k + 1, by omega, by go_num, VR.snoc hvr.out hx.out HQ.out HN.out⟩
          case measure => simp [intOf]; omega
        · have hnn : ((xs.length : Int) != (cols xss : Int)) = true := by simp; omega
          have HN := Lib.hid hn
          clear hn
          go_wp2_with (go_at_call 120; refine (implIsValidVector_ok _ _ _ _ hv hxm).mono ?_; rintro e w' ⟨rfl, rfl⟩)
          go_ret
          exact ⟨ret_bool (by unfold validG; rw [h1, h2, vrows_no hx.out (.inr HN.out)]; rfl), HE.out⟩
    · have := hvr.out
      rw [List.take_of_length_le (by omega)] at this
      have HV : Hid (vrows xss = true) := vrows_true.2 this
      clear this hvr
      go_wp2_with fail
      refine (implSymbolWidth_ok _ _ _ _ _ (h.ext HE.out)).mono ?_
      rintro e w1 ⟨rfl, e1⟩
      go_wp2_with (go_at_call 96; refine (implInRange_ok _ _ _ _).mono ?_; rintro e w' ⟨rfl, rfl⟩)
      go_ret
      exact ⟨ret_bool (by unfold validG; rw [h1, h2, HV.out]; rfl), HE.out.trans e1⟩

set_option maxHeartbeats 1000000 in
theorem specIsValidGeneration_ok (n : Int) (a : Option Addr) (c : Nat) (xss : List (List Int)) (w : World) (h : MatR w a xss) (hl : xss.length ≤ 1099511627776) (hr : ∀ xs ∈ xss, xs.length ≤ 1099511627776) :
    Calls Try.prog 65 #[bsV n a c xss] w (Gives w (.bool (validG n xss))) := by
  have HR := Lib.hid hr
  clear hr
  have E := (Ext.refl w).alloc (.cells #[.int .i64 n, .slice a xss.length c] 53)
  cases h1 : inR n 0 1000000000000
  · go_enter Try.func65, Try.ntmps65
    go_wp2_with (go_at_call 94; refine (specInRange_ok _ _ _ _).mono ?_; rintro e w' ⟨rfl, rfl⟩)
    go_ret
    exact ⟨ret_bool (by unfold validG; rw [h1]; rfl), E⟩
  cases h2 : inR xss.length 1 8
  · go_enter Try.func65, Try.ntmps65
    go_wp2_with (go_at_call 94; refine (specInRange_ok _ _ _ _).mono ?_; rintro e w' ⟨rfl, rfl⟩)
    go_ret
    exact ⟨ret_bool (by unfold validG; rw [h1, h2]; rfl), E⟩
  have hvm : validM xss = vrows xss := by
    unfold validM
    rw [decide_eq_true (by have := inR_true.1 h2; omega), Bool.and_true]
  have q := specIsValidMatrix_ok a c xss _ (h.ext E) hl HR.out
  rw [hvm] at q
  have Q := Lib.hid q
  have HE := Lib.hid E
  clear E q hvm
  cases h3 : vrows xss
  · rw [h3] at Q
    go_enter Try.func65, Try.ntmps65
    go_wp2_with (go_at_call 94; refine (specInRange_ok _ _ _ _).mono ?_; rintro e w' ⟨rfl, rfl⟩)
    refine Q.out.mono ?_
    rintro e w1 ⟨rfl, m, rfl⟩
    go_wp2_with fail
    go_ret
    exact ⟨ret_bool (by unfold validG; rw [h1, h2, h3]; rfl), HE.out.drewN _⟩
  · rw [h3] at Q
    go_enter Try.func65, Try.ntmps65
    go_wp2_with (go_at_call 94; refine (specInRange_ok _ _ _ _).mono ?_; rintro e w' ⟨rfl, rfl⟩)
    refine Q.out.mono ?_
    rintro e w1 ⟨rfl, m, rfl⟩
    go_wp2_with (first | (go_at_call 94; refine (specInRange_ok _ _ _ _).mono ?_; rintro e w' ⟨rfl, rfl⟩) | (go_at_call 77; refine (specColumnsOf_ok _ _ _ _ (h.ext (HE.out.drewN _))).mono ?_; rintro e w' ⟨rfl, rfl⟩))
    go_ret
    exact ⟨ret_bool (by unfold validG; rw [h1, h2, h3]; rfl), HE.out.drewN _⟩

end Go.Proofs.Ytkegknophppdgaa
