/- Contracts of DecodeCoefficients (program and reference); the law. -/
import Derived.Test.YtkegknophppdgaaDcW
namespace Go.Proofs.Ytkegknophppdgaa
open Go.RowKit
set_option linter.unusedVariables false
set_option maxRecDepth 20000

set_option maxHeartbeats 4000000 in
set_option maxRecDepth 100000 in
theorem specDecodeCoefficients_ok (a : Option Addr) (c : Nat) (bs : List Int) (w : World) (h : Vals w a (Y bs)) (hb : AllB bs) (hl : bs.length ≤ 1048576) :
    Calls Try.prog 50 #[.slice a bs.length c] w (NewIK w (dcV bs) (dcOk bs)) := by
  have bad : Hid (decCo bs = none → ∀ W, Ext w W → NewIK w (dcV bs) (dcOk bs) (.returned (.tuple #[.slice (some ⟨W.heap.size, 0, none⟩) 0 0, .bool false])) (W.alloc (.cells #[] 3))) := fun hno W hW => by
    obtain ⟨d1, d2⟩ := dc_none hno
    rw [d1, d2]
    exact ⟨_, _, rfl, (OwnI.new W W.heap.size [] (Nat.le_refl _) (by simp)).more hW.size_le, hW.alloc _⟩
  have good : Hid (∀ v, decCo bs = some v → ∀ (W : World) (a1 : Option Addr) (c1 : Nat), Ext w W → OwnI W w.heap.size a1 c1 v → NewIK w (dcV bs) (dcOk bs) (.returned (.tuple #[.slice a1 v.length c1, .bool true])) W) := fun v hv W a1 c1 hW ho => by
    obtain ⟨d1, d2⟩ := dc_some hv
    rw [d1, d2]
    exact ⟨_, _, rfl, ho, hW⟩
  by_cases hl0 : bs.length = 0
  · obtain rfl : bs = [] := List.eq_nil_of_length_eq_zero hl0
    have B := Lib.hid (bad.out dc_empty)
    clear bad good hl0
    go_enter Try.func50, Try.ntmps50
    go_wp2_with fail
    go_ret2
    exact B.out _ (Ext.refl w)
  have hpos : 0 < bs.length := by omega
  have hpi : (0 : Int) < (bs.length : Int) := by omega
  have hne0 : ((bs.length : Int) == 0) = false := beq_eq_false_iff_ne.2 (by omega)
  have CC := specReadUvarint_ok a c bs 1 w h hb hl (by omega)
  rw [show ((1 : Nat) : Int) = 1 from rfl] at CC
  obtain ⟨b, o, x, rfl, hbb, hx, hc⟩ := h.atY (k := 0) hpos
  rw [Nat.add_zero] at hc
  obtain ⟨x0, x1⟩ := hb.get hx.out
  have H := Lib.hid h
  have HB := Lib.hid hb
  clear h hb hl0
  cases hu : rdU bs 1 with
  | none =>
    rw [rdV_none hu] at CC
    have C1 := Lib.hid CC
    have B := Lib.hid (bad.out (dc_no_n hu))
    clear CC hu bad good
    go_enter Try.func50, Try.ntmps50
    go_wp2_with (go_at_call 111; (with_reducible refine C1.out.mono ?_); rintro e w' ⟨rfl, rfl⟩)
    go_ret2
    exact B.out _ (Ext.refl w)
  | some r =>
    obtain ⟨n, q⟩ := r
    rw [rdV_some hu] at CC
    have C1 := Lib.hid CC
    obtain ⟨u1, u2, u3⟩ := rdU_le HB.out hpos hu
    have HU := Lib.hid hu
    by_cases hbig : 40 < n
    · have B := Lib.hid (bad.out (dc_big' hu hbig))
      clear CC hu bad good
      go_enter Try.func50, Try.ntmps50
      go_wp2_with (go_at_call 111; (with_reducible refine C1.out.mono ?_); rintro e w' ⟨rfl, rfl⟩)
      go_ret2
      exact B.out _ (Ext.refl w)
    obtain ⟨n, rfl⟩ := Int.eq_ofNat_of_zero_le u2
    clear CC hu
    generalize hT : 1 + q = T at *
    have HT := Lib.hid hT
    clear hT
    have e0 : Ext w (w.alloc (.cells #[] 3)) := (Ext.refl w).alloc _
    have hc1 := e0.cell hc
    by_cases hx0 : x = 0
    · subst hx0
      have CD := specDecodeInts_ok (some ⟨b, o, none⟩) c bs (T : Int) (n : Int) _ (H.out.ext e0) HB.out hl
      have hdi := decI_in (bs := bs) (t := T) (k := (n : Int)) u1 (by omega) (by omega)
      rw [Int.toNat_natCast] at hdi
      cases hr : rdTo bs T n with
      | none =>
        obtain ⟨d1, d2, d3⟩ := di_none (hdi.trans hr)
        rw [d1, d2, d3] at CD
        have C2 := Lib.hid CD
        have B := Lib.hid (bad.out (dc_nodense hx.out HU.out (.inl (by rw [HT.out, Int.toNat_natCast]; exact hr))))
        clear CD hdi hr d1 d2 d3 bad good
        go_enter Try.func50, Try.ntmps50
        go_wp2_with (first
          | (go_at_call 111; (with_reducible refine C1.out.mono ?_); rintro e w' ⟨rfl, rfl⟩)
          | (go_at_call 106; (with_reducible refine C2.out.mono ?_); rintro e w2 ⟨a2, c2, rfl, o2, e2⟩))
        go_ret2
        exact B.out _ (e0.trans e2)
      | some r =>
        obtain ⟨l, e⟩ := r
        obtain ⟨d1, d2, d3⟩ := di_some (hdi.trans hr)
        rw [d1, d2, d3] at CD
        have C2 := Lib.hid CD
        have hll := (rdTo_sound HB.out _ _ _ hr).1
        have hl40 : l.length ≤ 40 := by omega
        have HR := Lib.hid hr
        clear CD hdi hr d1 d2 d3 hll
        by_cases hend : e = bs.length
        rotate_left
        · have hne : ((e : Int) != (bs.length : Int)) = true := by simp; omega
          have B := Lib.hid (bad.out (dc_nodense hx.out HU.out (.inr ⟨l, e, by rw [HT.out, Int.toNat_natCast]; exact HR.out, .inl hend⟩)))
          clear bad good hend
          go_enter Try.func50, Try.ntmps50
          go_wp2_with (first
            | (go_at_call 111; (with_reducible refine C1.out.mono ?_); rintro e w' ⟨rfl, rfl⟩)
            | (go_at_call 106; (with_reducible refine C2.out.mono ?_); rintro e w2 ⟨a2, c2, rfl, o2, e2⟩))
          go_ret2
          exact B.out _ (e0.trans e2)
        subst hend
        have hne : ((bs.length : Int) != (bs.length : Int)) = false := by simp
        cases hv : validV l
        · have B := Lib.hid (bad.out (dc_nodense hx.out HU.out (.inr ⟨l, _, by rw [HT.out, Int.toNat_natCast]; exact HR.out, .inr hv⟩)))
          clear bad good
          go_enter Try.func50, Try.ntmps50
          go_wp2_with (first
            | (go_at_call 111; (with_reducible refine C1.out.mono ?_); rintro e w' ⟨rfl, rfl⟩)
            | (go_at_call 106; (with_reducible refine C2.out.mono ?_); rintro e w2 ⟨a2, c2, rfl, o2, e2⟩)
            | (go_at_call 66; (with_reducible refine (specIsValidVector_ok _ _ l _ o2.vals (by omega)).mono ?_); rintro e w' ⟨rfl, rfl⟩; rw [hv]))
          go_ret2
          exact B.out _ (e0.trans e2)
        · have G := Lib.hid (good.out l (dc_dense HB.out hx.out HU.out (by rw [HT.out, Int.toNat_natCast]; exact HR.out) hv))
          clear bad good
          go_enter Try.func50, Try.ntmps50
          go_wp2_with (first
            | (go_at_call 111; (with_reducible refine C1.out.mono ?_); rintro e w' ⟨rfl, rfl⟩)
            | (go_at_call 106; (with_reducible refine C2.out.mono ?_); rintro e w2 ⟨a2, c2, rfl, o2, e2⟩)
            | (go_at_call 66; (with_reducible refine (specIsValidVector_ok _ _ l _ o2.vals (by omega)).mono ?_); rintro e w' ⟨rfl, rfl⟩; rw [hv]))
          go_ret2
          exact G.out _ _ _ (e0.trans e2) (o2.more e0.size_le)
    · have hxz : (x == 0) = false := beq_eq_false_iff_ne.2 hx0
      have C2 := Lib.hid (l12Sparse_ok (some ⟨b, o, none⟩) c bs T n _ (H.out.ext e0) HB.out hl u1 (by omega))
      have HX0 := Lib.hid hx0
      by_cases hx1 : x = 1
      rotate_left
      · have hx1b : (x != 1) = true := by simp [hx1]
        have B := Lib.hid (bad.out (dc_nosparse hx.out hx0 HU.out (.inl hx1)))
        clear bad good hx0 hx1
        go_enter Try.func50, Try.ntmps50
        go_wp2_with (first
          | (go_at_call 111; (with_reducible refine C1.out.mono ?_); rintro e w' ⟨rfl, rfl⟩)
          | (go_at_call 116; (with_reducible refine C2.out.mono ?_); rintro e w2 ⟨vs, ok, hvl, ⟨a2, c2, rfl, o2, e2⟩, k1, k2⟩; replace k1 := Lib.hid k1; replace k2 := Lib.hid k2; replace hvl := Lib.hid hvl; replace hc1 := e2.cell hc1))
        go_ret2
        exact B.out _ (e0.trans e2)
      subst hx1
      clear hx0
      go_enter Try.func50, Try.ntmps50
      go_wp2_with (go_at_call 111; (with_reducible refine C1.out.mono ?_); rintro e w' ⟨rfl, rfl⟩)
      (with_reducible refine C2.out.mono ?_)
      rintro e w2 ⟨vs, ok, hvl, ⟨a2, c2, rfl, o2, e2⟩, k1, k2⟩
      replace hc1 := e2.cell hc1
      have hv40 : vs.length ≤ 40 := by omega
      have HVL := Lib.hid hvl
      clear hvl
      cases ok with
      | false =>
        have B := Lib.hid (bad.out (dc_nosparse hx.out HX0.out HU.out (.inr (by rw [HT.out]; exact k2 rfl))))
        clear bad good k1 k2
        go_wp2_with fail
        go_ret2
        exact B.out _ (e0.trans e2)
      | true =>
        have K1 := Lib.hid (k1 rfl)
        clear k1 k2
        cases hv : validV vs
        · have B := Lib.hid (bad.out (dc_invalid hx.out HX0.out HU.out HVL.out (by rw [HT.out]; exact K1.out.1) (by rw [HT.out]; exact K1.out.2) hv))
          clear bad good
          go_wp2_with (go_at_call 66; (with_reducible refine (specIsValidVector_ok _ _ vs _ o2.vals (by omega)).mono ?_); rintro e w' ⟨rfl, rfl⟩; rw [hv])
          go_ret2
          exact B.out _ (e0.trans e2)
        · have G := Lib.hid (good.out vs (dc_sparse HB.out hx.out HU.out (by rw [HT.out]; exact K1.out.1) HVL.out hv))
          clear bad good
          go_wp2_with (go_at_call 66; (with_reducible refine (specIsValidVector_ok _ _ vs _ o2.vals (by omega)).mono ?_); rintro e w' ⟨rfl, rfl⟩; rw [hv])
          go_ret2
          exact G.out _ _ _ (e0.trans e2) (o2.more e0.size_le)

end Go.Proofs.Ytkegknophppdgaa
