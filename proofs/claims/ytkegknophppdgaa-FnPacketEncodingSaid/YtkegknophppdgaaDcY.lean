/- Contract of the program's DecodeCoefficients; the law. -/
import Derived.Test.YtkegknophppdgaaDcX
namespace Go.Proofs.Ytkegknophppdgaa
open Go.RowKit
set_option linter.unusedVariables false
set_option maxRecDepth 20000

theorem rdTo_two' {b : List Int} {t e : Nat} {l : List Int} (hb : AllB b) (h : rdTo b t 2 = some (l, e)) : ∃ x y, l = [x, y] ∧ 0 ≤ x ∧ x ≤ 1000000000000 ∧ 0 ≤ y ∧ y ≤ 1000000000000 := by
  obtain ⟨h1, h2, _⟩ := rdTo_sound hb _ _ _ h
  match l, h1 with
  | [x, y], _ =>
    have a1 := inR_true.1 (h2 x (by simp))
    have a2 := inR_true.1 (h2 y (by simp))
    exact ⟨x, y, rfl, a1.1, a1.2, a2.1, a2.2⟩
theorem enc_valid {v bs : List Int} (hb : 0 < bs.length) (h : encDense v = bs ∨ encSparse v = bs) : validV v = true := by
  cases hv : validV v
  · rcases h with h | h
    · rw [encDense_no hv] at h; subst h; simp at hb
    · rw [encSparse_no hv] at h; subst h; simp at hb
  · rfl
theorem dc_none_dense {bs : List Int} {n : Int} {e : Nat} (hel : e ≤ bs.length) (h : rdTo bs 0 2 = some ([0, n], e)) (h1 : encDense (diL bs (e : Int) n) ≠ bs) : decCo bs = none := decCo_none fun v hv => ⟨fun he => (by
  obtain ⟨e', p1, p2, _⟩ := dense_parts hv he
  rw [h] at p1
  simp only [Option.some.injEq, Prod.mk.injEq, List.cons.injEq, and_true, true_and] at p1
  obtain ⟨n1, rfl⟩ := p1
  have := (validV_true.1 hv).2
  have hd := decI_in (bs := bs) (t := e) (k := n) hel (by omega) (by omega)
  rw [show n.toNat = v.length by omega, p2] at hd
  rw [(di_some hd).1] at h1
  exact h1 he), fun he => (by
  obtain ⟨e', p1, _⟩ := sparse_parts hv he
  rw [h] at p1
  simp at p1)⟩
theorem dc_none_sparse {bs vs : List Int} {f : Int} {n e : Nat} (hf : f ≠ 0) (h : rdTo bs 0 2 = some ([f, (n : Int)], e)) (hu : ∀ v, validV v = true → v.length = n → SpAt bs e v → vs = v) (h1 : encSparse vs ≠ bs) : decCo bs = none := decCo_none fun v hv => ⟨fun he => (by
  obtain ⟨e', p1, _⟩ := dense_parts hv he
  rw [h] at p1
  simp only [Option.some.injEq, Prod.mk.injEq, List.cons.injEq, and_true] at p1
  exact hf p1.1.1), fun he => (by
  obtain ⟨e', p1, p2, _⟩ := sparse_parts hv he
  rw [h] at p1
  simp only [Option.some.injEq, Prod.mk.injEq, List.cons.injEq, and_true] at p1
  obtain ⟨⟨n0, n1⟩, rfl⟩ := p1
  rw [hu v hv (by omega) p2] at h1
  exact h1 he)⟩

set_option maxHeartbeats 8000000 in
set_option maxRecDepth 100000 in
theorem implDecodeCoefficients_ok (a : Option Addr) (c : Nat) (bs : List Int) (w : World) (h : Vals w a (Y bs)) (hb : AllB bs) (hl : bs.length ≤ 1048576) :
    Calls Try.prog 51 #[.slice a bs.length c] w (NewIK w (dcV bs) (dcOk bs)) := by
  have bad : Hid (decCo bs = none → ∀ W, Ext w W → NewIK w (dcV bs) (dcOk bs) (.returned (.tuple #[.slice none 0 0, .bool false])) W) := fun hno W hW => by
    obtain ⟨d1, d2⟩ := dc_none hno
    rw [d1, d2]
    exact ⟨none, 0, rfl, OwnI.nil _ _, hW⟩
  have C0 := implDecodeInts_ok a c bs 0 2 w h hb hl
  have hd2 := decI_head (bs := bs) 2 (by omega)
  rw [show ((2 : Nat) : Int) = 2 from rfl] at hd2
  cases hd : rdTo bs 0 2 with
  | none =>
    obtain ⟨d1, d2, d3⟩ := di_none (hd2.trans hd)
    rw [d1, d2, d3] at C0
    have C1 := Lib.hid C0
    have B := Lib.hid (bad.out (dc_no_head hd))
    clear C0 hd hd2 d1 d2 d3 bad h hb
    go_enter Try.func51, Try.ntmps51
    go_wp2_with (go_at_call 108; (with_reducible refine C1.out.mono ?_); rintro e w1 ⟨a1, c1, rfl, o1, e1⟩)
    go_ret2
    exact B.out _ e1
  | some r =>
    obtain ⟨l, e⟩ := r
    obtain ⟨f, n, rfl, hf0, hf1, hn0, hn1⟩ := rdTo_two' hb hd
    obtain ⟨d1, d2, d3⟩ := di_some (hd2.trans hd)
    rw [d1, d2, d3] at C0
    have C1 := Lib.hid C0
    have hel := (rdTo_le hb (Nat.zero_le _) hd).1
    have hpos : 0 < bs.length := by
      cases bs with
      | nil => simp [rdTo, rdU, rdF] at hd
      | cons _ _ => simp
    have good : Hid (∀ v, (encDense v = bs ∨ encSparse v = bs) → ∀ (W : World) (a1 : Option Addr) (c1 : Nat), Ext w W → OwnI W w.heap.size a1 c1 v → NewIK w (dcV bs) (dcOk bs) (.returned (.tuple #[.slice a1 v.length c1, .bool true])) W) := fun v hv W a1 c1 hW ho => by
      obtain ⟨d1, d2⟩ := dc_some (decCo_some (enc_valid hpos hv) hv)
      rw [d1, d2]
      exact ⟨_, _, rfl, ho, hW⟩
    have H := Lib.hid h
    have HB := Lib.hid hb
    have HD := Lib.hid hd
    clear C0 hd2 d1 d2 d3 h hb hpos
    by_cases hbig : 40 < n
    · have B := Lib.hid (bad.out (dc_big hd hbig))
      clear hd bad good
      go_enter Try.func51, Try.ntmps51
      go_wp2_with fail
      (with_reducible refine C1.out.mono ?_)
      rintro e w1 ⟨a1, c1, rfl, o1, e1⟩
      obtain ⟨gp, rfl, gp1, gp2, p0, p1⟩ := o1.head2
      go_wp2_with fail
      go_ret2
      exact B.out _ e1
    obtain ⟨n, rfl⟩ := Int.eq_ofNat_of_zero_le hn0
    clear hd
    obtain ⟨i, hi, hz0, hz1, hz2⟩ := info_parts infoInt
    have hn40 : n ≤ 40 := by omega
    go_enter Try.func51, Try.ntmps51
    go_wp2_with fail
    (with_reducible refine C1.out.mono ?_)
    rintro e w1 ⟨a1, c1, rfl, o1, e1⟩
    obtain ⟨gp, rfl, gp1, gp2, p0, p1⟩ := o1.head2
    go_wp2_with (at_make; refine wpList_make_full _ rfl _ _ 32 rfl w1.heap.size 3 i (.int .i64 0) 1 Try.underlying32 hi hz0 hz1 _ _ _ _ n rfl rfl rfl rfl ?b1 ?b2 (Nat.le_refl _) ?_)
    case b1 => rw [hz2]; omega
    case b2 => unfold maxLen; omega
    intro w2 hown hgrow
    have q0 : OI w2 w1.heap.size w2.heap.size (some ⟨w1.heap.size, 0, none⟩) n (List.replicate n 0) := by
      refine OI.of ?_
      unfold OwnI
      simpa [Value.cells, toList_madeCells_one] using hown
    have e2 := (Ext.refl w1).grown hgrow (by simp)
    have e02 := e1.trans e2
    replace p0 := e2.cell p0
    replace p1 := e2.cell p1
    have Q0 := Lib.hid q0
    have z1 := e1.size_le
    have z2 := e2.size_le
    clear hown hgrow q0 o1
    by_cases hf : f = 0
    · subst hf
      have hll := diL_len bs (e : Int) (n : Int) HB.out
      have C2 := Lib.hid (implDecodeInts_ok a c bs (e : Int) (n : Int) w2 (H.out.ext e02) HB.out hl)
      generalize hL : diL bs (e : Int) (n : Int) = L at *
      have HL := Lib.hid hL
      clear hL
      go_wp2_with fail
      (with_reducible refine C2.out.mono ?_)
      rintro e w3 ⟨a3, c3, rfl, o3', e3⟩
      have e03 := e02.trans e3
      have o3 := o3'.more e02.size_le
      clear o3'
      cases hq1 : decide (encDense L = bs)
      rotate_left
      · have G := Lib.hid (good.out L (.inl (of_decide_eq_true hq1)))
        clear bad good
        go_wp2_with fail
        (with_reducible refine (implEncodeDense_ok _ _ L _ o3.vals (by omega)).mono ?_)
        rintro e w5 ⟨a5, c5, rfl, o5, e5⟩
        have e05 := e03.trans e5
        have C5 := Lib.hid (implEqualBytes_ok a5 a c5 c (encDense L) bs w5 o5.vals (H.out.ext e05) (Nat.le_trans (encDense_len _) (by omega)))
        rw [hq1] at C5
        go_wp2_with fail
        (with_reducible refine C5.out.mono ?_)
        rintro e w6 ⟨rfl, e6⟩
        have e06 := e05.trans e6.ext
        go_wp2_with fail
        go_ret2
        exact G.out _ _ _ e06 ((o3.ext e5).ext e6.ext)
      cases hq2 : decide (encSparse L = bs)
      rotate_left
      · have G := Lib.hid (good.out L (.inr (of_decide_eq_true hq2)))
        clear bad good
        go_wp2_with fail
        (with_reducible refine (implEncodeDense_ok _ _ L _ o3.vals (by omega)).mono ?_)
        rintro e w5 ⟨a5, c5, rfl, o5, e5⟩
        have e05 := e03.trans e5
        have C5 := Lib.hid (implEqualBytes_ok a5 a c5 c (encDense L) bs w5 o5.vals (H.out.ext e05) (Nat.le_trans (encDense_len _) (by omega)))
        rw [hq1] at C5
        go_wp2_with fail
        (with_reducible refine C5.out.mono ?_)
        rintro e w6 ⟨rfl, e6⟩
        have e06 := e05.trans e6.ext
        go_wp2_with fail
        (with_reducible refine (implEncodeSparse_ok _ _ L _ ((o3.ext e5).ext e6.ext).vals (by omega)).mono ?_)
        rintro e w7 ⟨a7, c7, rfl, o7, e7⟩
        have e07 := e06.trans e7
        have C7 := Lib.hid (implEqualBytes_ok a7 a c7 c (encSparse L) bs w7 o7.vals (H.out.ext e07) (Nat.le_trans (encSparse_len _) (by omega)))
        rw [hq2] at C7
        go_wp2_with fail
        (with_reducible refine C7.out.mono ?_)
        rintro e w8 ⟨rfl, e8⟩
        have e08 := e07.trans e8.ext
        go_wp2_with fail
        go_ret2
        exact G.out _ _ _ e08 ((((o3.ext e5).ext e6.ext).ext e7).ext e8.ext)
      have B := Lib.hid (bad.out (dc_none_dense hel HD.out (by rw [HL.out]; exact of_decide_eq_false hq1)))
      clear bad good
      go_wp2_with fail
      (with_reducible refine (implEncodeDense_ok _ _ L _ o3.vals (by omega)).mono ?_)
      rintro e w5 ⟨a5, c5, rfl, o5, e5⟩
      have e05 := e03.trans e5
      have C5 := Lib.hid (implEqualBytes_ok a5 a c5 c (encDense L) bs w5 o5.vals (H.out.ext e05) (Nat.le_trans (encDense_len _) (by omega)))
      rw [hq1] at C5
      go_wp2_with fail
      (with_reducible refine C5.out.mono ?_)
      rintro e w6 ⟨rfl, e6⟩
      have e06 := e05.trans e6.ext
      go_wp2_with fail
      (with_reducible refine (implEncodeSparse_ok _ _ L _ ((o3.ext e5).ext e6.ext).vals (by omega)).mono ?_)
      rintro e w7 ⟨a7, c7, rfl, o7, e7⟩
      have e07 := e06.trans e7
      have C7 := Lib.hid (implEqualBytes_ok a7 a c7 c (encSparse L) bs w7 o7.vals (H.out.ext e07) (Nat.le_trans (encSparse_len _) (by omega)))
      rw [hq2] at C7
      go_wp2_with fail
      (with_reducible refine C7.out.mono ?_)
      rintro e w8 ⟨rfl, e8⟩
      have e08 := e07.trans e8.ext
      go_wp2_with fail
      go_ret2
      exact B.out _ e08
    · have hfb : (f == 0) = false := beq_eq_false_iff_ne.2 hf
      have HF := Lib.hid hf
      have hs := readSparse_ok w1.heap.size w2.heap.size a c bs e (some ⟨w1.heap.size, 0, none⟩) n n w2 (fun w' hs => H.out.ext (Span.ext e02 hs z1)) HB.out hl hel Q0.out hn40 (Nat.le_refl _)
      have C2 := Lib.hid hs
      clear hs hf
      go_wp2_with fail
      (with_reducible refine C2.out.mono ?_)
      rintro e w3 ⟨rfl, vs, hvl, ov, sv, uv⟩
      have e03 := Span.ext e02 sv z1
      have o3 : OwnI w3 w.heap.size (some ⟨w1.heap.size, 0, none⟩) vs.length vs := by rw [hvl]; exact ov.1.more z1
      have UV := Lib.hid uv
      have hll : vs.length ≤ 100 := by omega
      rw [← hvl]
      have HVL := Lib.hid hvl
      clear uv hvl ov sv
      cases hq1 : decide (encDense vs = bs)
      rotate_left
      · have G := Lib.hid (good.out vs (.inl (of_decide_eq_true hq1)))
        clear bad good
        go_wp2_with fail
        (with_reducible refine (implEncodeDense_ok _ _ vs _ o3.vals (by omega)).mono ?_)
        rintro e w5 ⟨a5, c5, rfl, o5, e5⟩
        have e05 := e03.trans e5
        have C5 := Lib.hid (implEqualBytes_ok a5 a c5 c (encDense vs) bs w5 o5.vals (H.out.ext e05) (Nat.le_trans (encDense_len _) (by omega)))
        rw [hq1] at C5
        go_wp2_with fail
        (with_reducible refine C5.out.mono ?_)
        rintro e w6 ⟨rfl, e6⟩
        have e06 := e05.trans e6.ext
        go_wp2_with fail
        go_ret2
        exact G.out _ _ _ e06 ((o3.ext e5).ext e6.ext)
      cases hq2 : decide (encSparse vs = bs)
      rotate_left
      · have G := Lib.hid (good.out vs (.inr (of_decide_eq_true hq2)))
        clear bad good
        go_wp2_with fail
        (with_reducible refine (implEncodeDense_ok _ _ vs _ o3.vals (by omega)).mono ?_)
        rintro e w5 ⟨a5, c5, rfl, o5, e5⟩
        have e05 := e03.trans e5
        have C5 := Lib.hid (implEqualBytes_ok a5 a c5 c (encDense vs) bs w5 o5.vals (H.out.ext e05) (Nat.le_trans (encDense_len _) (by omega)))
        rw [hq1] at C5
        go_wp2_with fail
        (with_reducible refine C5.out.mono ?_)
        rintro e w6 ⟨rfl, e6⟩
        have e06 := e05.trans e6.ext
        go_wp2_with fail
        (with_reducible refine (implEncodeSparse_ok _ _ vs _ ((o3.ext e5).ext e6.ext).vals (by omega)).mono ?_)
        rintro e w7 ⟨a7, c7, rfl, o7, e7⟩
        have e07 := e06.trans e7
        have C7 := Lib.hid (implEqualBytes_ok a7 a c7 c (encSparse vs) bs w7 o7.vals (H.out.ext e07) (Nat.le_trans (encSparse_len _) (by omega)))
        rw [hq2] at C7
        go_wp2_with fail
        (with_reducible refine C7.out.mono ?_)
        rintro e w8 ⟨rfl, e8⟩
        have e08 := e07.trans e8.ext
        go_wp2_with fail
        go_ret2
        exact G.out _ _ _ e08 ((((o3.ext e5).ext e6.ext).ext e7).ext e8.ext)
      have B := Lib.hid (bad.out (dc_none_sparse HF.out HD.out UV.out (of_decide_eq_false hq2)))
      clear bad good
      go_wp2_with fail
      (with_reducible refine (implEncodeDense_ok _ _ vs _ o3.vals (by omega)).mono ?_)
      rintro e w5 ⟨a5, c5, rfl, o5, e5⟩
      have e05 := e03.trans e5
      have C5 := Lib.hid (implEqualBytes_ok a5 a c5 c (encDense vs) bs w5 o5.vals (H.out.ext e05) (Nat.le_trans (encDense_len _) (by omega)))
      rw [hq1] at C5
      go_wp2_with fail
      (with_reducible refine C5.out.mono ?_)
      rintro e w6 ⟨rfl, e6⟩
      have e06 := e05.trans e6.ext
      go_wp2_with fail
      (with_reducible refine (implEncodeSparse_ok _ _ vs _ ((o3.ext e5).ext e6.ext).vals (by omega)).mono ?_)
      rintro e w7 ⟨a7, c7, rfl, o7, e7⟩
      have e07 := e06.trans e7
      have C7 := Lib.hid (implEqualBytes_ok a7 a c7 c (encSparse vs) bs w7 o7.vals (H.out.ext e07) (Nat.le_trans (encSparse_len _) (by omega)))
      rw [hq2] at C7
      go_wp2_with fail
      (with_reducible refine C7.out.mono ?_)
      rintro e w8 ⟨rfl, e8⟩
      have e08 := e07.trans e8.ext
      go_wp2_with fail
      go_ret2
      exact B.out _ e08

set_option maxHeartbeats 4000000 in
set_option maxRecDepth 100000 in
theorem lawDecodeCoefficients (a0 : Option Addr) (c0 : Nat) (xs0 : List Int) (w : World) (r0_0 : Vals w a0 (Y xs0)) (m0_0 : xs0.length ≤ maxLen) (m0_1 : ∀ x ∈ xs0, 0 ≤ x ∧ x ≤ 255) :
    Calls Try.prog 8 #[.slice a0 xs0.length c0] w (Gives w (.bool true)) := by
  replace m0_1 := Lib.hid m0_1
  by_cases hl0 : xs0.length ≤ 1048576
  rotate_left
  · have d0 : (1048576 : Int) < (xs0.length : Int) := by omega
    unfold maxLen at m0_0
    go_enter Try.func8, Try.ntmps8
    go_wp2_with fail
    go_ret
    exact ⟨rfl, Ext.refl w⟩
  have d0 : decide ((1048576 : Int) < (xs0.length : Int)) = false := by simp; omega
  have hres : (dcV xs0).length ≤ 1048576 := dc_len xs0
  go_enter Try.func8, Try.ntmps8
  go_wp2_with fail
  refine (toByteS_ok _ _ _ _ (r0_0.ext (Ext.refl w)) hl0).mono ?_
  rintro e w1 ⟨t1a, t1c, rfl, t1o, e1⟩
  have E := (Ext.refl w).trans e1
  have z0 := e1.size_le
  replace t1o := OB.of t1o
  go_wp2_with fail
  refine (specDecodeCoefficients_ok _ _ _ _ (t1o.vals) m0_1.out hl0).mono ?_
  rintro e w2 ⟨u0a, u0c, rfl, u0o, e2⟩
  have z2 := e2.size_le
  replace t1o := t1o.ext e2
  replace E := E.trans e2
  clear e2
  replace u0o := OI.of u0o
  go_wp2_with fail
  refine (toByteS_ok _ _ _ _ (r0_0.ext (E)) hl0).mono ?_
  rintro e w3 ⟨t3a, t3c, rfl, t3o, e3⟩
  have z3 := e3.size_le
  replace u0o := u0o.ext e3
  replace E := E.trans e3
  clear e3
  replace t3o := OB.of t3o
  go_wp2_with fail
  refine (implDecodeCoefficients_ok _ _ _ _ (t3o.vals) m0_1.out hl0).mono ?_
  rintro e w4 ⟨u1a, u1c, rfl, u1o, e4⟩
  have z4 := e4.size_le
  replace u0o := u0o.ext e4
  replace t3o := t3o.ext e4
  replace E := E.trans e4
  clear e4
  replace u1o := OI.of u1o
  have qflag : ((dcOk xs0) != (dcOk xs0)) = false := by simp
  go_wp2_with fail
  refine (eqIntS_ok _ _ _ _ _ _ _ (u1o.vals) (u0o.vals) (by omega)).mono ?_
  rintro e w5 ⟨rfl, e5⟩
  replace e5 := Dr.ext e5
  have z5 := e5.size_le
  replace u0o := u0o.ext e5
  replace t3o := t3o.ext e5
  replace u1o := u1o.ext e5
  replace E := E.trans e5
  clear e5
  go_wp2_with fail
  refine (toByteS_ok _ _ _ _ (r0_0.ext (E)) hl0).mono ?_
  rintro e w6 ⟨t6a, t6c, rfl, t6o, e6⟩
  have z6 := e6.size_le
  replace u0o := u0o.ext e6
  replace t3o := t3o.ext e6
  replace u1o := u1o.ext e6
  replace E := E.trans e6
  clear e6
  replace t6o := OB.of t6o
  go_wp2_with fail
  refine (eqByteS_ok _ _ _ _ _ _ _ (t3o.vals) (t6o.vals) (by omega)).mono ?_
  rintro e w7 ⟨rfl, e7⟩
  replace e7 := Dr.ext e7
  have z7 := e7.size_le
  replace u0o := u0o.ext e7
  replace t3o := t3o.ext e7
  replace u1o := u1o.ext e7
  replace E := E.trans e7
  clear e7
  go_wp2_with fail
  refine (markByteS_ok _ _ _ _ _ _ _ t3o (by omega) (by omega) (by omega)).mono ?_
  rintro e w8 ⟨rfl, t3o', s8⟩
  have z8 := s8.size
  replace u0o := u0o.span s8 (by omega)
  replace u1o := u1o.span s8 (by omega)
  replace E := Span.ext E s8 (by omega)
  clear s8 t3o
  have t3o := t3o'
  clear t3o'
  go_wp2_with fail
  refine (eqIntS_ok _ _ _ _ _ _ _ (u1o.vals) (u0o.vals) (by omega)).mono ?_
  rintro e w9 ⟨rfl, e9⟩
  replace e9 := Dr.ext e9
  have z9 := e9.size_le
  replace u0o := u0o.ext e9
  replace u1o := u1o.ext e9
  replace E := E.trans e9
  clear e9
  go_wp2_with fail
  refine (markIntS_ok _ _ _ _ _ _ _ u1o (by omega) (by omega) (by omega)).mono ?_
  rintro e w10 ⟨rfl, u1o', s10⟩
  have z10 := s10.size
  replace u0o := u0o.span s10 (by omega)
  replace E := Span.ext E s10 (by omega)
  clear s10 u1o
  have u1o := u1o'
  clear u1o'
  go_wp2_with fail
  refine (heldIntS_ok _ _ _ _ _ (u1o.vals) (by omega) (by omega) (by omega)).mono ?_
  rintro e w11 ⟨rfl, rfl⟩
  go_wp2_with fail
  refine (toByteS_ok _ _ _ _ (r0_0.ext (E)) hl0).mono ?_
  rintro e w11 ⟨t11a, t11c, rfl, t11o, e11⟩
  have z11 := e11.size_le
  replace u0o := u0o.ext e11
  replace u1o := u1o.ext e11
  replace E := E.trans e11
  clear e11
  replace t11o := OB.of t11o
  go_wp2_with fail
  refine (implDecodeCoefficients_ok _ _ _ _ (t11o.vals) m0_1.out hl0).mono ?_
  rintro e w12 ⟨u2a, u2c, rfl, u2o, e12⟩
  have z12 := e12.size_le
  replace u0o := u0o.ext e12
  replace u1o := u1o.ext e12
  replace t11o := t11o.ext e12
  replace E := E.trans e12
  clear e12
  replace u2o := OI.of u2o
  go_wp2_with fail
  refine (eqIntS_ok _ _ _ _ _ _ _ (u2o.vals) (u0o.vals) (by omega)).mono ?_
  rintro e w13 ⟨rfl, e13⟩
  replace e13 := Dr.ext e13
  have z13 := e13.size_le
  replace u0o := u0o.ext e13
  replace u1o := u1o.ext e13
  replace u2o := u2o.ext e13
  replace E := E.trans e13
  clear e13
  go_wp2_with fail
  refine (heldIntS_ok _ _ _ _ _ (u1o.vals) (by omega) (by omega) (by omega)).mono ?_
  rintro e w14 ⟨rfl, rfl⟩
  go_wp2_with fail
  go_ret
  exact ⟨rfl, E⟩

end Go.Proofs.Ytkegknophppdgaa
