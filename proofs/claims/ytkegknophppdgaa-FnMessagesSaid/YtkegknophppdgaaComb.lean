/- Contracts of AddScaled, Combine (program and reference). -/
import Derived.Test.YtkegknophppdgaaGen
import Derived.Deep.RegionHeld3
namespace Go.Proofs.Ytkegknophppdgaa
open Go.RowKit
set_option linter.unusedVariables false
set_option maxRecDepth 20000

/-- Reading an owned slice of integers. -/
theorem OI.cellAt {w : World} {B B2 g c : Nat} {xs : List Int} (h : OI w B B2 (some ⟨g, 0, none⟩) c xs) {i : Nat} {x : Int} (hx : xs[i]? = some x) : w.cell? ⟨g, i, none⟩ = some (.int .i64 x) := by
  have hi := (List.getElem?_eq_some_iff.1 hx).1
  rw [World.ownsRow.cellAt h.1 i (by omega)]
  simp [hx]

set_option maxHeartbeats 1000000 in
theorem addScaled_ok (B B2 : Nat) (a b : Option Addr) (c d : Nat) (xs ys : List Int) (k : Int) (w : World) (h : OI w B B2 a c xs) (h' : ∀ w', Span B B2 w w' → Vals w' b (I ys)) (hl : xs.length = ys.length) (hm : ys.length ≤ 40)
    (hx : AllEl xs) (hy : AllEl ys) (hk : inR k 0 1018 = true) :
    Calls Try.prog 170 #[.slice a xs.length c, .slice b ys.length d, .int .i64 k] w fun e w' => e = .returned (.slice a xs.length c) ∧ OI w' B B2 a c (addS xs ys k) ∧ Span B B2 w w' := by
  obtain ⟨k1, k2⟩ := inR_true.1 hk
  have HX := Lib.hid hx
  have HY := Lib.hid hy
  have HL := Lib.hid hl
  have HV := Lib.hid h'
  have hxm : xs.length ≤ 40 := by omega
  clear hx hy hl h'
  go_enter Try.func170, Try.ntmps170
  go_wp2
  go_loopw [11] (fun i wr => ∃ j : Nat, j ≤ ys.length ∧ i = .int .i64 j ∧ OI wr B B2 a c ((addS xs ys k).take j ++ xs.drop j) ∧ Span B B2 w wr) (fun i _ => ys.length - (intOf i).toNat)
  case atStart => exact ⟨0, Nat.zero_le _, rfl, by simpa using h, Span.refl _ _ _⟩
  case round =>
    clear h
    obtain ⟨j, hj, rfl, ho, hs⟩ := hrel
    by_cases hlt : j < ys.length
    · obtain ⟨b1, o1, y, rfl, hb, hyj, hc⟩ := (HV.out _ hs).atI hlt
      have hjx : j < xs.length := by have := HL.out; omega
      obtain ⟨x, hxj⟩ : ∃ x, xs[j]? = some x := ⟨_, List.getElem?_eq_getElem hjx⟩
      have hlen : ((addS xs ys k).take j ++ xs.drop j).length = xs.length := by rw [List.length_append, List.length_take, List.length_drop, addS_len HL.out]; omega
      obtain ⟨g, rfl, g1, g2, g3⟩ := ho.form (by omega)
      have hcx := ho.cellAt (add_get HL.out hxj)
      obtain ⟨s1, s2, s3, u, s4⟩ := ho.store j (fma x y k) (by omega)
      rw [add_set HL.out hxj hyj.out] at s1
      have s5 := hs.trans s2
      obtain ⟨x1, x2⟩ := HX.out.get hxj
      obtain ⟨y1, y2⟩ := HY.out.get hyj.out
      obtain ⟨m1, m2⟩ := mul_el k1 k2 y1 y2
      have hfm : Hid ((x + k * y) % 1019 = fma x y k) := Lib.hid rfl
      have i2 : (j : Int) < (xs.length : Int) := by omega
      have HXJ := Lib.hid hxj
      rw [← hfm.out] at s1 s5
      clear ho hs s2 hlen hxj s4 hfm
      go_wp2
      go_roundw
      case rel => exact ⟨j + 1, by omega, by go_num, s1, s5⟩
      case measure => simp [intOf]; omega
    · obtain rfl : j = ys.length := by omega
      rw [show xs.drop ys.length = [] by rw [← HL.out, List.drop_length], List.append_nil, List.take_of_length_le (by rw [addS_length]; omega)] at ho
      go_wp2
      go_ret
      exact ⟨rfl, ho, hs⟩

set_option maxHeartbeats 1000000 in
theorem combine_ok (a b : Option Addr) (c d : Nat) (xss : List (List Int)) (cs : List Int) (w : World) (h : MatR w a xss) (h' : Vals w b (I cs)) (hn : 0 < xss.length) (hl : xss.length = cs.length) (hv : VR (cols xss) xss) (hc : AllEl cs) (hm : xss.length ≤ 1048576) :
    Calls Try.prog 149 #[.slice a xss.length c, .slice b cs.length d] w (NewI w (cmbTo (cols xss) xss cs xss.length)) := by
  obtain ⟨b0, o0, _, _, _, ra0, rc0, rfl, hb0, hx0, _, _, hc0⟩ := h.at0 hn
  have hcw : cols xss ≤ 40 := by
    obtain ⟨xs, hxs⟩ : ∃ xs, xss[0]? = some xs := ⟨_, List.getElem?_eq_getElem hn⟩
    have := hv.ok hxs
    omega
  have HL := Lib.hid hl
  have HV := Lib.hid hv
  have HC := Lib.hid hc
  have hn' : (0 : Int) < (xss.length : Int) := by omega
  clear hl hv hc
  obtain ⟨i, hi, hz0, hz1, hz2⟩ := info_parts infoInt
  go_enter Try.func149, Try.ntmps149
  go_wp2_with (at_make; refine wpList_make_full _ rfl _ _ 32 rfl w.heap.size 3 i (.int .i64 0) 1 Try.underlying32 hi hz0 hz1 _ _ _ _ (cols xss) rfl rfl rfl rfl ?b1 ?b2 (Nat.le_refl _) ?_)
  case b1 => rw [hz2]; omega
  case b2 => unfold maxLen; omega
  intro w1 hown hgrow
  have q0 : OI w1 w.heap.size w1.heap.size (some ⟨w.heap.size, 0, none⟩) (cols xss) (cmbTo (cols xss) xss cs 0) := by
    refine OI.of ?_
    rw [cmbTo_zero]
    unfold OwnI
    simpa [Value.cells, toList_madeCells_one] using hown
  have e0 := (Ext.refl w).grown hgrow (by simp)
  clear hown hgrow hc0
  go_wp2_with fail
  go_loopw [15] (fun i wr => ∃ j : Nat, j ≤ xss.length ∧ i = .int .i64 j ∧ OI wr w.heap.size w1.heap.size (some ⟨w.heap.size, 0, none⟩) (cols xss) (cmbTo (cols xss) xss cs j) ∧ Ext w wr) (fun i _ => xss.length - (intOf i).toNat)
  case atStart => exact ⟨0, Nat.zero_le _, rfl, q0, e0⟩
  case round =>
    clear q0 e0
    obtain ⟨j, hj, rfl, ho, he⟩ := hrel
    by_cases hlt : j < xss.length
    · obtain ⟨b1, o1, ra, rc, xs, hab, _, hx, hcell, hrow⟩ := h.at_ hlt
      obtain ⟨rfl, rfl⟩ : b0 = b1 ∧ o0 = o1 := by simpa using hab
      obtain ⟨b2, o2, k, rfl, hb2, hk, hck⟩ := (h'.ext he).atI (k := j) (by have := HL.out; omega)
      replace hcell := he.cell hcell
      have i3 : (j : Int) < (cs.length : Int) := by have := HL.out; omega
      obtain ⟨p1, p2, p3⟩ := HV.out.ok hx.out
      have hcl := cmbTo_len cs HV.out HL.out j
      have CC : Hid (Calls Try.prog 170 #[.slice (some ⟨w.heap.size, 0, none⟩) (cols xss) (cols xss), .slice ra xs.length rc, .int .i64 k] wr fun e w' => e = .returned (.slice (some ⟨w.heap.size, 0, none⟩) (cols xss) (cols xss)) ∧ OI w' w.heap.size w1.heap.size (some ⟨w.heap.size, 0, none⟩) (cols xss) (cmbTo (cols xss) xss cs (j + 1)) ∧ Span w.heap.size w1.heap.size wr w') := by
        have := addScaled_ok w.heap.size w1.heap.size (some ⟨w.heap.size, 0, none⟩) ra (cols xss) rc (cmbTo (cols xss) xss cs j) xs k wr ho (fun w' hs => hrow.ext (Span.ext he hs (Nat.le_refl _))) (by omega) (by omega) (cmbTo_AllEl _ _ _ _) p1 (HC.out k (List.mem_of_getElem? hk.out))
        rw [hcl] at this
        rw [cmbTo_succ hx.out hk.out]
        exact this
      clear hcl ho p1 p2 p3
      go_wp2_with fail
      refine CC.out.mono ?_
      rintro e w2 ⟨rfl, o2, s2⟩
      have e2 := Span.ext he s2 (Nat.le_refl _)
      clear s2 CC he
      go_wp2_with fail
      go_roundw
      case rel => exact ⟨j + 1, by omega, by go_num, o2, e2⟩
      case measure => simp [intOf]; omega
    · obtain rfl : j = xss.length := by omega
      have hcl := cmbTo_len cs HV.out HL.out xss.length
      go_wp2_with fail
      go_ret
      exact ⟨_, _, by rw [hcl]; rfl, ho.1, he⟩

set_option maxHeartbeats 1000000 in
theorem implCombine_ok (a b : Option Addr) (c d : Nat) (xss : List (List Int)) (cs : List Int) (w : World) (h : MatR w a xss) (h' : Vals w b (I cs)) (hm : xss.length ≤ 1048576) (hr : ∀ xs ∈ xss, xs.length ≤ 1099511627776) (hm' : cs.length ≤ 1048576) :
    Calls Try.prog 102 #[.slice a xss.length c, .slice b cs.length d] w (NewI w (comb xss cs)) := by
  have HR := Lib.hid hr
  clear hr
  have no : Hid (comb xss cs = [] → NewI w (comb xss cs) (.returned (.slice none 0 0)) w) := fun h => by rw [h]; exact ⟨none, 0, rfl, OwnI.nil _ _, Ext.refl _⟩
  by_cases h1 : xss.length = 0
  · have h1' : ((xss.length : Int) == 0) = true := by simp [h1]
    have HN : Hid (comb xss cs = []) := by unfold comb; rw [decide_eq_true h1]; rfl
    clear h1
    go_enter Try.func102, Try.ntmps102
    go_wp2_with fail
    go_ret
    exact no.out HN.out
  have h1' : ((xss.length : Int) == 0) = false := not_eq_of (by omega)
  by_cases h2 : xss.length = cs.length
  rotate_left
  · have h2' : ((xss.length : Int) != (cs.length : Int)) = true := by simp; omega
    have HN : Hid (comb xss cs = []) := by unfold comb; rw [decide_eq_true h2]; simp [Hid]
    go_enter Try.func102, Try.ntmps102
    go_wp2_with fail
    go_ret
    exact no.out HN.out
  have h2' : ((xss.length : Int) != (cs.length : Int)) = false := by simp [h2]
  have H2 := Lib.hid h2
  clear h2
  cases h3 : validV cs
  · have HN : Hid (comb xss cs = []) := by unfold comb; rw [h3]; simp [Hid]
    go_enter Try.func102, Try.ntmps102
    go_wp2_with (go_at_call 120; refine (implIsValidVector_ok _ _ _ _ h' (by omega)).mono ?_; rintro e w' ⟨rfl, rfl⟩)
    go_ret
    exact no.out HN.out
  obtain ⟨hc1, hc2⟩ := validV_true.1 h3
  have HC := Lib.hid hc1
  clear hc1
  go_enter Try.func102, Try.ntmps102
  go_wp2_with (go_at_call 120; refine (implIsValidVector_ok _ _ _ _ h' (by omega)).mono ?_; rintro e w' ⟨rfl, rfl⟩)
  go_loop [24] (fun i => ∃ k : Nat, k ≤ xss.length ∧ i = .int .i64 k ∧ Hid (VR (cols xss) (xss.take k))) (fun i => xss.length - (intOf i).toNat)
  case atStart => exact ⟨0, Nat.zero_le _, rfl, fun _ h => by simp at h⟩
  case round =>
    obtain ⟨k, hk, rfl, hvr⟩ := hrel
    by_cases hlt : k < xss.length
    · obtain ⟨b0, o0, ra, rc, xs, ra0, rc0, rfl, hb, hx, hc, hv, hc0⟩ := h.at0 hlt
      have hxm := HR.out xs (List.mem_of_getElem? hx.out)
      have i2 : (k : Int) < (xss.length : Int) := by omega
      have i4 : (0 : Int) < (xss.length : Int) := by omega
      have i5 : 0 < xss.length := by omega
      cases hq : validV xs
      · have HN : Hid (comb xss cs = []) := by unfold comb; rw [vrows_no hx.out (.inl hq)]; simp [Hid]
        go_wp2_with (go_at_call 120; refine (implIsValidVector_ok _ _ _ _ hv hxm).mono ?_; rintro e w' ⟨rfl, rfl⟩)
        go_ret
        exact no.out HN.out
      · have HQ := Lib.hid hq
        by_cases hn : xs.length = cols xss
        · have hnn : ((xs.length : Int) != (cols xss : Int)) = false := by simp [hn]
          have HN := Lib.hid hn
          clear hn
          go_wp2_with (go_at_call 120; refine (implIsValidVector_ok _ _ _ _ hv hxm).mono ?_; rintro e w' ⟨rfl, rfl⟩)
          go_round
          case rel => exact ⟨k + 1, by omega, by go_num, VR.snoc hvr.out hx.out HQ.out HN.out⟩
          case measure => simp [intOf]; omega
        · have hnn : ((xs.length : Int) != (cols xss : Int)) = true := by simp; omega
          have HN : Hid (comb xss cs = []) := by unfold comb; rw [vrows_no hx.out (.inr hn)]; simp [Hid]
          clear hn
          go_wp2_with (go_at_call 120; refine (implIsValidVector_ok _ _ _ _ hv hxm).mono ?_; rintro e w' ⟨rfl, rfl⟩)
          go_ret
          exact no.out HN.out
    · have := hvr.out
      rw [List.take_of_length_le (by omega)] at this
      have HV := Lib.hid this
      have HN : Hid (comb xss cs = cmbTo (cols xss) xss cs xss.length) := by unfold comb; rw [h3, vrows_true.2 this, decide_eq_false h1]; simp [Hid, H2.out]
      clear this hvr
      go_wp2_with fail
      refine (combine_ok _ _ _ _ _ _ _ h h' (by omega) H2.out HV.out HC.out hm).mono ?_
      rintro e w1 ⟨a1, c1, rfl, o1, e1⟩
      go_wp2_with fail
      go_ret
      rw [HN.out]
      exact ⟨a1, c1, rfl, o1, e1⟩

theorem specPair_ok (a b : Option Addr) (c d : Nat) (xs ys : List Int) (w : World) (h : Vals w a (I xs)) (h' : Vals w b (I ys)) (hx : validV xs = true) (hy : validV ys = true) (hl : xs.length = ys.length) (hm : ys.length ≤ 40) :
    Calls Try.prog 169 #[.slice a xs.length c, .slice b ys.length d] w fun e w' => e = .returned (.bool true) ∧ w = w' := by
  have hlt : ((xs.length : Int) == (ys.length : Int)) = true := by simp [hl]
  have HL := Lib.hid hl
  have hm' : xs.length ≤ 40 := by omega
  have q1 := specIsValidVector_ok a c xs w h (by omega)
  have q2 := specIsValidVector_ok b d ys w h' (by omega)
  rw [hx] at q1
  rw [hy] at q2
  have Q1 := Lib.hid q1
  have Q2 := Lib.hid q2
  clear q1 q2 hx hy hl
  go_enter Try.func169, Try.ntmps169
  go_wp2_with (go_at_call 66; (first | (with_reducible refine Q1.out.mono ?_) | (with_reducible refine Q2.out.mono ?_)); rintro e w' ⟨rfl, rfl⟩)
  go_ret
  exact ⟨rfl, rfl⟩

set_option maxHeartbeats 2000000 in
set_option maxRecDepth 100000 in
theorem specAddScaled_ok (a b : Option Addr) (c d : Nat) (xs ys : List Int) (k : Int) (w : World) (h : Vals w a (I xs)) (h' : Vals w b (I ys)) (hx : validV xs = true) (hy : validV ys = true) (hl : xs.length = ys.length) (hk : inR k 0 1018 = true) :
    Calls Try.prog 148 #[.slice a xs.length c, .slice b ys.length d, .int .i64 k] w (NewI w (addS xs ys k)) := by
  obtain ⟨k1, k2⟩ := inR_true.1 hk
  have HX := Lib.hid (validV_true.1 hx).1
  have HY := Lib.hid (validV_true.1 hy).1
  have hym := (validV_true.1 hy).2
  have hxm := (validV_true.1 hx).2
  have HL := Lib.hid hl
  have o0 := OwnI.new w w.heap.size [] (Nat.le_refl _) (by simp)
  have e0 := (Ext.refl w).alloc (.cells (I []).toArray 3)
  have q1 := specPair_ok a b c d xs ys _ (h.ext e0) (h'.ext e0) hx hy hl hym
  have Q1 := Lib.hid q1
  clear q1 hx hy hl
  go_enter Try.func148, Try.ntmps148
  go_wp2_with (first | (go_at_call 169; refine Q1.out.mono ?_; rintro e w' ⟨rfl, rfl⟩) | (go_at_call 128; refine (specIsElement_ok _ _).mono ?_; rintro e w' ⟨rfl, rfl⟩))
  go_loopw [7, 8] (fun v i wr => ∃ (j : Nat) (a1 : Option Addr) (c1 : Nat) (us : List Int), j ≤ xs.length ∧ i = .int .i64 j ∧ v = .slice a1 us.length c1 ∧ us = (addS xs ys k).take j ∧ OwnI wr w.heap.size a1 c1 us ∧ Ext w wr) (fun _ i _ => xs.length - (intOf i).toNat)
  case atStart => exact ⟨0, _, _, [], Nat.zero_le _, rfl, rfl, rfl, o0, e0⟩
  case round =>
    clear o0 e0 Q1
    obtain ⟨j, a1, c1, us, hj, rfl, rfl, hu, ho, he⟩ := hrel
    have hul : us.length ≤ 40 := by rw [hu, List.length_take, addS_length]; omega
    have HU := Lib.hid hu
    clear hu
    by_cases hlt : j < xs.length
    · obtain ⟨b1, o1, x, rfl, hb, hxj, hc⟩ := h.atI hlt
      have hlt' : j < ys.length := by have := HL.out; omega
      obtain ⟨b2, o2, y, rfl, hb', hyj, hc'⟩ := h'.atI hlt'
      have d1 := he.cell hc
      have d2 := he.cell hc'
      obtain ⟨x1, x2⟩ := HX.out.get hxj.out
      obtain ⟨y1, y2⟩ := HY.out.get hyj.out
      obtain ⟨m1, m2⟩ := mul_el k1 k2 y1 y2
      rw [Int.mul_comm] at m1 m2
      obtain ⟨z, hz⟩ : ∃ z, Hid (z = fma x y k) := ⟨_, rfl⟩
      have hfm1 : IntKind.i64.wrap (y * k) = y * k := by rw [IntKind.wrap_i64]; omega
      have hfm : IntKind.i64.wrap (x + y * k) = x + y * k := by rw [IntKind.wrap_i64]; omega
      have hfm2 : (x + y * k).tmod 1019 = z := by rw [hz.out, fma, Int.tmod_eq_emod_of_nonneg (by omega), Int.mul_comm]
      obtain ⟨vs, hvs⟩ : ∃ vs, Hid (vs = us ++ [z]) := ⟨_, rfl⟩
      have HT : Hid (vs = (addS xs ys k).take (j + 1)) := by rw [addS_take hxj.out hyj.out, ← HU.out, ← hz.out]; exact hvs.out
      have i1 : (0 : Int) ≤ (j : Int) := by omega
      have i2 : (j : Int) < (xs.length : Int) := by omega
      have i3 : (j : Int) < (ys.length : Int) := by omega
      have hbase : w.heap.size ≤ wr.heap.size := he.size_le
      clear m1 m2 x1 x2 y1 y2
      go_wp2_with fail
      go_region_held3 (fun w' => w'.cell? ⟨b1, o1 + j, none⟩ = some (.int .i64 x) ∧ w'.cell? ⟨b2, o2 + j, none⟩ = some (.int .i64 y))
        (first | go_keep | exact ⟨e4.cell hc, e4.cell hc'⟩)
        ((refine step_appI _ (by rfl) _ _ (by rfl) w.heap.size _ _ us (by rfl) (ho.ext (((Ext.refl wr).alloc _).drew)) _ _ [z] (by rfl) ((Vals.new wr [.int .i64 z] _).ext (Ext.refl _).drew) vs hvs.out (by simp; omega) (by simp; omega) ?_; intro a4 c4 w4 o4 g4 _; have e4 := (he.alloc (.cells (I [z]).toArray 3)).drew.grown g4 (fun k hk => (ho.block k hk).1)))
      clear ho he g4
      go_wp2_with fail
      go_roundw
      case rel => exact ⟨j + 1, a4, c4, vs, by omega, by go_num, rfl, HT.out, o4, e4⟩
      case measure => simp [intOf]; omega
    · have E : Hid (us = addS xs ys k) := by have := HU.out; rwa [List.take_of_length_le (by rw [addS_length]; omega)] at this
      go_wp2_with fail
      go_ret
      rw [← E.out]
      exact ⟨a1, c1, rfl, ho, he⟩

set_option maxHeartbeats 4000000 in
set_option maxRecDepth 100000 in
theorem specCombine_ok (a b : Option Addr) (c d : Nat) (xss : List (List Int)) (cs : List Int) (w : World) (h : MatR w a xss) (h' : Vals w b (I cs)) (hm : xss.length ≤ 1048576) (hr : ∀ xs ∈ xss, xs.length ≤ 1048576) (hm' : cs.length ≤ 1048576) :
    Calls Try.prog 100 #[.slice a xss.length c, .slice b cs.length d] w (NewI w (comb xss cs)) := by
  have HR := Lib.hid hr
  clear hr
  have no : Hid (comb xss cs = [] → ∀ wr, Ext w wr → NewI w (comb xss cs) (.returned (.slice (some ⟨wr.heap.size, 0, none⟩) 0 0)) (wr.alloc (.cells (I []).toArray 3))) := fun h wr he => by
    rw [h]
    exact ⟨_, _, rfl, (OwnI.new wr wr.heap.size [] (Nat.le_refl _) (by simp)).more he.size_le, he.alloc _⟩
  by_cases h1 : xss.length = 0
  · have h1' : ((xss.length : Int) == 0) = true := by simp [h1]
    have HN : Hid (comb xss cs = []) := by unfold comb; rw [decide_eq_true h1]; rfl
    clear h1
    go_enter Try.func100, Try.ntmps100
    go_wp2_with fail
    go_ret
    exact no.out HN.out _ (Ext.refl _)
  have h1' : ((xss.length : Int) == 0) = false := not_eq_of (by omega)
  by_cases h2 : xss.length = cs.length
  rotate_left
  · have h2' : ((xss.length : Int) != (cs.length : Int)) = true := by simp; omega
    have HN : Hid (comb xss cs = []) := by unfold comb; rw [decide_eq_true h2]; simp [Hid]
    go_enter Try.func100, Try.ntmps100
    go_wp2_with fail
    go_ret
    exact no.out HN.out _ (Ext.refl _)
  have h2' : ((xss.length : Int) != (cs.length : Int)) = false := by simp [h2]
  have H2 := Lib.hid h2
  clear h2
  cases h3 : validV cs
  · have HN : Hid (comb xss cs = []) := by unfold comb; rw [h3]; simp [Hid]
    go_enter Try.func100, Try.ntmps100
    go_wp2_with (go_at_call 66; refine (specIsValidVector_ok _ _ _ _ h' (by omega)).mono ?_; rintro e w' ⟨rfl, rfl⟩)
    go_ret
    exact no.out HN.out _ (Ext.refl _)
  obtain ⟨hc1, hc2⟩ := validV_true.1 h3
  have HC := Lib.hid hc1
  clear hc1
  have hn : 0 < xss.length := by omega
  have hn' : (0 : Int) < (xss.length : Int) := by omega
  obtain ⟨b0, o0, _, _, _, ra0, rc0, rfl, hb0, hx0, _, _, hc0⟩ := h.at0 hn
  have hcw : cols xss ≤ 1048576 := by
    obtain ⟨x0, hx0⟩ : ∃ x0, xss[0]? = some x0 := ⟨_, List.getElem?_eq_getElem hn⟩
    have := HR.out x0 (List.mem_of_getElem? hx0)
    have : cols xss = x0.length := by
      cases xss with
      | nil => simp at hx0
      | cons x r => simp at hx0; subst hx0; rfl
    omega
  obtain ⟨i, hi, hz0, hz1, hz2⟩ := info_parts infoInt
  go_enter Try.func100, Try.ntmps100
  go_wp2_with (first | (go_at_call 66; refine (specIsValidVector_ok _ _ _ _ h' (by omega)).mono ?_; rintro e w' ⟨rfl, rfl⟩) | (at_make; refine wpList_make_full _ rfl _ _ 32 rfl w.heap.size 3 i (.int .i64 0) 1 Try.underlying32 hi hz0 hz1 _ _ _ _ (cols xss) rfl rfl rfl rfl ?b1 ?b2 (Nat.le_refl _) ?_))
  case b1 => rw [hz2]; omega
  case b2 => unfold maxLen; omega
  intro w1 hown hgrow
  have q0 : OwnI w1 w.heap.size (some ⟨w.heap.size, 0, none⟩) (cols xss) (cmbTo (cols xss) xss cs 0) := by
    rw [cmbTo_zero]
    unfold OwnI
    simpa [Value.cells, toList_madeCells_one] using hown
  have e0 := (Ext.refl w).grown hgrow (by simp)
  clear hown hgrow
  go_wp2_with fail
  go_loopw [5, 6] (fun v i wr => ∃ (j : Nat) (a1 : Option Addr) (c1 : Nat) (us : List Int), j ≤ xss.length ∧ i = .int .i64 j ∧ v = .slice a1 us.length c1 ∧ us = cmbTo (cols xss) xss cs j ∧ Hid (VR (cols xss) (xss.take j)) ∧ us.length = cols xss ∧ OwnI wr w.heap.size a1 c1 us ∧ Ext w wr) (fun _ i _ => xss.length - (intOf i).toNat)
  case atStart => exact ⟨0, some ⟨w.heap.size, 0, none⟩, cols xss, _, Nat.zero_le _, rfl, by rw [cmbTo_zero, List.length_replicate], rfl, fun _ h => by simp at h, by rw [cmbTo_zero, List.length_replicate], q0, e0⟩
  case round =>
    clear q0 e0
    obtain ⟨j, a1, c1, us, hj, rfl, rfl, hu, hvr, hul, ho, he⟩ := hrel
    have HU := Lib.hid hu
    have HUL := Lib.hid hul
    clear hu hul
    by_cases hlt : j < xss.length
    · obtain ⟨b1, o1, ra, rc, xs, ra1, rc1, hab, _, hx, hcell, hrow, _⟩ := h.at0 hlt
      obtain ⟨rfl, rfl⟩ : b0 = b1 ∧ o0 = o1 := by simpa using hab
      obtain ⟨b2, o2, k, rfl, hb2, hk, hck⟩ := h'.atI (k := j) (by have := H2.out; omega)
      have hxm := HR.out xs (List.mem_of_getElem? hx.out)
      have i1 : (0 : Int) ≤ (j : Int) := by omega
      have i2 : (j : Int) < (xss.length : Int) := by omega
      have i3 : (j : Int) < (cs.length : Int) := by have := H2.out; omega
      have d0 := he.cell hc0
      have d1 := he.cell hcell
      have d2 := he.cell hck
      have q := fun n : Nat => specIsValidVector_ok ra rc xs (wr.drewN n) (hrow.ext (he.drewN n)) (by omega)
      have Q := Lib.hid q
      clear q
      cases hq : validV xs
      · rw [hq] at Q
        have HN : Hid (comb xss cs = []) := by unfold comb; rw [vrows_no hx.out (.inl hq)]; simp [Hid]
        clear hq
        go_wp2_with fail
        go_quiet ((go_at_call 66; exact Calls.same_quiet (Q.out _)))
        go_wp2_with fail
        go_ret
        exact no.out HN.out _ (he.drewN _)
      · rw [hq] at Q
        have HQ := Lib.hid hq
        clear hq
        by_cases hn : xs.length = cols xss
        · have hnn : ((xs.length : Int) != (cols xss : Int)) = false := by simp [hn]
          have HN := Lib.hid hn
          clear hn
          obtain ⟨vs, hvs⟩ : ∃ vs, Hid (vs = addS us xs k) := ⟨_, rfl⟩
          have hvl : Hid (vs.length = cols xss) := by rw [hvs.out, addS_length, HUL.out, HN.out, Nat.min_self]; exact Lib.hid rfl
          have HV : Hid (vs = cmbTo (cols xss) xss cs (j + 1)) := by rw [hvs.out, cmbTo_succ hx.out hk.out, ← HU.out]; exact Lib.hid rfl
          have C1 : Hid (∀ W : World, Vals W a1 (I us) → Vals W ra (I xs) → Calls Try.prog 148 #[.slice a1 us.length c1, .slice ra xs.length rc, .int .i64 k] W (NewI W vs)) := fun W v1 v2 => by
            rw [hvs.out]
            have hxx := validV_true.1 HQ.out
            exact specAddScaled_ok a1 ra c1 rc us xs k W v1 v2 (validV_true.2 ⟨by rw [HU.out]; exact cmbTo_AllEl _ _ _ _, by rw [HUL.out, ← HN.out]; exact hxx.2⟩) HQ.out (by rw [HUL.out, HN.out]) (HC.out k (List.mem_of_getElem? hk.out))
          go_wp2_with fail
          go_quiet ((go_at_call 66; exact Calls.same_quiet (Q.out _)))
          have e2 : Ext wr (wr.drewN nq) := (Ext.refl wr).drewN nq
          have f1 := e2.cell d1
          have f2 := e2.cell d2
          have E2 := he.drewN nq
          have O2 := ho.ext e2
          clear d0 d1 d2 e2 ho he Q
          generalize wr.drewN nq = w2 at *
          go_wp2_with fail
          go_region_held3 (fun w' => w'.cell? ⟨b0, o0 + j, none⟩ = some (.slice ra xs.length rc) ∧ w'.cell? ⟨b2, o2 + j, none⟩ = some (.int .i64 k))
            (first | go_keep | exact ⟨e4.cell f1, e4.cell f2⟩)
            ((go_at_call 148; (with_reducible refine (C1.out _ (O2.vals.ext (Ext.refl w2).drew) (hrow.ext E2.drew)).mono ?_); rintro e w4 ⟨a4, c4, rfl, o4, e4⟩))
          have E4 := E2.drew.trans e4
          have o5 := o4.more E2.drew.size_le
          clear o4 e4 O2 E2 C1
          go_wp2_with fail
          go_roundw
          case rel => exact ⟨j + 1, a4, c4, vs, by omega, by go_num, rfl, HV.out, VR.snoc hvr.out hx.out HQ.out HN.out, hvl.out, o5, E4⟩
          case measure => simp [intOf]; omega
        · have hnn : ((xs.length : Int) != (cols xss : Int)) = true := by simp; omega
          have HN : Hid (comb xss cs = []) := by unfold comb; rw [vrows_no hx.out (.inr hn)]; simp [Hid]
          clear hn
          go_wp2_with fail
          go_quiet ((go_at_call 66; exact Calls.same_quiet (Q.out _)))
          go_wp2_with fail
          go_ret
          exact no.out HN.out _ (he.drewN _)
    · have hv := hvr.out
      rw [List.take_of_length_le (by omega)] at hv
      obtain rfl : j = xss.length := by omega
      have HN : Hid (comb xss cs = us) := by unfold comb; rw [h3, vrows_true.2 hv, decide_eq_false h1, HU.out]; simp [Hid, H2.out]
      clear hv
      go_wp2_with fail
      go_ret
      rw [HN.out]
      exact ⟨a1, c1, rfl, ho, he⟩

end Go.Proofs.Ytkegknophppdgaa
