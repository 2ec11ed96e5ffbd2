/- FnSystems: the draw; the law. -/
import Derived.Test.YtninamlcffemoaaSlv
import Derived.Test.YtninamlcffemoaaDrm
import Derived.Test.YtninamlcffemoaaSame
import Derived.Test.YtninamlcffemoaaSys2
namespace Go.Proofs.Ytninamlcffemoaa
open Go.RowKit
set_option linter.unusedVariables false
set_option maxRecDepth 20000

/-- A drawn matrix and a drawn vector: read only from now on. -/
def DMV (w : World) (e : Ending) (w' : World) : Prop := ∃ a2 c2 xss b2 d2 v, e = .returned (.tuple #[.slice a2 xss.length c2, .slice b2 v.length d2]) ∧ (xss.length ≤ 60 ∧ (∀ xs ∈ xss, xs.length ≤ 81) ∧ v.length ≤ 1000) ∧ MatR w' a2 xss ∧ VC w' b2 d2 v ∧ Ext w w'

set_option maxHeartbeats 2000000 in
theorem drawSystem_ok (a : Option Addr) (c : Nat) (bs : List Int) (w : World) (h : Vals w a (Y bs)) (hb : ∀ x ∈ bs, 0 ≤ x ∧ x ≤ 255) (hl : bs.length ≤ 1048576) :
    Calls Try.prog 40 #[.slice a bs.length c] w (DMV w) := by
  have C1 := Lib.hid (l1New_ok a c bs w h hb hl)
  have CB := Lib.hid (fun W n g (hW : Cur W g a c bs) (hn : n ≤ 1000000000) => l1Below_ok g a c bs n W hW hn)
  have CA := Lib.hid (fun W (n m : Nat) g (hW : Cur W g a c bs) (hn : n ≤ 1000) (hm : m ≤ 40) => l6Any_ok g a c bs n m W hW hn hm)
  have CV := Lib.hid (fun W (n : Nat) g (hW : Cur W g a c bs) (hn : n ≤ 10000) => l5Any_ok g a c bs n W hW hn)
  have CW := Lib.hid (fun W (n : Nat) g (hW : Cur W g a c bs) (hn : n ≤ 100000) => l5Vector_ok g a c bs n W hW hn)
  have CO := Lib.hid (fun W g (hW : Cur W g a c bs) => l1Once_ok g a c bs 2 W hW (by omega))
  clear h hb
  go_enter Try.func40, Try.ntmps40
  go_wp2_with fail
  (with_reducible refine C1.out.mono ?_)
  rintro e w1 ⟨rfl, k1, e1⟩
  obtain ⟨g, hgg⟩ : ∃ g, w.heap.size = g := ⟨_, rfl⟩
  rw [hgg] at k1 ⊢
  have hg := k1.lt
  go_wp2_with fail
  (with_reducible refine (CB.out _ _ _ k1 (by omega)).mono ?_)
  rintro e w2 ⟨x, rfl, x0, x1, k2, s2⟩
  obtain ⟨n, rfl⟩ := Int.eq_ofNat_of_zero_le x0
  go_wp2_with fail
  (with_reducible refine (CB.out _ _ _ k2 (by omega)).mono ?_)
  rintro e w3 ⟨y, rfl, y0, y1, k3, s3⟩
  obtain ⟨m, rfl⟩ := Int.eq_ofNat_of_zero_le y0
  have z2 := s2.size
  have z3 := s3.size
  go_wp2_with fail
  (with_reducible refine (CA.out _ _ _ _ k3 (by omega) (by omega)).mono ?_)
  rintro e w4 ⟨a4, c4, xss, rfl, hx, o4, k4, s4⟩
  have HX := Lib.hid hx
  have hxl : xss.length ≤ 60 := by omega
  have t4 := (s2.trans s3).trans s4
  have z4 := s4.size
  have hg3 : g + 1 ≤ w3.heap.size := by omega
  clear hx k1 k2 k3 s2 s3 s4
  go_wp2_with fail
  (with_reducible refine (CV.out _ _ _ k4 (by omega)).mono ?_)
  rintro e w5 ⟨b5, d5, v, rfl, hv, o5, k5, s5⟩
  have HV := Lib.hid hv
  have hvl : v.length ≤ 200 := by omega
  have m5 := o4.span s5 (.inr hg3)
  have t5 := t4.trans s5
  clear hv o4 k4 s5 t4
  have hg4 : g + 1 ≤ w4.heap.size := by omega
  go_wp2_with fail
  (with_reducible refine (CO.out _ _ k5).mono ?_)
  rintro e w6 ⟨f, rfl, k6, s6⟩
  have m6 := m5.span s6 (.inr hg3)
  have v6 := ((OI.of o5).span s6 (.inr hg4)).1
  have t6 := t5.trans s6
  clear m5 o5 k5 s6 t5
  cases f
  · have E6 : Ext w w6 := Span.ext e1 t6 (by omega)
    go_wp2_with fail
    go_ret2
    exact ⟨a4, c4, xss, b5, d5, v, rfl, ⟨hxl, HX.out.2, by omega⟩, m6.reads, (OI.of v6).vc, E6⟩
  · go_wp2_with (go_at_call 26; (with_reducible refine (specColumnsOf_ok _ _ _ _ m6.reads).mono ?_); rintro e w' ⟨rfl, rfl⟩)
    have hcl : cols xss ≤ 81 := by
      cases hxs : xss with
      | nil => simp [cols]
      | cons r rs => exact HX.out.2 r (by rw [hxs]; simp)
    (with_reducible refine (CW.out _ _ _ k6 (by omega)).mono ?_)
    rintro e w7 ⟨b7, d7, u, rfl, hu, o7, k7, s7⟩
    have HU := Lib.hid hu
    have m7 := m6.span s7 (.inr hg3)
    have t7 := t6.trans s7
    have hul : u.length ≤ 81 := by omega
    have E7 : Ext w w7 := Span.ext e1 t7 (by omega)
    have CM := Lib.hid (specMMV_ok a4 b7 c4 d7 xss u w7 m7.reads o7.vals (by omega) (fun xs hx => Nat.le_trans (HX.out.2 xs hx) (by omega)) (by omega))
    obtain ⟨z, hz⟩ : ∃ z, Hid (z = mmv xss u) := ⟨_, rfl⟩
    have hzl : z.length ≤ 40 := by rw [hz.out]; exact mmv_len _ _
    rw [← hz.out] at CM
    clear hu m6 v6 k6 s7 t6 t7
    go_wp2_with fail
    (with_reducible refine CM.out.mono ?_)
    rintro e w8 ⟨b8, d8, rfl, o8, e8⟩
    have m8 := m7.ext e8
    have E8 := E7.trans e8
    clear CM m7 e8 E7 o7 k7
    go_wp2_with fail
    go_ret2
    exact ⟨a4, c4, xss, b8, d8, z, rfl, ⟨hxl, HX.out.2, by omega⟩, m8.reads, (OI.of o8).vc, E8⟩

theorem sameInts_selfF (a b : Option Addr) (c d : Nat) (xs : List Int) (w : World) (h : Vals w a (I xs)) (h' : Vals w b (I xs)) (hl : xs.length ≤ 1099511627776) :
    Calls Try.prog 43 #[.slice a xs.length c, .slice b xs.length d] w (Quiet w (.bool true)) := by
  have := sameInts_ok a b c d xs xs w h h' hl
  rw [show decide (xs = xs) = true from decide_eq_true rfl] at this
  exact this

set_option maxHeartbeats 8000000 in
set_option maxRecDepth 100000 in
theorem lawFnSystems (a : Option Addr) (c : Nat) (xs : List Int) (w : World) (r0 : Vals w a (Y xs)) (m0 : xs.length ≤ maxLen) (m1 : ∀ x ∈ xs, 0 ≤ x ∧ x ≤ 255) :
    Calls Try.prog 7 #[.slice a xs.length c] w (Gives w (.bool true)) := by
  by_cases hl : xs.length ≤ 1048576
  rotate_left
  · have C1 := Lib.hid (big_yes a c xs w hl m0)
    clear r0 m1 hl m0
    go_enter Try.func7, Try.ntmps7
    go_wp2_with (go_at_call 23; (with_reducible refine C1.out.mono ?_); rintro e w' ⟨rfl, rfl⟩)
    go_ret
    exact ⟨rfl, Ext.refl _⟩
  have C1 := Lib.hid (big_no a c xs w hl)
  have CD := Lib.hid (drawSystem_ok a c xs w r0 m1 hl)
  have R0 : Hid (∀ w', Ext w w' → Vals w' a (Y xs)) := fun w' he => r0.ext he
  have M1 := Lib.hid m1
  clear r0 m1 m0
  go_enter Try.func7, Try.ntmps7
  go_wp2_with (go_at_call 23; (with_reducible refine C1.out.mono ?_); rintro e w' ⟨rfl, rfl⟩)
  (with_reducible refine CD.out.mono ?_)
  rintro e w1 ⟨am, cm, xss, bb, db, b, rfl, ⟨hxl, hxb, hbl⟩, hM, hB, e1⟩
  have HXB : Hid (∀ xs ∈ xss, xs.length ≤ 1048576) := fun xs hx => Nat.le_trans (hxb xs hx) (by omega)
  have CS := Lib.hid (implSolveSystem_ok am cm xss bb db b w1 hM hB (by omega) HXB.out (by omega))
  have CT := Lib.hid (fun w' (he : Ext w1 w') => specSolveSystem_ok am cm xss bb db b w' (hM.ext he) (hB.ext he) (by omega) HXB.out (by omega))
  have SY : Hid (solveOk xss b = true → (mmv xss (solveL xss b) = b ∧ (solveL xss b).length = cols xss) ∧ sysOk xss b = true) := fun h => ⟨solveOk_yes h, solveOk_parts h⟩
  have SN : Hid (solveOk xss b = false → solveL xss b = []) := fun h => by
    cases hs : solve xss b with
    | none => exact (solve_none hs).1
    | some o => rw [(solve_some hs).2] at h; cases h
  obtain ⟨x, hxx⟩ : ∃ x, Hid (x = solveL xss b) := ⟨_, rfl⟩
  obtain ⟨q, hqq⟩ : ∃ q, Hid (q = solveOk xss b) := ⟨_, rfl⟩
  rw [← hxx.out, ← hqq.out] at CS CT SY SN
  have hxl2 : x.length ≤ 40 := by rw [hxx.out]; exact solveL_len _ _
  clear hxb CD C1 hxx hqq
  go_wp2_with fail
  (with_reducible refine CS.out.mono ?_)
  rintro e w2 ⟨a2, c2, rfl, o2, e2⟩
  have CT2 := Lib.hid (CT.out w2 e2)
  clear CS CT
  go_wp2_with fail
  (with_reducible refine CT2.out.mono ?_)
  rintro e w3 ⟨a3, c3, rfl, o3, e3⟩
  have E3 := (e1.trans e2).trans e3
  have M3 := hM.ext (e2.trans e3)
  have B3 := (hB.ext (e2.trans e3)).1
  have x3 := o2.vals.ext e3
  clear e1 e2 e3 hM hB o2 o3 CT2
  cases q
  · have hx0 := SN.out rfl
    subst hx0
    go_wp2_with fail
    go_ret
    exact ⟨rfl, E3⟩
  obtain ⟨⟨S1, S2⟩, S3⟩ := SY.out rfl
  obtain ⟨p1, p2, p3, p4, hc40, p6, p7⟩ := sysOk_parts S3
  have VM : Hid (validM xss = true) := p6
  have HS1 := Lib.hid S1
  have HS2 := Lib.hid S2
  clear S1 S2 S3 p1 p3 p4 p6 p7 SY SN
  by_cases hm0 : xss.length = 0
  · have hm1 : decide ((0 : Int) < (xss.length : Int)) = false := decide_eq_false (by omega)
    have hm2 : ((xss.length : Int) == 0) = true := by rw [hm0]; rfl
    have hm3 : decide (0 < xss.length) = false := decide_eq_false (by omega)
    obtain ⟨wz, hwz⟩ : ∃ wz, wz = w3 := ⟨_, rfl⟩
    subst hwz
    have EZ := E3
    have MZ := M3
    clear hm0 E3 M3 B3 x3
    obtain ⟨i, hi, hz0, hz1, hz2⟩ := info_parts infoInt
    obtain ⟨wq, hwq⟩ : ∃ wq, wq = wz := ⟨_, rfl⟩
    subst hwq
    have zq := EZ.size_le
    go_wp2_with (first
      | (go_at_call 26; (with_reducible refine (specColumnsOf_ok _ _ _ _ MZ).mono ?_); rintro e w' ⟨rfl, rfl⟩)
      | (at_make; refine wpList_make_full _ rfl _ _ 36 rfl wq.heap.size 3 i (.int .i64 0) 1 Try.underlying36 hi hz0 hz1 _ _ _ _ (cols xss) rfl rfl rfl rfl ?b1 ?b2 (Nat.le_refl _) ?_))
    case b1 => rw [hz2]; omega
    case b2 => unfold maxLen; omega
    intro u1 hown hgrow
    have o1 : OI u1 wq.heap.size u1.heap.size (some ⟨wq.heap.size, 0, none⟩) (cols xss) (List.replicate (cols xss) 0) := by
      refine OI.of ?_
      unfold OwnI
      simpa [Value.cells, toList_madeCells_one] using hown
    have e1 := (Ext.refl wq).grown hgrow (by simp)
    have E1 := EZ.trans e1
    have z1 := e1.size_le
    clear hown hgrow
    go_wp2_with fail
    go_loopw [10] (fun i wr => ∃ (k : Nat) (us : List Int), k ≤ cols xss ∧ i = .int .i64 k ∧ Hid (us.length = cols xss) ∧ Hid (AllEl us) ∧ OI wr wq.heap.size u1.heap.size (some ⟨wq.heap.size, 0, none⟩) (cols xss) us ∧ Ext wq wr) (fun i _ => cols xss - (intOf i).toNat)
    case atStart => exact ⟨0, _, Nat.zero_le _, rfl, by simp [Hid], fun z hz => by rw [(List.mem_replicate.1 hz).2]; rfl, o1, e1⟩
    case round =>
      clear o1 E1 e1
      obtain ⟨k, us, hk, rfl, HL, HA, ho, he⟩ := hrel
      by_cases hlt : k < cols xss
      · have CAT := Lib.hid (at_ok a c xs k wr (R0.out _ (EZ.trans he)) M1.out hl (by omega))
        have i4 : (k : Int) < (cols xss : Int) := by omega
        have htl : k < us.length := by rw [HL.out]; exact hlt
        go_wp2_with fail
        (with_reducible refine CAT.out.mono ?_)
        rintro e w' ⟨y, rfl, y0, y1, rfl⟩
        obtain ⟨q1, q2, q3, u, q4⟩ := ho.store k y htl
        have E4 := Span.ext he q2 (Nat.le_refl _)
        have HL2 : Hid ((us.set k y).length = cols xss) := by rw [List.length_set]; exact HL
        have HA2 : Hid (AllEl (us.set k y)) := fun v hv => by
          rcases List.mem_or_eq_of_mem_set hv with h | h
          · exact HA.out v h
          · rw [h]; exact inR_true.2 (by omega)
        clear CAT ho he q2
        go_wp2_with fail
        go_roundw
        case rel => exact ⟨k + 1, us.set k y, by omega, by go_num, HL2, HA2, q1, E4⟩
        case measure => simp [intOf]; omega
      · obtain rfl : k = cols xss := by omega
        have EW := EZ.trans he
        have MW := MZ.ext he
        have hv := ho.vals
        have HOK := Lib.hid (solve_again VM.out hc40 HA.out HL.out)
        have HYS := Lib.hid (solveOk_yes HOK.out)
        obtain ⟨z, hz⟩ : ∃ z, Hid (z = mmv xss us) := ⟨_, rfl⟩
        rw [← hz.out] at HOK HYS
        have hzl : z.length ≤ 40 := by rw [hz.out]; exact mmv_len _ _
        have hul : us.length ≤ 40 := by rw [HL.out]; omega
        have CM1 := Lib.hid (fun W d (h : MatR W am xss) (h' : Vals W (some ⟨wq.heap.size, 0, none⟩) (I us)) => specMMV_ok am (some ⟨wq.heap.size, 0, none⟩) cm d xss us W h h' (by omega) HXB.out (by omega))
        rw [← hz.out, HL.out] at CM1
        go_wp2_with fail
        (with_reducible refine (CM1.out wr _ MW hv).mono ?_)
        rintro e u2 ⟨a2, c2, rfl, o2, e2⟩
        have CS2 := Lib.hid (implSolveSystem_ok am cm xss a2 c2 z u2 (MW.ext e2) (OI.of o2).vc (by omega) HXB.out (by omega))
        rw [HOK.out] at CS2
        obtain ⟨sy, hsy⟩ : ∃ sy, Hid (sy = solveL xss z) := ⟨_, rfl⟩
        rw [← hsy.out] at CS2 HYS
        have hsyl : sy.length ≤ 40 := by rw [HYS.out.2]; omega
        have M2 := MW.ext e2
        have E2 := EW.trans e2
        have v2 := hv.ext e2
        clear o2 e2 MW EW hv ho he
        go_wp2_with fail
        (with_reducible refine CS2.out.mono ?_)
        rintro e u3 ⟨a3, c3, rfl, o3, e3⟩
        have M3 := M2.ext e3
        have E3 := E2.trans e3
        have v3 := v2.ext e3
        clear M2 E2 v2 e3 CS2
        go_wp2_with fail
        go_ret
        exact ⟨rfl, E3⟩
  · have hm1 : (0 : Int) < (xss.length : Int) := by omega
    have hm2 : ((xss.length : Int) == 0) = false := beq_eq_false_iff_ne.2 (by omega)
    have hx1 : ((x.length : Int) != (cols xss : Int)) = false := by simp [HS2.out]
    have CM := Lib.hid (specMMV_ok am a2 cm c2 xss x w3 M3 x3 (by omega) HXB.out (by omega))
    rw [HS1.out] at CM
    clear hm0
    go_wp2_with (go_at_call 26; (with_reducible refine (specColumnsOf_ok _ _ _ _ M3).mono ?_); rintro e w' ⟨rfl, rfl⟩)
    (with_reducible refine CM.out.mono ?_)
    rintro e w4 ⟨a4, c4, rfl, o4, e4⟩
    have S := Lib.hid (sameInts_selfF a4 bb c4 db b w4 o4.vals (B3.ext e4) (by omega))
    have E4 := E3.trans e4
    have M4 := M3.ext e4
    clear E3 M3 B3 x3 CM o4 e4
    go_wp2_with fail
    (with_reducible refine S.out.mono ?_)
    rintro e w' ⟨rfl, n8, rfl⟩
    have EZ := E4.drewN n8
    have MZ := M4.ext ((Ext.refl w4).drewN n8)
    generalize w4.drewN n8 = wz at *
    clear S E4 M4
    obtain ⟨i, hi, hz0, hz1, hz2⟩ := info_parts infoInt
    obtain ⟨wq, hwq⟩ : ∃ wq, wq = wz := ⟨_, rfl⟩
    subst hwq
    have zq := EZ.size_le
    go_wp2_with (first
      | (go_at_call 26; (with_reducible refine (specColumnsOf_ok _ _ _ _ MZ).mono ?_); rintro e w' ⟨rfl, rfl⟩)
      | (at_make; refine wpList_make_full _ rfl _ _ 36 rfl wq.heap.size 3 i (.int .i64 0) 1 Try.underlying36 hi hz0 hz1 _ _ _ _ (cols xss) rfl rfl rfl rfl ?b1 ?b2 (Nat.le_refl _) ?_))
    case b1 => rw [hz2]; omega
    case b2 => unfold maxLen; omega
    intro u1 hown hgrow
    have o1 : OI u1 wq.heap.size u1.heap.size (some ⟨wq.heap.size, 0, none⟩) (cols xss) (List.replicate (cols xss) 0) := by
      refine OI.of ?_
      unfold OwnI
      simpa [Value.cells, toList_madeCells_one] using hown
    have e1 := (Ext.refl wq).grown hgrow (by simp)
    have E1 := EZ.trans e1
    have z1 := e1.size_le
    clear hown hgrow
    go_wp2_with fail
    go_loopw [10] (fun i wr => ∃ (k : Nat) (us : List Int), k ≤ cols xss ∧ i = .int .i64 k ∧ Hid (us.length = cols xss) ∧ Hid (AllEl us) ∧ OI wr wq.heap.size u1.heap.size (some ⟨wq.heap.size, 0, none⟩) (cols xss) us ∧ Ext wq wr) (fun i _ => cols xss - (intOf i).toNat)
    case atStart => exact ⟨0, _, Nat.zero_le _, rfl, by simp [Hid], fun z hz => by rw [(List.mem_replicate.1 hz).2]; rfl, o1, e1⟩
    case round =>
      clear o1 E1 e1
      obtain ⟨k, us, hk, rfl, HL, HA, ho, he⟩ := hrel
      by_cases hlt : k < cols xss
      · have CAT := Lib.hid (at_ok a c xs k wr (R0.out _ (EZ.trans he)) M1.out hl (by omega))
        have i4 : (k : Int) < (cols xss : Int) := by omega
        have htl : k < us.length := by rw [HL.out]; exact hlt
        go_wp2_with fail
        (with_reducible refine CAT.out.mono ?_)
        rintro e w' ⟨y, rfl, y0, y1, rfl⟩
        obtain ⟨q1, q2, q3, u, q4⟩ := ho.store k y htl
        have E4 := Span.ext he q2 (Nat.le_refl _)
        have HL2 : Hid ((us.set k y).length = cols xss) := by rw [List.length_set]; exact HL
        have HA2 : Hid (AllEl (us.set k y)) := fun v hv => by
          rcases List.mem_or_eq_of_mem_set hv with h | h
          · exact HA.out v h
          · rw [h]; exact inR_true.2 (by omega)
        clear CAT ho he q2
        go_wp2_with fail
        go_roundw
        case rel => exact ⟨k + 1, us.set k y, by omega, by go_num, HL2, HA2, q1, E4⟩
        case measure => simp [intOf]; omega
      · obtain rfl : k = cols xss := by omega
        have EW := EZ.trans he
        have MW := MZ.ext he
        have hv := ho.vals
        have HOK := Lib.hid (solve_again VM.out hc40 HA.out HL.out)
        have HYS := Lib.hid (solveOk_yes HOK.out)
        obtain ⟨z, hz⟩ : ∃ z, Hid (z = mmv xss us) := ⟨_, rfl⟩
        rw [← hz.out] at HOK HYS
        have hzl : z.length ≤ 40 := by rw [hz.out]; exact mmv_len _ _
        have hul : us.length ≤ 40 := by rw [HL.out]; omega
        have CM1 := Lib.hid (fun W d (h : MatR W am xss) (h' : Vals W (some ⟨wq.heap.size, 0, none⟩) (I us)) => specMMV_ok am (some ⟨wq.heap.size, 0, none⟩) cm d xss us W h h' (by omega) HXB.out (by omega))
        rw [← hz.out, HL.out] at CM1
        go_wp2_with fail
        (with_reducible refine (CM1.out wr _ MW hv).mono ?_)
        rintro e u2 ⟨a2, c2, rfl, o2, e2⟩
        have CS2 := Lib.hid (implSolveSystem_ok am cm xss a2 c2 z u2 (MW.ext e2) (OI.of o2).vc (by omega) HXB.out (by omega))
        rw [HOK.out] at CS2
        obtain ⟨sy, hsy⟩ : ∃ sy, Hid (sy = solveL xss z) := ⟨_, rfl⟩
        rw [← hsy.out] at CS2 HYS
        have hsyl : sy.length ≤ 40 := by rw [HYS.out.2]; omega
        have M2 := MW.ext e2
        have E2 := EW.trans e2
        have v2 := hv.ext e2
        clear o2 e2 MW EW hv ho he
        go_wp2_with fail
        (with_reducible refine CS2.out.mono ?_)
        rintro e u3 ⟨a3, c3, rfl, o3, e3⟩
        have M3 := M2.ext e3
        have E3 := E2.trans e3
        have v3 := v2.ext e3
        clear M2 E2 v2 e3 CS2
        have CM3 := Lib.hid (specMMV_ok am a3 cm c3 xss sy u3 M3 o3.vals (by omega) HXB.out (by omega))
        rw [HYS.out.1] at CM3
        go_wp2_with fail
        (with_reducible refine CM3.out.mono ?_)
        rintro e u4 ⟨a4, c4, rfl, o4, e4⟩
        have M4 := M3.ext e4
        have E4 := E3.trans e4
        have v4 := v3.ext e4
        clear M3 E3 v3 o3 CM3
        go_wp2_with fail
        (with_reducible refine (CM1.out u4 _ M4 v4).mono ?_)
        rintro e u5 ⟨a5, c5, rfl, o5, e5⟩
        have S := Lib.hid (sameInts_selfF a4 a5 c4 c5 z u5 (o4.vals.ext e5) o5.vals (by omega))
        have E5 := E4.trans e5
        clear M4 E4 v4 o4 o5 e4 e5
        go_wp2_with fail
        (with_reducible refine S.out.mono ?_)
        rintro e w' ⟨rfl, n9, rfl⟩
        have E6 := E5.drewN n9
        generalize u5.drewN n9 = u6 at *
        go_wp2_with fail
        go_ret
        exact ⟨rfl, E6⟩

end Go.Proofs.Ytninamlcffemoaa
