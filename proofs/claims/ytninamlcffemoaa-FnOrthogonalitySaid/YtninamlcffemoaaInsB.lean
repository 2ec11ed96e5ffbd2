/- Contracts of the program's reduce and insert of a basis. -/
import Derived.Test.YtninamlcffemoaaInsW
import Derived.Test.YtninamlcffemoaaFld
namespace Go.Proofs.Ytninamlcffemoaa
open Go.RowKit
set_option linter.unusedVariables false
set_option maxRecDepth 20000

/-- A row of owned rows is written in its place. -/
theorem OM.edit {w : World} {B C : Nat} {a : Option Addr} {c : Nat} {xss : List (List Int)} (h : OM w B C a c xss) {i : Nat} (hi : i < xss.length) :
    ∃ b ra rc g g2, a = some ⟨b, 0, none⟩ ∧ w.cell? ⟨b, i, none⟩ = some (.slice ra (xss.getD i []).length rc) ∧ OI w g g2 ra rc (xss.getD i []) ∧
      (∀ w' ys, OI w' g g2 ra rc ys → ys.length = (xss.getD i []).length → Span g g2 w w' → OM w' B C a c (xss.set i ys)) ∧ (∀ w', Span g g2 w w' → Span B C w w') := by
  obtain ⟨rs, q1, q2, q3⟩ := h
  have hir : i < rs.length := by rw [q3.len]; exact hi
  obtain ⟨⟨ra, rc⟩, hr⟩ : ∃ r, rs[i]? = some r := ⟨_, List.getElem?_eq_getElem hir⟩
  have hx : xss[i]? = some (xss.getD i []) := by simp [List.getD, hi]
  have hrow := q3.row i _ _ hr hx
  obtain ⟨g, g2, r1, r2, r3, r4⟩ := hrow.alone
  obtain ⟨b, rfl, _, _, _⟩ := OM.form ⟨rs, q1, q2, q3⟩ (show 0 < xss.length by omega)
  refine ⟨b, ra, rc, g, g2, rfl, ?_, r1, fun w' ys o hl hs => ?_, r4⟩
  · rw [q1.cellAt i (by omega), RV_get, hr, hx]
    rfl
  · have hkeep : ∀ k, k < w.heap.size → blockOf ra ≠ some k → w'.heap[k]? = w.heap[k]? := fun k hk hne => hs.block k hk (by
      rcases Nat.lt_or_ge k g with h | h
      · exact .inl h
      · rcases Nat.lt_or_ge k g2 with h' | h'
        · exact absurd (r2 k h h') hne
        · exact .inr h')
    refine ⟨rs, ?_, q2, q3.set hr (r3 _ _ o) hkeep⟩
    rw [RV_set hx hl, List.length_set]
    exact ownsRow_of_block q1 fun k' hk' => hkeep k' (ownsRow_block q1 k' hk').2 (fun e => block_ne q1 hrow.1 ints_ne k' hk' e)

theorem leadI_nat {xs : List Int} {p : Nat} (h : ld xs = p) (hp : p < xs.length) : leadI xs = (p : Int) := by rw [leadI_ld, h, if_pos hp]

set_option maxHeartbeats 2000000 in
theorem reduce_ok (n : Int) (a : Option Addr) (c : Nat) (R : List (List Int)) (b : Option Addr) (d : Nat) (v : List Int) (m : Nat) (w : World) (h : MatR w a R) (h' : Vals w b (I v)) (hR : RM m R) (hv : AllEl v) (hl : v.length = m) (hm : m ≤ 40) (hRl : R.length ≤ 1048576) :
    Calls Try.prog 134 #[bsV n a c R, .slice b v.length d] w (NewI w (redV R v)) := by
  have HR := Lib.hid hR
  have HV := Lib.hid hv
  have HL := Lib.hid hl
  have hvm : v.length ≤ 40 := by omega
  have E0 := (Ext.refl w).alloc (.cells #[.int .i64 n, .slice a R.length c] 46)
  clear hR hv hl
  go_enter Try.func134, Try.ntmps134
  go_wp2_with fail
  refine (cloneI_ok _ _ _ _ (h'.ext E0) (by omega)).mono ?_
  rintro e w1 ⟨a1, c1, rfl, o1, e1⟩
  have E1 := E0.trans e1
  have z1 := e1.size_le
  simp at z1
  have cR := e1.cell (p := ⟨w.heap.size, 1, none⟩) (v := .slice a R.length c) (by simp)
  have O1 := (OI.of o1).mono (C := w.heap.size + 1) (C2 := w1.heap.size) (by simp) (Nat.le_refl _)
  clear o1 e1 E0
  go_wp2_with fail
  go_loopw [14] (fun i wr => ∃ k : Nat, k ≤ R.length ∧ i = .int .i64 k ∧ OI wr (w.heap.size + 1) w1.heap.size a1 c1 (redTo R v k) ∧ Ext w wr) (fun i _ => R.length - (intOf i).toNat)
  case atStart => exact ⟨0, Nat.zero_le _, rfl, O1, E1⟩
  case round =>
    clear O1 E1
    obtain ⟨k, hk, rfl, ho, he⟩ := hrel
    obtain ⟨us, hus⟩ : ∃ us, Hid (us = redTo R v k) := ⟨_, rfl⟩
    have huo := redTo_ok HR.out.1 HV.out HL.out k hk
    rw [← hus.out] at ho huo
    have HUL : Hid (us.length = v.length) := by rw [huo.2, HL.out]; exact Lib.hid rfl
    have HUE := Lib.hid huo.1
    clear huo
    by_cases hlt : k < R.length
    · obtain ⟨b1, o1, ra, rc, xs, rfl, hb, hx, hc, hrow⟩ := (h.ext he).at_ hlt
      have hxs : Hid (R.getD k [] = xs) := getD_some hx.out
      have hrk := HR.out.1.getD hlt
      have hlk := HR.out.ld_lt hlt
      rw [hxs.out] at hrk hlk
      obtain ⟨p, hp⟩ : ∃ p, Hid (ld xs = p) := ⟨_, rfl⟩
      rw [hp.out] at hlk
      have hxl : xs.length ≤ 40 := hrk.2.2
      have HRK := Lib.hid hrk
      have HP : Hid (leadI xs = (p : Int)) := leadI_nat hp.out (by rw [HRK.out.2.1]; exact hlk)
      have hpv : p < v.length := by rw [HL.out]; exact hlk
      have i1 : (p : Int) < (v.length : Int) := by omega
      obtain ⟨g, rfl, _, _, _⟩ := ho.form (by rw [HUL.out]; omega)
      have hcx := ho.cellAt (ent_get (show p < us.length by rw [HUL.out]; exact hpv))
      obtain ⟨x, hx'⟩ : ∃ x, Hid (x = ent us p) := ⟨_, rfl⟩
      rw [← hx'.out] at hcx
      obtain ⟨x1, x2⟩ : 0 ≤ x ∧ x ≤ 1018 := by rw [hx'.out]; exact ent_range HUE.out p
      have hlen : Hid (us.length = xs.length) := by rw [HUL.out, HL.out, HRK.out.2.1]; exact Lib.hid rfl
      have hstep : Hid (redTo R v (k + 1) = el us xs p) := by rw [redTo, ← hus.out, hxs.out, hp.out]; exact Lib.hid rfl
      clear hrk
      by_cases hx0 : x = 0
      · have hx1 : (x != 0) = false := by simpa using hx0
        have hk1 : Hid (redTo R v (k + 1) = us) := by rw [hstep.out]; exact el_zero HUE.out hlen.out (by rw [← hx'.out]; exact hx0)
        clear hx0
        go_wp2_with (go_at_call 39; refine (implLeadingIndex_ok _ _ _ _ hrow (by omega)).mono ?_; rintro e w' ⟨rfl, rfl⟩; rw [HP.out])
        go_roundw
        case rel => exact ⟨k + 1, by omega, by go_num, by rw [hk1.out]; exact ho, he⟩
        case measure => simp [intOf]; omega
      · have hx1 : (x != 0) = true := by simpa using hx0
        have hk1 : Hid (redTo R v (k + 1) = addS us xs (1019 - x)) := by rw [hstep.out, el_ne HUE.out (by rw [← hx'.out]; exact hx0), ← hx'.out]; exact Lib.hid rfl
        have CC : Hid (Calls Try.prog 88 #[.slice (some ⟨g, 0, none⟩) v.length c1, .slice ra xs.length rc, .int .i64 (1019 - x)] wr fun e w' => e = .returned (.slice (some ⟨g, 0, none⟩) v.length c1) ∧ OI w' (w.heap.size + 1) w1.heap.size (some ⟨g, 0, none⟩) c1 (addS us xs (1019 - x)) ∧ Span (w.heap.size + 1) w1.heap.size wr w') := by
          have hrw : ∀ w', Span (w.heap.size + 1) w1.heap.size wr w' → Vals w' ra (I xs) := fun w' hs => by
            obtain ⟨b2, o2, ra2, rc2, xs2, q1, q2, q3, q4, q5⟩ := h.at_ hlt
            injection q1 with q1
            obtain ⟨rfl, rfl⟩ : b1 = b2 ∧ o1 = o2 := by simpa using q1
            have : xs2 = xs := by have := q3.out; rw [hx.out] at this; injection this with this; exact this.symm
            subst this
            have q6 := he.cell q4
            rw [hc] at q6
            have : ra = ra2 := by injection q6 with q6; injection q6
            subst this
            exact q5.ext (Span.ext he hs (by omega))
          have := addScaled_ok (w.heap.size + 1) w1.heap.size (some ⟨g, 0, none⟩) ra c1 rc us xs (1019 - x) wr ho hrw hlen.out hxl HUE.out HRK.out.1 (inR_true.2 (by omega))
          rw [HUL.out] at this
          exact this
        clear hx0
        go_wp2_with (first
          | (go_at_call 39; refine (implLeadingIndex_ok _ _ _ _ hrow (by omega)).mono ?_; rintro e w' ⟨rfl, rfl⟩; rw [HP.out])
          | (go_at_call 88; refine CC.out.mono ?_; rintro e w2 ⟨rfl, o2, s2⟩))
        have e2 := Span.ext he s2 (by omega)
        clear s2 CC he ho
        go_roundw
        case rel => exact ⟨k + 1, by omega, by go_num, by rw [hk1.out]; exact o2, e2⟩
        case measure => simp [intOf]; omega
    · obtain rfl : k = R.length := by omega
      have hfin : Hid (us = redV R v) := by rw [hus.out]; exact Lib.hid rfl
      go_wp2_with fail
      go_ret
      rw [← hfin.out]
      exact ⟨a1, c1, by rw [HUL.out]; rfl, ho.1.more (by omega), he⟩

/-- A basis that lies in block pb, with its rows behind it. -/
def BasisAt (w0 : World) (pb : Nat) (n : Int) (R : List (List Int)) (w : World) : Prop :=
  ∃ a c, Ext w0 w ∧ w0.heap.size ≤ pb ∧ w.cell? ⟨pb, 0, none⟩ = some (.int .i64 n) ∧ w.cell? ⟨pb, 1, none⟩ = some (.slice a R.length c) ∧ w.frozen? ⟨pb, 1, none⟩ = false ∧ OM w (pb + 1) w.heap.size a c R
theorem BasisAt.ext {w0 w w' : World} {pb : Nat} {n : Int} {R : List (List Int)} (h : BasisAt w0 pb n R w) (he : Ext w w') : BasisAt w0 pb n R w' := by
  obtain ⟨a, c, h1, h2, h3, h4, h5, h6⟩ := h
  exact ⟨a, c, h1.trans he, h2, he.cell h3, he.cell h4, (he.look.2 pb 1 (World.block_lt_of_cell? _ _ h4)).trans h5, (h6.ext he).mono (Nat.le_refl _) he.size_le⟩

theorem Span.frozen {B B2 : Nat} {a w : World} (h : Span B B2 a w) {b o : Nat} {v : Value} (hc : a.cell? ⟨b, o, none⟩ = some v) (hp : b < B ∨ B2 ≤ b) : w.frozen? ⟨b, o, none⟩ = a.frozen? ⟨b, o, none⟩ :=
  World.frozen?_of_block (h.block b (World.block_lt_of_cell? a _ hc) hp)
theorem clr_lead {m : Nat} {R : List (List Int)} {v : List Int} (hR : RM m R) (hv : AllEl v) (hl : v.length = m) (hp : ld (redV R v) < (redV R v).length) {k : Nat} (hk : k < R.length) :
    ld (el (R.getD k []) (newRow' (redV R v)) (ld (redV R v))) = ld (R.getD k []) := by
  have hu := redV_ok hR.1 hv hl
  obtain ⟨n1, n2, n3, n4, n5⟩ := newRow'_ok hu.1 hp
  have hz : ∀ i, i < R.length → vK (newRow' (redV R v)) (ld (R.getD i [])) = 0 := fun i hi => by rw [n4, redV_piv hR hv hl hi]; grind
  refine clr_ld hR (by rw [n2, hu.2]) (fun j hj => ?_) hz hk (fun e => ?_)
  · rw [n4, (vK_zero hu.1 j).2 (ld_zero hj)]; grind
  · have h1 := hz k hk
    rw [e, n3] at h1
    exact K_one_ne h1
theorem clr_get {R : List (List Int)} {row : List Int} {p k : Nat} (hk : k < R.length) : (clr R row p).getD k [] = el (R.getD k []) row p := clr_getD hk
theorem insM_yes {R : List (List Int)} {v : List Int} (h : ld (redV R v) < (redV R v).length) : insM R v = insAt (clr R (newRow' (redV R v)) (ld (redV R v))) (placeTo (clr R (newRow' (redV R v)) (ld (redV R v))) (ld (redV R v)) R.length) (newRow' (redV R v)) := by
  unfold insM insAt
  rw [if_pos h]
theorem insM_no {R : List (List Int)} {v : List Int} (h : ¬ ld (redV R v) < (redV R v).length) : insM R v = R := by
  unfold insM
  rw [if_neg h]

set_option maxHeartbeats 4000000 in
set_option maxRecDepth 100000 in
theorem insert_ok (w0 : World) (pb : Nat) (n : Int) (R : List (List Int)) (b : Option Addr) (d : Nat) (v : List Int) (m : Nat) (w : World) (h : BasisAt w0 pb n R w) (h' : Vals w b (I v)) (hR : RM m R) (hv : AllEl v) (hl : v.length = m) (hm : m ≤ 40) (hRl : R.length ≤ 1000) :
    Calls Try.prog 98 #[.pointer (some ⟨pb, 0, none⟩), .slice b v.length d] w fun e w' => e = .returned (.bool (decide (ld (redV R v) < m))) ∧ BasisAt w0 pb n (insM R v) w' := by
  have hB := Lib.hid h
  obtain ⟨a, c, b1, b2, b3, b4, b5, b6⟩ := h
  have hpb : pb < w.heap.size := World.block_lt_of_cell? _ _ b3
  have hu := redV_ok hR.1 hv hl
  have Q := Lib.hid (reduce_ok n a c R b d v m w b6.reads h' hR hv hl hm (by omega))
  have HC : Hid (ld (redV R v) < (redV R v).length → ∀ k, k < R.length → ld (el (R.getD k []) (newRow' (redV R v)) (ld (redV R v))) = ld (R.getD k [])) := fun hp k hk => clr_lead hR hv hl hp hk
  have HY : Hid (ld (redV R v) < (redV R v).length → insM R v = insAt (clr R (newRow' (redV R v)) (ld (redV R v))) (placeTo (clr R (newRow' (redV R v)) (ld (redV R v))) (ld (redV R v)) R.length) (newRow' (redV R v))) := insM_yes
  have HN : Hid (¬ ld (redV R v) < (redV R v).length → insM R v = R) := insM_no
  obtain ⟨us, hus⟩ : ∃ us, Hid (us = redV R v) := ⟨_, rfl⟩
  rw [← hus.out] at Q HC HY HN hu ⊢
  have hul : us.length ≤ 40 := by omega
  have HU := Lib.hid hu
  have HR := Lib.hid hR
  have HVL := Lib.hid hl
  clear hu hR hv hl
  by_cases hp : ld us < us.length
  rotate_left
  · have HL : Hid (leadI us = -1) := by rw [leadI_ld, if_neg hp]; exact Lib.hid rfl
    have HD : Hid (decide (ld us < m) = false) := decide_eq_false (by rw [← HU.out.2]; exact hp)
    have HI := Lib.hid (HN.out hp)
    clear hp HC HY HN hus
    go_enter Try.func98, Try.ntmps98
    go_wp2_with fail
    (with_reducible refine Q.out.mono ?_)
    rintro e w1 ⟨a1, c1, rfl, o1, e1⟩
    go_wp2_with (go_at_call 39; refine (implLeadingIndex_ok _ _ _ _ o1.vals (by omega)).mono ?_; rintro e w' ⟨rfl, rfl⟩; rw [HL.out])
    go_ret
    rw [HD.out, HI.out]
    exact ⟨rfl, hB.out.ext e1⟩
  obtain ⟨p, hpe⟩ : ∃ p, Hid (p = ld us) := ⟨_, rfl⟩
  have HCp := Lib.hid (HC.out hp)
  have HI := Lib.hid (HY.out hp)
  rw [← hpe.out] at hp HCp HI
  have HL : Hid (leadI us = (p : Int)) := leadI_nat hpe.out.symm hp
  have HD : Hid (decide (ld us < m) = true) := decide_eq_true (by rw [← HU.out.2, ← hpe.out]; exact hp)
  obtain ⟨row, hrow⟩ : ∃ row, Hid (row = newRow' us) := ⟨_, rfl⟩
  rw [← hrow.out] at HCp HI
  obtain ⟨x, hx⟩ : ∃ x, Hid (x = ent us p) := ⟨_, rfl⟩
  have HX : Hid (inR x 0 1018 = true) := by rw [hx.out]; exact inR_true.2 (ent_range HU.out.1 _)
  have HIN : Hid (inR (invI x) 0 1018 = true) := inR_true.2 (invI_range (inR_true.1 HX.out).1 (inR_true.1 HX.out).2)
  have HSC : Hid (scl us (invI x) = row) := by rw [hrow.out]; unfold newRow'; rw [← hpe.out, ← hx.out]; exact Lib.hid rfl
  have HRO : Hid (AllEl row ∧ row.length = m) := by rw [← HSC.out]; exact ⟨scl_AllEl _ _, by rw [scl_length]; exact HU.out.2⟩
  have hrl : row.length ≤ 40 := by rw [HRO.out.2]; exact hm
  have hpm : p < m := by rw [← HU.out.2]; exact hp
  have i1 : (p : Int) < (us.length : Int) := by omega
  have i2 : ¬ ((p : Int) < 0) := by omega
  clear HC HY HN
  go_enter Try.func98, Try.ntmps98
  go_wp2_with fail
  (with_reducible refine Q.out.mono ?_)
  rintro e w1 ⟨a1, c1, rfl, o1, e1⟩
  obtain ⟨g1, rfl, _, _, _⟩ := (OI.of o1).form (by omega)
  have hcx := (OI.of o1).cellAt (ent_get (show p < us.length by omega))
  rw [← hx.out] at hcx
  have HV1 := Lib.hid o1.vals
  have z1 := e1.size_le
  go_wp2_with (first
    | (go_at_call 39; refine (implLeadingIndex_ok _ _ _ _ HV1.out (by omega)).mono ?_; rintro e w' ⟨rfl, rfl⟩; rw [HL.out])
    | (go_at_call 87; refine (implInverseField_ok _ _ HX.out).mono ?_; rintro e w' ⟨rfl, rfl⟩))
  refine (implScaleVector_ok _ _ us _ _ HV1.out (validV_true.2 ⟨HU.out.1, hul⟩) HIN.out).mono ?_
  rintro e w2 ⟨a2, c2, rfl, o2, e2⟩
  rw [HSC.out] at o2 ⊢
  have E2 := e1.trans e2
  have z2 := e2.size_le
  have O2 := (OI.of o2).mono (C := w.heap.size) (C2 := w2.heap.size) z1 (Nat.le_refl _)
  have M2 := b6.ext E2
  have d3 := E2.cell b3
  have d4 := E2.cell b4
  have d5 := (E2.look.2 pb 1 hpb).trans b5
  have X2 := b1.trans E2
  clear o1 e1 hcx HV1 o2 e2 Q b6 b3 b4 b5 h' hB
  go_wp2_with fail
  go_loopw [7, 32] (fun at_ i wr => ∃ k : Nat, k ≤ R.length ∧ i = .int .i64 k ∧ at_ = .int .i64 (placeTo (clr R row p) p k : Nat) ∧ OM wr (pb + 1) w.heap.size a c (clrTo R row p k) ∧ Span (pb + 1) w.heap.size w2 wr) (fun _ i _ => R.length - (intOf i).toNat)
  case atStart => exact ⟨0, Nat.zero_le _, rfl, rfl, by rw [clrTo_zero]; exact M2, Span.refl _ _ _⟩
  case round =>
    clear M2
    obtain ⟨k, hk, rfl, rfl, hM, hS⟩ := hrel
    have hO2 := O2.span hS (.inr (by omega) : w2.heap.size ≤ pb + 1 ∨ w.heap.size ≤ w.heap.size)
    by_cases hlt : k < R.length
    · have hed := hM.edit (i := k) (by rw [clrTo_length]; exact hlt)
      have hgk : Hid ((clrTo R row p k).getD k [] = R.getD k []) := getD_some (clrTo_get (getD_get hlt))
      rw [hgk.out] at hed
      obtain ⟨bb, ra, rc, g, g2, rfl, t1, t2, t3, t4⟩ := hed
      have hrk := HR.out.1.getD hlt
      obtain ⟨xs, hxs⟩ : ∃ xs, Hid (xs = R.getD k []) := ⟨_, rfl⟩
      have HLD : Hid (ld (el xs row p) = ld xs ∧ ld xs < m) := by rw [hxs.out]; exact ⟨HCp.out k hlt, HR.out.ld_lt hlt⟩
      have hsucc : Hid (clrTo R row p (k + 1) = (clrTo R row p k).set k (el xs row p)) := by rw [hxs.out]; exact clrTo_succ (getD_get hlt)
      have hplace : Hid (placeTo (clr R row p) p (k + 1) = if ld xs < p then k + 1 else placeTo (clr R row p) p k) := by
        rw [placeTo, clr_get hlt, ← hxs.out, HLD.out.1]; exact Lib.hid rfl
      rw [← hxs.out] at t1 t2 t3 hrk
      have HRK := Lib.hid hrk
      have hxl : xs.length ≤ 40 := hrk.2.2
      have hpx : p < xs.length := by rw [hrk.2.1]; exact hpm
      have hlen : Hid (xs.length = row.length) := by rw [HRK.out.2.1, HRO.out.2]; exact Lib.hid rfl
      have i3 : (p : Int) < (xs.length : Int) := by omega
      obtain ⟨rb, rfl, _, _, _⟩ := t2.form (by omega)
      have hcx := t2.cellAt (ent_get hpx)
      obtain ⟨y, hy⟩ : ∃ y, Hid (y = ent xs p) := ⟨_, rfl⟩
      rw [← hy.out] at hcx
      obtain ⟨y1, y2⟩ : 0 ≤ y ∧ y ≤ 1018 := by rw [hy.out]; exact ent_range HRK.out.1 _
      have hpl := placeTo_le (clr R row p) p k
      clear hrk
      obtain ⟨q, hq⟩ : ∃ q, Hid (q = ld xs) := ⟨_, rfl⟩
      rw [← hq.out] at HLD hplace
      have hqx : q < xs.length := by rw [HRK.out.2.1]; exact HLD.out.2
      have hV2 := Lib.hid hO2
      clear hO2
      by_cases hy0 : y = 0
      · have hy1 : (y != 0) = false := by simpa using hy0
        have hel : Hid (el xs row p = xs) := el_zero HRK.out.1 hlen.out (by rw [← hy.out]; exact hy0)
        have M3 := t3 wr xs t2 rfl (Span.refl _ _ _)
        rw [← hel.out, ← hsucc.out] at M3
        have HP : Hid (leadI xs = (q : Int)) := leadI_nat hq.out.symm hqx
        have HT2 := Lib.hid t2
        clear hy0 hM t3 t2
        by_cases hqp : q < p
        · have hqp' : (q : Int) < (p : Int) := by omega
          have hat : Hid ((placeTo (clr R row p) p (k + 1) : Int) = (k : Int) + 1) := by rw [hplace.out, if_pos hqp]; exact Lib.hid (by omega)
          go_wp2_with (go_at_call 39; (with_reducible refine (implLeadingIndex_ok _ _ _ _ HT2.out.vals (by omega)).mono ?_); rintro e w' ⟨rfl, rfl⟩; rw [HP.out])
          go_roundw
          case rel => exact ⟨k + 1, by omega, by go_num, int_eq hat.out.symm, M3, hS⟩
          case measure => simp [intOf]; omega
        · have hqp' : ¬ (q : Int) < (p : Int) := by omega
          have hat : Hid (placeTo (clr R row p) p (k + 1) = placeTo (clr R row p) p k) := by rw [hplace.out, if_neg hqp]; exact Lib.hid rfl
          go_wp2_with (go_at_call 39; (with_reducible refine (implLeadingIndex_ok _ _ _ _ HT2.out.vals (by omega)).mono ?_); rintro e w' ⟨rfl, rfl⟩; rw [HP.out])
          go_roundw
          case rel => exact ⟨k + 1, by omega, by go_num, by rw [hat.out], M3, hS⟩
          case measure => simp [intOf]; omega
      · have hy1 : (y != 0) = true := by simpa using hy0
        have hel : Hid (el xs row p = addS xs row (1019 - y)) := by rw [el_ne HRK.out.1 (by rw [← hy.out]; exact hy0), ← hy.out]; exact Lib.hid rfl
        have CC := Lib.hid (addScaled_ok g g2 (some ⟨rb, 0, none⟩) a2 rc c2 xs row (1019 - y) wr t2 (fun w' hs => (hV2.out.span (t4 w' hs) (.inr (Nat.le_refl _))).vals) hlen.out hrl HRK.out.1 HRO.out.1 (inR_true.2 (by omega)))
        have HT3 : Hid (∀ w', OI w' g g2 (some ⟨rb, 0, none⟩) rc (addS xs row (1019 - y)) → Span g g2 wr w' → OM w' (pb + 1) w.heap.size (some ⟨bb, 0, none⟩) c (clrTo R row p (k + 1)) ∧ Span (pb + 1) w.heap.size w2 w') := fun w' h1 h2 => by
          refine ⟨?_, hS.trans (t4 w' h2)⟩
          rw [hsucc.out, hel.out]
          exact t3 w' _ h1 (addS_len hlen.out _) h2
        have HP : Hid (leadI (addS xs row (1019 - y)) = (q : Int)) := leadI_nat (by rw [← hel.out]; exact HLD.out.1) (by rw [addS_len hlen.out]; exact hqx)
        have HAL : Hid ((addS xs row (1019 - y)).length = xs.length) := addS_len hlen.out _
        have HLI : Hid (∀ w', OI w' g g2 (some ⟨rb, 0, none⟩) rc (addS xs row (1019 - y)) → Calls Try.prog 39 #[.slice (some ⟨rb, 0, none⟩) xs.length rc] w' fun e w'' => e = .returned (.int .i64 (q : Int)) ∧ w' = w'') := fun w' h1 => by
          have := implLeadingIndex_ok (some ⟨rb, 0, none⟩) rc (addS xs row (1019 - y)) w' h1.vals (by rw [HAL.out]; omega)
          rw [HAL.out, HP.out] at this
          exact this
        clear hy0 hM t3 t2 t4
        by_cases hqp : q < p
        · have hqp' : (q : Int) < (p : Int) := by omega
          have hat : Hid ((placeTo (clr R row p) p (k + 1) : Int) = (k : Int) + 1) := by rw [hplace.out, if_pos hqp]; exact Lib.hid (by omega)
          go_wp2_with fail
          (with_reducible refine CC.out.mono ?_)
          rintro e w3 ⟨rfl, o3, s3⟩
          go_wp2_with fail
          (with_reducible refine (HLI.out _ o3).mono ?_)
          rintro e w4 ⟨rfl, rfl⟩
          obtain ⟨M3, S3⟩ := HT3.out _ o3 s3
          clear o3 s3 hS CC
          go_wp2_with fail
          go_roundw
          case rel => exact ⟨k + 1, by omega, by go_num, int_eq hat.out.symm, M3, S3⟩
          case measure => simp [intOf]; omega
        · have hqp' : ¬ (q : Int) < (p : Int) := by omega
          have hat : Hid (placeTo (clr R row p) p (k + 1) = placeTo (clr R row p) p k) := by rw [hplace.out, if_neg hqp]; exact Lib.hid rfl
          go_wp2_with fail
          (with_reducible refine CC.out.mono ?_)
          rintro e w3 ⟨rfl, o3, s3⟩
          go_wp2_with fail
          (with_reducible refine (HLI.out _ o3).mono ?_)
          rintro e w4 ⟨rfl, rfl⟩
          obtain ⟨M3, S3⟩ := HT3.out _ o3 s3
          clear o3 s3 hS CC
          go_wp2_with fail
          go_roundw
          case rel => exact ⟨k + 1, by omega, by go_num, by rw [hat.out], M3, S3⟩
          case measure => simp [intOf]; omega
    · obtain rfl : k = R.length := by omega
      rw [clrTo_all] at hM
      have hbl : ∀ k, blockOf a = some k → pb + 1 ≤ k ∧ k < w.heap.size := fun k hk => by
        obtain ⟨rs, q1, q2, _⟩ := hM
        exact ⟨(ownsRow_block q1 k hk).1, q2 k hk⟩
      have zr := hS.size
      have c3 := hS.cell d3 (.inl (Nat.lt_succ_self _))
      have c4 := hS.cell d4 (.inl (Nat.lt_succ_self _))
      have c5 := (hS.frozen d4 (.inl (Nat.lt_succ_self _))).trans d5
      have X3 := Span.ext X2 hS (by omega)
      have A3 := (Ext.refl wr).alloc (.cells #[.slice a2 row.length c2] 36)
      have hpl := placeTo_le (clr R row p) p R.length
      have CC := insertRows_ok (pb + 1) w.heap.size a c (placeTo (clr R row p) p R.length) (clr R row p) a2 c2 row wr.heap.size _ (hM.ext A3) ((hO2.ext A3).mono (Nat.le_refl _) (by simp; omega)) (by omega) (by simp; omega) (by rw [clr_length]; exact hpl) (heap_alloc_new wr _) (by omega) (by rw [clr_length]; omega)
      rw [clr_length, ← HI.out] at CC
      have HCC := Lib.hid CC
      have HBL := Lib.hid hbl
      have HIL : Hid ((insM R v).length = R.length + 1) := by rw [HI.out, insAt_length (by rw [clr_length]; exact hpl), clr_length]; exact Lib.hid rfl
      have hpw : pb < wr.heap.size := by omega
      clear CC hbl hM hO2 d3 d4 d5 X2 hS O2 A3
      go_wp2_with fail
      (with_reducible refine HCC.out.mono ?_)
      rintro e w4 ⟨a4, c4', rfl, o4, g4⟩
      have S4 : Span (pb + 1) w.heap.size (wr.alloc (.cells #[.slice a2 row.length c2] 36)) w4 := (Span.refl _ _ _).grown g4 HBL.out
      have y3 := S4.cell (p := ⟨pb, 0, none⟩) (((Ext.refl wr).alloc _).cell c3) (.inl (Nat.lt_succ_self _))
      have y4 := S4.cell (p := ⟨pb, 1, none⟩) (((Ext.refl wr).alloc _).cell c4) (.inl (Nat.lt_succ_self _))
      have y5 := (S4.frozen (((Ext.refl wr).alloc _).cell c4) (.inl (Nat.lt_succ_self _))).trans ((((Ext.refl wr).alloc (.cells #[.slice a2 row.length c2] 36)).look.2 pb 1 hpw).trans c5)
      have X4 := (Span.ext (X3.alloc (.cells #[.slice a2 row.length c2] 36)) S4 (by omega)).setCell (p := ⟨pb, 1, none⟩) b2 (.slice a4 (R.length + 1) c4')
      clear g4 S4 c3 c4 c5 HCC X3
      go_wp2_with fail
      go_ret
      rw [HD.out]
      refine ⟨rfl, a4, c4', X4, b2, (World.cell?_setCell_other _ _ _ _ (by simp)).trans y3, by rw [HIL.out]; exact World.cell?_setCell_same _ _ _ y4, by simp [y5], (o4.setCell (p := ⟨pb, 1, none⟩) (Nat.lt_succ_self _) _).mono (Nat.le_refl _) (by simp)⟩

end Go.Proofs.Ytninamlcffemoaa
