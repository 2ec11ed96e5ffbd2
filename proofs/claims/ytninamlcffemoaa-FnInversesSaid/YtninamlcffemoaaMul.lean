/- Contracts of the program's MulMatrices and Transpose on valid matrices. -/
import Derived.Test.YtninamlcffemoaaInsB
import Derived.Test.YtninamlcffemoaaComb
import Derived.Test.YtninamlcffemoaaDrm
import Derived.Test.YtninamlcffemoaaRed
import Derived.Deep.RegionLaw
namespace Go.Proofs.Ytninamlcffemoaa
open Go.RowKit
set_option linter.unusedVariables false
set_option maxRecDepth 20000

/-- The product of two matrices. -/
def mulR (q : List (List Int)) (r : List Int) : List Int := cmbTo (cols q) q r q.length
def mulL (p q : List (List Int)) : List (List Int) := p.map (mulR q)
/-- The first k rows are reckoned. -/
def mulTo (p q : List (List Int)) (k : Nat) : List (List Int) := (p.take k).map (mulR q) ++ List.replicate (p.length - k) []
theorem mulTo_length {p q : List (List Int)} {k : Nat} (hk : k ≤ p.length) : (mulTo p q k).length = p.length := by simp [mulTo]; omega
theorem mulTo_zero (p q : List (List Int)) : mulTo p q 0 = List.replicate p.length [] := by simp [mulTo]
theorem mulTo_all (p q : List (List Int)) : mulTo p q p.length = mulL p q := by simp [mulTo, mulL]
theorem mulTo_succ {p q : List (List Int)} {k : Nat} {r : List Int} (hr : p[k]? = some r) : mulTo p q (k + 1) = (mulTo p q k).set k (mulR q r) := by
  have hk := (List.getElem?_eq_some_iff.1 hr).1
  unfold mulTo
  rw [List.take_add_one, hr, List.set_append_right _ _ (by simp; omega), List.map_append, List.append_assoc]
  congr 1
  obtain ⟨d, hd⟩ : ∃ d, p.length - k = d + 1 := ⟨p.length - k - 1, by omega⟩
  rw [hd, show p.length - (k + 1) = d by omega, List.replicate_succ, List.length_map, List.length_take, Nat.min_eq_left (by omega), Nat.sub_self]
  rfl

set_option maxHeartbeats 8000000 in
set_option maxRecDepth 100000 in
theorem implMulMatrices_ok (a b : Option Addr) (c d : Nat) (p q : List (List Int)) (w : World) (h : MatR w a p) (h' : MatR w b q) (hp : validM p = true) (hq : validM q = true) (hc : cols p = q.length) :
    Calls Try.prog 29 #[.slice a p.length c, .slice b q.length d] w (NewM w (mulL p q)) := by
  obtain ⟨hpv, hp40⟩ := validM_true.1 hp
  obtain ⟨hqv, hq40⟩ := validM_true.1 hq
  have hpr : ∀ xs ∈ p, xs.length ≤ 1099511627776 := fun xs hx => by have := (validV_true.1 (hpv xs hx).1).2; omega
  have hqr : ∀ xs ∈ q, xs.length ≤ 1099511627776 := fun xs hx => by have := (validV_true.1 (hqv xs hx).1).2; omega
  have Q1 := implIsValidMatrix_ok a c p w h (by omega) hpr
  have Q2 := fun W (hE : Ext w W) => implIsValidMatrix_ok b d q W (h'.ext hE) (by omega) hqr
  rw [hp] at Q1
  rw [hq] at Q2
  replace Q1 := Lib.hid Q1
  replace Q2 := Lib.hid Q2
  have HPV := Lib.hid hpv
  have HQV := Lib.hid hqv
  have HC := Lib.hid hc
  have HA := Lib.hid h
  have HB := Lib.hid h'
  have hcq : cols q ≤ 40 := cols_le hqv
  have i0 : ((cols p : Int) != (q.length : Int)) = false := by simp [hc]
  obtain ⟨i, hi, hz0, hz1, hz2⟩ := info_parts infoInts
  obtain ⟨i', hi', hz0', hz1', hz2'⟩ := info_parts infoInt
  clear hpv hqv hc h h' hpr hqr hp hq
  go_enter Try.func29, Try.ntmps29
  go_wp2_with fail
  (with_reducible refine Q1.out.mono ?_)
  rintro e w1 ⟨rfl, n1, rfl⟩
  have Q3 := Lib.hid (Q2.out (w.drewN n1) ((Ext.refl w).drewN n1))
  clear Q1 Q2
  go_wp2_with fail
  (with_reducible refine Q3.out.mono ?_)
  rintro e w2 ⟨rfl, n2, rfl⟩
  have E0 := ((Ext.refl w).drewN n1).drewN n2
  obtain ⟨w0, hw0⟩ : ∃ w0, w0 = (w.drewN n1).drewN n2 := ⟨_, rfl⟩
  rw [← hw0] at E0 ⊢
  clear Q3 hw0
  have HC0 := Lib.hid (implColumnsOf_ok a c p w0 (HA.out.ext E0))
  go_wp2_with (first
    | (go_at_call 81; (with_reducible refine HC0.out.mono ?_); rintro e w' ⟨rfl, rfl⟩)
    | (at_make; refine wpList_make_full _ rfl _ _ 22 rfl w0.heap.size 36 i (.slice none 0 0) 1 Try.underlying22 hi hz0 hz1 _ _ _ _ p.length rfl rfl rfl rfl ?b1 ?b2 (Nat.le_refl _) ?_))
  case b1 => rw [hz2]; omega
  case b2 => unfold maxLen; omega
  intro u1 hown hgrow
  obtain ⟨gb, hgb⟩ : ∃ gb, gb = w0.heap.size := ⟨_, rfl⟩
  rw [← hgb] at hown ⊢
  have e1 := E0.grown hgrow (by simp)
  have hz := E0.size_le
  have hzu : gb < u1.heap.size := (ownsRow_block hown gb rfl).2
  have o1 : OM u1 w.heap.size u1.heap.size (some ⟨gb, 0, none⟩) p.length (mulTo p q 0) := by
    rw [mulTo_zero]
    refine OM.mono (B := gb) (B2 := u1.heap.size) ⟨List.replicate p.length (none, 0), ?_, ?_, RowsO.nils _ _ _ _⟩ (by omega) (Nat.le_refl _)
    · rw [RV_nils, List.length_replicate]
      simpa [Value.cells, toList_madeCells_one] using hown
    · intro k hk
      simp [blockOf] at hk
      omega
  have hpl := hp40
  clear hown hgrow HC0 E0 hz hgb
  go_wp2_with fail
  go_loopw [30] (fun i wr => ∃ k : Nat, k ≤ p.length ∧ i = .int .i64 k ∧ OM wr w.heap.size wr.heap.size (some ⟨gb, 0, none⟩) p.length (mulTo p q k) ∧ Ext w wr) (fun i _ => p.length - (intOf i).toNat)
  case atStart => exact ⟨0, Nat.zero_le _, rfl, o1, e1⟩
  case round =>
    clear o1 e1 hzu
    obtain ⟨k, hk, rfl, ho, he⟩ := hrel
    by_cases hlt : k < p.length
    · obtain ⟨wq, hwq⟩ : ∃ wq, wq = wr := ⟨_, rfl⟩
      subst hwq
      obtain ⟨Z, hZ⟩ : ∃ Z, Hid (Z = mulTo p q k) := ⟨_, rfl⟩
      rw [← hZ.out] at ho
      have hZl : Z.length = p.length := by rw [hZ.out]; exact mulTo_length hk
      obtain ⟨b1, o1, ra, rc, r, rfl, hb1, hr, hcr0, hrr⟩ := HA.out.at_ hlt
      have hcr := he.cell hcr0
      have hrv := HPV.out r (List.mem_of_getElem? hr.out)
      have HR : Hid (AllEl r ∧ r.length = q.length) := ⟨(validV_true.1 hrv.1).1, by rw [← HC.out]; exact hrv.2⟩
      have hrl : r.length ≤ 40 := by rw [HR.out.2]; exact hq40
      have HN : Hid (mulTo p q (k + 1) = Z.set k (cmbTo (cols q) q r q.length)) := by rw [hZ.out]; exact mulTo_succ hr.out
      obtain ⟨ra0, rc0, hcz, _, hfz, _⟩ := ho.row (i := k) (by omega)
      have i1 : (k : Int) < (p.length : Int) := by omega
      have HCQ := Lib.hid (implColumnsOf_ok b d q wq (HB.out.ext he))
      have HE := Lib.hid he
      have HO := Lib.hid ho
      have HRR := Lib.hid hrr
      have hgq : gb < wq.heap.size := World.block_lt_of_cell? _ _ hcz
      have hgw : w.heap.size ≤ gb := (ho.block gb rfl).1
      have hkz : k < Z.length := by omega
      clear hrv he ho hrr
      go_wp2_with (first
        | (go_at_call 81; (with_reducible refine HCQ.out.mono ?_); rintro e w' ⟨rfl, rfl⟩)
        | (at_make; refine wpList_make_full _ rfl _ _ 36 rfl wq.heap.size 3 i' (.int .i64 0) 1 Try.underlying36 hi' hz0' hz1' _ _ _ _ (cols q) rfl rfl rfl rfl ?b1 ?b2 (Nat.le_refl _) ?_))
      case b1 => rw [hz2']; omega
      case b2 => unfold maxLen; omega
      intro u2 hown hgrow
      have o2 : OI u2 wq.heap.size u2.heap.size (some ⟨wq.heap.size, 0, none⟩) (cols q) (cmbTo (cols q) q r 0) := by
        refine OI.of ?_
        rw [cmbTo_zero]
        unfold OwnI
        simpa [Value.cells, toList_madeCells_one] using hown
      have X2 := (Ext.refl wq).grown hgrow (by simp)
      have hz2u := X2.size_le
      have l0 : (cmbTo (cols q) q r 0).length = cols q := by rw [cmbTo_zero]; simp
      have O3 := (HO.out.ext X2).put o2 (by omega) hz2u hkz
      have E3 := (HE.out.trans X2).setCell (p := ⟨gb, k, none⟩) hgw (.slice (some ⟨wq.heap.size, 0, none⟩) (cmbTo (cols q) q r 0).length (cols q))
      rw [l0] at O3 E3
      have hcz2 := X2.cell hcz
      have hfz2 : u2.frozen? ⟨gb, k, none⟩ = false := (X2.look.2 gb k hgq).trans hfz
      clear hown hgrow o2 X2 l0 HO
      go_wp2_with fail
      obtain ⟨C2, hC2⟩ : ∃ C2, C2 = u2.heap.size := ⟨_, rfl⟩
      rw [← hC2] at O3
      have hS3 : C2 ≤ (u2.setCell ⟨gb, k, none⟩ (.slice (some ⟨wq.heap.size, 0, none⟩) (cols q) (cols q))).heap.size := by rw [hC2]; simp
      go_loopw [43] (fun i wz => ∃ j : Nat, j ≤ r.length ∧ i = .int .i64 j ∧ OM wz w.heap.size C2 (some ⟨gb, 0, none⟩) p.length (Z.set k (cmbTo (cols q) q r j)) ∧ C2 ≤ wz.heap.size ∧ Ext w wz) (fun i _ => r.length - (intOf i).toNat)
      case atStart => exact ⟨0, Nat.zero_le _, rfl, O3, hS3, E3⟩
      case round =>
        clear O3 hS3 E3 hcz2 hfz2 hC2 hcz hfz
        obtain ⟨j, hj, rfl, ho, hC, he⟩ := hrel
        by_cases hjt : j < r.length
        · have D0 : Ext wr wr.drew := (Ext.refl _).drew
          obtain ⟨ys, hys⟩ : ∃ ys, Hid (ys = cmbTo (cols q) q r j) := ⟨_, rfl⟩
          rw [← hys.out] at ho
          have HYL : Hid (ys.length = cols q) := by rw [hys.out]; exact cmbTo_len _ HQV.out (by rw [HR.out.2]) _
          have HYA : Hid (AllEl ys) := by rw [hys.out]; exact cmbTo_AllEl _ _ _ _
          have hjq : j < q.length := by rw [← HR.out.2]; exact hjt
          have hgd : (Z.set k ys).getD k [] = ys := by simp [List.getD, hkz]
          obtain ⟨b', ra1, rc1, g1, g2, hab, hcell, t2, t3, t4⟩ := (ho.ext D0).edit (i := k) (by rw [List.length_set]; exact hkz)
          obtain rfl : gb = b' := by injection hab with h1; injection h1
          rw [hgd] at hcell t2 t3
          obtain ⟨bq, oq, rb, rd, v, rfl, hbq, hv, hcv, hrv⟩ := HB.out.at_ hjq
          obtain ⟨br, or, x, rfl, hbr, hx, hcx⟩ := (HRR.out).atI hjt
          have HVV : Hid (AllEl v ∧ v.length = cols q) := ⟨(validV_true.1 (HQV.out v (List.mem_of_getElem? hv.out)).1).1, (HQV.out v (List.mem_of_getElem? hv.out)).2⟩
          have hyv : ys.length = v.length := by rw [HYL.out, HVV.out.2]
          have CC := Lib.hid (addScaled_ok g1 g2 ra1 rb rc1 rd ys v x wr.drew t2 (fun w' hs => hrv.ext (Span.ext (he.trans D0) (t4 w' hs) (Nat.le_refl _))) hyv (by rw [HVV.out.2]; exact hcq) HYA.out HVV.out.1 (HR.out.1 x (List.mem_of_getElem? hx.out)))
          have HN2 : Hid (cmbTo (cols q) q r (j + 1) = addS ys v x) := by rw [hys.out]; exact cmbTo_succ hv.out hx.out
          have HT3 : Hid (∀ w', OI w' g1 g2 ra1 rc1 (addS ys v x) → Span g1 g2 wr.drew w' → OM w' w.heap.size C2 (some ⟨gb, 0, none⟩) p.length (Z.set k (cmbTo (cols q) q r (j + 1))) ∧ C2 ≤ w'.heap.size ∧ Ext w w') := fun w' h1 h2 => by
            refine ⟨?_, Nat.le_trans hC h2.size, Span.ext (he.trans D0) (t4 w' h2) (Nat.le_refl _)⟩
            have := t3 w' _ h1 (addS_len hyv _) h2
            rw [List.set_set] at this
            rw [HN2.out]
            exact this
          have hcw : wr.cell? ⟨gb, k, none⟩ = some (.slice ra1 ys.length rc1) := hcell
          have hcvw := he.cell hcv
          have hcxw := he.cell hcx
          have i2 : (j : Int) < (r.length : Int) := by omega
          have i3 : (j : Int) < (q.length : Int) := by omega
          clear t2 t3 t4 hgd hyv hcv hcx hrv he ho hab D0 hv hx
          go_wp2_with fail
          go_region_with (go_at_call 88; (with_reducible refine CC.out.mono ?_); rintro e w3 ⟨rfl, o3, s3⟩)
          all_goals (
            obtain ⟨M3, S3, E3⟩ := HT3.out _ o3 s3
            clear o3 s3
            go_wp2_with fail
            go_roundw
            case rel => exact ⟨j + 1, by omega, by go_num, M3, S3, E3⟩
            case measure => simp [intOf]; omega)
        · obtain rfl : j = r.length := by omega
          have hrq := HR.out.2
          rw [hrq, ← HN.out] at ho
          have M4 := ho.mono (C := w.heap.size) (C2 := wr.heap.size) (Nat.le_refl _) hC
          have HE4 := Lib.hid he
          clear ho he hrq
          go_wp2_with fail
          go_roundw
          case rel => exact ⟨k + 1, by omega, by go_num, M4, HE4.out⟩
          case measure => simp [intOf]; omega
    · obtain rfl : k = p.length := by omega
      rw [mulTo_all] at ho
      go_wp2_with fail
      go_ret
      have hll : (mulL p q).length = p.length := by unfold mulL; rw [List.length_map]
      refine ⟨_, _, ?_, ho, he⟩
      rw [hll]
      rfl

end Go.Proofs.Ytninamlcffemoaa
