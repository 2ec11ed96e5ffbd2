/- Contract of the program's Transpose on a valid matrix. -/
import Derived.Test.YtninamlcffemoaaMul
import Derived.Deep.RegionLaw
namespace Go.Proofs.Ytninamlcffemoaa
open Go.RowKit
set_option linter.unusedVariables false
set_option maxRecDepth 20000

/-- The transpose. -/
def trL (m : List (List Int)) : List (List Int) := (List.range (cols m)).map fun c => m.map fun r => ent r c
def trTo (m : List (List Int)) (k : Nat) : List (List Int) := (List.range (cols m)).map fun c => if c < k then m.map fun r => ent r c else []
theorem trTo_length (m : List (List Int)) (k : Nat) : (trTo m k).length = cols m := by simp [trTo]
theorem trTo_zero (m : List (List Int)) : trTo m 0 = List.replicate (cols m) [] := by
  apply List.ext_getElem?
  intro j
  unfold trTo
  rw [List.getElem?_map, List.getElem?_replicate]
  by_cases hj : j < cols m
  · simp [hj]
  · simp [hj]
theorem trTo_all (m : List (List Int)) : trTo m (cols m) = trL m := by
  unfold trTo trL
  refine List.map_congr_left fun c hc => ?_
  rw [if_pos (List.mem_range.1 hc)]
theorem trTo_get {m : List (List Int)} {k c : Nat} (hc : c < cols m) : (trTo m k)[c]? = some (if c < k then m.map (fun r => ent r c) else []) := by
  unfold trTo
  simp [hc]
theorem trTo_self {m : List (List Int)} {k : Nat} (hk : k < cols m) : (trTo m k).set k [] = trTo m k := by
  apply List.ext_getElem?
  intro j
  rw [List.getElem?_set]
  by_cases e : k = j
  · subst e
    rw [if_pos rfl, if_pos (by rw [trTo_length]; exact hk), trTo_get hk, if_neg (by omega)]
  · rw [if_neg e]
theorem trTo_succ {m : List (List Int)} {k : Nat} (hk : k < cols m) : (trTo m k).set k (m.map fun r => ent r k) = trTo m (k + 1) := by
  apply List.ext_getElem?
  intro j
  rw [List.getElem?_set]
  by_cases e : k = j
  · subst e
    rw [if_pos rfl, if_pos (by rw [trTo_length]; exact hk), trTo_get hk, if_pos (by omega)]
  · rw [if_neg e]
    by_cases hj : j < cols m
    · rw [trTo_get hj, trTo_get hj]
      by_cases h : j < k
      · rw [if_pos h, if_pos (by omega)]
      · rw [if_neg h, if_neg (by omega)]
    · rw [List.getElem?_eq_none (by rw [trTo_length]; omega), List.getElem?_eq_none (by rw [trTo_length]; omega)]

/-- A row grows by an append, and its head is stored anew. -/
theorem OM.rowApp {w : World} {B C g c i : Nat} {xss : List (List Int)} (h : OM w B C (some ⟨g, 0, none⟩) c xss) (hi : i < xss.length) (hC : C ≤ w.heap.size) :
    ∃ ra rc, w.cell? ⟨g, i, none⟩ = some (.slice ra (xss.getD i []).length rc) ∧ w.frozen? ⟨g, i, none⟩ = false ∧ OwnI w B ra rc (xss.getD i []) ∧ (∀ k, blockOf ra = some k → B ≤ k ∧ k ≠ g) ∧ B ≤ g ∧ g < w.heap.size ∧
      (∀ a' c' w' ys, OwnI w' B a' c' ys → w.grownBy w' (blockOf ra) → (blockOf a' = blockOf ra ∨ blockOf a' = some w.heap.size) →
        w'.cell? ⟨g, i, none⟩ = w.cell? ⟨g, i, none⟩ ∧ w'.frozen? ⟨g, i, none⟩ = false ∧ OM (w'.setCell ⟨g, i, none⟩ (.slice a' ys.length c')) B w'.heap.size (some ⟨g, 0, none⟩) c (xss.set i ys)) := by
  obtain ⟨rs, q1, q2, q3⟩ := h
  have hir : i < rs.length := by rw [q3.len]; exact hi
  obtain ⟨⟨ra, rc⟩, hr⟩ : ∃ r, rs[i]? = some r := ⟨_, List.getElem?_eq_getElem hir⟩
  have hx : xss[i]? = some (xss.getD i []) := by simp [List.getD, hi]
  have hrow := q3.row i _ _ hr hx
  have hap : ∀ k, blockOf ra = some k → k ≠ g := fun k hk e => by subst e; exact block_ne q1 hrow.1 ints_ne k rfl hk
  have hgb := ownsRow_block q1 g rfl
  have hfz := q1.frozenAt i
  refine ⟨ra, rc, ?_, hfz, hrow.1, fun k hk => ⟨(hrow.1.block k hk).1, hap k hk⟩, hgb.1, hgb.2, fun a' c' w' ys ho hg hb => ?_⟩
  · rw [q1.cellAt i (by omega), RV_get, hr, hx]
    rfl
  · have hne : blockOf ra ≠ some g := fun e => hap g e rfl
    have hblk : w'.heap[g]? = w.heap[g]? := hg.block g hgb.2 (fun e => hne e.symm)
    have q1' : w'.ownsRow B 36 1 (.slice (some ⟨g, 0, none⟩) xss.length c) xss.length (RV rs xss) := ownsRow_of_block q1 (fun k hk => by
      have : g = k := by simpa [blockOf] using hk
      subst this; exact hblk)
    have s := q1'.stored i (.slice a' ys.length c')
    have hsz := hg.size
    have hold : ∀ k, blockOf a' = some k → (blockOf ra = some k ∨ k = w.heap.size) := fun k hk => by
      rcases hb with hb | hb
      · exact .inl (by rw [← hb]; exact hk)
      · rw [hk] at hb; injection hb with hb; exact .inr hb
    have rows' : RowsO w' B w'.heap.size (rs.set i (a', c')) (xss.set i ys) := by
      refine ⟨by rw [List.length_set, List.length_set, q3.len], fun j r xs hj hx2 => ?_, fun j k r r' hjk hj hk => ?_⟩
      · by_cases e : j = i
        · subst e
          rw [List.getElem?_set_self hir] at hj
          rw [List.getElem?_set_self hi] at hx2
          injection hj with hj
          injection hx2 with hx2
          subst hj hx2
          exact ⟨ho, fun k hk => (ho.block k hk).2⟩
        · rw [List.getElem?_set_ne (by omega)] at hj hx2
          have h1 := q3.row j r xs hj hx2
          refine (h1.kept hg ?_).mono (Nat.le_refl _) (by omega)
          cases hbr : blockOf r.1 with
          | none => exact .inl rfl
          | some k =>
            refine .inr fun e2 => ?_
            rcases Nat.lt_or_gt_of_ne e with hlt | hgt
            · exact q3.apart j i r (ra, rc) hlt hj hr k hbr e2.symm
            · exact q3.apart i j (ra, rc) r hgt hr hj k e2.symm hbr
      · by_cases e1 : j = i
        · subst e1
          rw [List.getElem?_set_self hir] at hj
          rw [List.getElem?_set_ne (by omega)] at hk
          injection hj with hj
          subst hj
          intro b hb1 hb2
          have hkx : xss[k]? = some (xss.getD k []) := getD_get (by rw [← q3.len]; exact (List.getElem?_eq_some_iff.1 hk).1)
          rcases hold b hb1 with h1 | h1
          · exact q3.apart j k (ra, rc) r' hjk hr hk b h1 hb2
          · have := ((q3.row k r' _ hk hkx).1.block b hb2).2
            omega
        · rw [List.getElem?_set_ne (by omega)] at hj
          have hjx : xss[j]? = some (xss.getD j []) := getD_get (by rw [← q3.len]; exact (List.getElem?_eq_some_iff.1 hj).1)
          by_cases e2 : k = i
          · subst e2
            rw [List.getElem?_set_self hir] at hk
            injection hk with hk
            subst hk
            intro b hb1 hb2
            rcases hold b hb2 with h1 | h1
            · exact q3.apart j k r (ra, rc) hjk hj hr b hb1 h1
            · have := ((q3.row j r _ hj hjx).1.block b hb1).2
              omega
          · rw [List.getElem?_set_ne (by omega)] at hk
            exact q3.apart j k r r' hjk hj hk
    refine ⟨World.cell?_of_block hblk, (World.frozen?_of_block hblk).trans hfz, rs.set i (a', c'), ?_, fun k hk => ?_, ?_⟩
    · rw [List.length_set, ← RV_put rs xss q3.len]
      exact s.1
    · have : g = k := by simpa [blockOf] using hk
      omega
    · exact rows'.top_kept q1' s.2

set_option maxHeartbeats 8000000 in
set_option maxRecDepth 100000 in
theorem implTranspose_ok (a : Option Addr) (c : Nat) (m : List (List Int)) (w : World) (h : MatR w a m) (hm : validM m = true) :
    Calls Try.prog 32 #[.slice a m.length c] w (NewM w (trL m)) := by
  obtain ⟨hmv, hm40⟩ := validM_true.1 hm
  have hmr : ∀ xs ∈ m, xs.length ≤ 1099511627776 := fun xs hx => by have := (validV_true.1 (hmv xs hx).1).2; omega
  have Q1 := implIsValidMatrix_ok a c m w h (by omega) hmr
  rw [hm] at Q1
  replace Q1 := Lib.hid Q1
  have HMV := Lib.hid hmv
  have HA := Lib.hid h
  have hcq : cols m ≤ 40 := cols_le hmv
  obtain ⟨i, hi, hz0, hz1, hz2⟩ := info_parts infoInts
  clear hmv h hmr hm
  go_enter Try.func32, Try.ntmps32
  go_wp2_with fail
  (with_reducible refine Q1.out.mono ?_)
  rintro e w1 ⟨rfl, n1, rfl⟩
  have E0 := (Ext.refl w).drewN n1
  obtain ⟨w0, hw0⟩ : ∃ w0, w0 = w.drewN n1 := ⟨_, rfl⟩
  rw [← hw0] at E0 ⊢
  clear Q1 hw0
  have HC0 := Lib.hid (implColumnsOf_ok a c m w0 (HA.out.ext E0))
  go_wp2_with (first
    | (go_at_call 81; (with_reducible refine HC0.out.mono ?_); rintro e w' ⟨rfl, rfl⟩)
    | (at_make; refine wpList_make_full _ rfl _ _ 22 rfl w0.heap.size 36 i (.slice none 0 0) 1 Try.underlying22 hi hz0 hz1 _ _ _ _ (cols m) rfl rfl rfl rfl ?b1 ?b2 (Nat.le_refl _) ?_))
  case b1 => rw [hz2]; omega
  case b2 => unfold maxLen; omega
  intro u1 hown hgrow
  obtain ⟨gb, hgb⟩ : ∃ gb, gb = w0.heap.size := ⟨_, rfl⟩
  rw [← hgb] at hown ⊢
  have e1 := E0.grown hgrow (by simp)
  have hz := E0.size_le
  have hzu : gb < u1.heap.size := (ownsRow_block hown gb rfl).2
  have o1 : OM u1 w.heap.size u1.heap.size (some ⟨gb, 0, none⟩) (cols m) (trTo m 0) := by
    rw [trTo_zero]
    refine OM.mono (B := gb) (B2 := u1.heap.size) ⟨List.replicate (cols m) (none, 0), ?_, ?_, RowsO.nils _ _ _ _⟩ (by omega) (Nat.le_refl _)
    · rw [RV_nils, List.length_replicate]
      simpa [Value.cells, toList_madeCells_one] using hown
    · intro k hk
      simp [blockOf] at hk
      omega
  clear hown hgrow HC0 E0 hz hgb
  go_wp2_with fail
  go_loopw [15] (fun i wr => ∃ k : Nat, k ≤ cols m ∧ i = .int .i64 k ∧ OM wr w.heap.size wr.heap.size (some ⟨gb, 0, none⟩) (cols m) (trTo m k) ∧ Ext w wr) (fun i _ => cols m - (intOf i).toNat)
  case atStart => exact ⟨0, Nat.zero_le _, rfl, o1, e1⟩
  case round =>
    clear o1 e1 hzu
    obtain ⟨k, hk, rfl, ho, he⟩ := hrel
    by_cases hlt : k < cols m
    · obtain ⟨wq, hwq⟩ : ∃ wq, wq = wr := ⟨_, rfl⟩
      subst hwq
      have i1 : (k : Int) < (cols m : Int) := by omega
      obtain ⟨Z, hZ⟩ : ∃ Z, Hid (Z = trTo m k) := ⟨_, rfl⟩
      rw [← hZ.out] at ho
      have hkz : k < Z.length := by rw [hZ.out, trTo_length]; exact hlt
      have HZ0 : Hid (Z.set k [] = Z) := by rw [hZ.out]; exact trTo_self hlt
      have HN : Hid (trTo m (k + 1) = Z.set k (m.map fun r => ent r k)) := by rw [hZ.out]; exact (trTo_succ hlt).symm
      have O3 : OM wq w.heap.size wq.heap.size (some ⟨gb, 0, none⟩) (cols m) (Z.set k ((m.take 0).map fun r => ent r k)) := by
        show OM wq _ _ _ _ (Z.set k [])
        rw [HZ0.out]; exact ho
      have E3 := he
      clear ho he
      go_wp2_with fail
      go_loopw [20] (fun i wz => ∃ j : Nat, j ≤ m.length ∧ i = .int .i64 j ∧ OM wz w.heap.size wz.heap.size (some ⟨gb, 0, none⟩) (cols m) (Z.set k ((m.take j).map fun r => ent r k)) ∧ Ext w wz) (fun i _ => m.length - (intOf i).toNat)
      case atStart => exact ⟨0, Nat.zero_le _, rfl, O3, E3⟩
      case round =>
        clear O3 E3
        obtain ⟨j, hj, rfl, ho, he⟩ := hrel
        by_cases hjt : j < m.length
        · obtain ⟨b1, o1, ra, rc, r, rfl, hb1, hr, hcr, hrr⟩ := HA.out.at_ hjt
          have hrl : r.length = cols m := (HMV.out r (List.mem_of_getElem? hr.out)).2
          obtain ⟨b2, o2, x, rfl, hb2, hx, hcx⟩ := hrr.atI (k := k) (by omega)
          obtain ⟨ys, hys⟩ : ∃ ys, Hid (ys = (m.take j).map fun r => ent r k) := ⟨_, rfl⟩
          rw [← hys.out] at ho
          have hgd : (Z.set k ys).getD k [] = ys := by simp [List.getD, hkz]
          have D0 : Ext wr wr.drew := (Ext.refl _).drew
          obtain ⟨zs, hzs⟩ : ∃ zs, Hid (zs = ys ++ [x]) := ⟨_, rfl⟩
          have HZ2 : Hid (zs = (m.take (j + 1)).map fun r => ent r k) := by
            rw [hzs.out, hys.out, List.take_add_one, hr.out, List.map_append]
            simp [ent_some hx.out, Hid]
          have hyl : ys.length ≤ 40 := by rw [hys.out, List.length_map, List.length_take]; omega
          have X5 := (Ext.refl wr.drew).alloc (.cells (I [x]).toArray 3)
          obtain ⟨ra1, rc1, hcell, hfz, hown, hob, hwg, hgs, hnext⟩ := ((ho.ext D0).ext X5).rowApp (i := k) (by rw [List.length_set]; exact hkz) (by simp)
          rw [hgd] at hcell hown
          obtain ⟨ra2, rc2, hcw, _, _, _⟩ := ho.row (i := k) (by rw [List.length_set]; exact hkz)
          rw [hgd] at hcw
          have e12 : ra2 = ra1 ∧ rc2 = rc1 := by
            have := X5.cell (D0.cell hcw)
            rw [hcell] at this
            injection this with this
            injection this with h1 h2 h3
            exact ⟨h1.symm, h3.symm⟩
          obtain ⟨rfl, rfl⟩ := e12
          have hgs2 : gb < wr.heap.size := World.block_lt_of_cell? _ _ hcw
          have hcrw := he.cell hcr
          have hcxw := he.cell hcx
          have hbx : b2 < wr.heap.size := by have := he.size_le; omega
          have HNX := Lib.hid hnext
          have HOB := Lib.hid hob
          have HOW := Lib.hid hown
          have HE := Lib.hid ((he.trans D0).trans X5)
          have hnew := Lib.hid (Vals.new wr.drew [.int .i64 x] 3)
          have hwb : w.heap.size ≤ (wr.drew.alloc (.cells (I [x]).toArray 3)).heap.size := by have := he.size_le; simp; omega
          have i2 : (j : Int) < (m.length : Int) := by omega
          have i3 : (k : Int) < (r.length : Int) := by omega
          clear ho he hown hnext hob hfz X5 D0 hgd hcr hcx hrr hx hr hys
          go_wp2_with fail
          go_region_law (refine step_appI _ (by rfl) _ _ (by rfl) w.heap.size _ _ ys (by rfl) HOW.out _ _ [x] (by rfl) hnew.out zs hzs.out (by simp; omega) hwb ?_; intro a7 c7 w7 o7 g7 b7; obtain ⟨n1, n2, n3⟩ := HNX.out a7 c7 w7 zs o7 g7 b7; have n1' := n1.trans hcell)
          all_goals (
            have HEE := Lib.hid ((HE.out.grown g7 (fun k hk => (HOB.out k hk).1)).setCell (p := ⟨gb, k, none⟩) hwg (.slice a7 zs.length c7))
            have M7 := Lib.hid (n3.mono (C := w.heap.size) (C2 := (w7.setCell ⟨gb, k, none⟩ (.slice a7 zs.length c7)).heap.size) (Nat.le_refl _) (by simp))
            clear n3 n1 n1' n2 g7 b7 o7 HE HOB HOW HNX hnew hcell hcw hcrw hcxw
            go_wp2_with fail
            go_roundw
            case rel => exact ⟨j + 1, by omega, by go_num, by rw [← HZ2.out, ← List.set_set (b := zs) ys]; exact M7.out, HEE.out⟩
            case measure => simp [intOf]; omega)
        · obtain rfl : j = m.length := by omega
          rw [List.take_length, ← HN.out] at ho
          have HO := Lib.hid ho
          have HE := Lib.hid he
          clear ho he
          go_wp2_with fail
          go_roundw
          case rel => exact ⟨k + 1, by omega, by go_num, HO.out, HE.out⟩
          case measure => simp [intOf]; omega
    · obtain rfl : k = cols m := by omega
      rw [trTo_all] at ho
      go_wp2_with fail
      go_ret
      have hll : (trL m).length = cols m := by unfold trL; simp
      refine ⟨_, _, ?_, ho, he⟩
      rw [hll]
      rfl

end Go.Proofs.Ytninamlcffemoaa
