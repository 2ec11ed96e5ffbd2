/- Draws of bytes with a width, and of symbols: contracts of DrawBytesToSymbols, DrawSymbolsToBytes. -/
import Derived.Test.YtkegknophppdgaaDry
import Derived.Test.YtkegknophppdgaaDrm
import Derived.Test.YtkegknophppdgaaSym2
namespace Go.Proofs.Ytkegknophppdgaa
open Go.RowKit
set_option linter.unusedVariables false
set_option maxRecDepth 20000

/-- Drawn bytes and a drawn width. -/
def DBW (w : World) (e : Ending) (w' : World) : Prop := ∃ a2 c2 zs, ∃ m : Int, e = .returned (.tuple #[.slice a2 zs.length c2, .int .i64 m]) ∧ (AllB zs ∧ zs.length ≤ 401 ∧ zs.length ≤ c2 ∧ 0 ≤ m ∧ m ≤ 17) ∧ Vals w' a2 (Y zs) ∧ Ext w w'

set_option maxHeartbeats 2000000 in
theorem drawBytesW_ok (a : Option Addr) (c : Nat) (bs : List Int) (w : World) (h : Vals w a (Y bs)) (hb : ∀ x ∈ bs, 0 ≤ x ∧ x ≤ 255) (hl : bs.length ≤ 1048576) :
    Calls Try.prog 73 #[.slice a bs.length c] w (DBW w) := by
  have C1 := Lib.hid (l1New_ok a c bs w h hb hl)
  have CI := Lib.hid (fun g => l1Int_ok g a c bs)
  have CY := Lib.hid (fun W (n : Nat) g (hW : Cur W g a c bs) (hn : n ≤ 100000) => l1Bytes_ok g a c bs n W hW hn)
  clear h hb
  go_enter Try.func73, Try.ntmps73
  go_wp2_with fail
  (with_reducible refine C1.out.mono ?_)
  rintro e w1 ⟨rfl, k1, e1⟩
  obtain ⟨g, hgg⟩ : ∃ g, w.heap.size = g := ⟨_, rfl⟩
  rw [hgg] at k1 ⊢
  have hg1 := k1.lt
  have LV := Lib.hid (lit_span (w := w1) (g := g) hg1 [0, 1, 5, 9, 200, 400, 401] 3)
  have KL := Lib.hid (k1.ext ((Ext.refl w1).alloc (.cells (I [0, 1, 5, 9, 200, 400, 401]).toArray 3)))
  have E1 := Lib.hid (e1.alloc (.cells (I [0, 1, 5, 9, 200, 400, 401]).toArray 3))
  clear k1 e1
  go_wp2_with fail
  refine (CI.out g (some ⟨w1.heap.size, 0, none⟩) 7 [0, 1, 5, 9, 200, 400, 401] _ KL.out LV.out (by simp) (by simp)).mono ?_
  rintro e w2 ⟨x, rfl, hx, k2, s2⟩
  have hx2 : 0 ≤ x ∧ x ≤ 401 := by simp at hx; omega
  obtain ⟨n, rfl⟩ := Int.eq_ofNat_of_zero_le hx2.1
  have hn : n ≤ 401 := by omega
  have E2 : Ext w w2 := Span.ext E1.out s2 (by omega)
  clear hx hx2 LV KL s2 E1
  go_wp2_with fail
  (with_reducible refine (CY.out _ _ _ k2 (by omega)).mono ?_)
  rintro e w3 ⟨a3, c3, zs, rfl, ⟨HZL, HZB⟩, o3, k3, s3⟩
  have hg2 := k2.lt
  have hg3 := k3.lt
  have LV := Lib.hid (lit_span (w := w3) (g := g) hg3 [0, 1, 2, 3, 7, 16, 17] 3)
  have KL := Lib.hid (k3.ext ((Ext.refl w3).alloc (.cells (I [0, 1, 2, 3, 7, 16, 17]).toArray 3)))
  have E3 := Lib.hid ((Span.ext E2 s3 (by omega)).alloc (.cells (I [0, 1, 2, 3, 7, 16, 17]).toArray 3))
  have o3' := o3.ext ((Ext.refl w3).alloc (.cells (I [0, 1, 2, 3, 7, 16, 17]).toArray 3))
  clear k2 k3 s3 E2 o3
  go_wp2_with fail
  refine (CI.out g (some ⟨w3.heap.size, 0, none⟩) 7 [0, 1, 2, 3, 7, 16, 17] _ KL.out LV.out (by simp) (by simp)).mono ?_
  rintro e w4 ⟨m, rfl, hm, k4, s4⟩
  have hm2 : 0 ≤ m ∧ m ≤ 17 := by simp at hm; omega
  have o4 := ((OB.of o3').span s4 (.inr hg2)).1
  have E4 : Ext w w4 := Span.ext E3.out s4 (by omega)
  have hzl : zs.length ≤ 401 := by rw [HZL.out]; omega
  clear hm k4 s4 LV KL E3 o3'
  go_wp2_with fail
  go_ret2
  exact ⟨a3, c3, zs, m, rfl, ⟨HZB.out, hzl, o4.cap, hm2.1, hm2.2⟩, o4.vals, E4⟩

theorem syms_small {ds : List Int} {m : Nat} (hm : 1 ≤ m ∧ m ≤ 16) (hl : ds.length ≤ 400) : 1 ≤ (syms ds m).length ∧ (syms ds m).length ≤ ds.length + 7 ∧ (∀ xs ∈ syms ds m, xs.length = m) := by
  have hin : inR (m : Int) 1 16 = true := inR_true.2 (by omega)
  rw [syms_yes hin hl, symTo_length]
  have h1 := encBytes_len ds
  have h2 : 1 ≤ (encBytes [] ds).length := by
    unfold encBytes
    have : 1 ≤ (uv ds.length).length := by
      rw [uv_in (inR_true.2 (by omega))]
      unfold uvF
      split <;> simp
    simp only [List.length_append]
    omega
  refine ⟨?_, ?_, fun xs hx => ?_⟩
  · unfold symN
    exact (Nat.le_div_iff_mul_le (by omega)).2 (by omega)
  · unfold symN
    have : ((encBytes [] ds).length + m - 1) / m ≤ (encBytes [] ds).length := by
      rw [Nat.div_le_iff_le_mul_add_pred (by omega)]
      have : (encBytes [] ds).length ≤ m * (encBytes [] ds).length := Nat.le_mul_of_pos_left _ (by omega)
      omega
    omega
  · unfold symTo at hx
    obtain ⟨i, _, rfl⟩ := List.mem_map.1 hx
    exact symRow_length _ _ _

/-- A row of owned rows is written in its place. -/
theorem OM.editG {w : World} {B C : Nat} {a : Option Addr} {c : Nat} {xss : List (List Int)} (h : OM w B C a c xss) {i : Nat} (hi : i < xss.length) :
    ∃ b ra rc g g2, a = some ⟨b, 0, none⟩ ∧ w.cell? ⟨b, i, none⟩ = some (.slice ra (xss.getD i []).length rc) ∧ OI w g g2 ra rc (xss.getD i []) ∧ B ≤ b ∧ b < C ∧ OI w B C ra rc (xss.getD i []) ∧
      (∀ w' ys, OI w' g g2 ra rc ys → ys.length = (xss.getD i []).length → Span g g2 w w' → OM w' B C a c (xss.set i ys)) ∧ (∀ w', Span g g2 w w' → Span B C w w') := by
  obtain ⟨rs, q1, q2, q3⟩ := h
  have hir : i < rs.length := by rw [q3.len]; exact hi
  obtain ⟨⟨ra, rc⟩, hr⟩ : ∃ r, rs[i]? = some r := ⟨_, List.getElem?_eq_getElem hir⟩
  have hx : xss[i]? = some (xss.getD i []) := by simp [List.getD, hi]
  have hrow := q3.row i _ _ hr hx
  obtain ⟨g, g2, r1, r2, r3, r4⟩ := hrow.alone
  obtain ⟨b, rfl, hb1, hb2, _⟩ := OM.form ⟨rs, q1, q2, q3⟩ (show 0 < xss.length by omega)
  refine ⟨b, ra, rc, g, g2, rfl, ?_, r1, hb1, hb2, hrow, fun w' ys o hl hs => ?_, r4⟩
  · rw [q1.cellAt i (by omega), RV_get, hr, hx]
    rfl
  · have hkeep : ∀ k, k < w.heap.size → blockOf ra ≠ some k → w'.heap[k]? = w.heap[k]? := fun k hk hne => hs.block k hk (by
      rcases Nat.lt_or_ge k g with h | h
      · exact .inl h
      · rcases Nat.lt_or_ge k g2 with h' | h'
        · exact absurd (r2 k h h') hne
        · exact .inr h')
    refine ⟨rs, ?_, q2, q3.set hr (r3 _ _ o) hkeep⟩
    rw [RV_set hx hl, List.length_set]
    exact ownsRow_of_block q1 fun k' hk' => hkeep k' (ownsRow_block q1 k' hk').2 (fun e => block_ne q1 hrow.1 ints_ne k' hk' e)

set_option maxHeartbeats 4000000 in
set_option maxRecDepth 100000 in
theorem drawSymbols_ok (a : Option Addr) (c : Nat) (bs : List Int) (w : World) (h : Vals w a (Y bs)) (hb : ∀ x ∈ bs, 0 ≤ x ∧ x ≤ 255) (hl : bs.length ≤ 1048576) :
    Calls Try.prog 75 #[.slice a bs.length c] w (DM w) := by
  have C1 := Lib.hid (l1New_ok a c bs w h hb hl)
  have CB := Lib.hid (fun W n g (hW : Cur W g a c bs) (hn : n ≤ 1000000000) => l1Below_ok g a c bs n W hW hn)
  have CI := Lib.hid (fun g => l1Int_ok g a c bs)
  have CY := Lib.hid (fun W (n : Nat) g (hW : Cur W g a c bs) (hn : n ≤ 100000) => l1Bytes_ok g a c bs n W hW hn)
  have CO := Lib.hid (fun W (he : Ext w W) => l6One_ok a c bs W (h.ext he) hb hl)
  obtain ⟨i, hi, hz0, hz1, hz2⟩ := info_parts infoInt
  clear h hb
  go_enter Try.func75, Try.ntmps75
  go_wp2_with fail
  (with_reducible refine C1.out.mono ?_)
  rintro e w1 ⟨rfl, k1, e1⟩
  obtain ⟨g, hgg⟩ : ∃ g, w.heap.size = g := ⟨_, rfl⟩
  rw [hgg] at k1 ⊢
  have hg1 := k1.lt
  go_wp2_with fail
  (with_reducible refine (CB.out _ _ _ k1 (by omega)).mono ?_)
  rintro e w2 ⟨x, rfl, x0, x1, k2, s2⟩
  obtain ⟨q, rfl⟩ := Int.eq_ofNat_of_zero_le x0
  have E2 : Ext w w2 := Span.ext e1 s2 (by omega)
  have hg2 := k2.lt
  go_wp2_with fail
  (with_reducible refine (CY.out _ _ _ k2 (by omega)).mono ?_)
  rintro e w3 ⟨a3, c3, zs, rfl, ⟨HZL, HZB⟩, o3, k3, s3⟩
  have E3 : Ext w w3 := Span.ext E2 s3 (by omega)
  clear k1 e1 s2 k2 E2 s3
  go_wp2_with fail
  (with_reducible refine (CB.out _ _ _ k3 (by omega)).mono ?_)
  rintro e w4 ⟨y, rfl, y0, y1, k4, s4⟩
  obtain ⟨r, rfl⟩ := Int.eq_ofNat_of_zero_le y0
  have o4 := ((OB.of o3).span s4 (.inr hg2)).1
  have E4 : Ext w w4 := Span.ext E3 s4 (by omega)
  have hzl : zs.length ≤ 8 := by rw [HZL.out]; omega
  have hr : r ≤ 3 := by omega
  have CS := specBytesToSymbols_ok a3 c3 zs ((1 + r : Nat) : Int) w4 o4.vals (by omega) HZB.out
  obtain ⟨s1, s2, s3⟩ := syms_small (ds := zs) (m := 1 + r) (by omega) (by omega)
  obtain ⟨xss, hxs⟩ : ∃ xss, Hid (xss = syms zs ((1 + r : Nat) : Int)) := ⟨_, rfl⟩
  rw [← hxs.out] at CS s1 s2 s3
  have hx1 : xss.length ≤ 15 := by omega
  have HROW := Lib.hid s3
  rw [show ((1 + r : Nat) : Int) = 1 + (r : Int) by omega] at CS
  have HCS := Lib.hid CS
  have hg4 := k4.lt
  clear CS s2 s3 s4 E3 o3 k3 hxs y0 y1
  go_wp2_with fail
  (with_reducible refine HCS.out.mono ?_)
  rintro e w5 ⟨a5, c5, rfl, o5, e5⟩
  have k5 := k4.ext e5
  have E5 := E4.trans e5
  have z5 := e5.size_le
  clear HCS o4 e5 k4 E4
  go_wp2_with fail
  (with_reducible refine (CB.out _ _ _ k5 (by omega)).mono ?_)
  rintro e w6 ⟨x, rfl, x0, x1, k6, s6⟩
  have o6 := o5.span s6 (.inr hg4)
  have E6 : Ext w w6 := Span.ext E5 s6 (by omega)
  have z6 := s6.size
  have HB81 : Hid (∀ xs ∈ xss, xs.length ≤ 81) := fun xs hx => by have := HROW.out xs hx; omega
  clear k5 s6 o5 E5
  by_cases e0 : x = 0
  · subst e0
    obtain ⟨b, ra, rc, g1, g2, rfl, hc, _, hb4, hb5, hrow, _, _⟩ := o6.editG (show 0 < xss.length by omega)
    obtain ⟨xs, hxs⟩ : ∃ xs, Hid (xs = xss.getD 0 []) := ⟨_, rfl⟩
    have hxm : xs.length = 1 + r := by
      rw [hxs.out]
      exact HROW.out _ (List.mem_of_getElem? (getD_get (by omega)))
    rw [← hxs.out] at hc hrow
    have hxl : xs.length ≤ 4 := by omega
    have hxp : 0 < xs.length := by omega
    have hxp' : (0 : Int) < (xs.length : Int) := by omega
    obtain ⟨ga, rfl, hga1, hga2, _⟩ := hrow.form hxp
    have hc0 : w6.cell? ⟨b, 0, none⟩ = some (.slice (some ⟨ga, 0, none⟩) xs.length rc) := hc
    have j1 : (0 : Int) < (xss.length : Int) := by omega
    have j2 : 0 < xss.length := by omega
    have D0 : Ext w6 w6.drew := (Ext.refl w6).drew
    have hcd := D0.cell hc0
    have nb : b < g ∨ g + 1 ≤ b := .inr (by omega)
    have hg6 := k6.lt
    have LV := Lib.hid (lit_span (w := w6.drew) (g := g) hg6 [-1, 0, 3, 255, 256] 3)
    have KL := Lib.hid ((k6.ext D0).ext ((Ext.refl w6.drew).alloc (.cells (I [-1, 0, 3, 255, 256]).toArray 3)))
    have HCL := Lib.hid (((Ext.refl w6.drew).alloc (.cells (I [-1, 0, 3, 255, 256]).toArray 3)).cell hcd)
    have E7 := Lib.hid ((E6.trans D0).alloc (.cells (I [-1, 0, 3, 255, 256]).toArray 3))
    have HROWS := Lib.hid (o6.ext (D0.alloc (.cells (I [-1, 0, 3, 255, 256]).toArray 3)))
    have HRB := Lib.hid (hrow.ext (D0.alloc (.cells (I [-1, 0, 3, 255, 256]).toArray 3)))
    have NB := Lib.hid nb
    have ST : Hid (∀ w7 y, Span g (g + 1) (w6.drew.alloc (.cells (I [-1, 0, 3, 255, 256]).toArray 3)) w7 → (∃ u, w7.cell? ⟨ga, 0, none⟩ = some u) ∧ w7.frozen? ⟨ga, 0, none⟩ = false ∧ w7.cell? ⟨b, 0, none⟩ = some (.slice (some ⟨ga, 0, none⟩) xs.length rc) ∧ DM w (.returned (.slice (some ⟨b, 0, none⟩) xss.length c5)) (w7.setCell ⟨ga, 0, none⟩ (.int .i64 y))) := fun w7 y hs => by
      have f7 := (HRB.out.span hs (.inr (by omega))).store 0 y hxp
      obtain ⟨s1, s2, s3, u, s4⟩ := f7
      have hcw := hs.cell HCL.out NB.out
      have m7 := HROWS.out.span hs (.inr (by omega))
      obtain ⟨b', ra', rc', g1', g2', hbe, hc', hr', _, _, _, hput, _⟩ := m7.editG (show 0 < xss.length by omega)
      injection hbe with hbe
      obtain rfl : b = b' := by simpa using hbe
      rw [← hxs.out] at hc' hr' hput
      rw [hcw] at hc'
      injection hc' with hc'
      injection hc' with h1 h2 h3
      subst h1 h3
      obtain ⟨t1, t2, _⟩ := hr'.store 0 y hxp
      have m8 := hput _ _ t1 (by rw [List.length_set]) t2
      refine ⟨⟨u, s4⟩, s3, hcw, some ⟨b, 0, none⟩, c5, xss.set 0 (xs.set 0 y), by rw [List.length_set], ⟨by rw [List.length_set]; omega, fun v hv => ?_⟩, m8.reads, ?_⟩
      · rcases List.mem_or_eq_of_mem_set hv with h | h
        · exact HB81.out v h
        · rw [h, List.length_set]; omega
      · exact Span.ext (Span.ext E7.out hs (by omega)) s2 (by have := E6.size_le; omega)
    replace hxm := Lib.hid hxm
    have zz := E6.size_le
    have nb1 : b < w6.heap.size := by omega
    have nb2 : b ≠ w6.heap.size := by omega
    have hca : (w6.drew.alloc (.cells #[.int .i64 (-1), .int .i64 0, .int .i64 3, .int .i64 255, .int .i64 256] 3)).cell? ⟨b, 0, none⟩ = some (.slice (some ⟨ga, 0, none⟩) xs.length rc) := HCL.out
    clear hc hrow k6 D0 nb
    go_wp2_with fail
    go_region_with (first
      | (go_at_call 119; refine (CI.out g (some ⟨w6.heap.size, 0, none⟩) 5 [-1, 0, 3, 255, 256] _ KL.out LV.out (by simp) (by simp)).mono ?_; rintro e w7 ⟨y, rfl, hy, k7, s7⟩; obtain ⟨⟨u, f1⟩, f2, f3, f4⟩ := ST.out w7 y s7))
    all_goals
      have F4 := Lib.hid f4
      clear f4
      go_wp2_with fail
      go_ret
      exact F4.out
  by_cases e1 : x = 1
  · subst e1
    obtain ⟨b, rfl, _⟩ := o6.form (by omega)
    obtain ⟨b', o', ra, rc, xs, hbo, _, hx, hc, hrow⟩ := o6.reads.at_ (show 0 < xss.length by omega)
    injection hbo with hbo
    obtain ⟨rfl, rfl⟩ : b = b' ∧ 0 = o' := by simpa using hbo
    have hxm := HROW.out xs (List.mem_of_getElem? hx.out)
    have hxl : xs.length ≤ 4 := by omega
    have hc0 : w6.cell? ⟨b, 0, none⟩ = some (.slice ra xs.length rc) := hc
    have j1 : (0 : Int) < (xss.length : Int) := by omega
    have j2 : 0 < xss.length := by omega
    replace hxm := Lib.hid hxm
    clear hc
    go_wp2_with (at_make; refine wpList_make_full _ rfl _ _ 32 rfl w6.heap.size 3 i (.int .i64 0) 1 Try.underlying32 hi hz0 hz1 _ _ _ _ xs.length rfl rfl rfl rfl ?b1 ?b2 (Nat.le_refl _) ?_)
    case b1 => rw [hz2]; omega
    case b2 => unfold maxLen; omega
    intro w7 hown hgrow
    have o7 : OwnI w7 w6.heap.size (some ⟨w6.heap.size, 0, none⟩) xs.length (List.replicate xs.length 0) := by
      unfold OwnI
      simpa [Value.cells, toList_madeCells_one] using hown
    obtain ⟨ys, hys⟩ : ∃ ys, Hid (ys = List.replicate xs.length (0 : Int)) := ⟨_, rfl⟩
    have HYL : Hid (ys.length = xs.length) := by rw [hys.out]; simp [Hid]
    rw [← hys.out, ← HYL.out] at o7
    have hyl4 : ys.length ≤ 4 := by rw [HYL.out]; exact hxl
    have e7 := (Ext.refl w6).grown hgrow (by simp)
    have E7 := E6.trans e7
    have m7 := o6.ext e7
    obtain ⟨zss, hzs⟩ : ∃ zss, Hid (zss = xss ++ [ys]) := ⟨_, rfl⟩
    have HZ : Hid (zss.length ≤ 60 ∧ ∀ xs ∈ zss, xs.length ≤ 81) := by
      rw [hzs.out]
      refine ⟨by rw [List.length_append]; simp; omega, fun v hv => ?_⟩
      rcases List.mem_append.1 hv with hv | hv
      · exact HB81.out v hv
      · rw [List.mem_singleton.1 hv, HYL.out]; omega
    have O7 := m7.ext ((Ext.refl w7).alloc (.cells #[.slice (some ⟨w6.heap.size, 0, none⟩) ys.length ys.length] 32))
    have R7 := ((OI.of o7).ext ((Ext.refl w7).alloc (.cells #[.slice (some ⟨w6.heap.size, 0, none⟩) ys.length ys.length] 32))).mono (C := w6.heap.size) (C2 := (w7.alloc (.cells #[.slice (some ⟨w6.heap.size, 0, none⟩) ys.length ys.length] 32)).heap.size) (Nat.le_refl _) (by simp)
    have X7 := E7.alloc (.cells #[.slice (some ⟨w6.heap.size, 0, none⟩) ys.length ys.length] 32)
    have hnew : Vals (w7.alloc (.cells #[.slice (some ⟨w6.heap.size, 0, none⟩) ys.length ys.length] 32)) (some ⟨w7.heap.size, 0, none⟩) [.slice (some ⟨w6.heap.size, 0, none⟩) ys.length ys.length] := Vals.new w7 [.slice (some ⟨w6.heap.size, 0, none⟩) ys.length ys.length] 32
    have hob := Lib.hid m7.block
    have z7 := e7.size_le
    have z56 := E6.size_le
    have z45 : w4.heap.size ≤ w6.heap.size := by omega
    rw [← HYL.out]
    have m7' := O7.mono (C := w4.heap.size) (C2 := w6.heap.size) (Nat.le_refl _) z6
    clear hc0 hown hgrow o7 m7 E7 e7 o6 O7
    go_wp2_with (at_builtin; refine wpList_appM _ rfl _ _ rfl w4.heap.size w6.heap.size _ _ xss rfl m7' _ _ _ _ ys rfl hnew R7 z45 (by simp; omega) zss hzs.out (by omega) ?_)
    intro a8 c8 w8 o8 g8
    have E8 := X7.grown g8 (fun k hk => by have := (hob.out k hk).1; have := E6.size_le; omega)
    go_wp2_with fail
    go_ret
    exact ⟨a8, c8, zss, rfl, HZ.out, o8.reads, E8⟩
  by_cases e2 : x = 2
  · subst e2
    have C6 := Lib.hid (CO.out w6 E6)
    go_wp2_with fail
    (with_reducible refine C6.out.mono ?_)
    rintro e w7 ⟨a7, c7, yss, rfl, hy, v7, e7⟩
    go_wp2_with fail
    go_ret
    exact ⟨a7, c7, yss, rfl, hy, v7, E6.trans e7⟩
  · have e0' : (x == 0) = false := by simp [e0]
    have e1' : (x == 1) = false := by simp [e1]
    have e2' : (x == 2) = false := by simp [e2]
    go_wp2_with fail
    go_ret
    exact ⟨a5, c5, xss, rfl, ⟨by omega, HB81.out⟩, o6.reads, E6⟩

end Go.Proofs.Ytkegknophppdgaa
