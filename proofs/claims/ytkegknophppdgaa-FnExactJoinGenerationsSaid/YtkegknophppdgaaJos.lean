/- Contract of the reference's JoinGenerations. -/
import Derived.Test.YtkegknophppdgaaJon
namespace Go.Proofs.Ytkegknophppdgaa
open Go.RowKit
set_option linter.unusedVariables false
set_option maxRecDepth 20000

/-- A slice of rows that are all ours. -/
def JR (w : World) (B : Nat) (a : Option Addr) (c : Nat) (yss : List (List Int)) : Prop :=
  ∃ rs, rs.length = yss.length ∧ w.ownsRow B 32 1 (.slice a yss.length c) yss.length (RV rs yss) ∧ ∀ (i : Nat) (r : Option Addr × Nat) (xs : List Int), rs[i]? = some r → yss[i]? = some xs → OwnI w B r.1 r.2 xs
theorem JR.ext {w w' : World} {B : Nat} {a : Option Addr} {c : Nat} {yss : List (List Int)} (h : JR w B a c yss) (he : Ext w w') : JR w' B a c yss := by
  obtain ⟨rs, h1, h2, h3⟩ := h
  exact ⟨rs, h1, ownsRow_of_block h2 fun k hk => he.block_eq (ownsRow_block h2 k hk).2, fun i r xs hr hx => (h3 i r xs hr hx).ext he⟩
theorem JR.reads {w : World} {B : Nat} {a : Option Addr} {c : Nat} {yss : List (List Int)} (h : JR w B a c yss) : MatR w a yss := by
  obtain ⟨rs, h1, h2, h3⟩ := h
  exact ⟨rs, h1, Vals.of_own h2, fun i r xs hr hx => (h3 i r xs hr hx).vals⟩

set_option maxHeartbeats 8000000 in
set_option maxRecDepth 100000 in
theorem specJoinGenerations_ok (a : Option Addr) (c : Nat) (gs : List Gn) (w : World) (h : SR GK w a gs) (hl : gs.length ≤ 1048576) (hs : sumG gs ≤ 1048576) (hr : ∀ g ∈ gs, ∀ xs ∈ g.2, xs.length ≤ 1048576) :
    Calls Try.prog 54 #[.slice a gs.length c] w (NewYF w (joinD gs) (joinOk gs)) := by
  have HR := Lib.hid hr
  have HA := Lib.hid h
  clear hr h
  have bad : Hid (joinD gs = [] ∧ joinOk gs = false → ∀ W, Ext w W → NewYF w (joinD gs) (joinOk gs) (.returned (.tuple #[.slice (some ⟨W.heap.size, 0, none⟩) 0 0, .bool false])) (W.alloc (.cells #[] 5))) := fun hb W hW => by
    rw [hb.1, hb.2]
    exact ⟨_, 0, rfl, OwnB.new W w.heap.size [] hW.size_le (by simp), hW.alloc _⟩
  obtain ⟨rs0, q1, q2, q3⟩ := OM.new0 w
  have J0 : JR (w.alloc (.cells #[] 32)) w.heap.size (some ⟨w.heap.size, 0, none⟩) 0 [] := ⟨rs0, q3.len, q1, fun i r xs hr hx => by simp at hx⟩
  have E0 := (Ext.refl w).alloc (.cells #[] 32)
  clear q1 q2 q3
  go_enter Try.func54, Try.ntmps54
  go_wp2_with fail
  go_loopw [4, 5] (fun v i wr => ∃ (k : Nat) (a1 : Option Addr) (c1 : Nat) (yss : List (List Int)), k ≤ gs.length ∧ i = .int .i64 k ∧ v = .slice a1 yss.length c1 ∧ Hid (yss = jflat gs k) ∧ Hid (jokTo gs k = true) ∧ JR wr w.heap.size a1 c1 yss ∧ Ext w wr) (fun _ i _ => gs.length - (intOf i).toNat)
  case atStart => exact ⟨0, _, 0, [], Nat.zero_le _, rfl, rfl, rfl, rfl, J0, E0⟩
  case round =>
    clear J0 E0
    obtain ⟨k, a1, c1, yss, hk, rfl, rfl, HY, HJ, ho, he⟩ := hrel
    by_cases hlt : k < gs.length
    · obtain ⟨b, o, ra, rc, n, xss, rfl, hb, hx, hc0, hc1, hM⟩ := HA.out.gn hlt
      have HX := Lib.hid hx.out
      have HM := Lib.hid hM
      have hw0 := he.cell hc0
      have hw1 := he.cell hc1
      have i1 : (k : Int) < (gs.length : Int) := by omega
      have HO := Lib.hid ho
      have HE := Lib.hid he
      obtain ⟨hxl, hxr⟩ : xss.length ≤ 1099511627776 ∧ ∀ xs ∈ xss, xs.length ≤ 1099511627776 := by
        have h1 := sumG_mem (List.mem_of_getElem? HX.out)
        have h2 := HR.out _ (List.mem_of_getElem? HX.out)
        exact ⟨by show (n, xss).2.length ≤ _; omega, fun xs hx => Nat.le_trans (h2 xs hx) (by omega)⟩
      have hxl1 : xss.length ≤ 1048576 := by
        have h1 := sumG_mem (List.mem_of_getElem? HX.out)
        show (n, xss).2.length ≤ _
        omega
      have HXR : Hid (∀ xs ∈ xss, xs.length ≤ 1048576) := HR.out _ (List.mem_of_getElem? HX.out)
      have CV : Hid (∀ W, Ext wr W → Calls Try.prog 65 #[bsV n ra rc xss] W (Gives W (.bool (validG n xss)))) := fun W hE => specIsValidGeneration_ok n ra rc xss W (HM.out.ext (HE.out.trans hE)) hxl hxr
      have x0 : Ext wr wr.drew := (Ext.refl _).drew
      clear hM hx hc0 hc1 ho hxl hxr he
      cases hv : validG n xss
      · have HB := Lib.hid (join_bad HX.out hv)
        rw [hv] at CV
        clear hv HO
        go_wp2_with fail
        refine wp_region_any (by kernel_rfl) ?_
        try (change wpAny _ _ _ _ _ _ _ (World.drew _))
        refine wpAny_take (i := 0) (v := ?_) rfl (by kernel_rfl) (by kernel_rfl) (by kernel_rfl) (fun _ _ _ h => h) (Or.inl ⟨by rfl, ?_⟩) ?_
        rotate_left 1
        · intro w; go_simp; (try with_reducible rfl)
        go_simp
        refine wpAny_take (i := 1) (v := ?_) rfl (by kernel_rfl) (by kernel_rfl) (by kernel_rfl) (fun _ _ _ h => h) (Or.inl ⟨by rfl, ?_⟩) ?_
        rotate_left 1
        · intro w; go_simp; (try with_reducible rfl)
        go_simp
        refine wpAny_take (i := 2) (v := ?_) rfl (by kernel_rfl) (by kernel_rfl) (by kernel_rfl) (fun _ _ _ h => h) (Or.inl ⟨by rfl, ?_⟩) ?_
        rotate_left 1
        · intro w; go_simp; (try with_reducible rfl)
        go_simp
        refine wpAny_ready (rs := [3]) (by kernel_rfl) (by simp) ?_
        refine AllReady.cons rfl (fun K hK => ?_) AllReady.nil
        go_simp
        refine hK _ _ ?_
        clear hK K
        refine wpAny_ready (rs := [4]) (by kernel_rfl) (by simp) ?_
        refine AllReady.cons rfl (fun K hK => ?_) AllReady.nil
        go_simp
        go_at_call 65
        (with_reducible refine (CV.out _ x0).mono ?_)
        rintro e v1 ⟨rfl, f1⟩
        have x1 := x0.trans f1
        refine hK _ _ ?_
        clear hK K
        refine wpAny_take (i := 5) (v := .bool true) rfl (by kernel_rfl) (by kernel_rfl) (by kernel_rfl) (fun _ _ _ h => h) (Or.inl ⟨by rfl, fun w => by rfl⟩) ?_
        refine wpAny_take (i := 6) (v := .bool true) rfl (by kernel_rfl) (by kernel_rfl) (by kernel_rfl) (fun _ _ _ h => h) (Or.inl ⟨by rfl, fun w => by rfl⟩) ?_
        go_simp
        refine wpAny_take (i := 7) (v := undef) rfl (by kernel_rfl) (by kernel_rfl) (by kernel_rfl) (fun _ _ _ h => h) (Or.inr ⟨by rfl, rfl⟩) ?_
        refine wpAny_take (i := 8) (v := undef) rfl (by kernel_rfl) (by kernel_rfl) (by kernel_rfl) (fun _ _ _ h => h) (Or.inr ⟨by rfl, rfl⟩) ?_
        go_simp
        refine wpAny_take (i := 9) (v := undef) rfl (by kernel_rfl) (by kernel_rfl) (by kernel_rfl) (fun _ _ _ h => h) (Or.inr ⟨by rfl, rfl⟩) ?_
        refine wpAny_take (i := 10) (v := undef) rfl (by kernel_rfl) (by kernel_rfl) (by kernel_rfl) (fun _ _ _ h => h) (Or.inr ⟨by rfl, rfl⟩) ?_
        go_simp
        refine wpAny_take (i := 11) (v := undef) rfl (by kernel_rfl) (by kernel_rfl) (by kernel_rfl) (fun _ _ _ h => h) (Or.inr ⟨by rfl, rfl⟩) ?_
        refine wpAny_take (i := 12) (v := undef) rfl (by kernel_rfl) (by kernel_rfl) (by kernel_rfl) (fun _ _ _ h => h) (Or.inr ⟨by rfl, rfl⟩) ?_
        go_simp
        refine wpAny_take (i := 13) (v := undef) rfl (by kernel_rfl) (by kernel_rfl) (by kernel_rfl) (fun _ _ _ h => h) (Or.inr ⟨by rfl, rfl⟩) ?_
        refine wpAny_take (i := 14) (v := undef) rfl (by kernel_rfl) (by kernel_rfl) (by kernel_rfl) (fun _ _ _ h => h) (Or.inr ⟨by rfl, rfl⟩) ?_
        go_simp
        refine wpAny_take (i := 15) (v := undef) rfl (by kernel_rfl) (by kernel_rfl) (by kernel_rfl) (fun _ _ _ h => h) (Or.inr ⟨by rfl, rfl⟩) ?_
        refine wpAny_take (i := 16) (v := undef) rfl (by kernel_rfl) (by kernel_rfl) (by kernel_rfl) (fun _ _ _ h => h) (Or.inr ⟨by rfl, rfl⟩) ?_
        go_simp
        refine wpAny_take (i := 17) (v := undef) rfl (by kernel_rfl) (by kernel_rfl) (by kernel_rfl) (fun _ _ _ h => h) (Or.inr ⟨by rfl, rfl⟩) ?_
        refine wpAny_take (i := 18) (v := undef) rfl (by kernel_rfl) (by kernel_rfl) (by kernel_rfl) (fun _ _ _ h => h) (Or.inr ⟨by rfl, rfl⟩) ?_
        go_simp
        refine wpAny_take (i := 19) (v := undef) rfl (by kernel_rfl) (by kernel_rfl) (by kernel_rfl) (fun _ _ _ h => h) (Or.inr ⟨by rfl, rfl⟩) ?_
        refine wpAny_take (i := 20) (v := undef) rfl (by kernel_rfl) (by kernel_rfl) (by kernel_rfl) (fun _ _ _ h => h) (Or.inr ⟨by rfl, rfl⟩) ?_
        go_simp
        refine wpAny_take (i := 21) (v := undef) rfl (by kernel_rfl) (by kernel_rfl) (by kernel_rfl) (fun _ _ _ h => h) (Or.inr ⟨by rfl, rfl⟩) ?_
        refine wpAny_take (i := 22) (v := undef) rfl (by kernel_rfl) (by kernel_rfl) (by kernel_rfl) (fun _ _ _ h => h) (Or.inr ⟨by rfl, rfl⟩) ?_
        go_simp
        refine wpAny_take (i := 23) (v := undef) rfl (by kernel_rfl) (by kernel_rfl) (by kernel_rfl) (fun _ _ _ h => h) (Or.inr ⟨by rfl, rfl⟩) ?_
        go_simp
        refine wpAny_take (i := 24) (v := ?_) rfl (by kernel_rfl) (by kernel_rfl) (by kernel_rfl) (fun _ _ _ h => h) (Or.inl ⟨by rfl, ?_⟩) ?_
        rotate_left 1
        · intro w; go_simp; (try with_reducible rfl)
        go_simp
        refine wpAny_done (by kernel_rfl) ?_ _
        go_wp2_with fail
        go_ret2
        exact bad.out HB.out _ (HE.out.trans x1)
      rw [hv] at CV
      have HV := Lib.hid hv
      clear hv
      by_cases hk0 : k = 0
      · subst hk0
        have HJ2 : Hid (jokTo gs (0 + 1) = true) := jok_yes HX.out HJ.out HV.out (.inl rfl)
        rw [show o + 0 * 2 = o by omega] at hw0 hw1
        have j1 : (0 : Int) < (gs.length : Int) := by omega
        have j2 : 0 < gs.length := by omega
        have j3 : gs ≠ [] := fun e => by rw [e] at j2; simp at j2
        go_wp2_with fail
        refine wp_region_any (by kernel_rfl) ?_
        try (change wpAny _ _ _ _ _ _ _ (World.drew _))
        refine wpAny_take (i := 0) (v := ?_) rfl (by kernel_rfl) (by kernel_rfl) (by kernel_rfl) (fun _ _ _ h => h) (Or.inl ⟨by rfl, ?_⟩) ?_
        rotate_left 1
        · intro w; go_simp; (try with_reducible rfl)
        go_simp
        refine wpAny_take (i := 1) (v := ?_) rfl (by kernel_rfl) (by kernel_rfl) (by kernel_rfl) (fun _ _ _ h => h) (Or.inl ⟨by rfl, ?_⟩) ?_
        rotate_left 1
        · intro w; go_simp; (try with_reducible rfl)
        go_simp
        refine wpAny_take (i := 2) (v := ?_) rfl (by kernel_rfl) (by kernel_rfl) (by kernel_rfl) (fun _ _ _ h => h) (Or.inl ⟨by rfl, ?_⟩) ?_
        rotate_left 1
        · intro w; go_simp; (try with_reducible rfl)
        go_simp
        refine wpAny_ready (rs := [3]) (by kernel_rfl) (by simp) ?_
        refine AllReady.cons rfl (fun K hK => ?_) AllReady.nil
        go_simp
        refine hK _ _ ?_
        clear hK K
        refine wpAny_ready (rs := [4]) (by kernel_rfl) (by simp) ?_
        refine AllReady.cons rfl (fun K hK => ?_) AllReady.nil
        go_simp
        go_at_call 65
        (with_reducible refine (CV.out _ x0).mono ?_)
        rintro e v1 ⟨rfl, f1⟩
        have x1 := x0.trans f1
        refine hK _ _ ?_
        clear hK K
        refine wpAny_take (i := 5) (v := .bool false) rfl (by kernel_rfl) (by kernel_rfl) (by kernel_rfl) (fun _ _ _ h => h) (Or.inl ⟨by rfl, fun w => by rfl⟩) ?_
        refine wpAny_take (i := 6) (v := .bool false) rfl (by kernel_rfl) (by kernel_rfl) (by kernel_rfl) (fun _ _ _ h => h) (Or.inl ⟨by rfl, fun w => by rfl⟩) ?_
        go_simp
        refine wpAny_take (i := 7) (v := ?_) rfl (by kernel_rfl) (by kernel_rfl) (by kernel_rfl) (fun _ _ _ h => h) (Or.inl ⟨by rfl, ?_⟩) ?_
        rotate_left 1
        · intro w; go_simp; (try with_reducible rfl)
        go_simp
        refine wpAny_take (i := 8) (v := ?_) rfl (by kernel_rfl) (by kernel_rfl) (by kernel_rfl) (fun _ _ _ h => h) (Or.inl ⟨by rfl, ?_⟩) ?_
        rotate_left 1
        · intro w; go_simp; (try with_reducible rfl)
        go_simp
        refine wpAny_take (i := 9) (v := ?_) rfl (by kernel_rfl) (by kernel_rfl) (by kernel_rfl) (fun _ _ _ h => h) (Or.inl ⟨by rfl, ?_⟩) ?_
        rotate_left 1
        · intro w; go_simp; (try with_reducible rfl)
        go_simp
        refine wpAny_take (i := 10) (v := undef) rfl (by kernel_rfl) (by kernel_rfl) (by kernel_rfl) (fun _ _ _ h => h) (Or.inr ⟨by rfl, rfl⟩) ?_
        refine wpAny_take (i := 11) (v := undef) rfl (by kernel_rfl) (by kernel_rfl) (by kernel_rfl) (fun _ _ _ h => h) (Or.inr ⟨by rfl, rfl⟩) ?_
        go_simp
        refine wpAny_take (i := 12) (v := undef) rfl (by kernel_rfl) (by kernel_rfl) (by kernel_rfl) (fun _ _ _ h => h) (Or.inr ⟨by rfl, rfl⟩) ?_
        refine wpAny_take (i := 13) (v := undef) rfl (by kernel_rfl) (by kernel_rfl) (by kernel_rfl) (fun _ _ _ h => h) (Or.inr ⟨by rfl, rfl⟩) ?_
        go_simp
        refine wpAny_take (i := 14) (v := undef) rfl (by kernel_rfl) (by kernel_rfl) (by kernel_rfl) (fun _ _ _ h => h) (Or.inr ⟨by rfl, rfl⟩) ?_
        refine wpAny_take (i := 15) (v := undef) rfl (by kernel_rfl) (by kernel_rfl) (by kernel_rfl) (fun _ _ _ h => h) (Or.inr ⟨by rfl, rfl⟩) ?_
        go_simp
        refine wpAny_take (i := 16) (v := undef) rfl (by kernel_rfl) (by kernel_rfl) (by kernel_rfl) (fun _ _ _ h => h) (Or.inr ⟨by rfl, rfl⟩) ?_
        refine wpAny_take (i := 17) (v := undef) rfl (by kernel_rfl) (by kernel_rfl) (by kernel_rfl) (fun _ _ _ h => h) (Or.inr ⟨by rfl, rfl⟩) ?_
        go_simp
        refine wpAny_take (i := 18) (v := undef) rfl (by kernel_rfl) (by kernel_rfl) (by kernel_rfl) (fun _ _ _ h => h) (Or.inr ⟨by rfl, rfl⟩) ?_
        refine wpAny_take (i := 19) (v := undef) rfl (by kernel_rfl) (by kernel_rfl) (by kernel_rfl) (fun _ _ _ h => h) (Or.inr ⟨by rfl, rfl⟩) ?_
        go_simp
        refine wpAny_take (i := 20) (v := undef) rfl (by kernel_rfl) (by kernel_rfl) (by kernel_rfl) (fun _ _ _ h => h) (Or.inr ⟨by rfl, rfl⟩) ?_
        refine wpAny_take (i := 21) (v := undef) rfl (by kernel_rfl) (by kernel_rfl) (by kernel_rfl) (fun _ _ _ h => h) (Or.inr ⟨by rfl, rfl⟩) ?_
        go_simp
        refine wpAny_take (i := 22) (v := undef) rfl (by kernel_rfl) (by kernel_rfl) (by kernel_rfl) (fun _ _ _ h => h) (Or.inr ⟨by rfl, rfl⟩) ?_
        go_simp
        refine wpAny_take (i := 23) (v := ?_) rfl (by kernel_rfl) (by kernel_rfl) (by kernel_rfl) (fun _ _ _ h => h) (Or.inl ⟨by rfl, ?_⟩) ?_
        rotate_left 1
        · intro w; go_simp; (try with_reducible rfl)
        go_simp
        refine wpAny_take (i := 24) (v := ?_) rfl (by kernel_rfl) (by kernel_rfl) (by kernel_rfl) (fun _ _ _ h => h) (Or.inl ⟨by rfl, ?_⟩) ?_
        rotate_left 1
        · intro w; go_simp; (try with_reducible rfl)
        go_simp
        refine wpAny_done (by kernel_rfl) ?_ _
        have EV := HE.out.trans x1
        have JV := HO.out.ext x1
        have k0 := x1.cell hw0
        have k1 := x1.cell hw1
        have CC := Lib.hid (specCopy_ok ra rc xss v1 (HM.out.ext EV) hxl1 HXR.out)
        clear CV x0 x1 f1 HO HE
        go_wp2_with fail
        (with_reducible refine CC.out.mono ?_)
        rintro e v2 ⟨a6, c6, rfl, o6, e6⟩
        have EV2 := EV.trans e6
        have hz2 := EV.size_le
        obtain ⟨rs, hrs, hown, hrow⟩ := JV.ext e6
        obtain ⟨ss, t1, t2, t3⟩ := o6
        have hm1 : Mat v2 a6 ss xss := ⟨t3.len, Vals.of_own t1, fun i r xs hr hx => (t3.row i r xs hr hx).vals⟩
        obtain ⟨zss, hzs⟩ : ∃ zss, Hid (zss = yss ++ xss) := ⟨_, rfl⟩
        have HZ : Hid (zss = jflat gs (0 + 1)) := by rw [hzs.out, jflat_succ HX.out, ← HY.out]; exact Lib.hid rfl
        have hzl : yss.length + xss.length ≤ 1099511627776 := by
          have := jflat_le gs (0 + 1)
          rw [← HZ.out, hzs.out, List.length_append] at this
          omega
        clear CC EV e6
        go_wp2_with (at_builtin; refine wpList_appRows _ rfl _ _ rfl w.heap.size _ _ rs yss rfl hown hrs _ _ ss xss rfl hm1 zss hzs.out hzl EV2.size_le ?_)
        intro a7 c7 w7 h7 g7
        have E7 := EV2.grown g7 (fun k hk => (ownsRow_block hown k hk).1)
        have hke : ∀ {r : Option Addr × Nat} {xs : List Int}, OwnI v2 w.heap.size r.1 r.2 xs → OwnI w7 w.heap.size r.1 r.2 xs := fun {r xs} ho => ho.kept g7 (by
          have hap := block_ne hown ho ints_ne
          cases hb : blockOf r.1 with
          | none => exact .inl rfl
          | some k => exact .inr (fun e => hap k e.symm hb))
        have J7 : JR w7 w.heap.size a7 c7 zss := ⟨rs ++ ss, by rw [List.length_append, hrs, t3.len, hzs.out, List.length_append], h7, fun i r xs hr hx => by
          rw [hzs.out] at hx
          by_cases hi : i < rs.length
          · rw [List.getElem?_append_left hi] at hr
            rw [List.getElem?_append_left (by omega)] at hx
            exact hke (hrow i r xs hr hx)
          · rw [List.getElem?_append_right (by omega)] at hr
            rw [List.getElem?_append_right (by omega), ← hrs] at hx
            exact hke ((t3.row _ r xs hr hx).1.more hz2)⟩
        clear h7 g7 hown hrow t1 t2 t3 hm1 EV2 hke
        go_wp2_with fail
        go_roundw
        case rel => exact ⟨0 + 1, a7, c7, zss, by omega, by go_num, rfl, HZ, HJ2, J7, E7⟩
        case measure => simp [intOf]; omega
      · obtain ⟨q, rfl⟩ : ∃ q, k = q + 1 := ⟨k - 1, by omega⟩
        obtain ⟨b', o', ra', rc', n0, xss0, hab, _, hx0, hd0, _, _⟩ := HA.out.gn (k := q) (by omega)
        obtain ⟨rfl, rfl⟩ : b = b' ∧ o = o' := by
          injection hab with hab
          injection hab with h1 h2
          exact ⟨h1, h2⟩
        have hq0 := HE.out.cell hd0
        have HX0 := Lib.hid hx0.out
        obtain ⟨n00, n01⟩ := validG_id (jok_prev HX0.out HJ.out)
        have KEEP : Hid (∀ w', Ext wr w' → w'.cell? ⟨b, o + (q + 1) * 2, none⟩ = some (.int .i64 n) ∧ w'.cell? ⟨b, o + (q + 1) * 2 + 1, none⟩ = some (.slice ra xss.length rc) ∧ w'.cell? ⟨b, o + q * 2, none⟩ = some (.int .i64 n0)) := fun w' hE => ⟨hE.cell hw0, hE.cell hw1, hE.cell hq0⟩
        have i0 : (0 : Int) < ((q + 1 : Nat) : Int) := by omega
        have i10 : (0 : Int) ≤ (q : Int) + 1 := by omega
        have i11 : (q : Int) + 1 < (gs.length : Int) := by omega
        have i12 : (0 : Int) ≤ ((q + 1 : Nat) : Int) := by omega
        have i13 : (q : Int) + 1 ≤ (gs.length : Int) := by omega
        have i2 : (0 : Int) ≤ (q : Int) := by omega
        have i3 : (q : Int) + 1 - 1 = (q : Int) := by omega
        have i4 : IntKind.i64.wrap ((q : Int) + 1 - 1) = (q : Int) := by rw [IntKind.wrap_i64]; omega
        have i5 : IntKind.i64.wrap (((q + 1 : Nat) : Int) - 1) = (q : Int) := by rw [IntKind.wrap_i64]; omega
        have i6 : IntKind.i64.wrap (q : Int) = (q : Int) := by rw [IntKind.wrap_i64]; omega
        have i7 : ((q + 1 : Nat) : Int) - 1 = (q : Int) := by omega
        have i8 : (q : Int) < (gs.length : Int) := by omega
        have i9 : IntKind.i64.wrap (n0 + 1) = n0 + 1 := by rw [IntKind.wrap_i64]; omega
        clear hk0 hab hx0 hd0
        by_cases hn : n = n0 + 1
        · have HJ2 : Hid (jokTo gs (q + 1 + 1) = true) := jok_yes HX.out HJ.out HV.out (.inr ⟨n0, xss0, HX0.out, hn⟩)
          have hne : (n != n0 + 1) = false := by rw [hn]; simp
          clear hn
          go_wp2_with fail
          go_region_held3 (fun w' => w'.cell? ⟨b, o + (q + 1) * 2, none⟩ = some (.int .i64 n) ∧ w'.cell? ⟨b, o + (q + 1) * 2 + 1, none⟩ = some (.slice ra xss.length rc) ∧ w'.cell? ⟨b, o + q * 2, none⟩ = some (.int .i64 n0))
            (first | exact KEEP.out _ x1 | exact KEEP.out _ x0 | exact KEEP.out _ (Ext.refl _) | go_keep)
            (first | (go_at_call 65; (with_reducible refine (CV.out _ x0).mono ?_); rintro e v1 ⟨rfl, f1⟩; have x1 := x0.trans f1))
          have EV := HE.out.trans x1
          have JV := HO.out.ext x1
          have k0 := x1.cell hw0
          have k1 := x1.cell hw1
          have CC := Lib.hid (specCopy_ok ra rc xss v1 (HM.out.ext EV) hxl1 HXR.out)
          clear CV x0 x1 f1 HO HE
          go_wp2_with fail
          (with_reducible refine CC.out.mono ?_)
          rintro e v2 ⟨a6, c6, rfl, o6, e6⟩
          have EV2 := EV.trans e6
          have hz2 := EV.size_le
          obtain ⟨rs, hrs, hown, hrow⟩ := JV.ext e6
          obtain ⟨ss, t1, t2, t3⟩ := o6
          have hm1 : Mat v2 a6 ss xss := ⟨t3.len, Vals.of_own t1, fun i r xs hr hx => (t3.row i r xs hr hx).vals⟩
          obtain ⟨zss, hzs⟩ : ∃ zss, Hid (zss = yss ++ xss) := ⟨_, rfl⟩
          have HZ : Hid (zss = jflat gs ((q + 1) + 1)) := by rw [hzs.out, jflat_succ HX.out, ← HY.out]; exact Lib.hid rfl
          have hzl : yss.length + xss.length ≤ 1099511627776 := by
            have := jflat_le gs ((q + 1) + 1)
            rw [← HZ.out, hzs.out, List.length_append] at this
            omega
          clear CC EV e6
          go_wp2_with (at_builtin; refine wpList_appRows _ rfl _ _ rfl w.heap.size _ _ rs yss rfl hown hrs _ _ ss xss rfl hm1 zss hzs.out hzl EV2.size_le ?_)
          intro a7 c7 w7 h7 g7
          have E7 := EV2.grown g7 (fun k hk => (ownsRow_block hown k hk).1)
          have hke : ∀ {r : Option Addr × Nat} {xs : List Int}, OwnI v2 w.heap.size r.1 r.2 xs → OwnI w7 w.heap.size r.1 r.2 xs := fun {r xs} ho => ho.kept g7 (by
            have hap := block_ne hown ho ints_ne
            cases hb : blockOf r.1 with
            | none => exact .inl rfl
            | some k => exact .inr (fun e => hap k e.symm hb))
          have J7 : JR w7 w.heap.size a7 c7 zss := ⟨rs ++ ss, by rw [List.length_append, hrs, t3.len, hzs.out, List.length_append], h7, fun i r xs hr hx => by
            rw [hzs.out] at hx
            by_cases hi : i < rs.length
            · rw [List.getElem?_append_left hi] at hr
              rw [List.getElem?_append_left (by omega)] at hx
              exact hke (hrow i r xs hr hx)
            · rw [List.getElem?_append_right (by omega)] at hr
              rw [List.getElem?_append_right (by omega), ← hrs] at hx
              exact hke ((t3.row _ r xs hr hx).1.more hz2)⟩
          clear h7 g7 hown hrow t1 t2 t3 hm1 EV2 hke
          go_wp2_with fail
          go_roundw
          case rel => exact ⟨(q + 1) + 1, a7, c7, zss, by omega, by go_num, rfl, HZ, HJ2, J7, E7⟩
          case measure => simp [intOf]; omega
        · have HB := Lib.hid (join_gap HX.out HX0.out hn)
          have hne : (n != n0 + 1) = true := by simpa using hn
          clear hn HO
          go_wp2_with fail
          go_region_held3 (fun w' => w'.cell? ⟨b, o + (q + 1) * 2, none⟩ = some (.int .i64 n) ∧ w'.cell? ⟨b, o + (q + 1) * 2 + 1, none⟩ = some (.slice ra xss.length rc) ∧ w'.cell? ⟨b, o + q * 2, none⟩ = some (.int .i64 n0))
            (first | exact KEEP.out _ x1 | exact KEEP.out _ x0 | exact KEEP.out _ (Ext.refl _) | go_keep)
            (first | (go_at_call 65; (with_reducible refine (CV.out _ x0).mono ?_); rintro e v1 ⟨rfl, f1⟩; have x1 := x0.trans f1))
          go_wp2_with fail
          go_ret2
          exact bad.out HB.out _ (HE.out.trans x1)
    · obtain rfl : k = gs.length := by omega
      have hM := ho.reads
      have hjl := jflat_le gs gs.length
      have CS := specSymbolsToBytes_ok a1 c1 yss wr hM (by rw [HY.out]; omega) (fun xs hx => by
        rw [HY.out] at hx
        unfold jflat at hx
        rw [List.take_length] at hx
        obtain ⟨l, hl, hx⟩ := List.mem_flatten.1 hx
        obtain ⟨g, hg, rfl⟩ := List.mem_map.1 hl
        exact HR.out g hg xs hx) (by rw [HY.out]; omega)
      have HF : Hid (joinD gs = usD yss ∧ joinOk gs = usOk yss) := by
        unfold joinD joinOk jok
        rw [HJ.out, ← HY.out]
        exact ⟨rfl, rfl⟩
      obtain ⟨dd, hdd⟩ : ∃ dd, Hid (dd = usD yss) := ⟨_, rfl⟩
      obtain ⟨qq, hqq⟩ : ∃ qq, Hid (qq = usOk yss) := ⟨_, rfl⟩
      rw [← hdd.out, ← hqq.out] at CS HF
      replace CS := Lib.hid CS
      clear hM ho hjl
      go_wp2_with fail
      (with_reducible refine CS.out.mono ?_)
      rintro e w2 ⟨a2, c2, rfl, o2, e2⟩
      have hz := he.size_le
      have E2 := he.trans e2
      clear CS he e2
      go_wp2_with fail
      go_ret2
      rw [HF.out.1, HF.out.2]
      exact ⟨a2, c2, rfl, o2.more hz, E2⟩

end Go.Proofs.Ytkegknophppdgaa
