/- Contracts of JoinGenerations; the size of a slice of generations; how an argument is opened. -/
import Derived.Test.YtkegknophppdgaaGnl
import Derived.Test.YtkegknophppdgaaStbW
import Derived.Test.YtkegknophppdgaaGen
import Derived.Test.YtkegknophppdgaaFld
import Derived.Deep.RegionHeld3
namespace Go.Proofs.Ytkegknophppdgaa
open Go.RowKit
set_option linter.unusedVariables false
set_option maxRecDepth 20000

/-- What is left behind the elements' sizes. -/
def szGl : List Gn → Int → Int
  | [], l => l
  | g :: r, l => if szM g.2 l < 0 then -1 else szGl r (szM g.2 l)
def szGs (gs : List Gn) (left : Int) : Int := if left - gs.length < 0 then -1 else szGl gs (left - gs.length)
/-- What the elements hold: rows and numbers. -/
def sumG : List Gn → Nat
  | [] => 0
  | g :: r => g.2.length + tot g.2 + sumG r
theorem szGl_le : ∀ {gs : List Gn} {l : Int}, 0 ≤ l → 0 ≤ szGl gs l → (sumG gs : Int) ≤ l
  | [], l, h, _ => by simpa [sumG] using h
  | g :: r, l, h, h2 => by
    simp only [szGl] at h2
    split at h2
    · omega
    · rename_i hn
      have h3 := szM_le (Int.not_lt.1 hn)
      have h4 := szGl_le (Int.not_lt.1 hn) h2
      simp only [sumG]
      omega
theorem szGs_le {gs : List Gn} {left : Int} (h : 0 ≤ szGs gs left) : (gs.length : Int) + sumG gs ≤ left := by
  unfold szGs at h
  split at h
  · omega
  · have := szGl_le (gs := gs) (l := left - gs.length) (by omega) h
    omega
theorem sumG_mem : ∀ {gs : List Gn} {g : Gn}, g ∈ gs → g.2.length + tot g.2 ≤ sumG gs
  | [], g, h => by simp at h
  | x :: r, g, h => by
    rcases List.mem_cons.1 h with rfl | h
    · simp [sumG]
    · have := sumG_mem h
      simp only [sumG]
      omega
theorem totG_sum : ∀ (gs : List Gn), totG gs ≤ gs.length + sumG gs
  | [] => by simp [totG]
  | g :: r => by
    have := totG_sum r
    simp only [totG, sumG, List.length_cons]
    omega

set_option maxHeartbeats 4000000 in
theorem szGenerationS_ok (a : Option Addr) (c : Nat) (gs : List Gn) (left : Int) (w : World) (h : SR GK w a gs) (hm : gs.length ≤ maxLen) (hr : ∀ g ∈ gs, g.2.length ≤ maxLen ∧ ∀ xs ∈ g.2, xs.length ≤ maxLen) (h0 : 0 ≤ left) (h1 : left ≤ 1048576) :
    Calls Try.prog 53 #[.slice a gs.length c, .int .i64 left] w (Gives w (.int .i64 (szGs gs left))) := by
  unfold maxLen at hm
  have HR := Lib.hid hr
  have HA := Lib.hid h
  clear hr h
  by_cases hn : left - gs.length < 0
  · have HS : Hid (szGs gs left = -1) := by unfold szGs; rw [if_pos hn]; exact Lib.hid rfl
    rw [HS.out]
    go_enter Try.func53, Try.ntmps53
    go_wp2
    go_ret
    exact ⟨rfl, Ext.refl _⟩
  · have HS : Hid (szGs gs left = szGl gs (left - gs.length)) := by unfold szGs; rw [if_neg hn]; exact Lib.hid rfl
    rw [HS.out]
    have hn' : 0 ≤ left - gs.length := by omega
    go_enter Try.func53, Try.ntmps53
    go_wp2
    go_loopw [1, 5] (fun l i wr => ∃ (k : Nat) (L : Int), k ≤ gs.length ∧ i = .int .i64 k ∧ l = .int .i64 L ∧ (0 ≤ L ∧ L ≤ 1048576) ∧ Hid (szGl gs (left - gs.length) = szGl (gs.drop k) L) ∧ Ext w wr) (fun _ i _ => gs.length - (intOf i).toNat)
    case atStart => exact ⟨0, _, Nat.zero_le _, rfl, rfl, ⟨hn', by omega⟩, rfl, Ext.refl _⟩
    case round =>
      obtain ⟨k, L, hk, rfl, rfl, ⟨hL0, hL1⟩, HL, he⟩ := hrel
      by_cases hlt : k < gs.length
      · obtain ⟨b, o, ra, rc, n, xss, rfl, hb, hx, hc0, hc1, hM⟩ := (SRG.ext HA.out he).gn hlt
        obtain ⟨hr1, hr2⟩ := HR.out _ (List.mem_of_getElem? hx.out)
        have i1 : (k : Int) < (gs.length : Int) := by omega
        have CS := szGeneration_ok n ra rc xss L wr hM hr1 hr2 hL0 hL1
        have hdr : gs.drop k = (n, xss) :: gs.drop (k + 1) := by
          obtain ⟨hk2, he2⟩ := List.getElem?_eq_some_iff.1 hx.out
          rw [List.drop_eq_getElem_cons hk2, he2]
        obtain ⟨L', hL'⟩ : ∃ L', Hid (L' = szM xss L) := ⟨_, rfl⟩
        rw [← hL'.out] at CS
        replace CS := Lib.hid CS
        by_cases hs : L' < 0
        · have HV : Hid (szGl gs (left - gs.length) = -1) := by
            rw [HL.out, hdr]
            show (if szM xss L < 0 then -1 else _) = (-1 : Int)
            rw [← hL'.out, if_pos hs]
          clear hM hr1 hr2 hx hdr
          go_wp2_with fail
          (with_reducible refine CS.out.mono ?_)
          rintro e w2 ⟨rfl, e2⟩
          go_wp2_with fail
          go_ret
          exact ⟨ret_int HV.out.symm, he.trans e2⟩
        · have hle := szM_le (xss := xss) (left := L) (by rw [← hL'.out]; omega)
          have hL2 : 0 ≤ L' ∧ L' ≤ 1048576 := by rw [hL'.out]; omega
          have HL2 : Hid (szGl gs (left - gs.length) = szGl (gs.drop (k + 1)) L') := by
            rw [HL.out, hdr]
            show (if szM xss L < 0 then -1 else szGl (gs.drop (k + 1)) (szM xss L)) = _
            rw [← hL'.out, if_neg hs]
          clear hM hr1 hr2 hx hdr hle
          go_wp2_with fail
          (with_reducible refine CS.out.mono ?_)
          rintro e w2 ⟨rfl, e2⟩
          have E2 := he.trans e2
          clear e2 he
          go_wp2_with fail
          go_roundw
          case rel => exact ⟨k + 1, L', by omega, by go_num, rfl, hL2, HL2, E2⟩
          case measure => simp [intOf]; omega
      · obtain rfl : k = gs.length := by omega
        rw [List.drop_length] at HL
        go_wp2_with fail
        go_ret
        exact ⟨ret_int (by rw [HL.out]; rfl), he⟩

theorem RV_cell1 (rs : List (Option Addr × Nat)) (xss : List (List Int)) : ∀ u ∈ RV rs xss, u.oneCell' = true := fun u hu => by
  unfold RV at hu
  obtain ⟨i, hi, rfl⟩ := List.mem_iff_getElem.1 hu
  rw [List.getElem_zipWith]
  rfl
theorem RV_append {rs ss : List (Option Addr × Nat)} {xss yss : List (List Int)} (h : rs.length = xss.length) : RV (rs ++ ss) (xss ++ yss) = RV rs xss ++ RV ss yss := by
  unfold RV
  exact List.zipWith_append h
/-- append(rows, other..) where only the heads are copied. -/
theorem wpList_appRows {ops : Array Oper} {rest : List Oper} {o : Oper} {a : Act} {Q : Exit → Act → World → Prop} (w : World) (hgd : o.guard = none) (s x : Operand)
    (ho : o.op = .call { callee := .builtin .append, args := #[s, x], argTypes := #[48, 48] })
    (B : Nat) (a0 : Option Addr) (c : Nat) (rs : List (Option Addr × Nat)) (xss : List (List Int)) (hs : a.eval s = .slice a0 xss.length c) (hown : w.ownsRow B 32 1 (.slice a0 xss.length c) xss.length (RV rs xss)) (hl : rs.length = xss.length)
    (A : Option Addr) (d : Nat) (ss : List (Option Addr × Nat)) (yss : List (List Int)) (hx : a.eval x = .slice A yss.length d) (hM : Mat w A ss yss)
    (zss : List (List Int)) (hz : zss = xss ++ yss) (h63 : xss.length + yss.length ≤ 1099511627776) (hbase : B ≤ w.heap.size)
    (h : ∀ a' c' w', w'.ownsRow B 32 1 (.slice a' zss.length c') zss.length (RV (rs ++ ss) zss) → w.grownBy w' (blockOf a0) → wpList Try.prog ops Q rest (a.put o.dst (.slice a' zss.length c')) w') :
    wpList Try.prog ops Q (o :: rest) a w := by
  obtain ⟨i, hi, hz0, hz1, hz2⟩ := info_parts infoInts
  refine wpList_app w hgd s x 48 ho B 32 i (.slice none 0 0) 24 Try.underlying48 hi hz0 hz1 hz2 rfl a0 xss.length c (RV rs xss) hs hown A yss.length d (RV ss yss) hx (RV_length hM.len) hM.top (RV_cell1 _ _) h63 (by omega) hbase ?_
  intro a' c' w' h1 h2 h3
  have hlz : zss.length = xss.length + yss.length := by rw [hz, List.length_append]
  rw [← hlz] at h1 ⊢
  rw [← RV_append hl, ← hz] at h1
  exact h a' c' w' h1 h2

/-- The symbols of the first k generations, one behind the other. -/
def jflat (gs : List Gn) (k : Nat) : List (List Int) := ((gs.take k).map (·.2)).flatten
theorem jflat_succ {gs : List Gn} {k : Nat} {n : Int} {xss : List (List Int)} (h : gs[k]? = some (n, xss)) : jflat gs (k + 1) = jflat gs k ++ xss := by
  unfold jflat
  rw [List.take_add_one, h]
  simp
theorem tot_app (a b : List (List Int)) : tot (a ++ b) = tot a + tot b := by simp [tot]
theorem jflat_sum (gs : List Gn) : (jflat gs gs.length).length + tot (jflat gs gs.length) = sumG gs := by
  unfold jflat
  rw [List.take_length]
  induction gs with
  | nil => simp [sumG, tot]
  | cons g r ih =>
    simp only [List.map_cons, List.flatten_cons, List.length_append, tot_app, sumG]
    omega
theorem sumG_take (gs : List Gn) (k : Nat) : sumG (gs.take k) ≤ sumG gs := by
  induction gs generalizing k with
  | nil => simp [sumG]
  | cons g r ih =>
    cases k with
    | zero => simp [sumG]
    | succ k =>
      have := ih k
      simp only [List.take_succ_cons, sumG]
      omega
theorem jflat_le (gs : List Gn) (k : Nat) : (jflat gs k).length + tot (jflat gs k) ≤ sumG gs := by
  have h := jflat_sum (gs.take k)
  have h2 := sumG_take gs k
  have : jflat (gs.take k) (gs.take k).length = jflat gs k := by unfold jflat; rw [List.take_length]
  rw [this] at h
  omega
/-- The first k generations are valid and follow one another. -/
def jokTo (gs : List Gn) : Nat → Bool
  | 0 => true
  | k + 1 => jokTo gs k && (validG (gs.getD k (0, [])).1 (gs.getD k (0, [])).2 && decide (k = 0 ∨ (gs.getD k (0, [])).1 = (gs.getD (k - 1) (0, [])).1 + 1))
theorem jok_no {gs : List Gn} {k : Nat} (h : jokTo gs k = false) : ∀ j, k ≤ j → jokTo gs j = false := by
  intro j hj
  induction j with
  | zero => rwa [show k = 0 by omega] at h
  | succ j ih =>
    by_cases e : k = j + 1
    · rw [← e]; exact h
    · simp only [jokTo, ih (by omega), Bool.false_and]
def jok (gs : List Gn) : Bool := jokTo gs gs.length
noncomputable def joinD (gs : List Gn) : List Int := if jok gs then usD (jflat gs gs.length) else []
noncomputable def joinOk (gs : List Gn) : Bool := if jok gs then usOk (jflat gs gs.length) else false
theorem getD_gn {gs : List Gn} {k : Nat} {g : Gn} (h : gs[k]? = some g) : gs.getD k (0, []) = g := by simp [List.getD, h]
theorem join_bad {gs : List Gn} {k : Nat} {n : Int} {xss : List (List Int)} (h : gs[k]? = some (n, xss)) (hb : validG n xss = false) : joinD gs = [] ∧ joinOk gs = false := by
  have hk := (List.getElem?_eq_some_iff.1 h).1
  have : jok gs = false := jok_no (k := k + 1) (by simp only [jokTo, getD_gn h, hb, Bool.false_and, Bool.and_false]) _ hk
  unfold joinD joinOk
  rw [this]
  exact ⟨rfl, rfl⟩
theorem join_gap {gs : List Gn} {k : Nat} {n n0 : Int} {xss xss0 : List (List Int)} (h : gs[k + 1]? = some (n, xss)) (h0 : gs[k]? = some (n0, xss0)) (hb : n ≠ n0 + 1) : joinD gs = [] ∧ joinOk gs = false := by
  have hk := (List.getElem?_eq_some_iff.1 h).1
  have : jok gs = false := jok_no (k := k + 2) (by
    simp only [jokTo, getD_gn h, getD_gn h0, Nat.add_sub_cancel]
    rw [decide_eq_false (show ¬ (k + 1 = 0 ∨ n = n0 + 1) by omega), Bool.and_false, Bool.and_false]) _ hk
  unfold joinD joinOk
  rw [this]
  exact ⟨rfl, rfl⟩
theorem jok_yes {gs : List Gn} {k : Nat} {n : Int} {xss : List (List Int)} (h : gs[k]? = some (n, xss)) (hj : jokTo gs k = true) (hv : validG n xss = true) (hc : k = 0 ∨ ∃ n0 xss0, gs[k - 1]? = some (n0, xss0) ∧ n = n0 + 1) : jokTo gs (k + 1) = true := by
  simp only [jokTo, getD_gn h, hj, hv, Bool.true_and]
  rw [decide_eq_true_eq]
  rcases hc with hc | ⟨n0, xss0, h0, hc⟩
  · exact .inl hc
  · exact .inr (by rw [getD_gn h0]; exact hc)
theorem jok_prev {gs : List Gn} {k : Nat} {n : Int} {xss : List (List Int)} (h : gs[k]? = some (n, xss)) (hj : jokTo gs (k + 1) = true) : validG n xss = true := by
  simp only [jokTo, getD_gn h, Bool.and_eq_true] at hj
  exact hj.2.1
theorem validG_id {n : Int} {xss : List (List Int)} (h : validG n xss = true) : 0 ≤ n ∧ n ≤ 1000000000000 := by
  unfold validG at h
  rw [Bool.and_eq_true] at h
  exact inR_true.1 h.1

/-- A slice of rows that can be read in the world w0 (the rows) and is ours (the heads). -/
def JS (w0 w : World) (B : Nat) (a : Option Addr) (c : Nat) (yss : List (List Int)) : Prop :=
  ∃ rs, rs.length = yss.length ∧ w.ownsRow B 32 1 (.slice a yss.length c) yss.length (RV rs yss) ∧ ∀ (i : Nat) (r : Option Addr × Nat) (xs : List Int), rs[i]? = some r → yss[i]? = some xs → Vals w0 r.1 (I xs)
theorem JS.ext {w0 w w' : World} {B : Nat} {a : Option Addr} {c : Nat} {yss : List (List Int)} (h : JS w0 w B a c yss) (he : Ext w w') : JS w0 w' B a c yss := by
  obtain ⟨rs, h1, h2, h3⟩ := h
  exact ⟨rs, h1, ownsRow_of_block h2 fun k hk => he.block_eq (ownsRow_block h2 k hk).2, h3⟩
theorem JS.reads {w0 w : World} {B : Nat} {a : Option Addr} {c : Nat} {yss : List (List Int)} (h : JS w0 w B a c yss) (he : Ext w0 w) : MatR w a yss := by
  obtain ⟨rs, h1, h2, h3⟩ := h
  exact ⟨rs, h1, Vals.of_own h2, fun i r xs hr hx => (h3 i r xs hr hx).ext he⟩

set_option maxHeartbeats 8000000 in
set_option maxRecDepth 100000 in
theorem implJoinGenerations_ok (a : Option Addr) (c : Nat) (gs : List Gn) (w : World) (h : SR GK w a gs) (hl : gs.length ≤ 1048576) (hs : sumG gs ≤ 1048576) (hr : ∀ g ∈ gs, ∀ xs ∈ g.2, xs.length ≤ 1048576) :
    Calls Try.prog 56 #[.slice a gs.length c] w (NewYF w (joinD gs) (joinOk gs)) := by
  have HR := Lib.hid hr
  have HA := Lib.hid h
  clear hr h
  have bad : Hid (joinD gs = [] ∧ joinOk gs = false → ∀ W, Ext w W → NewYF w (joinD gs) (joinOk gs) (.returned (.tuple #[.slice none 0 0, .bool false])) W) := fun hb W hW => by
    rw [hb.1, hb.2]
    exact ⟨none, 0, rfl, World.ownsRow_nil _ _ _ _, hW⟩
  go_enter Try.func56, Try.ntmps56
  go_wp2_with fail
  go_loopw [4, 9] (fun v i wr => ∃ (k : Nat) (a1 : Option Addr) (c1 : Nat) (yss : List (List Int)), k ≤ gs.length ∧ i = .int .i64 k ∧ v = .slice a1 yss.length c1 ∧ Hid (yss = jflat gs k) ∧ Hid (jokTo gs k = true) ∧ JS w wr w.heap.size a1 c1 yss ∧ Ext w wr) (fun _ i _ => gs.length - (intOf i).toNat)
  case atStart => exact ⟨0, none, 0, [], Nat.zero_le _, rfl, rfl, rfl, rfl, ⟨[], rfl, World.ownsRow_nil _ _ _ _, fun i r xs hr => by simp at hr⟩, Ext.refl _⟩
  case round =>
    obtain ⟨k, a1, c1, yss, hk, rfl, rfl, HY, HJ, ho, he⟩ := hrel
    by_cases hlt : k < gs.length
    · obtain ⟨b, o, ra, rc, n, xss, rfl, hb, hx, hc0, hc1, hM⟩ := HA.out.gn hlt
      have HX := Lib.hid hx.out
      have HM := Lib.hid hM
      have hw0 := he.cell hc0
      have hw1 := he.cell hc1
      have hbw : b < wr.heap.size := World.block_lt_of_cell? _ _ hw0
      have i1 : (k : Int) < (gs.length : Int) := by omega
      have HO := Lib.hid ho
      have XB : Hid (Ext wr (wr.alloc (.cells #[.int .i64 n, .slice ra xss.length rc] 53))) := (Ext.refl wr).alloc _
      have EB := Lib.hid (he.trans XB.out)
      obtain ⟨hxl, hxr⟩ : xss.length ≤ 1099511627776 ∧ ∀ xs ∈ xss, xs.length ≤ 1099511627776 := by
        have h1 := sumG_mem (List.mem_of_getElem? HX.out)
        have h2 := HR.out _ (List.mem_of_getElem? HX.out)
        exact ⟨by show (n, xss).2.length ≤ _; omega, fun xs hx => Nat.le_trans (h2 xs hx) (by omega)⟩
      have CV : Hid (∀ W, Ext (wr.alloc (.cells #[.int .i64 n, .slice ra xss.length rc] 53)) W → Calls Try.prog 60 #[bsV n ra rc xss] W (Gives W (.bool (validG n xss)))) := fun W hE => implIsValidGeneration_ok n ra rc xss W (HM.out.ext (EB.out.trans hE)) hxl hxr
      have x0 : Ext (wr.alloc (.cells #[.int .i64 n, .slice ra xss.length rc] 53)) (wr.alloc (.cells #[.int .i64 n, .slice ra xss.length rc] 53)).drew := (Ext.refl _).drew
      have KEEP : Hid (∀ w', Ext (wr.alloc (.cells #[.int .i64 n, .slice ra xss.length rc] 53)) w' → w'.cell? ⟨wr.heap.size, 0, none⟩ = some (.int .i64 n) ∧ w'.cell? ⟨wr.heap.size, 1, none⟩ = some (.slice ra xss.length rc)) := fun w' hE => ⟨hE.cell (by simp), hE.cell (by simp)⟩
      clear hM hx hc0 hc1 ho hxl hxr
      cases hv : validG n xss
      · have HB := Lib.hid (join_bad HX.out hv)
        rw [hv] at CV
        clear hv HO XB he
        go_wp2_with fail
        refine wp_region_any (by kernel_rfl) ?_
        try (change wpAny _ _ _ _ _ _ _ (World.drew _))
        refine wpAny_ready (rs := [0]) (by kernel_rfl) (by simp) ?_
        refine AllReady.cons rfl (fun K hK => ?_) AllReady.nil
        go_simp
        refine hK _ _ ?_
        clear hK K
        refine wpAny_ready (rs := [1]) (by kernel_rfl) (by simp) ?_
        refine AllReady.cons rfl (fun K hK => ?_) AllReady.nil
        go_simp
        go_at_call 60
        (with_reducible refine (CV.out _ x0).mono ?_)
        rintro e v1 ⟨rfl, f1⟩
        have x1 := x0.trans f1
        refine hK _ _ ?_
        clear hK K
        refine wpAny_take (i := 2) (v := .bool true) rfl (by kernel_rfl) (by kernel_rfl) (by kernel_rfl) (fun _ _ _ h => h) (Or.inl ⟨by rfl, fun w => by rfl⟩) ?_
        refine wpAny_take (i := 3) (v := .bool true) rfl (by kernel_rfl) (by kernel_rfl) (by kernel_rfl) (fun _ _ _ h => h) (Or.inl ⟨by rfl, fun w => by rfl⟩) ?_
        go_simp
        refine wpAny_take (i := 4) (v := undef) rfl (by kernel_rfl) (by kernel_rfl) (by kernel_rfl) (fun _ _ _ h => h) (Or.inr ⟨by rfl, rfl⟩) ?_
        go_simp
        refine wpAny_take (i := 5) (v := undef) rfl (by kernel_rfl) (by kernel_rfl) (by kernel_rfl) (fun _ _ _ h => h) (Or.inr ⟨by rfl, rfl⟩) ?_
        refine wpAny_take (i := 6) (v := undef) rfl (by kernel_rfl) (by kernel_rfl) (by kernel_rfl) (fun _ _ _ h => h) (Or.inr ⟨by rfl, rfl⟩) ?_
        go_simp
        refine wpAny_take (i := 7) (v := undef) rfl (by kernel_rfl) (by kernel_rfl) (by kernel_rfl) (fun _ _ _ h => h) (Or.inr ⟨by rfl, rfl⟩) ?_
        refine wpAny_take (i := 8) (v := undef) rfl (by kernel_rfl) (by kernel_rfl) (by kernel_rfl) (fun _ _ _ h => h) (Or.inr ⟨by rfl, rfl⟩) ?_
        go_simp
        refine wpAny_take (i := 9) (v := undef) rfl (by kernel_rfl) (by kernel_rfl) (by kernel_rfl) (fun _ _ _ h => h) (Or.inr ⟨by rfl, rfl⟩) ?_
        refine wpAny_take (i := 10) (v := undef) rfl (by kernel_rfl) (by kernel_rfl) (by kernel_rfl) (fun _ _ _ h => h) (Or.inr ⟨by rfl, rfl⟩) ?_
        go_simp
        refine wpAny_take (i := 11) (v := undef) rfl (by kernel_rfl) (by kernel_rfl) (by kernel_rfl) (fun _ _ _ h => h) (Or.inr ⟨by rfl, rfl⟩) ?_
        refine wpAny_take (i := 12) (v := undef) rfl (by kernel_rfl) (by kernel_rfl) (by kernel_rfl) (fun _ _ _ h => h) (Or.inr ⟨by rfl, rfl⟩) ?_
        go_simp
        refine wpAny_take (i := 13) (v := undef) rfl (by kernel_rfl) (by kernel_rfl) (by kernel_rfl) (fun _ _ _ h => h) (Or.inr ⟨by rfl, rfl⟩) ?_
        refine wpAny_take (i := 14) (v := undef) rfl (by kernel_rfl) (by kernel_rfl) (by kernel_rfl) (fun _ _ _ h => h) (Or.inr ⟨by rfl, rfl⟩) ?_
        go_simp
        refine wpAny_take (i := 15) (v := undef) rfl (by kernel_rfl) (by kernel_rfl) (by kernel_rfl) (fun _ _ _ h => h) (Or.inr ⟨by rfl, rfl⟩) ?_
        refine wpAny_take (i := 16) (v := undef) rfl (by kernel_rfl) (by kernel_rfl) (by kernel_rfl) (fun _ _ _ h => h) (Or.inr ⟨by rfl, rfl⟩) ?_
        go_simp
        refine wpAny_take (i := 17) (v := undef) rfl (by kernel_rfl) (by kernel_rfl) (by kernel_rfl) (fun _ _ _ h => h) (Or.inr ⟨by rfl, rfl⟩) ?_
        refine wpAny_take (i := 18) (v := .bool true) rfl (by kernel_rfl) (by kernel_rfl) (by kernel_rfl) (fun _ _ _ h => h) (Or.inl ⟨by rfl, fun w => by rfl⟩) ?_
        refine wpAny_done (by kernel_rfl) ?_ _
        go_wp2_with fail
        go_ret2
        exact bad.out HB.out _ (EB.out.trans x1)
      rw [hv] at CV
      have HV := Lib.hid hv
      clear hv
      by_cases hk0 : k = 0
      · subst hk0
        have HJ2 : Hid (jokTo gs (0 + 1) = true) := jok_yes HX.out HJ.out HV.out (.inl rfl)
        clear he
        rw [show o + 0 * 2 = o by omega] at hw0 hw1
        have j1 : (0 : Int) < (gs.length : Int) := by omega
        have j2 : 0 < gs.length := by omega
        have j3 : gs ≠ [] := fun e => by rw [e] at j2; simp at j2
        go_wp2_with fail
        refine wp_region_any (by kernel_rfl) ?_
        try (change wpAny _ _ _ _ _ _ _ (World.drew _))
        refine wpAny_ready (rs := [0]) (by kernel_rfl) (by simp) ?_
        refine AllReady.cons rfl (fun K hK => ?_) AllReady.nil
        go_simp
        refine hK _ _ ?_
        clear hK K
        refine wpAny_ready (rs := [1]) (by kernel_rfl) (by simp) ?_
        refine AllReady.cons rfl (fun K hK => ?_) AllReady.nil
        go_simp
        go_at_call 60
        (with_reducible refine (CV.out _ x0).mono ?_)
        rintro e v1 ⟨rfl, f1⟩
        have x1 := x0.trans f1
        refine hK _ _ ?_
        clear hK K
        refine wpAny_take (i := 2) (v := .bool false) rfl (by kernel_rfl) (by kernel_rfl) (by kernel_rfl) (fun _ _ _ h => h) (Or.inl ⟨by rfl, fun w => by rfl⟩) ?_
        refine wpAny_take (i := 3) (v := .bool false) rfl (by kernel_rfl) (by kernel_rfl) (by kernel_rfl) (fun _ _ _ h => h) (Or.inl ⟨by rfl, fun w => by rfl⟩) ?_
        go_simp
        refine wpAny_take (i := 4) (v := ?_) rfl (by kernel_rfl) (by kernel_rfl) (by kernel_rfl) (fun _ _ _ h => h) (Or.inl ⟨by rfl, ?_⟩) ?_
        rotate_left 1
        · intro w; go_simp; (try with_reducible rfl)
        go_simp
        refine wpAny_take (i := 5) (v := ?_) rfl (by kernel_rfl) (by kernel_rfl) (by kernel_rfl) (fun _ _ _ h => h) (Or.inl ⟨by rfl, ?_⟩) ?_
        rotate_left 1
        · intro w; go_simp; (try with_reducible rfl)
        go_simp
        refine wpAny_take (i := 6) (v := ?_) rfl (by kernel_rfl) (by kernel_rfl) (by kernel_rfl) (fun _ _ _ h => h) (Or.inl ⟨by rfl, ?_⟩) ?_
        rotate_left 1
        · intro w; go_simp; (try with_reducible rfl)
        go_simp
        refine wpAny_take (i := 7) (v := undef) rfl (by kernel_rfl) (by kernel_rfl) (by kernel_rfl) (fun _ _ _ h => h) (Or.inr ⟨by rfl, rfl⟩) ?_
        refine wpAny_take (i := 8) (v := undef) rfl (by kernel_rfl) (by kernel_rfl) (by kernel_rfl) (fun _ _ _ h => h) (Or.inr ⟨by rfl, rfl⟩) ?_
        go_simp
        refine wpAny_take (i := 9) (v := undef) rfl (by kernel_rfl) (by kernel_rfl) (by kernel_rfl) (fun _ _ _ h => h) (Or.inr ⟨by rfl, rfl⟩) ?_
        refine wpAny_take (i := 10) (v := undef) rfl (by kernel_rfl) (by kernel_rfl) (by kernel_rfl) (fun _ _ _ h => h) (Or.inr ⟨by rfl, rfl⟩) ?_
        go_simp
        refine wpAny_take (i := 11) (v := undef) rfl (by kernel_rfl) (by kernel_rfl) (by kernel_rfl) (fun _ _ _ h => h) (Or.inr ⟨by rfl, rfl⟩) ?_
        refine wpAny_take (i := 12) (v := undef) rfl (by kernel_rfl) (by kernel_rfl) (by kernel_rfl) (fun _ _ _ h => h) (Or.inr ⟨by rfl, rfl⟩) ?_
        go_simp
        refine wpAny_take (i := 13) (v := undef) rfl (by kernel_rfl) (by kernel_rfl) (by kernel_rfl) (fun _ _ _ h => h) (Or.inr ⟨by rfl, rfl⟩) ?_
        refine wpAny_take (i := 14) (v := undef) rfl (by kernel_rfl) (by kernel_rfl) (by kernel_rfl) (fun _ _ _ h => h) (Or.inr ⟨by rfl, rfl⟩) ?_
        go_simp
        refine wpAny_take (i := 15) (v := undef) rfl (by kernel_rfl) (by kernel_rfl) (by kernel_rfl) (fun _ _ _ h => h) (Or.inr ⟨by rfl, rfl⟩) ?_
        refine wpAny_take (i := 16) (v := undef) rfl (by kernel_rfl) (by kernel_rfl) (by kernel_rfl) (fun _ _ _ h => h) (Or.inr ⟨by rfl, rfl⟩) ?_
        go_simp
        refine wpAny_take (i := 17) (v := ?_) rfl (by kernel_rfl) (by kernel_rfl) (by kernel_rfl) (fun _ _ _ h => h) (Or.inl ⟨by rfl, ?_⟩) ?_
        rotate_left 1
        · intro w; go_simp; (try with_reducible rfl)
        go_simp
        refine wpAny_take (i := 18) (v := ?_) rfl (by kernel_rfl) (by kernel_rfl) (by kernel_rfl) (fun _ _ _ h => h) (Or.inl ⟨by rfl, ?_⟩) ?_
        rotate_left 1
        · intro w; go_simp; (try with_reducible rfl)
        go_simp
        refine wpAny_done (by kernel_rfl) ?_ _
        obtain ⟨_, k1', KR⟩ : v1.cell? ⟨wr.heap.size, 0, none⟩ = some (.int .i64 n) ∧ v1.cell? ⟨wr.heap.size, 1, none⟩ = some (.slice ra xss.length rc) ∧ True := by
          have := KEEP.out _ x1
          exact ⟨this.1, by first | exact this.2 | exact this.2.1, trivial⟩
        have EV := EB.out.trans x1
        have JV := (HO.out.ext XB.out).ext x1
        clear KEEP CV x0 x1 f1 HO EB XB KR
        obtain ⟨rs, hrs, hown, hrow⟩ := JV
        obtain ⟨ss, hm⟩ := HM.out
        obtain ⟨zss, hzs⟩ : ∃ zss, Hid (zss = yss ++ xss) := ⟨_, rfl⟩
        have HZ : Hid (zss = jflat gs (0 + 1)) := by rw [hzs.out, jflat_succ HX.out, ← HY.out]; exact Lib.hid rfl
        have hm1 := hm.ext EV
        have hzl : yss.length + xss.length ≤ 1099511627776 := by
          have := jflat_le gs (0 + 1)
          rw [← HZ.out, hzs.out, List.length_append] at this
          omega
        go_wp2_with (at_builtin; refine wpList_appRows _ rfl _ _ rfl w.heap.size _ _ rs yss rfl hown hrs _ _ ss xss rfl hm1 zss hzs.out hzl EV.size_le ?_)
        intro a7 c7 w7 h7 g7
        have E7 := EV.grown g7 (fun k hk => (ownsRow_block hown k hk).1)
        have J7 : JS w w7 w.heap.size a7 c7 zss := ⟨rs ++ ss, by rw [List.length_append, hrs, hm.len, hzs.out, List.length_append], h7, fun i r xs hr hx => by
          rw [hzs.out] at hx
          by_cases hi : i < rs.length
          · rw [List.getElem?_append_left hi] at hr
            rw [List.getElem?_append_left (by omega)] at hx
            exact hrow i r xs hr hx
          · rw [List.getElem?_append_right (by omega)] at hr
            rw [List.getElem?_append_right (by omega), ← hrs] at hx
            exact hm.row _ r xs hr hx⟩
        clear h7 g7 hown hrow hm hm1 EV
        go_wp2_with fail
        go_roundw
        case rel => exact ⟨0 + 1, a7, c7, zss, by omega, by go_num, rfl, HZ, HJ2, J7, E7⟩
        case measure => simp [intOf]; omega
      · obtain ⟨q, rfl⟩ : ∃ q, k = q + 1 := ⟨k - 1, by omega⟩
        obtain ⟨b', o', ra', rc', n0, xss0, hab, _, hx0, hd0, _, _⟩ := HA.out.gn (k := q) (by omega)
        obtain ⟨rfl, rfl⟩ : b = b' ∧ o = o' := by
          injection hab with hab
          injection hab with h1 h2
          exact ⟨h1, h2⟩
        have hq0 := he.cell hd0
        have HX0 := Lib.hid hx0.out
        obtain ⟨n00, n01⟩ := validG_id (jok_prev HX0.out HJ.out)
        have KEEP3 : Hid (∀ w', Ext (wr.alloc (.cells #[.int .i64 n, .slice ra xss.length rc] 53)) w' → w'.cell? ⟨wr.heap.size, 0, none⟩ = some (.int .i64 n) ∧ w'.cell? ⟨wr.heap.size, 1, none⟩ = some (.slice ra xss.length rc) ∧ w'.cell? ⟨b, o + q * 2, none⟩ = some (.int .i64 n0)) := fun w' hE => ⟨hE.cell (by simp), hE.cell (by simp), hE.cell (XB.out.cell hq0)⟩
        replace KEEP := KEEP3
        have i0 : (0 : Int) < ((q + 1 : Nat) : Int) := by omega
        have i2 : (0 : Int) ≤ (q : Int) := by omega
        have i3 : (q : Int) + 1 - 1 = (q : Int) := by omega
        have i4 : IntKind.i64.wrap ((q : Int) + 1 - 1) = (q : Int) := by rw [IntKind.wrap_i64]; omega
        have i5 : IntKind.i64.wrap (((q + 1 : Nat) : Int) - 1) = (q : Int) := by rw [IntKind.wrap_i64]; omega
        have i6 : IntKind.i64.wrap (q : Int) = (q : Int) := by rw [IntKind.wrap_i64]; omega
        have i7 : ((q + 1 : Nat) : Int) - 1 = (q : Int) := by omega
        have i8 : (q : Int) < (gs.length : Int) := by omega
        have i9 : IntKind.i64.wrap (n0 + 1) = n0 + 1 := by rw [IntKind.wrap_i64]; omega
        clear hk0 hab hx0 hd0 KEEP3
        by_cases hn : n = n0 + 1
        · have HJ2 : Hid (jokTo gs (q + 1 + 1) = true) := jok_yes HX.out HJ.out HV.out (.inr ⟨n0, xss0, HX0.out, hn⟩)
          have hne : (n != n0 + 1) = false := by rw [hn]; simp
          clear he hq0 hn
          go_wp2_with fail
          go_region_held3 (fun w' => w'.cell? ⟨wr.heap.size, 0, none⟩ = some (.int .i64 n) ∧ w'.cell? ⟨wr.heap.size, 1, none⟩ = some (.slice ra xss.length rc) ∧ w'.cell? ⟨b, o + q * 2, none⟩ = some (.int .i64 n0))
            (first | exact KEEP.out _ x1 | exact KEEP.out _ x0 | exact KEEP.out _ (Ext.refl _) | go_keep)
            (first | (go_at_call 60; (with_reducible refine (CV.out _ x0).mono ?_); rintro e v1 ⟨rfl, f1⟩; have x1 := x0.trans f1))
          obtain ⟨_, k1', KR⟩ : v1.cell? ⟨wr.heap.size, 0, none⟩ = some (.int .i64 n) ∧ v1.cell? ⟨wr.heap.size, 1, none⟩ = some (.slice ra xss.length rc) ∧ True := by
            have := KEEP.out _ x1
            exact ⟨this.1, by first | exact this.2 | exact this.2.1, trivial⟩
          have EV := EB.out.trans x1
          have JV := (HO.out.ext XB.out).ext x1
          clear KEEP CV x0 x1 f1 HO EB XB KR
          obtain ⟨rs, hrs, hown, hrow⟩ := JV
          obtain ⟨ss, hm⟩ := HM.out
          obtain ⟨zss, hzs⟩ : ∃ zss, Hid (zss = yss ++ xss) := ⟨_, rfl⟩
          have HZ : Hid (zss = jflat gs ((q + 1) + 1)) := by rw [hzs.out, jflat_succ HX.out, ← HY.out]; exact Lib.hid rfl
          have hm1 := hm.ext EV
          have hzl : yss.length + xss.length ≤ 1099511627776 := by
            have := jflat_le gs ((q + 1) + 1)
            rw [← HZ.out, hzs.out, List.length_append] at this
            omega
          go_wp2_with (at_builtin; refine wpList_appRows _ rfl _ _ rfl w.heap.size _ _ rs yss rfl hown hrs _ _ ss xss rfl hm1 zss hzs.out hzl EV.size_le ?_)
          intro a7 c7 w7 h7 g7
          have E7 := EV.grown g7 (fun k hk => (ownsRow_block hown k hk).1)
          have J7 : JS w w7 w.heap.size a7 c7 zss := ⟨rs ++ ss, by rw [List.length_append, hrs, hm.len, hzs.out, List.length_append], h7, fun i r xs hr hx => by
            rw [hzs.out] at hx
            by_cases hi : i < rs.length
            · rw [List.getElem?_append_left hi] at hr
              rw [List.getElem?_append_left (by omega)] at hx
              exact hrow i r xs hr hx
            · rw [List.getElem?_append_right (by omega)] at hr
              rw [List.getElem?_append_right (by omega), ← hrs] at hx
              exact hm.row _ r xs hr hx⟩
          clear h7 g7 hown hrow hm hm1 EV
          go_wp2_with fail
          go_roundw
          case rel => exact ⟨(q + 1) + 1, a7, c7, zss, by omega, by go_num, rfl, HZ, HJ2, J7, E7⟩
          case measure => simp [intOf]; omega
        · have HB := Lib.hid (join_gap HX.out HX0.out hn)
          have hne : (n != n0 + 1) = true := by simpa using hn
          clear he hq0 hn HO
          go_wp2_with fail
          go_region_held3 (fun w' => w'.cell? ⟨wr.heap.size, 0, none⟩ = some (.int .i64 n) ∧ w'.cell? ⟨wr.heap.size, 1, none⟩ = some (.slice ra xss.length rc) ∧ w'.cell? ⟨b, o + q * 2, none⟩ = some (.int .i64 n0))
            (first | exact KEEP.out _ x1 | exact KEEP.out _ x0 | exact KEEP.out _ (Ext.refl _) | go_keep)
            (first | (go_at_call 60; (with_reducible refine (CV.out _ x0).mono ?_); rintro e v1 ⟨rfl, f1⟩; have x1 := x0.trans f1))
          go_wp2_with fail
          go_ret2
          exact bad.out HB.out _ (EB.out.trans x1)
    · obtain rfl : k = gs.length := by omega
      have hM := ho.reads he
      have CS := implSymbolsToBytes_ok a1 c1 yss wr hM (by rw [HY.out]; have := jflat_le gs gs.length; omega) (fun xs hx => by
        rw [HY.out] at hx
        unfold jflat at hx
        rw [List.take_length] at hx
        obtain ⟨l, hl, hx⟩ := List.mem_flatten.1 hx
        obtain ⟨g, hg, rfl⟩ := List.mem_map.1 hl
        exact HR.out g hg xs hx)
      have HF : Hid (joinD gs = usD yss ∧ joinOk gs = usOk yss) := by
        unfold joinD joinOk jok
        rw [HJ.out, ← HY.out]
        exact ⟨rfl, rfl⟩
      obtain ⟨dd, hdd⟩ : ∃ dd, Hid (dd = usD yss) := ⟨_, rfl⟩
      obtain ⟨qq, hqq⟩ : ∃ qq, Hid (qq = usOk yss) := ⟨_, rfl⟩
      rw [← hdd.out, ← hqq.out] at CS HF
      replace CS := Lib.hid CS
      clear hM ho
      go_wp2_with fail
      (with_reducible refine CS.out.mono ?_)
      rintro e w2 ⟨a2, c2, rfl, o2, e2⟩
      have hz := he.size_le
      have E2 := he.trans e2
      clear CS he e2
      go_wp2_with fail
      go_ret2
      rw [HF.out.1, HF.out.2]
      exact ⟨a2, c2, rfl, o2.more hz, E2⟩

end Go.Proofs.Ytkegknophppdgaa
