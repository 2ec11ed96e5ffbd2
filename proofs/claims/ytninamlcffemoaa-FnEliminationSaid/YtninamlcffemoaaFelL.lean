/- FnElimination: the draw; the plain part; the law. -/
import Derived.Test.YtninamlcffemoaaNulp
import Derived.Test.YtninamlcffemoaaDot
import Derived.Test.YtninamlcffemoaaSlv
import Derived.Test.YtninamlcffemoaaDrm
import Derived.Test.YtninamlcffemoaaSame
import Derived.Test.YtninamlcffemoaaNulW
namespace Go.Proofs.Ytninamlcffemoaa
open Go.RowKit
set_option linter.unusedVariables false
set_option maxRecDepth 20000

theorem drawRows_ok (a : Option Addr) (c : Nat) (bs : List Int) (w : World) (h : Vals w a (Y bs)) (hb : ∀ x ∈ bs, 0 ≤ x ∧ x ≤ 255) (hl : bs.length ≤ 1048576) :
    Calls Try.prog 33 #[.slice a bs.length c] w (DM w) := by
  have C1 := Lib.hid (l6One_ok a c bs w h hb hl)
  clear h hb
  go_enter Try.func33, Try.ntmps33
  go_wp2_with fail
  (with_reducible refine C1.out.mono ?_)
  rintro e w1 ⟨a2, c2, xss, rfl, hx, v1, e1⟩
  go_wp2_with fail
  go_ret
  exact ⟨a2, c2, xss, rfl, hx, v1, e1⟩

variable {m : List (List Int)}
theorem el_red (h : validM m = true) : isRedB (rowRed m) = true := by
  have h1 := rowRed_RM h
  have h2 := rowRed_bound m
  refine isRedB_RM.2 ⟨?_, h2.1⟩
  by_cases h0 : (rowRed m).length = 0
  · rw [List.eq_nil_of_length_eq_zero h0]; exact RM.nil _
  · rw [h1.1.cols (by omega)]; exact h1
theorem el_again (h : validM m = true) : rowRed (rowRed m) = rowRed m := by
  have := el_red h
  unfold isRedB at this
  simp only [Bool.and_eq_true, decide_eq_true_eq] at this
  rw [rowRed_yes this.1]
  exact this.2
theorem el_sp (h : validM m = true) : SameSp m.length (mK m) (rowRed m).length (mK (rowRed m)) ∧ (rowRed m).length ≤ m.length := by
  obtain ⟨h1, h2⟩ := validM_true.1 h
  obtain ⟨g1, g2, g3⟩ := gj_red (k := cols m) (cols_le h1) h1
  rw [rowRed_yes h]
  exact ⟨g3 (Nat.le_refl _), g2⟩
theorem el_null (h : validM m = true) : (nsp m).length + (rowRed m).length = cols m := by
  unfold nsp
  rw [if_pos h, nullTo_length]
  exact fr_count (rowRed_RM h)
theorem elim_zero (h : validM m = true) {v : List Int} (hv : v ∈ nsp m) : (mmv m v).length = m.length ∧ leadI (mmv m v) = -1 := by
  obtain ⟨h1, h2⟩ := validM_true.1 h
  have hn := cols_le h1
  unfold nsp at hv
  rw [if_pos h] at hv
  have hvr := nullTo_VR hn v hv
  have hok : mmvOk m v = true := by
    unfold mmvOk
    rw [h, hvr.1, decide_eq_true hvr.2]
    rfl
  refine ⟨mmv_length hok, ?_⟩
  have hr := rowRed_RM h
  rw [nullTo_fr] at hv
  obtain ⟨f, hf, rfl⟩ := List.mem_map.1 hv
  have hf2 := List.mem_filter.1 hf
  have hz : AllZ (mmv m (nullV (rowRed m) (cols m) f)) := fun y hy => by
    obtain ⟨i, hi, he⟩ := List.mem_iff_getElem.1 hy
    have hil : i < m.length := by rw [mmv_length hok] at hi; exact hi
    have hk := mmv_K hok hil
    have hd : dotN (cols m) (mK m i) (vK (nullV (rowRed m) (cols m) f)) = 0 :=
      dotN_sp (cols m) ((el_sp h).1.1 i hil) fun k hk => null_orth hr hk hf2.2 (List.mem_range.1 hf2.1)
    unfold dotN at hd
    rw [hd] at hk
    have := (vK_zero (mmv_AllEl _ _) i).1 hk
    rw [← he, ← ent_some (List.getElem?_eq_getElem hi)]
    exact this
  exact hz.lead
theorem el_both (h : validM m = true) (hl : (m ++ rowRed m).length ≤ 40) : rowRed (m ++ rowRed m) = rowRed m := by
  obtain ⟨h1, h2⟩ := validM_true.1 h
  by_cases h0 : m.length = 0
  · obtain rfl : m = [] := List.eq_nil_of_length_eq_zero h0
    have : rowRed [] = [] := List.eq_nil_of_length_eq_zero (by have := (el_sp h).2; simpa using this)
    rw [this]
    exact this
  · have hr := rowRed_RM h
    have hv : VR (cols m) (m ++ rowRed m) := fun xs hx => (List.mem_append.1 hx).elim (h1 xs) (hr.1 xs)
    have hc : cols (m ++ rowRed m) = cols m := hv.cols (by rw [List.length_append]; omega)
    have hval : validM (m ++ rowRed m) = true := validM_true.2 ⟨by rw [hc]; exact hv, hl⟩
    have e1 := rowRed_RM hval
    rw [hc] at e1
    refine RM.eq e1 hr ((el_sp hval).1.symm.trans ?_)
    have hap : ∀ i, i < (m ++ rowRed m).length → InSp (rowRed m).length (mK (rowRed m)) (mK (m ++ rowRed m) i) := fun i hi => by
      by_cases c1 : i < m.length
      · have : mK (m ++ rowRed m) i = mK m i := by
          show vK ((m ++ rowRed m).getD i []) = vK (m.getD i [])
          rw [List.getD_eq_getElem?_getD, List.getD_eq_getElem?_getD, List.getElem?_append_left c1]
        rw [this]
        exact (el_sp h).1.1 i c1
      · have : mK (m ++ rowRed m) i = mK (rowRed m) (i - m.length) := by
          show vK ((m ++ rowRed m).getD i []) = vK ((rowRed m).getD _ [])
          rw [List.getD_eq_getElem?_getD, List.getD_eq_getElem?_getD, List.getElem?_append_right (by omega)]
        rw [this]
        exact InSp.row _ (by rw [List.length_append] at hi; omega)
    refine ⟨hap, fun i hi => ?_⟩
    have : mK (rowRed m) i = mK (m ++ rowRed m) (m.length + i) := by
      show vK ((rowRed m).getD i []) = vK ((m ++ rowRed m).getD _ [])
      rw [List.getD_eq_getElem?_getD, List.getD_eq_getElem?_getD, List.getElem?_append_right (by omega), Nat.add_sub_cancel_left]
    rw [this]
    exact InSp.row _ (by rw [List.length_append]; omega)

theorem RV_cell1 (rs : List (Option Addr × Nat)) (xss : List (List Int)) : ∀ u ∈ RV rs xss, u.oneCell' = true := fun u hu => by
  unfold RV at hu
  obtain ⟨i, hi, rfl⟩ := List.mem_iff_getElem.1 hu
  rw [List.getElem_zipWith]
  rfl
theorem RV_append {rs ss : List (Option Addr × Nat)} {xss yss : List (List Int)} (h : rs.length = xss.length) : RV (rs ++ ss) (xss ++ yss) = RV rs xss ++ RV ss yss := by
  unfold RV
  exact List.zipWith_append h
/-- append(rows, other..) where only the heads are copied. -/
theorem wpList_appRows {ops : Array Oper} {rest : List Oper} {o : Oper} {a : Act} {Q : Exit → Act → World → Prop} (w : World) (hgd : o.guard = none) (s x : Operand)
    (ho : o.op = .call { callee := .builtin .append, args := #[s, x], argTypes := #[22, 22] })
    (B : Nat) (a0 : Option Addr) (c : Nat) (rs : List (Option Addr × Nat)) (xss : List (List Int)) (hs : a.eval s = .slice a0 xss.length c) (hown : w.ownsRow B 36 1 (.slice a0 xss.length c) xss.length (RV rs xss)) (hl : rs.length = xss.length)
    (A : Option Addr) (d : Nat) (ss : List (Option Addr × Nat)) (yss : List (List Int)) (hx : a.eval x = .slice A yss.length d) (hM : Mat w A ss yss)
    (zss : List (List Int)) (hz : zss = xss ++ yss) (h63 : xss.length + yss.length ≤ 1099511627776) (hbase : B ≤ w.heap.size)
    (h : ∀ a' c' w', w'.ownsRow B 36 1 (.slice a' zss.length c') zss.length (RV (rs ++ ss) zss) → w.grownBy w' (blockOf a0) → wpList Try.prog ops Q rest (a.put o.dst (.slice a' zss.length c')) w') :
    wpList Try.prog ops Q (o :: rest) a w := by
  obtain ⟨i, hi, hz0, hz1, hz2⟩ := info_parts infoInts
  refine wpList_app w hgd s x 22 ho B 36 i (.slice none 0 0) 24 Try.underlying22 hi hz0 hz1 hz2 rfl a0 xss.length c (RV rs xss) hs hown A yss.length d (RV ss yss) hx (RV_length hM.len) hM.top (RV_cell1 _ _) h63 (by omega) hbase ?_
  intro a' c' w' h1 h2 h3
  have hlz : zss.length = xss.length + yss.length := by rw [hz, List.length_append]
  rw [← hlz] at h1 ⊢
  rw [← RV_append hl, ← hz] at h1
  exact h a' c' w' h1 h2

theorem sameRows_self (a b : Option Addr) (c d : Nat) (xss : List (List Int)) (w : World) (h : MatR w a xss) (h' : MatR w b xss) (hl : xss.length ≤ 1099511627776) (hr : ∀ xs ∈ xss, xs.length ≤ 1099511627776) :
    Calls Try.prog 28 #[.slice a xss.length c, .slice b xss.length d] w (Quiet w (.bool true)) := by
  have := sameRows_ok a b c d xss xss w h h' hl hr
  rw [show decide (xss = xss) = true from decide_eq_true rfl] at this
  exact this

set_option maxHeartbeats 8000000 in
set_option maxRecDepth 100000 in
theorem lawFnElimination (a : Option Addr) (c : Nat) (xs : List Int) (w : World) (r0 : Vals w a (Y xs)) (m0 : xs.length ≤ maxLen) (m1 : ∀ x ∈ xs, 0 ≤ x ∧ x ≤ 255) :
    Calls Try.prog 6 #[.slice a xs.length c] w (Gives w (.bool true)) := by
  by_cases hl : xs.length ≤ 1048576
  rotate_left
  · have C1 := Lib.hid (big_yes a c xs w hl m0)
    clear r0 m1 hl m0
    go_enter Try.func6, Try.ntmps6
    go_wp2_with (go_at_call 23; (with_reducible refine C1.out.mono ?_); rintro e w' ⟨rfl, rfl⟩)
    go_ret
    exact ⟨rfl, Ext.refl _⟩
  have C1 := Lib.hid (big_no a c xs w hl)
  have CD := Lib.hid (drawRows_ok a c xs w r0 m1 hl)
  clear r0 m1 m0 hl
  go_enter Try.func6, Try.ntmps6
  go_wp2_with (go_at_call 23; (with_reducible refine C1.out.mono ?_); rintro e w' ⟨rfl, rfl⟩)
  (with_reducible refine CD.out.mono ?_)
  rintro e w1 ⟨am, cm, m, rfl, ⟨hml, hmb⟩, hM, e1⟩
  have HMB : Hid (∀ xs ∈ m, xs.length ≤ 1048576) := fun xs hx => Nat.le_trans (hmb xs hx) (by omega)
  have HMB2 : Hid (∀ xs ∈ m, xs.length ≤ 1099511627776) := fun xs hx => Nat.le_trans (hmb xs hx) (by omega)
  have CR := Lib.hid (implRowReduce_ok am cm m w1 hM (by omega) HMB.out)
  have CV := Lib.hid (fun W (he : Ext w1 W) => specIsValidMatrix_ok am cm m W (hM.ext he) (by omega) HMB2.out)
  have CN := Lib.hid (fun W (he : Ext w1 W) => implNullSpace_ok am cm m W (hM.ext he) (by omega) HMB.out)
  obtain ⟨r, hrr⟩ : ∃ r, Hid (r = rowRed m) := ⟨_, rfl⟩
  obtain ⟨nn, hnn⟩ : ∃ nn, Hid (nn = nsp m) := ⟨_, rfl⟩
  have hrb := rowRed_bound m
  have CK := Lib.hid (fun W (h : MatR W am m) => implRank_ok am cm m W h (by omega) HMB.out)
  rw [← hrr.out] at CR hrb CK
  rw [← hnn.out] at CN
  have hr40 := hrb.1
  have HRB : Hid (∀ xs ∈ r, xs.length ≤ 1048576) := fun xs hx => Nat.le_trans (hrb.2 xs hx) (by omega)
  have HRB2 : Hid (∀ xs ∈ r, xs.length ≤ 1099511627776) := fun xs hx => Nat.le_trans (hrb.2 xs hx) (by omega)
  clear hmb hrb CD C1
  go_wp2_with fail
  (with_reducible refine CR.out.mono ?_)
  rintro e w2 ⟨ar, cr, rfl, oR, e2⟩
  have CV2 := Lib.hid (CV.out w2 e2)
  have hR := oR.reads
  clear CR CV oR
  cases hval : validM m
  · rw [hval] at CV2
    have hr0 : r = [] := by rw [hrr.out]; exact rowRed_no hval
    have hn0 : nn = [] := by rw [hnn.out]; unfold nsp; rw [hval]; rfl
    subst hr0 hn0
    have CN2 := Lib.hid (fun n => CN.out (w2.drewN n) (e2.drewN n))
    have E2 := e1.trans e2
    clear CN e1 e2
    go_wp2_with fail
    (with_reducible refine CV2.out.mono ?_)
    rintro e w3 ⟨rfl, n3, rfl⟩
    have E3 := E2.drewN n3
    go_wp2_with fail
    (with_reducible refine (CN2.out n3).mono ?_)
    rintro e w4 ⟨a4, c4, rfl, o4, e4⟩
    go_wp2_with fail
    go_ret
    exact ⟨rfl, E3.trans e4⟩
  rw [hval] at CV2
  have HV := Lib.hid hval
  have HRED : Hid (isRedB r = true) := by rw [hrr.out]; exact el_red hval
  have HAG : Hid (rowRed r = r) := by rw [hrr.out]; exact el_again hval
  have hle : r.length ≤ m.length := by rw [hrr.out]; exact (el_sp hval).2
  have hcnt : nn.length + r.length = cols m := by rw [hrr.out, hnn.out]; exact el_null hval
  have HZ : Hid (∀ v ∈ nn, (mmv m v).length = m.length ∧ leadI (mmv m v) = -1) := fun v hv => by rw [hnn.out] at hv; exact elim_zero hval hv
  have HBO : Hid ((m ++ r).length ≤ 40 → rowRed (m ++ r) = r) := fun h => by rw [hrr.out] at h ⊢; exact el_both hval h
  have HNB : Hid (∀ xs ∈ nn, xs.length ≤ 40) := fun xs hx => by
    rw [hnn.out] at hx
    unfold nsp at hx
    rw [if_pos hval] at hx
    have := (nullTo_VR (cols_le (validM_true.1 hval).1) xs hx).2
    have := cols_le (validM_true.1 hval).1
    omega
  have hc40 := cols_le (validM_true.1 hval).1
  clear hval hrr hnn
  have E2 := e1.trans e2
  have M2 := hM.ext e2
  have CN1 : Hid (∀ W, Ext w2 W → Calls Try.prog 35 #[.slice am m.length cm] W (NewM W nn)) := fun W h => CN.out W (e2.trans h)
  clear CN e1 e2 hM
  go_wp2_with fail
  (with_reducible refine CV2.out.mono ?_)
  rintro e w3 ⟨rfl, n3, rfl⟩
  have E3 := E2.drewN n3
  have M3 := M2.ext ((Ext.refl w2).drewN n3)
  have R3 := hR.ext ((Ext.refl w2).drewN n3)
  have CN2 : Hid (∀ W, Ext (w2.drewN n3) W → Calls Try.prog 35 #[.slice am m.length cm] W (NewM W nn)) := fun W h => CN1.out W (((Ext.refl w2).drewN n3).trans h)
  generalize w2.drewN n3 = w3 at *
  clear CN1 CV2 E2 M2 hR
  have CI := Lib.hid (implIsReduced_ok ar cr r w3 R3 (by omega) HRB.out)
  rw [HRED.out] at CI
  go_wp2_with fail
  (with_reducible refine CI.out.mono ?_)
  rintro e w4 ⟨rfl, e4⟩
  have R4 := R3.ext e4
  have CR2 := Lib.hid (implRowReduce_ok ar cr r w4 R4 (by omega) HRB.out)
  rw [HAG.out] at CR2
  clear CI
  go_wp2_with fail
  (with_reducible refine CR2.out.mono ?_)
  rintro e w5 ⟨a5, c5, rfl, o5, e5⟩
  have R5 := R4.ext e5
  have CS := Lib.hid (sameRows_self a5 ar c5 cr r w5 o5.reads R5 (by omega) HRB2.out)
  have e45 := e4.trans e5
  have E5 := E3.trans e45
  have M5 := M3.ext e45
  clear CR2 o5 R4 R3
  go_wp2_with fail
  (with_reducible refine CS.out.mono ?_)
  rintro e w6 ⟨rfl, n6, rfl⟩
  have E6 := E5.drewN n6
  have M6 := M5.ext ((Ext.refl w5).drewN n6)
  have R6 := R5.ext ((Ext.refl w5).drewN n6)
  have CN3 : Hid (∀ W, Ext (w5.drewN n6) W → Calls Try.prog 35 #[.slice am m.length cm] W (NewM W nn)) := fun W h => CN2.out W ((e45.drewN n6).trans h)
  generalize w5.drewN n6 = w6 at *
  clear CN2 CS E5 M5 R5 e45 e4 e5 E3 M3
  have q1 : decide ((m.length : Int) < (r.length : Int)) = false := decide_eq_false (by omega)
  have q1' : decide (m.length < r.length) = false := decide_eq_false (by omega)
  have q2 : ((nn.length : Int) != (cols m : Int) - (r.length : Int)) = false := bne_eq_false_iff_eq.2 (by omega)
  have q3 : IntKind.i64.wrap ((cols m : Int) - (r.length : Int)) = (cols m : Int) - (r.length : Int) := by rw [IntKind.wrap_i64]; omega
  have hnl : nn.length ≤ 40 := by omega
  replace hcnt := Lib.hid hcnt
  go_wp2_with fail
  (with_reducible refine (CK.out _ M6).mono ?_)
  rintro e w7 ⟨rfl, e7⟩
  have E7 := E6.trans e7
  have M7 := M6.ext e7
  have R7 := R6.ext e7
  have CN4 := Lib.hid (CN3.out w7 e7)
  clear E6 M6 R6 e7 CN3
  go_wp2_with fail
  (with_reducible refine CN4.out.mono ?_)
  rintro e w8 ⟨an, cn, rfl, oN, e8⟩
  have E8 := E7.trans e8
  have M8 := M7.ext e8
  have R8 := R7.ext e8
  have N8 := oN.reads
  clear E7 M7 R7 e8 CN4 oN
  go_wp2_with (go_at_call 26; (with_reducible refine (specColumnsOf_ok _ _ _ _ M8).mono ?_); rintro e w' ⟨rfl, rfl⟩)
  go_loopw [6] (fun i wr => ∃ k : Nat, k ≤ nn.length ∧ i = .int .i64 k ∧ Ext w8 wr) (fun i _ => nn.length - (intOf i).toNat)
  case atStart => exact ⟨0, Nat.zero_le _, rfl, Ext.refl _⟩
  case round =>
    obtain ⟨k, hk, rfl, he⟩ := hrel
    by_cases hlt : k < nn.length
    · obtain ⟨b1, o1, ra, rc, v, rfl, hbl, hx, hc, hrow⟩ := (N8.ext he).at_ hlt
      have hvm := List.mem_of_getElem? hx.out
      have hvl := HNB.out v hvm
      have hz := HZ.out v hvm
      have CM := Lib.hid (implMMV_ok am ra cm rc m v wr (M8.ext he) hrow (by omega) HMB.out (by omega))
      obtain ⟨l, hll⟩ : ∃ l, Hid (l = mmv m v) := ⟨_, rfl⟩
      rw [← hll.out] at CM hz
      have q4 : ((l.length : Int) != (m.length : Int)) = false := by rw [hz.1]; simp
      have HLD : Hid (leadI l = -1) := hz.2
      have hlen : l.length ≤ 40 := by rw [hll.out]; exact mmv_len _ _
      have i0 : (k : Int) < (nn.length : Int) := by omega
      clear hz hvm hll
      go_wp2_with fail
      (with_reducible refine CM.out.mono ?_)
      rintro e u1 ⟨a1, c1, rfl, o1, e1⟩
      have he1 := he.trans e1
      clear CM hrow hc he e1
      go_wp2_with (go_at_call 39; (with_reducible refine (implLeadingIndex_ok _ _ _ _ o1.vals (by omega)).mono ?_); rintro e w' ⟨rfl, rfl⟩; rw [HLD.out])
      go_roundw
      case rel => exact ⟨k + 1, by omega, by go_num, he1⟩
      case measure => simp [intOf]; omega
    · obtain rfl : k = nn.length := by omega
      have E9 := E8.trans he
      have M9 := M8.ext he
      have R9 := R8.ext he
      clear E8 M8 R8 N8 he
      obtain ⟨ms, hm0⟩ := M9
      have hms := hm0.ext ((Ext.refl wr).alloc (.cells #[] 36))
      obtain ⟨q, ho0, _, hq0⟩ := OM.new0 wr
      obtain rfl : q = [] := List.eq_nil_of_length_eq_zero hq0.len
      have x1 := (Ext.refl wr).alloc (.cells #[] 36)
      go_wp2_with (at_builtin; refine wpList_appRows _ rfl _ _ rfl wr.heap.size _ _ [] [] rfl ho0 rfl _ _ ms m rfl hms m (List.nil_append m).symm (by simp; omega) (by simp) ?_)
      intro a1 c1 u1 h1 g1
      have X1 : Ext wr u1 := x1.grown g1 (by simp [blockOf])
      obtain ⟨rs, hr0⟩ := R9
      have hrs := hr0.ext X1
      have hz1 := X1.size_le
      obtain ⟨bo, hbo⟩ : ∃ bo, Hid (bo = m ++ r) := ⟨_, rfl⟩
      have hbl : Hid (bo.length = m.length + r.length) := by rw [hbo.out, List.length_append]; exact Lib.hid rfl
      clear g1 x1 ho0 hq0
      go_wp2_with (at_builtin; refine wpList_appRows _ rfl _ _ rfl wr.heap.size _ _ ([] ++ ms) m rfl h1 hms.len _ _ rs r rfl hrs bo hbo.out (by omega) hz1 ?_)
      intro a2 c2 u2 h2 g2
      have X2 : Ext wr u2 := X1.grown g2 (fun k hk => (ownsRow_block h1 k hk).1)
      have HMat : MatR u2 a2 bo := by
        refine ⟨[] ++ ms ++ rs, ?_, Vals.of_own h2, ?_⟩
        · rw [hbl.out, List.length_append, List.nil_append, hms.len, hrs.len]
        · intro i q xs h3 h4
          rw [hbo.out] at h4
          rw [List.nil_append] at h3
          by_cases c1 : i < m.length
          · rw [List.getElem?_append_left (by rw [hms.len]; exact c1)] at h3
            rw [List.getElem?_append_left c1] at h4
            exact (hm0.ext X2).row i q xs h3 h4
          · rw [List.getElem?_append_right (by rw [hms.len]; omega), hms.len] at h3
            rw [List.getElem?_append_right (by omega)] at h4
            exact (hr0.ext X2).row _ q xs h3 h4
      have E10 := E9.trans X2
      have HBB : Hid (∀ xs ∈ bo, xs.length ≤ 1048576) := fun xs hx => by
        rw [hbo.out] at hx
        exact (List.mem_append.1 hx).elim (HMB.out xs) (HRB.out xs)
      have hbl2 : bo.length ≤ 1000 := by rw [hbl.out]; omega
      clear g2 h1 h2 hms hrs hm0 hr0 X1 X2 E9
      by_cases hb : bo.length ≤ 40
      · have q5 : decide ((40 : Int) < (bo.length : Int)) = false := decide_eq_false (by omega)
        have q5' : decide (40 < bo.length) = false := decide_eq_false (by omega)
        have CB := Lib.hid (implRank_ok a2 c2 bo u2 HMat (by omega) HBB.out)
        rw [hbo.out] at hb
        rw [show rowRed bo = r by rw [hbo.out]; exact HBO.out hb] at CB
        clear hb HMat
        go_wp2_with fail
        (with_reducible refine CB.out.mono ?_)
        rintro e u3 ⟨rfl, e3⟩
        go_wp2_with fail
        go_ret
        exact ⟨rfl, E10.trans e3⟩
      · have q5 : (40 : Int) < (bo.length : Int) := by omega
        clear hb HMat
        go_wp2_with fail
        go_ret
        exact ⟨rfl, E10⟩

end Go.Proofs.Ytninamlcffemoaa
