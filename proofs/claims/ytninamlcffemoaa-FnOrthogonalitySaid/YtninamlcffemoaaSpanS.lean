/- Contracts of the reference's l8Copy, InsertVector, SpanOf. -/
import Derived.Test.YtninamlcffemoaaSpanW
namespace Go.Proofs.Ytninamlcffemoaa
open Go.RowKit
set_option linter.unusedVariables false
set_option maxRecDepth 20000

/-- append(rows, row) at a step of a region that draws: what can be read of it. -/
theorem step_appMr {ops : Array Oper} {o : Oper} {a : Act} {K : Act → World → Prop} {Q : Exit → Act → World → Prop} {E : Prop} (w : World) (hgd : o.guard = none) (s x : Operand)
    (ho : o.op = .call { callee := .builtin .append, args := #[s, x], argTypes := #[22, 22] })
    (B C : Nat) (a0 : Option Addr) (c : Nat) (xss : List (List Int)) (hs : a.eval s = .slice a0 xss.length c) (hown : OM w B C a0 c xss) (hB : B ≤ w.heap.size)
    (A : Option Addr) (d : Nat) (ra : Option Addr) (rc : Nat) (xs : List Int) (hx : a.eval x = .slice A 1 d) (hv : Vals w A [.slice ra xs.length rc]) (Br : Nat) (hrow : OwnI w Br ra rc xs)
    (yss : List (List Int)) (hy : yss = xss ++ [xs]) (h63 : xss.length + 1 ≤ 1099511627776)
    (h : ∀ a' c' w', MatR w' a' yss → w.grownBy w' (blockOf a0) → K (a.put o.dst (.slice a' yss.length c')) w') :
    if Region.wanted o (yielded ops a.tmps) = true then Oper.wp Try.prog o a w K Q else E := by
  have hw : Region.wanted o (yielded ops a.tmps) = true := by simp [Region.wanted, hgd]
  rw [if_pos hw]
  obtain ⟨rs, q1, q2, q3⟩ := hown
  obtain ⟨i, hi, hz0, hz1, hz2⟩ := info_parts infoInts
  obtain ⟨a', c', w', hr, h1, h2, h3⟩ := run_app (P := Try.prog) w B 22 o.type 36 i (.slice none 0 0) 24 Try.underlying22 hi hz0 hz1 hz2 rfl a0 xss.length c (RV rs xss) q1 A 1 d [.slice ra xs.length rc] rfl hv (by simp [Value.oneCell']) h63 (by omega) hB
  unfold Oper.wp
  simp only [execOp, ho, resolve, invoke, builtin, Sem.run_bind, Sem.run_pure, Result.andThen_ok, List.map_toArray, List.map_cons, List.map_nil, hs, hx, hr]
  have hl : yss.length = xss.length + 1 := by rw [hy]; simp
  have hM : MatR w' a' yss := by
    refine ⟨rs ++ [(ra, rc)], by rw [hy]; simp [q3.len], ?_, fun j r zs hr hx => ?_⟩
    · rw [hy, RV_push q3.len]
      exact Vals.of_own h1
    · rw [hy] at hx
      by_cases hj : j < rs.length
      · rw [List.getElem?_append_left hj] at hr
        rw [List.getElem?_append_left (by rw [← q3.len]; exact hj)] at hx
        exact ((q3.top_kept q1 h2).row j r zs hr hx).vals
      · have hj2 : j = rs.length := by have := (List.getElem?_eq_some_iff.1 hr).1; simp at this; omega
        subst hj2
        rw [List.getElem?_append_right (Nat.le_refl _), Nat.sub_self] at hr
        rw [List.getElem?_append_right (by rw [q3.len]; exact Nat.le_refl _), q3.len, Nat.sub_self] at hx
        simp at hr hx
        subst hr hx
        have hap := block_ne q1 hrow ints_ne
        refine (hrow.kept h2 ?_).vals
        cases hb : blockOf ra with
        | none => exact .inl rfl
        | some k => exact .inr (fun e => hap k e.symm hb)
  rw [← hl]
  exact h a' c' w' hM h2

set_option maxHeartbeats 4000000 in
set_option maxRecDepth 100000 in
theorem specCopyB_ok (n : Int) (a : Option Addr) (c : Nat) (m : List (List Int)) (w : World) (h : MatR w a m) (hl : m.length ≤ 1048576) (hr : ∀ xs ∈ m, xs.length ≤ 1048576) :
    Calls Try.prog 160 #[bsV n a c m] w (NewB w n m) := by
  have C1 : Hid (∀ W, Ext w W → Calls Try.prog 75 #[.slice a m.length c] W (NewM W m)) := fun W hW => specCopy_ok a c m W (h.ext hW) hl hr
  clear hr
  go_enter Try.func160, Try.ntmps160
  go_wp2_with fail
  go_region_held3 (fun w' => w'.cell? ⟨w.heap.size, 0, none⟩ = some (.int .i64 n) ∧ w'.cell? ⟨w.heap.size, 1, none⟩ = some (.slice a m.length c))
    (first | go_keep | exact ⟨by simp, by simp⟩ | exact ⟨e4.cell (by simp), e4.cell (by simp)⟩)
    ((go_at_call 75; (with_reducible refine (C1.out _ ((((Ext.refl w).alloc _).alloc _).drew)).mono ?_); rintro e w4 ⟨a4, c4, rfl, o4, e4⟩; obtain ⟨k4, f4⟩ := e4.look; have z4 := e4.size_le; simp at k4 f4 z4))
  have e04 := ((((Ext.refl w).alloc _).alloc _).drew).trans e4
  simp at o4
  go_wp2_with fail
  refine bodyPost_ret (v := bsV n a4 c4 m) (by simp only [results, Try.results160]; go_simp) rfl ⟨a4, c4, rfl, ?_, ?_⟩
  · exact ((o4.setCell (by simp) _).setCell (by simp) _).mono (by omega) (by simp)
  · exact (e04.setCell (by simp) _).setCell (by simp) _

/-- A call hands back a new basis and a bool. -/
def NewBF (w : World) (n : Int) (xss : List (List Int)) (ok : Bool) (e : Ending) (w' : World) : Prop := ∃ a c, e = .returned (.tuple #[bsV n a c xss, .bool ok]) ∧ OM w' w.heap.size w'.heap.size a c xss ∧ Ext w w'
def insOk (n : Int) (m : List (List Int)) (v : List Int) : Bool := fitsB n m v && !cvB n m v
def insV (n : Int) (m : List (List Int)) (v : List Int) : List (List Int) := if insOk n m v then gj (m ++ [v]) n.toNat else m

set_option maxHeartbeats 4000000 in
set_option maxRecDepth 100000 in
theorem specInsertVector_ok (n : Int) (a : Option Addr) (c : Nat) (m : List (List Int)) (b : Option Addr) (d : Nat) (v : List Int) (w : World) (h : MatR w a m) (h' : Vals w b (I v)) (hl : m.length ≤ 1048576) (hr : ∀ xs ∈ m, xs.length ≤ 1048576) (hl' : v.length ≤ 1048576) :
    Calls Try.prog 143 #[bsV n a c m, .slice b v.length d] w (NewBF w n (insV n m v) (insOk n m v)) := by
  have E : Ext w ((w.alloc (.cells #[.int .i64 n, .slice a m.length c] 46)).alloc (.cells #[.int .i64 0, .slice none 0 0] 46)) := ((Ext.refl w).alloc _).alloc _
  have Q := Lib.hid (specFits_ok n a c m b d v _ (h.ext E) (h'.ext E) hl hr hl')
  have HR := Lib.hid hr
  have HE := Lib.hid E
  clear hr E
  cases q1 : fitsB n m v
  · have HI : Hid (insV n m v = m ∧ insOk n m v = false) := by unfold insV insOk; rw [q1]; exact ⟨rfl, rfl⟩
    rw [q1] at Q
    go_enter Try.func143, Try.ntmps143
    go_wp2_with fail
    (with_reducible refine Q.out.mono ?_)
    rintro e w1 ⟨rfl, e1⟩
    have E1 := HE.out.trans e1
    have c0 := e1.cell (p := ⟨w.heap.size, 0, none⟩) (v := .int .i64 n) (by simp)
    have c1 := e1.cell (p := ⟨w.heap.size, 1, none⟩) (v := .slice a m.length c) (by simp)
    go_wp2_with fail
    (with_reducible refine (specCopyB_ok _ _ _ m _ (h.ext E1) hl HR.out).mono ?_)
    rintro e w2 ⟨a2, c2, rfl, o2, e2⟩
    have E2 := E1.trans e2
    obtain ⟨k1, f1⟩ := (e1.trans e2).look
    have z1 := e1.size_le
    have z2 := e2.size_le
    simp at k1 f1 z1
    clear c0 c1
    go_wp2_with fail
    refine bodyPost_ret (v := .tuple #[bsV n a2 c2 m, .bool false]) (by simp only [results, Try.results143]; go_simp) rfl ?_
    rw [HI.out.1, HI.out.2]
    exact ⟨a2, c2, rfl, ((o2.setCell (by simp; omega) _).setCell (by simp; omega) _).mono (by omega) (by simp), (E2.setCell (by simp) _).setCell (by simp) _⟩
  rw [q1] at Q
  cases q2 : cvB n m v
  rotate_left
  · have HI : Hid (insV n m v = m ∧ insOk n m v = false) := by unfold insV insOk; rw [q1, q2]; exact ⟨rfl, rfl⟩
    go_enter Try.func143, Try.ntmps143
    go_wp2_with fail
    (with_reducible refine Q.out.mono ?_)
    rintro e w1 ⟨rfl, e1⟩
    have E1 := HE.out.trans e1
    have c0 := e1.cell (p := ⟨w.heap.size, 0, none⟩) (v := .int .i64 n) (by simp)
    have c1 := e1.cell (p := ⟨w.heap.size, 1, none⟩) (v := .slice a m.length c) (by simp)
    have QC := specContainsVector_ok n a c m b d v w1 (h.ext E1) (h'.ext E1) hl HR.out hl'
    rw [q2] at QC
    have HQC := Lib.hid QC
    clear QC
    go_wp2_with fail
    (with_reducible refine HQC.out.mono ?_)
    rintro e w1' ⟨rfl, e1'⟩
    have E1' := E1.trans e1'
    replace c0 := e1'.cell c0
    replace c1 := e1'.cell c1
    go_wp2_with fail
    (with_reducible refine (specCopyB_ok _ _ _ m _ (h.ext E1') hl HR.out).mono ?_)
    rintro e w2 ⟨a2, c2, rfl, o2, e2⟩
    have E2 := E1'.trans e2
    obtain ⟨k1, f1⟩ := ((e1.trans e1').trans e2).look
    have z1 := (e1.trans e1').size_le
    have z2 := e2.size_le
    simp at k1 f1 z1
    clear c0 c1
    go_wp2_with fail
    refine bodyPost_ret (v := .tuple #[bsV n a2 c2 m, .bool false]) (by simp only [results, Try.results143]; go_simp) rfl ?_
    rw [HI.out.1, HI.out.2]
    exact ⟨a2, c2, rfl, ((o2.setCell (by simp; omega) _).setCell (by simp; omega) _).mono (by omega) (by simp), (E2.setCell (by simp) _).setCell (by simp) _⟩
  obtain ⟨p1, p2, p3, p4, p5, p6, p7⟩ := fitsB_parts q1
  have hn0 : 0 ≤ n := by omega
  obtain ⟨k, rfl⟩ := Int.eq_ofNat_of_zero_le hn0
  rw [show ((k : Int)).toNat = k by omega] at p1 p3 p4
  have HI : Hid (insV (k : Int) m v = gj (m ++ [v]) k ∧ insOk (k : Int) m v = true) := by unfold insV insOk; rw [q1, q2]; exact ⟨rfl, rfl⟩
  obtain ⟨mv, hmv⟩ : ∃ mv, Hid (mv = m ++ [v]) := ⟨_, rfl⟩
  have HMV : Hid (VR k mv) := fun xs hx => by
    rw [hmv.out] at hx
    rcases List.mem_append.1 hx with hx | hx
    · exact p1.1 xs hx
    · simp at hx; subst hx; exact ⟨validV_true.2 ⟨p2, by omega⟩, p3⟩
  have hmvl : mv.length ≤ 41 := by rw [hmv.out]; simp; omega
  rw [← hmv.out] at HI
  have hvl : v.length ≤ 40 := by omega
  clear p1 p2 p3 p6 p7 q1
  go_enter Try.func143, Try.ntmps143
  go_wp2_with fail
  (with_reducible refine Q.out.mono ?_)
  rintro e w1 ⟨rfl, e1⟩
  have E1 := HE.out.trans e1
  have c0 := e1.cell (p := ⟨w.heap.size, 0, none⟩) (v := .int .i64 (k : Nat)) (by simp)
  have c1 := e1.cell (p := ⟨w.heap.size, 1, none⟩) (v := .slice a m.length c) (by simp)
  have QC := specContainsVector_ok (k : Int) a c m b d v w1 (h.ext E1) (h'.ext E1) hl HR.out hl'
  rw [q2] at QC
  have HQC := Lib.hid QC
  clear QC
  go_wp2_with fail
  (with_reducible refine HQC.out.mono ?_)
  rintro e wz ⟨rfl, e1'⟩
  have EZ := E1.trans e1'
  replace c0 := e1'.cell c0
  replace c1 := e1'.cell c1
  have r0 := (e1.trans e1').cell (p := ⟨w.heap.size + 1, 0, none⟩) (v := .int .i64 0) (by simp)
  have r1 := (e1.trans e1').cell (p := ⟨w.heap.size + 1, 1, none⟩) (v := .slice none 0 0) (by simp)
  have zres : w.heap.size + 1 < wz.heap.size := World.block_lt_of_cell? _ _ r0
  have f0 : wz.frozen? ⟨w.heap.size + 1, 0, none⟩ = false := ((e1.trans e1').look.2 (w.heap.size + 1) 0 (by simp)).trans (by simp)
  have f1 : wz.frozen? ⟨w.heap.size + 1, 1, none⟩ = false := ((e1.trans e1').look.2 (w.heap.size + 1) 1 (by simp)).trans (by simp)
  have C1 : Hid (∀ W, Ext wz W → Calls Try.prog 75 #[.slice a m.length c] W (NewM W m)) := fun W hW => specCopy_ok a c m W ((h.ext EZ).ext hW) hl HR.out
  have X1 : Hid (Ext wz wz.drew) := (Ext.refl wz).drew
  have X2 : Hid (Ext wz (wz.alloc (.cells #[] 3)).drew) := ((Ext.refl wz).alloc _).drew
  have O1 : Hid (OwnI (wz.alloc (.cells #[] 3)).drew wz.heap.size (some ⟨wz.heap.size, 0, none⟩) 0 []) := (OwnI.new wz wz.heap.size [] (Nat.le_refl _) (by simp)).ext (Ext.refl _).drew
  have HV := Lib.hid (h'.ext EZ)
  have HVL : Hid (([] : List Int).length + v.length ≤ 1099511627776) := Lib.hid (by simp; omega)
  have HML : Hid (m.length + 1 ≤ 1099511627776) := Lib.hid (by omega)
  clear e1 e1' Q HQC HE E1
  go_wp2_with fail
  go_region_held3 (fun w' => w'.cell? ⟨w.heap.size, 0, none⟩ = some (.int .i64 (k : Nat)) ∧ w'.cell? ⟨w.heap.size, 1, none⟩ = some (.slice a m.length c))
    (first | exact ⟨S6.out.1, S6.out.2⟩ | exact ⟨e6.cell c0, e6.cell c1⟩ | exact ⟨e5.cell c0, e5.cell c1⟩ | exact ⟨e4a.cell c0, e4a.cell c1⟩ | exact ⟨e4.cell c0, e4.cell c1⟩ | exact ⟨e3a.cell c0, e3a.cell c1⟩ | exact ⟨e3.cell c0, e3.cell c1⟩ | exact ⟨c0, c1⟩ | go_keep)
    (first
      | (go_at_call 90; (with_reducible refine (specReduce_ok _ _ mv k k _ m5 HMV.out p4 (Nat.le_refl _) (by omega)).mono ?_); rintro e w6 ⟨a6, c6, rfl, o6, e6'⟩; have e6 : Ext wz w6 := e5.trans e6'; have x0 := e6.cell r0; have x1 := e6.cell r1; have y0 := (e6.look.2 (w.heap.size + 1) 0 zres).trans f0; have y1 := (e6.look.2 (w.heap.size + 1) 1 zres).trans f1; have S6 : Hid ((((w6.setCell ⟨w.heap.size + 1, 0, none⟩ (.int .i64 (k : Int))).setCell ⟨w.heap.size + 1, 1, none⟩ (.slice a6 (gj mv k).length c6)).cell? ⟨w.heap.size, 0, none⟩ = some (.int .i64 (k : Nat))) ∧ (((w6.setCell ⟨w.heap.size + 1, 0, none⟩ (.int .i64 (k : Int))).setCell ⟨w.heap.size + 1, 1, none⟩ (.slice a6 (gj mv k).length c6)).cell? ⟨w.heap.size, 1, none⟩ = some (.slice a m.length c))) := ⟨(World.cell?_setCell_other _ _ _ _ (by simp)).trans ((World.cell?_setCell_other _ _ _ _ (by simp)).trans (e6.cell c0)), (World.cell?_setCell_other _ _ _ _ (by simp)).trans ((World.cell?_setCell_other _ _ _ _ (by simp)).trans (e6.cell c1))⟩)
      | (refine step_appMr _ (by rfl) _ _ (by rfl) wz.heap.size w3.heap.size _ _ m (by rfl) (o34.ext ((Ext.refl w4).alloc _)) (e4.alloc _).size_le _ _ _ _ v (by rfl) (Vals.new w4 [.slice a4 v.length c4] 36) wz.heap.size (o4.ext ((Ext.refl w4).alloc _)) mv hmv.out HML.out ?_; intro a5 c5 w5 m5 g5; have e5 : Ext wz w5 := (e4.alloc _).grown g5 (fun k hk => (o34.block k hk).1))
      | (refine step_appI _ (by rfl) _ _ (by rfl) wz.heap.size _ _ [] (by rfl) (O1.out.ext e3b) _ _ v (by rfl) (HV.out.ext e3) v rfl HVL.out e3.size_le ?_; intro a4 c4 w4 o4 g4 _; have e4 : Ext wz w4 := e3.grown g4 (fun k hk => by simp [blockOf] at hk; omega); have o34 : OM w4 wz.heap.size w3.heap.size a3 c3 m := (o3.grownBy g4 (fun k hk => .inl (by simp [blockOf] at hk; simp; omega))).mono (by simp) (Nat.le_refl _))
      | (refine step_appI _ (by rfl) _ _ (by rfl) wz.heap.size _ _ [] (by rfl) ((OwnI.new w3 w3.heap.size [] (Nat.le_refl _) (by simp)).more e3.size_le) _ _ v (by rfl) ((HV.out.ext e3).ext ((Ext.refl w3).alloc _)) v rfl HVL.out (e3.alloc _).size_le ?_; intro a4 c4 w4 o4 g4 _; have e4 : Ext wz w4 := (e3.alloc _).grown g4 (fun k hk => by have := e3.size_le; simp [blockOf] at hk; omega); have o34 : OM w4 wz.heap.size w3.heap.size a3 c3 m := (o3'.ext ((Ext.refl w3).alloc _)).grownBy g4 (fun k hk => .inr (by simp [blockOf] at hk; omega)))
      | (go_at_call 75; (with_reducible refine (C1.out _ (by first | exact X1.out | exact X2.out)).mono ?_); rintro e w3 ⟨a3, c3, rfl, o3, e3b⟩; have e3 : Ext wz w3 := (by first | exact X1.out.trans e3b | exact X2.out.trans e3b); have o3' : OM w3 wz.heap.size w3.heap.size a3 c3 m := o3.mono (by first | exact Nat.le_refl _ | simp) (Nat.le_refl _)))
  all_goals (
    go_wp2_with fail
    refine bodyPost_ret (v := .tuple #[bsV k a6 c6 (gj mv k), .bool true]) (by simp only [results, Try.results143]; go_simp) rfl ?_
    rw [HI.out.1, HI.out.2]
    have z6 := EZ.size_le
    have z5 := e5.size_le
    exact ⟨a6, c6, rfl, ((o6.setCell (by simp; omega) _).setCell (by simp; omega) _).mono (by omega) (by simp), ((EZ.trans e6).setCell (by simp) _).setCell (by simp) _⟩)

end Go.Proofs.Ytninamlcffemoaa
