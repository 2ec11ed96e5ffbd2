/- FnPacketEncoding: DrawEncodePacket, DrawDecodePacket; samePacket; plain facts; the law. -/
import Derived.Test.YtkegknophppdgaaDpI
import Derived.Test.YtkegknophppdgaaSame
import Derived.Test.YtkegknophppdgaaDpe
import Derived.Test.YtkegknophppdgaaFco
import Derived.Test.YtkegknophppdgaaEncPk
namespace Go.Proofs.Ytkegknophppdgaa
open Go.RowKit
set_option linter.unusedVariables false
set_option maxRecDepth 20000

set_option maxHeartbeats 4000000 in
set_option maxRecDepth 100000 in
theorem drawEncodePacket_ok (a : Option Addr) (c : Nat) (bs : List Int) (w : World) (h : Vals w a (Y bs)) (hb : ∀ x ∈ bs, 0 ≤ x ∧ x ≤ 255) (hl : bs.length ≤ 1048576) :
    Calls Try.prog 78 #[.slice a bs.length c] w (DPk w) := by
  have xa := (Ext.refl w).alloc (.cells #[.int .i64 0, .slice none 0 0, .slice none 0 0] 35)
  have T0 := Bx3.new w (.int .i64 0) (.slice none 0 0) (.slice none 0 0) 35
  have C1 := Lib.hid (l11One_ok a c bs _ (h.ext xa) hb hl)
  clear h hb
  go_enter Try.func78, Try.ntmps78
  go_wp2_with fail
  (with_reducible refine C1.out.mono ?_)
  rintro e w1 ⟨n, a2, c2, xss, m, a3, c3, cs, a4, c4, ps, rfl, HQ, v3, v4, ⟨f3, f4⟩, e1⟩
  have E1 := xa.trans e1
  obtain ⟨t0, t1, t2, t3⟩ := T0.ext e1
  have t30 := t3 0
  have t31 := t3 1
  have t32 := t3 2
  have zw : w.heap.size < w1.heap.size := World.block_lt_of_cell? _ _ t0
  have nb1 : w.heap.size ≠ w1.heap.size := by omega
  have nb2 : w.heap.size ≠ w1.heap.size + 1 := by omega
  have nb3 : w.heap.size < w1.heap.size + 1 := by omega
  have nb4 : w.heap.size < w1.heap.size + 1 + 1 := by omega
  simp at f3 f4
  obtain ⟨W2, hW2⟩ : ∃ W2, W2 = ((w1.setCell ⟨w.heap.size, 0, none⟩ (.int .i64 m)).setCell ⟨w.heap.size, 1, none⟩ (.slice a3 cs.length c3)).setCell ⟨w.heap.size, 2, none⟩ (.slice a4 ps.length c4) := ⟨_, rfl⟩
  have SB : Span w.heap.size (w.heap.size + 1) w1 W2 := by
    rw [hW2]
    exact (((Span.refl _ _ _).setCell (p := ⟨w.heap.size, 0, none⟩) ⟨Nat.le_refl _, Nat.lt_succ_self _⟩ _).setCell (p := ⟨w.heap.size, 1, none⟩) ⟨Nat.le_refl _, Nat.lt_succ_self _⟩ _).setCell (p := ⟨w.heap.size, 2, none⟩) ⟨Nat.le_refl _, Nat.lt_succ_self _⟩ _
  have XX := ((Ext.refl W2).alloc (.cells #[.int .i64 n, .slice a2 xss.length c2] 53)).alloc (.cells #[.int .i64 m, .slice a3 cs.length c3, .slice a4 ps.length c4] 35)
  have HF : Hid (DPk w (.returned (pkV m a3 c3 cs a4 c4 ps)) ((W2.alloc (.cells #[.int .i64 n, .slice a2 xss.length c2] 53)).alloc (.cells #[.int .i64 m, .slice a3 cs.length c3, .slice a4 ps.length c4] 35))) :=
    ⟨m, a3, c3, cs, a4, c4, ps, rfl, HQ, (v3.span SB (fun k hk => .inr (f3 k hk))).ext XX, (v4.span SB (fun k hk => .inr (f4 k hk))).ext XX, (Span.ext E1 SB (Nat.le_refl _)).trans XX⟩
  rw [hW2] at HF
  clear C1 xa T0 t3 e1 v3 v4 f3 f4 SB XX hW2
  go_wp2_with fail
  refine bodyPost_ret (v := pkV m a3 c3 cs a4 c4 ps) (by simp only [results, Try.results78]; go_simp) rfl HF.out

theorem encPk_bytes (n : Int) (xs ys : List Int) : AllB (encPk n xs ys) := by
  unfold encPk
  split
  · exact encInts_bytes _
  · exact fun x hx => by simp at hx

set_option maxHeartbeats 4000000 in
set_option maxRecDepth 100000 in
theorem drawDecodePacket_ok (a : Option Addr) (c : Nat) (bs : List Int) (w : World) (h : Vals w a (Y bs)) (hb : ∀ x ∈ bs, 0 ≤ x ∧ x ≤ 255) (hl : bs.length ≤ 1048576) :
    Calls Try.prog 79 #[.slice a bs.length c] w (DB w) := by
  have C1 := Lib.hid (l1New_ok a c bs w h hb hl)
  have CG := Lib.hid (fun W g (hW : Cur W g a c bs) => l10Gen_ok g a c bs W hW)
  have CK := Lib.hid (fun W g n a2 c2 xss B C (hW : Cur W g a c bs) => l11Packet_ok g a c bs n a2 c2 xss B C W hW)
  have CB := Lib.hid (fun W n g (hW : Cur W g a c bs) (hn : n ≤ 1000000000) => l1Below_ok g a c bs n W hW hn)
  have CO := Lib.hid (fun W n g (hW : Cur W g a c bs) (hn : n ≤ 1000000000) => l1Once_ok g a c bs n W hW hn)
  have CT := Lib.hid (fun W g (hW : Cur W g a c bs) b d ys (h' : Vals W b (Y ys)) (hb : AllB ys) (hl : ys.length ≤ 2000) => l1Bent_ok g a c bs b d ys W hW h' hb hl)
  clear h hb
  go_enter Try.func79, Try.ntmps79
  go_wp2_with fail
  (with_reducible refine C1.out.mono ?_)
  rintro e w0 ⟨rfl, k0, e0⟩
  obtain ⟨g, hgg⟩ : ∃ g, w.heap.size = g := ⟨_, rfl⟩
  rw [hgg] at k0 ⊢
  have hg := k0.lt
  go_wp2_with fail
  (with_reducible refine (CG.out _ _ k0).mono ?_)
  rintro e w1 ⟨n, a2, c2, xss, rfl, ⟨⟨n0, n1⟩, hx4, hx3⟩, m1, k1, s1⟩
  have CK1 := Lib.hid (CK.out _ _ n a2 c2 xss _ _ k1 m1 (by omega) (by omega) (by omega) (fun xs hx => by have := hx3 xs hx; omega))
  clear C1 k0 CG CK hx3
  go_wp2_with fail
  (with_reducible refine CK1.out.mono ?_)
  rintro e w2 ⟨m, a3, c3, cs, a4, c4, ps, rfl, ⟨hm, hcs, hps, hpa⟩, o3, o4, hap, k2, s2⟩
  have CE := specEncodePacket_ok m a3 c3 cs a4 c4 ps w2 o3.vals o4.vals (by omega) (by omega)
  obtain ⟨ys, hys⟩ : ∃ ys, Hid (ys = encPk m cs ps) := ⟨_, rfl⟩
  have HYB : Hid (AllB ys ∧ ys.length ≤ 2000) := by rw [hys.out]; exact ⟨encPk_bytes _ _ _, Nat.le_trans (encPk_len _ _ _) (by omega)⟩
  rw [← hys.out] at CE
  replace CE := Lib.hid CE
  have t2 := s1.trans s2
  have z2 := t2.size
  clear CK1 m1 k1 s1 s2 o3 o4 hap hpa
  go_wp2_with fail
  (with_reducible refine CE.out.mono ?_)
  rintro e w3 ⟨a5, c5, rfl, o5, e3⟩
  have k3 := k2.ext e3
  have t3 := t2.trans (Span.of_ext (B := g) (B2 := g + 1) e3)
  have y3 := (OB.of o5).mono (C := w0.heap.size) (C2 := w3.heap.size) z2 (Nat.le_refl _)
  have hy1 : ys.length ≤ 2000 := HYB.out.2
  clear CE k2 t2 o5 e3
  go_wp2_with fail
  (with_reducible refine (CO.out _ _ _ k3 (by omega)).mono ?_)
  rintro e w4 ⟨f, rfl, k4, s4⟩
  have y4 := y3.span s4 (.inr (by omega))
  have t4 := t3.trans s4
  clear k3 t3 y3 s4
  cases f
  rotate_left
  · have CT1 := Lib.hid (CT.out _ _ k4 a5 c5 ys y4.1.vals HYB.out.1 HYB.out.2)
    clear CT CO CB
    go_wp2_with fail
    (with_reducible refine CT1.out.mono ?_)
    rintro e w5 ⟨a6, c6, zs, rfl, hz1, hz2, v5, s5⟩
    have E5 := Span.ext e0 (t4.trans s5) (by omega)
    have HF : Hid (AllB zs) := hz1
    clear CT1 s5 t4 y4 k4 hz1
    go_wp2_with fail
    go_ret
    exact ⟨a6, c6, zs, rfl, HF.out, hz2, v5, E5⟩
  go_wp2_with fail
  (with_reducible refine (CO.out _ _ _ k4 (by omega)).mono ?_)
  rintro e w5 ⟨f, rfl, k5, s5⟩
  have y5 := y4.span s5 (.inr (by omega))
  have t5 := t4.trans s5
  clear k4 t4 y4 s5
  cases f
  · have E5 := Span.ext e0 t5 (by omega)
    have v5 := y5.1.vals
    go_wp2_with fail
    go_ret
    exact ⟨a5, c5, ys, rfl, HYB.out.1, by omega, v5, E5⟩
  · go_wp2_with fail
    (with_reducible refine (CB.out _ _ _ k5 (by omega)).mono ?_)
    rintro e w6 ⟨x, rfl, x0, x1, k6, s6⟩
    have E6 := Span.ext e0 (t5.trans s6) (by omega)
    have hw : IntKind.i64.wrap (1018 + x) = 1018 + x := by rw [IntKind.wrap_i64]; omega
    have xa := (Ext.refl w6).alloc (.cells (I [1, 1, 1, 1018 + x, 5]).toArray 3)
    have CE := specEncodeInts_ok (some ⟨w6.heap.size, 0, none⟩) 5 [1, 1, 1, 1018 + x, 5] _ (Vals.new w6 (I [1, 1, 1, 1018 + x, 5]) 3) (by simp)
    obtain ⟨zs, hzs⟩ : ∃ zs, Hid (zs = encInts [1, 1, 1, 1018 + x, 5]) := ⟨_, rfl⟩
    have HZ : Hid (AllB zs ∧ zs.length ≤ 2001) := by rw [hzs.out]; exact ⟨encInts_bytes _, Nat.le_trans (encInts_len _) (by simp)⟩
    rw [← hzs.out] at CE
    replace CE := Lib.hid CE
    clear CB CO CT k5 y5 t5 s6
    go_wp2_with fail
    refine CE.out.mono ?_
    rintro e w7 ⟨a7, c7, rfl, o7, e7⟩
    have E7 := (E6.trans xa).trans e7
    have v7 := o7.vals
    clear CE o7 e7 xa E6 hw
    go_wp2_with fail
    go_ret
    exact ⟨a7, c7, zs, rfl, HZ.out.1, HZ.out.2, v7, E7⟩

theorem enc_nonempty {n : Int} {xs ys : List Int} (h : ownPk n xs ys = true) : 0 < (encPk n xs ys).length := by
  rcases Nat.eq_zero_or_pos (encPk n xs ys).length with h0 | h0
  · have h1 := decPk_some h rfl
    rw [List.eq_nil_of_length_eq_zero h0] at h1
    have h2 : decPk [] = none := dec_no_head (by first | rfl | decide | simp [rdTo])
    rw [h2] at h1
    cases h1
  · exact h0
theorem dp_yes {n : Int} {xs ys : List Int} (h : ownPk n xs ys = true) : dpN (encPk n xs ys) = n ∧ dpX (encPk n xs ys) = xs ∧ dpY (encPk n xs ys) = ys ∧ dpOk (encPk n xs ys) = true := dp_some (decPk_some h rfl)
theorem dp_no {n : Int} {xs ys : List Int} (h : ownPk n xs ys = false) : encPk n xs ys = [] ∧ dpOk (encPk n xs ys) = false := by
  rw [encPk_no h]
  exact ⟨rfl, (dp_none (decPk_none fun n xs ys h1 h2 => by have := enc_nonempty h1; rw [h2] at this; simp at this)).2.2.2⟩
theorem dp_back {b : List Int} (h : dpOk b = true) : encPk (dpN b) (dpX b) (dpY b) = b := by
  cases hd : decPk b with
  | none => rw [(dp_none hd).2.2.2] at h; cases h
  | some t =>
    obtain ⟨n, xs, ys⟩ := t
    obtain ⟨h1, h2, h3, _⟩ := dp_some hd
    rw [h1, h2, h3]
    exact (decPk_sound hd).2

theorem sameInts_me2 (a b : Option Addr) (c d : Nat) (xs : List Int) (w : World) (h : Vals w a (I xs)) (h' : Vals w b (I xs)) (hl : xs.length ≤ 1099511627776) :
    Calls Try.prog 71 #[.slice a xs.length c, .slice b xs.length d] w (Quiet w (.bool true)) := by
  have := sameInts_ok a b c d xs xs w h h' hl
  rw [show decide (xs = xs) = true from decide_eq_true rfl] at this
  exact this
theorem sameBytes_me2 (a b : Option Addr) (c d : Nat) (xs : List Int) (w : World) (h : Vals w a (Y xs)) (h' : Vals w b (Y xs)) (hl : xs.length ≤ 1099511627776) :
    Calls Try.prog 59 #[.slice a xs.length c, .slice b xs.length d] w (Quiet w (.bool true)) := by
  have := sameBytes_ok a b c d xs xs w h h' hl
  rw [show decide (xs = xs) = true from decide_eq_true rfl] at this
  exact this

set_option maxHeartbeats 1000000 in
theorem samePacket_me (n : Int) (a1 a2 b1 b2 : Option Addr) (c1 c2 d1 d2 : Nat) (xs ys : List Int) (w : World) (h1 : Vals w a1 (I xs)) (h2 : Vals w b1 (I ys)) (h3 : Vals w a2 (I xs)) (h4 : Vals w b2 (I ys)) (hl : xs.length ≤ 1048576) (hl' : ys.length ≤ 1048576) :
    Calls Try.prog 82 #[pkV n a1 c1 xs b1 d1 ys, pkV n a2 c2 xs b2 d2 ys] w (Gives w (.bool true)) := by
  have x1 := ((Ext.refl w).alloc (.cells #[.int .i64 n, .slice a1 xs.length c1, .slice b1 ys.length d1] 35)).alloc (.cells #[.int .i64 n, .slice a2 xs.length c2, .slice b2 ys.length d2] 35)
  have CX := Lib.hid (fun W hE => sameInts_me2 a1 a2 c1 c2 xs W (h1.ext hE) (h3.ext hE) (by omega))
  have CY := Lib.hid (fun W hE => sameInts_me2 b1 b2 d1 d2 ys W (h2.ext hE) (h4.ext hE) (by omega))
  have CX1 := Lib.hid (CX.out _ x1)
  clear h1 h2 h3 h4
  go_enter Try.func82, Try.ntmps82
  go_wp2_with fail
  (with_reducible refine CX1.out.mono ?_)
  rintro e w1 ⟨rfl, q1⟩
  have e1 := q1.ext
  have E1 := x1.trans e1
  have CY1 := Lib.hid (CY.out _ E1)
  have k0 := e1.cell (p := ⟨w.heap.size, 2, none⟩) (v := .slice b1 ys.length d1) (by simp)
  have k1 := e1.cell (p := ⟨w.heap.size + 1, 2, none⟩) (v := .slice b2 ys.length d2) (by simp)
  clear CX1 CX CY x1 q1 e1
  go_wp2_with fail
  (with_reducible refine CY1.out.mono ?_)
  rintro e w2 ⟨rfl, q2⟩
  have E2 := E1.trans q2.ext
  clear CY1 q2 E1
  go_wp2_with fail
  go_ret
  exact ⟨rfl, E2⟩

set_option maxHeartbeats 8000000 in
set_option maxRecDepth 100000 in
theorem lawFnPacketEncoding (a : Option Addr) (c : Nat) (xs : List Int) (w : World) (r0 : Vals w a (Y xs)) (m0 : xs.length ≤ maxLen) (m1 : ∀ x ∈ xs, 0 ≤ x ∧ x ≤ 255) :
    Calls Try.prog 13 #[.slice a xs.length c] w (Gives w (.bool true)) := by
  by_cases hl : xs.length ≤ 1048576
  rotate_left
  · have C1 := Lib.hid (big_yes a c xs w hl m0)
    clear r0 m1 hl m0
    go_enter Try.func13, Try.ntmps13
    go_wp2_with (go_at_call 57; (with_reducible refine C1.out.mono ?_); rintro e w' ⟨rfl, rfl⟩)
    go_ret
    exact ⟨rfl, Ext.refl _⟩
  have C1 := Lib.hid (big_no a c xs w hl)
  have CD := Lib.hid (drawEncodePacket_ok a c xs w r0 m1 hl)
  have CE := Lib.hid (fun W (hE : Ext w W) => drawDecodePacket_ok a c xs W (r0.ext hE) m1 hl)
  clear r0 m1 hl m0
  go_enter Try.func13, Try.ntmps13
  go_wp2_with (go_at_call 57; (with_reducible refine C1.out.mono ?_); rintro e w' ⟨rfl, rfl⟩)
  (with_reducible refine CD.out.mono ?_)
  rintro e w1 ⟨m, a3, c3, cs, a4, c4, ps, rfl, ⟨hm, hcs, hps⟩, v3, v4, e1⟩
  have x1 := (Ext.refl w1).alloc (.cells #[.int .i64 m, .slice a3 cs.length c3, .slice a4 ps.length c4] 35)
  have CE1 := Lib.hid (CE.out _ (e1.trans x1))
  have p1 := Bx3.new w1 (.int .i64 m) (.slice a3 cs.length c3) (.slice a4 ps.length c4) 35
  clear C1 CD CE
  go_wp2_with fail
  (with_reducible refine CE1.out.mono ?_)
  rintro e w2 ⟨ab, cb, zs, rfl, hzb, hzl, vz, e2⟩
  have HZB := Lib.hid hzb
  have E2 := (e1.trans x1).trans e2
  have v32 := v3.ext (x1.trans e2)
  have v42 := v4.ext (x1.trans e2)
  have p2 := p1.ext e2
  obtain ⟨ys, hys⟩ : ∃ ys, Hid (ys = encPk m cs ps) := ⟨_, rfl⟩
  have hyl : ys.length ≤ 189 := by rw [hys.out]; exact encPk_len _ _ _
  have CI := Lib.hid (fun W (hE : Ext w2 W) => implEncodePacket_ok m a3 c3 cs a4 c4 ps W (v32.ext hE) (v42.ext hE) (by omega) (by omega))
  have CS := Lib.hid (fun W (hE : Ext w2 W) => specEncodePacket_ok m a3 c3 cs a4 c4 ps W (v32.ext hE) (v42.ext hE) (by omega) (by omega))
  rw [← hys.out] at CI CS
  have CIa := Lib.hid (CI.out _ (Ext.refl w2))
  have HYB : Hid (AllB ys) := by rw [hys.out]; exact encPk_bytes _ _ _
  obtain ⟨nq, hnq⟩ : ∃ nq, Hid (nq = dpN ys) := ⟨_, rfl⟩
  obtain ⟨xq, hxq⟩ : ∃ xq, Hid (xq = dpX ys) := ⟨_, rfl⟩
  obtain ⟨yq, hyq⟩ : ∃ yq, Hid (yq = dpY ys) := ⟨_, rfl⟩
  obtain ⟨kq, hkq⟩ : ∃ kq, Hid (kq = dpOk ys) := ⟨_, rfl⟩
  obtain ⟨nr, hnr⟩ : ∃ nq, Hid (nq = dpN zs) := ⟨_, rfl⟩
  obtain ⟨xr, hxr⟩ : ∃ xq, Hid (xq = dpX zs) := ⟨_, rfl⟩
  obtain ⟨yr, hyr⟩ : ∃ yq, Hid (yq = dpY zs) := ⟨_, rfl⟩
  obtain ⟨kr, hkr⟩ : ∃ kq, Hid (kq = dpOk zs) := ⟨_, rfl⟩
  have caseQ : (kq = false ∧ ys = []) ∨ (kq = true ∧ nq = m ∧ xq = cs ∧ yq = ps ∧ 0 < ys.length) := by
    cases ho : ownPk m cs ps
    · obtain ⟨h1, h2⟩ := dp_no ho
      exact .inl ⟨by rw [hkq.out, hys.out]; exact h2, by rw [hys.out]; exact h1⟩
    · obtain ⟨h1, h2, h3, h4⟩ := dp_yes ho
      rw [← hys.out] at h1 h2 h3 h4
      exact .inr ⟨by rw [hkq.out]; exact h4, by rw [hnq.out]; exact h1, by rw [hxq.out]; exact h2, by rw [hyq.out]; exact h3, by rw [hys.out]; exact enc_nonempty ho⟩
  have caseR : Hid (kr = true → encPk nr xr yr = zs) := fun h => by
    rw [hnr.out, hxr.out, hyr.out]
    exact dp_back (by rw [← hkr.out]; exact h)
  have hrl : xr.length ≤ 1048576 ∧ yr.length ≤ 1048576 := by rw [hxr.out, hyr.out]; exact dp_len zs
  obtain ⟨hxrl, hyrl⟩ := hrl
  have CQ : Hid (∀ W b d, Vals W b (Y ys) → Calls Try.prog 42 #[.slice b ys.length d] W (NewPkF W nq xq yq kq)) := fun W b d h => by
    rw [hnq.out, hxq.out, hyq.out, hkq.out]
    exact implDecodePacket_ok b d ys W h HYB.out (by omega)
  have CR : Hid (∀ W, Ext w2 W → Calls Try.prog 42 #[.slice ab zs.length cb] W (NewPkF W nr xr yr kr)) := fun W hE => by
    rw [hnr.out, hxr.out, hyr.out, hkr.out]
    exact implDecodePacket_ok ab cb zs W (vz.ext hE) HZB.out (by omega)
  have CT : Hid (∀ W, Ext w2 W → Calls Try.prog 41 #[.slice ab zs.length cb] W (NewPkF W nr xr yr kr)) := fun W hE => by
    rw [hnr.out, hxr.out, hyr.out, hkr.out]
    exact specDecodePacket_ok ab cb zs W (vz.ext hE) HZB.out (by omega)
  have CSM : Hid (∀ W a5 c5 b5 d5, Ext w2 W → nq = m → xq = cs → yq = ps → Vals W a5 (I xq) → Vals W b5 (I yq) → Calls Try.prog 82 #[pkV nq a5 c5 xq b5 d5 yq, pkV m a3 c3 cs a4 c4 ps] W (Gives W (.bool true))) := fun W a5 c5 b5 d5 hE q1 q2 q3 h1 h2 => by
    subst q1 q2 q3
    exact samePacket_me _ _ _ _ _ _ _ _ _ _ _ W h1 h2 (v32.ext hE) (v42.ext hE) (by omega) (by omega)
  have CIR : Hid (kr = true → ∀ W b5 d5 b6 d6, Vals W b5 (I xr) → Vals W b6 (I yr) → Calls Try.prog 80 #[pkV nr b5 d5 xr b6 d6 yr] W (NewY W zs)) := fun hk W b5 d5 b6 d6 h1 h2 => by
    have := implEncodePacket_ok nr b5 d5 xr b6 d6 yr W h1 h2 hxrl hyrl
    rwa [caseR.out hk] at this
  have CSB : Hid (∀ W b d, Ext w2 W → Vals W b (Y zs) → Calls Try.prog 59 #[.slice b zs.length d, .slice ab zs.length cb] W (Quiet W (.bool true))) := fun W b d hE h => sameBytes_me2 _ _ _ _ zs W h (vz.ext hE) (by omega)
  obtain ⟨p20, p21, p22, p23⟩ := p2
  clear hzb e1 x1 e2 CE1 p1 v3 v4 v32 v42 vz hys hnq hxq hyq hkq hnr hxr hyr hkr CI caseR HYB HZB p23
  go_wp2_with fail
  (with_reducible refine CIa.out.mono ?_)
  rintro e w3 ⟨a5, c5, rfl, o5, e3⟩
  have CQ1 := Lib.hid (CQ.out w3 a5 c5 o5.vals)
  clear CIa CQ o5
  go_wp2_with fail
  (with_reducible refine CQ1.out.mono ?_)
  rintro e w4 ⟨a6, c6, b6, d6, rfl, o6, o7, _, e4⟩
  have x4 := (Ext.refl w4).alloc (.cells #[.int .i64 nq, .slice a6 xq.length c6, .slice b6 yq.length d6] 35)
  have X4 := (e3.trans e4).trans x4
  have q4 := Bx3.new w4 (.int .i64 nq) (.slice a6 xq.length c6) (.slice b6 yq.length d6) 35
  have CR1 := Lib.hid (CR.out _ X4)
  clear CQ1 CR e3 e4
  go_wp2_with fail
  (with_reducible refine CR1.out.mono ?_)
  rintro e w5 ⟨a8, c8, b8, d8, rfl, o8, o9, _, e5⟩
  have x5 := (Ext.refl w5).alloc (.cells #[.int .i64 nr, .slice a8 xr.length c8, .slice b8 yr.length d8] 35)
  have X5 := (X4.trans e5).trans x5
  have q5 := q4.ext (e5.trans x5)
  have r5 := Bx3.new w5 (.int .i64 nr) (.slice a8 xr.length c8) (.slice b8 yr.length d8) 35
  have CT1 := Lib.hid (CT.out _ X5)
  have v6 := o6.vals.ext (x4.trans (e5.trans x5))
  have v7 := o7.vals.ext (x4.trans (e5.trans x5))
  have v8 := o8.vals.ext x5
  have v9 := o9.vals.ext x5
  clear CR1 CT X4 x4 x5 e5 q4 o6 o7 o8 o9
  go_wp2_with fail
  (with_reducible refine CT1.out.mono ?_)
  rintro e w6 ⟨a10, c10, b10, d10, rfl, _, _, _, e6⟩
  have x6 := (Ext.refl w6).alloc (.cells #[.int .i64 nr, .slice a10 xr.length c10, .slice b10 yr.length d10] 35)
  have X6 := (X5.trans e6).trans x6
  have q6 := q5.ext (e6.trans x6)
  have r6 := r5.ext (e6.trans x6)
  have CS1 := Lib.hid (CS.out _ X6)
  replace v6 := v6.ext (e6.trans x6)
  replace v7 := v7.ext (e6.trans x6)
  replace v8 := v8.ext (e6.trans x6)
  replace v9 := v9.ext (e6.trans x6)
  have z20 := X6.cell p20
  have z21 := X6.cell p21
  have z22 := X6.cell p22
  have y20 := (X5.trans e6).cell p20
  have y21 := (X5.trans e6).cell p21
  have y22 := (X5.trans e6).cell p22
  have zlt : w1.heap.size < w6.heap.size := World.block_lt_of_cell? _ _ y20
  have zne : w1.heap.size ≠ w6.heap.size := by omega
  clear CT1 X5 x6 e6 q5 r5 CS p20 p21 p22
  rcases caseQ with ⟨hk, hy⟩ | ⟨hk, h1, h2, h3, h4⟩
  · subst hk
    cases kr
    · have i0 : ¬ (0 : Int) < (ys.length : Int) := by rw [hy]; simp
      have i0d : decide ((0 : Int) < (ys.length : Int)) = false := decide_eq_false i0
      have i0n : ¬ 0 < ys.length := by omega
      have i0e : decide (0 < ys.length) = false := decide_eq_false i0n
      clear hy CSM
      clear CIR
      go_wp2_with fail
      (with_reducible refine CS1.out.mono ?_)
      rintro e w7 ⟨a11, c11, rfl, _, e7⟩
      have X7 := X6.trans e7
      have q7 := q6.ext e7
      have r7 := r6.ext e7
      replace z20 := e7.cell z20
      replace z21 := e7.cell z21
      replace z22 := e7.cell z22
      replace v6 := v6.ext e7
      replace v7 := v7.ext e7
      replace v8 := v8.ext e7
      replace v9 := v9.ext e7
      obtain ⟨q70, q71, q72, q73⟩ := q7
      obtain ⟨r70, r71, r72, r73⟩ := r7
      clear CS1 e7 q6 r6 X6 q73 r73 y20 y21 y22 zlt zne
      have EE := E2.trans X7
      clear X7
      go_wp2_with fail
      go_ret
      exact ⟨rfl, EE⟩
    · have i0 : ¬ (0 : Int) < (ys.length : Int) := by rw [hy]; simp
      have i0d : decide ((0 : Int) < (ys.length : Int)) = false := decide_eq_false i0
      have i0n : ¬ 0 < ys.length := by omega
      have i0e : decide (0 < ys.length) = false := decide_eq_false i0n
      clear hy CSM
      have CI1 := Lib.hid (CIR.out rfl)
      clear CIR
      go_wp2_with fail
      (with_reducible refine CS1.out.mono ?_)
      rintro e w7 ⟨a11, c11, rfl, _, e7⟩
      have X7 := X6.trans e7
      have q7 := q6.ext e7
      have r7 := r6.ext e7
      replace z20 := e7.cell z20
      replace z21 := e7.cell z21
      replace z22 := e7.cell z22
      replace v6 := v6.ext e7
      replace v7 := v7.ext e7
      replace v8 := v8.ext e7
      replace v9 := v9.ext e7
      obtain ⟨q70, q71, q72, q73⟩ := q7
      obtain ⟨r70, r71, r72, r73⟩ := r7
      clear CS1 e7 q6 r6 X6 q73 r73 y20 y21 y22 zlt zne
      have CI2 := Lib.hid (CI1.out w7 _ c8 _ d8 v8 v9)
      clear CI1
      go_wp2_with fail
      (with_reducible refine CI2.out.mono ?_)
      rintro e w9 ⟨a12, c12, rfl, o12, e9⟩
      have X9 := X7.trans e9
      have CSB1 := Lib.hid (CSB.out w9 a12 c12 X9 o12.vals)
      clear CI2 CSB o12 e9 X7
      go_wp2_with fail
      (with_reducible refine CSB1.out.mono ?_)
      rintro e w10 ⟨rfl, d10⟩
      have EE := E2.trans (X9.trans d10.ext)
      clear CSB1 d10 X9
      go_wp2_with fail
      go_ret
      exact ⟨rfl, EE⟩
  · subst hk
    cases kr
    · have i0 : (0 : Int) < (ys.length : Int) := by omega
      have i0d : decide ((0 : Int) < (ys.length : Int)) = true := decide_eq_true i0
      have i0n : 0 < ys.length := by omega
      have i0e : decide (0 < ys.length) = true := decide_eq_true i0n
      have CSM1 := Lib.hid (fun W a5 c5 b5 d5 hE hx hy => CSM.out W a5 c5 b5 d5 hE h1 h2 h3 hx hy)
      clear h1 h2 h3 h4 CSM
      clear CIR
      go_wp2_with fail
      (with_reducible refine CS1.out.mono ?_)
      rintro e w7 ⟨a11, c11, rfl, _, e7⟩
      have X7 := X6.trans e7
      have q7 := q6.ext e7
      have r7 := r6.ext e7
      replace z20 := e7.cell z20
      replace z21 := e7.cell z21
      replace z22 := e7.cell z22
      replace v6 := v6.ext e7
      replace v7 := v7.ext e7
      replace v8 := v8.ext e7
      replace v9 := v9.ext e7
      obtain ⟨q70, q71, q72, q73⟩ := q7
      obtain ⟨r70, r71, r72, r73⟩ := r7
      clear CS1 e7 q6 r6 X6 q73 r73 y20 y21 y22 zlt zne
      have CSM2 := Lib.hid (CSM1.out w7 _ c6 _ d6 X7 v6 v7)
      clear CSM1
      go_wp2_with fail
      (with_reducible refine CSM2.out.mono ?_)
      rintro e w8 ⟨rfl, e8⟩
      replace X7 := X7.trans e8
      replace v8 := v8.ext e8
      replace v9 := v9.ext e8
      replace r70 := e8.cell r70
      replace r71 := e8.cell r71
      replace r72 := e8.cell r72
      clear CSM2 v6 v7 q70 q71 q72 e8 z20 z21 z22
      have EE := E2.trans X7
      clear X7
      go_wp2_with fail
      go_ret
      exact ⟨rfl, EE⟩
    · have i0 : (0 : Int) < (ys.length : Int) := by omega
      have i0d : decide ((0 : Int) < (ys.length : Int)) = true := decide_eq_true i0
      have i0n : 0 < ys.length := by omega
      have i0e : decide (0 < ys.length) = true := decide_eq_true i0n
      have CSM1 := Lib.hid (fun W a5 c5 b5 d5 hE hx hy => CSM.out W a5 c5 b5 d5 hE h1 h2 h3 hx hy)
      clear h1 h2 h3 h4 CSM
      have CI1 := Lib.hid (CIR.out rfl)
      clear CIR
      go_wp2_with fail
      (with_reducible refine CS1.out.mono ?_)
      rintro e w7 ⟨a11, c11, rfl, _, e7⟩
      have X7 := X6.trans e7
      have q7 := q6.ext e7
      have r7 := r6.ext e7
      replace z20 := e7.cell z20
      replace z21 := e7.cell z21
      replace z22 := e7.cell z22
      replace v6 := v6.ext e7
      replace v7 := v7.ext e7
      replace v8 := v8.ext e7
      replace v9 := v9.ext e7
      obtain ⟨q70, q71, q72, q73⟩ := q7
      obtain ⟨r70, r71, r72, r73⟩ := r7
      clear CS1 e7 q6 r6 X6 q73 r73 y20 y21 y22 zlt zne
      have CSM2 := Lib.hid (CSM1.out w7 _ c6 _ d6 X7 v6 v7)
      clear CSM1
      go_wp2_with fail
      (with_reducible refine CSM2.out.mono ?_)
      rintro e w8 ⟨rfl, e8⟩
      replace X7 := X7.trans e8
      replace v8 := v8.ext e8
      replace v9 := v9.ext e8
      replace r70 := e8.cell r70
      replace r71 := e8.cell r71
      replace r72 := e8.cell r72
      clear CSM2 v6 v7 q70 q71 q72 e8 z20 z21 z22
      have CI2 := Lib.hid (CI1.out w8 _ c8 _ d8 v8 v9)
      clear CI1
      go_wp2_with fail
      (with_reducible refine CI2.out.mono ?_)
      rintro e w9 ⟨a12, c12, rfl, o12, e9⟩
      have X9 := X7.trans e9
      have CSB1 := Lib.hid (CSB.out w9 a12 c12 X9 o12.vals)
      clear CI2 CSB o12 e9 X7
      go_wp2_with fail
      (with_reducible refine CSB1.out.mono ?_)
      rintro e w10 ⟨rfl, d10⟩
      have EE := E2.trans (X9.trans d10.ext)
      clear CSB1 d10 X9
      go_wp2_with fail
      go_ret
      exact ⟨rfl, EE⟩

end Go.Proofs.Ytkegknophppdgaa
