/- FnCoefficients: the draws; the law. -/
import Derived.Test.YtkegknophppdgaaDry
import Derived.Test.YtkegknophppdgaaDcY
import Derived.Test.YtkegknophppdgaaSame
namespace Go.Proofs.Ytkegknophppdgaa
open Go.RowKit
set_option linter.unusedVariables false
set_option maxRecDepth 20000

theorem encInts_bytes (xs : List Int) : AllB (encInts xs) := fun x hx => by
  unfold encInts at hx
  obtain ⟨y, _, hy⟩ := List.mem_flatMap.1 hx
  exact uv_bytes y x hy
theorem encSparse_bytes (xs : List Int) : AllB (encSparse xs) := by
  unfold encSparse
  split
  · exact encInts_bytes _
  · exact fun x hx => by simp at hx
theorem encDense_bytes (xs : List Int) : AllB (encDense xs) := by
  unfold encDense
  split
  · exact encInts_bytes _
  · exact fun x hx => by simp at hx

/-- Bytes that are read only from now on. -/
def DrB (g : Nat) (n : Nat) (w : World) (e : Ending) (w' : World) : Prop :=
  ∃ a2 c2 zs, e = .returned (.slice a2 zs.length c2) ∧ AllB zs ∧ zs.length ≤ n ∧ Vals w' a2 (Y zs) ∧ Span g (g + 1) w w'

theorem Vals.takeB {w : World} {a : Option Addr} {xs : List Int} (h : Vals w a (Y xs)) (k : Nat) : Vals w a (Y (xs.take k)) := fun i hi => by
  simp at hi
  obtain ⟨b, o, ha, hc⟩ := h i (by simp; omega)
  exact ⟨b, o, ha, by rw [hc]; simp⟩

set_option maxHeartbeats 4000000 in
set_option maxRecDepth 100000 in
theorem l1Bent_ok (g : Nat) (a : Option Addr) (c : Nat) (bs : List Int) (b : Option Addr) (d : Nat) (ys : List Int) (w : World) (h : Cur w g a c bs) (h' : Vals w b (Y ys)) (hb : AllB ys) (hl : ys.length ≤ 2000) :
    Calls Try.prog 138 #[curV g, .slice b ys.length d] w (DrB g 2001 w) := by
  have hg := h.lt
  have CB := Lib.hid (fun W n (hW : Cur W g a c bs) (hn : n ≤ 1000000000) => l1Below_ok g a c bs n W hW hn)
  have CI := Lib.hid (l1Int_ok g a c bs)
  have HB := Lib.hid hb
  have k0 := h.ext ((Ext.refl w).alloc (.cells (Y []).toArray 5))
  have s0 := (Span.refl g (g + 1) w).alloc (.cells (Y []).toArray 5)
  have n0 := OwnB.new w w.heap.size [] (Nat.le_refl _) (by simp)
  have v0 := h'.ext ((Ext.refl w).alloc (.cells (Y []).toArray 5))
  clear h h' hb
  go_enter Try.func138, Try.ntmps138
  go_wp2_with (at_builtin; refine wpList_appY _ rfl _ _ rfl w.heap.size _ _ [] rfl n0 _ _ ys rfl v0 ys (List.nil_append ys).symm (by simp; omega) (by simp) ?_)
  intro a1 c1 w1 o1 g1 _
  have k1 := k0.grown g1 (by simp [blockOf]; omega)
  have t1 := s0.grownN g1 (by simp [blockOf])
  clear k0 s0 n0 v0 g1
  go_wp2_with fail
  (with_reducible refine (CB.out _ _ k1 (by omega)).mono ?_)
  rintro e w2 ⟨x, rfl, x0, x1, k2, s2⟩
  have o2 := ((OB.of o1).span s2 (.inr hg)).1
  have t2 := t1.trans s2
  have z2 := t2.size
  clear o1 k1 t1 s2
  by_cases e0 : x = 0
  · subst e0
    by_cases hn : ys.length = 0
    · obtain rfl : ys = [] := List.eq_nil_of_length_eq_zero hn
      go_wp2_with fail
      go_ret
      exact ⟨a1, c1, [], rfl, HB.out, by simp, o2.vals, t2⟩
    have hn' : (0 : Int) < (ys.length : Int) := by omega
    go_wp2_with fail
    (with_reducible refine (CB.out _ _ k2 (by omega)).mono ?_)
    rintro e w3 ⟨t, rfl, t0, t1, k3, s3⟩
    obtain ⟨t, rfl⟩ := Int.eq_ofNat_of_zero_le t0
    have htl : t < ys.length := by omega
    have o3 := ((OB.of o2).span s3 (.inr hg)).1
    have t3 := t2.trans s3
    clear o2 k2 t2 s3 t0 t1
    go_wp2_with fail
    (with_reducible refine (CB.out _ _ k3 (by omega)).mono ?_)
    rintro e w4 ⟨y, rfl, y0, y1, k4, s4⟩
    have o4 := (OB.of o3).span s4 (.inr hg)
    have t4 := t3.trans s4
    have hwu := wrapB y0 (by omega)
    obtain ⟨g4, rfl, hg4, _, hgs⟩ := o4.form (by omega)
    obtain ⟨q1, q2, q3, u, q4⟩ := o4.store t y htl
    have t5 : Span g (g + 1) w (w4.setCell ⟨g4, t, none⟩ (.int .u8 y)) := ⟨q2.os.trans t4.os, q2.tape.trans t4.tape, q2.output.trans t4.output, Nat.le_trans t4.size q2.size, fun k hk hd => (q2.block k (by have := t4.size; omega) (.inl (by omega))).trans (t4.block k hk hd)⟩
    have HB2 : Hid (AllB (ys.set t y)) := fun v hv => by
      rcases List.mem_or_eq_of_mem_set hv with h | h
      · exact HB.out v h
      · rw [h]; omega
    have i4 : (t : Int) < (ys.length : Int) := by omega
    clear o3 k3 t3 o4 t4 k4 s4 q2
    go_wp2_with fail
    go_ret
    exact ⟨some ⟨g4, 0, none⟩, c1, ys.set t y, by rw [List.length_set]; rfl, HB2.out, by rw [List.length_set]; omega, q1.vals, t5⟩
  by_cases e1 : x = 1
  · subst e1
    have hcap := o2.cap
    go_wp2_with fail
    (with_reducible refine (CB.out _ _ k2 (by omega)).mono ?_)
    rintro e w3 ⟨t, rfl, t0, t1, k3, s3⟩
    obtain ⟨t, rfl⟩ := Int.eq_ofNat_of_zero_le t0
    have htl : t ≤ ys.length := by omega
    have o3 := ((OB.of o2).span s3 (.inr hg)).1
    have t3 := t2.trans s3
    have i1 : (t : Int) ≤ (c1 : Int) := by omega
    have i2 : (0 : Int) ≤ (t : Int) := by omega
    have i3 : t ≤ c1 := by omega
    have HT : Hid ((ys.take t).length = t) := by rw [List.length_take]; exact Lib.hid (by omega)
    clear o2 k2 t2 s3 t0 t1
    go_wp2_with fail
    go_ret
    exact ⟨a1, c1, ys.take t, by rw [HT.out]; rfl, fun v hv => HB.out v (List.mem_of_mem_take hv), by rw [HT.out]; omega, o3.vals.takeB t, t3⟩
  by_cases e2 : x = 2
  · subst e2
    have LV := Lib.hid (lit_span (w := w2) (g := g) (by omega) [0, 1, 128, 255] 3)
    have KL := Lib.hid (k2.ext ((Ext.refl w2).alloc (.cells (I [0, 1, 128, 255]).toArray 3)))
    go_wp2_with fail
    refine (CI.out (some ⟨w2.heap.size, 0, none⟩) 4 [0, 1, 128, 255] _ KL.out LV.out (by simp) (by simp)).mono ?_
    rintro e w3 ⟨y, rfl, hy, k3, s3⟩
    have hy2 : 0 ≤ y ∧ y ≤ 255 := by simp at hy; omega
    have o3 := ((OB.of (o2.ext ((Ext.refl w2).alloc (.cells (I [0, 1, 128, 255]).toArray 3)))).span s3 (.inr hg)).1
    have t3 := (t2.alloc (.cells (I [0, 1, 128, 255]).toArray 3)).trans s3
    have z3 := t3.size
    have hwu := wrapB hy2.1 hy2.2
    obtain ⟨vs, hvs⟩ : ∃ vs, Hid (vs = ys ++ [y]) := ⟨_, rfl⟩
    have HL2 : Hid (vs.length ≤ 2001) := by rw [hvs.out, List.length_append]; exact Lib.hid (by simp; omega)
    have HB2 : Hid (AllB vs) := by rw [hvs.out]; exact HB.out.snoc hy2.1 hy2.2
    clear LV KL o2 k2 t2 s3 hy hy2
    go_wp2_with (at_builtin; refine wpList_appY _ rfl _ _ rfl w.heap.size _ _ ys rfl (o3.ext ((Ext.refl w3).alloc _)) _ _ [y] rfl (Vals.new w3 [.int .u8 y] _) vs hvs.out (by simp; omega) (by simp; omega) ?_)
    intro a4 c4 w4 o4 g4 _
    have t4 := (t3.alloc (.cells (Y [y]).toArray 5)).grownN g4 (fun k hk => (o3.block k hk).1)
    clear g4 o3 k3 t3
    go_wp2_with fail
    go_ret
    exact ⟨a4, c4, vs, rfl, HB2.out, HL2.out, o4.vals, t4⟩
  · have e0' : (x == 0) = false := by simp [e0]
    have e1' : (x == 1) = false := by simp [e1]
    have e2' : (x == 2) = false := by simp [e2]
    go_wp2_with fail
    go_ret
    exact ⟨a1, c1, ys, rfl, HB.out, by omega, o2.vals, t2⟩

/-- Drawn bytes: read only from now on. -/
def DB (w : World) (e : Ending) (w' : World) : Prop := ∃ a2 c2 zs, e = .returned (.slice a2 zs.length c2) ∧ AllB zs ∧ zs.length ≤ 2001 ∧ Vals w' a2 (Y zs) ∧ Ext w w'

set_option maxHeartbeats 4000000 in
set_option maxRecDepth 100000 in
theorem drawDecCoefs_ok (a : Option Addr) (c : Nat) (bs : List Int) (w : World) (h : Vals w a (Y bs)) (hb : ∀ x ∈ bs, 0 ≤ x ∧ x ≤ 255) (hl : bs.length ≤ 1048576) :
    Calls Try.prog 84 #[.slice a bs.length c] w (DB w) := by
  have C1 := Lib.hid (l1New_ok a c bs w h hb hl)
  have CV := Lib.hid (fun g => l12Vector_ok g a c bs)
  have CB := Lib.hid (fun W n g (hW : Cur W g a c bs) (hn : n ≤ 1000000000) => l1Below_ok g a c bs n W hW hn)
  have CO := Lib.hid (fun W g (hW : Cur W g a c bs) => l1Once_ok g a c bs 3 W hW (by omega))
  have CT := Lib.hid (fun W g (hW : Cur W g a c bs) b d ys (h' : Vals W b (Y ys)) (hb : AllB ys) (hl : ys.length ≤ 2000) => l1Bent_ok g a c bs b d ys W hW h' hb hl)
  clear h hb
  go_enter Try.func84, Try.ntmps84
  go_wp2_with fail
  (with_reducible refine C1.out.mono ?_)
  rintro e w0 ⟨rfl, k0, e0⟩
  obtain ⟨g, hgg⟩ : ∃ g, w.heap.size = g := ⟨_, rfl⟩
  rw [hgg] at k0 ⊢
  have hg := k0.lt
  go_wp2_with fail
  (with_reducible refine (CV.out _ _ k0).mono ?_)
  rintro e w1 ⟨a2, c2, xs, rfl, ⟨HXL, HXA⟩, o1, k1, s1⟩
  have hxl : xs.length ≤ 11 := HXL.out
  have CSP := Lib.hid (specEncodeSparse_ok a2 c2 xs w1 o1.vals (by omega))
  obtain ⟨ys, hys⟩ : ∃ ys, Hid (ys = encSparse xs) := ⟨_, rfl⟩
  have HYB : Hid (AllB ys ∧ ys.length ≤ 2000) := by rw [hys.out]; exact ⟨encSparse_bytes _, Nat.le_trans (encSparse_len _) (by omega)⟩
  rw [← hys.out] at CSP
  clear C1 k0
  go_wp2_with fail
  (with_reducible refine CSP.out.mono ?_)
  rintro e w2 ⟨a3, c3, rfl, o2, e2⟩
  have k2 := k1.ext e2
  have x2 := o1.ext e2
  have t2 := s1.trans (Span.of_ext (B := g) (B2 := g + 1) e2)
  have z1 := s1.size
  clear CSP k1 o1 s1
  go_wp2_with fail
  (with_reducible refine (CO.out _ _ k2).mono ?_)
  rintro e w3 ⟨f, rfl, k3, s3⟩
  have y3 := (OB.of o2).span s3 (.inr (by omega))
  have x3 := ((OI.of x2).span s3 (.inr hg)).1
  have t3 := t2.trans s3
  have hy1 : ys.length ≤ 2000 := HYB.out.2
  clear k2 o2 x2 t2 s3 e2
  have tail : Hid (∀ (W : World) (a5 : Option Addr) (c5 : Nat) (zs : List Int), OwnB W w0.heap.size a5 c5 zs → AllB zs → zs.length ≤ 2000 → Cur W g a c bs → Span g (g + 1) w0 W → DB w (.returned (.slice a5 zs.length c5)) W) := fun W a5 c5 zs h1 h2 h3 h4 h5 => ⟨a5, c5, zs, rfl, h2, by omega, h1.vals, Span.ext e0 h5 (by omega)⟩
  have y3' := y3.1.more (B' := w0.heap.size) z1
  cases f
  · go_wp2_with fail
    (with_reducible refine (CB.out _ _ _ k3 (by omega)).mono ?_)
    rintro e w4 ⟨x, rfl, x0, x1, k4, s4⟩
    have y4 := ((OB.of y3').span s4 (.inr hg)).1
    have t4 := t3.trans s4
    have hb4 := t4.size
    clear y3 y3' x3 k3 t3 s4
    by_cases e00 : x = 0
    · subst e00
      go_wp2_with fail
      (with_reducible refine (CT.out _ _ k4 _ _ _ y4.vals HYB.out.1 hy1).mono ?_)
      rintro e w5 ⟨a5, c5, zs, rfl, hz1, hz2, v5, s5⟩
      have E5 : Ext w w5 := Span.ext e0 (t4.trans s5) (by omega)
      go_wp2_with fail
      go_ret
      exact ⟨a5, c5, zs, rfl, hz1, hz2, v5, E5⟩
    by_cases e1 : x = 1
    · subst e1
      go_wp2_with fail
      (with_reducible refine (CB.out _ _ _ k4 (by omega)).mono ?_)
      rintro e v1 ⟨p, rfl, p0, p1, q1, r1⟩
      have hwu := wrapB p0 (by omega)
      have o1 := OwnB.new v1 v1.heap.size [p] (Nat.le_refl _) (by simp)
      have q1' := q1.ext ((Ext.refl v1).alloc (.cells (Y [p]).toArray 5))
      have t1 := (t4.trans r1).alloc (.cells (Y [p]).toArray 5)
      have O1 := Lib.hid o1
      have Q1 := Lib.hid q1'
      have T1 := Lib.hid t1
      have hv1 : g < v1.heap.size := q1.lt
      have hbase : w0.heap.size ≤ v1.heap.size := by have := r1.size; omega
      clear k4 t4 q1 r1 o1 q1' t1
      go_wp2_with fail
      refine (CB.out _ _ _ Q1.out (by omega)).mono ?_
      rintro e v2 ⟨q, rfl, q0, q1, k2, s2⟩
      have o2 := ((OB.of O1.out).span s2 (.inr hv1)).1
      have t2 := T1.out.trans s2
      clear O1 Q1 T1 s2
      go_wp2_with fail
      (with_reducible refine (CB.out _ _ _ k2 (by omega)).mono ?_)
      rintro e v3 ⟨r, rfl, r0, r1, k3, s3⟩
      have o3 := ((OB.of o2).span s3 (.inr hv1)).1
      have t3' := t2.trans s3
      have o4 := o3.ext ((Ext.refl v3).alloc (.cells (I [3, 1, q, r]).toArray 3))
      have t4' := t3'.alloc (.cells (I [3, 1, q, r]).toArray 3)
      have CEI := Lib.hid (specEncodeInts_ok (some ⟨v3.heap.size, 0, none⟩) 4 [3, 1, q, r] _ (Vals.new v3 (I [3, 1, q, r]) 3) (by simp))
      obtain ⟨es, hes⟩ : ∃ es, Hid (es = encInts [3, 1, q, r]) := ⟨_, rfl⟩
      rw [← hes.out] at CEI
      have HES : Hid (AllB es ∧ es.length ≤ 28) := by rw [hes.out]; exact ⟨encInts_bytes _, Nat.le_trans (encInts_len _) (by simp)⟩
      have he28 := HES.out.2
      clear o2 t2 k2 s3 o3 t3'
      go_wp2_with fail
      refine CEI.out.mono ?_
      rintro e v4 ⟨a6, c6, rfl, o6, e6⟩
      have o5 := o4.ext e6
      have t5' := t4'.trans (Span.of_ext (B := g) (B2 := g + 1) e6)
      obtain ⟨ws, hws⟩ : ∃ ws, Hid (ws = [p] ++ es) := ⟨_, rfl⟩
      have HWB : Hid (AllB ws ∧ ws.length ≤ 2001) := by
        rw [hws.out]
        refine ⟨fun v hv => ?_, by simp; omega⟩
        rcases List.mem_append.1 hv with hv | hv
        · rw [List.mem_singleton.1 hv]; omega
        · exact HES.out.1 v hv
      have hz6 := e6.size_le
      simp at hz6
      have hz7 := t5'.size
      clear o4 t4' e6 CEI
      go_wp2_with (at_builtin; refine wpList_appY _ rfl _ _ rfl v1.heap.size _ _ [p] rfl o5 _ _ es rfl o6.vals ws hws.out (by simp; omega) (by have := (o5.block v1.heap.size rfl).2; omega) ?_)
      intro a7 c7 v7 o7 g7 _
      have t7 := t5'.grownN g7 (fun k hk => by have := (o5.block k hk).1; omega)
      have E7 : Ext w v7 := Span.ext e0 t7 (by omega)
      clear g7 o5 o6 t5'
      go_wp2_with fail
      go_ret
      exact ⟨a7, c7, ws, rfl, HWB.out.1, HWB.out.2, o7.vals, E7⟩
    · have e0' : (x == 0) = false := by simp [e00]
      have e1' : (x == 1) = false := by simp [e1]
      go_wp2_with fail
      go_ret
      exact tail.out _ _ _ _ y4 HYB.out.1 hy1 k4 t4
  · have CDE := Lib.hid (specEncodeDense_ok a2 c2 xs w3 x3.vals (by omega))
    obtain ⟨us, hus⟩ : ∃ us, Hid (us = encDense xs) := ⟨_, rfl⟩
    have HUB : Hid (AllB us ∧ us.length ≤ 2000) := by rw [hus.out]; exact ⟨encDense_bytes _, Nat.le_trans (encDense_len _) (by omega)⟩
    have hu1 : us.length ≤ 2000 := HUB.out.2
    rw [← hus.out] at CDE
    go_wp2_with fail
    (with_reducible refine CDE.out.mono ?_)
    rintro e w4 ⟨a4, c4, rfl, o4, e4⟩
    have k4 := k3.ext e4
    have t4 := t3.trans (Span.of_ext (B := g) (B2 := g + 1) e4)
    have z3 := t3.size
    have o4' := o4.more (B' := w0.heap.size) z3
    clear y3 y3' x3 k3 t3 e4 o4 CDE
    go_wp2_with fail
    (with_reducible refine (CB.out _ _ _ k4 (by omega)).mono ?_)
    rintro e w5 ⟨x, rfl, x0, x1, k5, s5⟩
    have y5 := ((OB.of o4').span s5 (.inr hg)).1
    have t5 := t4.trans s5
    have hb5 := t5.size
    clear o4' k4 t4 s5
    by_cases e00 : x = 0
    · subst e00
      go_wp2_with fail
      (with_reducible refine (CT.out _ _ k5 _ _ _ y5.vals HUB.out.1 hu1).mono ?_)
      rintro e w6 ⟨a6, c6, zs, rfl, hz1, hz2, v6, s6⟩
      have E6 : Ext w w6 := Span.ext e0 (t5.trans s6) (by omega)
      go_wp2_with fail
      go_ret
      exact ⟨a6, c6, zs, rfl, hz1, hz2, v6, E6⟩
    by_cases e1 : x = 1
    · subst e1
      go_wp2_with fail
      (with_reducible refine (CB.out _ _ _ k5 (by omega)).mono ?_)
      rintro e v1 ⟨p, rfl, p0, p1, q1, r1⟩
      have hwu := wrapB p0 (by omega)
      have o1 := OwnB.new v1 v1.heap.size [p] (Nat.le_refl _) (by simp)
      have q1' := q1.ext ((Ext.refl v1).alloc (.cells (Y [p]).toArray 5))
      have t1 := (t5.trans r1).alloc (.cells (Y [p]).toArray 5)
      have O1 := Lib.hid o1
      have Q1 := Lib.hid q1'
      have T1 := Lib.hid t1
      have hv1 : g < v1.heap.size := q1.lt
      have hbase : w0.heap.size ≤ v1.heap.size := by have := r1.size; omega
      clear k5 t5 q1 r1 o1 q1' t1
      go_wp2_with fail
      refine (CB.out _ _ _ Q1.out (by omega)).mono ?_
      rintro e v2 ⟨q, rfl, q0, q1, k2, s2⟩
      have o2 := ((OB.of O1.out).span s2 (.inr hv1)).1
      have t2 := T1.out.trans s2
      clear O1 Q1 T1 s2
      go_wp2_with fail
      (with_reducible refine (CB.out _ _ _ k2 (by omega)).mono ?_)
      rintro e v3 ⟨r, rfl, r0, r1, k3, s3⟩
      have o3 := ((OB.of o2).span s3 (.inr hv1)).1
      have t3' := t2.trans s3
      have o4 := o3.ext ((Ext.refl v3).alloc (.cells (I [3, 1, q, r]).toArray 3))
      have t4' := t3'.alloc (.cells (I [3, 1, q, r]).toArray 3)
      have CEI := Lib.hid (specEncodeInts_ok (some ⟨v3.heap.size, 0, none⟩) 4 [3, 1, q, r] _ (Vals.new v3 (I [3, 1, q, r]) 3) (by simp))
      obtain ⟨es, hes⟩ : ∃ es, Hid (es = encInts [3, 1, q, r]) := ⟨_, rfl⟩
      rw [← hes.out] at CEI
      have HES : Hid (AllB es ∧ es.length ≤ 28) := by rw [hes.out]; exact ⟨encInts_bytes _, Nat.le_trans (encInts_len _) (by simp)⟩
      have he28 := HES.out.2
      clear o2 t2 k2 s3 o3 t3'
      go_wp2_with fail
      refine CEI.out.mono ?_
      rintro e v4 ⟨a6, c6, rfl, o6, e6⟩
      have o5 := o4.ext e6
      have t5' := t4'.trans (Span.of_ext (B := g) (B2 := g + 1) e6)
      obtain ⟨ws, hws⟩ : ∃ ws, Hid (ws = [p] ++ es) := ⟨_, rfl⟩
      have HWB : Hid (AllB ws ∧ ws.length ≤ 2001) := by
        rw [hws.out]
        refine ⟨fun v hv => ?_, by simp; omega⟩
        rcases List.mem_append.1 hv with hv | hv
        · rw [List.mem_singleton.1 hv]; omega
        · exact HES.out.1 v hv
      have hz6 := e6.size_le
      simp at hz6
      have hz7 := t5'.size
      clear o4 t4' e6 CEI
      go_wp2_with (at_builtin; refine wpList_appY _ rfl _ _ rfl v1.heap.size _ _ [p] rfl o5 _ _ es rfl o6.vals ws hws.out (by simp; omega) (by have := (o5.block v1.heap.size rfl).2; omega) ?_)
      intro a7 c7 v7 o7 g7 _
      have t7 := t5'.grownN g7 (fun k hk => by have := (o5.block k hk).1; omega)
      have E7 : Ext w v7 := Span.ext e0 t7 (by omega)
      clear g7 o5 o6 t5'
      go_wp2_with fail
      go_ret
      exact ⟨a7, c7, ws, rfl, HWB.out.1, HWB.out.2, o7.vals, E7⟩
    · have e0' : (x == 0) = false := by simp [e00]
      have e1' : (x == 1) = false := by simp [e1]
      go_wp2_with fail
      go_ret
      exact tail.out _ _ _ _ y5 HUB.out.1 hu1 k5 t5

end Go.Proofs.Ytkegknophppdgaa
