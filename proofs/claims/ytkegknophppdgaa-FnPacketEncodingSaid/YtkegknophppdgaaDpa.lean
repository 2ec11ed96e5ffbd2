/- Draws of packets: l11Any. -/
import Derived.Test.YtkegknophppdgaaDpk
namespace Go.Proofs.Ytkegknophppdgaa
open Go.RowKit
set_option linter.unusedVariables false
set_option maxRecDepth 20000

def okQ (m : Int) (cs ps : List Int) : Prop := (-1 ≤ m ∧ m ≤ 1000000000001) ∧ cs.length ≤ 200 ∧ ps.length ≤ 200
def DrQ (g : Nat) (a : Option Addr) (c : Nat) (bs : List Int) (w : World) (e : Ending) (w' : World) : Prop :=
  ∃ m a3 c3 cs a4 c4 ps, e = .returned (pkV m a3 c3 cs a4 c4 ps) ∧ okQ m cs ps ∧ Vals w' a3 (I cs) ∧ Vals w' a4 (I ps) ∧ ((∀ k, blockOf a3 = some k → w.heap.size ≤ k) ∧ (∀ k, blockOf a4 = some k → w.heap.size ≤ k)) ∧ Cur w' g a c bs ∧ Span g (g + 1) w w'

set_option maxHeartbeats 8000000 in
set_option maxRecDepth 100000 in
theorem l11Any_ok (g : Nat) (a : Option Addr) (c : Nat) (bs : List Int) (n : Int) (a2 : Option Addr) (c2 : Nat) (xss : List (List Int)) (B C : Nat) (w : World) (h : Cur w g a c bs) (hM : OM w B C a2 c2 xss) (hB : g + 1 ≤ B) (hn : -1 ≤ n ∧ n ≤ 1000000000001) (hx : xss.length ≤ 60) (hr : ∀ xs ∈ xss, xs.length ≤ 81) :
    Calls Try.prog 166 #[curV g, bsV n a2 c2 xss] w (DrQ g a c bs w) := by
  have hg := h.lt
  have CB := Lib.hid (fun W n (hW : Cur W g a c bs) (hn : n ≤ 1000000000) => l1Below_ok g a c bs n W hW hn)
  have CI := Lib.hid (l1Int_ok g a c bs)
  have CA := Lib.hid (fun W (n : Nat) (hW : Cur W g a c bs) (hn : n ≤ 1000) => l5Any_ok g a c bs n W hW (by omega))
  obtain ⟨w0, hw0⟩ : ∃ w0, Hid (w0 = (w.alloc (.cells #[.int .i64 n, .slice a2 xss.length c2] 53)).alloc (.cells #[.int .i64 0, .slice none 0 0, .slice none 0 0] 35)) := ⟨_, rfl⟩
  have x0 : Ext w w0 := by rw [hw0.out]; exact ((Ext.refl w).alloc _).alloc _
  have z0 : w.heap.size + 2 ≤ w0.heap.size ∧ w0.heap.size ≤ w.heap.size + 2 := by rw [hw0.out]; simp
  have T0 : Bx3 w0 (w.heap.size + 1) (.int .i64 0) (.slice none 0 0) (.slice none 0 0) := by
    rw [hw0.out]
    have := Bx3.new (w.alloc (.cells #[.int .i64 n, .slice a2 xss.length c2] 53)) (.int .i64 0) (.slice none 0 0) (.slice none 0 0) 35
    rwa [show (w.alloc (.cells #[.int .i64 n, .slice a2 xss.length c2] 53)).heap.size = w.heap.size + 1 by simp] at this
  have CP := l11Packet_ok g a c bs n a2 c2 xss B C w0 (h.ext x0) (hM.ext x0) hB hn hx hr
  have S0 : Span g (g + 1) w w0 := Span.of_ext x0
  have CP1 : Hid (Calls Try.prog 136 #[curV g, bsV n a2 c2 xss] ((w.alloc (.cells #[.int .i64 n, .slice a2 xss.length c2] 53)).alloc (.cells #[.int .i64 0, .slice none 0 0, .slice none 0 0] 35)) (DrP g a c bs okP w0)) := by
    rw [← hw0.out]; exact CP
  clear h hM hr CP x0
  go_enter Try.func166, Try.ntmps166
  go_wp2_with fail
  (with_reducible refine CP1.out.mono ?_)
  rintro e w1 ⟨m, a3, c3, cs, a4, c4, ps, rfl, ⟨hm, hcs, hps, hpa⟩, o3, o4, hap, k1, s1⟩
  have HPA := Lib.hid hpa
  have x2 := (Ext.refl w1).alloc (.cells #[.int .i64 m, .slice a3 cs.length c3, .slice a4 ps.length c4] 35)
  have k2 := k1.ext x2
  have p2 := Bx3.new w1 (.int .i64 m) (.slice a3 cs.length c3) (.slice a4 ps.length c4) 35
  have b2 := (T0.span s1 (.inr (by omega))).ext x2
  have r2 := (((OI.of o3).mono (C := w.heap.size + 2) (C2 := w1.heap.size) (by omega) (Nat.le_refl _))).ext x2
  have q2 := (((OI.of o4).mono (C := w.heap.size + 2) (C2 := w1.heap.size) (by omega) (Nat.le_refl _))).ext x2
  have t2 := (S0.trans s1).alloc (.cells #[.int .i64 m, .slice a3 cs.length c3, .slice a4 ps.length c4] 35)
  have z1 := s1.size
  clear CP1 hw0 T0 S0 k1 s1 o3 o4 x2 hpa
  go_wp2_with fail
  (with_reducible refine (CB.out _ _ k2 (by omega)).mono ?_)
  rintro e w2 ⟨y, rfl, y0, y1, k3, s3⟩
  obtain ⟨p, hp⟩ : ∃ p, w1.heap.size = p := ⟨_, rfl⟩
  have hpg : w.heap.size + 2 ≤ p := by omega
  have p3 := p2.span s3 (.inr (by omega))
  have b3 := b2.span s3 (.inr (by omega))
  have r3 := r2.span s3 (.inr (by omega))
  have q3 := q2.span s3 (.inr (by omega))
  have t3 := t2.trans s3
  rw [hp] at p3 r3 q3 ⊢
  have z3 := p3.lt
  clear k2 p2 b2 t2 r2 q2 s3 z1 z0 hp
  by_cases e0 : y = 0
  · subst e0
    have x3 := (Ext.refl w2).alloc (.cells (I [-1, 7, 1000000000000, 1000000000001]).toArray 3)
    have LV := Lib.hid (lit_span (w := w2) (g := g) k3.lt [-1, 7, 1000000000000, 1000000000001] 3)
    have KL := Lib.hid (k3.ext x3)
    have p4 := p3.ext x3
    have b4 := b3.ext x3
    have r4 := r3.ext x3
    have q4 := q3.ext x3
    have t4 := t3.alloc (.cells (I [-1, 7, 1000000000000, 1000000000001]).toArray 3)
    clear p3 b3 r3 q3 t3 k3 x3
    go_wp2_with fail
    refine (CI.out (some ⟨w2.heap.size, 0, none⟩) 4 [-1, 7, 1000000000000, 1000000000001] _ KL.out LV.out (by simp) (by simp)).mono ?_
    rintro e w4 ⟨z, rfl, hz, k5, s5⟩
    have hz2 : -1 ≤ z ∧ z ≤ 1000000000001 := by simp at hz; omega
    have p5 := p4.span s5 (.inr (by omega))
    have b5 := b4.span s5 (.inr (by omega))
    have r5 := r4.span s5 (.inr (by omega))
    have q5 := q4.span s5 (.inr (by omega))
    have t5 := t4.trans s5
    have z5 := p5.lt
    have hsp : Span p (p + 1) w4 (w4.setCell ⟨p, 0, none⟩ (.int .i64 z)) := Span.one _
    have p6 := p5.put0 (.int .i64 z)
    have b6 := b5.span hsp (.inl (by omega))
    have r6 := r5.span hsp (.inl (Nat.le_refl _))
    have q6 := q5.span hsp (.inl (Nat.le_refl _))
    have k6 := k5.span hsp (by omega)
    have t6 := t5.newer hsp (by omega)
    obtain ⟨p50, p51, p52, p53⟩ := p5
    have p530 := p53 0
    clear LV KL hz s5 p4 b4 r4 q4 t4 b5 r5 q5 t5 k5 p53 hsp
    have nb1 : p ≠ w.heap.size + 1 := by omega
    have nb2 : w.heap.size + 1 ≠ p := by omega
    have Q3 := (((r6.span (Span.one (p := w.heap.size + 1) (j := 0) (.int .i64 z)) (.inr (by omega))).span (Span.one (p := w.heap.size + 1) (j := 1) (.slice a3 cs.length c3)) (.inr (by omega))).span (Span.one (p := w.heap.size + 1) (j := 2) (.slice a4 ps.length c4)) (.inr (by omega))).vals
    have Q4 := (((q6.span (Span.one (p := w.heap.size + 1) (j := 0) (.int .i64 z)) (.inr (by omega))).span (Span.one (p := w.heap.size + 1) (j := 1) (.slice a3 cs.length c3)) (.inr (by omega))).span (Span.one (p := w.heap.size + 1) (j := 2) (.slice a4 ps.length c4)) (.inr (by omega))).vals
    have QB : (∀ k, blockOf a3 = some k → w.heap.size ≤ k) ∧ (∀ k, blockOf a4 = some k → w.heap.size ≤ k) := ⟨fun k hk => by have := (r6.1.block k hk).1; omega, fun k hk => by have := (q6.1.block k hk).1; omega⟩
    have HQB := Lib.hid QB
    have QK := (((k6.span (Span.one (p := w.heap.size + 1) (j := 0) (.int .i64 z)) (by omega)).span (Span.one (p := w.heap.size + 1) (j := 1) (.slice a3 cs.length c3)) (by omega)).span (Span.one (p := w.heap.size + 1) (j := 2) (.slice a4 ps.length c4)) (by omega))
    have QS := (((t6.newer (Span.one (p := w.heap.size + 1) (j := 0) (.int .i64 z)) (by omega)).newer (Span.one (p := w.heap.size + 1) (j := 1) (.slice a3 cs.length c3)) (by omega)).newer (Span.one (p := w.heap.size + 1) (j := 2) (.slice a4 ps.length c4)) (by omega))
    obtain ⟨u0, u1, u2, u3⟩ := p6
    obtain ⟨t40, t41, t42, t43⟩ := b6
    have t430 := t43 0
    have t431 := t43 1
    have t432 := t43 2
    have HF : Hid (okQ z cs ps) := ⟨by omega, by omega, by omega⟩
    clear r6 q6 k6 t6 t43 u3 QB
    go_wp2_with fail
    refine bodyPost_ret (v := pkV z a3 c3 cs a4 c4 ps) (by simp only [results, Try.results166]; go_simp) rfl ?_
    exact ⟨z, a3, c3, cs, a4, c4, ps, rfl, HF.out, Q3, Q4, HQB.out, QK, QS⟩
  by_cases e1 : y = 1
  · subst e1
    clear r3
    go_wp2_with fail
    (with_reducible refine (CB.out _ _ k3 (by omega)).mono ?_)
    rintro e w3 ⟨x, rfl, xx0, xx1, k4, s4⟩
    obtain ⟨n3, rfl⟩ := Int.eq_ofNat_of_zero_le xx0
    have hn3 : n3 ≤ 4 := by omega
    have p4 := p3.span s4 (.inr (by omega))
    have b4 := b3.span s4 (.inr (by omega))
    have q4 := q3.span s4 (.inr (by omega))
    have t4 := t3.trans s4
    have z4 := p4.lt
    clear p3 b3 q3 t3 k3 s4 xx0 xx1
    go_wp2_with fail
    (with_reducible refine (CA.out _ n3 k4 (by omega)).mono ?_)
    rintro e w4 ⟨a5, c5, vs, rfl, hvl, o5, k5, s5⟩
    have hv2 : vs.length ≤ 45 := by omega
    have p5 := p4.span s5 (.inr (by omega))
    have b5 := b4.span s5 (.inr (by omega))
    have q5 := q4.span s5 (.inr (by omega))
    have t5 := t4.trans s5
    have z5 := p5.lt
    have hsp : Span p (p + 1) w4 (w4.setCell ⟨p, 1, none⟩ (.slice a5 vs.length c5)) := Span.one _
    have p6 := p5.put1 (.slice a5 vs.length c5)
    have b6 := b5.span hsp (.inl (by omega))
    have q6 := q5.span hsp (.inl (Nat.le_refl _))
    have v6 := (OI.of o5).span hsp (.inr (by omega))
    have k6 := k5.span hsp (by omega)
    have t6 := t5.newer hsp (by omega)
    obtain ⟨p50, p51, p52, p53⟩ := p5
    have p531 := p53 1
    clear hvl s5 p4 b4 q4 t4 b5 q5 t5 k4 k5 p53 hsp o5
    have nb1 : p ≠ w.heap.size + 1 := by omega
    have nb2 : w.heap.size + 1 ≠ p := by omega
    have Q3 := (((v6.span (Span.one (p := w.heap.size + 1) (j := 0) (.int .i64 m)) (.inr (by omega))).span (Span.one (p := w.heap.size + 1) (j := 1) (.slice a5 vs.length c5)) (.inr (by omega))).span (Span.one (p := w.heap.size + 1) (j := 2) (.slice a4 ps.length c4)) (.inr (by omega))).vals
    have Q4 := (((q6.span (Span.one (p := w.heap.size + 1) (j := 0) (.int .i64 m)) (.inr (by omega))).span (Span.one (p := w.heap.size + 1) (j := 1) (.slice a5 vs.length c5)) (.inr (by omega))).span (Span.one (p := w.heap.size + 1) (j := 2) (.slice a4 ps.length c4)) (.inr (by omega))).vals
    have QB : (∀ k, blockOf a5 = some k → w.heap.size ≤ k) ∧ (∀ k, blockOf a4 = some k → w.heap.size ≤ k) := ⟨fun k hk => by have := (v6.1.block k hk).1; omega, fun k hk => by have := (q6.1.block k hk).1; omega⟩
    have HQB := Lib.hid QB
    have QK := (((k6.span (Span.one (p := w.heap.size + 1) (j := 0) (.int .i64 m)) (by omega)).span (Span.one (p := w.heap.size + 1) (j := 1) (.slice a5 vs.length c5)) (by omega)).span (Span.one (p := w.heap.size + 1) (j := 2) (.slice a4 ps.length c4)) (by omega))
    have QS := (((t6.newer (Span.one (p := w.heap.size + 1) (j := 0) (.int .i64 m)) (by omega)).newer (Span.one (p := w.heap.size + 1) (j := 1) (.slice a5 vs.length c5)) (by omega)).newer (Span.one (p := w.heap.size + 1) (j := 2) (.slice a4 ps.length c4)) (by omega))
    obtain ⟨u0, u1, u2, u3⟩ := p6
    obtain ⟨t40, t41, t42, t43⟩ := b6
    have t430 := t43 0
    have t431 := t43 1
    have t432 := t43 2
    have HF : Hid (okQ m vs ps) := ⟨by omega, by omega, by omega⟩
    clear v6 q6 k6 t6 t43 u3 QB
    go_wp2_with fail
    refine bodyPost_ret (v := pkV m a5 c5 vs a4 c4 ps) (by simp only [results, Try.results166]; go_simp) rfl ?_
    exact ⟨m, a5, c5, vs, a4, c4, ps, rfl, HF.out, Q3, Q4, HQB.out, QK, QS⟩
  by_cases e2 : y = 2
  · subst e2
    clear q3
    go_wp2_with fail
    (with_reducible refine (CB.out _ _ k3 (by omega)).mono ?_)
    rintro e w3 ⟨x, rfl, xx0, xx1, k4, s4⟩
    obtain ⟨n3, rfl⟩ := Int.eq_ofNat_of_zero_le xx0
    have hn3 : n3 ≤ 4 := by omega
    have p4 := p3.span s4 (.inr (by omega))
    have b4 := b3.span s4 (.inr (by omega))
    have r4 := r3.span s4 (.inr (by omega))
    have t4 := t3.trans s4
    have z4 := p4.lt
    clear p3 b3 r3 t3 k3 s4 xx0 xx1
    go_wp2_with fail
    (with_reducible refine (CA.out _ n3 k4 (by omega)).mono ?_)
    rintro e w4 ⟨a5, c5, vs, rfl, hvl, o5, k5, s5⟩
    have hv2 : vs.length ≤ 45 := by omega
    have p5 := p4.span s5 (.inr (by omega))
    have b5 := b4.span s5 (.inr (by omega))
    have r5 := r4.span s5 (.inr (by omega))
    have t5 := t4.trans s5
    have z5 := p5.lt
    have hsp : Span p (p + 1) w4 (w4.setCell ⟨p, 2, none⟩ (.slice a5 vs.length c5)) := Span.one _
    have p6 := p5.put2 (.slice a5 vs.length c5)
    have b6 := b5.span hsp (.inl (by omega))
    have r6 := r5.span hsp (.inl (Nat.le_refl _))
    have v6 := (OI.of o5).span hsp (.inr (by omega))
    have k6 := k5.span hsp (by omega)
    have t6 := t5.newer hsp (by omega)
    obtain ⟨p50, p51, p52, p53⟩ := p5
    have p532 := p53 2
    clear hvl s5 p4 b4 r4 t4 b5 r5 t5 k4 k5 p53 hsp o5
    have nb1 : p ≠ w.heap.size + 1 := by omega
    have nb2 : w.heap.size + 1 ≠ p := by omega
    have Q3 := (((r6.span (Span.one (p := w.heap.size + 1) (j := 0) (.int .i64 m)) (.inr (by omega))).span (Span.one (p := w.heap.size + 1) (j := 1) (.slice a3 cs.length c3)) (.inr (by omega))).span (Span.one (p := w.heap.size + 1) (j := 2) (.slice a5 vs.length c5)) (.inr (by omega))).vals
    have Q4 := (((v6.span (Span.one (p := w.heap.size + 1) (j := 0) (.int .i64 m)) (.inr (by omega))).span (Span.one (p := w.heap.size + 1) (j := 1) (.slice a3 cs.length c3)) (.inr (by omega))).span (Span.one (p := w.heap.size + 1) (j := 2) (.slice a5 vs.length c5)) (.inr (by omega))).vals
    have QB : (∀ k, blockOf a3 = some k → w.heap.size ≤ k) ∧ (∀ k, blockOf a5 = some k → w.heap.size ≤ k) := ⟨fun k hk => by have := (r6.1.block k hk).1; omega, fun k hk => by have := (v6.1.block k hk).1; omega⟩
    have HQB := Lib.hid QB
    have QK := (((k6.span (Span.one (p := w.heap.size + 1) (j := 0) (.int .i64 m)) (by omega)).span (Span.one (p := w.heap.size + 1) (j := 1) (.slice a3 cs.length c3)) (by omega)).span (Span.one (p := w.heap.size + 1) (j := 2) (.slice a5 vs.length c5)) (by omega))
    have QS := (((t6.newer (Span.one (p := w.heap.size + 1) (j := 0) (.int .i64 m)) (by omega)).newer (Span.one (p := w.heap.size + 1) (j := 1) (.slice a3 cs.length c3)) (by omega)).newer (Span.one (p := w.heap.size + 1) (j := 2) (.slice a5 vs.length c5)) (by omega))
    obtain ⟨u0, u1, u2, u3⟩ := p6
    obtain ⟨t40, t41, t42, t43⟩ := b6
    have t430 := t43 0
    have t431 := t43 1
    have t432 := t43 2
    have HF : Hid (okQ m cs vs) := ⟨by omega, by omega, by omega⟩
    clear r6 v6 k6 t6 t43 u3 QB
    go_wp2_with fail
    refine bodyPost_ret (v := pkV m a3 c3 cs a5 c5 vs) (by simp only [results, Try.results166]; go_simp) rfl ?_
    exact ⟨m, a3, c3, cs, a5, c5, vs, rfl, HF.out, Q3, Q4, HQB.out, QK, QS⟩
  by_cases e3 : y = 3
  · subst e3
    by_cases hp0 : ps = []
    · have HP0 : Hid (ps.length = 0) := by rw [hp0]; rfl
      have i0 : ¬ (0 : Int) < (ps.length : Int) := by have := HP0.out; omega
      clear hp0
      have nb1 : p ≠ w.heap.size + 1 := by omega
      have nb2 : w.heap.size + 1 ≠ p := by omega
      have Q3 := (((r3.span (Span.one (p := w.heap.size + 1) (j := 0) (.int .i64 m)) (.inr (by omega))).span (Span.one (p := w.heap.size + 1) (j := 1) (.slice a3 cs.length c3)) (.inr (by omega))).span (Span.one (p := w.heap.size + 1) (j := 2) (.slice a4 ps.length c4)) (.inr (by omega))).vals
      have Q4 := (((q3.span (Span.one (p := w.heap.size + 1) (j := 0) (.int .i64 m)) (.inr (by omega))).span (Span.one (p := w.heap.size + 1) (j := 1) (.slice a3 cs.length c3)) (.inr (by omega))).span (Span.one (p := w.heap.size + 1) (j := 2) (.slice a4 ps.length c4)) (.inr (by omega))).vals
      have QB : (∀ k, blockOf a3 = some k → w.heap.size ≤ k) ∧ (∀ k, blockOf a4 = some k → w.heap.size ≤ k) := ⟨fun k hk => by have := (r3.1.block k hk).1; omega, fun k hk => by have := (q3.1.block k hk).1; omega⟩
      have HQB := Lib.hid QB
      have QK := (((k3.span (Span.one (p := w.heap.size + 1) (j := 0) (.int .i64 m)) (by omega)).span (Span.one (p := w.heap.size + 1) (j := 1) (.slice a3 cs.length c3)) (by omega)).span (Span.one (p := w.heap.size + 1) (j := 2) (.slice a4 ps.length c4)) (by omega))
      have QS := (((t3.newer (Span.one (p := w.heap.size + 1) (j := 0) (.int .i64 m)) (by omega)).newer (Span.one (p := w.heap.size + 1) (j := 1) (.slice a3 cs.length c3)) (by omega)).newer (Span.one (p := w.heap.size + 1) (j := 2) (.slice a4 ps.length c4)) (by omega))
      obtain ⟨u0, u1, u2, u3⟩ := p3
      obtain ⟨t40, t41, t42, t43⟩ := b3
      have t430 := t43 0
      have t431 := t43 1
      have t432 := t43 2
      have HF : Hid (okQ m cs ps) := ⟨by omega, by omega, by omega⟩
      clear r3 q3 k3 t3 t43 u3 QB
      go_wp2_with fail
      refine bodyPost_ret (v := pkV m a3 c3 cs a4 c4 ps) (by simp only [results, Try.results166]; go_simp) rfl ?_
      exact ⟨m, a3, c3, cs, a4, c4, ps, rfl, HF.out, Q3, Q4, HQB.out, QK, QS⟩
    · have hpl : 0 < ps.length := List.length_pos_iff.2 hp0
      have i0 : (0 : Int) < (ps.length : Int) := by omega
      obtain ⟨ga, rfl, hga1, hga2, hga3⟩ := OI.form q3 hpl
      obtain ⟨x, hpx⟩ : ∃ x, ps[0]? = some x := ⟨_, List.getElem?_eq_getElem hpl⟩
      have hcx := q3.cellAt hpx
      obtain ⟨xx0, xx1⟩ := HPA.out.get hpx
      obtain ⟨z, hz⟩ : ∃ z : Int, Hid (z = (x + 1) % 1019) := ⟨_, rfl⟩
      obtain ⟨st1, st2, st3, u, st4⟩ := q3.store 0 z hpl
      have hsp : Span ga (ga + 1) w2 (w2.setCell ⟨ga, 0, none⟩ (.int .i64 z)) := Span.one _
      have r6 := (r3.keep (a := some ⟨ga, 0, none⟩) hsp (fun k h1 h2 => congrArg some (show ga = k by omega)) (fun k h1 h2 => hap k h2 h1)).ext (Ext.refl _).drew
      have p6 := (p3.span hsp (.inr (by omega))).ext (Ext.refl _).drew
      have b6 := (b3.span hsp (.inl (by omega))).ext (Ext.refl _).drew
      have q6 := st1.ext (Ext.refl _).drew
      have k6 := (k3.span hsp (by omega)).ext (Ext.refl _).drew
      have t6 := (t3.newer hsp (by omega)).trans (Span.of_ext (B := g) (B2 := g + 1) (Ext.refl _).drew)
      obtain ⟨qs, hqs⟩ : ∃ qs, Hid (qs = ps.set 0 z) := ⟨_, rfl⟩
      have HQL : Hid (ps.length = qs.length) := by rw [hqs.out, List.length_set]; exact Lib.hid rfl
      rw [← hqs.out] at q6
      obtain ⟨p30, p31, p32, p33⟩ := p3
      clear st1 st2 hpx hp0 b3 r3 q3 k3 t3 hsp p33
      go_wp2_with fail
      go_region
      rw [← hz.out]
      obtain ⟨w9, hw9⟩ : ∃ w9, w9 = (w2.setCell ⟨ga, 0, none⟩ (.int .i64 z)).drew := ⟨_, rfl⟩
      rw [← hw9] at p6 b6 r6 q6 k6 t6 ⊢
      have hq2 : qs.length ≤ 200 := by have := HQL.out; omega
      have z9 := p6.lt
      rw [HQL.out] at p6 ⊢
      clear hw9 st3 st4 hcx p30 p31 p32 i0 hpl
      have nb1 : p ≠ w.heap.size + 1 := by omega
      have nb2 : w.heap.size + 1 ≠ p := by omega
      have Q3 := (((r6.span (Span.one (p := w.heap.size + 1) (j := 0) (.int .i64 m)) (.inr (by omega))).span (Span.one (p := w.heap.size + 1) (j := 1) (.slice a3 cs.length c3)) (.inr (by omega))).span (Span.one (p := w.heap.size + 1) (j := 2) (.slice (some ⟨ga, 0, none⟩) qs.length c4)) (.inr (by omega))).vals
      have Q4 := (((q6.span (Span.one (p := w.heap.size + 1) (j := 0) (.int .i64 m)) (.inr (by omega))).span (Span.one (p := w.heap.size + 1) (j := 1) (.slice a3 cs.length c3)) (.inr (by omega))).span (Span.one (p := w.heap.size + 1) (j := 2) (.slice (some ⟨ga, 0, none⟩) qs.length c4)) (.inr (by omega))).vals
      have QB : (∀ k, blockOf a3 = some k → w.heap.size ≤ k) ∧ (∀ k, blockOf (some ⟨ga, 0, none⟩) = some k → w.heap.size ≤ k) := ⟨fun k hk => by have := (r6.1.block k hk).1; omega, fun k hk => by have := (q6.1.block k hk).1; omega⟩
      have HQB := Lib.hid QB
      have QK := (((k6.span (Span.one (p := w.heap.size + 1) (j := 0) (.int .i64 m)) (by omega)).span (Span.one (p := w.heap.size + 1) (j := 1) (.slice a3 cs.length c3)) (by omega)).span (Span.one (p := w.heap.size + 1) (j := 2) (.slice (some ⟨ga, 0, none⟩) qs.length c4)) (by omega))
      have QS := (((t6.newer (Span.one (p := w.heap.size + 1) (j := 0) (.int .i64 m)) (by omega)).newer (Span.one (p := w.heap.size + 1) (j := 1) (.slice a3 cs.length c3)) (by omega)).newer (Span.one (p := w.heap.size + 1) (j := 2) (.slice (some ⟨ga, 0, none⟩) qs.length c4)) (by omega))
      obtain ⟨u0, u1, u2, u3⟩ := p6
      obtain ⟨t40, t41, t42, t43⟩ := b6
      have t430 := t43 0
      have t431 := t43 1
      have t432 := t43 2
      have HF : Hid (okQ m cs qs) := ⟨by omega, by omega, by omega⟩
      clear r6 q6 k6 t6 t43 u3 QB
      go_wp2_with fail
      refine bodyPost_ret (v := pkV m a3 c3 cs (some ⟨ga, 0, none⟩) c4 qs) (by simp only [results, Try.results166]; go_simp) rfl ?_
      exact ⟨m, a3, c3, cs, (some ⟨ga, 0, none⟩), c4, qs, rfl, HF.out, Q3, Q4, HQB.out, QK, QS⟩
  have nb1 : p ≠ w.heap.size + 1 := by omega
  have nb2 : w.heap.size + 1 ≠ p := by omega
  have Q3 := (((r3.span (Span.one (p := w.heap.size + 1) (j := 0) (.int .i64 m)) (.inr (by omega))).span (Span.one (p := w.heap.size + 1) (j := 1) (.slice a3 cs.length c3)) (.inr (by omega))).span (Span.one (p := w.heap.size + 1) (j := 2) (.slice a4 ps.length c4)) (.inr (by omega))).vals
  have Q4 := (((q3.span (Span.one (p := w.heap.size + 1) (j := 0) (.int .i64 m)) (.inr (by omega))).span (Span.one (p := w.heap.size + 1) (j := 1) (.slice a3 cs.length c3)) (.inr (by omega))).span (Span.one (p := w.heap.size + 1) (j := 2) (.slice a4 ps.length c4)) (.inr (by omega))).vals
  have QB : (∀ k, blockOf a3 = some k → w.heap.size ≤ k) ∧ (∀ k, blockOf a4 = some k → w.heap.size ≤ k) := ⟨fun k hk => by have := (r3.1.block k hk).1; omega, fun k hk => by have := (q3.1.block k hk).1; omega⟩
  have HQB := Lib.hid QB
  have QK := (((k3.span (Span.one (p := w.heap.size + 1) (j := 0) (.int .i64 m)) (by omega)).span (Span.one (p := w.heap.size + 1) (j := 1) (.slice a3 cs.length c3)) (by omega)).span (Span.one (p := w.heap.size + 1) (j := 2) (.slice a4 ps.length c4)) (by omega))
  have QS := (((t3.newer (Span.one (p := w.heap.size + 1) (j := 0) (.int .i64 m)) (by omega)).newer (Span.one (p := w.heap.size + 1) (j := 1) (.slice a3 cs.length c3)) (by omega)).newer (Span.one (p := w.heap.size + 1) (j := 2) (.slice a4 ps.length c4)) (by omega))
  obtain ⟨u0, u1, u2, u3⟩ := p3
  obtain ⟨t40, t41, t42, t43⟩ := b3
  have t430 := t43 0
  have t431 := t43 1
  have t432 := t43 2
  have HF : Hid (okQ m cs ps) := ⟨by omega, by omega, by omega⟩
  clear r3 q3 k3 t3 t43 u3 QB
  go_wp2_with fail
  refine bodyPost_ret (v := pkV m a3 c3 cs a4 c4 ps) (by simp only [results, Try.results166]; go_simp) rfl ?_
  exact ⟨m, a3, c3, cs, a4, c4, ps, rfl, HF.out, Q3, Q4, HQB.out, QK, QS⟩

end Go.Proofs.Ytkegknophppdgaa
