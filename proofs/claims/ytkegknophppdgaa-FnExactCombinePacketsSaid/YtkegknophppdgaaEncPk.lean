/- Contracts of markCodedPacket, heldCodedPacket, EncodePacket; the law of EncodePacket. -/
import Derived.Test.YtkegknophppdgaaEnc2
import Derived.Test.YtkegknophppdgaaPairs
namespace Go.Proofs.Ytkegknophppdgaa
open Go.RowKit
set_option linter.unusedVariables false
set_option maxRecDepth 20000

theorem OI.keep {w w' : World} {B B2 g g2 : Nat} {a b : Option Addr} {d : Nat} {ys : List Int} (h : OI w B B2 b d ys) (hs : Span g g2 w w') (hg : ∀ k, g ≤ k → k < g2 → blockOf a = some k) (ha : Apart a b) : OI w' B B2 b d ys :=
  ⟨h.1.of_block fun k hk => hs.block k (h.1.block k hk).2 (by
    rcases Nat.lt_or_ge k g with h1 | h1
    · exact .inl h1
    · rcases Nat.lt_or_ge k g2 with h2 | h2
      · exact absurd hk (ha k (hg k h1 h2))
      · exact .inr h2), h.2⟩

set_option maxHeartbeats 400000 in
theorem markCodedPacket_ok (B B2 : Nat) (n : Int) (a : Option Addr) (c : Nat) (xs : List Int) (b : Option Addr) (d : Nat) (ys : List Int) (k : Int) (w : World) (h : OPk w B B2 a c xs b d ys) (hB : B2 ≤ w.heap.size) (hl : xs.length ≤ 1099511627776) (hl' : ys.length ≤ 1099511627776) (h0 : 0 ≤ k) (h1 : k ≤ 1099511627776) :
    Calls Try.prog 33 #[pkV n a c xs b d ys, .int .i64 k] w fun e w' => e = .returned (.int .i64 (k + xs.length + ys.length)) ∧ OPk w' B B2 a c (upFrom k xs.length) b d (upFrom (k + xs.length) ys.length) ∧ Span B B2 w w' := by
  have e0 := (Ext.refl w).alloc (.cells #[.int .i64 n, .slice a xs.length c, .slice b ys.length d] 35)
  obtain ⟨L, R, ap⟩ := h.ext e0
  obtain ⟨g, g2, q1, q2, q3, q4⟩ := L.alone
  have hgl : ∀ k, g ≤ k → k < g2 → k < w.heap.size := fun k h1 h2 => Nat.lt_of_lt_of_le (L.2 k (q2 k h1 h2)) hB
  go_enter Try.func33, Try.ntmps33
  go_wp2_with fail
  refine (markIntS_ok g g2 _ _ _ _ _ q1 hl h0 (by omega)).mono ?_
  rintro e w1 ⟨rfl, o1, s1⟩
  have c2 : w1.cell? ⟨w.heap.size, 2, none⟩ = some (.slice b ys.length d) := s1.cell (by simp) (by
    show w.heap.size < g ∨ g2 ≤ w.heap.size
    rcases Nat.lt_or_ge w.heap.size g with h | h
    · exact .inl h
    · rcases Nat.lt_or_ge w.heap.size g2 with h' | h'
      · exact absurd (hgl _ h h') (Nat.lt_irrefl _)
      · exact .inr h')
  have R1 := R.keep s1 q2 ap
  obtain ⟨f, f2, p1, p2, p3, p4⟩ := R1.alone
  have S1 := q4 _ s1
  have L1 := q3 _ _ o1
  go_wp2_with fail
  refine (markIntS_ok f f2 _ _ _ _ _ p1 hl' (by omega) (by omega)).mono ?_
  rintro e w2 ⟨rfl, o2, s2⟩
  have L2 := L1.keep s2 p2 ap.symm
  have S2 := (Span.of_ext (B := B) (B2 := B2) e0).trans (S1.trans (p4 _ s2))
  have R2 := p3 _ _ o2
  clear s1 s2 o1 o2 q1 q2 q3 q4 p1 p2 p3 p4 L1 R1 S1 hgl
  go_wp2_with fail
  go_ret
  exact ⟨rfl, ⟨L2, R2, ap⟩, S2⟩

theorem heldCodedPacket_ok (n : Int) (a : Option Addr) (c : Nat) (xs : List Int) (b : Option Addr) (d : Nat) (ys : List Int) (k : Int) (w : World) (h : Vals w a (I (upFrom k xs.length))) (h' : Vals w b (I (upFrom (k + xs.length) ys.length))) (hl : xs.length ≤ 1099511627776) (hl' : ys.length ≤ 1099511627776) (h0 : 0 ≤ k) (h1 : k ≤ 1099511627776) :
    Calls Try.prog 34 #[pkV n a c xs b d ys, .int .i64 k] w (Gives w (.int .i64 (k + xs.length + ys.length))) := by
  go_enter Try.func34, Try.ntmps34
  go_wp2_with fail
  refine (heldIntS_ok _ _ _ _ _ (h.ext ((Ext.refl w).alloc _)) hl h0 (by omega)).mono ?_
  rintro e w1 ⟨rfl, rfl⟩
  go_wp2_with fail
  refine (heldIntS_ok _ _ _ _ _ (h'.ext ((Ext.refl w).alloc _)) hl' (by omega) (by omega)).mono ?_
  rintro e w1 ⟨rfl, rfl⟩
  go_wp2_with fail
  go_ret
  exact ⟨rfl, (Ext.refl w).alloc _⟩

def ownPk (n : Int) (xs ys : List Int) : Bool := validPk n xs ys xs.length ys.length
theorem ownPk_bounds {n : Int} {xs ys : List Int} (h : ownPk n xs ys = true) : xs.length ≤ 8 ∧ ys.length ≤ 16 ∧ 1 ≤ xs.length ∧ 1 ≤ ys.length ∧ 0 ≤ n ∧ n ≤ 1000000000000 ∧ validV xs = true ∧ validV ys = true := by
  unfold ownPk validPk at h
  simp only [Bool.and_eq_true] at h
  obtain ⟨h1, _, _, h3, h4⟩ := h
  rcases fmtOk_cases n xs.length ys.length with ⟨_, q⟩ | ⟨_, _, q⟩ | ⟨_, _, _, q⟩ | ⟨p1, p2, p3, _⟩
  · rw [q] at h1; cases h1
  · rw [q] at h1; cases h1
  · rw [q] at h1; cases h1
  · have := inR_true.1 p1; have := inR_true.1 p2; have := inR_true.1 p3
    exact ⟨by omega, by omega, by omega, by omega, by omega, by omega, h3, h4⟩
def encPk (n : Int) (xs ys : List Int) : List Int := if ownPk n xs ys then encInts ([n, (xs.length : Int), (ys.length : Int)] ++ (xs ++ ys)) else []
theorem encPk_yes {n : Int} {xs ys : List Int} (h : ownPk n xs ys = true) : encPk n xs ys = encInts ([n, (xs.length : Int), (ys.length : Int)] ++ (xs ++ ys)) := by simp [encPk, h]
theorem encPk_no {n : Int} {xs ys : List Int} (h : ownPk n xs ys = false) : encPk n xs ys = [] := by simp [encPk, h]
theorem encPk_len (n : Int) (xs ys : List Int) : (encPk n xs ys).length ≤ 189 := by
  cases h : ownPk n xs ys
  · simp [encPk_no h]
  · rw [encPk_yes h]
    have h1 := encInts_len ([n, (xs.length : Int), (ys.length : Int)] ++ (xs ++ ys))
    obtain ⟨h2, h3, _⟩ := ownPk_bounds h
    simp at h1 ⊢
    omega

theorem l11Own_ok (n : Int) (a : Option Addr) (c : Nat) (xs : List Int) (b : Option Addr) (d : Nat) (ys : List Int) (w : World) (h1 : Vals w a (I xs)) (h2 : Vals w b (I ys)) (hl : xs.length ≤ 1048576) (hl' : ys.length ≤ 1048576) :
    Calls Try.prog 107 #[pkV n a c xs b d ys] w (Gives w (.bool (ownPk n xs ys))) := by
  go_enter Try.func107, Try.ntmps107
  go_wp2_with fail
  refine (specIsValidPacket_ok _ _ _ _ _ _ _ _ _ _ (h1.ext ((Ext.refl w).alloc _)) (h2.ext ((Ext.refl w).alloc _)) hl hl').mono ?_
  rintro e w1 ⟨rfl, e1⟩
  go_wp2_with fail
  go_ret
  exact ⟨rfl, ((Ext.refl w).alloc _).trans e1⟩

set_option maxHeartbeats 1000000 in
theorem implEncodePacket_ok (n : Int) (a : Option Addr) (c : Nat) (xs : List Int) (b : Option Addr) (d : Nat) (ys : List Int) (w : World) (h1 : Vals w a (I xs)) (h2 : Vals w b (I ys)) (hl : xs.length ≤ 1048576) (hl' : ys.length ≤ 1048576) :
    Calls Try.prog 80 #[pkV n a c xs b d ys] w (NewY w (encPk n xs ys)) := by
  have e0 := (Ext.refl w).alloc (.cells #[.int .i64 n, .slice a xs.length c, .slice b ys.length d] 35)
  have hcc : Calls Try.prog 69 _ _ _ := implIsValidPacket_ok n a c xs b d ys xs.length ys.length _ (h1.ext e0) (h2.ext e0) hl hl'
  cases hv : ownPk n xs ys
  · rw [show validPk n xs ys xs.length ys.length = false from hv] at hcc
    have HC := Lib.hid hcc
    clear hcc
    go_enter Try.func80, Try.ntmps80
    go_wp2_with fail
    refine HC.out.mono ?_
    rintro e w1 ⟨rfl, e1⟩
    go_wp2_with fail
    go_ret
    rw [encPk_no hv]
    exact ⟨none, 0, rfl, OwnB.nil _ _, e0.trans e1⟩
  · rw [show validPk n xs ys xs.length ys.length = true from hv] at hcc
    have HC := Lib.hid hcc
    clear hcc
    obtain ⟨b1, b2, _⟩ := ownPk_bounds hv
    go_enter Try.func80, Try.ntmps80
    go_wp2_with fail
    refine HC.out.mono ?_
    rintro e w1 ⟨rfl, e1⟩
    clear HC
    have c0 := e1.cell (p := ⟨w.heap.size, 0, none⟩) (v := .int .i64 n) (by simp)
    have c1 := e1.cell (p := ⟨w.heap.size, 1, none⟩) (v := .slice a xs.length c) (by simp)
    have c2 := e1.cell (p := ⟨w.heap.size, 2, none⟩) (v := .slice b ys.length d) (by simp)
    have e01 := e0.trans e1
    have z1 := e1.size_le
    simp at z1
    have z2 : w.heap.size < w1.heap.size := by omega
    have z3 : w.heap.size ≠ w1.heap.size := by omega
    go_wp2_with fail
    have hA := (Ext.refl w1).alloc (.cells #[.int .i64 n, .int .i64 (xs.length : Int), .int .i64 (ys.length : Int)] 3)
    have hm := Mat.lit3 (w := w1.alloc (.cells #[.int .i64 n, .int .i64 (xs.length : Int), .int .i64 (ys.length : Int)] 3)) (e := 32) (a0 := some ⟨w1.heap.size, 0, none⟩) (c0 := 3) (c1 := c) (c2 := d) (x0 := [n, (xs.length : Int), (ys.length : Int)])
      (Vals.new w1 [.int .i64 n, .int .i64 (xs.length : Int), .int .i64 (ys.length : Int)] 3) ((h1.ext e01).ext hA) ((h2.ext e01).ext hA)
    rw [show (w1.alloc (.cells #[.int .i64 n, .int .i64 (xs.length : Int), .int .i64 (ys.length : Int)] 3)).heap.size = w1.heap.size + 1 by simp] at hm
    have hcc := concatI_ok _ 3 _ [[n, (xs.length : Int), (ys.length : Int)], xs, ys] _ hm (by simp) (by simp; omega)
    have he2 := (e01.trans hA).alloc (.cells #[.slice (some ⟨w1.heap.size, 0, none⟩) 3 3, .slice a xs.length c, .slice b ys.length d] 32)
    obtain ⟨us, hu⟩ : ∃ us, Hid (us = [[n, (xs.length : Int), (ys.length : Int)], xs, ys].flatten) := ⟨_, rfl⟩
    have hul : us.length ≤ 100000 := by rw [hu.out]; simp; omega
    rw [← hu.out] at hcc
    refine hcc.mono ?_
    rintro e w2 ⟨a2, c2', rfl, o2, e2⟩
    clear hcc hm hA
    go_wp2_with fail
    refine (implEncodeInts_ok _ _ _ _ o2.vals hul).mono ?_
    rintro e w3 ⟨a3, c3, rfl, o3, e3⟩
    go_wp2_with fail
    go_ret
    have hz : encPk n xs ys = encInts us := by rw [encPk_yes hv, hu.out]; simp
    rw [hz]
    exact ⟨a3, c3, rfl, o3.more (he2.trans e2).size_le, (he2.trans e2).trans e3⟩

set_option maxHeartbeats 1000000 in
set_option maxRecDepth 100000 in
theorem specEncodePacket_ok (n : Int) (a : Option Addr) (c : Nat) (xs : List Int) (b : Option Addr) (d : Nat) (ys : List Int) (w : World) (h1 : Vals w a (I xs)) (h2 : Vals w b (I ys)) (hl : xs.length ≤ 1048576) (hl' : ys.length ≤ 1048576) :
    Calls Try.prog 81 #[pkV n a c xs b d ys] w (NewY w (encPk n xs ys)) := by
  have e0 := (Ext.refl w).alloc (.cells #[.int .i64 n, .slice a xs.length c, .slice b ys.length d] 35)
  have hcc := l11Own_ok n a c xs b d ys _ (h1.ext e0) (h2.ext e0) hl hl'
  cases hv : ownPk n xs ys
  · rw [hv] at hcc
    have HC := Lib.hid hcc
    clear hcc
    go_enter Try.func81, Try.ntmps81
    go_wp2_with fail
    refine HC.out.mono ?_
    rintro e w1 ⟨rfl, e1⟩
    go_wp2_with fail
    go_ret
    rw [encPk_no hv]
    exact ⟨_, _, rfl, (OwnB.new w1 w.heap.size [] (e0.trans e1).size_le (by simp)), (e0.trans e1).alloc _⟩
  · rw [hv] at hcc
    have HC := Lib.hid hcc
    clear hcc
    obtain ⟨b1, b2, _⟩ := ownPk_bounds hv
    go_enter Try.func81, Try.ntmps81
    go_wp2_with fail
    refine HC.out.mono ?_
    rintro e w1 ⟨rfl, e1⟩
    clear HC
    have c0 := e1.cell (p := ⟨w.heap.size, 0, none⟩) (v := .int .i64 n) (by simp)
    have c1 := e1.cell (p := ⟨w.heap.size, 1, none⟩) (v := .slice a xs.length c) (by simp)
    have c2 := e1.cell (p := ⟨w.heap.size, 2, none⟩) (v := .slice b ys.length d) (by simp)
    have e01 := e0.trans e1
    go_wp2_with fail
    refine (specEncodeInts_ok _ _ [n, (xs.length : Int), (ys.length : Int)] _ (Vals.new w1 [.int .i64 n, .int .i64 (xs.length : Int), .int .i64 (ys.length : Int)] 3) (by simp)).mono ?_
    rintro e w2 ⟨a2, c2', rfl, o2, e2⟩
    have e12 := ((Ext.refl w1).alloc (.cells #[.int .i64 n, .int .i64 (xs.length : Int), .int .i64 (ys.length : Int)] 3)).trans e2
    replace c0 := e12.cell c0
    replace c1 := e12.cell c1
    replace c2 := e12.cell c2
    have e02 := e01.trans e12
    obtain ⟨us, hu⟩ : ∃ us, Hid (us = encInts [n, (xs.length : Int), (ys.length : Int)]) := ⟨_, rfl⟩
    have hul : us.length ≤ 30 := by rw [hu.out]; have := encInts_len [n, (xs.length : Int), (ys.length : Int)]; simp at this; omega
    rw [← hu.out] at o2 ⊢
    have o2' : OwnB w2 w.heap.size a2 c2' us := o2.more (by have := e01.size_le; simp; omega)
    obtain ⟨vs, hvv⟩ : ∃ vs, Hid (vs = us ++ encInts xs) := ⟨_, rfl⟩
    have hxl := encInts_len xs
    have hyl := encInts_len ys
    have hvl : vs.length ≤ 200 := by rw [hvv.out, List.length_append]; omega
    obtain ⟨ts, hts⟩ : ∃ ts, Hid (ts = vs ++ encInts ys) := ⟨_, rfl⟩
    have hne : some w.heap.size ≠ blockOf a2 := fun e => by have := (o2.block _ e.symm).1; have := e01.size_le; simp at *; omega
    have hz2 := e02.size_le
    have hz3 : w.heap.size < w2.heap.size := by have := e12.size_le; have := World.block_lt_of_cell? w2 _ c1; simpa using this
    clear o2 e1 e2 e12 e01 e0
    go_wp2_with fail
    go_region_held3 (fun w' => w'.cell? ⟨w.heap.size, 1, none⟩ = some (.slice a xs.length c) ∧ w'.cell? ⟨w.heap.size, 2, none⟩ = some (.slice b ys.length d))
      (first | go_keep | exact ⟨l1, l2⟩ | exact ⟨e5.cell d1, e5.cell d2⟩ | exact ⟨d1, d2⟩ | exact ⟨e3.cell c1, e3.cell c2⟩)
      (first
        | (go_at_call 139; (with_reducible refine (specEncodeInts_ok _ _ ys _ (h2.ext e4) (by omega)).mono ?_); rintro e w5 ⟨a5, c5, rfl, o5, e5⟩)
        | (refine step_appY _ (by rfl) _ _ (by rfl) w.heap.size _ _ vs (by rfl) (o4.ext e5) _ _ _ (by rfl) o5.vals ts hts.out (by omega) (e4.trans e5).size_le ?_; intro a6 c6 w6 o6 g6 _; have e6 := (e4.trans e5).grown g6 (fun k hk => (o4.block k hk).1); have hne4 : some w.heap.size ≠ blockOf a4 := (fun e => by rcases at4 with h | h; (exact hne (e.trans h)); (rw [h] at e; injection e with e; omega)); have l1 := g6.cell (e5.cell d1) hne4; have l2 := g6.cell (e5.cell d2) hne4)
        | (go_at_call 139; (with_reducible refine (specEncodeInts_ok _ _ xs _ (h1.ext e02.drew) (by omega)).mono ?_); rintro e w3 ⟨a3, c3, rfl, o3, e3'⟩; have e3 := (Ext.refl w2).drew.trans e3')
        | (refine step_appY _ (by rfl) _ _ (by rfl) w.heap.size _ _ us (by rfl) (o2'.ext e3) _ _ _ (by rfl) o3.vals vs hvv.out (by omega) (e02.trans e3).size_le ?_; intro a4 c4 w4 o4 g4 at4; have e4 := (e02.trans e3).grown g4 (fun k hk => (o2'.block k hk).1); have d1 := g4.cell (e3.cell c1) hne; have d2 := g4.cell (e3.cell c2) hne; have z3 := e3.size_le))
    go_wp2_with fail
    go_ret
    have hz : encPk n xs ys = ts := by rw [encPk_yes hv, hts.out, hvv.out, hu.out, encInts_append, encInts_append]; simp
    rw [hz]
    exact ⟨a6, c6, rfl, o6, e6⟩

end Go.Proofs.Ytkegknophppdgaa
