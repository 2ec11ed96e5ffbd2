/- Products of vectors and of a matrix with a vector: contracts of the program and the reference. -/
import Derived.Test.YtninamlcffemoaaFld
import Derived.Test.YtninamlcffemoaaRedu
import Derived.Test.YtninamlcffemoaaRowApp
namespace Go.Proofs.Ytninamlcffemoaa
open Go.RowKit
set_option linter.unusedVariables false
set_option maxRecDepth 20000

def sumTo (xs ys : List Int) : Nat → Int
  | 0 => 0
  | k + 1 => sumTo xs ys k + ent xs k * ent ys k
def dotI (xs ys : List Int) : Int := sumTo xs ys xs.length % 1019
theorem sumTo_at {xs ys : List Int} {k : Nat} {x y : Int} (hx : xs[k]? = some x) (hy : ys[k]? = some y) : sumTo xs ys (k + 1) = sumTo xs ys k + x * y := by
  show sumTo xs ys k + ent xs k * ent ys k = _
  rw [ent_some hx, ent_some hy]
theorem sumTo_range {xs ys : List Int} (hx : AllEl xs) (hy : AllEl ys) : ∀ k : Nat, 0 ≤ sumTo xs ys k ∧ sumTo xs ys k ≤ 1036324 * (k : Int) := by
  intro k
  induction k with
  | zero => simp [sumTo]
  | succ k ih =>
    have h1 := ent_range hx k
    have h2 := ent_range hy k
    have := mul_el h1.1 h1.2 h2.1 h2.2
    show 0 ≤ sumTo xs ys k + ent xs k * ent ys k ∧ sumTo xs ys k + ent xs k * ent ys k ≤ _
    generalize ent xs k * ent ys k = p at *
    omega
theorem dotI_range (xs ys : List Int) : 0 ≤ dotI xs ys ∧ dotI xs ys ≤ 1018 := by unfold dotI; omega
theorem sumTo_K (xs ys : List Int) (k : Nat) : toK (sumTo xs ys k) = sumN k (fun i => vK xs i * vK ys i) := by
  induction k with
  | zero => exact toK_zero
  | succ k ih =>
    show toK (sumTo xs ys k + ent xs k * ent ys k) = sumN k _ + _
    rw [toK_add, toK_mul, ih]
    rfl
theorem dotI_K (xs ys : List Int) : toK (dotI xs ys) = sumN xs.length (fun i => vK xs i * vK ys i) := by
  unfold dotI
  rw [toK_mod, sumTo_K]
def mmvOk (m : List (List Int)) (v : List Int) : Bool := validM m && (validV v && decide (v.length = cols m))
def mmv (m : List (List Int)) (v : List Int) : List Int := if mmvOk m v then m.map (fun r => dotI r v) else []
theorem mmv_no {m : List (List Int)} {v : List Int} (h : mmvOk m v = false) : mmv m v = [] := by unfold mmv; rw [h]; rfl
theorem mmv_yes {m : List (List Int)} {v : List Int} (h : mmvOk m v = true) : mmv m v = m.map (fun r => dotI r v) := by unfold mmv; rw [if_pos h]
theorem mmvOk_parts {m : List (List Int)} {v : List Int} (h : mmvOk m v = true) : validM m = true ∧ validV v = true ∧ v.length = cols m ∧ VR (cols m) m ∧ m.length ≤ 40 ∧ AllEl v ∧ v.length ≤ 40 := by
  simp only [mmvOk, Bool.and_eq_true, decide_eq_true_eq] at h
  obtain ⟨h1, h2, h3⟩ := h
  exact ⟨h1, h2, h3, (validM_true.1 h1).1, (validM_true.1 h1).2, (validV_true.1 h2).1, (validV_true.1 h2).2⟩
theorem mmv_length {m : List (List Int)} {v : List Int} (h : mmvOk m v = true) : (mmv m v).length = m.length := by rw [mmv_yes h]; simp
theorem mmv_AllEl (m : List (List Int)) (v : List Int) : AllEl (mmv m v) := by
  unfold mmv
  split
  · intro x hx
    obtain ⟨r, _, rfl⟩ := List.mem_map.1 hx
    exact inR_true.2 (dotI_range r v)
  · exact fun x hx => by simp at hx
theorem mmv_len (m : List (List Int)) (v : List Int) : (mmv m v).length ≤ 40 := by
  cases h : mmvOk m v
  · rw [mmv_no h]; simp
  · rw [mmv_length h]; exact (mmvOk_parts h).2.2.2.2.1

set_option maxHeartbeats 1000000 in
theorem specDot_ok (a b : Option Addr) (c d : Nat) (xs ys : List Int) (w : World) (h : Vals w a (I xs)) (h' : Vals w b (I ys)) (hx : validV xs = true) (hy : validV ys = true) (hl : xs.length = ys.length) :
    Calls Try.prog 110 #[.slice a xs.length c, .slice b ys.length d] w (Quiet w (.int .i64 (dotI xs ys))) := by
  obtain ⟨hx1, hx2⟩ := validV_true.1 hx
  obtain ⟨hy1, hy2⟩ := validV_true.1 hy
  have HX := Lib.hid hx1
  have HY := Lib.hid hy1
  have P := Lib.hid (specPair_ok a b c d xs ys w h h' hx hy hl hy2)
  have HL := Lib.hid hl
  clear hx1 hy1 hx hy hl
  go_enter Try.func110, Try.ntmps110
  go_wp2_with (go_at_call 129; (with_reducible refine P.out.mono ?_); rintro e w' ⟨rfl, rfl⟩)
  go_loopw [5, 6] (fun n i wr => ∃ k : Nat, k ≤ xs.length ∧ i = .int .i64 k ∧ n = .int .i64 (sumTo xs ys k % 1019) ∧ Dr w wr) (fun _ i _ => xs.length - (intOf i).toNat)
  case atStart => exact ⟨0, Nat.zero_le _, rfl, rfl, Dr.refl _⟩
  case round =>
    obtain ⟨k, hk, rfl, rfl, hd⟩ := hrel
    by_cases hlt : k < xs.length
    · obtain ⟨b1, o1, x, rfl, hb, hx, hc⟩ := (h.ext hd.ext).atI hlt
      have hlt2 : k < ys.length := by rw [← HL.out]; exact hlt
      obtain ⟨b2, o2, y, rfl, hb', hy, hc'⟩ := (h'.ext hd.ext).atI hlt2
      have q1 := HX.out.get hx.out
      have q2 := HY.out.get hy.out
      have q3 := mul_el q1.1 q1.2 q2.1 q2.2
      have q4 : 0 ≤ sumTo xs ys k % 1019 ∧ sumTo xs ys k % 1019 ≤ 1018 := by omega
      have HS : Hid ((sumTo xs ys k % 1019 + x * y) % 1019 = sumTo xs ys (k + 1) % 1019) := by
        rw [sumTo_at hx.out hy.out]
        generalize x * y = p
        exact Lib.hid (by omega)
      obtain ⟨s, hs⟩ : ∃ s, Hid (sumTo xs ys k % 1019 = s) := ⟨_, rfl⟩
      rw [hs.out] at q4 HS ⊢
      obtain ⟨s0, s1⟩ := q4
      obtain ⟨p0, p1⟩ := q3
      have i1 : (0 : Int) ≤ (k : Int) := by omega
      have i2 : (k : Int) < (xs.length : Int) := by omega
      have i3 : (k : Int) < (ys.length : Int) := by omega
      have w1 : IntKind.i64.wrap (x * y) = x * y := by rw [IntKind.wrap_i64]; omega
      have w2 : IntKind.i64.wrap (s + x * y) = s + x * y := by rw [IntKind.wrap_i64]; omega
      have w3 : 0 ≤ s + x * y := by omega
      clear q1 q2
      go_wp2_with fail
      go_quiet (fail)
      go_wp2_with fail
      go_roundw
      case rel => exact ⟨k + 1, by omega, by go_num, by rw [← HS.out], hd.drewN _⟩
      case measure => simp [intOf]; omega
    · obtain rfl : k = xs.length := by omega
      go_wp2_with fail
      go_ret
      exact ⟨rfl, hd⟩

set_option maxHeartbeats 1000000 in
theorem implDotI_ok (a b : Option Addr) (c d : Nat) (xs ys : List Int) (w : World) (h : Vals w a (I xs)) (h' : Vals w b (I ys)) (hx : validV xs = true) (hy : validV ys = true) (hl : xs.length = ys.length) :
    Calls Try.prog 101 #[.slice a xs.length c, .slice b ys.length d] w fun e w' => e = .returned (.int .i64 (dotI xs ys)) ∧ w = w' := by
  obtain ⟨hx1, hx2⟩ := validV_true.1 hx
  obtain ⟨hy1, hy2⟩ := validV_true.1 hy
  have HX := Lib.hid hx1
  have HY := Lib.hid hy1
  have HL := Lib.hid hl
  have HR := Lib.hid (sumTo_range hx1 hy1)
  clear hx1 hy1 hx hy hl
  go_enter Try.func101, Try.ntmps101
  go_wp2_with fail
  go_loop [5, 10] (fun n i => ∃ k : Nat, k ≤ xs.length ∧ i = .int .i64 k ∧ n = .int .i64 (sumTo xs ys k)) (fun _ i => xs.length - (intOf i).toNat)
  case atStart => exact ⟨0, Nat.zero_le _, rfl, rfl⟩
  case round =>
    obtain ⟨k, hk, rfl, rfl⟩ := hrel
    obtain ⟨s0, s1⟩ := HR.out k
    by_cases hlt : k < xs.length
    · obtain ⟨b1, o1, x, rfl, hb, hx, hc⟩ := h.atI hlt
      have hlt2 : k < ys.length := by rw [← HL.out]; exact hlt
      obtain ⟨b2, o2, y, rfl, hb', hy, hc'⟩ := h'.atI hlt2
      have q1 := HX.out.get hx.out
      have q2 := HY.out.get hy.out
      obtain ⟨p0, p1⟩ := mul_el q1.1 q1.2 q2.1 q2.2
      have HS : Hid (sumTo xs ys k + x * y = sumTo xs ys (k + 1)) := (sumTo_at hx.out hy.out).symm
      obtain ⟨s, hs⟩ : ∃ s, Hid (sumTo xs ys k = s) := ⟨_, rfl⟩
      rw [hs.out] at s0 s1 HS ⊢
      have i3 : (k : Int) < (ys.length : Int) := by omega
      have w1 : IntKind.i64.wrap (x * y) = x * y := by rw [IntKind.wrap_i64]; omega
      have w2 : IntKind.i64.wrap (s + x * y) = s + x * y := by rw [IntKind.wrap_i64]; omega
      clear q1 q2
      go_wp2_with fail
      go_round
      case rel => exact ⟨k + 1, by omega, by go_num, by rw [← HS.out]⟩
      case measure => simp [intOf]; omega
    · obtain rfl : k = xs.length := by omega
      go_wp2_with fail
      go_ret
      exact ⟨rfl, rfl⟩

theorem implDotP_ok (a b : Option Addr) (c d : Nat) (xs ys : List Int) (w : World) (h : Vals w a (I xs)) (h' : Vals w b (I ys)) (hx : validV xs = true) (hy : validV ys = true) (hl : xs.length = ys.length) :
    Calls Try.prog 48 #[.slice a xs.length c, .slice b ys.length d] w fun e w' => e = .returned (.int .i64 (dotI xs ys)) ∧ w = w' := by
  have C := Lib.hid (implDotI_ok a b c d xs ys w h h' hx hy hl)
  have hx2 := (validV_true.1 hx).2
  have hy2 := (validV_true.1 hy).2
  have hln : ((xs.length : Int) != (ys.length : Int)) = false := by simp [hl]
  have HL := Lib.hid hl
  clear hl
  go_enter Try.func48, Try.ntmps48
  go_wp2_with (first
    | (go_at_call 100; (with_reducible refine (implIsValidVector_ok _ _ _ _ h (by omega)).mono ?_); rintro e w' ⟨rfl, rfl⟩; rw [hx])
    | (go_at_call 100; (with_reducible refine (implIsValidVector_ok _ _ _ _ h' (by omega)).mono ?_); rintro e w' ⟨rfl, rfl⟩; rw [hy])
    | (go_at_call 101; (with_reducible refine C.out.mono ?_); rintro e w' ⟨rfl, rfl⟩))
  go_ret
  exact ⟨rfl, rfl⟩

set_option maxHeartbeats 4000000 in
set_option maxRecDepth 100000 in
theorem specMMV_ok (a b : Option Addr) (c d : Nat) (m : List (List Int)) (v : List Int) (w : World) (h : MatR w a m) (h' : Vals w b (I v)) (hl : m.length ≤ 1048576) (hr : ∀ xs ∈ m, xs.length ≤ 1048576) (hl' : v.length ≤ 1048576) :
    Calls Try.prog 44 #[.slice a m.length c, .slice b v.length d] w (NewI w (mmv m v)) := by
  have e0 := (Ext.refl w).alloc (.cells (I []).toArray 3)
  have o0 := OwnI.new w w.heap.size [] (Nat.le_refl _) (by simp)
  have Q := Lib.hid (specIsValidMatrix_ok a c m _ (h.ext e0) (by omega) (fun xs hx => Nat.le_trans (hr xs hx) (by omega)))
  have O0 := Lib.hid o0
  have E0 := Lib.hid e0
  clear hr o0 e0
  have bad : Hid (mmvOk m v = false → ∀ q, NewI w (mmv m v) (.returned (.slice (some ⟨w.heap.size, 0, none⟩) 0 0)) ((w.alloc (.cells (I []).toArray 3)).drewN q)) := fun hs q => by
    rw [mmv_no hs]
    exact ⟨_, _, rfl, O0.out.ext ((Ext.refl _).drewN q), E0.out.drewN q⟩
  cases q1 : validM m
  · have HS : Hid (mmvOk m v = false) := by unfold mmvOk; rw [q1]; exact Lib.hid rfl
    rw [q1] at Q
    go_enter Try.func44, Try.ntmps44
    go_wp2_with fail
    refine Q.out.mono ?_
    rintro e w1 ⟨rfl, q, rfl⟩
    go_wp2_with fail
    go_ret
    exact bad.out HS.out q
  rw [q1] at Q
  cases q2 : validV v
  · have HS : Hid (mmvOk m v = false) := by unfold mmvOk; rw [q2]; simp [Hid]
    go_enter Try.func44, Try.ntmps44
    go_wp2_with fail
    refine Q.out.mono ?_
    rintro e w1 ⟨rfl, q, rfl⟩
    go_wp2_with (go_at_call 69; refine (specIsValidVector_ok _ _ _ _ (h'.ext (E0.out.drewN q)) (by omega)).mono ?_; rintro e w' ⟨rfl, rfl⟩; rw [q2])
    go_ret
    exact bad.out HS.out q
  by_cases q3 : v.length = cols m
  rotate_left
  · have HS : Hid (mmvOk m v = false) := by unfold mmvOk; rw [decide_eq_false q3]; simp [Hid]
    have q3' : ((v.length : Int) != (cols m : Int)) = true := by simp; omega
    clear q3
    go_enter Try.func44, Try.ntmps44
    go_wp2_with fail
    refine Q.out.mono ?_
    rintro e w1 ⟨rfl, q, rfl⟩
    go_wp2_with (first
      | (go_at_call 69; refine (specIsValidVector_ok _ _ _ _ (h'.ext (E0.out.drewN q)) (by omega)).mono ?_; rintro e w' ⟨rfl, rfl⟩; rw [q2])
      | (go_at_call 26; refine (specColumnsOf_ok _ _ _ _ (h.ext (E0.out.drewN q))).mono ?_; rintro e w' ⟨rfl, rfl⟩))
    go_ret
    exact bad.out HS.out q
  have q3' : ((v.length : Int) != (cols m : Int)) = false := by simp [q3]
  have HS : Hid (mmvOk m v = true) := by unfold mmvOk; rw [q1, q2, decide_eq_true q3]; exact Lib.hid rfl
  have HP := Lib.hid (mmvOk_parts HS.out)
  have hm40 := HP.out.2.2.2.2.1
  have hv40 := HP.out.2.2.2.2.2.2
  have HMV := Lib.hid (mmv_yes HS.out)
  have Q3 := Lib.hid q3
  clear q3 bad
  go_enter Try.func44, Try.ntmps44
  go_wp2_with fail
  refine Q.out.mono ?_
  rintro e w1 ⟨rfl, q, rfl⟩
  have E1 := E0.out.drewN q
  have O1 := O0.out.ext ((Ext.refl _).drewN q)
  generalize ((w.alloc (.cells (I []).toArray 3)).drewN q) = w1 at *
  clear Q E0 O0
  go_wp2_with (first
    | (go_at_call 69; refine (specIsValidVector_ok _ _ _ _ (h'.ext E1) (by omega)).mono ?_; rintro e w' ⟨rfl, rfl⟩; rw [q2])
    | (go_at_call 26; refine (specColumnsOf_ok _ _ _ _ (h.ext E1)).mono ?_; rintro e w' ⟨rfl, rfl⟩))
  go_loopw [5, 6] (fun x i wr => ∃ (j : Nat) (a1 : Option Addr) (c1 : Nat) (us : List Int), j ≤ m.length ∧ i = .int .i64 j ∧ x = .slice a1 us.length c1 ∧ Hid (us = (mmv m v).take j) ∧ us.length ≤ 40 ∧ OwnI wr w.heap.size a1 c1 us ∧ Ext w wr) (fun _ i _ => m.length - (intOf i).toNat)
  case atStart => exact ⟨0, _, _, [], Nat.zero_le _, rfl, rfl, by simp [Hid], by simp, O1, E1⟩
  case round =>
    clear O1 E1
    obtain ⟨j, a1, c1, us, hj, rfl, rfl, HU, hul, ho, he⟩ := hrel
    by_cases hlt : j < m.length
    · obtain ⟨b1, o1, ra, rc, xs, rfl, hbl, hx, hc, hrow⟩ := (h.ext he).at_ hlt
      have hxo := HP.out.2.2.2.1.ok hx.out
      have hxv : Hid (validV xs = true) := validV_true.2 ⟨hxo.1, hxo.2.1⟩
      have hxn : Hid (xs.length = v.length) := by rw [Q3.out]; exact hxo.2.2
      have C := Lib.hid (specDot_ok ra b rc d xs v wr hrow (h'.ext he) hxv.out HP.out.2.1 hxn.out)
      have hxl := hxo.2.1
      obtain ⟨y, hy⟩ : ∃ y, Hid (y = dotI xs v) := ⟨_, rfl⟩
      rw [← hy.out] at C
      obtain ⟨vs, hvs⟩ : ∃ vs, Hid (vs = us ++ [y]) := ⟨_, rfl⟩
      have HT : Hid (vs = (mmv m v).take (j + 1)) := by
        rw [List.take_add_one, ← HU.out, HMV.out, List.getElem?_map, hx.out]
        show vs = us ++ [dotI xs v]
        rw [← hy.out]
        exact hvs
      have hvl : vs.length ≤ 40 := by rw [HT.out, List.length_take, mmv_length HS.out]; omega
      have hsz := he.size_le
      clear hxo
      go_wp2_with fail
      (with_reducible refine C.out.mono ?_)
      rintro e w2 ⟨rfl, n2, rfl⟩
      have e2 := he.drewN n2
      have o2 := ho.ext ((Ext.refl wr).drewN n2)
      generalize wr.drewN n2 = w2 at *
      have z2 := e2.size_le
      clear C ho he hrow hc
      go_wp2_with (at_builtin; refine wpList_appI _ rfl _ _ rfl w.heap.size _ _ us rfl (o2.ext ((Ext.refl w2).alloc _)) _ _ [y] rfl (Vals.new w2 [.int .i64 y] _) vs hvs.out (by simp; omega) (by simp; omega) ?_)
      intro a5 c5 w5 o5 g5 _
      have e5 := (e2.alloc (.cells (I [y]).toArray 3)).grown g5 (fun k hk => (o2.block k hk).1)
      clear g5 e2 o2
      go_wp2_with fail
      go_roundw
      case rel => exact ⟨j + 1, a5, c5, vs, by omega, by go_num, rfl, HT, hvl, o5, e5⟩
      case measure => simp [intOf]; omega
    · obtain rfl : j = m.length := by omega
      have HV : Hid (mmv m v = us) := by rw [HU.out, List.take_of_length_le (by rw [mmv_length HS.out]; exact Nat.le_refl _)]; exact Lib.hid rfl
      go_wp2_with fail
      go_ret
      rw [HV.out]
      exact ⟨a1, c1, rfl, ho, he⟩

set_option maxHeartbeats 4000000 in
set_option maxRecDepth 100000 in
theorem implMMV_ok (a b : Option Addr) (c d : Nat) (m : List (List Int)) (v : List Int) (w : World) (h : MatR w a m) (h' : Vals w b (I v)) (hl : m.length ≤ 1048576) (hr : ∀ xs ∈ m, xs.length ≤ 1048576) (hl' : v.length ≤ 1048576) :
    Calls Try.prog 38 #[.slice a m.length c, .slice b v.length d] w (NewI w (mmv m v)) := by
  have Q := Lib.hid (implIsValidMatrix_ok a c m _ h (by omega) (fun xs hx => Nat.le_trans (hr xs hx) (by omega)))
  have O0 := Lib.hid (OwnI.nil w w.heap.size)
  have E0 := Lib.hid (Ext.refl w)
  clear hr
  have bad : Hid (mmvOk m v = false → ∀ q, NewI w (mmv m v) (.returned (.slice none 0 0)) (w.drewN q)) := fun hs q => by
    rw [mmv_no hs]
    exact ⟨_, _, rfl, O0.out.ext ((Ext.refl _).drewN q), E0.out.drewN q⟩
  cases q1 : validM m
  · have HS : Hid (mmvOk m v = false) := by unfold mmvOk; rw [q1]; exact Lib.hid rfl
    rw [q1] at Q
    go_enter Try.func38, Try.ntmps38
    go_wp2_with fail
    refine Q.out.mono ?_
    rintro e w1 ⟨rfl, q, rfl⟩
    go_wp2_with fail
    go_ret
    exact bad.out HS.out q
  rw [q1] at Q
  cases q2 : validV v
  · have HS : Hid (mmvOk m v = false) := by unfold mmvOk; rw [q2]; simp [Hid]
    go_enter Try.func38, Try.ntmps38
    go_wp2_with fail
    refine Q.out.mono ?_
    rintro e w1 ⟨rfl, q, rfl⟩
    go_wp2_with (go_at_call 100; refine (implIsValidVector_ok _ _ _ _ (h'.ext (E0.out.drewN q)) (by omega)).mono ?_; rintro e w' ⟨rfl, rfl⟩; rw [q2])
    go_ret
    exact bad.out HS.out q
  by_cases q3 : v.length = cols m
  rotate_left
  · have HS : Hid (mmvOk m v = false) := by unfold mmvOk; rw [decide_eq_false q3]; simp [Hid]
    have q3' : ((v.length : Int) != (cols m : Int)) = true := by simp; omega
    clear q3
    go_enter Try.func38, Try.ntmps38
    go_wp2_with fail
    refine Q.out.mono ?_
    rintro e w1 ⟨rfl, q, rfl⟩
    go_wp2_with (first
      | (go_at_call 100; refine (implIsValidVector_ok _ _ _ _ (h'.ext (E0.out.drewN q)) (by omega)).mono ?_; rintro e w' ⟨rfl, rfl⟩; rw [q2])
      | (go_at_call 81; refine (implColumnsOf_ok _ _ _ _ (h.ext (E0.out.drewN q))).mono ?_; rintro e w' ⟨rfl, rfl⟩))
    go_ret
    exact bad.out HS.out q
  have q3' : ((v.length : Int) != (cols m : Int)) = false := by simp [q3]
  have HS : Hid (mmvOk m v = true) := by unfold mmvOk; rw [q1, q2, decide_eq_true q3]; exact Lib.hid rfl
  have HP := Lib.hid (mmvOk_parts HS.out)
  have hm40 := HP.out.2.2.2.2.1
  have hv40 := HP.out.2.2.2.2.2.2
  have HMV := Lib.hid (mmv_yes HS.out)
  have Q3 := Lib.hid q3
  clear q3 bad
  go_enter Try.func38, Try.ntmps38
  go_wp2_with fail
  refine Q.out.mono ?_
  rintro e w1 ⟨rfl, q, rfl⟩
  have E1 := E0.out.drewN q
  have O1 := O0.out.ext ((Ext.refl _).drewN q)
  generalize w.drewN q = w1 at *
  clear Q E0 O0
  go_wp2_with (first
    | (go_at_call 100; refine (implIsValidVector_ok _ _ _ _ (h'.ext E1) (by omega)).mono ?_; rintro e w' ⟨rfl, rfl⟩; rw [q2])
    | (go_at_call 81; refine (implColumnsOf_ok _ _ _ _ (h.ext E1)).mono ?_; rintro e w' ⟨rfl, rfl⟩))
  go_loopw [5, 25] (fun x i wr => ∃ (j : Nat) (a1 : Option Addr) (c1 : Nat) (us : List Int), j ≤ m.length ∧ i = .int .i64 j ∧ x = .slice a1 us.length c1 ∧ Hid (us = (mmv m v).take j) ∧ us.length ≤ 40 ∧ OwnI wr w.heap.size a1 c1 us ∧ Ext w wr) (fun _ i _ => m.length - (intOf i).toNat)
  case atStart => exact ⟨0, _, _, [], Nat.zero_le _, rfl, rfl, by simp [Hid], by simp, O1, E1⟩
  case round =>
    clear O1 E1
    obtain ⟨j, a1, c1, us, hj, rfl, rfl, HU, hul, ho, he⟩ := hrel
    by_cases hlt : j < m.length
    · obtain ⟨b1, o1, ra, rc, xs, rfl, hbl, hx, hc, hrow⟩ := (h.ext he).at_ hlt
      have hxo := HP.out.2.2.2.1.ok hx.out
      have hxv : Hid (validV xs = true) := validV_true.2 ⟨hxo.1, hxo.2.1⟩
      have hxn : Hid (xs.length = v.length) := by rw [Q3.out]; exact hxo.2.2
      have C := Lib.hid (implDotI_ok ra b rc d xs v wr hrow (h'.ext he) hxv.out HP.out.2.1 hxn.out)
      have hxl := hxo.2.1
      obtain ⟨y, hy⟩ : ∃ y, Hid (y = dotI xs v) := ⟨_, rfl⟩
      rw [← hy.out] at C
      obtain ⟨vs, hvs⟩ : ∃ vs, Hid (vs = us ++ [y]) := ⟨_, rfl⟩
      have HT : Hid (vs = (mmv m v).take (j + 1)) := by
        rw [List.take_add_one, ← HU.out, HMV.out, List.getElem?_map, hx.out]
        show vs = us ++ [dotI xs v]
        rw [← hy.out]
        exact hvs
      have hvl : vs.length ≤ 40 := by rw [HT.out, List.length_take, mmv_length HS.out]; omega
      have hsz := he.size_le
      clear hxo
      go_wp2_with fail
      (with_reducible refine C.out.mono ?_)
      rintro e w2 ⟨rfl, rfl⟩
      have e2 := he
      have o2 := ho
      have z2 := e2.size_le
      clear C ho he hrow hc
      go_wp2_with (at_builtin; refine wpList_appI _ rfl _ _ rfl w.heap.size _ _ us rfl (o2.ext ((Ext.refl wr).alloc _)) _ _ [y] rfl (Vals.new wr [.int .i64 y] _) vs hvs.out (by simp; omega) (by simp; omega) ?_)
      intro a5 c5 w5 o5 g5 _
      have e5 := (e2.alloc (.cells (I [y]).toArray 3)).grown g5 (fun k hk => (o2.block k hk).1)
      clear g5 e2 o2
      go_wp2_with fail
      go_roundw
      case rel => exact ⟨j + 1, a5, c5, vs, by omega, by go_num, rfl, HT, hvl, o5, e5⟩
      case measure => simp [intOf]; omega
    · obtain rfl : j = m.length := by omega
      have HV : Hid (mmv m v = us) := by rw [HU.out, List.take_of_length_le (by rw [mmv_length HS.out]; exact Nat.le_refl _)]; exact Lib.hid rfl
      go_wp2_with fail
      go_ret
      rw [HV.out]
      exact ⟨a1, c1, rfl, ho, he⟩

end Go.Proofs.Ytninamlcffemoaa
