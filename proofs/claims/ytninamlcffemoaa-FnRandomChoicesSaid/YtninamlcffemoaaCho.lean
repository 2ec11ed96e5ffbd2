/- Plain: numbers drawn out of a row; contracts of drawn (program) and l13Choose (reference); Shuffle; its law. -/
import Derived.Test.YtninamlcffemoaaShf
import Derived.Test.YtninamlcffemoaaRand
import Derived.Test.YtninamlcffemoaaMats
import Derived.Test.YtninamlcffemoaaComb
import Derived.Sort.OwnSortedInts
import Derived.Deep.RegionHeld3
namespace Go.Proofs.Ytninamlcffemoaa
open Go.RowKit Go.Sort
set_option linter.unusedVariables false
set_option maxRecDepth 20000

/-- One number is taken out of the rest. -/
def chStep (seed : Int) (k : Nat) (s : List Int × List Int) : List Int × List Int :=
  (s.1.take (rnum seed k s.1.length).toNat ++ s.1.drop ((rnum seed k s.1.length).toNat + 1), s.2 ++ [s.1.getD (rnum seed k s.1.length).toNat 0])
def chTo (seed : Int) (n : Nat) : Nat → List Int × List Int
  | 0 => (upFrom 0 n, [])
  | k + 1 => chStep seed k (chTo seed n k)
theorem chTo_len (seed : Int) (n : Nat) (hn : n ≤ 40) : ∀ k, k ≤ n → (chTo seed n k).1.length = n - k ∧ (chTo seed n k).2.length = k := by
  intro k
  induction k with
  | zero => intro _; exact ⟨by simp [chTo, upFrom_length], rfl⟩
  | succ k ih =>
    intro hk
    obtain ⟨h1, h2⟩ := ih (by omega)
    have hr := rnum_lt seed k (chTo seed n k).1.length (by omega) (by omega)
    have hr0 := (rnum_range seed k (chTo seed n k).1.length).1
    show (chStep seed k (chTo seed n k)).1.length = _ ∧ (chStep seed k (chTo seed n k)).2.length = _
    unfold chStep
    simp only [List.length_append, List.length_take, List.length_drop, List.length_singleton]
    omega
def chosen (seed total count : Int) : List Int := (chTo seed total.toNat count.toNat).2
def shuf (seed n : Int) : List Int := if inR n 0 40 then chosen seed n n else []
theorem shuf_len (seed n : Int) : (shuf seed n).length ≤ 1048576 := by
  unfold shuf
  split
  · rename_i h
    have := inR_true.1 h
    unfold chosen
    rw [(chTo_len seed n.toNat (by omega) n.toNat (Nat.le_refl _)).2]
    omega
  · simp

/-- One number struck out of an owned slice by the library. -/
theorem OwnI.cut {w : World} {B g c q i : Nat} {zs : List Int} (h : OwnI w B (some ⟨g, 0, none⟩) c zs) (hi : i < zs.length) :
    OwnI (putRow (Value.int .i64) (Sort.ahead w q) g 0 (zs.take i ++ zs.drop (i + 1) ++ List.replicate 1 0).toArray) B (some ⟨g, 0, none⟩) c (zs.take i ++ zs.drop (i + 1)) ∧ w.grownBy (putRow (Value.int .i64) (Sort.ahead w q) g 0 (zs.take i ++ zs.drop (i + 1) ++ List.replicate 1 0).toArray) (some g) := by
  rcases h.2 with ⟨hv, _⟩ | ⟨g', cap, cur, hv, hB, hg, hn, hm, hs, ht⟩
  · cases hv
  injection hv with hv _ hc
  injection hv with hv
  injection hv with hv
  subst hv hc
  have hh : (putRow (Value.int .i64) (Sort.ahead w q) g 0 (zs.take i ++ zs.drop (i + 1) ++ List.replicate 1 0).toArray).heap[g]? = some (.cells (putCells (Value.int .i64) 0 (zs.take i ++ zs.drop (i + 1) ++ List.replicate 1 0).toArray cur) 3 (0, 0)) := by
    simp [putRow, mapBlock, Sort.ahead, Array.getElem?_modify, hg, onCells]
  have hl : (zs.take i ++ zs.drop (i + 1) ++ List.replicate 1 (0 : Int)).length = zs.length := by simp; omega
  have hl2 : (zs.take i ++ zs.drop (i + 1)).length = zs.length - 1 := by simp; omega
  refine ⟨⟨by simp, .inr ⟨g, c, _, by rw [hl2], hB, hh, by omega, hm, by simp [putCells, hs], ?_⟩⟩, ?_⟩
  · have h1 := take_putCellsI cur (zs.take i ++ zs.drop (i + 1) ++ List.replicate 1 0) (by rw [hl]; omega)
    have h2 := congrArg (List.take (zs.take i ++ zs.drop (i + 1)).length) h1
    rw [List.take_take, Nat.min_eq_left (by rw [hl, hl2]; omega), ← List.map_take, List.take_left] at h2
    rw [Nat.mul_one]
    exact h2
  · refine ⟨rfl, rfl, rfl, by simp [putRow, mapBlock, Sort.ahead], fun k hk hne => ?_⟩
    have : g ≠ k := fun e => hne (by rw [e])
    simp [putRow, mapBlock, Sort.ahead, Array.getElem?_modify, this]
theorem OwnI.holds {w : World} {B g c : Nat} {zs : List Int} (h : OwnI w B (some ⟨g, 0, none⟩) c zs) : Holds (Value.int .i64) w g 0 zs.toArray ∧ zs.length ≤ c ∧ c ≤ 9223372036854775807 := by
  rcases h.2 with ⟨hv, _⟩ | ⟨g', cap, cur, hv, hB, hg, hn, hm, hs, ht⟩
  · cases hv
  injection hv with hv _ hc
  injection hv with hv
  injection hv with hv
  subst hv hc
  unfold maxLen at hm
  exact ⟨holds_of_blockI hg (by simpa using ht), hn, by omega⟩

set_option maxHeartbeats 4000000 in
set_option maxRecDepth 100000 in
theorem drawn_ok (s : Int) (n m : Nat) (w : World) (hn : n ≤ 40) (hm : m ≤ n) :
    Calls Try.prog 122 #[.int .i64 s, .int .i64 n, .int .i64 m] w (NewI w (chTo s n m).2) := by
  go_enter Try.func122, Try.ntmps122
  go_wp2
  go_loopw [7, 13] (fun v i wr => ∃ (k : Nat) (a1 : Option Addr) (c1 : Nat) (us : List Int), k ≤ n ∧ i = .int .i64 k ∧ v = .slice a1 us.length c1 ∧ Hid (us = upFrom 0 k) ∧ us.length ≤ 40 ∧ OwnI wr w.heap.size a1 c1 us ∧ Ext w wr) (fun _ i _ => n - (intOf i).toNat)
  case atStart => exact ⟨0, none, 0, [], Nat.zero_le _, rfl, rfl, rfl, by simp, OwnI.nil _ _, Ext.refl _⟩
  case round =>
    obtain ⟨k, a1, c1, us, hk, rfl, rfl, HU, hul, ho, he⟩ := hrel
    by_cases hlt : k < n
    · obtain ⟨vs, hvs⟩ : ∃ vs, Hid (vs = us ++ [(k : Int)]) := ⟨_, rfl⟩
      have HV : Hid (vs = upFrom 0 (k + 1)) := by rw [upFrom_succ, Int.zero_add, ← HU.out]; exact hvs
      have hvl : vs.length ≤ 40 := by rw [HV.out, upFrom_length]; omega
      go_wp2_with (at_builtin; refine wpList_appI _ rfl _ _ rfl w.heap.size _ _ us rfl (ho.ext ((Ext.refl wr).alloc _)) _ _ [(k : Int)] rfl (Vals.new wr [.int .i64 (k : Int)] _) vs hvs.out (by simp; omega) (by have := he.size_le; simp; omega) ?_)
      intro a3 c3 w3 o3 g3 _
      have e3 := (he.alloc (.cells (I [(k : Int)]).toArray 3)).grown g3 (fun k hk => (ho.block k hk).1)
      clear g3 ho he
      go_wp2_with fail
      go_roundw
      case rel => exact ⟨k + 1, a3, c3, vs, by omega, by go_num, rfl, HV, hvl, o3, e3⟩
      case measure => simp [intOf]; omega
    · obtain rfl : k = n := by omega
      go_wp2_with fail
      go_loopw [7, 8, 22] (fun v u i wr => ∃ (j : Nat) (a2 : Option Addr) (c2 : Nat) (us : List Int) (a3 : Option Addr) (c3 : Nat) (vs : List Int), j ≤ m ∧ i = .int .i64 j ∧ v = .slice a2 us.length c2 ∧ u = .slice a3 vs.length c3 ∧ Hid (chTo s k j = (us, vs)) ∧ us.length ≤ 40 ∧ vs.length ≤ 40 ∧ OwnI wr w.heap.size a2 c2 us ∧ OwnI wr w.heap.size a3 c3 vs ∧ Apart a2 a3 ∧ Ext w wr) (fun _ _ i _ => m - (intOf i).toNat)
      case atStart => exact ⟨0, a1, c1, us, none, 0, [], Nat.zero_le _, rfl, rfl, rfl, by rw [HU.out]; exact Lib.hid rfl, hul, by simp, ho, OwnI.nil _ _, fun k _ h2 => by simp [blockOf] at h2, he⟩
      case round =>
        clear ho he
        obtain ⟨j, a2, c2, us, a3, c3, vs, hj, rfl, rfl, rfl, HC, hul, hvl, ho, ho3, hap, he⟩ := hrel
        by_cases hjm : j < m
        · have hlen := chTo_len s k hn j (by omega)
          rw [HC.out] at hlen
          have hpos : 1 ≤ us.length := by simp only at hlen; omega
          obtain ⟨g, rfl, g1, g2, g3⟩ := (OI.of ho).form hpos
          have hr := rnum_lt s j us.length (by omega) (by omega)
          obtain ⟨t, htt⟩ := Int.eq_ofNat_of_zero_le (rnum_range s j us.length).1
          have HT := Lib.hid htt
          rw [htt] at hr
          have ht : t < us.length := by omega
          have C1 := Lib.hid (fun W => implRandomNumber_ok s j us.length W)
          rw [htt] at C1
          obtain ⟨x, hx⟩ : ∃ x, Hid (us[t]? = some x) := ⟨_, List.getElem?_eq_getElem ht⟩
          have HS : Hid (chTo s k (j + 1) = (us.take t ++ us.drop (t + 1), vs ++ [x])) := by
            show chStep s j (chTo s k j) = _
            rw [HC.out]
            unfold chStep
            simp only
            rw [HT.out, Int.toNat_natCast, List.getD_eq_getElem?_getD, hx.out]
            rfl
          obtain ⟨ys, hys⟩ : ∃ ys, Hid (ys = vs ++ [x]) := ⟨_, rfl⟩
          obtain ⟨zs, hzs⟩ : ∃ zs, Hid (zs = us.take t ++ us.drop (t + 1)) := ⟨_, rfl⟩
          rw [← hys.out, ← hzs.out] at HS
          have hyl : ys.length ≤ 40 := by rw [hys.out]; simp only at hlen; simp; omega
          have hzl : Hid (zs.length = us.length - 1) := by rw [hzs.out]; exact Lib.hid (by simp; omega)
          have hzl2 : zs.length ≤ 40 := by rw [hzl.out]; omega
          have i1 : (t : Int) < (us.length : Int) := by omega
          have HA := Lib.hid hap
          clear hlen htt hap
          go_wp2_with fail
          (with_reducible refine (C1.out _).mono ?_)
          rintro e w2 ⟨rfl, e2⟩
          have o2 := ho.ext e2
          have o32 := ho3.ext e2
          have he2 := he.trans e2
          have hc2 := (OI.of o2).cellAt hx.out
          clear ho ho3
          go_wp2_with (at_builtin; refine wpList_appI _ rfl _ _ rfl w.heap.size _ _ vs rfl (o32.ext ((Ext.refl w2).alloc _)) _ _ [x] rfl (Vals.new w2 [.int .i64 x] _) ys hys.out (by simp; omega) (by have := he2.size_le; simp; omega) ?_)
          intro a4 c4 w4 o4 g4 b4
          have e4 := (he2.alloc (.cells (I [x]).toArray 3)).grown g4 (fun k hk => (o32.block k hk).1)
          have o24 := (o2.ext ((Ext.refl w2).alloc (.cells (I [x]).toArray 3))).kept g4 (.inr (fun e => HA.out g rfl e.symm))
          have hap4 : Hid (Apart (some ⟨g, 0, none⟩) a4) := fun q h1 h2 => by
            obtain rfl : g = q := by simpa [blockOf] using h1
            rcases b4 with b4 | b4
            · rw [b4] at h2
              exact HA.out g rfl h2
            · rw [b4] at h2
              have := (o2.block g rfl).2
              simp at h2
              omega
          have HH := o24.holds
          have C5 := Try.slices_Delete_int g 0 c2 t (t + 1) us w4 HH.1 HH.2.1 HH.2.2 (by omega) (by omega)
          rw [show t + 1 - t = 1 by omega, show ((t + 1 : Nat) : Int) = (t : Int) + 1 by omega] at C5
          have C6 := Lib.hid C5
          have O24 := Lib.hid o24
          have z4 := he2.size_le
          clear g4 b4 hc2 o2 o32 HH C5 o24
          go_wp2_with fail
          (with_reducible refine C6.out.mono ?_)
          rintro e w5 ⟨rfl, q, hw5⟩
          obtain ⟨oc, gc⟩ := O24.out.cut (q := q) (i := t) ht
          rw [← hw5] at oc gc
          clear hw5
          rw [← hzs.out] at oc
          rw [← hzl.out]
          have o45 := o4.kept gc (.inr (fun e => hap4.out g rfl e))
          have e5 := e4.grown gc (fun k hk => by injection hk with hk; omega)
          have HAP := hap4
          clear gc O24 C6 o4 e4 hap4
          go_wp2_with fail
          go_roundw
          case rel => exact ⟨j + 1, some ⟨g, 0, none⟩, c2, zs, a4, c4, ys, by omega, by go_num, rfl, rfl, HS, hzl2, hyl, oc, o45, HAP.out, e5⟩
          case measure => simp [intOf]; omega
        · obtain rfl : j = m := by omega
          have HV : Hid ((chTo s k j).2 = vs) := by rw [HC.out]; exact Lib.hid rfl
          go_wp2_with fail
          go_ret
          rw [HV.out]
          exact ⟨a3, c3, rfl, ho3, he⟩

theorem implShuffle_ok (s n : Int) (w : World) : Calls Try.prog 57 #[.int .i64 s, .int .i64 n] w (NewI w (shuf s n)) := by
  cases h1 : inR n 0 40
  · have HN : Hid (shuf s n = []) := by unfold shuf; rw [h1]; exact Lib.hid rfl
    go_enter Try.func57, Try.ntmps57
    go_wp2_with (go_at_call 119; refine (implInRange_ok _ _ _ _).mono ?_; rintro e w' ⟨rfl, rfl⟩)
    go_ret
    rw [HN.out]
    exact ⟨none, 0, rfl, OwnI.nil _ _, Ext.refl _⟩
  · obtain ⟨n0, n1⟩ := inR_true.1 h1
    obtain ⟨n, rfl⟩ := Int.eq_ofNat_of_zero_le n0
    have HN : Hid (shuf s (n : Int) = (chTo s n n).2) := by unfold shuf chosen; rw [h1, Int.toNat_natCast]; exact Lib.hid rfl
    have C1 := Lib.hid (drawn_ok s n n w (by omega) (Nat.le_refl _))
    go_enter Try.func57, Try.ntmps57
    go_wp2_with (first
      | (go_at_call 119; refine (implInRange_ok _ _ _ _).mono ?_; rintro e w' ⟨rfl, rfl⟩)
      | (go_at_call 122; (with_reducible refine C1.out.mono ?_); rintro e w2 ⟨a2, c2, rfl, o2, e2⟩))
    go_ret
    rw [HN.out]
    exact ⟨a2, c2, rfl, o2, e2⟩

theorem step_appIn {ops : Array Oper} {o : Oper} {a : Act} {K : Act → World → Prop} {Q : Exit → Act → World → Prop} {E : Prop} (w : World) (hgd : o.guard = none) (s x : Operand)
    (ho : o.op = .call { callee := .builtin .append, args := #[s, x], argTypes := #[36, 36] })
    (B : Nat) (a0 : Option Addr) (c k : Nat) (xs : List Int) (hk : Hid (xs.length = k)) (hs : a.eval s = .slice a0 k c) (hown : OwnI w B a0 c xs)
    (A : Option Addr) (d n : Nat) (news : List Int) (hn : Hid (news.length = n)) (hx : a.eval x = .slice A n d) (hv : Vals w A (I news))
    (ys : List Int) (hy : ys = xs ++ news) (h63 : xs.length + news.length ≤ 1099511627776) (hbase : B ≤ w.heap.size)
    (h : ∀ a' c' w', OwnI w' B a' c' ys → w.grownBy w' (blockOf a0) → (blockOf a' = blockOf a0 ∨ blockOf a' = some w.heap.size) → K (a.put o.dst (.slice a' ys.length c')) w') :
    if Region.wanted o (yielded ops a.tmps) = true then Oper.wp Try.prog o a w K Q else E := by
  obtain rfl := hn.out
  obtain rfl := hk.out
  exact step_appI w hgd s x ho B a0 c xs hs hown A d news hx hv ys hy h63 hbase h

theorem Vals.takeI {w : World} {a : Option Addr} {xs : List Int} (h : Vals w a (I xs)) (k : Nat) : Vals w a (I (xs.take k)) := fun i hi => by
  have hi' : i < xs.length := by simp at hi; omega
  obtain ⟨b, o, h1, h2⟩ := h i (by simpa using hi')
  exact ⟨b, o, h1, by rw [h2]; simp⟩
theorem Vals.dropI {w : World} {g o : Nat} {xs : List Int} (h : Vals w (some ⟨g, o, none⟩) (I xs)) (k : Nat) : Vals w (some ⟨g, o + k, none⟩) (I (xs.drop k)) := fun i hi => by
  have hi' : k + i < xs.length := by simp at hi; omega
  obtain ⟨b, o', h1, h2⟩ := h (k + i) (by simpa using hi')
  injection h1 with h1
  injection h1 with h1 h1'
  subst h1 h1'
  exact ⟨g, o + k, rfl, by rw [Nat.add_assoc, h2]; simp⟩

set_option maxHeartbeats 4000000 in
set_option maxRecDepth 100000 in
theorem choose_ok (s : Int) (n m : Nat) (w : World) (hn : n ≤ 40) (hm : m ≤ n) :
    Calls Try.prog 121 #[.int .i64 s, .int .i64 n, .int .i64 m] w (NewI w (chTo s n m).2) := by
  have o0 := OwnI.new w w.heap.size [] (Nat.le_refl _) (by simp)
  have e0 := (Ext.refl w).alloc (.cells (I []).toArray 3)
  have O0 := Lib.hid o0
  have E0 := Lib.hid e0
  clear o0 e0
  go_enter Try.func121, Try.ntmps121
  go_wp2
  go_loopw [7, 8] (fun v i wr => ∃ (k : Nat) (a1 : Option Addr) (c1 : Nat) (us : List Int), k ≤ n ∧ i = .int .i64 k ∧ v = .slice a1 us.length c1 ∧ Hid (us = upFrom 0 k) ∧ us.length ≤ 40 ∧ OwnI wr w.heap.size a1 c1 us ∧ Ext w wr) (fun _ i _ => n - (intOf i).toNat)
  case atStart => exact ⟨0, _, _, [], Nat.zero_le _, rfl, rfl, rfl, by simp, O0.out, E0.out⟩
  case round =>
    clear O0 E0
    obtain ⟨k, a1, c1, us, hk, rfl, rfl, HU, hul, ho, he⟩ := hrel
    by_cases hlt : k < n
    · obtain ⟨vs, hvs⟩ : ∃ vs, Hid (vs = us ++ [(k : Int)]) := ⟨_, rfl⟩
      have HV : Hid (vs = upFrom 0 (k + 1)) := by rw [upFrom_succ, Int.zero_add, ← HU.out]; exact hvs
      have hvl : vs.length ≤ 40 := by rw [HV.out, upFrom_length]; omega
      go_wp2_with (at_builtin; refine wpList_appI _ rfl _ _ rfl w.heap.size _ _ us rfl (ho.ext ((Ext.refl wr).alloc _)) _ _ [(k : Int)] rfl (Vals.new wr [.int .i64 (k : Int)] _) vs hvs.out (by simp; omega) (by have := he.size_le; simp; omega) ?_)
      intro a3 c3 w3 o3 g3 _
      have e3 := (he.alloc (.cells (I [(k : Int)]).toArray 3)).grown g3 (fun k hk => (ho.block k hk).1)
      clear g3 ho he
      go_wp2_with fail
      go_roundw
      case rel => exact ⟨k + 1, a3, c3, vs, by omega, by go_num, rfl, HV, hvl, o3, e3⟩
      case measure => simp [intOf]; omega
    · obtain rfl : k = n := by omega
      have oB := (OwnI.new wr wr.heap.size [] (Nat.le_refl _) (by simp)).more he.size_le
      have eB := he.alloc (.cells (I []).toArray 3)
      have oA := ho.ext ((Ext.refl wr).alloc (.cells (I []).toArray 3))
      have apAB : Apart a1 (some ⟨wr.heap.size, 0, none⟩) := fun q h1 h2 => by
        have := (ho.block q h1).2
        simp [blockOf] at h2
        omega
      have OA := Lib.hid oA
      have OB' := Lib.hid oB
      have EB := Lib.hid eB
      have AB := Lib.hid apAB
      clear oA oB eB apAB
      go_wp2_with fail
      go_loopw [7, 9, 10] (fun v u i wr => ∃ (j : Nat) (a2 : Option Addr) (c2 : Nat) (us : List Int) (a3 : Option Addr) (c3 : Nat) (vs : List Int), j ≤ m ∧ i = .int .i64 j ∧ v = .slice a2 us.length c2 ∧ u = .slice a3 vs.length c3 ∧ Hid (chTo s k j = (us, vs)) ∧ us.length ≤ 40 ∧ vs.length ≤ 40 ∧ OwnI wr w.heap.size a2 c2 us ∧ OwnI wr w.heap.size a3 c3 vs ∧ Apart a2 a3 ∧ Ext w wr) (fun _ _ i _ => m - (intOf i).toNat)
      case atStart => exact ⟨0, a1, c1, us, _, _, [], Nat.zero_le _, rfl, rfl, rfl, by rw [HU.out]; exact Lib.hid rfl, hul, by simp, OA.out, OB'.out, AB.out, EB.out⟩
      case round =>
        clear ho he OA OB' AB EB
        obtain ⟨j, a2, c2, us, a3, c3, vs, hj, rfl, rfl, rfl, HC, hul, hvl, ho, ho3, hap, he⟩ := hrel
        by_cases hjm : j < m
        · have hlen := chTo_len s k hn j (by omega)
          rw [HC.out] at hlen
          have hpos : 1 ≤ us.length := by simp only at hlen; omega
          obtain ⟨g, rfl, g1, g2, g3⟩ := (OI.of ho).form hpos
          have hr := rnum_lt s j us.length (by omega) (by omega)
          obtain ⟨t, htt⟩ := Int.eq_ofNat_of_zero_le (rnum_range s j us.length).1
          have HT := Lib.hid htt
          rw [htt] at hr
          have ht : t < us.length := by omega
          have C1 := Lib.hid (fun W => specRandomNumber_ok s j us.length W)
          rw [htt] at C1
          obtain ⟨x, hx⟩ : ∃ x, Hid (us[t]? = some x) := ⟨_, List.getElem?_eq_getElem ht⟩
          have HS : Hid (chTo s k (j + 1) = (us.take t ++ us.drop (t + 1), vs ++ [x])) := by
            show chStep s j (chTo s k j) = _
            rw [HC.out]
            unfold chStep
            simp only
            rw [HT.out, Int.toNat_natCast, List.getD_eq_getElem?_getD, hx.out]
            rfl
          obtain ⟨ys, hys⟩ : ∃ ys, Hid (ys = vs ++ [x]) := ⟨_, rfl⟩
          obtain ⟨zs, hzs⟩ : ∃ zs, Hid (zs = us.take t ++ us.drop (t + 1)) := ⟨_, rfl⟩
          rw [← hys.out, ← hzs.out] at HS
          have hyl : ys.length ≤ 40 := by rw [hys.out]; simp only at hlen; simp; omega
          have hzl : Hid (zs.length = us.length - 1) := by rw [hzs.out]; exact Lib.hid (by simp; omega)
          have hzl2 : zs.length ≤ 40 := by rw [hzl.out]; omega
          have i1 : (t : Int) < (us.length : Int) := by omega
          have HA := Lib.hid hap
          clear hlen htt hap
          go_wp2_with fail
          (with_reducible refine (C1.out _).mono ?_)
          rintro e w2 ⟨rfl, e2⟩
          have o2 := ho.ext e2
          have o32 := ho3.ext e2
          have he2 := he.trans e2
          have hc2 := (OI.of o2).cellAt hx.out
          clear ho ho3
          go_wp2_with (at_builtin; refine wpList_appI _ rfl _ _ rfl w.heap.size _ _ vs rfl (o32.ext ((Ext.refl w2).alloc _)) _ _ [x] rfl (Vals.new w2 [.int .i64 x] _) ys hys.out (by simp; omega) (by have := he2.size_le; simp; omega) ?_)
          intro a4 c4 w4 o4 g4 b4
          have e4 := (he2.alloc (.cells (I [x]).toArray 3)).grown g4 (fun k hk => (o32.block k hk).1)
          have o24 := (o2.ext ((Ext.refl w2).alloc (.cells (I [x]).toArray 3))).kept g4 (.inr (fun e => HA.out g rfl e.symm))
          have HH := o24.holds.2.1
          have gl := (o24.block g rfl).2
          have O24 := Lib.hid o24
          have O4 := Lib.hid o4
          have z4 := e4.size_le
          clear g4 b4 hc2 o2 o32 o24
          have i2 : (t : Int) ≤ (c2 : Int) := by omega
          have i3 : (t : Int) + 1 ≤ (us.length : Int) := by omega
          have i4 : (us.length : Int) ≤ (c2 : Int) := by omega
          have hw1 : IntKind.i64.wrap ((t : Int) + 1) = (t : Int) + 1 := by rw [IntKind.wrap_i64]; omega
          have hw2 : ((t : Int) + 1).toNat = t + 1 := by omega
          have hw3 : (0 : Int) ≤ (t : Int) + 1 := by omega
          have hw4 : (t : Int) + 1 ≤ (c2 : Int) := by omega
          obtain ⟨ps, hps⟩ : ∃ ps, Hid (ps = us.take t) := ⟨_, rfl⟩
          obtain ⟨ds, hds⟩ : ∃ ds, Hid (ds = us.drop (t + 1)) := ⟨_, rfl⟩
          have hpl : Hid (ps.length = t) := by rw [hps.out]; exact Lib.hid (by simp; omega)
          have hdl : Hid (ds.length = us.length - (t + 1)) := by rw [hds.out]; exact Lib.hid (by simp)
          have hz2 : Hid (zs = ps ++ ds) := by rw [hps.out, hds.out]; exact hzs
          have hb1 : ps.length + ds.length ≤ 1099511627776 := by rw [hpl.out, hdl.out]; omega
          have hb0 : ([] : List Int).length + ps.length ≤ 1099511627776 := by rw [hpl.out]; simp; omega
          have VP : Hid (∀ W : World, OwnI W w.heap.size (some ⟨g, 0, none⟩) c2 us → Vals W (some ⟨g, 0, none⟩) (I ps)) := fun W hW => by rw [hps.out]; exact hW.vals.takeI t
          have W0 : Ext w4 ((w4.alloc (.cells #[] 3)).drew) := ((Ext.refl w4).alloc _).drew
          have VP0 := Lib.hid (VP.out _ (O24.out.ext W0))
          have N0 : Hid (OwnI ((w4.alloc (.cells #[] 3)).drew) w.heap.size (some ⟨w4.heap.size, 0, none⟩) 0 []) := ((OwnI.new w4 w4.heap.size [] (Nat.le_refl _) (by simp)).ext (Ext.refl _).drew).more z4
          have hsz0 : w.heap.size ≤ ((w4.alloc (.cells #[] 3)).drew).heap.size := by simp; omega
          have ng : Hid (blockOf (some (⟨g, 0, none⟩ : Addr)) ≠ blockOf (some (⟨w4.heap.size, 0, none⟩ : Addr))) := Lib.hid (by simp [blockOf]; omega)
          have hform : (c2 = t + 1 ∧ Hid (∀ W : World, OwnI W w.heap.size (some ⟨g, 0, none⟩) c2 us → Vals W (some ⟨g, 0, none⟩) (I ds))) ∨ (¬ c2 = t + 1 ∧ Hid (∀ W : World, OwnI W w.heap.size (some ⟨g, 0, none⟩) c2 us → Vals W (some ⟨g, t + 1, none⟩) (I ds))) := by
            by_cases e : c2 = t + 1
            · refine .inl ⟨e, fun W hW => ?_⟩
              have : ds = [] := List.eq_nil_of_length_eq_zero (by rw [hdl.out]; omega)
              rw [this]
              exact Vals.nil _ _
            · refine .inr ⟨e, fun W hW => ?_⟩
              rw [hds.out]
              have := hW.vals.dropI (t + 1)
              rw [Nat.zero_add] at this
              exact this
          rcases hform with ⟨hce, VD⟩ | ⟨hce, VD⟩
          rotate_left
          · go_wp2_with fail
            go_region_held3 (fun _ => True) (trivial)
              (first
                | (refine step_appIn _ (by rfl) _ _ (by rfl) w.heap.size _ _ _ ps (Lib.hid rfl) (by rfl) o5 _ _ (us.length - (t + 1)) ds hdl (by rfl) VD5 zs hz2.out hb1 hsz5 ?_; intro a6 c6 w6 o6 g6 b6)
                | (refine step_appIn _ (by rfl) _ _ (by rfl) w.heap.size _ _ 0 [] (Lib.hid rfl) (by rfl) N0.out _ _ t ps hpl (by rfl) VP0.out ps (List.nil_append ps).symm hb0 hsz0 ?_; intro a5 c5 w5 o5 g5 b5; have VD5 := VD.out _ ((O24.out.ext W0).kept g5 (.inr ng.out)); have hsz5 := Nat.le_trans hsz0 g5.size))
            have q5 : ∀ q, blockOf a5 = some q → w4.heap.size ≤ q := fun q hq => by
              rcases b5 with b5 | b5
              · rw [b5] at hq
                simp [blockOf] at hq
                omega
              · rw [b5] at hq
                simp at hq
                omega
            have z5 := g5.size
            have q6 : ∀ q, blockOf a6 = some q → w4.heap.size ≤ q := fun q hq => by
              rcases b6 with b6 | b6
              · rw [b6] at hq
                exact q5 q hq
              · rw [b6] at hq
                simp at hq z5
                omega
            have e5 := (e4.trans W0).grown g5 (fun q hq => by simp [blockOf] at hq; omega)
            have e6 := e5.grown g6 (fun q hq => (o5.block q hq).1)
            have n4 : ∀ q, blockOf a4 = some q → q < w4.heap.size := fun q hq => (O4.out.block q hq).2
            have o45 := (O4.out.ext W0).kept g5 (by
              cases hb : blockOf a4 with
              | none => exact .inl rfl
              | some q => exact .inr (by have := n4 q hb; simp [blockOf]; omega))
            have o46 := o45.kept g6 (by
              cases hb : blockOf a4 with
              | none => exact .inl rfl
              | some q => exact .inr (fun e => by have := n4 q hb; have := q5 q e.symm; omega))
            have ap6 : Apart a6 a4 := fun q h1 h2 => by have := q6 q h1; have := n4 q h2; omega
            clear g5 g6 o5 b5 b6 o45 VD5
            go_wp2_with fail
            go_roundw
            case rel => exact ⟨j + 1, a6, c6, zs, a4, c4, ys, by omega, by go_num, rfl, rfl, HS, hzl2, hyl, o6, o46, ap6, e6⟩
            case measure => simp [intOf]; omega
          · have hdl0 : Hid (ds.length = 0) := by rw [hdl.out]; exact Lib.hid (by omega)
            subst hce
            have j0 : (0 : Int) ≤ (t : Int) := by omega
            have j1 : (t : Int) ≤ ((t + 1 : Nat) : Int) := by omega
            have j2 : (t : Int) ≤ (t : Int) + 1 := by omega
            have j3 : t ≤ t + 1 := by omega
            have j4 : ((t : Int) ≤ ((t + 1 : Nat) : Int)) = True := eq_true j1
            go_wp2_with fail
            go_region_held3 (fun _ => True) (trivial)
              (first
                | (refine step_appIn _ (by rfl) _ _ (by rfl) w.heap.size _ _ _ ps (Lib.hid rfl) (by rfl) o5 _ _ 0 ds hdl0 (by rfl) VD5 zs hz2.out hb1 hsz5 ?_; intro a6 c6 w6 o6 g6 b6)
                | (refine step_appIn _ (by rfl) _ _ (by rfl) w.heap.size _ _ _ ps (Lib.hid rfl) (by rfl) o5 _ _ (us.length - (t + 1)) ds hdl (by rfl) VD5 zs hz2.out hb1 hsz5 ?_; intro a6 c6 w6 o6 g6 b6)
                | (refine step_appIn _ (by rfl) _ _ (by rfl) w.heap.size _ _ 0 [] (Lib.hid rfl) (by rfl) N0.out _ _ t ps hpl (by rfl) VP0.out ps (List.nil_append ps).symm hb0 hsz0 ?_; intro a5 c5 w5 o5 g5 b5; have VD5 := VD.out _ ((O24.out.ext W0).kept g5 (.inr ng.out)); have hsz5 := Nat.le_trans hsz0 g5.size))
            have q5 : ∀ q, blockOf a5 = some q → w4.heap.size ≤ q := fun q hq => by
              rcases b5 with b5 | b5
              · rw [b5] at hq
                simp [blockOf] at hq
                omega
              · rw [b5] at hq
                simp at hq
                omega
            have z5 := g5.size
            have q6 : ∀ q, blockOf a6 = some q → w4.heap.size ≤ q := fun q hq => by
              rcases b6 with b6 | b6
              · rw [b6] at hq
                exact q5 q hq
              · rw [b6] at hq
                simp at hq z5
                omega
            have e5 := (e4.trans W0).grown g5 (fun q hq => by simp [blockOf] at hq; omega)
            have e6 := e5.grown g6 (fun q hq => (o5.block q hq).1)
            have n4 : ∀ q, blockOf a4 = some q → q < w4.heap.size := fun q hq => (O4.out.block q hq).2
            have o45 := (O4.out.ext W0).kept g5 (by
              cases hb : blockOf a4 with
              | none => exact .inl rfl
              | some q => exact .inr (by have := n4 q hb; simp [blockOf]; omega))
            have o46 := o45.kept g6 (by
              cases hb : blockOf a4 with
              | none => exact .inl rfl
              | some q => exact .inr (fun e => by have := n4 q hb; have := q5 q e.symm; omega))
            have ap6 : Apart a6 a4 := fun q h1 h2 => by have := q6 q h1; have := n4 q h2; omega
            clear g5 g6 o5 b5 b6 o45 VD5
            go_wp2_with fail
            go_roundw
            case rel => exact ⟨j + 1, a6, c6, zs, a4, c4, ys, by omega, by go_num, rfl, rfl, HS, hzl2, hyl, o6, o46, ap6, e6⟩
            case measure => simp [intOf]; omega
        · obtain rfl : j = m := by omega
          have HV : Hid ((chTo s k j).2 = vs) := by rw [HC.out]; exact Lib.hid rfl
          go_wp2_with fail
          go_ret
          rw [HV.out]
          exact ⟨a3, c3, rfl, ho3, he⟩

end Go.Proofs.Ytninamlcffemoaa
