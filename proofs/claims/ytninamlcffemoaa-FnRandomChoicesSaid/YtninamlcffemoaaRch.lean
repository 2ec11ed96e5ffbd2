/- FnRandomChoices: the draw; the law. -/
import Derived.Test.YtninamlcffemoaaSpv
import Derived.Test.YtninamlcffemoaaSame
import Derived.Test.YtninamlcffemoaaDrw
import Derived.Test.YtninamlcffemoaaRanB
namespace Go.Proofs.Ytninamlcffemoaa
open Go.RowKit
set_option linter.unusedVariables false
set_option maxRecDepth 20000

/-- Three numbers are drawn, the second and the third small. -/
def D3 (w : World) (e : Ending) (w' : World) : Prop := ∃ s n m : Int, e = .returned (.tuple #[.int .i64 s, .int .i64 n, .int .i64 m]) ∧ (-1 ≤ n ∧ n ≤ 41 ∧ -1 ≤ m ∧ m ≤ 42) ∧ Ext w w'

set_option maxHeartbeats 1000000 in
theorem l13Three_ok (a : Option Addr) (c : Nat) (bs : List Int) (w : World) (h : Vals w a (Y bs)) (hb : ∀ x ∈ bs, 0 ≤ x ∧ x ≤ 255) (hl : bs.length ≤ 1048576) :
    Calls Try.prog 125 #[.slice a bs.length c] w (D3 w) := by
  have C1 := Lib.hid (l1New_ok a c bs w h hb hl)
  have CB := Lib.hid (fun W n g (hW : Cur W g a c bs) (hn : n ≤ 1000000000) => l1Below_ok g a c bs n W hW hn)
  have CI := Lib.hid (fun g => l1Int_ok g a c bs)
  clear h hb
  go_enter Try.func125, Try.ntmps125
  go_wp2_with fail
  (with_reducible refine C1.out.mono ?_)
  rintro e w1 ⟨rfl, k1, e1⟩
  obtain ⟨g, hgg⟩ : ∃ g, w.heap.size = g := ⟨_, rfl⟩
  rw [hgg] at k1 ⊢
  go_wp2_with fail
  (with_reducible refine (CB.out _ _ _ k1 (by omega)).mono ?_)
  rintro e w2 ⟨s, rfl, x0, x1, k2, s2⟩
  have hg2 := k2.lt
  have LV := Lib.hid (lit_span (w := w2) (g := g) hg2 [-1, 0, 1, 4, 9, 40, 41] 3)
  have KL := Lib.hid (k2.ext ((Ext.refl w2).alloc (.cells (I [-1, 0, 1, 4, 9, 40, 41]).toArray 3)))
  have E2 := Lib.hid ((Span.ext e1 s2 (by omega)).alloc (.cells (I [-1, 0, 1, 4, 9, 40, 41]).toArray 3))
  clear k1 k2 s2 e1
  go_wp2_with fail
  refine (CI.out g (some ⟨w2.heap.size, 0, none⟩) 7 [-1, 0, 1, 4, 9, 40, 41] _ KL.out LV.out (by simp) (by simp)).mono ?_
  rintro e w3 ⟨n, rfl, hn, k3, s3⟩
  have hn2 : -1 ≤ n ∧ n ≤ 41 := by simp at hn; omega
  have hg3 := k3.lt
  have LV2 := Lib.hid (lit_span (w := w3) (g := g) hg3 [-1, 0, 1, 2, n, n + 1] 3)
  have KL2 := Lib.hid (k3.ext ((Ext.refl w3).alloc (.cells (I [-1, 0, 1, 2, n, n + 1]).toArray 3)))
  have E3 := Lib.hid ((Span.ext E2.out s3 (by omega)).alloc (.cells (I [-1, 0, 1, 2, n, n + 1]).toArray 3))
  obtain ⟨n0, n1⟩ := hn2
  clear k3 s3 hn LV KL E2
  go_wp2_with fail
  refine (CI.out g (some ⟨w3.heap.size, 0, none⟩) 6 [-1, 0, 1, 2, n, n + 1] _ KL2.out LV2.out (by simp) (by simp)).mono ?_
  rintro e w4 ⟨m, rfl, hm, k4, s4⟩
  have hm2 : -1 ≤ m ∧ m ≤ 42 := by simp at hm; omega
  have E4 := Span.ext E3.out s4 (by omega)
  clear k4 s4 hm LV2 KL2 E3
  go_wp2_with fail
  go_ret3
  exact ⟨s, n, m, rfl, ⟨n0, n1, hm2⟩, E4⟩

theorem drawSubset_ok (a : Option Addr) (c : Nat) (bs : List Int) (w : World) (h : Vals w a (Y bs)) (hb : ∀ x ∈ bs, 0 ≤ x ∧ x ≤ 255) (hl : bs.length ≤ 1048576) :
    Calls Try.prog 65 #[.slice a bs.length c] w (D3 w) := by
  have C1 := Lib.hid (l13Three_ok a c bs w h hb hl)
  clear h hb
  go_enter Try.func65, Try.ntmps65
  go_wp2_with fail
  (with_reducible refine C1.out.mono ?_)
  rintro e w1 ⟨s, n, m, rfl, hh, e1⟩
  go_wp2_with fail
  go_ret3
  exact ⟨s, n, m, rfl, hh, e1⟩

theorem strict_at {l : List Int} (h : l.Pairwise (fun a b => a < b)) {k : Nat} {x y : Int} (hx : l[k]? = some x) (hy : l[k + 1]? = some y) : x < y := by
  obtain ⟨h1, rfl⟩ := List.getElem?_eq_some_iff.1 hx
  obtain ⟨h2, rfl⟩ := List.getElem?_eq_some_iff.1 hy
  exact List.pairwise_iff_getElem.1 h k (k + 1) h1 h2 (by omega)
theorem rvec_lead {s : Int} {n : Nat} (h : inR (n : Int) 1 40 = true) : 0 ≤ leadI (rvec s n) := by
  unfold rvec
  rw [h]
  simp only [if_true, Int.toNat_natCast]
  have hn := inR_true.1 h
  unfold orUnit
  split
  · rename_i h0
    have hl : 0 < (rvTo s n).length := by rw [rvTo_length]; omega
    rw [leadI_ld]
    have : ld ((rvTo s n).set 0 1) = 0 := ld_eq (by unfold ent; rw [List.getD_eq_getElem?_getD, List.getElem?_set_self hl]; simp) (fun j hj => by omega)
    rw [this, if_pos (by rw [List.length_set]; exact hl)]
    omega
  · omega
theorem rb_dim (s : Int) (n : Nat) (m : Nat) (hn : 1 ≤ n ∧ n ≤ 40) (hm : m ≤ n) : dimB (rbW n) (rbB s n m) ≤ (m : Int) := by
  unfold dimB
  split
  · have h : inR (n : Int) 1 40 = true := inR_true.2 (by omega)
    unfold rbB
    rw [if_pos h]
    unfold spanR
    split
    · have : ∀ (vs : List (List Int)) (q k : Nat), (spanTo vs q k).length ≤ k := by
        intro vs q k
        induction k with
        | zero => simp [spanTo]
        | succ k ih =>
          unfold spanTo
          split
          · have := insM_le (spanTo vs q k) (vs.getD k []); omega
          · omega
      have h1 := this (rbS s n (rbK m)) n (rbS s n (rbK m)).length
      rw [rbS_length] at h1
      have h2 : rbK (m : Int) = m := by unfold rbK; rw [if_neg (by omega)]; omega
      rw [h2] at h1
      simp only [Int.toNat_natCast, h2, rbS_length] at *
      omega
    · simp
  · omega

theorem sbs_no {s n m : Int} (h : inR n 0 40 = false ∨ inR m 0 n = false) : sbs s n m = [] := by
  unfold sbs
  rcases h with h | h <;> rw [h] <;> simp
theorem shuf_yes {s : Int} {n : Nat} (h : n ≤ 40) : shuf s n = (chTo s n n).2 := by
  unfold shuf chosen
  rw [if_pos (inR_true.2 (by omega))]
  rfl

set_option maxHeartbeats 4000000 in
set_option maxRecDepth 100000 in
theorem lawFnRandomChoices (a : Option Addr) (c : Nat) (xs : List Int) (w : World) (r0 : Vals w a (Y xs)) (m0 : xs.length ≤ maxLen) (m1 : ∀ x ∈ xs, 0 ≤ x ∧ x ≤ 255) :
    Calls Try.prog 13 #[.slice a xs.length c] w (Gives w (.bool true)) := by
  by_cases hl : xs.length ≤ 1048576
  rotate_left
  · have C1 := Lib.hid (big_yes a c xs w hl m0)
    clear r0 m1 hl m0
    go_enter Try.func13, Try.ntmps13
    go_wp2_with (go_at_call 23; (with_reducible refine C1.out.mono ?_); rintro e w' ⟨rfl, rfl⟩)
    go_ret
    exact ⟨rfl, Ext.refl _⟩
  have C1 := Lib.hid (big_no a c xs w hl)
  have CD := Lib.hid (drawSubset_ok a c xs w r0 m1 hl)
  clear r0 m1 hl m0
  go_enter Try.func13, Try.ntmps13
  go_wp2_with (go_at_call 23; (with_reducible refine C1.out.mono ?_); rintro e w' ⟨rfl, rfl⟩)
  (with_reducible refine CD.out.mono ?_)
  rintro e w1 ⟨s, n, m, rfl, ⟨b1, b2, b3, b4⟩, e1⟩
  have CR := Lib.hid (implRandomSubset_ok s n m w1)
  clear CD C1
  by_cases hin : 0 ≤ n ∧ n ≤ 40 ∧ 0 ≤ m ∧ m ≤ n
  rotate_left
  · have HE : Hid (sbs s n m = [] ∧ spv s n m = []) := by
      have : inR n 0 40 = false ∨ inR m 0 n = false := by
        by_cases h : inR n 0 40 = true
        · have := inR_true.1 h
          exact .inr (inR_false.2 (by omega))
        · exact .inl (by simpa using h)
      refine ⟨sbs_no this, spv_no ?_⟩
      rcases this with h | h
      · exact .inl (inR_false.2 (by have := inR_false.1 h; omega))
      · exact .inr (inR_false.2 (by have := inR_false.1 h; omega))
    rw [HE.out.1] at CR
    have CS := Lib.hid (fun W => implSparseVector_ok s n m W)
    rw [HE.out.2] at CS
    have h4 : n < 0 ∨ (¬ n < 0 ∧ 40 < n) ∨ (¬ n < 0 ∧ ¬ 40 < n ∧ m < 0) ∨ (¬ n < 0 ∧ ¬ 40 < n ∧ ¬ m < 0 ∧ n < m) := by omega
    clear hin
    go_wp2_with fail
    (with_reducible refine CR.out.mono ?_)
    rintro e w2 ⟨a2, c2, rfl, o2, e2⟩
    have E2 := e1.trans e2
    clear e1 e2 o2 CR
    rcases h4 with h | ⟨h, h'⟩ | ⟨h, h', h''⟩ | ⟨h, h', h'', h3⟩
    all_goals
      go_wp2_with (go_at_call 64; (with_reducible refine (CS.out _).mono ?_); rintro e w3 ⟨a3, c3, rfl, o3, e3⟩)
      go_ret
      exact ⟨rfl, E2.trans e3⟩
  obtain ⟨n0, n1, p0, p1⟩ := hin
  obtain ⟨n, rfl⟩ := Int.eq_ofNat_of_zero_le n0
  obtain ⟨m, rfl⟩ := Int.eq_ofNat_of_zero_le p0
  obtain ⟨l, hll⟩ : ∃ l, Hid (l = sbs s n m) := ⟨_, rfl⟩
  rw [← hll.out] at CR
  have hok := sbs_ok (s := s) (show n ≤ 40 by omega) (show m ≤ n by omega)
  rw [← hll.out] at hok
  have HL : Hid (l.length = m) := hok.1
  have HB := Lib.hid hok.2.1
  have HS := Lib.hid hok.2.2
  have hl40 : l.length ≤ 40 := by rw [HL.out]; omega
  have t1 : decide ((n : Int) < 0) = false := decide_eq_false (by omega)
  have t2 : decide ((40 : Int) < (n : Int)) = false := decide_eq_false (by omega)
  have t3 : decide ((m : Int) < 0) = false := decide_eq_false (by omega)
  have t4 : decide ((n : Int) < (m : Int)) = false := decide_eq_false (by omega)
  have t4' : decide (n < m) = false := decide_eq_false (by omega)
  have t5 : ((l.length : Int) != (m : Int)) = false := by simp [HL.out]
  clear hok
  go_wp2_with fail
  (with_reducible refine CR.out.mono ?_)
  rintro e w2 ⟨a2, c2, rfl, o2, e2⟩
  have E2 := e1.trans e2
  clear e1 e2 CR
  go_wp2_with fail
  go_loopw [7] (fun i wr => ∃ k : Nat, k ≤ l.length ∧ i = .int .i64 k ∧ Dr w2 wr) (fun i _ => l.length - (intOf i).toNat)
  case atStart => exact ⟨0, Nat.zero_le _, rfl, Dr.refl _⟩
  case round =>
    obtain ⟨k, hk, rfl, hd⟩ := hrel
    by_cases hlt : k < l.length
    · obtain ⟨b, o, x, rfl, hb, hx, hc⟩ := (o2.vals.ext hd.ext).atI hlt
      obtain ⟨x0, x1⟩ := HB.out x (List.mem_of_getElem? hx.out)
      have i1 : (k : Int) < (l.length : Int) := by omega
      have i2 : decide (x < 0) = false := decide_eq_false (by omega)
      have i3 : decide ((n : Int) ≤ x) = false := decide_eq_false (by omega)
      have i4 : (0 : Int) ≤ (k : Int) := by omega
      by_cases hk0 : k = 0
      · subst hk0
        have hc0 : wr.cell? ⟨b, o, none⟩ = some (.int .i64 x) := hc
        have j1 : (0 : Int) < (l.length : Int) := by omega
        clear hc i1 i4
        go_wp2_with fail
        go_quiet (fail)
        go_wp2_with fail
        go_roundw
        case rel => exact ⟨0 + 1, by omega, by go_num, hd.drewN _⟩
        case measure => simp [intOf]; omega
      · obtain ⟨q, rfl⟩ : ∃ q, k = q + 1 := ⟨k - 1, by omega⟩
        obtain ⟨b', o', y, hbo, _, hy, hc2⟩ := (o2.vals.ext hd.ext).atI (show q < l.length by omega)
        injection hbo with hbo
        obtain ⟨rfl, rfl⟩ : b = b' ∧ o = o' := by simpa using hbo
        have hlt2 := strict_at HS.out hy.out hx.out
        have i5 : (0 : Int) < (q : Int) + 1 := by omega
        have i6 : decide (x ≤ y) = false := decide_eq_false (by omega)
        have i7 : (q : Int) < (l.length : Int) := by omega
        have i8 : (q : Int) + 1 < (l.length : Int) := by omega
        have i9 : (0 : Int) ≤ (q : Int) := by omega
        have j1 : IntKind.i64.wrap ((q : Int) + 1 - 1) = (q : Int) := by rw [IntKind.wrap_i64]; omega
        have j2 : IntKind.i64.wrap (q : Int) = (q : Int) := by rw [IntKind.wrap_i64]; omega
        clear hk0 hlt2
        go_wp2_with fail
        go_quiet (fail)
        go_wp2_with fail
        go_roundw
        case rel => exact ⟨q + 1 + 1, by omega, by go_num, hd.drewN _⟩
        case measure => simp [intOf]; omega
    · obtain rfl : k = l.length := by omega
      have E3 := E2.trans hd.ext
      have CS := implShuffle_ok s n wr
      obtain ⟨ls, hls⟩ : ∃ ls, Hid (ls = shuf s n) := ⟨_, rfl⟩
      rw [← hls.out] at CS
      have CS1 := Lib.hid CS
      have HLS : Hid (ls.length = n) := by rw [hls.out, shuf_yes (show n ≤ 40 by omega)]; exact (chTo_len s n (by omega) n (Nat.le_refl _)).2
      have HMS : Hid (∀ i : Nat, i < n → decide ((i : Int) ∈ ls) = true) := fun i hi => by
        rw [hls.out, shuf_yes (show n ≤ 40 by omega)]
        exact decide_eq_true (shuf_mem s n (by omega) (by omega) (by omega))
      have hls40 : ls.length ≤ 40 := by rw [HLS.out]; omega
      clear CS E2 o2 hd
      go_wp2_with fail
      (with_reducible refine CS1.out.mono ?_)
      rintro e w3 ⟨a3, c3, rfl, o3, e3⟩
      have E4 := E3.trans e3
      have hv3 := o3.vals
      clear CS1 E3 e3 o3
      go_wp2_with fail
      go_loop [9] (fun i => ∃ k : Nat, k ≤ n ∧ i = .int .i64 k) (fun i => n - (intOf i).toNat)
      case atStart => exact ⟨0, Nat.zero_le _, rfl⟩
      case round =>
        obtain ⟨k, hk, rfl⟩ := hrel
        by_cases hkn : k < n
        · have CC := Lib.hid (contains_ok a3 c3 ls k w3 hv3 (by omega))
          rw [HMS.out k hkn] at CC
          go_wp2_with fail
          (with_reducible refine CC.out.mono ?_)
          rintro e w' ⟨rfl, rfl⟩
          go_wp2_with fail
          go_round
          case rel => exact ⟨k + 1, by omega, by go_num⟩
          case measure => simp [intOf]; omega
        · obtain rfl : k = n := by omega
          have q1 : ((ls.length : Int) == (k : Int)) = true := by simp [HLS.out]
          by_cases hk0 : k = 0
          · have q2 : ((k : Int) == 0) = true := by simp [hk0]
            clear hk0
            go_wp2_with fail
            go_ret
            exact ⟨rfl, E4⟩
          by_cases hm0 : m = 0
          · have q2 : ((k : Int) == 0) = false := by simp [hk0]
            have q3 : ((m : Int) == 0) = true := by simp [hm0]
            clear hk0 hm0
            go_wp2_with fail
            go_ret
            exact ⟨rfl, E4⟩
          have q2 : ((k : Int) == 0) = false := by simp [hk0]
          have q3 : ((m : Int) == 0) = false := by simp [hm0]
          have hin1 : inR (k : Int) 1 40 = true := inR_true.2 (by omega)
          have hsv := spv_ok (s := s) (show k ≤ 40 by omega) (show m ≤ k by omega) (show 1 ≤ m by omega)
          obtain ⟨vs, hvs⟩ : ∃ vs, Hid (vs = spv s k m) := ⟨_, rfl⟩
          rw [← hvs.out] at hsv
          have CV := Lib.hid (fun W => implSparseVector_ok s k m W)
          rw [← hvs.out] at CV
          have q4 : ((vs.length : Int) == (k : Int)) = true := by simp [hsv.1]
          have q5 : (((cnz vs : Nat) : Int) == (m : Int)) = true := by simp [hsv.2]
          have hvl : vs.length ≤ 40 := by omega
          have hrv := rvec_ok (s := s) hin1
          have hrl := rvec_lead (s := s) hin1
          obtain ⟨ws, hws⟩ : ∃ ws, Hid (ws = rvec s k) := ⟨_, rfl⟩
          have CW := Lib.hid (fun W => implRandomVector_ok s k W)
          rw [← hws.out] at hrv hrl CW
          have q6 : ((ws.length : Int) == (k : Int)) = true := by simp [hrv.2]
          have hwl : ws.length ≤ 40 := by omega
          have q7 : (0 : Int) ≤ leadI ws := hrl
          have HVW : Hid (validV ws = true) := validV_true.2 ⟨hrv.1, hwl⟩
          have hdim := rb_dim s k m (by omega) (by omega)
          have hbb := rbB_tot s k m
          obtain ⟨bb, hbbe⟩ : ∃ bb, Hid (bb = rbB s k m) := ⟨_, rfl⟩
          obtain ⟨bw, hbwe⟩ : ∃ bw, Hid (bw = rbW k) := ⟨_, rfl⟩
          have CB := Lib.hid (fun W => implRandomBasis_ok s k m W)
          rw [← hbbe.out] at hdim hbb CB
          rw [← hbwe.out] at hdim CB
          have HBR : Hid (∀ xs ∈ bb, xs.length ≤ 1048576) := fun xs hx => by have := rows_le hx; omega
          have hbl := hbb.1
          have q8 := rnum_lt s 3 10 (by omega) (by omega)
          obtain ⟨dd, hdd⟩ : ∃ dd, Hid (dd = dimB bw bb) := ⟨_, rfl⟩
          rw [← hdd.out] at hdim
          obtain ⟨rr, hrr⟩ : ∃ rr, Hid (rr = rnum s 3 10) := ⟨_, rfl⟩
          have CN := Lib.hid (fun W => implRandomNumber_ok s 3 10 W)
          rw [← hrr.out] at q8 CN
          have CDm := Lib.hid (fun W a c (h : MatR W a bb) => implDimension_ok bw a c bb W h hbl HBR.out)
          rw [← hdd.out] at CDm
          clear hk0 hm0 hsv hrv hrl hbb hws hvs hv3
          go_wp2_with fail
          (with_reducible refine (CV.out _).mono ?_)
          rintro e w4 ⟨a4, c4, rfl, o4, e4⟩
          go_wp2_with fail
          (with_reducible refine (CW.out _).mono ?_)
          rintro e w5 ⟨a5, c5, rfl, o5, e5⟩
          have v4 := o4.vals.ext e5
          have v5 := o5.vals
          have E5 := (E4.trans e4).trans e5
          clear o4 o5 e4 e5 E4 CV CW
          go_wp2_with (first
            | (go_at_call 68; (with_reducible refine (specCountNonzero_ok _ _ _ _ v4 (by omega)).mono ?_); rintro e w' ⟨rfl, rfl⟩)
            | (go_at_call 69; (with_reducible refine (specIsValidVector_ok _ _ _ _ v5 (by omega)).mono ?_); rintro e w' ⟨rfl, rfl⟩; rw [HVW.out])
            | (go_at_call 70; (with_reducible refine (specLeadingIndex_ok _ _ _ _ v5 (by omega)).mono ?_); rintro e w' ⟨rfl, rfl⟩))
          (with_reducible refine (CB.out _).mono ?_)
          rintro e w6 ⟨a6, c6, rfl, o6, e6⟩
          go_wp2_with fail
          (with_reducible refine (CDm.out _ _ _ o6.reads).mono ?_)
          rintro e w7 ⟨rfl, e7⟩
          go_wp2_with fail
          (with_reducible refine (CN.out _).mono ?_)
          rintro e w8 ⟨rfl, e8⟩
          go_wp2_with fail
          go_ret
          exact ⟨rfl, ((E5.trans e6).trans e7).trans e8⟩

end Go.Proofs.Ytninamlcffemoaa
