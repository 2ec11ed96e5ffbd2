/- Contracts of ReadBytes, SymbolsToBytes (program and reference); the law. -/
import Derived.Test.YtkegknophppdgaaRdW
import Derived.Test.YtkegknophppdgaaStb
import Derived.Test.YtkegknophppdgaaGen
namespace Go.Proofs.Ytkegknophppdgaa
open Go.RowKit
set_option linter.unusedVariables false
set_option maxRecDepth 20000

/-- A call hands back new bytes and a bool. -/
def NewYF (w : World) (xs : List Int) (ok : Bool) (e : Ending) (w' : World) : Prop := ∃ a c, e = .returned (.tuple #[.slice a xs.length c, .bool ok]) ∧ OwnB w' w.heap.size a c xs ∧ Ext w w'

theorem Vals.takeY {w : World} {a : Option Addr} {xs : List Int} (h : Vals w a (Y xs)) (k : Nat) : Vals w a (Y (xs.take k)) := fun i hi => by
  have hi' : i < xs.length := by simp at hi; omega
  obtain ⟨b, o, h1, h2⟩ := h i (by simpa using hi')
  exact ⟨b, o, h1, by rw [h2]; simp⟩
theorem Vals.dropY {w : World} {g o : Nat} {xs : List Int} (h : Vals w (some ⟨g, o, none⟩) (Y xs)) (k : Nat) : Vals w (some ⟨g, o + k, none⟩) (Y (xs.drop k)) := fun i hi => by
  have hi' : k + i < xs.length := by simp at hi; omega
  obtain ⟨b, o', h1, h2⟩ := h (k + i) (by simpa using hi')
  injection h1 with h1
  injection h1 with h1 h1'
  subst h1 h1'
  exact ⟨g, o + k, rfl, by rw [Nat.add_assoc, h2]; simp⟩

theorem implReadBytes_none (a : Option Addr) (c : Nat) (bs : List Int) (t : Nat) (q : Int) (w : World) (h : Vals w a (Y bs)) (hb : AllB bs) (hl : bs.length ≤ 1048576) (ht : t ≤ 1048576) (hu : rdU bs t = none) :
    Calls Try.prog 113 #[.slice a bs.length c, .int .i64 t, .int .i64 q] w (NewY3 w [] 0 false) := by
  have CC := implReadUvarint_ok a c bs t w h hb hl ht
  rw [rdV_none hu] at CC
  have C1 := Lib.hid CC
  clear CC hu hb h
  go_enter Try.func113, Try.ntmps113
  go_wp2_with (go_at_call 151; (with_reducible refine C1.out.mono ?_); rintro e w' ⟨rfl, rfl⟩)
  go_ret3
  exact ⟨none, 0, rfl, OwnB.nil _ _, Ext.refl _⟩

theorem implReadBytes_bad (a : Option Addr) (c : Nat) (bs : List Int) (t : Nat) (q : Int) (n : Int) (k : Nat) (w : World) (h : Vals w a (Y bs)) (hb : AllB bs) (hl : bs.length ≤ 1048576) (ht : t ≤ bs.length) (hu : rdU bs t = some (n, k)) (hn : q < n ∨ (bs.length : Int) - (t + k : Nat) < n) :
    Calls Try.prog 113 #[.slice a bs.length c, .int .i64 t, .int .i64 q] w (NewY3 w [] 0 false) := by
  have CC := implReadUvarint_ok a c bs t w h hb hl (by omega)
  rw [rdV_some hu] at CC
  have C1 := Lib.hid CC
  obtain ⟨u1, u2, u3⟩ := rdU_le hb ht hu
  clear CC hu hb h
  by_cases h1 : q < n
  · go_enter Try.func113, Try.ntmps113
    go_wp2_with (go_at_call 151; (with_reducible refine C1.out.mono ?_); rintro e w' ⟨rfl, rfl⟩)
    go_ret3
    exact ⟨none, 0, rfl, OwnB.nil _ _, Ext.refl _⟩
  · have h2 : (bs.length : Int) - (t + k : Nat) < n := by omega
    clear hn
    go_enter Try.func113, Try.ntmps113
    go_wp2_with (go_at_call 151; (with_reducible refine C1.out.mono ?_); rintro e w' ⟨rfl, rfl⟩)
    all_goals first | (go_ret3; exact ⟨none, 0, rfl, OwnB.nil _ _, Ext.refl _⟩) | (exfalso; omega)

set_option maxHeartbeats 1000000 in
theorem implReadBytes_good (a : Option Addr) (c : Nat) (bs : List Int) (t : Nat) (q : Int) (n : Nat) (k : Nat) (w : World) (h : Vals w a (Y bs)) (hb : AllB bs) (hl : bs.length ≤ 1048576) (hc : bs.length ≤ c) (ht : t < bs.length) (hu : rdU bs t = some ((n : Int), k)) (hq : (n : Int) ≤ q) (hn : (n : Int) ≤ (bs.length : Int) - (t + k : Nat)) :
    Calls Try.prog 113 #[.slice a bs.length c, .int .i64 t, .int .i64 q] w (NewY3 w ((bs.drop (t + k)).take n) ((t + k : Nat) + (n : Int)) true) := by
  have CC := implReadUvarint_ok a c bs t w h hb hl (by omega)
  rw [rdV_some hu] at CC
  have C1 := Lib.hid CC
  obtain ⟨u1, u2, u3⟩ := rdU_le hb (by omega) hu
  obtain ⟨b, o, x, rfl, _, _, _⟩ := h.atY ht
  obtain ⟨ds, hds⟩ : ∃ ds, Hid (ds = (bs.drop (t + k)).take n) := ⟨_, rfl⟩
  have hdl : ds.length = n := by rw [hds.out, List.length_take, List.length_drop]; omega
  rw [← hds.out]
  generalize hT : t + k = T at *
  have HV : Vals w (some ⟨b, o + T, none⟩) (Y ds) := by rw [hds.out]; exact (h.dropY T).takeY n
  by_cases hce : c = T
  · have hn0 : n = 0 := by omega
    have hv0 : Vals w (some ⟨b, o, none⟩) (Y ds) := by
      have : ds = [] := List.eq_nil_of_length_eq_zero (by omega)
      rw [this]
      exact Vals.nil _ _
    have C2 := cloneY_ok (some ⟨b, o, none⟩) 0 ds w hv0 (by omega)
    rw [hdl] at C2
    have C3 := Lib.hid C2
    have HD := Lib.hid hdl
    have i1 : (T : Int) + (n : Int) ≤ (c : Int) := by omega
    have i4 : ¬ ((bs.length : Int) - (T : Int) < (n : Int)) := by omega
    have i5 : ¬ q < (n : Int) := by omega
    subst hce
    subst hn0
    clear C2 hdl hv0 CC hu hb h hn hT
    go_enter Try.func113, Try.ntmps113
    go_wp2_with (first
      | (go_at_call 151; (with_reducible refine C1.out.mono ?_); rintro e w' ⟨rfl, rfl⟩)
      | (go_at_call 154; (with_reducible refine C3.out.mono ?_); rintro e w' ⟨a1, c1, rfl, o1, e1⟩))
    go_ret3
    exact ⟨a1, c1, by rw [HD.out]; rfl, o1, e1⟩
  · have C2 := cloneY_ok (some ⟨b, o + T, none⟩) (c - T) ds w HV (by omega)
    rw [hdl] at C2
    have C3 := Lib.hid C2
    have HD := Lib.hid hdl
    have i1 : (T : Int) + (n : Int) ≤ (c : Int) := by omega
    have i4 : ¬ ((bs.length : Int) - (T : Int) < (n : Int)) := by omega
    have i5 : ¬ q < (n : Int) := by omega
    clear C2 hdl CC hu hb h hn hT HV
    go_enter Try.func113, Try.ntmps113
    go_wp2_with (first
      | (go_at_call 151; (with_reducible refine C1.out.mono ?_); rintro e w' ⟨rfl, rfl⟩)
      | (go_at_call 154; (with_reducible refine C3.out.mono ?_); rintro e w' ⟨a1, c1, rfl, o1, e1⟩))
    go_ret3
    exact ⟨a1, c1, by rw [HD.out]; rfl, o1, e1⟩

theorem wpList_appYn {ops : Array Oper} {rest : List Oper} {o : Oper} {a : Act} {Q : Exit → Act → World → Prop} (w : World) (hgd : o.guard = none) (s x : Operand)
    (ho : o.op = .call { callee := .builtin .append, args := #[s, x], argTypes := #[22, 22] })
    (B : Nat) (a0 : Option Addr) (c : Nat) (xs : List Int) (hs : a.eval s = .slice a0 xs.length c) (hown : OwnB w B a0 c xs)
    (A : Option Addr) (d n : Nat) (news : List Int) (hn : Hid (news.length = n)) (hx : a.eval x = .slice A n d) (hv : Vals w A (Y news))
    (ys : List Int) (hy : ys = xs ++ news) (h63 : xs.length + news.length ≤ 1099511627776) (hbase : B ≤ w.heap.size)
    (h : ∀ a' c' w', OwnB w' B a' c' ys → w.grownBy w' (blockOf a0) → (blockOf a' = blockOf a0 ∨ blockOf a' = some w.heap.size) → wpList Try.prog ops Q rest (a.put o.dst (.slice a' ys.length c')) w') :
    wpList Try.prog ops Q (o :: rest) a w := by
  obtain rfl := hn.out
  exact wpList_appY w hgd s x ho B a0 c xs hs hown A d news hx hv ys hy h63 hbase h

/-- Numbers as bytes. -/
def b8 (xs : List Int) : List Int := xs.map (· % 256)
theorem b8_length (xs : List Int) : (b8 xs).length = xs.length := by simp [b8]
theorem b8_bytes (xs : List Int) : AllB (b8 xs) := fun x hx => by
  simp [b8] at hx
  obtain ⟨y, _, rfl⟩ := hx
  omega
theorem b8_same {xs : List Int} (h : AllB xs) : b8 xs = xs := by
  unfold b8
  rw [List.map_congr_left (g := id) (fun x hx => by have := h x hx; show x % 256 = x; omega)]
  simp
theorem b8_append (xs ys : List Int) : b8 (xs ++ ys) = b8 xs ++ b8 ys := by simp [b8]
theorem wrapU8' (k : Int) : IntKind.u8.wrap k = k % 256 := by simp [IntKind.wrap, IntKind.signed, IntKind.bits]

/-- What the program finds out of the bytes. -/
theorem us_b8 {m : List (List Int)} (h : AllB m.flatten → unsym m = none) : unsym m = none := by
  by_cases hb : AllB m.flatten
  · exact h hb
  · exact unsym_bad hb

set_option maxHeartbeats 4000000 in
set_option maxRecDepth 100000 in
theorem implSymbolsToBytes_ok (a : Option Addr) (c : Nat) (m : List (List Int)) (w : World) (h : MatR w a m) (hl : m.length ≤ 1048576) (hr : ∀ xs ∈ m, xs.length ≤ 1048576) :
    Calls Try.prog 46 #[.slice a m.length c] w (NewYF w (usD m) (usOk m)) := by
  have HR := Lib.hid hr
  clear hr
  go_enter Try.func46, Try.ntmps46
  go_wp2
  go_loopw [4, 14] (fun v i wr => ∃ (k : Nat) (a1 : Option Addr) (c1 : Nat) (ys : List Int), k ≤ m.length ∧ i = .int .i64 k ∧ v = .slice a1 ys.length c1 ∧ Hid (ys = b8 (cat m k)) ∧ ys.length ≤ 432 ∧ OwnB wr w.heap.size a1 c1 ys ∧ Ext w wr) (fun _ i _ => m.length - (intOf i).toNat)
  case atStart => exact ⟨0, none, 0, [], Nat.zero_le _, rfl, rfl, rfl, by simp, OwnB.nil _ _, Ext.refl _⟩
  case round =>
    obtain ⟨k, a1, c1, ys, hk, rfl, rfl, HY, hyl, ho, he⟩ := hrel
    by_cases hlt : k < m.length
    · obtain ⟨b, o, ra, rc, xs, rfl, hb, hx, hc0, hv⟩ := h.at_ hlt
      have hc := he.cell hc0
      have hxm := HR.out xs (List.mem_of_getElem? hx.out)
      have HV := Lib.hid hv
      have HC0 := Lib.hid hc0
      clear hv hc0
      go_wp2_with fail
      go_loopw [4, 20] (fun v i wr => ∃ (q : Nat) (a2 : Option Addr) (c2 : Nat) (zs : List Int), q ≤ xs.length ∧ i = .int .i64 q ∧ v = .slice a2 zs.length c2 ∧ Hid (zs = b8 (cat m k ++ xs.take q)) ∧ zs.length ≤ 432 + q ∧ OwnB wr w.heap.size a2 c2 zs ∧ Ext w wr) (fun _ i _ => xs.length - (intOf i).toNat)
      case atStart => exact ⟨0, a1, c1, ys, Nat.zero_le _, rfl, rfl, by rw [List.take_zero, List.append_nil]; exact HY, by omega, ho, he⟩
      case round =>
        clear ho he hc
        obtain ⟨q, a2, c2, zs, hq, rfl, rfl, HZ, hzl, ho, he⟩ := hrel
        by_cases hqt : q < xs.length
        · obtain ⟨b2, o2, x, rfl, hb2, hx2, hc2⟩ := (HV.out.ext he).atI hqt
          have hwr := wrapU8' x
          obtain ⟨us, hus⟩ : ∃ us, Hid (us = zs ++ [x % 256]) := ⟨_, rfl⟩
          have HU : Hid (us = b8 (cat m k ++ xs.take (q + 1))) := by
            rw [List.take_add_one, hx2.out, ← List.append_assoc, b8_append, ← HZ.out]
            exact hus
          have hul : us.length ≤ 432 + (q + 1) := by rw [hus.out, List.length_append, List.length_singleton]; omega
          go_wp2_with (at_builtin; refine wpList_appY _ rfl _ _ rfl w.heap.size _ _ zs rfl (ho.ext ((Ext.refl wr).alloc _)) _ _ [x % 256] rfl (Vals.new wr [.int .u8 (x % 256)] _) us hus.out (by simp; omega) (by have := he.size_le; simp; omega) ?_)
          intro a3 c3 w3 o3 g3 _
          have e3 := (he.alloc (.cells (Y [x % 256]).toArray 5)).grown g3 (fun k hk => (ho.block k hk).1)
          clear g3 ho he hwr
          go_wp2_with fail
          go_roundw
          case rel => exact ⟨q + 1, a3, c3, us, by omega, by go_num, rfl, HU, hul, o3, e3⟩
          case measure => simp [intOf]; omega
        · have HE : Hid (zs = b8 (cat m (k + 1))) := by rw [cat_succ hx.out]; rw [List.take_of_length_le (by omega)] at HZ; exact HZ
          by_cases hbig : 432 < zs.length
          · have HN : Hid (unsym m = none) := unsym_long (by
              have := cat_le m (k + 1)
              have h2 : zs.length = (cat m (k + 1)).length := by rw [HE.out, b8_length]
              omega)
            have D := Lib.hid (us_none HN.out)
            have i1 : (432 : Int) < (zs.length : Int) := by omega
            go_wp2_with fail
            go_ret2
            rw [D.out.1, D.out.2]
            exact ⟨none, 0, rfl, OwnB.nil _ _, he⟩
          · have i1 : ¬ (432 : Int) < (zs.length : Int) := by omega
            go_wp2_with fail
            go_roundw
            case rel => exact ⟨k + 1, a2, c2, zs, by omega, by go_num, rfl, HE, by omega, ho, he⟩
            case measure => simp [intOf]; omega
    · have HF : Hid (ys = b8 m.flatten) := by rw [← cat_all (xss := m) (k := k) (by omega)]; exact HY
      have hB : AllB ys := by rw [HF.out]; exact b8_bytes _
      have hfl : ys.length = m.flatten.length := by rw [HF.out, b8_length]
      have hcap := ho.cap
      have bad : Hid ((AllB m.flatten → unsym m = none) → ∀ W, Ext w W → NewYF w (usD m) (usOk m) (.returned (.tuple #[.slice none 0 0, .bool false])) W) := fun hno W hW => by
        obtain ⟨d1, d2⟩ := us_none (us_b8 hno)
        rw [d1, d2]
        exact ⟨none, 0, rfl, OwnB.nil _ _, hW⟩
      cases hu : rdU ys 0 with
      | none =>
        have CC0 := implReadBytes_none a1 c1 ys 0 400 wr ho.vals hB (by omega) (by omega) hu
        rw [show ((0 : Nat) : Int) = 0 from rfl] at CC0
        have CC := Lib.hid CC0
        clear CC0
        have B := Lib.hid (bad.out fun hb => unsym_noread (by rw [HF.out, b8_same hb] at hu; exact hu))
        clear bad hu hB hfl hcap
        go_wp2_with (go_at_call 113; (with_reducible refine CC.out.mono ?_); rintro e w2 ⟨a2, c2, rfl, o2, e2⟩)
        go_ret2
        exact B.out _ (he.trans e2)
      | some p =>
        obtain ⟨n, q⟩ := p
        obtain ⟨u1, u2, u3⟩ := rdU_le hB (Nat.zero_le _) hu
        by_cases hbd : 400 < n ∨ (ys.length : Int) - (0 + q : Nat) < n
        · have CC0 := implReadBytes_bad a1 c1 ys 0 400 n q wr ho.vals hB (by omega) (Nat.zero_le _) hu hbd
          rw [show ((0 : Nat) : Int) = 0 from rfl] at CC0
          have CC := Lib.hid CC0
          clear CC0
          have B := Lib.hid (bad.out fun hb => unsym_short (c := q) (n := n) (by rw [HF.out, b8_same hb] at hu; exact hu) (by omega))
          clear bad hu hB hfl hcap hbd
          go_wp2_with (go_at_call 113; (with_reducible refine CC.out.mono ?_); rintro e w2 ⟨a2, c2, rfl, o2, e2⟩)
          go_ret2
          exact B.out _ (he.trans e2)
        · obtain ⟨n, rfl⟩ := Int.eq_ofNat_of_zero_le u2
          have hpos : 0 < ys.length := by
            cases ys with
            | nil => simp [rdU, rdF] at hu
            | cons _ _ => simp
          have CC := implReadBytes_good a1 c1 ys 0 400 n q wr ho.vals hB (by omega) hcap hpos hu (by omega) (by omega)
          rw [Nat.zero_add, show ((0 : Nat) : Int) = 0 from rfl] at CC
          obtain ⟨ds, hds⟩ : ∃ ds, Hid (ds = (ys.drop q).take n) := ⟨_, rfl⟩
          rw [← hds.out] at CC
          have hdl : ds.length ≤ 432 := by rw [hds.out, List.length_take]; omega
          have hdB : AllB ds := by rw [hds.out]; exact fun x hx => hB x (List.mem_of_mem_drop (List.mem_of_mem_take hx))
          have C1 := Lib.hid CC
          have HM := Lib.hid (fun (W : World) (hW : Ext w W) => h.ext hW)
          have HDB := Lib.hid hdB
          have hfp : 0 < m.flatten.length := by omega
          have hne : Hid (¬ syms ds (cols m) = m → AllB m.flatten → unsym m = none) := fun hne hb => unsym_ne (n := n) (c := q) (by rw [HF.out, b8_same hb] at hu; exact hu) (by rw [HF.out, b8_same hb] at hds; rw [← hds.out]; exact hne)
          have hsl := Lib.hid (syms_bound ds (cols m))
          have hsr : Hid (∀ xs ∈ syms ds (cols m), xs.length ≤ 1099511627776) := fun xs hx => by have := rows_le hx; have := hsl.out; omega
          clear CC hu hB hfl hcap hbd hpos hdB u1 u2 u3
          have key : Hid (∀ W (aa bb : Option Addr) (cc dd : Nat), MatR W aa (syms ds (cols m)) → MatR W bb m → Calls Try.prog 114 #[.slice aa (syms ds (cols m)).length cc, .slice bb m.length dd] W (Quiet W (.bool (decide (syms ds (cols m) = m))))) :=
            fun W aa bb cc dd h1 h2 => implEqualMatrices_ok aa bb cc dd _ m W h1 h2 (by have := hsl.out.1; omega) hsr.out
          cases hq : decide (syms ds (cols m) = m)
          · have B := Lib.hid (bad.out (hne.out (of_decide_eq_false hq)))
            rw [hq] at key
            clear bad hne hq
            go_wp2_with (go_at_call 113; (with_reducible refine C1.out.mono ?_); rintro e w2 ⟨a2, c2, rfl, o2, e2⟩)
            have e02 := he.trans e2
            go_wp2_with (go_at_call 115; refine (implColumnsOf_ok _ _ _ _ (HM.out _ e02)).mono ?_; rintro e w' ⟨rfl, rfl⟩)
            (with_reducible refine (implBytesToSymbols_ok a2 c2 ds (cols m) _ o2.vals (by omega) HDB.out).mono ?_)
            rintro e w3 ⟨a3, c3, rfl, o3, e3⟩
            have e03 := e02.trans e3
            go_wp2_with fail
            (with_reducible refine (key.out w3 a3 _ c3 _ o3.reads (HM.out _ e03)).mono ?_)
            rintro e w4 ⟨rfl, e4⟩
            have e04 := e03.trans e4.ext
            go_wp2_with fail
            go_ret2
            exact B.out _ e04
          · have YS := Lib.hid (us_some (unsym_found HDB.out (of_decide_eq_true hq) hfp))
            rw [hq] at key
            clear bad hne hq
            go_wp2_with (go_at_call 113; (with_reducible refine C1.out.mono ?_); rintro e w2 ⟨a2, c2, rfl, o2, e2⟩)
            have e02 := he.trans e2
            go_wp2_with (go_at_call 115; refine (implColumnsOf_ok _ _ _ _ (HM.out _ e02)).mono ?_; rintro e w' ⟨rfl, rfl⟩)
            (with_reducible refine (implBytesToSymbols_ok a2 c2 ds (cols m) _ o2.vals (by omega) HDB.out).mono ?_)
            rintro e w3 ⟨a3, c3, rfl, o3, e3⟩
            have e03 := e02.trans e3
            go_wp2_with fail
            (with_reducible refine (key.out w3 a3 _ c3 _ o3.reads (HM.out _ e03)).mono ?_)
            rintro e w4 ⟨rfl, e4⟩
            have e04 := e03.trans e4.ext
            go_wp2_with fail
            go_ret2
            rw [YS.out.1, YS.out.2]
            exact ⟨a2, c2, rfl, ((o2.ext e3).ext e4.ext).more he.size_le, e04⟩

set_option maxHeartbeats 4000000 in
set_option maxRecDepth 100000 in
theorem specSymbolsToBytes_ok (a : Option Addr) (c : Nat) (m : List (List Int)) (w : World) (h : MatR w a m) (hl : m.length ≤ 1048576) (hr : ∀ xs ∈ m, xs.length ≤ 1048576) (ht : tot m ≤ 1048576) :
    Calls Try.prog 44 #[.slice a m.length c] w (NewYF w (usD m) (usOk m)) := by
  have HR := Lib.hid hr
  clear hr
  have bad : Hid (unsym m = none → ∀ W, Ext w W → NewYF w (usD m) (usOk m) (.returned (.tuple #[.slice (some ⟨W.heap.size, 0, none⟩) 0 0, .bool false])) (W.alloc (.cells #[] 5))) := fun hno W hW => by
    obtain ⟨d1, d2⟩ := us_none hno
    rw [d1, d2]
    exact ⟨_, _, rfl, (OwnB.new W W.heap.size [] (Nat.le_refl _) (by simp)).more hW.size_le, hW.alloc _⟩
  have o0 := OwnB.new w w.heap.size [] (Nat.le_refl _) (by simp)
  have e0 := (Ext.refl w).alloc (.cells (Y []).toArray 5)
  have O0 := Lib.hid o0
  have E0 := Lib.hid e0
  clear o0 e0
  go_enter Try.func44, Try.ntmps44
  go_wp2
  go_loopw [4, 5] (fun v i wr => ∃ (k : Nat) (a1 : Option Addr) (c1 : Nat) (ys : List Int), k ≤ m.length ∧ i = .int .i64 k ∧ v = .slice a1 ys.length c1 ∧ Hid (ys = cat m k) ∧ Hid (AllB ys) ∧ OwnB wr w.heap.size a1 c1 ys ∧ Ext w wr) (fun _ i _ => m.length - (intOf i).toNat)
  case atStart => exact ⟨0, _, _, [], Nat.zero_le _, rfl, rfl, rfl, fun x hx => by simp at hx, O0.out, E0.out⟩
  case round =>
    clear O0 E0
    obtain ⟨k, a1, c1, ys, hk, rfl, rfl, HY, HB, ho, he⟩ := hrel
    have hyl : ys.length ≤ 1048576 := by rw [HY.out]; exact Nat.le_trans (cat_le m k) ht
    by_cases hlt : k < m.length
    · obtain ⟨b, o, ra, rc, xs, rfl, hb, hx, hc0, hv⟩ := h.at_ hlt
      have hxm := HR.out xs (List.mem_of_getElem? hx.out)
      have HV := Lib.hid hv
      have HC0 := Lib.hid hc0
      clear hv hc0
      go_wp2_with fail
      go_loopw [4, 6] (fun v i wr => ∃ (q : Nat) (a2 : Option Addr) (c2 : Nat) (zs : List Int), q ≤ xs.length ∧ i = .int .i64 q ∧ v = .slice a2 zs.length c2 ∧ Hid (zs = cat m k ++ xs.take q) ∧ Hid (AllB zs) ∧ zs.length ≤ 1048576 + q ∧ OwnB wr w.heap.size a2 c2 zs ∧ Ext w wr) (fun _ i _ => xs.length - (intOf i).toNat)
      case atStart => exact ⟨0, a1, c1, ys, Nat.zero_le _, rfl, rfl, by rw [List.take_zero, List.append_nil]; exact HY, HB, by omega, ho, he⟩
      case round =>
        clear ho he
        obtain ⟨q, a2, c2, zs, hq, rfl, rfl, HZ, HZB, hzl, ho, he⟩ := hrel
        have hc := he.cell HC0.out
        by_cases hqt : q < xs.length
        · obtain ⟨b2, o2, x, rfl, hb2, hx2, hc2⟩ := (HV.out.ext he).atI hqt
          cases hin : inR x 0 255
          · have B := Lib.hid (bad.out (unsym_bad fun hall => by
              have := hall x (List.mem_flatten.2 ⟨xs, List.mem_of_getElem? hx.out, List.mem_of_getElem? hx2.out⟩)
              rw [inR_true.2 this] at hin
              cases hin))
            go_wp2_with (go_at_call 94; refine (specInRange_ok _ _ _ _).mono ?_; rintro e w' ⟨rfl, rfl⟩)
            go_ret2
            exact B.out _ he
          · obtain ⟨x0, x1⟩ := inR_true.1 hin
            have hwr : IntKind.u8.wrap x = x := by rw [wrapU8']; omega
            obtain ⟨us, hus⟩ : ∃ us, Hid (us = zs ++ [x]) := ⟨_, rfl⟩
            have HU : Hid (us = cat m k ++ xs.take (q + 1)) := by
              rw [List.take_add_one, hx2.out, ← List.append_assoc, ← HZ.out]
              exact hus
            have HUB : Hid (AllB us) := by rw [hus.out]; exact HZB.out.append fun y hy => by simp at hy; omega
            have hul : us.length ≤ 1048576 + (q + 1) := by rw [hus.out, List.length_append, List.length_singleton]; omega
            go_wp2_with (first | (go_at_call 94; refine (specInRange_ok _ _ _ _).mono ?_; rintro e w' ⟨rfl, rfl⟩) | (at_builtin; refine wpList_appY _ rfl _ _ rfl w.heap.size _ _ zs rfl (ho.ext ((Ext.refl wr).alloc _)) _ _ [x] rfl (Vals.new wr [.int .u8 x] _) us hus.out (by simp; omega) (by have := he.size_le; simp; omega) ?_))
            intro a3 c3 w3 o3 g3 _
            have e3 := (he.alloc (.cells (Y [x]).toArray 5)).grown g3 (fun k hk => (ho.block k hk).1)
            clear g3 ho he hwr hc
            go_wp2_with fail
            go_roundw
            case rel => exact ⟨q + 1, a3, c3, us, by omega, by go_num, rfl, HU, HUB, hul, o3, e3⟩
            case measure => simp [intOf]; omega
        · have HE : Hid (zs = cat m (k + 1)) := by rw [cat_succ hx.out]; rw [List.take_of_length_le (by omega)] at HZ; exact HZ
          go_wp2_with fail
          go_roundw
          case rel => exact ⟨k + 1, a2, c2, zs, by omega, by go_num, rfl, HE, HZB, ho, he⟩
          case measure => simp [intOf]; omega
    · have HF : Hid (ys = m.flatten) := by rw [← cat_all (xss := m) (k := k) (by omega)]; exact HY
      have hB := HB.out
      have hcap := ho.cap
      have CC := specReadUvarint_ok a1 c1 ys 0 wr ho.vals hB hyl (by omega)
      rw [show ((0 : Nat) : Int) = 0 from rfl] at CC
      cases hu : rdU ys 0 with
      | none =>
        rw [rdV_none hu] at CC
        have C1 := Lib.hid CC
        have B := Lib.hid (bad.out (unsym_noread (by rw [← HF.out]; exact hu)))
        clear bad hu hB hcap CC
        go_wp2_with (go_at_call 111; (with_reducible refine C1.out.mono ?_); rintro e w' ⟨rfl, rfl⟩)
        go_ret2
        exact B.out _ he
      | some p =>
        obtain ⟨n, q⟩ := p
        rw [rdV_some hu, Nat.zero_add] at CC
        have C1 := Lib.hid CC
        obtain ⟨u1, u2, u3⟩ := rdU_le hB (Nat.zero_le _) hu
        by_cases hbd : (ys.length : Int) - (q : Nat) < n
        · have B := Lib.hid (bad.out (unsym_short (c := q) (n := n) (by rw [← HF.out]; exact hu) (.inr (by rw [← HF.out]; exact hbd))))
          clear bad hu hB hcap CC
          go_wp2_with (go_at_call 111; (with_reducible refine C1.out.mono ?_); rintro e w' ⟨rfl, rfl⟩)
          go_ret2
          exact B.out _ he
        · obtain ⟨n, rfl⟩ := Int.eq_ofNat_of_zero_le u2
          have hpos : 0 < ys.length := by
            cases ys with
            | nil => simp [rdU, rdF] at hu
            | cons _ _ => simp
          obtain ⟨g, rfl, _, _, _⟩ := (OB.of ho).form hpos
          obtain ⟨ds, hds⟩ : ∃ ds, Hid (ds = (ys.drop q).take n) := ⟨_, rfl⟩
          have hdl : Hid (ds.length = n) := by
            rw [hds.out]
            have : ((ys.drop q).take n).length = n := by rw [List.length_take, List.length_drop]; omega
            exact this
          have hdl2 : ds.length ≤ 1048576 := by rw [hdl.out]; omega
          have hdB : AllB ds := by rw [hds.out]; exact fun x hx => hB x (List.mem_of_mem_drop (List.mem_of_mem_take hx))
          have HDB := Lib.hid hdB
          have HM := Lib.hid (fun (W : World) (hW : Ext w W) => h.ext hW)
          have hfp : 0 < m.flatten.length := by rw [← HF.out]; exact hpos
          have hne : Hid (¬ syms ds (cols m) = m → unsym m = none) := fun hne => unsym_ne (n := n) (c := q) (by rw [← HF.out]; exact hu) (by rw [← HF.out, ← hds.out]; exact hne)
          have hsl := Lib.hid (syms_bound ds (cols m))
          have hsr : Hid (∀ xs ∈ syms ds (cols m), xs.length ≤ 1099511627776) := fun xs hx => by have := rows_le hx; have := hsl.out; omega
          have key : Hid (∀ W (aa bb : Option Addr) (cc dd : Nat), MatR W aa (syms ds (cols m)) → MatR W bb m → Calls Try.prog 112 #[.slice aa (syms ds (cols m)).length cc, .slice bb m.length dd] W (Quiet W (.bool (decide (syms ds (cols m) = m))))) :=
            fun W aa bb cc dd h1 h2 => specEqualMatrices_ok aa bb cc dd _ m W h1 h2 (by have := hsl.out.1; omega) hsr.out
          have HV : Hid (Vals wr (some ⟨g, q, none⟩) (Y ds)) := by
            rw [hds.out]
            have := (ho.vals.dropY q).takeY n
            rw [Nat.zero_add] at this
            exact this
          have HV0 : Hid (n = 0 → Vals wr (some ⟨g, 0, none⟩) (Y ds)) := fun h0 => by
            have : ds = [] := List.eq_nil_of_length_eq_zero (by rw [hdl.out]; exact h0)
            rw [this]
            exact Vals.nil _ _
          have i1 : (q : Int) + (n : Int) ≤ (c1 : Int) := by omega
          have i4 : ¬ ((ys.length : Int) - (q : Int) < (n : Int)) := by omega
          have hnn : n ≤ 1048576 := by omega
          clear CC hu hB hcap hbd hpos hdB
          cases hq : decide (syms ds (cols m) = m)
          · have B := Lib.hid (bad.out (hne.out (of_decide_eq_false hq)))
            rw [hq] at key
            clear bad hne hq
            by_cases hn0 : n = 0
            · subst hn0
              obtain rfl : ds = [] := List.eq_nil_of_length_eq_zero hdl.out
              rw [show ((0 : Nat) : Int) = 0 from rfl] at C1
              have o2 := (OwnB.new wr wr.heap.size [] (Nat.le_refl _) (by simp)).more he.size_le
              have e02 := he.alloc (.cells (Y []).toArray 5)
              have i6 : (q : Int) ≤ (c1 : Int) := by omega
              have i7 : (0 : Int) ≤ (ys.length : Int) - (q : Int) := by omega
              have i8 : ¬ ((ys.length : Int) - (q : Int) < 0) := by omega
              have HC := Lib.hid (show c1 = q ∨ ¬ c1 = q by omega)
              clear HV HV0 i1 i4 u1 u2 u3 hdl hds
              rcases HC.out with hce | hce
              case' inl => subst hce
              all_goals
                go_wp2_with (go_at_call 111; (with_reducible refine C1.out.mono ?_); rintro e w' ⟨rfl, rfl⟩)
                go_wp2_with (go_at_call 77; refine (specColumnsOf_ok _ _ _ _ (HM.out _ e02)).mono ?_; rintro e w' ⟨rfl, rfl⟩)
                refine (specBytesToSymbols_ok (some ⟨wr.heap.size, 0, none⟩) 0 [] (cols m) _ o2.vals (by simp) HDB.out).mono ?_
                rintro e w3 ⟨a3, c3, rfl, o3, e3⟩
                have e03 := e02.trans e3
                go_wp2_with fail
                (with_reducible refine (key.out w3 a3 _ c3 _ o3.reads (HM.out _ e03)).mono ?_)
                rintro e w4 ⟨rfl, e4⟩
                have e04 := e03.trans e4.ext
                go_wp2_with fail
                go_ret2
                exact B.out _ e04
            · have hce : ¬ c1 = q := by omega
              have hn1 : 0 < n := by omega
              have hdl3 : Hid (ds.length = q + n - q) := by rw [hdl.out]; exact Lib.hid (by omega)
              clear HV0 u1 u2 u3
              go_wp2_with (first
                | (go_at_call 111; (with_reducible refine C1.out.mono ?_); rintro e w' ⟨rfl, rfl⟩)
                | (at_builtin; refine wpList_appYn _ rfl _ _ rfl w.heap.size _ _ [] rfl ((OwnB.new wr wr.heap.size [] (Nat.le_refl _) (by simp)).more he.size_le) _ _ (q + n - q) ds hdl3 rfl (HV.out.ext ((Ext.refl wr).alloc _)) ds rfl (by simp; omega) (by have := he.size_le; simp; omega) ?_))
              intro a2 c2 w2 o2 g2 _
              have e02 := (he.alloc (.cells (Y []).toArray 5)).grown g2 (fun k hk => by simp [blockOf] at hk; have := he.size_le; omega)
              clear g2
              go_wp2_with (go_at_call 77; refine (specColumnsOf_ok _ _ _ _ (HM.out _ e02)).mono ?_; rintro e w' ⟨rfl, rfl⟩)
              (with_reducible refine (specBytesToSymbols_ok a2 c2 ds (cols m) _ o2.vals hdl2 HDB.out).mono ?_)
              rintro e w3 ⟨a3, c3, rfl, o3, e3⟩
              have e03 := e02.trans e3
              go_wp2_with fail
              (with_reducible refine (key.out w3 a3 _ c3 _ o3.reads (HM.out _ e03)).mono ?_)
              rintro e w4 ⟨rfl, e4⟩
              have e04 := e03.trans e4.ext
              go_wp2_with fail
              go_ret2
              exact B.out _ e04
          · have YS := Lib.hid (us_some (unsym_found HDB.out (of_decide_eq_true hq) hfp))
            rw [hq] at key
            clear bad hne hq
            by_cases hn0 : n = 0
            · subst hn0
              obtain rfl : ds = [] := List.eq_nil_of_length_eq_zero hdl.out
              rw [show ((0 : Nat) : Int) = 0 from rfl] at C1
              have o2 := (OwnB.new wr wr.heap.size [] (Nat.le_refl _) (by simp)).more he.size_le
              have e02 := he.alloc (.cells (Y []).toArray 5)
              have i6 : (q : Int) ≤ (c1 : Int) := by omega
              have i7 : (0 : Int) ≤ (ys.length : Int) - (q : Int) := by omega
              have i8 : ¬ ((ys.length : Int) - (q : Int) < 0) := by omega
              have HC := Lib.hid (show c1 = q ∨ ¬ c1 = q by omega)
              clear HV HV0 i1 i4 u1 u2 u3 hdl hds
              rcases HC.out with hce | hce
              case' inl => subst hce
              all_goals
                go_wp2_with (go_at_call 111; (with_reducible refine C1.out.mono ?_); rintro e w' ⟨rfl, rfl⟩)
                go_wp2_with (go_at_call 77; refine (specColumnsOf_ok _ _ _ _ (HM.out _ e02)).mono ?_; rintro e w' ⟨rfl, rfl⟩)
                refine (specBytesToSymbols_ok (some ⟨wr.heap.size, 0, none⟩) 0 [] (cols m) _ o2.vals (by simp) HDB.out).mono ?_
                rintro e w3 ⟨a3, c3, rfl, o3, e3⟩
                have e03 := e02.trans e3
                go_wp2_with fail
                (with_reducible refine (key.out w3 a3 _ c3 _ o3.reads (HM.out _ e03)).mono ?_)
                rintro e w4 ⟨rfl, e4⟩
                have e04 := e03.trans e4.ext
                go_wp2_with fail
                go_ret2
                rw [YS.out.1, YS.out.2]
                exact ⟨_, _, rfl, ((o2.ext e3).ext e4.ext), e04⟩
            · have hce : ¬ c1 = q := by omega
              have hn1 : 0 < n := by omega
              have hdl3 : Hid (ds.length = q + n - q) := by rw [hdl.out]; exact Lib.hid (by omega)
              clear HV0 u1 u2 u3
              go_wp2_with (first
                | (go_at_call 111; (with_reducible refine C1.out.mono ?_); rintro e w' ⟨rfl, rfl⟩)
                | (at_builtin; refine wpList_appYn _ rfl _ _ rfl w.heap.size _ _ [] rfl ((OwnB.new wr wr.heap.size [] (Nat.le_refl _) (by simp)).more he.size_le) _ _ (q + n - q) ds hdl3 rfl (HV.out.ext ((Ext.refl wr).alloc _)) ds rfl (by simp; omega) (by have := he.size_le; simp; omega) ?_))
              intro a2 c2 w2 o2 g2 _
              have e02 := (he.alloc (.cells (Y []).toArray 5)).grown g2 (fun k hk => by simp [blockOf] at hk; have := he.size_le; omega)
              clear g2
              go_wp2_with (go_at_call 77; refine (specColumnsOf_ok _ _ _ _ (HM.out _ e02)).mono ?_; rintro e w' ⟨rfl, rfl⟩)
              (with_reducible refine (specBytesToSymbols_ok a2 c2 ds (cols m) _ o2.vals hdl2 HDB.out).mono ?_)
              rintro e w3 ⟨a3, c3, rfl, o3, e3⟩
              have e03 := e02.trans e3
              go_wp2_with fail
              (with_reducible refine (key.out w3 a3 _ c3 _ o3.reads (HM.out _ e03)).mono ?_)
              rintro e w4 ⟨rfl, e4⟩
              have e04 := e03.trans e4.ext
              go_wp2_with fail
              go_ret2
              rw [YS.out.1, YS.out.2]
              exact ⟨a2, c2, rfl, ((o2.ext e3).ext e4.ext), e04⟩

set_option maxHeartbeats 4000000 in
set_option maxRecDepth 100000 in
theorem lawSymbolsToBytes (a0 : Option Addr) (c0 : Nat) (xss0 : List (List Int)) (w : World) (r0_0 : MatR w a0 xss0) (m0_0 : xss0.length ≤ maxLen) (m0_1 : ∀ xs ∈ xss0, xs.length ≤ maxLen) :
    Calls Try.prog 7 #[.slice a0 xss0.length c0] w (Gives w (.bool true)) := by
  replace m0_1 := Lib.hid m0_1
  by_cases hs0 : szM xss0 1048576 < 0
  · skip
    go_enter Try.func7, Try.ntmps7
    go_wp2_with fail
    refine (szIntSS_ok _ _ _ _ _ (r0_0.ext (Ext.refl w)) m0_0 m0_1.out (by omega) (by omega)).mono ?_
    rintro e w1 ⟨rfl, rfl⟩
    go_wp2_with fail
    go_ret
    exact ⟨rfl, Ext.refl w⟩
  obtain ⟨hle0, heq0⟩ := szM_le (Int.not_lt.1 hs0)
  have hl0 : xss0.length ≤ 1048576 := by omega
  have hr0 : Hid (∀ xs ∈ xss0, xs.length ≤ 1048576) := fun xs hx => by have := rows_le hx; omega
  have ht0 : tot xss0 ≤ 1099511627776 := by omega
  have hu0 : tot xss0 ≤ 1048576 := by omega
  have hf0 : szM xss0 1048576 ≤ 1048576 := by omega
  have hg0 : 0 ≤ szM xss0 1048576 := by omega
  replace heq0 := Lib.hid heq0
  have hres : (usD xss0).length ≤ 1048576 := us_len xss0
  go_enter Try.func7, Try.ntmps7
  go_wp2_with fail
  refine (szIntSS_ok _ _ _ _ _ (r0_0.ext (Ext.refl w)) m0_0 m0_1.out (by omega) (by omega)).mono ?_
  rintro e w1 ⟨rfl, rfl⟩
  go_wp2_with fail
  refine (toIntSS_ok _ _ _ _ (r0_0.ext (Ext.refl w)) hl0 hr0.out).mono ?_
  rintro e w1 ⟨t1a, t1c, rfl, t1o, e1⟩
  have E := (Ext.refl w).trans e1
  have z0 := e1.size_le
  go_wp2_with fail
  refine (specSymbolsToBytes_ok _ _ _ _ (t1o.reads) hl0 hr0.out hu0).mono ?_
  rintro e w2 ⟨u0a, u0c, rfl, u0o, e2⟩
  have z2 := e2.size_le
  replace t1o := t1o.ext e2
  replace E := E.trans e2
  clear e2
  replace u0o := OB.of u0o
  go_wp2_with fail
  refine (toIntSS_ok _ _ _ _ (r0_0.ext (E)) hl0 hr0.out).mono ?_
  rintro e w3 ⟨t3a, t3c, rfl, t3o, e3⟩
  have z3 := e3.size_le
  replace u0o := u0o.ext e3
  replace E := E.trans e3
  clear e3
  go_wp2_with fail
  refine (implSymbolsToBytes_ok _ _ _ _ (t3o.reads) hl0 hr0.out).mono ?_
  rintro e w4 ⟨u1a, u1c, rfl, u1o, e4⟩
  have z4 := e4.size_le
  replace u0o := u0o.ext e4
  replace t3o := t3o.ext e4
  replace E := E.trans e4
  clear e4
  replace u1o := OB.of u1o
  have qflag : ((usOk xss0) != (usOk xss0)) = false := by simp
  go_wp2_with fail
  refine (eqByteS_ok _ _ _ _ _ _ _ (u1o.vals) (u0o.vals) (by omega)).mono ?_
  rintro e w5 ⟨rfl, e5⟩
  replace e5 := Dr.ext e5
  have z5 := e5.size_le
  replace u0o := u0o.ext e5
  replace t3o := t3o.ext e5
  replace u1o := u1o.ext e5
  replace E := E.trans e5
  clear e5
  go_wp2_with fail
  refine (toIntSS_ok _ _ _ _ (r0_0.ext (E)) hl0 hr0.out).mono ?_
  rintro e w6 ⟨t6a, t6c, rfl, t6o, e6⟩
  have z6 := e6.size_le
  replace u0o := u0o.ext e6
  replace t3o := t3o.ext e6
  replace u1o := u1o.ext e6
  replace E := E.trans e6
  clear e6
  go_wp2_with fail
  refine (eqIntSS_ok _ _ _ _ _ _ _ (t3o.reads) (t6o.reads) (by omega) (fun xs hx => Nat.le_trans (hr0.out xs hx) (by omega))).mono ?_
  rintro e w7 ⟨rfl, e7⟩
  replace e7 := Dr.ext e7
  have z7 := e7.size_le
  replace u0o := u0o.ext e7
  replace t3o := t3o.ext e7
  replace u1o := u1o.ext e7
  replace E := E.trans e7
  clear e7
  go_wp2_with fail
  refine (markIntSS_ok _ _ _ _ _ _ _ t3o (by omega) ht0 (by omega) (by omega)).mono ?_
  rintro e w8 ⟨rfl, t3o', s8⟩
  have z8 := s8.size
  replace u0o := u0o.span s8 (by omega)
  replace u1o := u1o.span s8 (by omega)
  replace E := Span.ext E s8 (by omega)
  clear s8 t3o
  have t3o := t3o'
  clear t3o'
  go_wp2_with fail
  refine (eqByteS_ok _ _ _ _ _ _ _ (u1o.vals) (u0o.vals) (by omega)).mono ?_
  rintro e w9 ⟨rfl, e9⟩
  replace e9 := Dr.ext e9
  have z9 := e9.size_le
  replace u0o := u0o.ext e9
  replace u1o := u1o.ext e9
  replace E := E.trans e9
  clear e9
  go_wp2_with fail
  refine (markByteS_ok _ _ _ _ _ _ _ u1o (by omega) (by omega) (by omega)).mono ?_
  rintro e w10 ⟨rfl, u1o', s10⟩
  have z10 := s10.size
  replace u0o := u0o.span s10 (by omega)
  replace E := Span.ext E s10 (by omega)
  clear s10 u1o
  have u1o := u1o'
  clear u1o'
  go_wp2_with fail
  refine (heldByteS_ok _ _ _ _ _ (u1o.vals) (by omega) (by omega) (by omega)).mono ?_
  rintro e w11 ⟨rfl, rfl⟩
  go_wp2_with fail
  refine (toIntSS_ok _ _ _ _ (r0_0.ext (E)) hl0 hr0.out).mono ?_
  rintro e w11 ⟨t11a, t11c, rfl, t11o, e11⟩
  have z11 := e11.size_le
  replace u0o := u0o.ext e11
  replace u1o := u1o.ext e11
  replace E := E.trans e11
  clear e11
  go_wp2_with fail
  refine (implSymbolsToBytes_ok _ _ _ _ (t11o.reads) hl0 hr0.out).mono ?_
  rintro e w12 ⟨u2a, u2c, rfl, u2o, e12⟩
  have z12 := e12.size_le
  replace u0o := u0o.ext e12
  replace u1o := u1o.ext e12
  replace t11o := t11o.ext e12
  replace E := E.trans e12
  clear e12
  replace u2o := OB.of u2o
  go_wp2_with fail
  refine (eqByteS_ok _ _ _ _ _ _ _ (u2o.vals) (u0o.vals) (by omega)).mono ?_
  rintro e w13 ⟨rfl, e13⟩
  replace e13 := Dr.ext e13
  have z13 := e13.size_le
  replace u0o := u0o.ext e13
  replace u1o := u1o.ext e13
  replace u2o := u2o.ext e13
  replace E := E.trans e13
  clear e13
  go_wp2_with fail
  refine (heldByteS_ok _ _ _ _ _ (u1o.vals) (by omega) (by omega) (by omega)).mono ?_
  rintro e w14 ⟨rfl, rfl⟩
  go_wp2_with fail
  go_ret
  exact ⟨rfl, E⟩

end Go.Proofs.Ytkegknophppdgaa
