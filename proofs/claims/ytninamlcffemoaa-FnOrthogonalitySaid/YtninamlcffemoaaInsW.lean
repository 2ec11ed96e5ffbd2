/- Contract of slices.Insert of one row into owned rows. -/
import Derived.Test.YtninamlcffemoaaRowSet
import Derived.Deep.RegionLaw
import Derived.Lib.Overlaps
import Derived.Lib.AppendZerosOnto
import Derived.Lib.JoinLaws
import Derived.Lib.SliceRun
import Derived.Laws.Externs
import Derived.Laws.NewBlocks
namespace Go.Proofs.Ytninamlcffemoaa
open Go.RowKit Go.Lib
set_option linter.unusedVariables false
set_option maxRecDepth 20000

theorem wpList_copy_by {P : Program} (w : World) {ops : Array Oper} {rest : List Oper} {o : Oper} {a : Act} {Q : Exit → Act → World → Prop} (hgd : o.guard = none) (d s : Operand) (t t' : TypeId)
    (ho : o.op = .call { callee := .builtin .copy, args := #[d, s], argTypes := #[t, t'] }) (v u : Value) (hd : a.eval d = v) (hs : a.eval s = u) {v' : Value} {w' : World}
    (hr : (Builtin.copy_ #[t, t'] o.type #[v, u]).run P w = .ok v' w') (h : wpList P ops Q rest (a.put o.dst v') w') : wpList P ops Q (o :: rest) a w := by
  refine wpList_plain hgd fun K hK => ?_
  unfold Oper.wp execOp
  simp only [ho, resolve, invoke, builtin, Sem.run_bind, Sem.run_pure, Result.andThen_ok, List.map_toArray, List.map_cons, List.map_nil, hd, hs, hr]
  exact hK _ _ h
theorem step_copy_by {P : Program} {ops : Array Oper} {o : Oper} {a : Act} {w : World} {K : Act → World → Prop} {Q : Exit → Act → World → Prop} {E : Prop}
    (hg : o.guard = none) (d x : Operand) (dT sT : TypeId) (hop : o.op = Op.call { callee := Callee.builtin Builtin.copy, args := #[d, x], argTypes := #[dT, sT] })
    (v u : Value) (hd : a.eval d = v) (hx : a.eval x = u) {v' : Value} {w' : World} (hr : (Builtin.copy_ #[dT, sT] o.type #[v, u]).run P w = .ok v' w') (hK : K (a.put o.dst v') w') :
    if Region.wanted o (yielded ops a.tmps) = true then Oper.wp P o a w K Q else E := by
  have hw : Region.wanted o (yielded ops a.tmps) = true := by simp [Region.wanted, hg]
  rw [if_pos hw]
  unfold Oper.wp
  simp [execOp, hop, resolve, invoke, builtin, hd, hx, hr, Result.andThen]
  exact hK
theorem isSome_setCells' (b : Nat) (vs : List Value) (o : Nat) (w : World) (h : ∀ j, j < vs.length → (w.cell? ⟨b, o + j, none⟩).isSome = true) (k : Nat) (hk : (w.cell? ⟨b, k, none⟩).isSome = true) : ((w.setCells b o vs).cell? ⟨b, k, none⟩).isSome = true := by
  by_cases hin : o ≤ k ∧ k < o + vs.length
  · have := World.cell?_setCells_in b vs o w h (k - o) (by omega)
    rw [show o + (k - o) = k by omega] at this
    rw [this]; rfl
  · rw [World.cell?_setCells_out b vs o w ⟨b, k, none⟩ (fun _ _ => by show k < o ∨ o + vs.length ≤ k; omega)]
    exact hk

theorem sizeInts : (Try.prog.info? 36).map (·.size) = some 1 := by
  obtain ⟨i, hi, h0, h1, h2⟩ := info_parts infoInts
  rw [hi]; simp [h1]
theorem runSizeInts : ∀ w, (Go.sizeOf 36).run Try.prog w = .ok 1 w := fun w => by
  obtain ⟨i, hi, h0, h1, h2⟩ := info_parts infoInts
  simp [sizeOf, typeInfo, hi, h1]

/-- What the cells of the top become. -/
theorem setL_shift {cs : List Value} {u v : Value} {i : Nat} (hi : i ≤ cs.length) : setL (setL (cs ++ [u]) (i + 1) (cs.drop i)) i [v] = cs.take i ++ v :: cs.drop i := by
  apply List.ext_getElem?
  intro j
  rw [setL_get _ _ _ _ (by rw [setL_length]; simp; omega), setL_get _ _ _ _ (by simp; omega), insL_get hi]
  by_cases h1 : j < i
  · rw [if_neg (by simp; omega), if_neg (by omega), if_pos h1, List.getElem?_append_left (by omega)]
  · by_cases h2 : j = i
    · rw [if_pos (by simp; omega), if_neg h1, if_pos h2, h2, Nat.sub_self]; rfl
    · rw [if_neg (by simp; omega), if_neg h1, if_neg h2]
      by_cases h3 : j < cs.length + 1
      · rw [if_pos (by simp; omega), List.getElem?_drop, show i + (j - (i + 1)) = j - 1 by omega]
      · rw [if_neg (by simp; omega), List.getElem?_eq_none (by simp; omega), List.getElem?_eq_none (by omega)]
theorem setL_grow {cs : List Value} {z v : Value} {i : Nat} (hi : i ≤ cs.length) : setL (setL (cs.take i ++ List.replicate (cs.length + 1 - i) z) i [v]) (i + 1) (cs.drop i) = cs.take i ++ v :: cs.drop i := by
  apply List.ext_getElem?
  intro j
  rw [setL_get _ _ _ _ (by rw [setL_length]; simp; omega), setL_get _ _ _ _ (by simp; omega), insL_get hi]
  by_cases h1 : j < i
  · rw [if_neg (by simp; omega), if_neg (by simp; omega), if_pos h1, List.getElem?_append_left (by simp; omega), List.getElem?_take, if_pos h1]
  · by_cases h2 : j = i
    · rw [if_neg (by simp; omega), if_pos (by simp; omega), if_neg h1, if_pos h2, h2, Nat.sub_self]; rfl
    · rw [if_neg h1, if_neg h2]
      by_cases h3 : j < cs.length + 1
      · rw [if_pos (by simp; omega), List.getElem?_drop, show i + (j - (i + 1)) = j - 1 by omega]
      · rw [if_neg (by simp; omega), if_neg (by simp; omega), List.getElem?_eq_none (by simp; omega), List.getElem?_eq_none (by omega)]

set_option maxHeartbeats 4000000 in
set_option maxRecDepth 100000 in
theorem insertEnd_ok (B : Nat) (a : Option Addr) (c n : Nat) (vb : Nat) (v : Value) (cs : List Value) (w : World) (h : w.ownsRow B 36 1 (.slice a n c) n cs) (hB : B ≤ w.heap.size) (hv : w.cell? ⟨vb, 0, none⟩ = some v) (h1 : v.oneCell' = true) (hn : n ≤ 1048576) :
    Calls Try.prog 136 #[.slice a n c, .int .i64 n, .slice (some ⟨vb, 0, none⟩) 1 1] w fun e w' => ∃ a' c', e = .returned (.slice a' (n + 1) c') ∧ w'.ownsRow B 36 1 (.slice a' (n + 1) c') (n + 1) (cs ++ [v]) ∧ w.grownBy w' (blockOf a) := by
  obtain ⟨i, hi, hz0, hz1, hz2⟩ := info_parts infoInts
  have hnc : n ≤ c := by
    rcases h.2 with ⟨hv', hn'⟩ | ⟨g, cap, cur, hv', _, _, h1, _⟩
    · omega
    · injection hv' with _ _ h3; omega
  have hV : Vals w (some ⟨vb, 0, none⟩) [v] := fun j hj => by
    simp at hj
    subst hj
    exact ⟨vb, 0, rfl, by simpa using hv⟩
  have H := Lib.hid h
  have HV := Lib.hid hV
  clear h hV hv
  by_cases hcn : c = n
  · subst hcn
    go_enter Try.func136, Try.ntmps136
    go_wp2_with (at_builtin; refine wpList_app _ rfl _ _ 22 rfl B 36 i (.slice none 0 0) 24 Try.underlying22 hi hz0 hz1 hz2 rfl a c c cs rfl H.out _ 1 _ [v] rfl rfl HV.out (by simpa using h1) (by omega) (by omega) hB ?_)
    intro a' c' w' q1 q2 q3
    go_wp2_with fail
    go_ret
    exact ⟨a', c', rfl, q1, q2⟩
  · go_enter Try.func136, Try.ntmps136
    go_wp2_with (at_builtin; refine wpList_app _ rfl _ _ 22 rfl B 36 i (.slice none 0 0) 24 Try.underlying22 hi hz0 hz1 hz2 rfl a n c cs rfl H.out _ 1 _ [v] rfl rfl HV.out (by simpa using h1) (by omega) (by omega) hB ?_)
    intro a' c' w' q1 q2 q3
    go_wp2_with fail
    go_ret
    exact ⟨a', c', rfl, q1, q2⟩

set_option maxHeartbeats 4000000 in
set_option maxRecDepth 100000 in
theorem insertShift_ok (B g c n i : Nat) (vb : Nat) (v : Value) (cs : List Value) (w : World) (h : w.ownsRow B 36 1 (.slice (some ⟨g, 0, none⟩) n c) n cs) (hi : i < n) (hroom : n + 1 ≤ c) (hv : w.heap[vb]? = some (.cells #[v] 36 (0, 0))) (hvb : vb ≠ g)
    (h1 : v.oneCell' = true) (hc1 : ∀ u ∈ cs, u.oneCell' = true) (hn : n ≤ 1048576) :
    Calls Try.prog 136 #[.slice (some ⟨g, 0, none⟩) n c, .int .i64 i, .slice (some ⟨vb, 0, none⟩) 1 1] w fun e w' => e = .returned (.slice (some ⟨g, 0, none⟩) (n + 1) c) ∧ w'.ownsRow B 36 1 (.slice (some ⟨g, 0, none⟩) (n + 1) c) (n + 1) (cs.take i ++ v :: cs.drop i) ∧ w.grownBy w' (some g) := by
  obtain ⟨u, hu⟩ := ownsRow_up h hroom
  have hcl : cs.length = n := by have := h.1; omega
  obtain ⟨cur, hcur, hc2, hc3, hc4⟩ : ∃ cur, w.heap[g]? = some (.cells cur 36 (0, 0)) ∧ cur.size = c ∧ c ≤ maxLen ∧ n ≤ c := by
    rcases h.2 with ⟨hv', _⟩ | ⟨g', cap, cur, hv', _, hg, q1, q2, q3, q4⟩
    · cases hv'
    · injection hv' with a1 a2 a3
      injection a1 with a1
      injection a1 with a1
      subst a1 a3
      exact ⟨cur, hg, by omega, q2, q1⟩
  unfold maxLen at hc3
  have hcell : ∀ j u', cs[j]? = some u' → w.cell? ⟨g, 0 + j, none⟩ = some u' := fun j u' hj => by
    rw [Nat.zero_add, h.cellAt j (by have := (List.getElem?_eq_some_iff.1 hj).1; omega)]; exact hj
  have hsp : ∀ j, j < n + 1 → (w.cell? ⟨g, j, none⟩).isSome = true := fun j hj => by
    rw [hu.cellAt j (by omega), List.getElem?_eq_getElem (by simp; omega)]; rfl
  have hfz : ∀ j, w.frozen? ⟨g, j, none⟩ = false := fun j => hu.frozenAt j
  have hvc : w.cell? ⟨vb, 0, none⟩ = some v := by rw [cell_of_row _ vb 0 #[v] 36 (0, 0) hv]; rfl
  have hov : ∀ lb cb, (callFunc 156 #[.slice (some ⟨vb, 0, none⟩) 1 1, .slice (some ⟨g, 0 + (i + 1), none⟩) lb cb]).run Try.prog w = .ok (.value (.bool false)) w := fun lb cb => by
    rw [run_callFunc_extern Try.func156 (by kernel_rfl) (by kernel_rfl) (by kernel_rfl) (e := Extern.SlicesOverlaps.overlaps #[22, 22] #[4]) (by kernel_rfl),
      Lib.run_overlaps_apart w 22 4 36 Try.underlying22 1 runSizeInts ⟨vb, 0, none⟩ ⟨g, 0 + (i + 1), none⟩ 1 1 lb cb hvb 36 36 1 c (by simp [World.shape?, hv]) (by simp [World.shape?, hcur, hc2]) (by omega) (by simp [World.frozen?, hv]) (by simp [World.frozen?, hv])]
    rfl
  have hz2 : ¬ ((i : Int) = (n : Int)) := by omega
  have hdl : (cs.drop i).length = n - i := by rw [List.length_drop, hcl]
  have hw1 : IntKind.i64.wrap ((i : Int) + 1) = (i : Int) + 1 := by rw [IntKind.wrap_i64]; omega
  have hb1 : (0 : Int) ≤ (i : Int) + 1 := by omega
  have hin : i ≤ n := by omega
  have htn : ((i : Int) + 1).toNat = i + 1 := by omega
  have hb2 : ¬ (c = i + 1) := by omega
  have hb3 : (i : Int) ≤ (n : Int) + 1 := by omega
  have hb4 : ¬ (c = i) := by omega
  have hb5 : ¬ ((c : Int) < (n : Int) + 1) := by omega
  have hcp1 : ∀ ty dc sc, (Builtin.copy_ #[22, 22] ty #[.slice (some ⟨g, i + 1, none⟩) (n - i) dc, .slice (some ⟨g, i, none⟩) (n + 1 - i) sc]).run Try.prog w.drew = .ok (goInt (cs.drop i).length) (w.drew.setCells g (i + 1) (cs.drop i)) := fun ty dc sc =>
    run_copy_cells w.drew _ _ ty 36 g (i + 1) (n - i) dc ⟨g, i, none⟩ (n + 1 - i) sc (cs.drop i) Try.underlying22 sizeInts (by rw [hdl]; simp only [Nat.min_def]; split <;> omega)
      (fun j v hj => by rw [Addr.add_lit]; have := hcell (i + j) v (by rwa [List.getElem?_drop] at hj); rw [Nat.zero_add] at this; exact this)
      (fun j hj => hsp _ (by omega)) (fun j hj => hfz _) (fun v hv => hc1 v (List.mem_of_mem_drop hv))
  obtain ⟨W1, hW1⟩ : ∃ W1, W1 = w.drew.setCells g (i + 1) (cs.drop i) := ⟨_, rfl⟩
  have hsp1 : ∀ k, k < n + 1 → (W1.cell? ⟨g, k, none⟩).isSome = true := fun k hk => by
    rw [hW1]
    exact isSome_setCells' g _ _ w.drew (fun j hj => hsp (i + 1 + j) (by rw [hdl] at hj; omega)) _ (hsp k hk)
  have hcp2 : ∀ (W : World), (∀ x, W.cell? x = W1.cell? x) → (∀ x, W.frozen? x = W1.frozen? x) → ∀ ty dc, (Builtin.copy_ #[22, 22] ty #[.slice (some ⟨g, i, none⟩) (n + 1 - i) dc, .slice (some ⟨vb, 0, none⟩) 1 1]).run Try.prog W = .ok (goInt ([v] : List Value).length) (W.setCells g i [v]) := fun W hWc hWf ty dc =>
    run_copy_cells W _ _ ty 36 g i (n + 1 - i) dc ⟨vb, 0, none⟩ 1 1 [v] Try.underlying22 sizeInts (by simp only [Nat.min_def, List.length_singleton]; split <;> omega)
      (fun j v' hj => by
        have h0 : j = 0 := by have := (List.getElem?_eq_some_iff.1 hj).1; simpa using this
        subst h0
        simp at hj
        subst hj
        rw [Addr.add_lit, hWc, hW1, World.cell?_setCells_out g _ _ _ _ (fun h _ => absurd h hvb)]
        exact hvc)
      (fun j hj => by rw [hWc]; exact hsp1 _ (by simp at hj; omega)) (fun j hj => by rw [hWf, hW1, World.frozen?_setCells]; exact hfz _) (by simpa using h1)
  have hfin : Hid ((W1.setCells g i [v]).ownsRow B 36 1 (.slice (some ⟨g, 0, none⟩) (n + 1) c) (n + 1) (cs.take i ++ v :: cs.drop i) ∧ w.grownBy (W1.setCells g i [v]) (some g)) := by
    rw [hW1]
    refine ⟨?_, ?_⟩
    · have := ownsRow_setCells [v] i _ _ (ownsRow_setCells (cs.drop i) (i + 1) w.drew _ (World.ownsRow.drew hu))
      rw [setL_shift (by omega)] at this
      exact this
    · have k1 := grownBy_setCells (g := g) (cs.drop i) (i + 1) w.drew
      have k2 := grownBy_setCells (g := g) [v] i (w.drew.setCells g (i + 1) (cs.drop i))
      exact ⟨k2.os.trans k1.os, k2.tape.trans k1.tape, k2.output.trans k1.output, Nat.le_trans k1.size k2.size, fun k hk hne => (k2.block k (Nat.lt_of_lt_of_le hk k1.size) hne).trans (k1.block k hk hne)⟩
  rw [← hW1] at hcp1
  have HF := Lib.hid hcp2
  clear hW1 hsp1 hcell hsp hfz hcp2 hu h hcur hc2 hdl
  simp only [Nat.zero_add] at hov
  go_enter Try.func136, Try.ntmps136
  go_wp2_with (simp only [hov])
  go_region_law (refine step_copy_by rfl _ _ 22 22 rfl _ _ (by simp [Act.eval, Act.put]) (by simp [Act.eval, Act.put]) (hcp1 _ _ _) ?_)
  go_wp2_with (with_reducible refine wpList_copy_by _ rfl (.tmp 80) (.tmp 81) 22 22 rfl _ _ rfl rfl (HF.out _ (fun _ => rfl) (fun _ => rfl) _ _) ?_)
  go_ret
  exact ⟨rfl, hfin.out⟩

set_option maxHeartbeats 4000000 in
set_option maxRecDepth 100000 in
theorem insertGrow_ok (B g c n i : Nat) (vb : Nat) (v : Value) (cs : List Value) (w : World) (h : w.ownsRow B 36 1 (.slice (some ⟨g, 0, none⟩) n c) n cs) (hi : i < n) (hnc : n ≤ c) (hroom : c < n + 1) (hv : w.heap[vb]? = some (.cells #[v] 36 (0, 0)))
    (h1 : v.oneCell' = true) (hc1 : ∀ u ∈ cs, u.oneCell' = true) (hn : n ≤ 1048576) (hB : B ≤ w.heap.size) :
    Calls Try.prog 136 #[.slice (some ⟨g, 0, none⟩) n c, .int .i64 i, .slice (some ⟨vb, 0, none⟩) 1 1] w fun e w' => ∃ a' c', e = .returned (.slice a' (n + 1) c') ∧ w'.ownsRow B 36 1 (.slice a' (n + 1) c') (n + 1) (cs.take i ++ v :: cs.drop i) ∧ w.grownBy w' none := by
  have hcl : cs.length = n := by have := h.1; omega
  have hcell : ∀ j u', cs[j]? = some u' → w.cell? ⟨g, j, none⟩ = some u' := fun j u' hj => by
    rw [h.cellAt j (by have := (List.getElem?_eq_some_iff.1 hj).1; omega)]; exact hj
  have hgw : g < w.heap.size := (ownsRow_block h g rfl).2
  have hvw : vb < w.heap.size := (Array.getElem?_eq_some_iff.1 hv).1
  have hvc : w.cell? ⟨vb, 0, none⟩ = some v := by rw [cell_of_row _ vb 0 #[v] 36 (0, 0) hv]; rfl
  obtain ⟨i0, hi0, hz0, hzs, hzb⟩ := info_parts infoInts
  have hkk : (n : Int) + 1 - (i : Int) = ((n + 1 - i : Nat) : Int) := by omega
  have hik : i + (n + 1 - i) = n + 1 := by omega
  have hbig : (n + 1) * 24 ≤ 140737488355328 := by omega
  have hold : (Builtin.firstCells i0.size i (.slice (some ⟨g, 0, none⟩) i c)).run Try.prog w.drew = .ok (cs.take i).toArray w.drew := by
    rw [hzs]
    exact run_firstCells_some w.drew 1 i ⟨g, 0, none⟩ i c (cs.take i) (by rw [List.length_take]; omega) (fun j v hj => by
      rw [Addr.add_lit, Nat.zero_add]
      rw [List.getElem?_take] at hj
      split at hj
      · exact hcell j v hj
      · cases hj)
  have hrz : ∀ ty, (Builtin.append_ #[22, 3] ty #[.slice (some ⟨g, 0, none⟩) i c, .int .i64 ((n : Int) + 1 - (i : Int))]).run Try.prog w =
      .ok (.slice (some ⟨w.heap.size, 0, none⟩) (n + 1) (grownCap w (n + 1) c 36)) (w.drew.alloc (.cells ((cs.take i).toArray ++ Builtin.zeroCells (Value.slice none 0 0).cells (n + 1 - i) ++ Builtin.zeroCells (Value.slice none 0 0).cells (grownCap w (n + 1) c 36 - (n + 1))) 36)) := fun ty => by
    have h := Lib.run_append_grow_zeros (P := Try.prog) w 22 3 ty 36 i0 _ .i64 .i64 Try.underlying22 Try.underlying3 hi0 hz0 (some ⟨g, 0, none⟩) i c (cs.take i) hold (n + 1 - i) (by omega) (by omega) (by omega) (by omega) (by rw [hzb]; omega) (by rw [hzb, hik]; exact growslice_fits hroom hbig)
    rw [hik] at h
    rw [hkk]
    exact h
  obtain ⟨G, hG⟩ : ∃ G, G = grownCap w (n + 1) c 36 := ⟨_, rfl⟩
  have hGn : n + 1 ≤ G := by rw [hG]; exact grownCap_ge w _ _ _
  have hGm : G ≤ maxLen := by rw [hG]; exact grownCap_le_maxLen w (n + 1) c 36 (by unfold maxLen; omega)
  obtain ⟨ROW, hROW⟩ : ∃ ROW : Array Value, ROW = (cs.take i).toArray ++ Builtin.zeroCells (Value.slice none 0 0).cells (n + 1 - i) ++ Builtin.zeroCells (Value.slice none 0 0).cells (G - (n + 1)) := ⟨_, rfl⟩
  rw [← hG, ← hROW] at hrz
  have hRl : ROW.size = G := by
    rw [hROW]
    simp [Builtin.zeroCells, Value.cells]
    omega
  have hz1 : ∀ k : Nat, (Builtin.zeroCells (Value.slice none 0 0).cells k).toList = List.replicate k (.slice none 0 0) := fun k => by
    apply List.ext_getElem?
    intro j
    simp [Builtin.zeroCells, Value.cells]
    by_cases hj : j < k
    · simp [hj, Nat.mod_one]
    · simp [hj]
  have hRt : ROW.toList.take (n + 1) = cs.take i ++ List.replicate (n + 1 - i) (.slice none 0 0) := by
    rw [hROW, Array.toList_append, Array.toList_append, hz1, hz1, List.take_append_of_le_length (by simp; omega), List.take_of_length_le (by simp; omega)]
  obtain ⟨W1, hW1⟩ : ∃ W1, W1 = w.drew.alloc (.cells ROW 36) := ⟨_, rfl⟩
  rw [← hW1] at hrz
  have hsz1 : W1.heap.size = w.heap.size + 1 := by rw [hW1]; simp
  have hO1 : W1.ownsRow B 36 1 (.slice (some ⟨w.heap.size, 0, none⟩) (n + 1) G) (n + 1) (cs.take i ++ List.replicate (n + 1 - i) (.slice none 0 0)) := by
    refine ⟨by simp; omega, .inr ⟨w.heap.size, G, ROW, rfl, hB, ?_, hGn, hGm, by omega, by rw [Nat.mul_one]; exact hRt⟩⟩
    rw [hW1]
    exact heap_alloc_new w.drew _
  have hE1 : Ext w W1 := by rw [hW1]; exact (Ext.refl w).drew.alloc _
  have hN : ∀ j, j < n + 1 → (W1.cell? ⟨w.heap.size, j, none⟩).isSome = true := fun j hj => by
    rw [hO1.cellAt j (by omega), List.getElem?_eq_getElem (by have := hO1.1; omega)]; rfl
  have hNf : ∀ j, W1.frozen? ⟨w.heap.size, j, none⟩ = false := fun j => hO1.frozenAt j
  have hcpA : ∀ (W : World), (∀ x, W.cell? x = W1.cell? x) → (∀ x, W.frozen? x = W1.frozen? x) → ∀ ty dc, (Builtin.copy_ #[22, 22] ty #[.slice (some ⟨w.heap.size, i, none⟩) (n + 1 - i) dc, .slice (some ⟨vb, 0, none⟩) 1 1]).run Try.prog W = .ok (goInt ([v] : List Value).length) (W.setCells w.heap.size i [v]) := fun W hWc hWf ty dc =>
    run_copy_cells W _ _ ty 36 w.heap.size i (n + 1 - i) dc ⟨vb, 0, none⟩ 1 1 [v] Try.underlying22 sizeInts (by simp only [Nat.min_def, List.length_singleton]; split <;> omega)
      (fun j v' hj => by
        have h0 : j = 0 := by have := (List.getElem?_eq_some_iff.1 hj).1; simpa using this
        subst h0
        simp at hj
        subst hj
        rw [Addr.add_lit, hWc]
        exact hE1.cell hvc)
      (fun j hj => by rw [hWc]; exact hN _ (by simp at hj; omega)) (fun j hj => by rw [hWf]; exact hNf _) (by simpa using h1)
  have hdl : (cs.drop i).length = n - i := by rw [List.length_drop, hcl]
  have hcpB : ∀ (W : World), (∀ x, W.cell? x = (W1.setCells w.heap.size i [v]).cell? x) → (∀ x, W.frozen? x = (W1.setCells w.heap.size i [v]).frozen? x) → ∀ ty dc sc, (Builtin.copy_ #[22, 22] ty #[.slice (some ⟨w.heap.size, i + 1, none⟩) (n - i) dc, .slice (some ⟨g, i, none⟩) (n - i) sc]).run Try.prog W = .ok (goInt (cs.drop i).length) (W.setCells w.heap.size (i + 1) (cs.drop i)) := fun W hWc hWf ty dc sc =>
    run_copy_cells W _ _ ty 36 w.heap.size (i + 1) (n - i) dc ⟨g, i, none⟩ (n - i) sc (cs.drop i) Try.underlying22 sizeInts (by rw [hdl]; simp only [Nat.min_def]; split <;> omega)
      (fun j v hj => by
        rw [Addr.add_lit, hWc, World.cell?_setCells_out _ _ _ _ _ (fun h _ => absurd h (by show ¬ g = w.heap.size; omega))]
        exact hE1.cell (hcell (i + j) v (by rwa [List.getElem?_drop] at hj)))
      (fun j hj => by rw [hWc]; exact isSome_setCells' _ _ _ W1 (fun t ht => hN (i + t) (by simp at ht; omega)) _ (hN _ (by rw [hdl] at hj; omega)))
      (fun j hj => by rw [hWf, World.frozen?_setCells]; exact hNf _) (fun v hv => hc1 v (List.mem_of_mem_drop hv))
  have hfin : ∀ W, W = (W1.setCells w.heap.size i [v]).drew.setCells w.heap.size (i + 1) (cs.drop i) → W.ownsRow B 36 1 (.slice (some ⟨w.heap.size, 0, none⟩) (n + 1) G) (n + 1) (cs.take i ++ v :: cs.drop i) ∧ w.grownBy W none := fun W hW => by
    subst hW
    have k0 := ownsRow_setCells (cs.drop i) (i + 1) _ _ (World.ownsRow.drew (ownsRow_setCells [v] i W1 _ hO1))
    rw [← hcl, setL_grow (by omega), hcl] at k0
    refine ⟨k0, ?_⟩
    have k1 := grownBy_setCells (g := w.heap.size) [v] i W1
    have k2 := grownBy_setCells (g := w.heap.size) (cs.drop i) (i + 1) (W1.setCells w.heap.size i [v]).drew
    exact ⟨(k2.os.trans k1.os).trans hE1.os, (k2.tape.trans k1.tape).trans hE1.tape, (k2.output.trans k1.output).trans hE1.output, Nat.le_trans hE1.size (Nat.le_trans k1.size k2.size), fun k hk _ => ((k2.block k (show k < (W1.setCells w.heap.size i [v]).heap.size by have := k1.size; omega) (by simp; omega)).trans (k1.block k (by omega) (by simp; omega))).trans (hE1.block_eq hk)⟩
  have HA := Lib.hid hcpA
  have HB := Lib.hid hcpB
  have HF := Lib.hid hfin
  have HB2 : ∀ ty dc sc, (Builtin.copy_ #[22, 22] ty #[.slice (some ⟨w.heap.size, i + 1, none⟩) (n - i) dc, .slice (some ⟨g, i, none⟩) (n - i) sc]).run Try.prog (W1.setCells w.heap.size i [v]).drew = .ok (goInt (cs.drop i).length) ((W1.setCells w.heap.size i [v]).drew.setCells w.heap.size (i + 1) (cs.drop i)) := fun ty dc sc => hcpB (W1.setCells w.heap.size i [v]).drew (fun _ => rfl) (fun _ => rfl) ty dc sc
  have HRZ := Lib.hid hrz
  unfold maxLen at hGm
  have hz2 : ¬ ((i : Int) = (n : Int)) := by omega
  have hz3 : (c : Int) < (n : Int) + 1 := by omega
  have hGi : ¬ (G = i) := by omega
  have hGim : ¬ (G = i + 1) := by omega
  have hci : ¬ (c = i) := by omega
  have hw1 : IntKind.i64.wrap ((i : Int) + 1) = (i : Int) + 1 := by rw [IntKind.wrap_i64]; omega
  have hb1 : (0 : Int) ≤ (i : Int) + 1 := by omega
  have hin : i ≤ n := by omega
  have htn : ((i : Int) + 1).toNat = i + 1 := by omega
  have hb3 : (i : Int) ≤ (n : Int) := by omega
  clear hcpA hcpB hfin hrz hO1 hE1 hN hNf hRt hRl hROW hG hkk hik hold hz1 hcell hvc hv h hsz1 hdl hcl hW1
  go_enter Try.func136, Try.ntmps136
  go_wp2_with (first
    | (at_builtin; refine Lib.wpList_append_run _ rfl _ _ _ _ rfl _ _ rfl rfl _ _ (HRZ.out _) ?_)
    | (with_reducible refine wpList_copy_by _ rfl (.tmp 43) (.tmp 44) 22 22 rfl _ _ rfl rfl (HA.out _ (fun _ => rfl) (fun _ => rfl) _ _) ?_))
  go_region_law (refine step_copy_by rfl _ _ 22 22 rfl _ _ (by simp [Act.eval, Act.put]) (by simp [Act.eval, Act.put]) (HB2 _ _ _) ?_)
  go_wp2
  go_ret
  exact ⟨_, _, rfl, HF.out _ rfl⟩

theorem RV_one {rs : List (Option Addr × Nat)} {xss : List (List Int)} : ∀ u ∈ RV rs xss, u.oneCell' = true := by
  intro u hu
  obtain ⟨j, hj⟩ := List.mem_iff_getElem?.1 hu
  rw [RV_get] at hj
  cases h1 : rs[j]? with
  | none => rw [h1] at hj; cases hj
  | some r =>
    cases h2 : xss[j]? with
    | none => rw [h1, h2] at hj; cases hj
    | some xs => rw [h1, h2] at hj; simp at hj; subst hj; rfl

theorem insertRows_ok (B C : Nat) (a : Option Addr) (c i : Nat) (xss : List (List Int)) (ra : Option Addr) (rc : Nat) (xs : List Int) (vb : Nat) (w : World) (h : OM w B C a c xss) (hrow : OI w C w.heap.size ra rc xs) (hBC : B ≤ C) (hC : C ≤ w.heap.size) (hi : i ≤ xss.length)
    (hv : w.heap[vb]? = some (.cells #[.slice ra xs.length rc] 36 (0, 0))) (hvb : C ≤ vb) (hn : xss.length ≤ 1048576) :
    Calls Try.prog 136 #[.slice a xss.length c, .int .i64 i, .slice (some ⟨vb, 0, none⟩) 1 1] w fun e w' => ∃ a' c', e = .returned (.slice a' (xss.length + 1) c') ∧ OM w' B w'.heap.size a' c' (insAt xss i xs) ∧ w.grownBy w' (blockOf a) := by
  have hcap := h.cap
  obtain ⟨rs, q1, q2, q3⟩ := h
  have hl : (RV rs xss).length = xss.length := RV_length q3.len
  have hvc : w.cell? ⟨vb, 0, none⟩ = some (.slice ra xs.length rc) := by rw [cell_of_row _ vb 0 #[.slice ra xs.length rc] 36 (0, 0) hv]; rfl
  by_cases hin : i = xss.length
  · subst hin
    refine (insertEnd_ok B a c xss.length vb (.slice ra xs.length rc) (RV rs xss) w q1 (by omega) hvc rfl hn).mono ?_
    rintro e w' ⟨a', c', rfl, o, g⟩
    refine ⟨a', c', rfl, OM.inserted q1 q3 hrow hBC hC (Nat.le_refl _) ?_ g, g⟩
    rw [List.take_of_length_le (by omega), List.drop_of_length_le (by omega)]
    exact o
  · have hlt : i < xss.length := by omega
    obtain ⟨g, rfl, hg1, hg2, hg3⟩ := OM.form ⟨rs, q1, q2, q3⟩ (show 0 < xss.length by omega)
    by_cases hroom : xss.length + 1 ≤ c
    · refine (insertShift_ok B g c xss.length i vb (.slice ra xs.length rc) (RV rs xss) w q1 hlt hroom hv (by omega) rfl RV_one hn).mono ?_
      rintro e w' ⟨rfl, o, g'⟩
      exact ⟨_, _, rfl, OM.inserted q1 q3 hrow hBC hC hi o g', g'⟩
    · refine (insertGrow_ok B g c xss.length i vb (.slice ra xs.length rc) (RV rs xss) w q1 hlt hcap.1 (by omega) hv rfl RV_one hn (by omega)).mono ?_
      rintro e w' ⟨a', c', rfl, o, g'⟩
      have g2 : w.grownBy w' (blockOf (some ⟨g, 0, none⟩)) := ⟨g'.os, g'.tape, g'.output, g'.size, fun k hk _ => g'.block k hk (by simp)⟩
      exact ⟨a', c', rfl, OM.inserted q1 q3 hrow hBC hC hi o g2, g2⟩

end Go.Proofs.Ytninamlcffemoaa
