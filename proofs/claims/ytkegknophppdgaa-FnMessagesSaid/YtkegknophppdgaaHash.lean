/- Contracts of Hash, slices.Grow, slices.Concat, KeyedHash, RandomNumber. -/
import Derived.Test.YtkegknophppdgaaVec
import Derived.Test.YtkegknophppdgaaMat
import Derived.Lib.AppendZeros
namespace Go.Proofs.Ytkegknophppdgaa
open Go.RowKit
set_option linter.unusedVariables false
set_option maxRecDepth 20000

def hashStep (s x : Int) : Int := (s * 1000003 + modI x 2147483647 + 13) % 2147483647
def hashI (xs : List Int) : Int := xs.foldl hashStep 11

theorem foldl_take {α β : Type} (f : β → α → β) (s : β) {xs : List α} {k : Nat} {x : α} (h : xs[k]? = some x) : (xs.take (k + 1)).foldl f s = f ((xs.take k).foldl f s) x := by
  rw [List.take_add_one, h, List.foldl_append]
  rfl

theorem hash_range (xs : List Int) : 0 ≤ hashI xs ∧ hashI xs ≤ 2147483646 := by
  unfold hashI
  rcases List.eq_nil_or_concat xs with rfl | ⟨l, x, rfl⟩
  · decide
  · rw [List.concat_eq_append, List.foldl_append]
    show 0 ≤ hashStep _ x ∧ hashStep _ x ≤ 2147483646
    unfold hashStep
    omega

theorem int_underlying : Try.prog.underlying 3 = some (.int .i64) := Try.underlying3

/-- slices.Grow of a nil slice by n: a slice of no element, of the call's own. -/
theorem growI_ok (n : Nat) (w : World) (hn : n ≤ 1099511627776) :
    Calls Try.prog 167 #[.slice none 0 0, .int .i64 n] w (NewI w []) := by
  obtain ⟨i, hi, hz0, hz1, hz2⟩ := info_parts infoInt
  by_cases h0 : n = 0
  · subst h0
    go_enter Try.func167, Try.ntmps167
    go_wp2
    go_ret
    exact ⟨none, 0, rfl, OwnI.nil _ _, Ext.refl _⟩
  · have hpos : (0 : Int) < (n : Int) := by omega
    have hrun := fun W : World => Lib.run_append_nil_zeros (P := Try.prog) W 32 3 32 3 i (.int .i64 0) .i64 .i64 Try.underlying32 int_underlying hi hz0 n (by omega) (by omega) (by omega) (by rw [hz2]; omega)
    have HR := Lib.hid hrun
    clear hrun
    go_enter Try.func167, Try.ntmps167
    go_wp2_with (at_builtin; refine Lib.wpList_append_run _ rfl _ _ _ _ rfl _ _ rfl rfl _ _ (HR.out _) ?_)
    go_ret
    have hge := grownCap_ge w n 0 3
    refine ⟨some ⟨w.heap.size, 0, none⟩, grownCap w n 0 3, rfl, World.ownsRow.drew (World.ownsRow_made w _ _ (Nat.le_refl _) (grownCap_le_maxLen w n 0 3 (by unfold maxLen; omega)) ?_), ((Ext.refl w).alloc _).drew⟩
    simp [size_zeroCells]
    omega

theorem flat_take {α : Type} {xss : List (List α)} {k : Nat} {xs : List α} (h : xss[k]? = some xs) : (xss.take (k + 1)).flatten = (xss.take k).flatten ++ xs := by
  rw [List.take_add_one, h, List.flatten_append]
  simp
theorem flat_take_le {α : Type} (xss : List (List α)) (k : Nat) : (xss.take k).flatten.length ≤ xss.flatten.length := by
  have : xss.flatten = (xss.take k).flatten ++ (xss.drop k).flatten := by rw [← List.flatten_append, List.take_append_drop]
  rw [this, List.length_append]
  omega

/-- The first k lists, one behind the other. -/
def cat (xss : List (List Int)) (k : Nat) : List Int := (xss.take k).flatten
theorem cat_zero (xss : List (List Int)) : cat xss 0 = [] := rfl
theorem cat_succ {xss : List (List Int)} {k : Nat} {xs : List Int} (h : xss[k]? = some xs) : cat xss (k + 1) = cat xss k ++ xs := flat_take h
theorem cat_le (xss : List (List Int)) (k : Nat) : (cat xss k).length ≤ xss.flatten.length := flat_take_le xss k
theorem cat_all {xss : List (List Int)} {k : Nat} (h : xss.length ≤ k) : cat xss k = xss.flatten := by unfold cat; rw [List.take_of_length_le h]

set_option maxHeartbeats 1000000 in
theorem concatI_ok (a : Option Addr) (c : Nat) (rs : List (Option Addr × Nat)) (xss : List (List Int)) (w : World) (h : Mat w a rs xss) (hl : xss.length ≤ 1048576) (ht : xss.flatten.length ≤ 1099511627776) :
    Calls Try.prog 141 #[.slice a xss.length c] w (NewI w xss.flatten) := by
  go_enter Try.func141, Try.ntmps141
  go_wp2
  go_loop [3, 11] (fun n i => ∃ k : Nat, k ≤ xss.length ∧ i = .int .i64 k ∧ n = .int .i64 ((cat xss k).length : Nat)) (fun _ i => xss.length - (intOf i).toNat)
  case atStart => exact ⟨0, Nat.zero_le _, rfl, rfl⟩
  case round =>
    obtain ⟨k, hk, rfl, rfl⟩ := hrel
    have hle := cat_le xss k
    by_cases hlt : k < xss.length
    · obtain ⟨b, o, ra, rc, xs, rfl, hb, hr, hx, hc, hv⟩ := h.at_ hlt
      have hle' := cat_le xss (k + 1)
      rw [cat_succ hx.out, List.length_append] at hle'
      go_wp2
      go_round
      case rel => exact ⟨k + 1, by omega, by go_num, int_eq (by rw [cat_succ hx.out, List.length_append]; omega)⟩
      case measure => simp [intOf]; omega
    · go_wp2_with (go_at_call 167; refine (growI_ok _ _ (by omega)).mono ?_; rintro e w1 ⟨a1, c1, rfl, o1, e1⟩)
      go_loopw [6, 27] (fun v i wr => ∃ k a' c', k ≤ xss.length ∧ i = .int .i64 (k : Nat) ∧ v = .slice a' (cat xss k).length c' ∧ OwnI wr w.heap.size a' c' (cat xss k) ∧ Ext w wr) (fun _ i _ => xss.length - (intOf i).toNat)
      case atStart => exact ⟨0, a1, c1, Nat.zero_le _, rfl, rfl, o1, e1⟩
      case round =>
        clear o1 e1 hlt hk hle
        obtain ⟨k, a', c', hk, rfl, rfl, hown, he⟩ := hrel
        by_cases hlt : k < xss.length
        · obtain ⟨b, o, ra, rc, xs, rfl, hb, hr, hx, hc, hv⟩ := (h.ext he).at_ hlt
          have hle' := cat_le xss (k + 1)
          rw [cat_succ hx.out, List.length_append] at hle'
          go_wp2_with (at_builtin; refine wpList_appI _ rfl _ _ rfl w.heap.size _ _ _ rfl hown _ _ _ rfl hv (cat xss (k + 1)) (cat_succ hx.out) (by omega) he.size_le ?_)
          intro a2 c2 w2 hown2 hg _
          have he2 := he.grown hg (fun k hk => (hown.block k hk).1)
          clear hown he hg
          go_wp2
          go_roundw
          case rel => exact ⟨k + 1, a2, c2, by omega, by go_num, rfl, hown2, he2⟩
          case measure => simp [intOf]; omega
        · have E : Hid (cat xss k = xss.flatten) := cat_all (by omega)
          go_wp2
          go_ret
          rw [← E.out]
          exact ⟨a', c', rfl, hown, he⟩

/-- Three slices beside each other, as a literal holds them. -/
theorem Mat.lit3 {w : World} {e : TypeId} {a0 a1 a2 : Option Addr} {c0 c1 c2 : Nat} {x0 x1 x2 : List Int} (h0 : Vals w a0 (I x0)) (h1 : Vals w a1 (I x1)) (h2 : Vals w a2 (I x2)) :
    Mat (w.alloc (.cells #[.slice a0 x0.length c0, .slice a1 x1.length c1, .slice a2 x2.length c2] e)) (some ⟨w.heap.size, 0, none⟩) [(a0, c0), (a1, c1), (a2, c2)] [x0, x1, x2] := by
  have he := (Ext.refl w).alloc (.cells #[.slice a0 x0.length c0, .slice a1 x1.length c1, .slice a2 x2.length c2] e)
  refine ⟨rfl, Vals.new w _ e, fun i r xs hr hx => ?_⟩
  match i with
  | 0 => simp at hr hx; subst hr hx; exact h0.ext he
  | 1 => simp at hr hx; subst hr hx; exact h1.ext he
  | 2 => simp at hr hx; subst hr hx; exact h2.ext he
  | i + 3 => simp at hr

def khash (key : Int) (xs : List Int) : Int := hashI (key :: (xs ++ [key]))

def rnum (seed index limit : Int) : Int := if inR limit 1 1000000000000 then khash seed [index, 71] * khash seed [index, 71] % 2147483647 % limit else 0
theorem khash_range (key : Int) (xs : List Int) : 0 ≤ khash key xs ∧ khash key xs ≤ 2147483646 := hash_range _

theorem sq_le {h : Int} (h0 : 0 ≤ h) (h1 : h ≤ 2147483646) : 0 ≤ h * h ∧ h * h ≤ 4611686009837453316 := by
  refine ⟨Int.mul_nonneg h0 h0, ?_⟩
  have := Int.mul_le_mul h1 h1 h0 (by omega : (0 : Int) ≤ 2147483646)
  omega

end Go.Proofs.Ytkegknophppdgaa
