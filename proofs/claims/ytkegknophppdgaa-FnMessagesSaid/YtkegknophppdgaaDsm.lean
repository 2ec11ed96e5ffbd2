/- The draw of a message to split: contract of DrawSplitMessage. -/
import Derived.Test.YtkegknophppdgaaDsy
namespace Go.Proofs.Ytkegknophppdgaa
open Go.RowKit
set_option linter.unusedVariables false
set_option maxRecDepth 20000

/-- Drawn bytes, a drawn width, size and first number. -/
def DSM (w : World) (e : Ending) (w' : World) : Prop := ∃ a2 c2 zs, ∃ m s f : Int, e = .returned (.tuple #[.slice a2 zs.length c2, .int .i64 m, .int .i64 s, .int .i64 f]) ∧ (AllB zs ∧ zs.length ≤ 401 ∧ 0 ≤ m ∧ m ≤ 17 ∧ 0 ≤ s ∧ s ≤ 9 ∧ -1 ≤ f ∧ f ≤ 999999999591) ∧ Vals w' a2 (Y zs) ∧ Ext w w'

theorem results4 {fn : Func} {t u v x : Tmp} (h : fn.results = #[.tmp t, .tmp u, .tmp v, .tmp x]) (tmps : Array Value) (P : Program) (w : World) :
    (results fn tmps).run P w = .ok (.tuple #[tmps.getD t undef, tmps.getD u undef, tmps.getD v undef, tmps.getD x undef]) w := by
  simp [results, h]

theorem Vals.takeYd {w : World} {a : Option Addr} {zs : List Int} (h : Vals w a (Y zs)) (k : Nat) : Vals w a (Y (zs.take k)) := fun i hi => by
  have h1 : i < (Y zs).length := by simp at hi ⊢; omega
  obtain ⟨b, o, hb, hc⟩ := h i h1
  refine ⟨b, o, hb, ?_⟩
  rw [hc]
  simp

set_option maxHeartbeats 4000000 in
theorem drawSplit_ok (a : Option Addr) (c : Nat) (bs : List Int) (w : World) (h : Vals w a (Y bs)) (hb : ∀ x ∈ bs, 0 ≤ x ∧ x ≤ 255) (hl : bs.length ≤ 1048576) :
    Calls Try.prog 58 #[.slice a bs.length c] w (DSM w) := by
  have C0 := Lib.hid (drawBytesW_ok a c bs w h hb hl)
  have C1 := Lib.hid (fun W (he : Ext w W) => l1New_ok a c bs W (h.ext he) hb hl)
  have CI := Lib.hid (fun g => l1Int_ok g a c bs)
  clear h hb
  go_enter Try.func58, Try.ntmps58
  go_wp2_with fail
  (with_reducible refine C0.out.mono ?_)
  rintro e w0 ⟨az, cz, zs, m, rfl, ⟨hzb, hzl, hzc, hm0, hm1⟩, hZ, e0⟩
  have HZB := Lib.hid hzb
  have C1' := Lib.hid (C1.out w0 e0)
  clear C0 C1 hzb
  go_wp2_with fail
  (with_reducible refine C1'.out.mono ?_)
  rintro e w1 ⟨rfl, k1, e1⟩
  obtain ⟨g, hgg⟩ : ∃ g, w0.heap.size = g := ⟨_, rfl⟩
  have hwg : w.heap.size ≤ g := by have := e0.size_le; omega
  rw [hgg] at k1 ⊢
  have hg1 := k1.lt
  have LV := Lib.hid (lit_span (w := w1) (g := g) hg1 [0, 1, 2, 3, 8, 9] 3)
  have KL := Lib.hid (k1.ext ((Ext.refl w1).alloc (.cells (I [0, 1, 2, 3, 8, 9]).toArray 3)))
  have E1 := Lib.hid ((e0.trans e1).alloc (.cells (I [0, 1, 2, 3, 8, 9]).toArray 3))
  have hZ1 := Lib.hid ((hZ.ext e1).ext ((Ext.refl w1).alloc (.cells (I [0, 1, 2, 3, 8, 9]).toArray 3)))
  have hzg : ∀ k, blockOf az = some k → 0 < zs.length → k < g := fun k hk h0 => by
    obtain ⟨b, o, hb, hc⟩ := hZ 0 (by simp; omega)
    rw [hb] at hk
    injection hk with hk
    have h2 : b < w0.heap.size := World.block_lt_of_cell? _ _ hc
    have h3 : b = k := hk
    omega
  have HZG := Lib.hid hzg
  clear k1 e1 e0 hZ C1' hzg
  have cases3 : ((50 : Int) < (zs.length : Int) ∧ m < 3) ∨ ((50 : Int) < (zs.length : Int) ∧ ¬ m < 3) ∨ ¬ (50 : Int) < (zs.length : Int) := by omega
  rcases cases3 with ⟨c1, c2⟩ | ⟨c1, c2⟩ | c1
  all_goals
    go_wp2_with fail
    refine (CI.out g (some ⟨w1.heap.size, 0, none⟩) 6 [0, 1, 2, 3, 8, 9] _ KL.out LV.out (by simp) (by simp)).mono ?_
    rintro e w2 ⟨s, rfl, hs, k2, s2⟩
    have hs2 : 0 ≤ s ∧ s ≤ 9 := by simp at hs; omega
    have E2 : Ext w w2 := Span.ext E1.out s2 (by omega)
    have hZ2 : Vals w2 az (Y zs) := by
      by_cases h0 : 0 < zs.length
      · exact Vals.span hZ1.out s2 fun k hk => .inl (HZG.out k hk h0)
      · have : zs = [] := List.eq_nil_of_length_eq_zero (by omega)
        rw [this]
        exact Vals.nil _ _
    have hg2 := k2.lt
    have LV2 := Lib.hid (lit_span (w := w2) (g := g) hg2 [-1, 0, 7, 999999999590, 999999999591] 3)
    have KL2 := Lib.hid (k2.ext ((Ext.refl w2).alloc (.cells (I [-1, 0, 7, 999999999590, 999999999591]).toArray 3)))
    have E2' := Lib.hid (E2.alloc (.cells (I [-1, 0, 7, 999999999590, 999999999591]).toArray 3))
    have hZ2' := Lib.hid (hZ2.ext ((Ext.refl w2).alloc (.cells (I [-1, 0, 7, 999999999590, 999999999591]).toArray 3)))
    clear hs k2 s2 E2 hZ2 LV KL E1 hZ1
    go_wp2_with fail
    refine (CI.out g (some ⟨w2.heap.size, 0, none⟩) 5 [-1, 0, 7, 999999999590, 999999999591] _ KL2.out LV2.out (by simp) (by simp)).mono ?_
    rintro e w3 ⟨f, rfl, hf, k3, s3⟩
    have hf2 : -1 ≤ f ∧ f ≤ 999999999591 := by simp at hf; omega
    have E3 : Ext w w3 := Span.ext E2'.out s3 (by omega)
    have hZ3 : Vals w3 az (Y zs) := by
      by_cases h0 : 0 < zs.length
      · exact Vals.span hZ2'.out s3 fun k hk => .inl (HZG.out k hk h0)
      · have : zs = [] := List.eq_nil_of_length_eq_zero (by omega)
        rw [this]
        exact Vals.nil _ _
    clear hf k3 s3 LV2 KL2 E2' hZ2' HZG
    go_wp2_with fail
    ((try simp only [Exit.inBlock, Exit.then]); refine bodyPost_ret (results4 rfl _ _ _) rfl ?_)
    first
    | exact ⟨az, cz, zs, m, s, f, rfl, ⟨HZB.out, hzl, hm0, hm1, hs2.1, hs2.2, hf2.1, hf2.2⟩, hZ3, E3⟩
    | exact ⟨az, cz, zs.take 50, m, s, f, by rw [List.length_take, show min 50 zs.length = 50 by omega]; rfl, ⟨fun x hx => HZB.out x (List.mem_of_mem_take hx), by rw [List.length_take]; omega, hm0, hm1, hs2.1, hs2.2, hf2.1, hf2.2⟩, hZ3.takeYd 50, E3⟩

end Go.Proofs.Ytkegknophppdgaa
