/- MuteBetween: of any mute, any number, any number more: up to Next a mute says the same all the time, and then something else. Conditions: none. -/
import Derived.Test.YtkpkeachhkbbkaaMutG
import Derived.Test.YtkpkeachhkbbkaaMutL
import Derived.Test.YtkpkeachhkbbkaaFrame
namespace Go.Proofs.Ytkpkeachhkbbkaa.muteBetween
open Go.ChangeShapes Go.WideShapes Go.ChangeAt Go.RowKit Mut
set_option linter.unusedVariables false
/-- the end of what stays the same -/
def fin (m : MuteD) (n : Int) : Int := if nxt m n < 0 then min (n + 11520) 1099511627776 + 1 else nxt m n
theorem fin_gt (m : MuteD) (n : Int) (h0 : 0 ≤ n) (h1 : n ≤ 1099511627776) : n < fin m n ∧ fin m n ≤ 1099511627777 := by
  unfold fin
  rcases isNext m n h0 h1 with ⟨h, _⟩ | ⟨⟨h, h', _⟩, _⟩
  · rw [h]; simp; omega
  · split <;> omega
theorem fin_same (m : MuteD) (n x : Int) (h0 : 0 ≤ n) (h1 : n ≤ 1099511627776) (hx : n ≤ x) (hf : x < fin m n) : sil m x = sil m n := by
  rcases Int.lt_or_eq_of_le hx with hx | rfl
  · rw [sil_eq]
    have e := (fin_gt m n h0 h1).2
    have : ¬ Chg m n x := by
      unfold fin at hf
      rcases isNext m n h0 h1 with ⟨_, h⟩ | ⟨⟨h, h', _⟩, _, hb⟩
      · exact h x
      · rw [if_neg (by omega)] at hf
        exact hb x hx hf
    exact Classical.byContradiction fun hh => this ⟨hx, by omega, hh⟩
  · rfl
set_option maxRecDepth 100000 in
set_option maxHeartbeats 1000000 in
theorem walk (m : MuteD) (n k : Int) (wn : (Lit.int .i64 n).wf = true) (wk : (Lit.int .i64 k).wf = true) (w : World) : Calls Try.prog 6 #[.agg #[.string m.nm, .bool m.d0, .bool m.d1, .bool m.d2, .bool m.d3, .bool m.d4, .bool m.d5, .bool m.d6, .int .i64 m.f, .int .i64 m.t], .int .i64 n, .int .i64 k] w fun e w' => e = .returned (.bool true) ∧ Below w.heap.size w w' := by
  go_enter Try.func6, Try.ntmps6
  go_wp2_with fail
  refine (awake_any _).mono ?_
  rintro e w1 ⟨rfl, hb⟩
  have hB : Below w.heap.size w w1 := ((Below.refl _ w).alloc (Nat.le_refl _) _).trans (hb.mono (by simp))
  have hm : w1.heap[w.heap.size]? = some (.cells #[.string m.nm, .bool m.d0, .bool m.d1, .bool m.d2, .bool m.d3, .bool m.d4, .bool m.d5, .bool m.d6, .int .i64 m.f, .int .i64 m.t] 26 (0, 0)) := (hb.block _ (by simp)).trans (World.alloc_heap_new w _)
  clear hb
  have hlt : w.heap.size < w1.heap.size := (Array.getElem?_eq_some_iff.1 hm).1
  by_cases hin : 0 ≤ n ∧ n ≤ 1099511627776
  · obtain ⟨h0, h1⟩ := hin
    have hf := fin_gt m n h0 h1
    have hsame := fin_same m n
    obtain ⟨v, hv⟩ : ∃ v, nxt m n = v := ⟨_, rfl⟩
    have hnx := isNext m n h0 h1
    have hfin : fin m n = if v < 0 then min (n + 11520) 1099511627776 + 1 else v := by unfold fin; rw [hv]
    rw [hfin] at hf hsame
    rw [hv] at hnx
    obtain ⟨s, hs⟩ : ∃ s, sil m n = s := ⟨_, rfl⟩
    have HV := Lib.hid hv
    have HS := Lib.hid hs
    have HSAME := Lib.hid hsame
    clear hv hs hfin hsame
    obtain ⟨c0, c1, c2, c3, c4, c5, c6, c7, c8, c9⟩ := mute_cells hm
    go_wp2_with fail
    refine (nx_M HV.out _).mono ?_
    rintro e w2 ⟨rfl, hb⟩
    have hB2 := hB.trans (hb.mono hB.size)
    have hm2 := (hb.block _ hlt).trans hm
    clear c0 c1 c2 c3 c4 c5 c6 c7 c8 c9 hb hB hm
    obtain ⟨c0, c1, c2, c3, c4, c5, c6, c7, c8, c9⟩ := mute_cells hm2
    go_wp2_with fail
    refine (sl_M HS.out _).mono ?_
    rintro e w3 ⟨rfl, hb⟩
    have hB3 := hB2.trans (hb.mono hB2.size)
    have hm3 := (hb.block _ (Array.getElem?_eq_some_iff.1 hm2).1).trans hm2
    clear c0 c1 c2 c3 c4 c5 c6 c7 c8 c9 hb hB2 hm2 
    obtain ⟨c0, c1, c2, c3, c4, c5, c6, c7, c8, c9⟩ := mute_cells hm3
    rcases hnx with ⟨rfl, _⟩ | ⟨⟨g1, g2, g3⟩, g4, _⟩
    · rcases Int.lt_or_le 1099511627776 (n + 11520) with t | t <;> rcases (Int.lt_or_le k 0).symm with tk | tk
      · have key : ∀ x, n ≤ x → x < 1099511627777 → sil m x = s := fun x a b => (HSAME.out x h0 h1 a (by simp; omega)).trans HS.out
        have r0 : 0 ≤ k % (1099511627777 - n) := Int.emod_nonneg _ (by omega)
        have r1 : k % (1099511627777 - n) < 1099511627777 - n := Int.emod_lt_of_pos _ (by omega)
        have hw1 : wrap64 (n + k % (1099511627777 - n)) = n + k % (1099511627777 - n) := IntWalk.wrap64_in _ (by omega)
        clear HSAME
        go_wp2_with fail
        refine (sl_M (key _ (by omega) (by omega)) _).mono ?_
        rintro e w4 ⟨rfl, hb⟩
        have hB4 := hB3.trans (hb.mono hB3.size)
        have hm4 := (hb.block _ (Array.getElem?_eq_some_iff.1 hm3).1).trans hm3
        clear c0 c1 c2 c3 c4 c5 c6 c7 c8 c9 hb hB3 hm3
        obtain ⟨c0, c1, c2, c3, c4, c5, c6, c7, c8, c9⟩ := mute_cells hm4
        go_wp2_with fail
        refine (sl_M (key _ (by omega) (by omega)) _).mono ?_
        rintro e w5 ⟨rfl, hb⟩
        have hB5 := hB4.trans (hb.mono hB4.size)
        clear c0 c1 c2 c3 c4 c5 c6 c7 c8 c9 hb hB4 hm4
        go_wp2_with fail
        go_ret
        exact ⟨rfl, hB5⟩
      · have key : ∀ x, n ≤ x → x < 1099511627777 → sil m x = s := fun x a b => (HSAME.out x h0 h1 a (by simp; omega)).trans HS.out
        have hw1 : wrap64 n = n := IntWalk.wrap64_in _ (by omega)
        clear HSAME
        go_wp2_with fail
        refine (sl_M (key _ (by omega) (by omega)) _).mono ?_
        rintro e w4 ⟨rfl, hb⟩
        have hB4 := hB3.trans (hb.mono hB3.size)
        have hm4 := (hb.block _ (Array.getElem?_eq_some_iff.1 hm3).1).trans hm3
        clear c0 c1 c2 c3 c4 c5 c6 c7 c8 c9 hb hB3 hm3
        obtain ⟨c0, c1, c2, c3, c4, c5, c6, c7, c8, c9⟩ := mute_cells hm4
        go_wp2_with fail
        refine (sl_M (key _ (by omega) (by omega)) _).mono ?_
        rintro e w5 ⟨rfl, hb⟩
        have hB5 := hB4.trans (hb.mono hB4.size)
        clear c0 c1 c2 c3 c4 c5 c6 c7 c8 c9 hb hB4 hm4
        go_wp2_with fail
        go_ret
        exact ⟨rfl, hB5⟩
      · have key : ∀ x, n ≤ x → x < n + 11520 + 1 → sil m x = s := fun x a b => (HSAME.out x h0 h1 a (by simp; omega)).trans HS.out
        have r0 : 0 ≤ k % (n + 11520 + 1 - n) := Int.emod_nonneg _ (by omega)
        have r1 : k % (n + 11520 + 1 - n) < n + 11520 + 1 - n := Int.emod_lt_of_pos _ (by omega)
        have hw1 : wrap64 (n + k % (n + 11520 + 1 - n)) = n + k % (n + 11520 + 1 - n) := IntWalk.wrap64_in _ (by omega)
        clear HSAME
        go_wp2_with fail
        refine (sl_M (key _ (by omega) (by omega)) _).mono ?_
        rintro e w4 ⟨rfl, hb⟩
        have hB4 := hB3.trans (hb.mono hB3.size)
        have hm4 := (hb.block _ (Array.getElem?_eq_some_iff.1 hm3).1).trans hm3
        clear c0 c1 c2 c3 c4 c5 c6 c7 c8 c9 hb hB3 hm3
        obtain ⟨c0, c1, c2, c3, c4, c5, c6, c7, c8, c9⟩ := mute_cells hm4
        go_wp2_with fail
        refine (sl_M (key _ (by omega) (by omega)) _).mono ?_
        rintro e w5 ⟨rfl, hb⟩
        have hB5 := hB4.trans (hb.mono hB4.size)
        clear c0 c1 c2 c3 c4 c5 c6 c7 c8 c9 hb hB4 hm4
        go_wp2_with fail
        go_ret
        exact ⟨rfl, hB5⟩
      · have key : ∀ x, n ≤ x → x < n + 11520 + 1 → sil m x = s := fun x a b => (HSAME.out x h0 h1 a (by simp; omega)).trans HS.out
        have hw1 : wrap64 n = n := IntWalk.wrap64_in _ (by omega)
        clear HSAME
        go_wp2_with fail
        refine (sl_M (key _ (by omega) (by omega)) _).mono ?_
        rintro e w4 ⟨rfl, hb⟩
        have hB4 := hB3.trans (hb.mono hB3.size)
        have hm4 := (hb.block _ (Array.getElem?_eq_some_iff.1 hm3).1).trans hm3
        clear c0 c1 c2 c3 c4 c5 c6 c7 c8 c9 hb hB3 hm3
        obtain ⟨c0, c1, c2, c3, c4, c5, c6, c7, c8, c9⟩ := mute_cells hm4
        go_wp2_with fail
        refine (sl_M (key _ (by omega) (by omega)) _).mono ?_
        rintro e w5 ⟨rfl, hb⟩
        have hB5 := hB4.trans (hb.mono hB4.size)
        clear c0 c1 c2 c3 c4 c5 c6 c7 c8 c9 hb hB4 hm4
        go_wp2_with fail
        go_ret
        exact ⟨rfl, hB5⟩
    · have g3' : (sil m v == s) = false := by rw [← HS.out]; simpa using fun h => g3 ((sil_eq m v n).1 h)
      obtain ⟨u, hu⟩ : ∃ u, sil m v = u := ⟨_, rfl⟩
      rw [hu] at g3'
      have t1 : decide (v ≤ n) = false := by simp; omega
      have t2 : decide (n + 11520 < v) = false := by simp; omega
      have t3 : decide (1099511627776 < v) = false := by simp; omega
      go_wp2_with fail
      refine (sl_M hu _).mono ?_
      rintro e w4 ⟨rfl, hb⟩
      have hB4 := hB3.trans (hb.mono hB3.size)
      have hm4 := (hb.block _ (Array.getElem?_eq_some_iff.1 hm3).1).trans hm3
      clear c0 c1 c2 c3 c4 c5 c6 c7 c8 c9 hb hB3 hm3
      have hB3 := hB4
      have hm3 := hm4
      clear hB4 hm4
      obtain ⟨c0, c1, c2, c3, c4, c5, c6, c7, c8, c9⟩ := mute_cells hm3
      rcases (Int.lt_or_le k 0).symm with tk | tk
      · have key : ∀ x, n ≤ x → x < v → sil m x = s := fun x a b => (HSAME.out x h0 h1 a (by rw [if_neg (by omega)]; omega)).trans HS.out
        have r0 : 0 ≤ k % (v - n) := Int.emod_nonneg _ (by omega)
        have r1 : k % (v - n) < v - n := Int.emod_lt_of_pos _ (by omega)
        have hw1 : wrap64 (n + k % (v - n)) = n + k % (v - n) := IntWalk.wrap64_in _ (by omega)
        clear HSAME
        go_wp2_with fail
        refine (sl_M (key _ (by omega) (by omega)) _).mono ?_
        rintro e w4 ⟨rfl, hb⟩
        have hB4 := hB3.trans (hb.mono hB3.size)
        have hm4 := (hb.block _ (Array.getElem?_eq_some_iff.1 hm3).1).trans hm3
        clear c0 c1 c2 c3 c4 c5 c6 c7 c8 c9 hb hB3 hm3
        obtain ⟨c0, c1, c2, c3, c4, c5, c6, c7, c8, c9⟩ := mute_cells hm4
        go_wp2_with fail
        refine (sl_M (key _ (by omega) (by omega)) _).mono ?_
        rintro e w5 ⟨rfl, hb⟩
        have hB5 := hB4.trans (hb.mono hB4.size)
        clear c0 c1 c2 c3 c4 c5 c6 c7 c8 c9 hb hB4 hm4
        go_wp2_with fail
        go_ret
        exact ⟨rfl, hB5⟩
      · have key : ∀ x, n ≤ x → x < v → sil m x = s := fun x a b => (HSAME.out x h0 h1 a (by rw [if_neg (by omega)]; omega)).trans HS.out
        have hw1 : wrap64 n = n := IntWalk.wrap64_in _ (by omega)
        clear HSAME
        go_wp2_with fail
        refine (sl_M (key _ (by omega) (by omega)) _).mono ?_
        rintro e w4 ⟨rfl, hb⟩
        have hB4 := hB3.trans (hb.mono hB3.size)
        have hm4 := (hb.block _ (Array.getElem?_eq_some_iff.1 hm3).1).trans hm3
        clear c0 c1 c2 c3 c4 c5 c6 c7 c8 c9 hb hB3 hm3
        obtain ⟨c0, c1, c2, c3, c4, c5, c6, c7, c8, c9⟩ := mute_cells hm4
        go_wp2_with fail
        refine (sl_M (key _ (by omega) (by omega)) _).mono ?_
        rintro e w5 ⟨rfl, hb⟩
        have hB5 := hB4.trans (hb.mono hB4.size)
        clear c0 c1 c2 c3 c4 c5 c6 c7 c8 c9 hb hB4 hm4
        go_wp2_with fail
        go_ret
        exact ⟨rfl, hB5⟩
  · have hv : nxt m n = -1 := by unfold nxt; rw [if_neg hin]
    have hn : n < 0 ∨ 1099511627776 < n := by omega
    obtain ⟨c0, c1, c2, c3, c4, c5, c6, c7, c8, c9⟩ := mute_cells hm
    go_wp2_with fail
    refine (nx_M hv _).mono ?_
    rintro e w2 ⟨rfl, hb⟩
    have hB2 := hB.trans (hb.mono hB.size)
    clear c0 c1 c2 c3 c4 c5 c6 c7 c8 c9 hb hB hm
    rcases hn with hn | hn
    all_goals
      go_wp2_with fail
      go_ret
      exact ⟨rfl, hB2⟩
set_option maxRecDepth 100000 in
theorem lifted (os : Os) (started : os.Started) (H : Type) (enc : TypeId × Value → H) :
    ReturnsInHanded {} Try.checked os 6 .any (Rows.muteBetweenSpec.pre6 enc Try.prog Try.f6 Rows.muteBetweenRow.domain false) (Rows.muteBetweenSpec.post enc Try.prog Try.f6 false true false false) := by
  refine returnsInHanded_of_change (C := Try.checked) own_knob started (by kernel_rfl) Try.func6
    (ChangeSpec.witness6 (enc := enc) (C := Try.checked) false ⟨#[], #[.agg #[.string ⟨#[]⟩, .bool false, .bool false, .bool false, .bool false, .bool false, .bool false, .bool false, .int .i64 0, .int .i64 0], .int .i64 0, .int .i64 0], []⟩ 8 (by kernel_rfl) (by kernel_rfl) (by kernel_rfl) (by kernel_rfl)) ?_
  intro W base args ds gs before hval0 hW hcnd _
  refine law_contract (spec := Rows.muteBetweenSpec) rfl ?_ (by rfl) ?_ hW ?_
  · intro ds hlen
    rw [Try.params6] at hlen
    match ds, hlen with
    | [d0, d1, d2], _ => rfl
  · rw [Try.params6]
    intro t ht
    simp only [List.mem_cons, List.not_mem_nil, or_false] at ht
    rcases ht with rfl | rfl | rfl <;> exact ⟨by kernel_rfl, of_decide_eq_true (by kernel_rfl)⟩
  have hval : ∀ (j : Nat) t v, Try.f6.params[j]? = some t → args[j]? = some v → Value.okWide Try.prog W .any base t v := hval0
  obtain ⟨p, q, hA0, _, _, _, _⟩ := hW
  have hA : DataW.TrodAll enc Try.prog W 0 (fun _ => true) true Try.f6.params.toList args.toList ds p := hA0
  rw [Try.params6] at hA hval
  obtain ⟨v0, vs0, d0, ds0, p0, q0, hargs, rfl, rfl, h0, r0⟩ := trodAll_cons hA
  obtain ⟨v1, vs1, d1, ds1, p1, q1, rfl, rfl, rfl, h1, r1⟩ := trodAll_cons r0
  obtain ⟨v2, vs2, d2, ds2, p2, q2, rfl, rfl, rfl, h2, r2⟩ := trodAll_cons r1
  obtain ⟨rfl, rfl, rfl⟩ := trodAll_nil r2
  obtain rfl : args = #[v0, v1, v2] := by cases args; simp_all
  obtain ⟨a0, rfl⟩ := open_mute (hval 0 _ v0 rfl rfl) h0
  obtain ⟨a1, rfl, rfl, rfl, w1⟩ := open_int Try.underlying3 (hval 1 _ v1 rfl rfl) h1
  obtain ⟨a2, rfl, rfl, rfl, w2⟩ := open_int Try.underlying3 (hval 2 _ v2 rfl rfl) h2
  exact walk a0 a1 a2 w1 w2 W
theorem over : Rows.muteBetweenRow.holds Try.pinned (OpenSpec.ofChange Rows.muteBetweenSpec) :=
  OpenClaim.holds_of_wide 6 Try.f6 rfl rfl rfl rfl rfl rfl rfl ⟨rfl, rfl, rfl, rfl, rfl⟩ rfl rfl rfl rfl rfl (by kernel_rfl) Try.func6 (by kernel_rfl)
    (of_decide_eq_true (by kernel_rfl)) (by unfold Func.isWrapper; first | (rw [if_pos (by decide +kernel)]; kernel_rfl) | (rw [if_neg (by decide +kernel)]; exact ⟨rfl, rfl⟩))
    (fun os started H enc _ => lifted os started H enc)
theorem proved : Rows.MuteBetweenSaid := over
#print axioms proved
end Go.Proofs.Ytkpkeachhkbbkaa.muteBetween
