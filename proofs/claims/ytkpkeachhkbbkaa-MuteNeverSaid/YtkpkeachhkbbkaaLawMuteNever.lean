/- MuteNever: of any mute, any number: one without days is never silent and never changes; the name changes nothing. Conditions: none. -/
import Derived.Test.YtkpkeachhkbbkaaMutG
import Derived.Test.YtkpkeachhkbbkaaMutL
import Derived.Test.YtkpkeachhkbbkaaFrame
namespace Go.Proofs.Ytkpkeachhkbbkaa.muteNever
open Go.ChangeShapes Go.WideShapes Go.ChangeAt Go.RowKit Mut
set_option linter.unusedVariables false
theorem sil_none (m : MuteD) (n : Int) : sil { m with d0 := false, d1 := false, d2 := false, d3 := false, d4 := false, d5 := false, d6 := false } n = false := by
  unfold sil
  rw [decide_eq_false_iff_not]
  intro h
  have e : ∀ q, ¬ MuteD.on { m with d0 := false, d1 := false, d2 := false, d3 := false, d4 := false, d5 := false, d6 := false } q := fun q => by
    intro h; have h := h.2.2; unfold MuteD.day at h; revert h; repeat (split <;> simp)
  rcases h.2.2.2 with h | h
  · exact e _ h.1
  · exact e _ h.1
theorem nxt_none (m : MuteD) (n : Int) : nxt { m with d0 := false, d1 := false, d2 := false, d3 := false, d4 := false, d5 := false, d6 := false } n = -1 := by
  by_cases h : 0 ≤ n ∧ n ≤ 1099511627776
  · refine (isNext _ n h.1 h.2).unique (.inl ⟨rfl, fun x hx => hx.2.2 ?_⟩)
    rw [← sil_eq, sil_none, sil_none]
  · unfold nxt; rw [if_neg h]
theorem sil_name (m : MuteD) (s : ByteArray) (n : Int) : sil { m with nm := s } n = sil m n := rfl
theorem nxt_name (m : MuteD) (s : ByteArray) (n : Int) : nxt { m with nm := s } n = nxt m n := by
  by_cases h : 0 ≤ n ∧ n ≤ 1099511627776
  · exact IsNext.unique (m := m) (n := n) (isNext { m with nm := s } n h.1 h.2) (isNext m n h.1 h.2)
  · unfold nxt; rw [if_neg h, if_neg h]
theorem blocks_at {w w1 : World} {o : Obj} (hB : Below w.heap.size w w1) (hm : w1.heap[w.heap.size]? = some o) (x y : Array Value) (t : TypeId) :
    Below w.heap.size w ((w1.alloc (.cells x t)).alloc (.cells y t)).drew ∧ ((w1.alloc (.cells x t)).alloc (.cells y t)).drew.heap[w.heap.size]? = some o ∧ ((w1.alloc (.cells x t)).alloc (.cells y t)).drew.heap[w1.heap.size]? = some (.cells x t (0, 0)) ∧ ((w1.alloc (.cells x t)).alloc (.cells y t)).drew.heap[w1.heap.size + 1]? = some (.cells y t (0, 0)) := by
  have hlt : w.heap.size < w1.heap.size := (Array.getElem?_eq_some_iff.1 hm).1
  have e := World.alloc_heap_new (w1.alloc (.cells x t)) (.cells y t)
  rw [World.size_alloc] at e
  refine ⟨((hB.alloc hB.size _).alloc (by simp; omega) _).drew, ?_, ?_, e⟩
  · exact (Below.heap_alloc _ _ _ (by simp; omega)).trans ((Below.heap_alloc _ _ _ hlt).trans hm)
  · exact (Below.heap_alloc _ _ _ (by simp)).trans (World.alloc_heap_new w1 _)
set_option maxRecDepth 100000 in
set_option maxHeartbeats 1000000 in
theorem walk (m : MuteD) (n : Int) (_ : (Lit.int .i64 n).wf = true) (w : World) : Calls Try.prog 9 #[.agg #[.string m.nm, .bool m.d0, .bool m.d1, .bool m.d2, .bool m.d3, .bool m.d4, .bool m.d5, .bool m.d6, .int .i64 m.f, .int .i64 m.t], .int .i64 n] w fun e w' => e = .returned (.bool true) ∧ Below w.heap.size w w' := by
  go_enter Try.func9, Try.ntmps9
  go_wp2_with fail
  refine (awake_any _).mono ?_
  rintro e w1 ⟨rfl, hb⟩
  have hB : Below w.heap.size w w1 := ((Below.refl _ w).alloc (Nat.le_refl _) _).trans (hb.mono (by simp))
  have hm : w1.heap[w.heap.size]? = some (.cells #[.string m.nm, .bool m.d0, .bool m.d1, .bool m.d2, .bool m.d3, .bool m.d4, .bool m.d5, .bool m.d6, .int .i64 m.f, .int .i64 m.t] 26 (0, 0)) := (hb.block _ (by simp)).trans (World.alloc_heap_new w _)
  clear hb
  obtain ⟨c0, c1, c2, c3, c4, c5, c6, c7, c8, c9⟩ := mute_cells hm
  have hlt : w.heap.size < w1.heap.size := (Array.getElem?_eq_some_iff.1 hm).1
  go_wp2_with fail
  obtain ⟨s, hs⟩ : ∃ s, sil m n = s := ⟨_, rfl⟩
  obtain ⟨v, hv⟩ : ∃ v, nxt m n = v := ⟨_, rfl⟩
  have sM := Lib.hid hs
  have vM := Lib.hid hv
  have sA := Lib.hid ((sil_name m ⟨#[111, 116, 104, 101, 114]⟩ n).trans hs)
  have vA := Lib.hid ((nxt_name m ⟨#[111, 116, 104, 101, 114]⟩ n).trans hv)
  clear hs hv
  go_region
  all_goals (clear c0 c1 c2 c3 c4 c5 c6 c7 c8 c9)
  all_goals (go_wp2_with fail)
  · refine wp_gen (fun W => Below w.heap.size w W ∧ W.heap[w.heap.size]? = some (.cells #[.string m.nm, .bool m.d0, .bool m.d1, .bool m.d2, .bool m.d3, .bool m.d4, .bool m.d5, .bool m.d6, .int .i64 m.f, .int .i64 m.t] 26 (0, 0)) ∧ W.heap[w1.heap.size]? = some (.cells #[.string m.nm, .bool false, .bool false, .bool false, .bool false, .bool false, .bool false, .bool false, .int .i64 m.f, .int .i64 m.t] 26 (0, 0)) ∧ W.heap[w1.heap.size + 1]? = some (.cells #[.string ⟨#[111, 116, 104, 101, 114]⟩, .bool m.d0, .bool m.d1, .bool m.d2, .bool m.d3, .bool m.d4, .bool m.d5, .bool m.d6, .int .i64 m.f, .int .i64 m.t] 26 (0, 0))) (blocks_at hB hm _ _ _) ?_
    clear hB hm
    rintro W ⟨hB, hm, hN, hA⟩
    have q1 : ∀ dd os, Calls Try.prog 13 #[.agg #[.string m.nm, .bool false, .bool false, .bool false, .bool false, .bool false, .bool false, .bool false, .int .i64 m.f, .int .i64 m.t], .int .i64 n] (Sort.grow (redrawn W dd) os) fun e w'' => e = .returned (.bool false) ∧ ∃ p : Regrown, w'' = Sort.grow (redrawn W p.d) p.os := fun dd os => Calls.regrown_of (sl_M (sil_none m n) _)
    have q2 : ∀ dd os, Calls Try.prog 14 #[.agg #[.string m.nm, .bool false, .bool false, .bool false, .bool false, .bool false, .bool false, .bool false, .int .i64 m.f, .int .i64 m.t], .int .i64 n] (Sort.grow (redrawn W dd) os) fun e w'' => e = .returned (.int .i64 (-1)) ∧ ∃ p : Regrown, w'' = Sort.grow (redrawn W p.d) p.os := fun dd os => Calls.regrown_of (nx_M (nxt_none m n) _)
    have q3 : ∀ dd os, Calls Try.prog 13 #[.agg #[.string ⟨#[111, 116, 104, 101, 114]⟩, .bool m.d0, .bool m.d1, .bool m.d2, .bool m.d3, .bool m.d4, .bool m.d5, .bool m.d6, .int .i64 m.f, .int .i64 m.t], .int .i64 n] (Sort.grow (redrawn W dd) os) fun e w'' => e = .returned (.bool s) ∧ ∃ p : Regrown, w'' = Sort.grow (redrawn W p.d) p.os := fun dd os => Calls.regrown_of (sl_M (sA.out) _)
    have q4 : ∀ dd os, Calls Try.prog 13 #[.agg #[.string m.nm, .bool m.d0, .bool m.d1, .bool m.d2, .bool m.d3, .bool m.d4, .bool m.d5, .bool m.d6, .int .i64 m.f, .int .i64 m.t], .int .i64 n] (Sort.grow (redrawn W dd) os) fun e w'' => e = .returned (.bool s) ∧ ∃ p : Regrown, w'' = Sort.grow (redrawn W p.d) p.os := fun dd os => Calls.regrown_of (sl_M (sM.out) _)
    have q5 : ∀ dd os, Calls Try.prog 14 #[.agg #[.string ⟨#[111, 116, 104, 101, 114]⟩, .bool m.d0, .bool m.d1, .bool m.d2, .bool m.d3, .bool m.d4, .bool m.d5, .bool m.d6, .int .i64 m.f, .int .i64 m.t], .int .i64 n] (Sort.grow (redrawn W dd) os) fun e w'' => e = .returned (.int .i64 v) ∧ ∃ p : Regrown, w'' = Sort.grow (redrawn W p.d) p.os := fun dd os => Calls.regrown_of (nx_M (vA.out) _)
    have q6 : ∀ dd os, Calls Try.prog 14 #[.agg #[.string m.nm, .bool m.d0, .bool m.d1, .bool m.d2, .bool m.d3, .bool m.d4, .bool m.d5, .bool m.d6, .int .i64 m.f, .int .i64 m.t], .int .i64 n] (Sort.grow (redrawn W dd) os) fun e w'' => e = .returned (.int .i64 v) ∧ ∃ p : Regrown, w'' = Sort.grow (redrawn W p.d) p.os := fun dd os => Calls.regrown_of (nx_M (vM.out) _)
    obtain ⟨c0, c1, c2, c3, c4, c5, c6, c7, c8, c9⟩ := mute_cells hm
    obtain ⟨x0, x1, x2, x3, x4, x5, x6, x7, x8, x9⟩ := mute_cells (m := { m with d0 := false, d1 := false, d2 := false, d3 := false, d4 := false, d5 := false, d6 := false }) hN
    obtain ⟨y0, y1, y2, y3, y4, y5, y6, y7, y8, y9⟩ := mute_cells (m := { m with nm := ⟨#[111, 116, 104, 101, 114]⟩ }) hA
    have rc0 := cell_regrown c0
    have rc1 := cell_regrown c1
    have rc2 := cell_regrown c2
    have rc3 := cell_regrown c3
    have rc4 := cell_regrown c4
    have rc5 := cell_regrown c5
    have rc6 := cell_regrown c6
    have rc7 := cell_regrown c7
    have rc8 := cell_regrown c8
    have rc9 := cell_regrown c9
    have rx0 := cell_regrown x0
    have rx1 := cell_regrown x1
    have rx2 := cell_regrown x2
    have rx3 := cell_regrown x3
    have rx4 := cell_regrown x4
    have rx5 := cell_regrown x5
    have rx6 := cell_regrown x6
    have rx7 := cell_regrown x7
    have rx8 := cell_regrown x8
    have rx9 := cell_regrown x9
    have ry0 := cell_regrown y0
    have ry1 := cell_regrown y1
    have ry2 := cell_regrown y2
    have ry3 := cell_regrown y3
    have ry4 := cell_regrown y4
    have ry5 := cell_regrown y5
    have ry6 := cell_regrown y6
    have ry7 := cell_regrown y7
    have ry8 := cell_regrown y8
    have ry9 := cell_regrown y9
    clear c0 c1 c2 c3 c4 c5 c6 c7 c8 c9 x0 x1 x2 x3 x4 x5 x6 x7 x8 x9 y0 y1 y2 y3 y4 y5 y6 y7 y8 y9
    refine wp_region_quiet_below (by kernel_rfl) (by kernel_rfl) ?_
    iterate 3 (quiet_step (exact q1 _ _))
    iterate 5 (quiet_step (exact q2 _ _))
    iterate 6 (quiet_step (exact q3 _ _))
    iterate 3 (quiet_step (exact q4 _ _))
    iterate 6 (quiet_step (exact q5 _ _))
    repeat (quiet_step (exact q6 _ _))
    refine wpQuiet_nil ?_
    rintro w4 ⟨p, hw4⟩
    have hB4 : Below w.heap.size w w4 := hB.trans (Below.mono (by rw [hw4]; exact below_regrown _ _ _) hB.size)
    clear hw4 q1 q2 q3 q4 q5 q6 hm hN hA hB rc0 rc1 rc2 rc3 rc4 rc5 rc6 rc7 rc8 rc9 rx0 rx1 rx2 rx3 rx4 rx5 rx6 rx7 rx8 rx9 ry0 ry1 ry2 ry3 ry4 ry5 ry6 ry7 ry8 ry9
    go_wp2_with fail
    go_ret
    exact ⟨rfl, hB4⟩
  · refine wp_gen (fun W => Below w.heap.size w W ∧ W.heap[w.heap.size]? = some (.cells #[.string m.nm, .bool m.d0, .bool m.d1, .bool m.d2, .bool m.d3, .bool m.d4, .bool m.d5, .bool m.d6, .int .i64 m.f, .int .i64 m.t] 26 (0, 0)) ∧ W.heap[w1.heap.size]? = some (.cells #[.string ⟨#[111, 116, 104, 101, 114]⟩, .bool m.d0, .bool m.d1, .bool m.d2, .bool m.d3, .bool m.d4, .bool m.d5, .bool m.d6, .int .i64 m.f, .int .i64 m.t] 26 (0, 0)) ∧ W.heap[w1.heap.size + 1]? = some (.cells #[.string m.nm, .bool false, .bool false, .bool false, .bool false, .bool false, .bool false, .bool false, .int .i64 m.f, .int .i64 m.t] 26 (0, 0))) (blocks_at hB hm _ _ _) ?_
    clear hB hm
    rintro W ⟨hB, hm, hA, hN⟩
    have q1 : ∀ dd os, Calls Try.prog 13 #[.agg #[.string m.nm, .bool false, .bool false, .bool false, .bool false, .bool false, .bool false, .bool false, .int .i64 m.f, .int .i64 m.t], .int .i64 n] (Sort.grow (redrawn W dd) os) fun e w'' => e = .returned (.bool false) ∧ ∃ p : Regrown, w'' = Sort.grow (redrawn W p.d) p.os := fun dd os => Calls.regrown_of (sl_M (sil_none m n) _)
    have q2 : ∀ dd os, Calls Try.prog 14 #[.agg #[.string m.nm, .bool false, .bool false, .bool false, .bool false, .bool false, .bool false, .bool false, .int .i64 m.f, .int .i64 m.t], .int .i64 n] (Sort.grow (redrawn W dd) os) fun e w'' => e = .returned (.int .i64 (-1)) ∧ ∃ p : Regrown, w'' = Sort.grow (redrawn W p.d) p.os := fun dd os => Calls.regrown_of (nx_M (nxt_none m n) _)
    have q3 : ∀ dd os, Calls Try.prog 13 #[.agg #[.string ⟨#[111, 116, 104, 101, 114]⟩, .bool m.d0, .bool m.d1, .bool m.d2, .bool m.d3, .bool m.d4, .bool m.d5, .bool m.d6, .int .i64 m.f, .int .i64 m.t], .int .i64 n] (Sort.grow (redrawn W dd) os) fun e w'' => e = .returned (.bool s) ∧ ∃ p : Regrown, w'' = Sort.grow (redrawn W p.d) p.os := fun dd os => Calls.regrown_of (sl_M (sA.out) _)
    have q4 : ∀ dd os, Calls Try.prog 13 #[.agg #[.string m.nm, .bool m.d0, .bool m.d1, .bool m.d2, .bool m.d3, .bool m.d4, .bool m.d5, .bool m.d6, .int .i64 m.f, .int .i64 m.t], .int .i64 n] (Sort.grow (redrawn W dd) os) fun e w'' => e = .returned (.bool s) ∧ ∃ p : Regrown, w'' = Sort.grow (redrawn W p.d) p.os := fun dd os => Calls.regrown_of (sl_M (sM.out) _)
    have q5 : ∀ dd os, Calls Try.prog 14 #[.agg #[.string ⟨#[111, 116, 104, 101, 114]⟩, .bool m.d0, .bool m.d1, .bool m.d2, .bool m.d3, .bool m.d4, .bool m.d5, .bool m.d6, .int .i64 m.f, .int .i64 m.t], .int .i64 n] (Sort.grow (redrawn W dd) os) fun e w'' => e = .returned (.int .i64 v) ∧ ∃ p : Regrown, w'' = Sort.grow (redrawn W p.d) p.os := fun dd os => Calls.regrown_of (nx_M (vA.out) _)
    have q6 : ∀ dd os, Calls Try.prog 14 #[.agg #[.string m.nm, .bool m.d0, .bool m.d1, .bool m.d2, .bool m.d3, .bool m.d4, .bool m.d5, .bool m.d6, .int .i64 m.f, .int .i64 m.t], .int .i64 n] (Sort.grow (redrawn W dd) os) fun e w'' => e = .returned (.int .i64 v) ∧ ∃ p : Regrown, w'' = Sort.grow (redrawn W p.d) p.os := fun dd os => Calls.regrown_of (nx_M (vM.out) _)
    obtain ⟨c0, c1, c2, c3, c4, c5, c6, c7, c8, c9⟩ := mute_cells hm
    obtain ⟨x0, x1, x2, x3, x4, x5, x6, x7, x8, x9⟩ := mute_cells (m := { m with d0 := false, d1 := false, d2 := false, d3 := false, d4 := false, d5 := false, d6 := false }) hN
    obtain ⟨y0, y1, y2, y3, y4, y5, y6, y7, y8, y9⟩ := mute_cells (m := { m with nm := ⟨#[111, 116, 104, 101, 114]⟩ }) hA
    have rc0 := cell_regrown c0
    have rc1 := cell_regrown c1
    have rc2 := cell_regrown c2
    have rc3 := cell_regrown c3
    have rc4 := cell_regrown c4
    have rc5 := cell_regrown c5
    have rc6 := cell_regrown c6
    have rc7 := cell_regrown c7
    have rc8 := cell_regrown c8
    have rc9 := cell_regrown c9
    have rx0 := cell_regrown x0
    have rx1 := cell_regrown x1
    have rx2 := cell_regrown x2
    have rx3 := cell_regrown x3
    have rx4 := cell_regrown x4
    have rx5 := cell_regrown x5
    have rx6 := cell_regrown x6
    have rx7 := cell_regrown x7
    have rx8 := cell_regrown x8
    have rx9 := cell_regrown x9
    have ry0 := cell_regrown y0
    have ry1 := cell_regrown y1
    have ry2 := cell_regrown y2
    have ry3 := cell_regrown y3
    have ry4 := cell_regrown y4
    have ry5 := cell_regrown y5
    have ry6 := cell_regrown y6
    have ry7 := cell_regrown y7
    have ry8 := cell_regrown y8
    have ry9 := cell_regrown y9
    clear c0 c1 c2 c3 c4 c5 c6 c7 c8 c9 x0 x1 x2 x3 x4 x5 x6 x7 x8 x9 y0 y1 y2 y3 y4 y5 y6 y7 y8 y9
    refine wp_region_quiet_below (by kernel_rfl) (by kernel_rfl) ?_
    iterate 3 (quiet_step (exact q1 _ _))
    iterate 5 (quiet_step (exact q2 _ _))
    iterate 6 (quiet_step (exact q3 _ _))
    iterate 3 (quiet_step (exact q4 _ _))
    iterate 6 (quiet_step (exact q5 _ _))
    repeat (quiet_step (exact q6 _ _))
    refine wpQuiet_nil ?_
    rintro w4 ⟨p, hw4⟩
    have hB4 : Below w.heap.size w w4 := hB.trans (Below.mono (by rw [hw4]; exact below_regrown _ _ _) hB.size)
    clear hw4 q1 q2 q3 q4 q5 q6 hm hN hA hB rc0 rc1 rc2 rc3 rc4 rc5 rc6 rc7 rc8 rc9 rx0 rx1 rx2 rx3 rx4 rx5 rx6 rx7 rx8 rx9 ry0 ry1 ry2 ry3 ry4 ry5 ry6 ry7 ry8 ry9
    go_wp2_with fail
    go_ret
    exact ⟨rfl, hB4⟩
set_option maxRecDepth 100000 in
theorem lifted (os : Os) (started : os.Started) (H : Type) (enc : TypeId × Value → H) :
    ReturnsInHanded {} Try.checked os 9 .any (Rows.muteNeverSpec.pre6 enc Try.prog Try.f9 Rows.muteNeverRow.domain false) (Rows.muteNeverSpec.post enc Try.prog Try.f9 false true false false) := by
  refine returnsInHanded_of_change (C := Try.checked) own_knob started (by kernel_rfl) Try.func9
    (ChangeSpec.witness6 (enc := enc) (C := Try.checked) false ⟨#[], #[.agg #[.string ⟨#[]⟩, .bool false, .bool false, .bool false, .bool false, .bool false, .bool false, .bool false, .int .i64 0, .int .i64 0], .int .i64 0], []⟩ 8 (by kernel_rfl) (by kernel_rfl) (by kernel_rfl) (by kernel_rfl)) ?_
  intro W base args ds gs before hval0 hW hcnd _
  refine law_contract (spec := Rows.muteNeverSpec) rfl ?_ (by rfl) ?_ hW ?_
  · intro ds hlen
    rw [Try.params9] at hlen
    match ds, hlen with
    | [d0, d1], _ => rfl
  · rw [Try.params9]
    intro t ht
    simp only [List.mem_cons, List.not_mem_nil, or_false] at ht
    rcases ht with rfl | rfl <;> exact ⟨by kernel_rfl, of_decide_eq_true (by kernel_rfl)⟩
  have hval : ∀ (j : Nat) t v, Try.f9.params[j]? = some t → args[j]? = some v → Value.okWide Try.prog W .any base t v := hval0
  obtain ⟨p, q, hA0, _, _, _, _⟩ := hW
  have hA : DataW.TrodAll enc Try.prog W 0 (fun _ => true) true Try.f9.params.toList args.toList ds p := hA0
  rw [Try.params9] at hA hval
  obtain ⟨v0, vs0, d0, ds0, p0, q0, hargs, rfl, rfl, h0, r0⟩ := trodAll_cons hA
  obtain ⟨v1, vs1, d1, ds1, p1, q1, rfl, rfl, rfl, h1, r1⟩ := trodAll_cons r0
  obtain ⟨rfl, rfl, rfl⟩ := trodAll_nil r1
  obtain rfl : args = #[v0, v1] := by cases args; simp_all
  obtain ⟨a0, rfl⟩ := open_mute (hval 0 _ v0 rfl rfl) h0
  obtain ⟨a1, rfl, rfl, rfl, w1⟩ := open_int Try.underlying3 (hval 1 _ v1 rfl rfl) h1
  exact walk a0 a1 w1 W
theorem over : Rows.muteNeverRow.holds Try.pinned (OpenSpec.ofChange Rows.muteNeverSpec) :=
  OpenClaim.holds_of_wide 9 Try.f9 rfl rfl rfl rfl rfl rfl rfl ⟨rfl, rfl, rfl, rfl, rfl⟩ rfl rfl rfl rfl rfl (by kernel_rfl) Try.func9 (by kernel_rfl)
    (of_decide_eq_true (by kernel_rfl)) (by unfold Func.isWrapper; first | (rw [if_pos (by decide +kernel)]; kernel_rfl) | (rw [if_neg (by decide +kernel)]; exact ⟨rfl, rfl⟩))
    (fun os started H enc _ => lifted os started H enc)
theorem proved : Rows.MuteNeverSaid := over
#print axioms proved
end Go.Proofs.Ytkpkeachhkbbkaa.muteNever
