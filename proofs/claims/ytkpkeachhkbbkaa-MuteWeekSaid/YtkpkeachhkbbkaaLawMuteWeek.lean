/- MuteWeek: of any mute, any number: what it is at a minute, it is a week later, but for the first day. Conditions: none. -/
import Derived.Test.YtkpkeachhkbbkaaMutG
import Derived.Test.YtkpkeachhkbbkaaMutL
import Derived.Test.YtkpkeachhkbbkaaFrame
namespace Go.Proofs.Ytkpkeachhkbbkaa.muteWeek
open Go.ChangeShapes Go.WideShapes Go.ChangeAt Go.RowKit Mut
set_option linter.unusedVariables false
set_option maxRecDepth 100000 in
set_option maxHeartbeats 1000000 in
theorem walk (m : MuteD) (n : Int) (_ : (Lit.int .i64 n).wf = true) (w : World) : Calls Try.prog 5 #[.agg #[.string m.nm, .bool m.d0, .bool m.d1, .bool m.d2, .bool m.d3, .bool m.d4, .bool m.d5, .bool m.d6, .int .i64 m.f, .int .i64 m.t], .int .i64 n] w fun e w' => e = .returned (.bool true) ∧ Below w.heap.size w w' := by
  go_enter Try.func5, Try.ntmps5
  go_wp2_with fail
  refine (awake_any _).mono ?_
  rintro e w1 ⟨rfl, hb⟩
  have hB : Below w.heap.size w w1 := ((Below.refl _ w).alloc (Nat.le_refl _) _).trans (hb.mono (by simp))
  have hm : w1.heap[w.heap.size]? = some (.cells #[.string m.nm, .bool m.d0, .bool m.d1, .bool m.d2, .bool m.d3, .bool m.d4, .bool m.d5, .bool m.d6, .int .i64 m.f, .int .i64 m.t] 26 (0, 0)) := (hb.block _ (by simp)).trans (World.alloc_heap_new w _)
  clear hb
  obtain ⟨c0, c1, c2, c3, c4, c5, c6, c7, c8, c9⟩ := mute_cells hm
  by_cases hin : 1440 ≤ n ∧ n ≤ 1099511617696
  · obtain ⟨h1, h2⟩ := hin
    obtain ⟨s, hs⟩ : ∃ s, sil m n = s := ⟨_, rfl⟩
    have hs2 : sil m (n + 10080) = s := by rw [← hs, sil_eq]; exact sil_week m n h1 (by omega)
    have k0 := cell_regrown c0
    have k1 := cell_regrown c1
    have k2 := cell_regrown c2
    have k3 := cell_regrown c3
    have k4 := cell_regrown c4
    have k5 := cell_regrown c5
    have k6 := cell_regrown c6
    have k7 := cell_regrown c7
    have k8 := cell_regrown c8
    have k9 := cell_regrown c9
    have q1 : ∀ dd os, Calls Try.prog 13 #[.agg #[.string m.nm, .bool m.d0, .bool m.d1, .bool m.d2, .bool m.d3, .bool m.d4, .bool m.d5, .bool m.d6, .int .i64 m.f, .int .i64 m.t], .int .i64 n] (Sort.grow (redrawn w1 dd) os) fun e w'' => e = .returned (.bool s) ∧ ∃ p : Regrown, w'' = Sort.grow (redrawn w1 p.d) p.os := fun dd os => Calls.regrown_of (sl_M hs _)
    have q2 : ∀ dd os, Calls Try.prog 13 #[.agg #[.string m.nm, .bool m.d0, .bool m.d1, .bool m.d2, .bool m.d3, .bool m.d4, .bool m.d5, .bool m.d6, .int .i64 m.f, .int .i64 m.t], .int .i64 (n + 10080)] (Sort.grow (redrawn w1 dd) os) fun e w'' => e = .returned (.bool s) ∧ ∃ p : Regrown, w'' = Sort.grow (redrawn w1 p.d) p.os := fun dd os => Calls.regrown_of (sl_M hs2 _)
    have hwr : IntKind.i64.wrap (n + 10080) = n + 10080 := IntWalk.i64_in _ (by omega)
    clear hs hs2
    go_wp2_with fail
    refine wp_region_quiet_below (by kernel_rfl) (by kernel_rfl) ?_
    iterate 3 (quiet_step (exact q1 _ _))
    repeat (quiet_step (exact q2 _ _))
    refine wpQuiet_nil ?_
    rintro w4 ⟨p, hw4⟩
    have hB4 : Below w.heap.size w w4 := hB.trans (Below.mono (by rw [hw4]; exact below_regrown _ _ _) hB.size)
    clear hw4 k0 k1 k2 k3 k4 k5 k6 k7 k8 k9 q1 q2 hB c0 c1 c2 c3 c4 c5 c6 c7 c8 c9 hm
    go_wp2_with fail
    go_ret
    exact ⟨rfl, hB4⟩
  · by_cases hr : 0 ≤ n ∧ n ≤ 1099511627776
    · obtain ⟨h1, h2⟩ := hr
      have t : n < 1440 ∨ (1440 ≤ n ∧ 1099511617696 < n) := by omega
      rcases t with t | ⟨t, t2⟩
      all_goals
        go_wp2_with fail
        go_ret
        exact ⟨rfl, hB⟩
    · have hs : sil m n = false := by
        unfold sil
        rw [decide_eq_false_iff_not]
        intro h; have := h.1; have := h.2.1; omega
      have t : n < 0 ∨ 1099511627776 < n := by omega
      rcases t with t | t
      all_goals
        go_wp2_with fail
        refine (sl_M hs _).mono ?_
        rintro e w2 ⟨rfl, hb⟩
        have hB2 := hB.trans (hb.mono hB.size)
        go_wp2_with fail
        go_ret
        exact ⟨rfl, hB2⟩
set_option maxRecDepth 100000 in
theorem lifted (os : Os) (started : os.Started) (H : Type) (enc : TypeId × Value → H) :
    ReturnsInHanded {} Try.checked os 5 .any (Rows.muteWeekSpec.pre6 enc Try.prog Try.f5 Rows.muteWeekRow.domain false) (Rows.muteWeekSpec.post enc Try.prog Try.f5 false true false false) := by
  refine returnsInHanded_of_change (C := Try.checked) own_knob started (by kernel_rfl) Try.func5
    (ChangeSpec.witness6 (enc := enc) (C := Try.checked) false ⟨#[], #[.agg #[.string ⟨#[]⟩, .bool false, .bool false, .bool false, .bool false, .bool false, .bool false, .bool false, .int .i64 0, .int .i64 0], .int .i64 0], []⟩ 8 (by kernel_rfl) (by kernel_rfl) (by kernel_rfl) (by kernel_rfl)) ?_
  intro W base args ds gs before hval0 hW hcnd _
  refine law_contract (spec := Rows.muteWeekSpec) rfl ?_ (by rfl) ?_ hW ?_
  · intro ds hlen
    rw [Try.params5] at hlen
    match ds, hlen with
    | [d0, d1], _ => rfl
  · rw [Try.params5]
    intro t ht
    simp only [List.mem_cons, List.not_mem_nil, or_false] at ht
    rcases ht with rfl | rfl <;> exact ⟨by kernel_rfl, of_decide_eq_true (by kernel_rfl)⟩
  have hval : ∀ (j : Nat) t v, Try.f5.params[j]? = some t → args[j]? = some v → Value.okWide Try.prog W .any base t v := hval0
  obtain ⟨p, q, hA0, _, _, _, _⟩ := hW
  have hA : DataW.TrodAll enc Try.prog W 0 (fun _ => true) true Try.f5.params.toList args.toList ds p := hA0
  rw [Try.params5] at hA hval
  obtain ⟨v0, vs0, d0, ds0, p0, q0, hargs, rfl, rfl, h0, r0⟩ := trodAll_cons hA
  obtain ⟨v1, vs1, d1, ds1, p1, q1, rfl, rfl, rfl, h1, r1⟩ := trodAll_cons r0
  obtain ⟨rfl, rfl, rfl⟩ := trodAll_nil r1
  obtain rfl : args = #[v0, v1] := by cases args; simp_all
  obtain ⟨a0, rfl⟩ := open_mute (hval 0 _ v0 rfl rfl) h0
  obtain ⟨a1, rfl, rfl, rfl, w1⟩ := open_int Try.underlying3 (hval 1 _ v1 rfl rfl) h1
  exact walk a0 a1 w1 W
theorem over : Rows.muteWeekRow.holds Try.pinned (OpenSpec.ofChange Rows.muteWeekSpec) :=
  OpenClaim.holds_of_wide 5 Try.f5 rfl rfl rfl rfl rfl rfl rfl ⟨rfl, rfl, rfl, rfl, rfl⟩ rfl rfl rfl rfl rfl (by kernel_rfl) Try.func5 (by kernel_rfl)
    (of_decide_eq_true (by kernel_rfl)) (by unfold Func.isWrapper; first | (rw [if_pos (by decide +kernel)]; kernel_rfl) | (rw [if_neg (by decide +kernel)]; exact ⟨rfl, rfl⟩))
    (fun os started H enc _ => lifted os started H enc)
theorem proved : Rows.MuteWeekSaid := over
#print axioms proved
end Go.Proofs.Ytkpkeachhkbbkaa.muteWeek
