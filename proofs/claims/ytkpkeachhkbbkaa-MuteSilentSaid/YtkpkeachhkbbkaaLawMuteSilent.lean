/- MuteSilent: of any mute, any number: whether it is silent, and when that changes, is what the chapter says. Conditions: none. -/
import Derived.Test.YtkpkeachhkbbkaaMutG
import Derived.Test.YtkpkeachhkbbkaaMutL
import Derived.Test.YtkpkeachhkbbkaaFrame
namespace Go.Proofs.Ytkpkeachhkbbkaa.muteSilent
open Go.ChangeShapes Go.WideShapes Go.ChangeAt Go.RowKit Mut
set_option linter.unusedVariables false
set_option maxRecDepth 100000 in
set_option maxHeartbeats 1000000 in
theorem walk (m : MuteD) (n : Int) (_ : (Lit.int .i64 n).wf = true) (w : World) : Calls Try.prog 4 #[.agg #[.string m.nm, .bool m.d0, .bool m.d1, .bool m.d2, .bool m.d3, .bool m.d4, .bool m.d5, .bool m.d6, .int .i64 m.f, .int .i64 m.t], .int .i64 n] w fun e w' => e = .returned (.bool true) ∧ Below w.heap.size w w' := by
  obtain ⟨s, hs⟩ : ∃ s, sil m n = s := ⟨_, rfl⟩
  obtain ⟨v, hv⟩ : ∃ v, nxt m n = v := ⟨_, rfl⟩
  have K1 : Hid (∀ w, Calls Try.prog 13 #[.agg #[.string m.nm, .bool m.d0, .bool m.d1, .bool m.d2, .bool m.d3, .bool m.d4, .bool m.d5, .bool m.d6, .int .i64 m.f, .int .i64 m.t], .int .i64 n] w (TellsB s w)) := Lib.hid fun w => hs ▸ silent_any m n w
  have K2 : Hid (∀ w, Calls Try.prog 11 #[.agg #[.string m.nm, .bool m.d0, .bool m.d1, .bool m.d2, .bool m.d3, .bool m.d4, .bool m.d5, .bool m.d6, .int .i64 m.f, .int .i64 m.t], .int .i64 n] w (TellsB s w)) := Lib.hid fun w => hs ▸ rsilent_any m n w
  have K3 : Hid (∀ w, Calls Try.prog 14 #[.agg #[.string m.nm, .bool m.d0, .bool m.d1, .bool m.d2, .bool m.d3, .bool m.d4, .bool m.d5, .bool m.d6, .int .i64 m.f, .int .i64 m.t], .int .i64 n] w (TellsI v w)) := Lib.hid fun w => hv ▸ next_any m n w
  have K4 : Hid (∀ w, Calls Try.prog 15 #[.agg #[.string m.nm, .bool m.d0, .bool m.d1, .bool m.d2, .bool m.d3, .bool m.d4, .bool m.d5, .bool m.d6, .int .i64 m.f, .int .i64 m.t], .int .i64 n] w (TellsI v w)) := Lib.hid fun w => hv ▸ rnext_any m n w
  clear hs hv
  go_enter Try.func4, Try.ntmps4
  go_wp2
  refine wp_gen (fun W => Below w.heap.size w W ∧ W.heap[w.heap.size]? = some (.cells #[.string m.nm, .bool m.d0, .bool m.d1, .bool m.d2, .bool m.d3, .bool m.d4, .bool m.d5, .bool m.d6, .int .i64 m.f, .int .i64 m.t] 26 (0, 0))) ⟨(Below.refl _ w).alloc (Nat.le_refl _) _, World.alloc_heap_new w _⟩ ?_
  rintro W ⟨hB, hm⟩
  obtain ⟨c0, c1, c2, c3, c4, c5, c6, c7, c8, c9⟩ := mute_cells hm
  have k0 := cell_regrown c0
  have k1 := cell_regrown c1
  have k2 := cell_regrown c2
  have k3 := cell_regrown c3
  have k4 := cell_regrown c4
  have k5 := cell_regrown c5
  have k6 := cell_regrown c6
  have k7 := cell_regrown c7
  have k8 := cell_regrown c8
  have k9 := cell_regrown c9
  clear c0 c1 c2 c3 c4 c5 c6 c7 c8 c9 hm
  have q1 : ∀ dd os, Calls Try.prog 13 #[.agg #[.string m.nm, .bool m.d0, .bool m.d1, .bool m.d2, .bool m.d3, .bool m.d4, .bool m.d5, .bool m.d6, .int .i64 m.f, .int .i64 m.t], .int .i64 n] (Sort.grow (redrawn W dd) os) fun e w'' => e = .returned (.bool s) ∧ ∃ p : Regrown, w'' = Sort.grow (redrawn W p.d) p.os := fun dd os => Calls.regrown_of (K1.out _)
  have q2 : ∀ dd os, Calls Try.prog 11 #[.agg #[.string m.nm, .bool m.d0, .bool m.d1, .bool m.d2, .bool m.d3, .bool m.d4, .bool m.d5, .bool m.d6, .int .i64 m.f, .int .i64 m.t], .int .i64 n] (Sort.grow (redrawn W dd) os) fun e w'' => e = .returned (.bool s) ∧ ∃ p : Regrown, w'' = Sort.grow (redrawn W p.d) p.os := fun dd os => Calls.regrown_of (K2.out _)
  have q3 : ∀ dd os, Calls Try.prog 14 #[.agg #[.string m.nm, .bool m.d0, .bool m.d1, .bool m.d2, .bool m.d3, .bool m.d4, .bool m.d5, .bool m.d6, .int .i64 m.f, .int .i64 m.t], .int .i64 n] (Sort.grow (redrawn W dd) os) fun e w'' => e = .returned (.int .i64 v) ∧ ∃ p : Regrown, w'' = Sort.grow (redrawn W p.d) p.os := fun dd os => Calls.regrown_of (K3.out _)
  have q4 : ∀ dd os, Calls Try.prog 15 #[.agg #[.string m.nm, .bool m.d0, .bool m.d1, .bool m.d2, .bool m.d3, .bool m.d4, .bool m.d5, .bool m.d6, .int .i64 m.f, .int .i64 m.t], .int .i64 n] (Sort.grow (redrawn W dd) os) fun e w'' => e = .returned (.int .i64 v) ∧ ∃ p : Regrown, w'' = Sort.grow (redrawn W p.d) p.os := fun dd os => Calls.regrown_of (K4.out _)
  clear K1 K2 K3 K4
  refine wp_region_quiet_below (by kernel_rfl) (by kernel_rfl) ?_
  repeat (quiet_step (first | exact q1 _ _ | exact q2 _ _ | exact q3 _ _ | exact q4 _ _))
  refine wpQuiet_nil ?_
  rintro w4 ⟨p, hw4⟩
  have hB4 : Below w.heap.size w w4 := hB.trans (Below.mono (by rw [hw4]; exact below_regrown _ _ _) hB.size)
  clear hw4 k0 k1 k2 k3 k4 k5 k6 k7 k8 k9 q1 q2 q3 q4 hB
  go_wp2_with fail
  go_ret
  exact ⟨rfl, hB4⟩
set_option maxRecDepth 100000 in
theorem lifted (os : Os) (started : os.Started) (H : Type) (enc : TypeId × Value → H) :
    ReturnsInHanded {} Try.checked os 4 .any (Rows.muteSilentSpec.pre6 enc Try.prog Try.f4 Rows.muteSilentRow.domain false) (Rows.muteSilentSpec.post enc Try.prog Try.f4 false true false false) := by
  refine returnsInHanded_of_change (C := Try.checked) own_knob started (by kernel_rfl) Try.func4
    (ChangeSpec.witness6 (enc := enc) (C := Try.checked) false ⟨#[], #[.agg #[.string ⟨#[]⟩, .bool false, .bool false, .bool false, .bool false, .bool false, .bool false, .bool false, .int .i64 0, .int .i64 0], .int .i64 0], []⟩ 8 (by kernel_rfl) (by kernel_rfl) (by kernel_rfl) (by kernel_rfl)) ?_
  intro W base args ds gs before hval0 hW hcnd _
  refine law_contract (spec := Rows.muteSilentSpec) rfl ?_ (by rfl) ?_ hW ?_
  · intro ds hlen
    rw [Try.params4] at hlen
    match ds, hlen with
    | [d0, d1], _ => rfl
  · rw [Try.params4]
    intro t ht
    simp only [List.mem_cons, List.not_mem_nil, or_false] at ht
    rcases ht with rfl | rfl <;> exact ⟨by kernel_rfl, of_decide_eq_true (by kernel_rfl)⟩
  have hval : ∀ (j : Nat) t v, Try.f4.params[j]? = some t → args[j]? = some v → Value.okWide Try.prog W .any base t v := hval0
  obtain ⟨p, q, hA0, _, _, _, _⟩ := hW
  have hA : DataW.TrodAll enc Try.prog W 0 (fun _ => true) true Try.f4.params.toList args.toList ds p := hA0
  rw [Try.params4] at hA hval
  obtain ⟨v0, vs0, d0, ds0, p0, q0, hargs, rfl, rfl, h0, r0⟩ := trodAll_cons hA
  obtain ⟨v1, vs1, d1, ds1, p1, q1, rfl, rfl, rfl, h1, r1⟩ := trodAll_cons r0
  obtain ⟨rfl, rfl, rfl⟩ := trodAll_nil r1
  obtain rfl : args = #[v0, v1] := by cases args; simp_all
  obtain ⟨a0, rfl⟩ := open_mute (hval 0 _ v0 rfl rfl) h0
  obtain ⟨a1, rfl, rfl, rfl, w1⟩ := open_int Try.underlying3 (hval 1 _ v1 rfl rfl) h1
  exact walk a0 a1 w1 W
theorem over : Rows.muteSilentRow.holds Try.pinned (OpenSpec.ofChange Rows.muteSilentSpec) :=
  OpenClaim.holds_of_wide 4 Try.f4 rfl rfl rfl rfl rfl rfl rfl ⟨rfl, rfl, rfl, rfl, rfl⟩ rfl rfl rfl rfl rfl (by kernel_rfl) Try.func4 (by kernel_rfl)
    (of_decide_eq_true (by kernel_rfl)) (by unfold Func.isWrapper; first | (rw [if_pos (by decide +kernel)]; kernel_rfl) | (rw [if_neg (by decide +kernel)]; exact ⟨rfl, rfl⟩))
    (fun os started H enc _ => lifted os started H enc)
theorem proved : Rows.MuteSilentSaid := over
#print axioms proved
end Go.Proofs.Ytkpkeachhkbbkaa.muteSilent
