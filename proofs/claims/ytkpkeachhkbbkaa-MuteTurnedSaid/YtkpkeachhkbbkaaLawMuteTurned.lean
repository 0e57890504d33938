/- MuteTurned: of any two minutes of a day, any number: just one of the mute and the turned one is silent. Conditions: none. -/
import Derived.Test.YtkpkeachhkbbkaaMutG
import Derived.Test.YtkpkeachhkbbkaaMutL
import Derived.Test.YtkpkeachhkbbkaaMutU
import Derived.Test.YtkpkeachhkbbkaaFrame
import Derived.Deep.RegionWith
namespace Go.Proofs.Ytkpkeachhkbbkaa.muteTurned
open Go.ChangeShapes Go.WideShapes Go.ChangeAt Go.RowKit Mut
set_option linter.unusedVariables false
/-- the two mutes' blocks, as they stay -/
structure TW (w : World) (b : Nat) (f t : Int) (W : World) : Prop where
  below : Below w.heap.size w W
  m1 : W.heap[b]? = some (.cells #[.string ⟨#[]⟩, .bool true, .bool true, .bool true, .bool true, .bool true, .bool true, .bool true, .int .i64 f, .int .i64 t] 26 (0, 0))
  m2 : W.heap[b + 1]? = some (.cells #[.string ⟨#[]⟩, .bool true, .bool true, .bool true, .bool true, .bool true, .bool true, .bool true, .int .i64 t, .int .i64 f] 26 (0, 0))
theorem TW.later {w W W' : World} {b : Nat} {f t : Int} (h : TW w b f t W) (hb : Below W.heap.size W W') : TW w b f t W' :=
  ⟨h.below.trans (hb.mono h.below.size), (hb.block _ (Array.getElem?_eq_some_iff.1 h.m1).1).trans h.m1, (hb.block _ (Array.getElem?_eq_some_iff.1 h.m2).1).trans h.m2⟩
theorem TW.alloc {w W : World} {b : Nat} {f t : Int} (h : TW w b f t W) (o : Obj) : TW w b f t (W.alloc o) := h.later ((Below.refl _ _).alloc (Nat.le_refl _) _)
theorem TW.drew {w W : World} {b : Nat} {f t : Int} (h : TW w b f t W) : TW w b f t W.drew := h.later (Below.refl _ _).drew
theorem TW.c1 {w W : World} {b : Nat} {f t : Int} (h : TW w b f t W) : W.cell? ⟨b, 0, none⟩ = some (.string ⟨#[]⟩) ∧ W.cell? ⟨b, 1, none⟩ = some (.bool true) ∧ W.cell? ⟨b, 2, none⟩ = some (.bool true) ∧ W.cell? ⟨b, 3, none⟩ = some (.bool true) ∧ W.cell? ⟨b, 4, none⟩ = some (.bool true) ∧ W.cell? ⟨b, 5, none⟩ = some (.bool true) ∧ W.cell? ⟨b, 6, none⟩ = some (.bool true) ∧ W.cell? ⟨b, 7, none⟩ = some (.bool true) ∧ W.cell? ⟨b, 8, none⟩ = some (.int .i64 f) ∧ W.cell? ⟨b, 9, none⟩ = some (.int .i64 t) := mute_cells (m := allD f t) h.m1
theorem TW.c2 {w W : World} {b : Nat} {f t : Int} (h : TW w b f t W) : W.cell? ⟨b + 1, 0, none⟩ = some (.string ⟨#[]⟩) ∧ W.cell? ⟨b + 1, 1, none⟩ = some (.bool true) ∧ W.cell? ⟨b + 1, 2, none⟩ = some (.bool true) ∧ W.cell? ⟨b + 1, 3, none⟩ = some (.bool true) ∧ W.cell? ⟨b + 1, 4, none⟩ = some (.bool true) ∧ W.cell? ⟨b + 1, 5, none⟩ = some (.bool true) ∧ W.cell? ⟨b + 1, 6, none⟩ = some (.bool true) ∧ W.cell? ⟨b + 1, 7, none⟩ = some (.bool true) ∧ W.cell? ⟨b + 1, 8, none⟩ = some (.int .i64 t) ∧ W.cell? ⟨b + 1, 9, none⟩ = some (.int .i64 f) := mute_cells (m := allD t f) h.m2
theorem TW.new {w w1 : World} {f t : Int} (hB : Below w.heap.size w w1) (o : Obj) : TW w (w1.heap.size + 1) f t (((w1.alloc o).alloc (.cells #[.string ⟨#[]⟩, .bool true, .bool true, .bool true, .bool true, .bool true, .bool true, .bool true, .int .i64 f, .int .i64 t] 26)).alloc (.cells #[.string ⟨#[]⟩, .bool true, .bool true, .bool true, .bool true, .bool true, .bool true, .bool true, .int .i64 t, .int .i64 f] 26)) := by
  have e1 := World.alloc_heap_new (w1.alloc o) (.cells #[.string ⟨#[]⟩, .bool true, .bool true, .bool true, .bool true, .bool true, .bool true, .bool true, .int .i64 f, .int .i64 t] 26)
  rw [World.size_alloc] at e1
  have e2 := World.alloc_heap_new ((w1.alloc o).alloc (.cells #[.string ⟨#[]⟩, .bool true, .bool true, .bool true, .bool true, .bool true, .bool true, .bool true, .int .i64 f, .int .i64 t] 26)) (.cells #[.string ⟨#[]⟩, .bool true, .bool true, .bool true, .bool true, .bool true, .bool true, .bool true, .int .i64 t, .int .i64 f] 26)
  rw [World.size_alloc, World.size_alloc] at e2
  exact ⟨((hB.alloc hB.size _).alloc (by have := hB.size; simp; omega) _).alloc (by have := hB.size; simp; omega) _, (Below.heap_alloc _ _ _ (by simp)).trans e1, e2⟩
set_option maxRecDepth 100000 in
set_option maxHeartbeats 2000000 in
theorem walk (f t n : Int) (wf : (Lit.int .i64 f).wf = true) (wt : (Lit.int .i64 t).wf = true) (wn : (Lit.int .i64 n).wf = true) (w : World) : Calls Try.prog 7 #[.int .i64 f, .int .i64 t, .int .i64 n] w fun e w' => e = .returned (.bool true) ∧ Below w.heap.size w w' := by
  go_enter Try.func7, Try.ntmps7
  go_wp2_with fail
  refine (awake_any _).mono ?_
  rintro e w1 ⟨rfl, hB⟩
  rcases Int.lt_or_le f 1 with g0 | g0
  · go_wp2_with fail
    go_ret
    exact ⟨rfl, hB⟩
  rcases (Int.lt_or_le f 1440).symm with g1 | g1
  · go_wp2_with fail
    go_ret
    exact ⟨rfl, hB⟩
  rcases Int.lt_or_le t 1 with g2 | g2
  · go_wp2_with fail
    go_ret
    exact ⟨rfl, hB⟩
  rcases (Int.lt_or_le t 1440).symm with g3 | g3
  · go_wp2_with fail
    go_ret
    exact ⟨rfl, hB⟩
  rcases Decidable.em (f = t) with g4 | g4
  · go_wp2_with fail
    go_ret
    exact ⟨rfl, hB⟩
  rcases Int.lt_or_le n 1440 with g5 | g5
  · go_wp2_with fail
    go_ret
    exact ⟨rfl, hB⟩
  rcases Int.lt_or_le 1099511627776 n with g6 | g6
  · go_wp2_with fail
    go_ret
    exact ⟨rfl, hB⟩
  have hne : (sil (allD f t) n != sil (allD t f) n) = true := by rw [turned g0 g1 g2 g3 g4 g5 g6]; cases sil (allD t f) n <;> rfl
  obtain ⟨x, hx⟩ : ∃ x, sil (allD f t) n = x := ⟨_, rfl⟩
  obtain ⟨y, hy⟩ : ∃ y, sil (allD t f) n = y := ⟨_, rfl⟩
  have han : anyS [allD f t, allD t f] n = true := by
    unfold anyS
    rw [List.any_cons, List.any_cons, hx, hy]
    rw [hx, hy] at hne
    revert hne
    cases x <;> cases y <;> simp
  rw [hx, hy] at hne
  have g4b : (f == t) = false := by simpa using g4
  go_wp2_with fail
  refine wp_gen (fun W => TW w (w1.heap.size + 1) f t W) (TW.new hB _) ?_
  clear hB
  intro W T
  obtain ⟨b, hb⟩ : ∃ b, w1.heap.size + 1 = b := ⟨_, rfl⟩
  rw [hb] at T ⊢
  clear hb
  have q1 : ∀ (W : World), Calls Try.prog 13 #[.agg #[.string ⟨#[]⟩, .bool true, .bool true, .bool true, .bool true, .bool true, .bool true, .bool true, .int .i64 f, .int .i64 t], .int .i64 n] W (TellsB x W) := fun W => sl_M hx W
  have q2 : ∀ (W : World), Calls Try.prog 13 #[.agg #[.string ⟨#[]⟩, .bool true, .bool true, .bool true, .bool true, .bool true, .bool true, .bool true, .int .i64 t, .int .i64 f], .int .i64 n] W (TellsB y W) := fun W => sl_M hy W
  have q3 : ∀ (W : World), Calls Try.prog 12 #[.int .i64 n, .slice (some ⟨W.heap.size, 0, none⟩) 2 2] (W.alloc (.cells #[.string ⟨#[]⟩, .bool true, .bool true, .bool true, .bool true, .bool true, .bool true, .bool true, .int .i64 f, .int .i64 t, .string ⟨#[]⟩, .bool true, .bool true, .bool true, .bool true, .bool true, .bool true, .bool true, .int .i64 t, .int .i64 f] 26)) (TellsB true (W.alloc (.cells #[.string ⟨#[]⟩, .bool true, .bool true, .bool true, .bool true, .bool true, .bool true, .bool true, .int .i64 f, .int .i64 t, .string ⟨#[]⟩, .bool true, .bool true, .bool true, .bool true, .bool true, .bool true, .bool true, .int .i64 t, .int .i64 f] 26))) := fun W => an_M (two_mutes _ (allD f t) (allD t f) _ (World.alloc_heap_new _ _)) han
  have Q1 := Lib.hid q1
  have Q2 := Lib.hid q2
  have Q3 := Lib.hid q3
  clear q1 q2 q3 hx hy han
  obtain ⟨c0, c1, c2, c3, c4, c5, c6, c7, c8, c9⟩ := T.drew.c1
  obtain ⟨d0, d1, d2, d3, d4, d5, d6, d7, d8, d9⟩ := T.drew.c2
  have T0 := T.drew
  clear T
  rcases (show (x = true ∧ y = false) ∨ (x = false ∧ y = true) by revert hne; cases x <;> cases y <;> simp) with ⟨rfl, rfl⟩ | ⟨rfl, rfl⟩
  all_goals clear hne
  all_goals go_region_with (first | (go_at_call 13; (with_reducible refine Calls.mono (Q1.out _) ?_); rintro e w2 ⟨rfl, hb⟩; have T0 := T0.later hb; obtain ⟨c0, c1, c2, c3, c4, c5, c6, c7, c8, c9⟩ := T0.c1; obtain ⟨d0, d1, d2, d3, d4, d5, d6, d7, d8, d9⟩ := T0.c2; clear hb) | (go_at_call 13; (with_reducible refine Calls.mono (Q2.out _) ?_); rintro e w2 ⟨rfl, hb⟩; have T0 := T0.later hb; obtain ⟨c0, c1, c2, c3, c4, c5, c6, c7, c8, c9⟩ := T0.c1; obtain ⟨d0, d1, d2, d3, d4, d5, d6, d7, d8, d9⟩ := T0.c2; clear hb) | (go_at_call 12; (with_reducible refine Calls.mono (Q3.out _) ?_); rintro e w2 ⟨rfl, hb⟩; have T0 := (T0.alloc _).later hb; clear hb))
  all_goals go_wp2_with fail
  all_goals go_ret
  all_goals exact ⟨rfl, T0.below⟩
set_option maxRecDepth 100000 in
theorem lifted (os : Os) (started : os.Started) (H : Type) (enc : TypeId × Value → H) :
    ReturnsInHanded {} Try.checked os 7 .any (Rows.muteTurnedSpec.pre6 enc Try.prog Try.f7 Rows.muteTurnedRow.domain false) (Rows.muteTurnedSpec.post enc Try.prog Try.f7 false true false false) := by
  refine returnsInHanded_of_change (C := Try.checked) own_knob started (by kernel_rfl) Try.func7
    (ChangeSpec.witness6 (enc := enc) (C := Try.checked) false ⟨#[], #[.int .i64 0, .int .i64 0, .int .i64 0], []⟩ 8 (by kernel_rfl) (by kernel_rfl) (by kernel_rfl) (by kernel_rfl)) ?_
  intro W base args ds gs before hval0 hW hcnd _
  refine law_contract (spec := Rows.muteTurnedSpec) rfl ?_ (by rfl) ?_ hW ?_
  · intro ds hlen
    rw [Try.params7] at hlen
    match ds, hlen with
    | [d0, d1, d2], _ => rfl
  · rw [Try.params7]
    intro t ht
    simp only [List.mem_cons, List.not_mem_nil, or_false] at ht
    rcases ht with rfl | rfl | rfl <;> exact ⟨by kernel_rfl, of_decide_eq_true (by kernel_rfl)⟩
  have hval : ∀ (j : Nat) t v, Try.f7.params[j]? = some t → args[j]? = some v → Value.okWide Try.prog W .any base t v := hval0
  obtain ⟨p, q, hA0, _, _, _, _⟩ := hW
  have hA : DataW.TrodAll enc Try.prog W 0 (fun _ => true) true Try.f7.params.toList args.toList ds p := hA0
  rw [Try.params7] at hA hval
  obtain ⟨v0, vs0, d0, ds0, p0, q0, hargs, rfl, rfl, h0, r0⟩ := trodAll_cons hA
  obtain ⟨v1, vs1, d1, ds1, p1, q1, rfl, rfl, rfl, h1, r1⟩ := trodAll_cons r0
  obtain ⟨v2, vs2, d2, ds2, p2, q2, rfl, rfl, rfl, h2, r2⟩ := trodAll_cons r1
  obtain ⟨rfl, rfl, rfl⟩ := trodAll_nil r2
  obtain rfl : args = #[v0, v1, v2] := by cases args; simp_all
  obtain ⟨a0, rfl, rfl, rfl, w0⟩ := open_int Try.underlying3 (hval 0 _ v0 rfl rfl) h0
  obtain ⟨a1, rfl, rfl, rfl, w1⟩ := open_int Try.underlying3 (hval 1 _ v1 rfl rfl) h1
  obtain ⟨a2, rfl, rfl, rfl, w2⟩ := open_int Try.underlying3 (hval 2 _ v2 rfl rfl) h2
  exact walk a0 a1 a2 w0 w1 w2 W
theorem over : Rows.muteTurnedRow.holds Try.pinned (OpenSpec.ofChange Rows.muteTurnedSpec) :=
  OpenClaim.holds_of_wide 7 Try.f7 rfl rfl rfl rfl rfl rfl rfl ⟨rfl, rfl, rfl, rfl, rfl⟩ rfl rfl rfl rfl rfl (by kernel_rfl) Try.func7 (by kernel_rfl)
    (of_decide_eq_true (by kernel_rfl)) (by unfold Func.isWrapper; first | (rw [if_pos (by decide +kernel)]; kernel_rfl) | (rw [if_neg (by decide +kernel)]; exact ⟨rfl, rfl⟩))
    (fun os started H enc _ => lifted os started H enc)
theorem proved : Rows.MuteTurnedSaid := over
#print axioms proved
end Go.Proofs.Ytkpkeachhkbbkaa.muteTurned
