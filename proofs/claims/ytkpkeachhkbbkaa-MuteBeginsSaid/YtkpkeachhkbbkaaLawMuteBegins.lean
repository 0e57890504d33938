/- MuteBegins: of any day, bounds and week: on its day a mute is silent from From on, not ahead of it, and till To. Conditions: none. -/
import Derived.Test.YtkpkeachhkbbkaaMutG
import Derived.Test.YtkpkeachhkbbkaaMutL
import Derived.Test.YtkpkeachhkbbkaaMutU
import Derived.Test.YtkpkeachhkbbkaaFrame
namespace Go.Proofs.Ytkpkeachhkbbkaa.muteBegins
open Go.ChangeShapes Go.WideShapes Go.ChangeAt Go.RowKit Mut
set_option linter.unusedVariables false
/-- a mute of one day -/
def oneD (day f t : Int) : MuteD := { nm := ⟨#[]⟩, d0 := decide (day = 0), d1 := decide (day = 1), d2 := decide (day = 2), d3 := decide (day = 3), d4 := decide (day = 4), d5 := decide (day = 5), d6 := decide (day = 6), f := f, t := t }
theorem oneD_day (day f t k : Int) (h0 : 0 ≤ k) (h1 : k < 7) : (oneD day f t).day k = true ↔ k = day := by
  rcases (by omega : k = 0 ∨ k = 1 ∨ k = 2 ∨ k = 3 ∨ k = 4 ∨ k = 5 ∨ k = 6) with rfl | rfl | rfl | rfl | rfl | rfl | rfl <;> simp [MuteD.day, oneD] <;> omega
theorem one_cells {day f t : Int} {W : World} {b : Nat} (h : W.heap[b]? = some (.cells #[.string ⟨#[]⟩, .bool (decide (day = 0)), .bool (decide (day = 1)), .bool (decide (day = 2)), .bool (decide (day = 3)), .bool (decide (day = 4)), .bool (decide (day = 5)), .bool (decide (day = 6)), .int .i64 f, .int .i64 t] 26 (0, 0))) : W.cell? ⟨b, 0, none⟩ = some (.string ⟨#[]⟩) ∧ W.cell? ⟨b, 1, none⟩ = some (.bool (decide (day = 0))) ∧ W.cell? ⟨b, 2, none⟩ = some (.bool (decide (day = 1))) ∧ W.cell? ⟨b, 3, none⟩ = some (.bool (decide (day = 2))) ∧ W.cell? ⟨b, 4, none⟩ = some (.bool (decide (day = 3))) ∧ W.cell? ⟨b, 5, none⟩ = some (.bool (decide (day = 4))) ∧ W.cell? ⟨b, 6, none⟩ = some (.bool (decide (day = 5))) ∧ W.cell? ⟨b, 7, none⟩ = some (.bool (decide (day = 6))) ∧ W.cell? ⟨b, 8, none⟩ = some (.int .i64 f) ∧ W.cell? ⟨b, 9, none⟩ = some (.int .i64 t) := mute_cells (m := oneD day f t) h
set_option maxRecDepth 100000 in
set_option maxHeartbeats 2000000 in
theorem walk (day f t k : Int) (wd : (Lit.int .i64 day).wf = true) (wf : (Lit.int .i64 f).wf = true) (wt : (Lit.int .i64 t).wf = true) (wk : (Lit.int .i64 k).wf = true) (w : World) : Calls Try.prog 10 #[.int .i64 day, .int .i64 f, .int .i64 t, .int .i64 k] w fun e w' => e = .returned (.bool true) ∧ Below w.heap.size w w' := by
  go_enter Try.func10, Try.ntmps10
  go_wp2_with fail
  refine (awake_any _).mono ?_
  rintro e w1 ⟨rfl, hB⟩
  rcases Int.lt_or_le day 0 with g0 | g0
  · go_wp2_with fail
    go_ret
    exact ⟨rfl, hB⟩
  rcases Int.lt_or_le 6 day with g1 | g1
  · go_wp2_with fail
    go_ret
    exact ⟨rfl, hB⟩
  rcases Int.lt_or_le f 0 with g2 | g2
  · go_wp2_with fail
    go_ret
    exact ⟨rfl, hB⟩
  rcases (Int.lt_or_le f 1440).symm with g3 | g3
  · go_wp2_with fail
    go_ret
    exact ⟨rfl, hB⟩
  rcases Int.lt_or_le t 1 with g4 | g4
  · go_wp2_with fail
    go_ret
    exact ⟨rfl, hB⟩
  rcases Int.lt_or_le 1440 t with g5 | g5
  · go_wp2_with fail
    go_ret
    exact ⟨rfl, hB⟩
  rcases Decidable.em (f = t) with g6 | g6
  · go_wp2_with fail
    go_ret
    exact ⟨rfl, hB⟩
  have g6b : (f == t) = false := by simpa using g6
  rcases Int.lt_or_le k 1 with g7 | g7
  · go_wp2_with fail
    go_ret
    exact ⟨rfl, hB⟩
  rcases Int.lt_or_le 100000 k with g8 | g8
  · go_wp2_with fail
    go_ret
    exact ⟨rfl, hB⟩
  have g1b : day < 7 := by omega
  have hx : [Value.string ⟨#[]⟩, .bool false, .bool false, .bool false, .bool false, .bool false, .bool false, .bool false, .int .i64 f, .int .i64 t][1 + day.toNat]? = some (.bool false) := by
    rcases (by omega : day = 0 ∨ day = 1 ∨ day = 2 ∨ day = 3 ∨ day = 4 ∨ day = 5 ∨ day = 6) with h | h | h | h | h | h | h <;> subst h <;> rfl
  have hset : [Value.string ⟨#[]⟩, .bool false, .bool false, .bool false, .bool false, .bool false, .bool false, .bool false, .int .i64 f, .int .i64 t].set (1 + day.toNat) (.bool true) = [Value.string ⟨#[]⟩, .bool (decide (day = 0)), .bool (decide (day = 1)), .bool (decide (day = 2)), .bool (decide (day = 3)), .bool (decide (day = 4)), .bool (decide (day = 5)), .bool (decide (day = 6)), .int .i64 f, .int .i64 t] := by
    rcases (by omega : day = 0 ∨ day = 1 ∨ day = 2 ∨ day = 3 ∨ day = 4 ∨ day = 5 ∨ day = 6) with h | h | h | h | h | h | h <;> subst h <;> rfl
  have KY : Hid (∀ x, k * 10080 + (day + 4) % 7 * 1440 + f ≤ x → x < k * 10080 + (day + 4) % 7 * 1440 + t + (if t < f then 1440 else 0) → sil (oneD day f t) x = true) := Lib.hid fun x a b => decide_eq_true (begins_yes (m := oneD day f t) (oneD_day day f t) g0 g1b g2 g3 g4 g5 g6 g7 g8 a b)
  have KN : Hid (∀ x, (x = k * 10080 + (day + 4) % 7 * 1440 + f - 1 ∨ x = k * 10080 + (day + 4) % 7 * 1440 + t + (if t < f then 1440 else 0)) → sil (oneD day f t) x = false) := Lib.hid fun x a => decide_eq_false (begins_no (m := oneD day f t) (oneD_day day f t) g0 g1b g2 g3 g4 g5 g6 g7 g8 a)
  have KX : Hid (nxt (oneD day f t) (k * 10080 + (day + 4) % 7 * 1440 + f) = k * 10080 + (day + 4) % 7 * 1440 + t + (if t < f then 1440 else 0)) := Lib.hid (begins_next (m := oneD day f t) (oneD_day day f t) g0 g1b g2 g3 g4 g5 g6 g7 g8)
  have q0 : 0 ≤ (day + 4) % 7 := by omega
  have q1 : (day + 4) % 7 ≤ 6 := by omega
  rcases Int.lt_or_le t f with gt | gt
  · have ky := KY.out
    have kn := KN.out
    have kx := KX.out
    simp only [if_pos gt] at ky kn kx
    have HY := Lib.hid ky
    have HN := Lib.hid kn
    have HX := Lib.hid kx
    clear ky kn kx KY KN KX
    go_wp2_with fail
    refine Calls.mono (sl_M (HY.out _ (by omega) (by omega)) _) ?_
    rintro e w2 ⟨rfl, hb⟩
    have hB2 : Below w.heap.size w w2 := (hB.alloc hB.size _).trans (hb.mono (by have := hB.size; simp; omega))
    have hm2 := (hb.block _ (by simp)).trans (World.alloc_heap_new w1 _)
    obtain ⟨c0, c1, c2, c3, c4, c5, c6, c7, c8, c9⟩ := one_cells hm2
    clear hb hx hset hB
    go_wp2_with fail
    refine Calls.mono (sl_M (HN.out _ (.inl (by omega))) _) ?_
    rintro e w3 ⟨rfl, hb⟩
    have hB3 := hB2.trans (hb.mono hB2.size)
    have hm3 := (hb.block _ (Array.getElem?_eq_some_iff.1 hm2).1).trans hm2
    clear c0 c1 c2 c3 c4 c5 c6 c7 c8 c9 hb hB2 hm2
    obtain ⟨c0, c1, c2, c3, c4, c5, c6, c7, c8, c9⟩ := one_cells hm3
    go_wp2_with fail
    refine Calls.mono (sl_M (HY.out _ (by omega) (by omega)) _) ?_
    rintro e w4 ⟨rfl, hb⟩
    have hB4 := hB3.trans (hb.mono hB3.size)
    have hm4 := (hb.block _ (Array.getElem?_eq_some_iff.1 hm3).1).trans hm3
    clear c0 c1 c2 c3 c4 c5 c6 c7 c8 c9 hb hB3 hm3
    obtain ⟨c0, c1, c2, c3, c4, c5, c6, c7, c8, c9⟩ := one_cells hm4
    go_wp2_with fail
    refine Calls.mono (sl_M (HN.out _ (.inr (by omega))) _) ?_
    rintro e w5 ⟨rfl, hb⟩
    have hB5 := hB4.trans (hb.mono hB4.size)
    have hm5 := (hb.block _ (Array.getElem?_eq_some_iff.1 hm4).1).trans hm4
    clear c0 c1 c2 c3 c4 c5 c6 c7 c8 c9 hb hB4 hm4
    obtain ⟨c0, c1, c2, c3, c4, c5, c6, c7, c8, c9⟩ := one_cells hm5
    go_wp2_with fail
    refine Calls.mono (nx_M HX.out _) ?_
    rintro e w6 ⟨rfl, hb⟩
    have hB6 := hB5.trans (hb.mono hB5.size)
    have hm6 := (hb.block _ (Array.getElem?_eq_some_iff.1 hm5).1).trans hm5
    clear c0 c1 c2 c3 c4 c5 c6 c7 c8 c9 hb hB5 hm5
    obtain ⟨c0, c1, c2, c3, c4, c5, c6, c7, c8, c9⟩ := one_cells hm6
    go_wp2_with fail
    go_ret
    exact ⟨rfl, hB6⟩
  · have ky := KY.out
    have kn := KN.out
    have kx := KX.out
    simp only [if_neg (by omega : ¬ t < f)] at ky kn kx
    simp only [Int.add_zero] at ky kn kx
    have HY := Lib.hid ky
    have HN := Lib.hid kn
    have HX := Lib.hid kx
    clear ky kn kx KY KN KX
    go_wp2_with fail
    refine Calls.mono (sl_M (HY.out _ (by omega) (by omega)) _) ?_
    rintro e w2 ⟨rfl, hb⟩
    have hB2 : Below w.heap.size w w2 := (hB.alloc hB.size _).trans (hb.mono (by have := hB.size; simp; omega))
    have hm2 := (hb.block _ (by simp)).trans (World.alloc_heap_new w1 _)
    obtain ⟨c0, c1, c2, c3, c4, c5, c6, c7, c8, c9⟩ := one_cells hm2
    clear hb hx hset hB
    go_wp2_with fail
    refine Calls.mono (sl_M (HN.out _ (.inl (by omega))) _) ?_
    rintro e w3 ⟨rfl, hb⟩
    have hB3 := hB2.trans (hb.mono hB2.size)
    have hm3 := (hb.block _ (Array.getElem?_eq_some_iff.1 hm2).1).trans hm2
    clear c0 c1 c2 c3 c4 c5 c6 c7 c8 c9 hb hB2 hm2
    obtain ⟨c0, c1, c2, c3, c4, c5, c6, c7, c8, c9⟩ := one_cells hm3
    go_wp2_with fail
    refine Calls.mono (sl_M (HY.out _ (by omega) (by omega)) _) ?_
    rintro e w4 ⟨rfl, hb⟩
    have hB4 := hB3.trans (hb.mono hB3.size)
    have hm4 := (hb.block _ (Array.getElem?_eq_some_iff.1 hm3).1).trans hm3
    clear c0 c1 c2 c3 c4 c5 c6 c7 c8 c9 hb hB3 hm3
    obtain ⟨c0, c1, c2, c3, c4, c5, c6, c7, c8, c9⟩ := one_cells hm4
    go_wp2_with fail
    refine Calls.mono (sl_M (HN.out _ (.inr (by omega))) _) ?_
    rintro e w5 ⟨rfl, hb⟩
    have hB5 := hB4.trans (hb.mono hB4.size)
    have hm5 := (hb.block _ (Array.getElem?_eq_some_iff.1 hm4).1).trans hm4
    clear c0 c1 c2 c3 c4 c5 c6 c7 c8 c9 hb hB4 hm4
    obtain ⟨c0, c1, c2, c3, c4, c5, c6, c7, c8, c9⟩ := one_cells hm5
    go_wp2_with fail
    refine Calls.mono (nx_M HX.out _) ?_
    rintro e w6 ⟨rfl, hb⟩
    have hB6 := hB5.trans (hb.mono hB5.size)
    have hm6 := (hb.block _ (Array.getElem?_eq_some_iff.1 hm5).1).trans hm5
    clear c0 c1 c2 c3 c4 c5 c6 c7 c8 c9 hb hB5 hm5
    obtain ⟨c0, c1, c2, c3, c4, c5, c6, c7, c8, c9⟩ := one_cells hm6
    go_wp2_with fail
    go_ret
    exact ⟨rfl, hB6⟩
set_option maxRecDepth 100000 in
theorem lifted (os : Os) (started : os.Started) (H : Type) (enc : TypeId × Value → H) :
    ReturnsInHanded {} Try.checked os 10 .any (Rows.muteBeginsSpec.pre6 enc Try.prog Try.f10 Rows.muteBeginsRow.domain false) (Rows.muteBeginsSpec.post enc Try.prog Try.f10 false true false false) := by
  refine returnsInHanded_of_change (C := Try.checked) own_knob started (by kernel_rfl) Try.func10
    (ChangeSpec.witness6 (enc := enc) (C := Try.checked) false ⟨#[], #[.int .i64 0, .int .i64 0, .int .i64 0, .int .i64 0], []⟩ 8 (by kernel_rfl) (by kernel_rfl) (by kernel_rfl) (by kernel_rfl)) ?_
  intro W base args ds gs before hval0 hW hcnd _
  refine law_contract (spec := Rows.muteBeginsSpec) rfl ?_ (by rfl) ?_ hW ?_
  · intro ds hlen
    rw [Try.params10] at hlen
    match ds, hlen with
    | [d0, d1, d2, d3], _ => rfl
  · rw [Try.params10]
    intro t ht
    simp only [List.mem_cons, List.not_mem_nil, or_false] at ht
    rcases ht with rfl | rfl | rfl | rfl <;> exact ⟨by kernel_rfl, of_decide_eq_true (by kernel_rfl)⟩
  have hval : ∀ (j : Nat) t v, Try.f10.params[j]? = some t → args[j]? = some v → Value.okWide Try.prog W .any base t v := hval0
  obtain ⟨p, q, hA0, _, _, _, _⟩ := hW
  have hA : DataW.TrodAll enc Try.prog W 0 (fun _ => true) true Try.f10.params.toList args.toList ds p := hA0
  rw [Try.params10] at hA hval
  obtain ⟨v0, vs0, d0, ds0, p0, q0, hargs, rfl, rfl, h0, r0⟩ := trodAll_cons hA
  obtain ⟨v1, vs1, d1, ds1, p1, q1, rfl, rfl, rfl, h1, r1⟩ := trodAll_cons r0
  obtain ⟨v2, vs2, d2, ds2, p2, q2, rfl, rfl, rfl, h2, r2⟩ := trodAll_cons r1
  obtain ⟨v3, vs3, d3, ds3, p3, q3, rfl, rfl, rfl, h3, r3⟩ := trodAll_cons r2
  obtain ⟨rfl, rfl, rfl⟩ := trodAll_nil r3
  obtain rfl : args = #[v0, v1, v2, v3] := by cases args; simp_all
  obtain ⟨a0, rfl, rfl, rfl, w0⟩ := open_int Try.underlying3 (hval 0 _ v0 rfl rfl) h0
  obtain ⟨a1, rfl, rfl, rfl, w1⟩ := open_int Try.underlying3 (hval 1 _ v1 rfl rfl) h1
  obtain ⟨a2, rfl, rfl, rfl, w2⟩ := open_int Try.underlying3 (hval 2 _ v2 rfl rfl) h2
  obtain ⟨a3, rfl, rfl, rfl, w3⟩ := open_int Try.underlying3 (hval 3 _ v3 rfl rfl) h3
  exact walk a0 a1 a2 a3 w0 w1 w2 w3 W
theorem over : Rows.muteBeginsRow.holds Try.pinned (OpenSpec.ofChange Rows.muteBeginsSpec) :=
  OpenClaim.holds_of_wide 10 Try.f10 rfl rfl rfl rfl rfl rfl rfl ⟨rfl, rfl, rfl, rfl, rfl⟩ rfl rfl rfl rfl rfl (by kernel_rfl) Try.func10 (by kernel_rfl)
    (of_decide_eq_true (by kernel_rfl)) (by unfold Func.isWrapper; first | (rw [if_pos (by decide +kernel)]; kernel_rfl) | (rw [if_neg (by decide +kernel)]; exact ⟨rfl, rfl⟩))
    (fun os started H enc _ => lifted os started H enc)
theorem proved : Rows.MuteBeginsSaid := over
#print axioms proved
end Go.Proofs.Ytkpkeachhkbbkaa.muteBegins
