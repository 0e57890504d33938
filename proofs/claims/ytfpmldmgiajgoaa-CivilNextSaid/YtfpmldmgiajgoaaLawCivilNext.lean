/- CivilNext: of any number: a day on, the weekday is the next one, and the date the next one by the calendar. Conditions: none. -/
import Derived.Test.YtfpmldmgiajgoaaCivH
import Derived.Test.YtfpmldmgiajgoaaFrame
namespace Go.Proofs.Ytfpmldmgiajgoaa.civilNext
open Go.ChangeShapes Go.WideShapes Go.ChangeAt Go.RowKit
set_option linter.unusedVariables false
/-- the two dates, whatever they are, as the next one says -/
theorem core (a0 y m d wd mi y' m' d' wd' : Int) (w : World) (h0 : 0 ≤ a0) (h1 : a0 ≤ 1099511626336) (hy : 1 ≤ y ∧ y ≤ 3000000) (hwd : 0 ≤ wd ∧ wd ≤ 6) (hm0 : 1 ≤ m) (hd0 : 1 ≤ d ∧ d ≤ 31) (hw : (wd + 1) % 7 = wd') (D : Int) (hD : Civ.dim y m = D)
    (K1 : Hid (∀ w, Calls Try.prog 17 #[.int .i64 a0] w fun e w' => e = .returned (.tuple #[.agg #[.int .i64 y, .int .i64 m, .int .i64 d, .int .i64 wd, .int .i64 mi], .int .i64 0]) ∧ Below w.heap.size w w'))
    (K2 : Hid (∀ w, Calls Try.prog 17 #[.int .i64 (a0 + 1440)] w fun e w' => e = .returned (.tuple #[.agg #[.int .i64 y', .int .i64 m', .int .i64 d', .int .i64 wd', .int .i64 mi], .int .i64 0]) ∧ Below w.heap.size w w'))
    (hcase : (d < D ∧ y' = y ∧ m' = m ∧ d' = d + 1) ∨ (D ≤ d ∧ m < 12 ∧ y' = y ∧ m' = m + 1 ∧ d' = 1) ∨ (D ≤ d ∧ 12 ≤ m ∧ y' = y + 1 ∧ m' = 1 ∧ d' = 1)) :
    Calls Try.prog 6 #[.int .i64 a0] w fun e w' => e = .returned (.bool true) ∧ Below w.heap.size w w' := by
  obtain ⟨hy1, hy2⟩ := hy
  obtain ⟨hwd1, hwd2⟩ := hwd
  obtain ⟨hd1, hd2⟩ := hd0
  have hw1 : ((wd + 1) % 7 == wd') = true := by rw [hw]; simp
  have hw2 : (wd' != (wd + 1) % 7) = false := by rw [hw]; simp
  have HD := Lib.hid hD
  clear hD
  have HW := Lib.hid hw
  clear hw
  have hcase' : Hid ((d < D ∧ y' = y ∧ m' = m ∧ d' = d + 1) ∨ (D ≤ d ∧ m < 12 ∧ y' = y ∧ m' = m + 1 ∧ d' = 1) ∨ (D ≤ d ∧ 12 ≤ m ∧ y' = y + 1 ∧ m' = 1 ∧ d' = 1)) := hcase
  clear hcase
  go_enter Try.func6, Try.ntmps6
  go_wp2_with fail
  refine (awake_any _).mono ?_
  rintro e wa ⟨rfl, ha⟩
  go_wp2_with fail
  refine (K1.out _).mono ?_
  rintro e w1 ⟨rfl, hb⟩
  go_wp2_with fail
  refine (K2.out _).mono ?_
  rintro e w2 ⟨rfl, hb2⟩
  obtain ⟨c0, c1, c2, c3, c4⟩ := cells5 hb2 (by simp)
  have hz : w1.heap.size < w2.heap.size := by have := hb2.size; simp at this; omega
  have hB1 : Below w.heap.size w w1 := ha.trans (hb.mono ha.size)
  have hB : Below w.heap.size w w2 := (hB1.alloc hB1.size _).trans (hb2.mono (by have := hB1.size; simp; omega))
  clear hb2 ha hb hB1
  go_wp2_with fail
  refine wp_gen (fun W => Below w.heap.size w W ∧ w1.heap.size < W.heap.size ∧ w2.heap.size < W.heap.size ∧ (W.cell? ⟨w1.heap.size, 0, none⟩ = some (.int .i64 y) ∧ W.cell? ⟨w1.heap.size, 1, none⟩ = some (.int .i64 m) ∧ W.cell? ⟨w1.heap.size, 2, none⟩ = some (.int .i64 d) ∧ W.cell? ⟨w1.heap.size, 3, none⟩ = some (.int .i64 wd) ∧ W.cell? ⟨w1.heap.size, 4, none⟩ = some (.int .i64 mi)) ∧
      (W.cell? ⟨w2.heap.size, 0, none⟩ = some (.int .i64 y') ∧ W.cell? ⟨w2.heap.size, 1, none⟩ = some (.int .i64 m') ∧ W.cell? ⟨w2.heap.size, 2, none⟩ = some (.int .i64 d') ∧ W.cell? ⟨w2.heap.size, 3, none⟩ = some (.int .i64 wd') ∧ W.cell? ⟨w2.heap.size, 4, none⟩ = some (.int .i64 mi))) ?_ ?_
  · have o : ∀ j, (w2.alloc (.cells #[.int .i64 y', .int .i64 m', .int .i64 d', .int .i64 wd', .int .i64 mi] 31)).cell? ⟨w1.heap.size, j, none⟩ = w2.cell? ⟨w1.heap.size, j, none⟩ := fun j => World.cell?_alloc_old _ _ _ (by simp; omega)
    exact ⟨hB.alloc hB.size _, by simp; omega, by simp, ⟨(o 0).trans c0, (o 1).trans c1, (o 2).trans c2, (o 3).trans c3, (o 4).trans c4⟩, by simp, by simp, by simp, by simp, by simp⟩
  clear c0 c1 c2 c3 c4 hB hz
  rintro W ⟨hB, hz1, hz2, ⟨c0, c1, c2, c3, c4⟩, ⟨e0, e1, e2, e3, e4⟩⟩
  have kD : ∀ dd os, Calls Try.prog 15 #[.int .i64 y, .int .i64 m] (Sort.grow (redrawn W dd) os) fun e w'' => e = .returned (.int .i64 D) ∧ ∃ p : Regrown, w'' = Sort.grow (redrawn W p.d) p.os := fun dd os => Calls.regrown_of (days_lit y m D _ HD.out)
  have k0 := cell_regrown c0
  have k1 := cell_regrown c1
  have k2 := cell_regrown c2
  refine wp_region_quiet_below (by kernel_rfl) (by kernel_rfl) ?_
  repeat (quiet_step (exact kD _ _))
  refine wpQuiet_nil ?_
  rintro w4 ⟨p, hw4⟩
  have hb4 : Below W.heap.size W w4 := by rw [hw4]; exact below_regrown _ _ _
  clear hw4 k0 k1 k2 kD
  have q : ∀ b j, b < W.heap.size → w4.cell? ⟨b, j, none⟩ = W.cell? ⟨b, j, none⟩ := fun b j h => hb4.cell (p := ⟨b, j, none⟩) h
  have c0 := (q _ 0 hz1).trans c0; have c1 := (q _ 1 hz1).trans c1; have c2 := (q _ 2 hz1).trans c2
  have e0 := (q _ 0 hz2).trans e0; have e1 := (q _ 1 hz2).trans e1; have e2 := (q _ 2 hz2).trans e2
  have hend : Below w.heap.size w w4 := hB.trans (hb4.mono hB.size)
  clear hb4 q hB K1 K2
  rcases hcase'.out with ⟨hlt, hA, hC, hE⟩ | ⟨hlt, hm, hA, hC, hE⟩ | ⟨hlt, hm, hA, hC, hE⟩
  · rw [hA] at e0; rw [hC] at e1; rw [hE] at e2
    clear hA hC hE hcase'
    go_wp2_with fail
    go_ret
    exact ⟨rfl, hend⟩
  · rw [hA] at e0; rw [hC] at e1; rw [hE] at e2
    clear hA hC hE hcase'
    go_wp2_with fail
    go_ret
    exact ⟨rfl, hend⟩
  · rw [hA] at e0; rw [hC] at e1; rw [hE] at e2
    clear hA hC hE hcase'
    go_wp2_with fail
    go_ret
    exact ⟨rfl, hend⟩

set_option maxHeartbeats 1000000 in
theorem walk (a0 : Int) (w0 : (Lit.int .i64 a0).wf = true) (w : World) :
    Calls Try.prog 6 #[.int .i64 a0] w fun e w' => e = .returned (.bool true) ∧ Below w.heap.size w w' := by
  by_cases h : a0 < 0
  · go_enter Try.func6, Try.ntmps6
    go_wp2_with fail
    refine (awake_any _).mono ?_
    rintro e w1 ⟨rfl, hb⟩
    go_wp2_with fail
    go_ret
    exact ⟨rfl, hb⟩
  by_cases h2 : 1099511626336 < a0
  · go_enter Try.func6, Try.ntmps6
    go_wp2_with fail
    refine (awake_any _).mono ?_
    rintro e w1 ⟨rfl, hb⟩
    go_wp2_with fail
    go_ret
    exact ⟨rfl, hb⟩
  have h0 : 0 ≤ a0 := by omega
  have h1 : a0 ≤ 1099511626336 := by omega
  obtain ⟨N, hN⟩ : ∃ N, a0 / 1440 + 719162 = N := ⟨_, rfl⟩
  have hd1 := Civ.isDate N (by omega)
  have hr := hd1.range (by omega) (by omega)
  have hdm := Civ.dim_le (Civ.yOf N) (Civ.mOf N)
  have C1 : ∀ w, Calls Try.prog 17 #[.int .i64 a0] w fun e w' => e = .returned (.tuple #[.agg #[.int .i64 (Civ.yOf N), .int .i64 (Civ.mOf N), .int .i64 (Civ.dOf N), .int .i64 ((a0 / 1440 + 3) % 7), .int .i64 (a0 % 1440)], .int .i64 0]) ∧ Below w.heap.size w w' := fun w => date_v a0 N _ _ w h0 (by omega) hN rfl rfl
  have C2 : ∀ y m d, Civ.IsDate (N + 1) y m d → ∀ w, Calls Try.prog 17 #[.int .i64 (a0 + 1440)] w fun e w' => e = .returned (.tuple #[.agg #[.int .i64 y, .int .i64 m, .int .i64 d, .int .i64 (((a0 / 1440 + 3) % 7 + 1) % 7), .int .i64 (a0 % 1440)], .int .i64 0]) ∧ Below w.heap.size w w' :=
    fun y m d hd w => date_lit (a0 + 1440) (N + 1) y m d _ _ w (by omega) (by omega) (by omega) hd (by omega) (by omega)
  have hm0 := hd1.m1; have hdd1 := hd1.d1; have hdd2 := hd1.d2
  by_cases hlt : Civ.dOf N < Civ.dim (Civ.yOf N) (Civ.mOf N)
  · exact core a0 _ _ _ _ _ _ _ _ _ w h0 h1 ⟨by omega, by omega⟩ ⟨by omega, by omega⟩ hm0 ⟨hdd1, by omega⟩ rfl _ rfl (Lib.hid C1) (Lib.hid (C2 _ _ _ (hd1.next hlt))) (.inl ⟨hlt, rfl, rfl, rfl⟩)
  · by_cases hm : Civ.mOf N < 12
    · exact core a0 _ _ _ _ _ _ _ _ _ w h0 h1 ⟨by omega, by omega⟩ ⟨by omega, by omega⟩ hm0 ⟨hdd1, by omega⟩ rfl _ rfl (Lib.hid C1) (Lib.hid (C2 _ _ _ (hd1.nextMonth hlt hm))) (.inr (.inl ⟨by omega, hm, rfl, rfl, rfl⟩))
    · exact core a0 _ _ _ _ _ _ _ _ _ w h0 h1 ⟨by omega, by omega⟩ ⟨by omega, by omega⟩ hm0 ⟨hdd1, by omega⟩ rfl _ rfl (Lib.hid C1) (Lib.hid (C2 _ _ _ (hd1.nextYear hlt hm))) (.inr (.inr ⟨by omega, by omega, rfl, rfl, rfl⟩))
set_option maxRecDepth 100000 in
theorem lifted (os : Os) (started : os.Started) (H : Type) (enc : TypeId × Value → H) :
    ReturnsInHanded {} Try.checked os 6 .any (Rows.civilNextSpec.pre6 enc Try.prog Try.f6 Rows.civilNextRow.domain false) (Rows.civilNextSpec.post enc Try.prog Try.f6 false true false false) := by
  refine returnsInHanded_of_change (C := Try.checked) own_knob started (by kernel_rfl) Try.func6
    (ChangeSpec.witness6 (enc := enc) (C := Try.checked) false ⟨#[], #[.int .i64 0], []⟩ 8 (by kernel_rfl) (by kernel_rfl) (by kernel_rfl) (by kernel_rfl)) ?_
  intro W base args ds gs before hval0 hW hcnd _
  refine law_contract (spec := Rows.civilNextSpec) rfl ?_ (by rfl) ?_ hW ?_
  · intro ds hlen
    rw [Try.params6] at hlen
    match ds, hlen with
    | [d0], _ => rfl
  · rw [Try.params6]
    intro t ht
    simp only [List.mem_cons, List.not_mem_nil, or_false] at ht
    rcases ht with rfl <;> exact ⟨by kernel_rfl, of_decide_eq_true (by kernel_rfl)⟩
  have hval : ∀ (j : Nat) t v, Try.f6.params[j]? = some t → args[j]? = some v → Value.okWide Try.prog W .any base t v := hval0
  obtain ⟨p, q, hA0, _, _, _, _⟩ := hW
  have hA : DataW.TrodAll enc Try.prog W 0 (fun _ => true) true Try.f6.params.toList args.toList ds p := hA0
  rw [Try.params6] at hA hval
  obtain ⟨v0, vs0, d0, ds0, p0, q0, hargs, rfl, rfl, h0, r0⟩ := trodAll_cons hA
  obtain ⟨rfl, rfl, rfl⟩ := trodAll_nil r0
  obtain rfl : args = #[v0] := by cases args; simp_all
  obtain ⟨a0, rfl, rfl, rfl, w0⟩ := open_int Try.underlying3 (hval 0 _ v0 rfl rfl) h0
  exact walk a0 w0 W
theorem over : Rows.civilNextRow.holds Try.pinned (OpenSpec.ofChange Rows.civilNextSpec) :=
  OpenClaim.holds_of_wide 6 Try.f6 rfl rfl rfl rfl rfl rfl rfl ⟨rfl, rfl, rfl, rfl, rfl⟩ rfl rfl rfl rfl rfl (by kernel_rfl) Try.func6 (by kernel_rfl)
    (of_decide_eq_true (by kernel_rfl)) (by unfold Func.isWrapper; first | (rw [if_pos (by decide +kernel)]; kernel_rfl) | (rw [if_neg (by decide +kernel)]; exact ⟨rfl, rfl⟩))
    (fun os started H enc _ => lifted os started H enc)
theorem proved : Rows.CivilNextSaid := over
#print axioms proved
end Go.Proofs.Ytfpmldmgiajgoaa.civilNext
