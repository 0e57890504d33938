/- CivilBack: of any numbers: a minute's date leads back to it, and a date's minute to that date. Conditions: none. -/
import Derived.Test.YtfpmldmgiajgoaaCivH
import Derived.Test.YtfpmldmgiajgoaaFrame
namespace Go.Proofs.Ytfpmldmgiajgoaa.civilBack
open Go.ChangeShapes Go.WideShapes Go.ChangeAt Go.RowKit
set_option linter.unusedVariables false
/-- the second half's outcome -/
theorem second (y m d mi : Int) : (mnE y m d mi ≠ 0 ∧ mnN y m d mi = 0) ∨ (mnE y m d mi = 0 ∧ ∃ wd : Int, ∀ w, Calls Try.prog 17 #[.int .i64 (mnN y m d mi)] w fun e w' => e = .returned (.tuple #[.agg #[.int .i64 y, .int .i64 m, .int .i64 d, .int .i64 wd, .int .i64 mi], .int .i64 0]) ∧ Below w.heap.size w w') := by
  by_cases he : mnE y m d mi = 0
  · obtain ⟨h1, h2, h3, h4⟩ := date_of_minute y m d mi he
    exact .inr ⟨he, _, fun w => date_lit _ _ _ _ _ _ _ w h1 h2 rfl h3 rfl h4⟩
  · exact .inl ⟨he, minute_zero y m d mi he⟩
set_option maxRecDepth 100000 in
set_option maxHeartbeats 1000000 in
theorem back_no (a0 a1 a2 a3 a4 : Int) (w : World) (h : a0 < 0 ∨ 1099511627776 < a0) :
    Calls Try.prog 5 #[.int .i64 a0, .int .i64 a1, .int .i64 a2, .int .i64 a3, .int .i64 a4] w fun e w' => e = .returned (.bool true) ∧ Below w.heap.size w w' := by
  have hsec := second a1 a2 a3 a4
  have hmin : ∀ w, Calls Try.prog 11 #[.int .i64 a1, .int .i64 a2, .int .i64 a3, .int .i64 a4] w fun e w' => e = .returned (.tuple #[.int .i64 (mnN a1 a2 a3 a4), .int .i64 (mnE a1 a2 a3 a4)]) ∧ Below w.heap.size w w' := minute_any a1 a2 a3 a4
  generalize mnN a1 a2 a3 a4 = n at hsec hmin
  generalize mnE a1 a2 a3 a4 = c at hsec hmin
  have HM := Lib.hid hmin
  have hno : ∀ w, Calls Try.prog 17 #[.int .i64 a0] w fun e w' => e = .returned (.tuple #[.agg #[.int .i64 0, .int .i64 0, .int .i64 0, .int .i64 0, .int .i64 0], .int .i64 120]) ∧ Below w.heap.size w w' := fun w => date_no a0 w h
  have HN := Lib.hid hno
  clear hmin hno
  have hg : (decide (0 ≤ a0) && decide (a0 ≤ 1099511627776)) = false := by simp; omega
  rcases hsec with ⟨hc, hn⟩ | ⟨hc, wd, hD⟩
  · have hc' : (c != 0) = true := by simpa using hc
    have hn' : (n == 0) = true := by simpa using hn
    clear hc hn
    rcases h with h | h
    · go_enter Try.func5, Try.ntmps5
      go_wp2_with fail
      refine (awake_any _).mono ?_
      rintro e wa ⟨rfl, ha⟩
      go_wp2_with fail
      refine (HN.out _).mono ?_
      rintro e w1 ⟨rfl, hb⟩
      have hB1 : Below w.heap.size w w1 := ha.trans (hb.mono ha.size)
      go_wp2_with fail
      refine (HM.out _).mono ?_
      rintro e w2 ⟨rfl, hb2⟩
      have hB : Below w.heap.size w w2 := (hB1.alloc hB1.size _).trans (hb2.mono (by have := hB1.size; simp; omega))
      clear hb2 ha hb hB1
      go_wp2_with fail
      go_ret
      exact ⟨rfl, hB⟩
    · go_enter Try.func5, Try.ntmps5
      go_wp2_with fail
      refine (awake_any _).mono ?_
      rintro e wa ⟨rfl, ha⟩
      go_wp2_with fail
      refine (HN.out _).mono ?_
      rintro e w1 ⟨rfl, hb⟩
      have hB1 : Below w.heap.size w w1 := ha.trans (hb.mono ha.size)
      go_wp2_with fail
      refine (HM.out _).mono ?_
      rintro e w2 ⟨rfl, hb2⟩
      have hB : Below w.heap.size w w2 := (hB1.alloc hB1.size _).trans (hb2.mono (by have := hB1.size; simp; omega))
      clear hb2 ha hb hB1
      go_wp2_with fail
      go_ret
      exact ⟨rfl, hB⟩
  · subst hc
    have HD := Lib.hid hD
    clear hD
    rcases h with h | h
    · go_enter Try.func5, Try.ntmps5
      go_wp2_with fail
      refine (awake_any _).mono ?_
      rintro e wa ⟨rfl, ha⟩
      go_wp2_with fail
      refine (HN.out _).mono ?_
      rintro e w1 ⟨rfl, hb⟩
      have hB1 : Below w.heap.size w w1 := ha.trans (hb.mono ha.size)
      go_wp2_with fail
      refine (HM.out _).mono ?_
      rintro e w2 ⟨rfl, hb2⟩
      have hB : Below w.heap.size w w2 := (hB1.alloc hB1.size _).trans (hb2.mono (by have := hB1.size; simp; omega))
      clear hb2 ha hb hB1
      go_wp2_with fail
      refine (HD.out _).mono ?_
      rintro e w3 ⟨rfl, hb3⟩
      have hB3 : Below w.heap.size w w3 := hB.trans (hb3.mono hB.size)
      go_wp2_with fail
      go_ret
      exact ⟨rfl, hB3.alloc hB3.size _⟩
    · go_enter Try.func5, Try.ntmps5
      go_wp2_with fail
      refine (awake_any _).mono ?_
      rintro e wa ⟨rfl, ha⟩
      go_wp2_with fail
      refine (HN.out _).mono ?_
      rintro e w1 ⟨rfl, hb⟩
      have hB1 : Below w.heap.size w w1 := ha.trans (hb.mono ha.size)
      go_wp2_with fail
      refine (HM.out _).mono ?_
      rintro e w2 ⟨rfl, hb2⟩
      have hB : Below w.heap.size w w2 := (hB1.alloc hB1.size _).trans (hb2.mono (by have := hB1.size; simp; omega))
      clear hb2 ha hb hB1
      go_wp2_with fail
      refine (HD.out _).mono ?_
      rintro e w3 ⟨rfl, hb3⟩
      have hB3 : Below w.heap.size w w3 := hB.trans (hb3.mono hB.size)
      go_wp2_with fail
      go_ret
      exact ⟨rfl, hB3.alloc hB3.size _⟩

set_option maxRecDepth 100000 in
set_option maxHeartbeats 1000000 in
theorem back_yes (a0 a1 a2 a3 a4 : Int) (w : World) (h0 : 0 ≤ a0) (h1 : a0 ≤ 1099511627776) :
    Calls Try.prog 5 #[.int .i64 a0, .int .i64 a1, .int .i64 a2, .int .i64 a3, .int .i64 a4] w fun e w' => e = .returned (.bool true) ∧ Below w.heap.size w w' := by
  have hsec := second a1 a2 a3 a4
  have hmin : ∀ w, Calls Try.prog 11 #[.int .i64 a1, .int .i64 a2, .int .i64 a3, .int .i64 a4] w fun e w' => e = .returned (.tuple #[.int .i64 (mnN a1 a2 a3 a4), .int .i64 (mnE a1 a2 a3 a4)]) ∧ Below w.heap.size w w' := minute_any a1 a2 a3 a4
  generalize mnN a1 a2 a3 a4 = n at hsec hmin
  generalize mnE a1 a2 a3 a4 = c at hsec hmin
  have HM := Lib.hid hmin
  obtain ⟨N, hN⟩ : ∃ N, a0 / 1440 + 719162 = N := ⟨_, rfl⟩
  obtain ⟨wd, hwd⟩ : ∃ wd, (a0 / 1440 + 3) % 7 = wd := ⟨_, rfl⟩
  obtain ⟨mi, hmi⟩ : ∃ mi, a0 % 1440 = mi := ⟨_, rfl⟩
  have C1 : ∀ w, Calls Try.prog 17 #[.int .i64 a0] w fun e w' => e = .returned (.tuple #[.agg #[.int .i64 (Civ.yOf N), .int .i64 (Civ.mOf N), .int .i64 (Civ.dOf N), .int .i64 wd, .int .i64 mi], .int .i64 0]) ∧ Below w.heap.size w w' := fun w => date_v a0 N wd mi w h0 h1 hN hwd hmi
  have hd1 := Civ.isDate N (by omega)
  generalize Civ.yOf N = y at C1 hd1
  generalize Civ.mOf N = m at C1 hd1
  generalize Civ.dOf N = d at C1 hd1
  have hmv := minute_of_date a0 N y m d mi hN hd1 h0 h1 hmi
  have K2 : Hid (∀ w, Calls Try.prog 11 #[.int .i64 y, .int .i64 m, .int .i64 d, .int .i64 mi] w fun e w' => e = .returned (.tuple #[.int .i64 a0, .int .i64 0]) ∧ Below w.heap.size w w') := Lib.hid (fun w => minute_lit y m d mi a0 0 w hmv.1 hmv.2)
  have hx1 := hd1.d1
  have hx2 := hd1.d2
  obtain ⟨D, hD⟩ : ∃ D, Civ.dim y m = D := ⟨_, rfl⟩
  rw [hD] at hx2
  have HDim := Lib.hid hD
  have K1 := Lib.hid C1
  have hw0 : 0 ≤ wd := by omega
  have hw6 : wd ≤ 6 := by omega
  clear C1 hmv hd1 hD hN hwd hmi hmin
  go_enter Try.func5, Try.ntmps5
  go_wp2_with fail
  refine (awake_any _).mono ?_
  rintro e wa ⟨rfl, ha⟩
  go_wp2_with fail
  refine (K1.out _).mono ?_
  rintro e w1 ⟨rfl, hb⟩
  have hB1 : Below w.heap.size w w1 := ha.trans (hb.mono ha.size)
  go_wp2_with fail
  refine (K2.out _).mono ?_
  rintro e w2 ⟨rfl, hb2⟩
  obtain ⟨c0, c1, c2, c3, c4⟩ := cells5 hb2 (by simp)
  have hz : w1.heap.size < w2.heap.size := by have := hb2.size; simp at this; omega
  have hB : Below w.heap.size w w2 := (hB1.alloc hB1.size _).trans (hb2.mono (by have := hB1.size; simp; omega))
  clear hb2 ha hb hB1 K1 K2
  go_wp2_with fail
  have kD : ∀ dd os, Calls Try.prog 15 #[.int .i64 y, .int .i64 m] (Sort.grow (redrawn w2 dd) os) fun e w'' => e = .returned (.int .i64 D) ∧ ∃ p : Regrown, w'' = Sort.grow (redrawn w2 p.d) p.os := fun dd os => Calls.regrown_of (days_lit y m D _ HDim.out)
  have k0 := cell_regrown c0
  have k1 := cell_regrown c1
  have k2 := cell_regrown c2
  have k3 := cell_regrown c3
  have t1 : decide (wd < 0) = false := by simp; omega
  have t2 : decide (6 < wd) = false := by simp; omega
  have t3 : decide (d < 1) = false := by simp; omega
  have t4 : decide (D < d) = false := by simp; omega
  refine wp_region_quiet_below (by kernel_rfl) (by kernel_rfl) ?_
  repeat (quiet_step (exact kD _ _))
  refine wpQuiet_nil ?_
  rintro w4 ⟨p, hw4⟩
  have hb4 : Below w2.heap.size w2 w4 := by rw [hw4]; exact below_regrown _ _ _
  have hB4 : Below w.heap.size w w4 := hB.trans (hb4.mono hB.size)
  clear hw4 k0 k1 k2 k3 kD hb4 hB t1 t2 t3 t4 c0 c1 c2 c3 c4
  rcases hsec with ⟨hc, hn⟩ | ⟨hc, wd', hDt⟩
  · have hc' : (c != 0) = true := by simpa using hc
    have hn' : (n == 0) = true := by simpa using hn
    clear hc hn
    go_wp2_with fail
    refine (HM.out _).mono ?_
    rintro e w5 ⟨rfl, hb5⟩
    have hB5 : Below w.heap.size w w5 := hB4.trans (hb5.mono hB4.size)
    go_wp2_with fail
    go_ret
    exact ⟨rfl, hB5⟩
  · subst hc
    have HD := Lib.hid hDt
    clear hDt
    go_wp2_with fail
    refine (HM.out _).mono ?_
    rintro e w5 ⟨rfl, hb5⟩
    have hB5 : Below w.heap.size w w5 := hB4.trans (hb5.mono hB4.size)
    go_wp2_with fail
    refine (HD.out _).mono ?_
    rintro e w3 ⟨rfl, hb3⟩
    have hB3 : Below w.heap.size w w3 := hB5.trans (hb3.mono hB5.size)
    go_wp2_with fail
    go_ret
    exact ⟨rfl, hB3.alloc hB3.size _⟩

theorem walk (a0 a1 a2 a3 a4 : Int) (w0 : (Lit.int .i64 a0).wf = true) (w1 : (Lit.int .i64 a1).wf = true) (w2 : (Lit.int .i64 a2).wf = true) (w3 : (Lit.int .i64 a3).wf = true) (w4 : (Lit.int .i64 a4).wf = true) (w : World) :
    Calls Try.prog 5 #[.int .i64 a0, .int .i64 a1, .int .i64 a2, .int .i64 a3, .int .i64 a4] w fun e w' => e = .returned (.bool true) ∧ Below w.heap.size w w' := by
  by_cases h : a0 < 0 ∨ 1099511627776 < a0
  · exact back_no a0 a1 a2 a3 a4 w h
  · exact back_yes a0 a1 a2 a3 a4 w (by omega) (by omega)
set_option maxRecDepth 100000 in
theorem lifted (os : Os) (started : os.Started) (H : Type) (enc : TypeId × Value → H) :
    ReturnsInHanded {} Try.checked os 5 .any (Rows.civilBackSpec.pre6 enc Try.prog Try.f5 Rows.civilBackRow.domain false) (Rows.civilBackSpec.post enc Try.prog Try.f5 false true false false) := by
  refine returnsInHanded_of_change (C := Try.checked) own_knob started (by kernel_rfl) Try.func5
    (ChangeSpec.witness6 (enc := enc) (C := Try.checked) false ⟨#[], #[.int .i64 0, .int .i64 0, .int .i64 0, .int .i64 0, .int .i64 0], []⟩ 8 (by kernel_rfl) (by kernel_rfl) (by kernel_rfl) (by kernel_rfl)) ?_
  intro W base args ds gs before hval0 hW hcnd _
  refine law_contract (spec := Rows.civilBackSpec) rfl ?_ (by rfl) ?_ hW ?_
  · intro ds hlen
    rw [Try.params5] at hlen
    match ds, hlen with
    | [d0, d1, d2, d3, d4], _ => rfl
  · rw [Try.params5]
    intro t ht
    simp only [List.mem_cons, List.not_mem_nil, or_false] at ht
    rcases ht with rfl | rfl | rfl | rfl | rfl <;> exact ⟨by kernel_rfl, of_decide_eq_true (by kernel_rfl)⟩
  have hval : ∀ (j : Nat) t v, Try.f5.params[j]? = some t → args[j]? = some v → Value.okWide Try.prog W .any base t v := hval0
  obtain ⟨p, q, hA0, _, _, _, _⟩ := hW
  have hA : DataW.TrodAll enc Try.prog W 0 (fun _ => true) true Try.f5.params.toList args.toList ds p := hA0
  rw [Try.params5] at hA hval
  obtain ⟨v0, vs0, d0, ds0, p0, q0, hargs, rfl, rfl, h0, r0⟩ := trodAll_cons hA
  obtain ⟨v1, vs1, d1, ds1, p1, q1, rfl, rfl, rfl, h1, r1⟩ := trodAll_cons r0
  obtain ⟨v2, vs2, d2, ds2, p2, q2, rfl, rfl, rfl, h2, r2⟩ := trodAll_cons r1
  obtain ⟨v3, vs3, d3, ds3, p3, q3, rfl, rfl, rfl, h3, r3⟩ := trodAll_cons r2
  obtain ⟨v4, vs4, d4, ds4, p4, q4, rfl, rfl, rfl, h4, r4⟩ := trodAll_cons r3
  obtain ⟨rfl, rfl, rfl⟩ := trodAll_nil r4
  obtain rfl : args = #[v0, v1, v2, v3, v4] := by cases args; simp_all
  obtain ⟨a0, rfl, rfl, rfl, w0⟩ := open_int Try.underlying3 (hval 0 _ v0 rfl rfl) h0
  obtain ⟨a1, rfl, rfl, rfl, w1⟩ := open_int Try.underlying3 (hval 1 _ v1 rfl rfl) h1
  obtain ⟨a2, rfl, rfl, rfl, w2⟩ := open_int Try.underlying3 (hval 2 _ v2 rfl rfl) h2
  obtain ⟨a3, rfl, rfl, rfl, w3⟩ := open_int Try.underlying3 (hval 3 _ v3 rfl rfl) h3
  obtain ⟨a4, rfl, rfl, rfl, w4⟩ := open_int Try.underlying3 (hval 4 _ v4 rfl rfl) h4
  exact walk a0 a1 a2 a3 a4 w0 w1 w2 w3 w4 W
theorem over : Rows.civilBackRow.holds Try.pinned (OpenSpec.ofChange Rows.civilBackSpec) :=
  OpenClaim.holds_of_wide 5 Try.f5 rfl rfl rfl rfl rfl rfl rfl ⟨rfl, rfl, rfl, rfl, rfl⟩ rfl rfl rfl rfl rfl (by kernel_rfl) Try.func5 (by kernel_rfl)
    (of_decide_eq_true (by kernel_rfl)) (by unfold Func.isWrapper; first | (rw [if_pos (by decide +kernel)]; kernel_rfl) | (rw [if_neg (by decide +kernel)]; exact ⟨rfl, rfl⟩))
    (fun os started H enc _ => lifted os started H enc)
theorem proved : Rows.CivilBackSaid := over
#print axioms proved
end Go.Proofs.Ytfpmldmgiajgoaa.civilBack
