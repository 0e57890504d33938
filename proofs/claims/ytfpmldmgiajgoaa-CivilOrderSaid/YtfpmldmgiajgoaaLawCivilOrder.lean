/- CivilOrder: of any two minutes the later one has the later date, or the same one and the later minute of the day. Conditions: none. -/
import Derived.Test.YtfpmldmgiajgoaaCivH
import Derived.Test.YtfpmldmgiajgoaaFrame
namespace Go.Proofs.Ytfpmldmgiajgoaa.civilOrder
open Go.ChangeShapes Go.WideShapes Go.ChangeAt Go.RowKit
set_option linter.unusedVariables false
theorem date_bad_or (n : Int) (w : World) : ∃ y m d wd mi c : Int, (Calls Try.prog 17 #[.int .i64 n] w fun e w' => e = .returned (.tuple #[.agg #[.int .i64 y, .int .i64 m, .int .i64 d, .int .i64 wd, .int .i64 mi], .int .i64 c]) ∧ Below w.heap.size w w') := by
  by_cases h : n < 0 ∨ 1099511627776 < n
  · exact ⟨_, _, _, _, _, _, date_no n w h⟩
  · exact ⟨_, _, _, _, _, _, date_any n w (by omega) (by omega)⟩
set_option maxHeartbeats 1000000 in
theorem walk (a0 a1 : Int) (w0 : (Lit.int .i64 a0).wf = true) (w1 : (Lit.int .i64 a1).wf = true) (w : World) :
    Calls Try.prog 8 #[.int .i64 a0, .int .i64 a1] w fun e w' => e = .returned (.bool true) ∧ Below w.heap.size w w' := by
  by_cases h : a0 < 0 ∨ 1099511627776 < a0
  · go_enter Try.func8, Try.ntmps8
    go_wp2_with fail
    refine (awake_any _).mono ?_
    rintro e wa ⟨rfl, ha⟩
    go_wp2_with fail
    refine (date_no _ _ h).mono ?_
    rintro e w1 ⟨rfl, hb⟩
    go_wp2_with fail
    obtain ⟨y, m, d, wd, mi, c, hC⟩ := date_bad_or a1 (w1.alloc (.cells #[.int .i64 0, .int .i64 0, .int .i64 0, .int .i64 0, .int .i64 0] 31))
    refine hC.mono ?_
    rintro e w2 ⟨rfl, hb2⟩
    have hB1 : Below w.heap.size w w1 := ha.trans (hb.mono ha.size)
    have hB : Below w.heap.size w w2 := (hB1.alloc hB1.size _).trans (hb2.mono (by have := hB1.size; simp; omega))
    clear hb2 ha hb hB1 hC h
    go_wp2_with fail
    all_goals
      go_ret
      exact ⟨rfl, hB.alloc hB.size _⟩
  by_cases h2 : a1 < 0 ∨ 1099511627776 < a1
  · go_enter Try.func8, Try.ntmps8
    go_wp2_with fail
    refine (awake_any _).mono ?_
    rintro e wa ⟨rfl, ha⟩
    go_wp2_with fail
    refine (date_any _ _ (by omega) (by omega)).mono ?_
    rintro e w1 ⟨rfl, hb⟩
    go_wp2_with fail
    refine (date_no _ _ h2).mono ?_
    rintro e w2 ⟨rfl, hb2⟩
    have hB1 : Below w.heap.size w w1 := ha.trans (hb.mono ha.size)
    have hB : Below w.heap.size w w2 := (hB1.alloc hB1.size _).trans (hb2.mono (by have := hB1.size; simp; omega))
    clear hb2 ha hb hB1 h h2
    go_wp2_with fail
    go_ret
    exact ⟨rfl, hB.alloc hB.size _⟩
  have h00 : 0 ≤ a0 := by omega
  have h01 : a0 ≤ 1099511627776 := by omega
  have h10 : 0 ≤ a1 := by omega
  have h11 : a1 ≤ 1099511627776 := by omega
  clear h h2
  obtain ⟨N, hN⟩ : ∃ N, a0 / 1440 + 719162 = N := ⟨_, rfl⟩
  obtain ⟨M, hM⟩ : ∃ M, a1 / 1440 + 719162 = M := ⟨_, rfl⟩
  obtain ⟨wd, hwd⟩ : ∃ wd, (a0 / 1440 + 3) % 7 = wd := ⟨_, rfl⟩
  obtain ⟨wd', hwd'⟩ : ∃ wd, (a1 / 1440 + 3) % 7 = wd := ⟨_, rfl⟩
  obtain ⟨mi, hmi⟩ : ∃ mi, a0 % 1440 = mi := ⟨_, rfl⟩
  obtain ⟨mi', hmi'⟩ : ∃ mi, a1 % 1440 = mi := ⟨_, rfl⟩
  have C1 : ∀ w, Calls Try.prog 17 #[.int .i64 a0] w fun e w' => e = .returned (.tuple #[.agg #[.int .i64 (Civ.yOf N), .int .i64 (Civ.mOf N), .int .i64 (Civ.dOf N), .int .i64 wd, .int .i64 mi], .int .i64 0]) ∧ Below w.heap.size w w' := fun w => date_v a0 N wd mi w h00 h01 hN hwd hmi
  have C2 : ∀ w, Calls Try.prog 17 #[.int .i64 a1] w fun e w' => e = .returned (.tuple #[.agg #[.int .i64 (Civ.yOf M), .int .i64 (Civ.mOf M), .int .i64 (Civ.dOf M), .int .i64 wd', .int .i64 mi'], .int .i64 0]) ∧ Below w.heap.size w w' := fun w => date_v a1 M wd' mi' w h10 h11 hM hwd' hmi'
  have hd1 := Civ.isDate N (by omega)
  have hd2 := Civ.isDate M (by omega)
  generalize Civ.yOf N = y at C1 hd1
  generalize Civ.mOf N = m at C1 hd1
  generalize Civ.dOf N = d at C1 hd1
  generalize Civ.yOf M = y' at C2 hd2
  generalize Civ.mOf M = m' at C2 hd2
  generalize Civ.dOf M = d' at C2 hd2
  have hcmp : a0 < a1 ↔ (y < y' ∨ (y = y' ∧ (m < m' ∨ (m = m' ∧ (d < d' ∨ (d = d' ∧ mi < mi')))))) := by
    by_cases e1 : y = y'
    · subst e1
      by_cases e2 : m = m'
      · subst e2
        have := hd1.lt_day hd2
        omega
      · rcases Int.lt_or_gt_of_ne e2 with c | c
        · have := hd1.lt_month hd2 c
          omega
        · have := hd2.lt_month hd1 c
          omega
    · rcases Int.lt_or_gt_of_ne e1 with c | c
      · have := hd1.lt_year hd2 c
        omega
      · have := hd2.lt_year hd1 c
        omega
  have HC := Lib.hid hcmp
  have K1 := Lib.hid C1
  have K2 := Lib.hid C2
  clear C1 C2 hN hM hwd hwd' hmi hmi' hd1 hd2 hcmp
  go_enter Try.func8, Try.ntmps8
  go_wp2_with fail
  refine (awake_any _).mono ?_
  rintro e wa ⟨rfl, ha⟩
  go_wp2_with fail
  refine (K1.out _).mono ?_
  rintro e w1 ⟨rfl, hb⟩
  go_wp2_with fail
  refine (K2.out _).mono ?_
  rintro e w2 ⟨rfl, hb2⟩
  obtain ⟨c0, c1, c2, c3, c4⟩ := cells5 hb2 (by simp)
  have hz : w1.heap.size < w2.heap.size := by have := hb2.size; simp at this; omega
  have hB1 : Below w.heap.size w w1 := ha.trans (hb.mono ha.size)
  have hB : Below w.heap.size w w2 := (hB1.alloc hB1.size _).trans (hb2.mono (by have := hB1.size; simp; omega))
  clear hb2 ha hb hB1 K1 K2
  by_cases e1 : y = y'
  · subst e1
    by_cases e2 : m = m'
    · subst e2
      go_wp2_with fail
      all_goals go_ret
      all_goals refine ⟨ret_bool ?_, hB.alloc hB.size _⟩
      all_goals (have hh := HC.out; clear HC; simp only [true_and, false_and, Int.lt_irrefl, false_or] at hh; first | (rw [beq_iff_eq, decide_eq_decide]; omega) | (rw [decide_eq_true_eq]; omega) | (simp; omega))
    · have e2' : (m == m') = false := by simpa using e2
      have E2 := Lib.hid e2
      clear e2
      go_wp2_with fail
      go_ret
      refine ⟨ret_bool ?_, hB.alloc hB.size _⟩
      have hh := HC.out; have e2 := E2.out; clear HC E2
      simp only [true_and, false_and, Int.lt_irrefl, false_or] at hh
      rw [beq_iff_eq, decide_eq_decide]; omega
  · have e1' : (y == y') = false := by simpa using e1
    have E1 := Lib.hid e1
    clear e1
    go_wp2_with fail
    go_ret
    refine ⟨ret_bool ?_, hB.alloc hB.size _⟩
    have hh := HC.out; have e1 := E1.out; clear HC E1
    rw [beq_iff_eq, decide_eq_decide]; omega
set_option maxRecDepth 100000 in
theorem lifted (os : Os) (started : os.Started) (H : Type) (enc : TypeId × Value → H) :
    ReturnsInHanded {} Try.checked os 8 .any (Rows.civilOrderSpec.pre6 enc Try.prog Try.f8 Rows.civilOrderRow.domain false) (Rows.civilOrderSpec.post enc Try.prog Try.f8 false true false false) := by
  refine returnsInHanded_of_change (C := Try.checked) own_knob started (by kernel_rfl) Try.func8
    (ChangeSpec.witness6 (enc := enc) (C := Try.checked) false ⟨#[], #[.int .i64 0, .int .i64 0], []⟩ 8 (by kernel_rfl) (by kernel_rfl) (by kernel_rfl) (by kernel_rfl)) ?_
  intro W base args ds gs before hval0 hW hcnd _
  refine law_contract (spec := Rows.civilOrderSpec) rfl ?_ (by rfl) ?_ hW ?_
  · intro ds hlen
    rw [Try.params8] at hlen
    match ds, hlen with
    | [d0, d1], _ => rfl
  · rw [Try.params8]
    intro t ht
    simp only [List.mem_cons, List.not_mem_nil, or_false] at ht
    rcases ht with rfl | rfl <;> exact ⟨by kernel_rfl, of_decide_eq_true (by kernel_rfl)⟩
  have hval : ∀ (j : Nat) t v, Try.f8.params[j]? = some t → args[j]? = some v → Value.okWide Try.prog W .any base t v := hval0
  obtain ⟨p, q, hA0, _, _, _, _⟩ := hW
  have hA : DataW.TrodAll enc Try.prog W 0 (fun _ => true) true Try.f8.params.toList args.toList ds p := hA0
  rw [Try.params8] at hA hval
  obtain ⟨v0, vs0, d0, ds0, p0, q0, hargs, rfl, rfl, h0, r0⟩ := trodAll_cons hA
  obtain ⟨v1, vs1, d1, ds1, p1, q1, rfl, rfl, rfl, h1, r1⟩ := trodAll_cons r0
  obtain ⟨rfl, rfl, rfl⟩ := trodAll_nil r1
  obtain rfl : args = #[v0, v1] := by cases args; simp_all
  obtain ⟨a0, rfl, rfl, rfl, w0⟩ := open_int Try.underlying3 (hval 0 _ v0 rfl rfl) h0
  obtain ⟨a1, rfl, rfl, rfl, w1⟩ := open_int Try.underlying3 (hval 1 _ v1 rfl rfl) h1
  exact walk a0 a1 w0 w1 W
theorem over : Rows.civilOrderRow.holds Try.pinned (OpenSpec.ofChange Rows.civilOrderSpec) :=
  OpenClaim.holds_of_wide 8 Try.f8 rfl rfl rfl rfl rfl rfl rfl ⟨rfl, rfl, rfl, rfl, rfl⟩ rfl rfl rfl rfl rfl (by kernel_rfl) Try.func8 (by kernel_rfl)
    (of_decide_eq_true (by kernel_rfl)) (by unfold Func.isWrapper; first | (rw [if_pos (by decide +kernel)]; kernel_rfl) | (rw [if_neg (by decide +kernel)]; exact ⟨rfl, rfl⟩))
    (fun os started H enc _ => lifted os started H enc)
theorem proved : Rows.CivilOrderSaid := over
#print axioms proved
end Go.Proofs.Ytfpmldmgiajgoaa.civilOrder
