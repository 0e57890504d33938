/- CivilWeek: of any number: seven days on it is the same weekday, at the same minute of the day, of another date. Conditions: none. -/
import Derived.Test.YtfpmldmgiajgoaaCivH
import Derived.Test.YtfpmldmgiajgoaaFrame
namespace Go.Proofs.Ytfpmldmgiajgoaa.civilWeek
open Go.ChangeShapes Go.WideShapes Go.ChangeAt Go.RowKit
set_option linter.unusedVariables false
set_option maxHeartbeats 1000000 in
theorem walk (a0 : Int) (w0 : (Lit.int .i64 a0).wf = true) (w : World) :
    Calls Try.prog 9 #[.int .i64 a0] w fun e w' => e = .returned (.bool true) ∧ Below w.heap.size w w' := by
  by_cases h : a0 < 0
  · go_enter Try.func9, Try.ntmps9
    go_wp2_with fail
    refine (awake_any _).mono ?_
    rintro e w1 ⟨rfl, hb⟩
    go_wp2_with fail
    go_ret
    exact ⟨rfl, hb⟩
  by_cases h2 : 1099511617696 < a0
  · go_enter Try.func9, Try.ntmps9
    go_wp2_with fail
    refine (awake_any _).mono ?_
    rintro e w1 ⟨rfl, hb⟩
    go_wp2_with fail
    go_ret
    exact ⟨rfl, hb⟩
  have h0 : 0 ≤ a0 := by omega
  have h1 : a0 ≤ 1099511617696 := by omega
  obtain ⟨N, hN⟩ : ∃ N, a0 / 1440 + 719162 = N := ⟨_, rfl⟩
  obtain ⟨wd, hwd⟩ : ∃ wd, (a0 / 1440 + 3) % 7 = wd := ⟨_, rfl⟩
  obtain ⟨mi, hmi⟩ : ∃ mi, a0 % 1440 = mi := ⟨_, rfl⟩
  have hN2 : (a0 + 10080) / 1440 + 719162 = N + 7 := by omega
  have hwd2 : ((a0 + 10080) / 1440 + 3) % 7 = wd := by omega
  have hmi2 : (a0 + 10080) % 1440 = mi := by omega
  have C1 : ∀ w, Calls Try.prog 17 #[.int .i64 a0] w fun e w' => e = .returned (.tuple #[.agg #[.int .i64 (Civ.yOf N), .int .i64 (Civ.mOf N), .int .i64 (Civ.dOf N), .int .i64 wd, .int .i64 mi], .int .i64 0]) ∧ Below w.heap.size w w' := fun w => date_v a0 N wd mi w h0 (by omega) hN hwd hmi
  have C2 : ∀ w, Calls Try.prog 17 #[.int .i64 (a0 + 10080)] w fun e w' => e = .returned (.tuple #[.agg #[.int .i64 (Civ.yOf (N + 7)), .int .i64 (Civ.mOf (N + 7)), .int .i64 (Civ.dOf (N + 7)), .int .i64 wd, .int .i64 mi], .int .i64 0]) ∧ Below w.heap.size w w' := fun w => date_v (a0 + 10080) (N + 7) wd mi w (by omega) (by omega) hN2 hwd2 hmi2
  have hd1 := Civ.isDate N (by omega)
  have hd2 := Civ.isDate (N + 7) (by omega)
  generalize Civ.yOf N = y at C1 hd1
  generalize Civ.mOf N = m at C1 hd1
  generalize Civ.dOf N = d at C1 hd1
  generalize Civ.yOf (N + 7) = y' at C2 hd2
  generalize Civ.mOf (N + 7) = m' at C2 hd2
  generalize Civ.dOf (N + 7) = d' at C2 hd2
  have hne : ¬ (y = y' ∧ m = m' ∧ d = d') := by
    rintro ⟨rfl, rfl, rfl⟩
    have h1 := hd1.num; have h2 := hd2.num; omega
  have HNE := Lib.hid hne
  have K1 := Lib.hid C1
  have K2 := Lib.hid C2
  clear C1 C2 hN hwd hmi hN2 hwd2 hmi2 hd1 hd2 hne
  go_enter Try.func9, Try.ntmps9
  go_wp2_with fail
  refine (awake_any _).mono ?_
  rintro e wa ⟨rfl, ha⟩
  go_wp2_with fail
  refine (K1.out _).mono ?_
  rintro e w1 ⟨rfl, hb⟩
  go_wp2_with fail
  refine (K2.out _).mono ?_
  rintro e w2 ⟨rfl, hb2⟩
  obtain ⟨c0, c1, c2, c3, c4⟩ := cells5 hb2 (by simp)
  have hz : w1.heap.size < w2.heap.size := by have := hb2.size; simp at this; omega
  have hB1 : Below w.heap.size w w1 := ha.trans (hb.mono ha.size)
  have hB : Below w.heap.size w w2 := (hB1.alloc hB1.size _).trans (hb2.mono (by have := hB1.size; simp; omega))
  clear hb2 ha hb hB1
  go_wp2_with fail
  all_goals go_ret
  all_goals refine ⟨ret_bool ?_, hB.alloc hB.size _⟩
  all_goals first | rfl | (have hh := HNE.out; clear HNE K1 K2; simp_all; done)
set_option maxRecDepth 100000 in
theorem lifted (os : Os) (started : os.Started) (H : Type) (enc : TypeId × Value → H) :
    ReturnsInHanded {} Try.checked os 9 .any (Rows.civilWeekSpec.pre6 enc Try.prog Try.f9 Rows.civilWeekRow.domain false) (Rows.civilWeekSpec.post enc Try.prog Try.f9 false true false false) := by
  refine returnsInHanded_of_change (C := Try.checked) own_knob started (by kernel_rfl) Try.func9
    (ChangeSpec.witness6 (enc := enc) (C := Try.checked) false ⟨#[], #[.int .i64 0], []⟩ 8 (by kernel_rfl) (by kernel_rfl) (by kernel_rfl) (by kernel_rfl)) ?_
  intro W base args ds gs before hval0 hW hcnd _
  refine law_contract (spec := Rows.civilWeekSpec) rfl ?_ (by rfl) ?_ hW ?_
  · intro ds hlen
    rw [Try.params9] at hlen
    match ds, hlen with
    | [d0], _ => rfl
  · rw [Try.params9]
    intro t ht
    simp only [List.mem_cons, List.not_mem_nil, or_false] at ht
    rcases ht with rfl <;> exact ⟨by kernel_rfl, of_decide_eq_true (by kernel_rfl)⟩
  have hval : ∀ (j : Nat) t v, Try.f9.params[j]? = some t → args[j]? = some v → Value.okWide Try.prog W .any base t v := hval0
  obtain ⟨p, q, hA0, _, _, _, _⟩ := hW
  have hA : DataW.TrodAll enc Try.prog W 0 (fun _ => true) true Try.f9.params.toList args.toList ds p := hA0
  rw [Try.params9] at hA hval
  obtain ⟨v0, vs0, d0, ds0, p0, q0, hargs, rfl, rfl, h0, r0⟩ := trodAll_cons hA
  obtain ⟨rfl, rfl, rfl⟩ := trodAll_nil r0
  obtain rfl : args = #[v0] := by cases args; simp_all
  obtain ⟨a0, rfl, rfl, rfl, w0⟩ := open_int Try.underlying3 (hval 0 _ v0 rfl rfl) h0
  exact walk a0 w0 W
theorem over : Rows.civilWeekRow.holds Try.pinned (OpenSpec.ofChange Rows.civilWeekSpec) :=
  OpenClaim.holds_of_wide 9 Try.f9 rfl rfl rfl rfl rfl rfl rfl ⟨rfl, rfl, rfl, rfl, rfl⟩ rfl rfl rfl rfl rfl (by kernel_rfl) Try.func9 (by kernel_rfl)
    (of_decide_eq_true (by kernel_rfl)) (by unfold Func.isWrapper; first | (rw [if_pos (by decide +kernel)]; kernel_rfl) | (rw [if_neg (by decide +kernel)]; exact ⟨rfl, rfl⟩))
    (fun os started H enc _ => lifted os started H enc)
theorem proved : Rows.CivilWeekSaid := over
#print axioms proved
end Go.Proofs.Ytfpmldmgiajgoaa.civilWeek
