/- CivilYears: of any number: a year's months have 365 days together, or 366 in a leap year; of 400 years behind one another 97 are leap years. Conditions: none. -/
import Derived.Test.YtfpmldmgiajgoaaCivH
import Derived.Test.YtfpmldmgiajgoaaFrame
namespace Go.Proofs.Ytfpmldmgiajgoaa.civilYears
open Go.ChangeShapes Go.WideShapes Go.ChangeAt Go.RowKit
set_option linter.unusedVariables false
set_option maxRecDepth 100000 in
set_option maxHeartbeats 1000000 in
theorem years_yes (a0 : Int) (w : World) (h0 : 1 ≤ a0) (h1 : a0 ≤ 1099511627776) :
    Calls Try.prog 7 #[.int .i64 a0] w fun e w' => e = .returned (.bool true) ∧ Below w.heap.size w w' := by
  go_enter Try.func7, Try.ntmps7
  go_wp2_with fail
  refine (awake_any _).mono ?_
  rintro e wa ⟨rfl, ha⟩
  go_wp2_with fail
  go_loopw [3, 5] (fun a b wr => ∃ (s : Int) (k : Nat), a = .int .i64 s ∧ b = .int .i64 k ∧ k ≤ 14 ∧ 0 ≤ s ∧ s ≤ 31 * k ∧ Hid (s = Civ.cum a0 k) ∧ Below w.heap.size w wr) (fun _ b _ => 14 - (intOf b).toNat)
  case atStart => exact ⟨0, 0, rfl, rfl, by omega, by omega, by omega, by show _ = _; simp [Civ.cum], ha⟩
  case round =>
    clear ha
    obtain ⟨s, k, rfl, rfl, hk, hs0, hs1, HS, hB⟩ := hrel
    by_cases hlt : k ≤ 13
    · obtain ⟨D, hD⟩ : ∃ D, Civ.dim a0 k = D := ⟨_, rfl⟩
      have hDb := Civ.dim_le a0 k
      rw [hD] at hDb
      have hD0 := hDb.1
      have hD1 := hDb.2
      have K : Hid (∀ w, Calls Try.prog 15 #[.int .i64 a0, .int .i64 k] w fun e w' => e = .returned (.int .i64 D) ∧ Below w.heap.size w w') := Lib.hid (fun w => days_lit a0 k D w hD)
      have hnext : Hid (s + D = Civ.cum a0 ((k : Int) + 1)) := by
        show _ = _
        rw [HS.out, ← hD]
        by_cases h12 : 1 ≤ (k : Int) ∧ (k : Int) ≤ 12
        · exact (Civ.cum_succ a0 k h0 h12.1 h12.2).symm
        · rcases (show (k : Int) = 0 ∨ (k : Int) = 13 by omega) with e | e
          · rw [e]; simp [Civ.cum, Civ.dim]
          · rw [e]; simp [Civ.cum, Civ.dim]
      clear hD hDb
      go_wp2_with fail
      refine (K.out _).mono ?_
      rintro e w2 ⟨rfl, hb2⟩
      go_wp2_with fail
      go_roundw
      case rel => exact ⟨_, k + 1, rfl, by go_num, by omega, by omega, by omega, by show _ = _; rw [hnext.out]; rfl, hB.trans (hb2.mono hB.size)⟩
      case measure => simp [intOf]; omega
    · have hlt' : 13 < k := by omega
      have hs : Hid (s = 365 + Civ.lp a0) := by
        show _ = _
        rw [HS.out]
        have : (k : Int) = 14 := by omega
        rw [this]; simp [Civ.cum]
      have hlp := Civ.lp_01 a0
      clear HS hlt
      obtain ⟨wo, hwo⟩ : ∃ wo : World, wo = wr := ⟨_, rfl⟩
      rw [← hwo] at hB
      subst hwo
      go_wp2_with fail
      go_loop [4, 6] (fun a b => ∃ l x : Int, a = .int .i64 l ∧ b = .int .i64 x ∧ a0 ≤ x ∧ x ≤ a0 + 400 ∧ 0 ≤ l ∧ l ≤ x - a0 ∧ Hid (l = Civ.ahd x - Civ.ahd a0 - 365 * (x - a0))) (fun _ b => (a0 + 400 - intOf b).toNat)
      case atStart => exact ⟨0, a0, rfl, rfl, by omega, by omega, by omega, by omega, by show _ = _; omega⟩
      case round =>
        obtain ⟨l, x, rfl, rfl, hx0, hx1, hl0, hl1, HL⟩ := hrel
        by_cases hx : x < a0 + 400
        · have hsucc := Civ.ahd_succ x (by omega)
          unfold Civ.lp at hsucc
          cases hlp : Civ.leap x with
          | true =>
            have K : Hid (∀ w, Calls Try.prog 13 #[.int .i64 x] w fun e w' => e = .returned (.bool true) ∧ w = w') := Lib.hid (fun w => leap_lit x true w hlp)
            rw [hlp, if_pos rfl] at hsucc
            have HSu := Lib.hid hsucc
            clear hlp hsucc
            go_wp2_with (go_at_call 13; refine (K.out _).mono ?_; rintro e w2 ⟨rfl, rfl⟩)
            go_round
            case rel => exact ⟨_, _, rfl, rfl, by omega, by omega, by omega, by omega, by show _ = _; rw [HSu.out]; have := HL.out; omega⟩
            case measure => simp [intOf]; omega
          | false =>
            have K : Hid (∀ w, Calls Try.prog 13 #[.int .i64 x] w fun e w' => e = .returned (.bool false) ∧ w = w') := Lib.hid (fun w => leap_lit x false w hlp)
            rw [hlp, if_neg (by decide)] at hsucc
            have HSu := Lib.hid hsucc
            clear hlp hsucc
            go_wp2_with (go_at_call 13; refine (K.out _).mono ?_; rintro e w2 ⟨rfl, rfl⟩)
            go_round
            case rel => exact ⟨_, _, rfl, rfl, by omega, by omega, by omega, by omega, by show _ = _; rw [HSu.out]; have := HL.out; omega⟩
            case measure => simp [intOf]; omega
        · have e97 : l = 97 := by
            have e : x = a0 + 400 := by omega
            have h1 := HL.out
            rw [e, show a0 + 400 = a0 + 400 * 1 from by omega, Civ.ahd_cycle] at h1
            omega
          subst e97
          have hx' : ¬ x < a0 + 400 := hx
          have hs2 := hs.out
          unfold Civ.lp at hs2
          cases hlp : Civ.leap a0 with
          | true =>
            have K : Hid (∀ w, Calls Try.prog 13 #[.int .i64 a0] w fun e w' => e = .returned (.bool true) ∧ w = w') := Lib.hid (fun w => leap_lit a0 true w hlp)
            rw [hlp, if_pos rfl] at hs2
            obtain rfl : s = 366 := by omega
            clear hs hlp HL hs2 hx
            go_wp2_with fail
            refine (K.out _).mono ?_
            rintro e w2 ⟨rfl, rfl⟩
            go_wp2_with fail
            refine (K.out _).mono ?_
            rintro e w2 ⟨rfl, rfl⟩
            go_wp2_with fail
            go_ret
            exact ⟨rfl, hB⟩
          | false =>
            have K : Hid (∀ w, Calls Try.prog 13 #[.int .i64 a0] w fun e w' => e = .returned (.bool false) ∧ w = w') := Lib.hid (fun w => leap_lit a0 false w hlp)
            rw [hlp, if_neg (by decide)] at hs2
            obtain rfl : s = 365 := by omega
            clear hs hlp HL hs2 hx
            go_wp2_with fail
            refine (K.out _).mono ?_
            rintro e w2 ⟨rfl, rfl⟩
            go_wp2_with fail
            refine (K.out _).mono ?_
            rintro e w2 ⟨rfl, rfl⟩
            go_wp2_with fail
            go_ret
            exact ⟨rfl, hB⟩

theorem walk (a0 : Int) (w0 : (Lit.int .i64 a0).wf = true) (w : World) :
    Calls Try.prog 7 #[.int .i64 a0] w fun e w' => e = .returned (.bool true) ∧ Below w.heap.size w w' := by
  by_cases h : a0 < 1
  · go_enter Try.func7, Try.ntmps7
    go_wp2_with fail
    refine (awake_any _).mono ?_
    rintro e w1 ⟨rfl, hb⟩
    go_wp2_with fail
    refine (days_lit a0 1 0 _ (by unfold Civ.dim; rw [if_pos (by omega)])).mono ?_
    rintro e w2 ⟨rfl, hb2⟩
    have hB : Below w.heap.size w w2 := hb.trans (hb2.mono hb.size)
    go_wp2_with fail
    all_goals
      refine (days_lit _ 13 0 _ (by unfold Civ.dim; rw [if_pos (by omega)])).mono ?_
      rintro e w3 ⟨rfl, hb3⟩
      go_wp2_with fail
      all_goals
        go_ret
        exact ⟨ret_bool (by simp), hB.trans (hb3.mono hB.size)⟩
  by_cases h2 : 1099511627776 < a0
  · go_enter Try.func7, Try.ntmps7
    go_wp2_with fail
    refine (awake_any _).mono ?_
    rintro e w1 ⟨rfl, hb⟩
    go_wp2_with fail
    refine (days_lit a0 1 31 _ (by unfold Civ.dim; rw [if_neg (by omega)]; rfl)).mono ?_
    rintro e w2 ⟨rfl, hb2⟩
    have hB : Below w.heap.size w w2 := hb.trans (hb2.mono hb.size)
    go_wp2_with fail
    all_goals
      refine (days_lit _ 13 0 _ (by unfold Civ.dim; rw [if_pos (by omega)])).mono ?_
      rintro e w3 ⟨rfl, hb3⟩
      go_wp2_with fail
      all_goals
        go_ret
        exact ⟨ret_bool (by simp), hB.trans (hb3.mono hB.size)⟩
  exact years_yes a0 w (by omega) (by omega)
set_option maxRecDepth 100000 in
theorem lifted (os : Os) (started : os.Started) (H : Type) (enc : TypeId × Value → H) :
    ReturnsInHanded {} Try.checked os 7 .any (Rows.civilYearsSpec.pre6 enc Try.prog Try.f7 Rows.civilYearsRow.domain false) (Rows.civilYearsSpec.post enc Try.prog Try.f7 false true false false) := by
  refine returnsInHanded_of_change (C := Try.checked) own_knob started (by kernel_rfl) Try.func7
    (ChangeSpec.witness6 (enc := enc) (C := Try.checked) false ⟨#[], #[.int .i64 0], []⟩ 8 (by kernel_rfl) (by kernel_rfl) (by kernel_rfl) (by kernel_rfl)) ?_
  intro W base args ds gs before hval0 hW hcnd _
  refine law_contract (spec := Rows.civilYearsSpec) rfl ?_ (by rfl) ?_ hW ?_
  · intro ds hlen
    rw [Try.params7] at hlen
    match ds, hlen with
    | [d0], _ => rfl
  · rw [Try.params7]
    intro t ht
    simp only [List.mem_cons, List.not_mem_nil, or_false] at ht
    rcases ht with rfl <;> exact ⟨by kernel_rfl, of_decide_eq_true (by kernel_rfl)⟩
  have hval : ∀ (j : Nat) t v, Try.f7.params[j]? = some t → args[j]? = some v → Value.okWide Try.prog W .any base t v := hval0
  obtain ⟨p, q, hA0, _, _, _, _⟩ := hW
  have hA : DataW.TrodAll enc Try.prog W 0 (fun _ => true) true Try.f7.params.toList args.toList ds p := hA0
  rw [Try.params7] at hA hval
  obtain ⟨v0, vs0, d0, ds0, p0, q0, hargs, rfl, rfl, h0, r0⟩ := trodAll_cons hA
  obtain ⟨rfl, rfl, rfl⟩ := trodAll_nil r0
  obtain rfl : args = #[v0] := by cases args; simp_all
  obtain ⟨a0, rfl, rfl, rfl, w0⟩ := open_int Try.underlying3 (hval 0 _ v0 rfl rfl) h0
  exact walk a0 w0 W
theorem over : Rows.civilYearsRow.holds Try.pinned (OpenSpec.ofChange Rows.civilYearsSpec) :=
  OpenClaim.holds_of_wide 7 Try.f7 rfl rfl rfl rfl rfl rfl rfl ⟨rfl, rfl, rfl, rfl, rfl⟩ rfl rfl rfl rfl rfl (by kernel_rfl) Try.func7 (by kernel_rfl)
    (of_decide_eq_true (by kernel_rfl)) (by unfold Func.isWrapper; first | (rw [if_pos (by decide +kernel)]; kernel_rfl) | (rw [if_neg (by decide +kernel)]; exact ⟨rfl, rfl⟩))
    (fun os started H enc _ => lifted os started H enc)
theorem proved : Rows.CivilYearsSaid := over
#print axioms proved
end Go.Proofs.Ytfpmldmgiajgoaa.civilYears
