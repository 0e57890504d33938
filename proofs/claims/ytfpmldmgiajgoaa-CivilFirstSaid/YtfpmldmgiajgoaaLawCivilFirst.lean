/- CivilFirst: of years from 1970 to 1,000,000 and any month: the first of a month is the day behind the last one of the month ahead. Conditions: none. -/
import Derived.Test.YtfpmldmgiajgoaaCivH
import Derived.Test.YtfpmldmgiajgoaaFrame
namespace Go.Proofs.Ytfpmldmgiajgoaa.civilFirst
open Go.ChangeShapes Go.WideShapes Go.ChangeAt Go.RowKit
set_option linter.unusedVariables false
theorem mn_first (y m d v : Int) (hy : 1970 ≤ y) (hy2 : y ≤ 1000001) (hm : 1 ≤ m) (hm2 : m ≤ 12) (hd : 1 ≤ d) (hd2 : d ≤ Civ.dim y m) (hv : v = (Civ.ahd y - 719162 + d - 1 + Civ.cum y m) * 1440) : mnN y m d 0 = v ∧ mnE y m d 0 = 0 := by
  have hb : ¬ mnBad y m d 0 := by unfold mnBad; omega
  have hc := Civ.cum_bd y m hm (by omega)
  have hdm := Civ.dim_le y m
  have hval : mnVal y m d 0 = v := by unfold mnVal; omega
  have ha : Civ.ahd y ≤ 366000000 := by unfold Civ.ahd; omega
  have hle : v ≤ 1099511627776 := by omega
  unfold mnN mnE
  rw [if_neg hb, if_neg hb, hval, if_pos hle, if_pos hle]
  exact ⟨rfl, rfl⟩
set_option maxHeartbeats 1000000 in
theorem core (y m D A y' m' : Int) (w : World) (hy : 1970 ≤ y) (hy2 : y ≤ 1000000) (hm : 1 ≤ m) (hm2 : m ≤ 12) (hD1 : 28 ≤ D) (hD2 : D ≤ 31) (hA : 0 ≤ A) (hA2 : A ≤ 1099511627776)
    (hn : (m < 12 ∧ y' = y ∧ m' = m + 1) ∨ (m = 12 ∧ y' = y + 1 ∧ m' = 1))
    (KD : Hid (∀ w, Calls Try.prog 15 #[.int .i64 y, .int .i64 m] w fun e w' => e = .returned (.int .i64 D) ∧ Below w.heap.size w w'))
    (K1 : Hid (∀ w, Calls Try.prog 11 #[.int .i64 y, .int .i64 m, .int .i64 D, .int .i64 0] w fun e w' => e = .returned (.tuple #[.int .i64 A, .int .i64 0]) ∧ Below w.heap.size w w'))
    (K2 : Hid (∀ w, Calls Try.prog 11 #[.int .i64 y', .int .i64 m', .int .i64 1, .int .i64 0] w fun e w' => e = .returned (.tuple #[.int .i64 (A + 1440), .int .i64 0]) ∧ Below w.heap.size w w'))
    (K3 : Hid (∀ w, Calls Try.prog 11 #[.int .i64 y, .int .i64 m, .int .i64 (D + 1), .int .i64 0] w fun e w' => e = .returned (.tuple #[.int .i64 0, .int .i64 120]) ∧ Below w.heap.size w w')) :
    Calls Try.prog 10 #[.int .i64 y, .int .i64 m] w fun e w' => e = .returned (.bool true) ∧ Below w.heap.size w w' := by
  rcases hn with ⟨hm12, hn1, hn2⟩ | ⟨hm12, hn1, hn2⟩
  · subst hn1; subst hn2
    go_enter Try.func10, Try.ntmps10
    go_wp2_with fail
    refine (awake_any _).mono ?_
    rintro e w1 ⟨rfl, b1⟩
    go_wp2_with fail
    refine (KD.out _).mono ?_
    rintro e w2 ⟨rfl, b2⟩
    have b2 := b1.trans (b2.mono b1.size)
    go_wp2_with fail
    refine (K1.out _).mono ?_
    rintro e w3 ⟨rfl, b3⟩
    have b3 := b2.trans (b3.mono b2.size)
    go_wp2_with fail
    refine (K2.out _).mono ?_
    rintro e w4 ⟨rfl, b4⟩
    have b4 := b3.trans (b4.mono b3.size)
    go_wp2_with fail
    refine (KD.out _).mono ?_
    rintro e w5 ⟨rfl, b5⟩
    have b5 := b4.trans (b5.mono b4.size)
    go_wp2_with fail
    refine (K3.out _).mono ?_
    rintro e w6 ⟨rfl, b6⟩
    have b6 := b5.trans (b6.mono b5.size)
    go_wp2_with fail
    go_ret
    exact ⟨rfl, b6⟩
  · subst hn1; subst hn2; subst hm12
    go_enter Try.func10, Try.ntmps10
    go_wp2_with fail
    refine (awake_any _).mono ?_
    rintro e w1 ⟨rfl, b1⟩
    go_wp2_with fail
    refine (KD.out _).mono ?_
    rintro e w2 ⟨rfl, b2⟩
    have b2 := b1.trans (b2.mono b1.size)
    go_wp2_with fail
    refine (K1.out _).mono ?_
    rintro e w3 ⟨rfl, b3⟩
    have b3 := b2.trans (b3.mono b2.size)
    go_wp2_with fail
    refine (K2.out _).mono ?_
    rintro e w4 ⟨rfl, b4⟩
    have b4 := b3.trans (b4.mono b3.size)
    go_wp2_with fail
    refine (KD.out _).mono ?_
    rintro e w5 ⟨rfl, b5⟩
    have b5 := b4.trans (b5.mono b4.size)
    go_wp2_with fail
    refine (K3.out _).mono ?_
    rintro e w6 ⟨rfl, b6⟩
    have b6 := b5.trans (b6.mono b5.size)
    go_wp2_with fail
    go_ret
    exact ⟨rfl, b6⟩

theorem walk (a0 a1 : Int) (w0 : (Lit.int .i64 a0).wf = true) (w1 : (Lit.int .i64 a1).wf = true) (w : World) :
    Calls Try.prog 10 #[.int .i64 a0, .int .i64 a1] w fun e w' => e = .returned (.bool true) ∧ Below w.heap.size w w' := by
  by_cases h1 : a0 < 1970
  · go_enter Try.func10, Try.ntmps10
    go_wp2_with fail
    refine (awake_any _).mono ?_
    rintro e w1 ⟨rfl, hb⟩
    go_wp2_with fail
    go_ret
    exact ⟨rfl, hb⟩
  by_cases h2 : 1000000 < a0
  · go_enter Try.func10, Try.ntmps10
    go_wp2_with fail
    refine (awake_any _).mono ?_
    rintro e w1 ⟨rfl, hb⟩
    go_wp2_with fail
    go_ret
    exact ⟨rfl, hb⟩
  by_cases h3 : a1 < 1
  · go_enter Try.func10, Try.ntmps10
    go_wp2_with fail
    refine (awake_any _).mono ?_
    rintro e w1 ⟨rfl, hb⟩
    go_wp2_with fail
    go_ret
    exact ⟨rfl, hb⟩
  by_cases h4 : 12 < a1
  · go_enter Try.func10, Try.ntmps10
    go_wp2_with fail
    refine (awake_any _).mono ?_
    rintro e w1 ⟨rfl, hb⟩
    go_wp2_with fail
    go_ret
    exact ⟨rfl, hb⟩
  have hy : 1970 ≤ a0 := by omega
  have hm : 1 ≤ a1 := by omega
  have hD := Civ.dim_bd a0 a1 (by omega) hm (by omega)
  have e1 := mn_first a0 a1 (Civ.dim a0 a1) _ hy (by omega) hm (by omega) (by omega) (Int.le_refl _) rfl
  have hA : 0 ≤ Civ.ahd a0 - 719162 ∧ Civ.ahd a0 ≤ 366000000 := by
    have := Civ.ahd_mono 1970 a0 hy
    have : Civ.ahd 1970 = 719162 := by decide
    constructor
    · omega
    · unfold Civ.ahd; omega
  have hc := Civ.cum_bd a0 a1 hm (by omega)
  have e3 : mnN a0 a1 (Civ.dim a0 a1 + 1) 0 = 0 ∧ mnE a0 a1 (Civ.dim a0 a1 + 1) 0 = 120 := by
    have hb : mnBad a0 a1 (Civ.dim a0 a1 + 1) 0 := by unfold mnBad; omega
    unfold mnN mnE
    rw [if_pos hb, if_pos hb]
    exact ⟨rfl, rfl⟩
  have hcs := Civ.cum_succ a0 a1 (by omega) hm (by omega)
  by_cases h12 : a1 < 12
  · have hD2 := Civ.dim_bd a0 (a1 + 1) (by omega) (by omega) (by omega)
    have e2 := mn_first a0 (a1 + 1) 1 ((Civ.ahd a0 - 719162 + Civ.dim a0 a1 - 1 + Civ.cum a0 a1) * 1440 + 1440) hy (by omega) (by omega) (by omega) (by omega) (by omega) (by omega)
    exact core a0 a1 (Civ.dim a0 a1) _ a0 (a1 + 1) w hy (by omega) hm (by omega) hD.1 hD.2 (by omega) (by omega) (.inl ⟨h12, rfl, rfl⟩) (Lib.hid (days_any a0 a1)) (Lib.hid (fun w => minute_lit _ _ _ _ _ _ w e1.1 e1.2)) (Lib.hid (fun w => minute_lit _ _ _ _ _ _ w e2.1 e2.2)) (Lib.hid (fun w => minute_lit _ _ _ _ _ _ w e3.1 e3.2))
  · obtain rfl : a1 = 12 := by omega
    have hD2 := Civ.dim_bd (a0 + 1) 1 (by omega) (by omega) (by omega)
    have hs := Civ.ahd_succ a0 (by omega)
    have hce : Civ.cum a0 (12 + 1) = 365 + Civ.lp a0 := Civ.cum_end a0
    have hc1 := Civ.cum_one (a0 + 1)
    have e2 := mn_first (a0 + 1) 1 1 ((Civ.ahd a0 - 719162 + Civ.dim a0 12 - 1 + Civ.cum a0 12) * 1440 + 1440) (by omega) (by omega) (by omega) (by omega) (by omega) (by omega) (by omega)
    exact core a0 12 (Civ.dim a0 12) _ (a0 + 1) 1 w hy (by omega) hm (by omega) hD.1 hD.2 (by omega) (by omega) (.inr ⟨rfl, rfl, rfl⟩) (Lib.hid (days_any a0 12)) (Lib.hid (fun w => minute_lit _ _ _ _ _ _ w e1.1 e1.2)) (Lib.hid (fun w => minute_lit _ _ _ _ _ _ w e2.1 e2.2)) (Lib.hid (fun w => minute_lit _ _ _ _ _ _ w e3.1 e3.2))
set_option maxRecDepth 100000 in
theorem lifted (os : Os) (started : os.Started) (H : Type) (enc : TypeId × Value → H) :
    ReturnsInHanded {} Try.checked os 10 .any (Rows.civilFirstSpec.pre6 enc Try.prog Try.f10 Rows.civilFirstRow.domain false) (Rows.civilFirstSpec.post enc Try.prog Try.f10 false true false false) := by
  refine returnsInHanded_of_change (C := Try.checked) own_knob started (by kernel_rfl) Try.func10
    (ChangeSpec.witness6 (enc := enc) (C := Try.checked) false ⟨#[], #[.int .i64 0, .int .i64 0], []⟩ 8 (by kernel_rfl) (by kernel_rfl) (by kernel_rfl) (by kernel_rfl)) ?_
  intro W base args ds gs before hval0 hW hcnd _
  refine law_contract (spec := Rows.civilFirstSpec) rfl ?_ (by rfl) ?_ hW ?_
  · intro ds hlen
    rw [Try.params10] at hlen
    match ds, hlen with
    | [d0, d1], _ => rfl
  · rw [Try.params10]
    intro t ht
    simp only [List.mem_cons, List.not_mem_nil, or_false] at ht
    rcases ht with rfl | rfl <;> exact ⟨by kernel_rfl, of_decide_eq_true (by kernel_rfl)⟩
  have hval : ∀ (j : Nat) t v, Try.f10.params[j]? = some t → args[j]? = some v → Value.okWide Try.prog W .any base t v := hval0
  obtain ⟨p, q, hA0, _, _, _, _⟩ := hW
  have hA : DataW.TrodAll enc Try.prog W 0 (fun _ => true) true Try.f10.params.toList args.toList ds p := hA0
  rw [Try.params10] at hA hval
  obtain ⟨v0, vs0, d0, ds0, p0, q0, hargs, rfl, rfl, h0, r0⟩ := trodAll_cons hA
  obtain ⟨v1, vs1, d1, ds1, p1, q1, rfl, rfl, rfl, h1, r1⟩ := trodAll_cons r0
  obtain ⟨rfl, rfl, rfl⟩ := trodAll_nil r1
  obtain rfl : args = #[v0, v1] := by cases args; simp_all
  obtain ⟨a0, rfl, rfl, rfl, w0⟩ := open_int Try.underlying3 (hval 0 _ v0 rfl rfl) h0
  obtain ⟨a1, rfl, rfl, rfl, w1⟩ := open_int Try.underlying3 (hval 1 _ v1 rfl rfl) h1
  exact walk a0 a1 w0 w1 W
theorem over : Rows.civilFirstRow.holds Try.pinned (OpenSpec.ofChange Rows.civilFirstSpec) :=
  OpenClaim.holds_of_wide 10 Try.f10 rfl rfl rfl rfl rfl rfl rfl ⟨rfl, rfl, rfl, rfl, rfl⟩ rfl rfl rfl rfl rfl (by kernel_rfl) Try.func10 (by kernel_rfl)
    (of_decide_eq_true (by kernel_rfl)) (by unfold Func.isWrapper; first | (rw [if_pos (by decide +kernel)]; kernel_rfl) | (rw [if_neg (by decide +kernel)]; exact ⟨rfl, rfl⟩))
    (fun os started H enc _ => lifted os started H enc)
theorem proved : Rows.CivilFirstSaid := over
#print axioms proved
end Go.Proofs.Ytfpmldmgiajgoaa.civilFirst
