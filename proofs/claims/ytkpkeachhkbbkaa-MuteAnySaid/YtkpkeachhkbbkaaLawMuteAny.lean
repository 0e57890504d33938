/- MuteAny: of at most 100 mutes, any number: whether one of them is silent is what the chapter says. Conditions: none. -/
import Derived.Test.YtkpkeachhkbbkaaMutG
import Derived.Test.YtkpkeachhkbbkaaMutT
import Derived.Test.YtkpkeachhkbbkaaFrame
namespace Go.Proofs.Ytkpkeachhkbbkaa.muteAny
open Go.ChangeShapes Go.WideShapes Go.ChangeAt Go.RowKit Mut
set_option linter.unusedVariables false
set_option maxRecDepth 100000 in
set_option maxHeartbeats 1000000 in
theorem nil_arm (n : Int) (w : World) : Calls Try.prog 3 #[.slice none 0 0, .int .i64 n] w fun e w' => e = .returned (.bool true) ∧ Below w.heap.size w w' := by
  obtain ⟨i0, hi, hz0, hz1, hz2⟩ := info_parts info_mute
  go_enter Try.func3, Try.ntmps3
  go_wp2_with fail
  go_loopw [5, 6] (fun a b wr => a = .bool false ∧ b = .int .i64 0 ∧ wr = w) (fun _ _ _ => 0)
  · exact ⟨rfl, rfl, rfl⟩
  obtain ⟨rfl, rfl, rfl⟩ := hrel
  go_wp2_with (at_builtin; refine wpList_append_own_none rfl (.tmp 27) (.tmp 28) 22 rfl 0 26 i0 10 Try.underlying22 hi (.slice none 0 0) 0 [] rfl (by rw [← hz1]; exact World.ownsRow_nil _ _ _ _) rfl ?_)
  refine (any_none n _).mono ?_
  rintro e w1 ⟨rfl, hb⟩
  have t : anyS [] n = false := rfl
  go_wp2_with fail
  go_loopw [8] (fun a wr => a = .int .i64 0 ∧ wr = w1) (fun _ _ => 0)
  · exact ⟨rfl, rfl⟩
  obtain ⟨rfl, rfl⟩ := hrel
  go_wp2_with fail
  go_ret
  exact ⟨rfl, hb⟩

set_option maxRecDepth 100000 in
set_option maxHeartbeats 1000000 in
theorem some_arm (ms : List MuteD) (n : Int) (a : Addr) (cap : Nat) (w : World) (hb0 : 0 < ms.length → a.block < w.heap.size) (hc : ms.length ≤ cap) (hm : cap ≤ maxLen) (hM : MAt w a ms) :
    Calls Try.prog 3 #[.slice (some a) ms.length cap, .int .i64 n] w fun e w' => e = .returned (.bool true) ∧ Below w.heap.size w w' := by
  by_cases hlen : (100 : Int) < (ms.length : Int)
  · go_enter Try.func3, Try.ntmps3
    go_wp2_with fail
    go_ret
    exact ⟨rfl, Below.refl _ _⟩
  obtain ⟨i0, hi, hz0, hz1, hz2⟩ := info_parts info_mute
  have hlen1 : ms.length ≤ 100 := by omega
  have HI := Lib.hid hi
  have HZ0 := Lib.hid hz0
  have HZ1 := Lib.hid hz1
  have HZ2 := Lib.hid hz2
  clear hi hz0 hz1 hz2
  go_enter Try.func3, Try.ntmps3
  go_wp2_with fail
  go_loopw [5, 6] (fun x y wr => ∃ i : Nat, x = .bool (anyS (ms.take i) n) ∧ y = .int .i64 i ∧ i ≤ ms.length ∧ Below w.heap.size w wr) (fun _ y _ => ms.length - (intOf y).toNat)
  · exact ⟨0, rfl, rfl, by omega, Below.refl _ _⟩
  obtain ⟨i, rfl, rfl, hin, hB⟩ := hrel
  by_cases hlt : i < ms.length
  · have hb := hb0 (by omega)
    obtain ⟨m, hm1⟩ : ∃ m, ms[i]? = some m := ⟨_, List.getElem?_eq_getElem hlt⟩
    obtain ⟨c0, c1, c2, c3, c4, c5, c6, c7, c8, c9⟩ := (hM.below hB hb).at hm1
    have hnx : anyS (ms.take (i + 1)) n = (anyS (ms.take i) n || sil m n) := by
      unfold anyS
      rw [List.take_add_one, hm1, List.any_append]
      simp
    have HNX := Lib.hid hnx
    clear hnx hm1
    obtain ⟨b, hb1⟩ : ∃ b, anyS (ms.take i) n = b := ⟨_, rfl⟩
    rw [hb1] at HNX ⊢
    clear hb1
    cases b
    · go_wp2_with fail
      refine (rsilent_any m n _).mono ?_
      rintro e w1 ⟨rfl, hbw⟩
      have hB1 := hB.trans (hbw.mono hB.size)
      clear c0 c1 c2 c3 c4 c5 c6 c7 c8 c9 hbw
      go_wp2_with fail
      exact ⟨⟨i + 1, by rw [HNX.out]; simp, by simp, by omega, hB1⟩, by simp [intOf]; omega⟩
    · go_wp2_with fail
      exact ⟨⟨i + 1, by rw [HNX.out]; simp, by simp, by omega, hB⟩, by simp [intOf]; omega⟩
  have : i = ms.length := by omega
  subst this
  rw [List.take_length]
  obtain ⟨b, hb1⟩ : ∃ b, anyS ms n = b := ⟨_, rfl⟩
  rw [hb1]
  have HB1 := Lib.hid hb1
  clear hb1
  have hnews : ∀ (j : Nat) (u : Value), (flat ms)[j]? = some u → wr.cell? (a.add j) = some u := by
    by_cases h0 : 0 < ms.length
    · exact (hM.below hB (hb0 h0)).flat
    · intro j u hu
      have := (List.getElem?_eq_some_iff.1 hu).1
      rw [flat_len] at this
      omega
  have HNW := Lib.hid hnews
  clear hnews
  go_wp2_with (at_builtin; refine wpList_append_own _ rfl (.tmp 27) (.tmp 28) 22 rfl w.heap.size 26 i0 _ 10 40 Try.underlying22 HI.out HZ0.out HZ1.out HZ2.out rfl (by decide) (.slice none 0 0) 0 [] rfl (World.ownsRow_nil _ _ _ _) a ms.length cap (flat ms) rfl (flat_len ms) HNW.out (flat_one ms) (by omega) (by omega) hB.size ?_; intro v' w1 hown hgrow hnil)
  simp only [Nat.zero_add, List.nil_append] at hown
  have hMu := Mutes.owned hown
  have hB1 : Below w.heap.size w w1 := hB.grown hgrow hB.size (fun k e => by simp [Value.ownBlock] at e)
  clear hown hgrow hnil HNW HI HZ0 HZ1 HZ2 hB
  refine (an_M hMu HB1.out).mono ?_
  rintro e w2 ⟨rfl, hb2⟩
  have hB2 := hB1.trans (hb2.mono hB1.size)
  have hne : (b != b) = false := by cases b <;> rfl
  rcases hMu with ⟨rfl, rfl⟩ | ⟨g, capg, rfl, k1, k2, k3, k4⟩
  · clear hb2 hB1
    go_wp2_with fail
    go_loopw [8] (fun x wr => x = .int .i64 0 ∧ wr = w2) (fun _ _ => 0)
    · exact ⟨rfl, rfl⟩
    obtain ⟨rfl, rfl⟩ := hrel
    go_wp2_with fail
    go_ret
    exact ⟨rfl, hB2⟩
  · go_wp2_with fail
    go_loopw [8] (fun x wr => ∃ j : Nat, x = .int .i64 j ∧ j ≤ ms.length ∧ Below w2.heap.size w2 wr) (fun x _ => ms.length - (intOf x).toNat)
    · exact ⟨0, rfl, by omega, Below.refl _ _⟩
    obtain ⟨j, rfl, hj, hB3⟩ := hrel
    have hB4 := hB2.trans (hB3.mono hB2.size)
    by_cases hlt : j < ms.length
    · obtain ⟨m, hm1⟩ : ∃ m, ms[j]? = some m := ⟨_, List.getElem?_eq_getElem hlt⟩
      have hbj := hb0 (by omega)
      have kbj := k1 (by omega)
      have f1 := (hM.below hB4 hbj).at hm1
      have f2 := ((k4.below hb2 kbj).below hB3 (Nat.lt_of_lt_of_le kbj hb2.size)).at hm1
      obtain ⟨c0, c1, c2, c3, c4, c5, c6, c7, c8, c9⟩ := f1
      obtain ⟨d0, d1, d2, d3, d4, d5, d6, d7, d8, d9⟩ := f2
      clear hm1 hb2 hB1 hB2
      have hjj : (j : Int) < (ms.length : Int) := by omega
      go_wp2_with fail
      have he := fun w => equal_mute m w
      have hg := guard_mute
      refine still_all (by kernel_rfl) (by kernel_rfl) ?_
      repeat still_step
      refine wpStill_nil ?_
      clear c0 c1 c2 c3 c4 c5 c6 c7 c8 c9 d0 d1 d2 d3 d4 d5 d6 d7 d8 d9 he hg
      go_wp2_with fail
      exact ⟨⟨j + 1, by simp, by omega, hB3.drew⟩, by simp [intOf]; omega⟩
    · have : j = ms.length := by omega
      subst this
      go_wp2_with fail
      go_ret
      exact ⟨rfl, hB4⟩
theorem walk (ms : List MuteD) (n : Int) {s : Value} {w : World} (h : Mutes w s ms) (_ : (Lit.int .i64 n).wf = true) (_ : World) : Calls Try.prog 3 #[s, .int .i64 n] w fun e w' => e = .returned (.bool true) ∧ Below w.heap.size w w' := by
  rcases h with ⟨rfl, rfl⟩ | ⟨a, cap, rfl, h1, h2, h3, h4⟩
  · exact nil_arm n w
  · exact some_arm ms n a cap w h1 h2 h3 h4
set_option maxRecDepth 100000 in
theorem lifted (os : Os) (started : os.Started) (H : Type) (enc : TypeId × Value → H) :
    ReturnsInHanded {} Try.checked os 3 .any (Rows.muteAnySpec.pre6 enc Try.prog Try.f3 Rows.muteAnyRow.domain false) (Rows.muteAnySpec.post enc Try.prog Try.f3 false true false false) := by
  refine returnsInHanded_of_change (C := Try.checked) own_knob started (by kernel_rfl) Try.func3
    (ChangeSpec.witness6 (enc := enc) (C := Try.checked) false ⟨#[], #[.slice none 0 0, .int .i64 0], []⟩ 8 (by kernel_rfl) (by kernel_rfl) (by kernel_rfl) (by kernel_rfl)) ?_
  intro W base args ds gs before hval0 hW hcnd _
  refine law_contract (spec := Rows.muteAnySpec) rfl ?_ (by rfl) ?_ hW ?_
  · intro ds hlen
    rw [Try.params3] at hlen
    match ds, hlen with
    | [d0, d1], _ => rfl
  · rw [Try.params3]
    intro t ht
    simp only [List.mem_cons, List.not_mem_nil, or_false] at ht
    rcases ht with rfl | rfl <;> exact ⟨by kernel_rfl, of_decide_eq_true (by kernel_rfl)⟩
  have hval : ∀ (j : Nat) t v, Try.f3.params[j]? = some t → args[j]? = some v → Value.okWide Try.prog W .any base t v := hval0
  obtain ⟨p, q, hA0, _, _, _, _⟩ := hW
  have hA : DataW.TrodAll enc Try.prog W 0 (fun _ => true) true Try.f3.params.toList args.toList ds p := hA0
  rw [Try.params3] at hA hval
  obtain ⟨v0, vs0, d0, ds0, p0, q0, hargs, rfl, rfl, h0, r0⟩ := trodAll_cons hA
  obtain ⟨v1, vs1, d1, ds1, p1, q1, rfl, rfl, rfl, h1, r1⟩ := trodAll_cons r0
  obtain ⟨rfl, rfl, rfl⟩ := trodAll_nil r1
  obtain rfl : args = #[v0, v1] := by cases args; simp_all
  obtain ⟨a0, e0⟩ := open_mutes (hval 0 _ v0 rfl rfl) h0
  obtain ⟨a1, rfl, rfl, rfl, w1⟩ := open_int Try.underlying3 (hval 1 _ v1 rfl rfl) h1
  exact walk a0 a1 e0 w1 W
theorem over : Rows.muteAnyRow.holds Try.pinned (OpenSpec.ofChange Rows.muteAnySpec) :=
  OpenClaim.holds_of_wide 3 Try.f3 rfl rfl rfl rfl rfl rfl rfl ⟨rfl, rfl, rfl, rfl, rfl⟩ rfl rfl rfl rfl rfl (by kernel_rfl) Try.func3 (by kernel_rfl)
    (of_decide_eq_true (by kernel_rfl)) (by unfold Func.isWrapper; first | (rw [if_pos (by decide +kernel)]; kernel_rfl) | (rw [if_neg (by decide +kernel)]; exact ⟨rfl, rfl⟩))
    (fun os started H enc _ => lifted os started H enc)
theorem proved : Rows.MuteAnySaid := over
#print axioms proved
end Go.Proofs.Ytkpkeachhkbbkaa.muteAny
