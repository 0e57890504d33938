/- OutboxMinutes' walk -/
import Derived.Test.YtfaafndaelmbfaaORoomL
namespace Go.Proofs.Ytfaafndaelmbfaa
open Go.RowKit
attribute [local go_sem] Oper.semAt_some

/-- how often a message was sent when i minutes are gone by; how many minutes behind the first one it is sent next -/
def mt (i : Nat) : Int := if i = 0 then 0 else if i ≤ 1 then 1 else if i ≤ 3 then 2 else if i ≤ 7 then 3 else 4 + (i / 16 : Nat)
def md (i : Nat) : Int := if i = 0 then 0 else if i ≤ 1 then 1 else if i ≤ 3 then 3 else if i ≤ 7 then 7 else 15 + 16 * (i / 16 : Nat)
def wantB (i : Nat) : Bool := i == 0 || i == 1 || i == 3 || i == 7 || (decide (15 ≤ i) && (i - 15) % 16 == 0)
def minL (m : Ms) (at_ : Int) (i : Nat) : List Ox := [⟨m, mt i, at_ + md i⟩]
theorem md_due (i : Nat) : md i ≤ i ↔ wantB i = true := by
  unfold md wantB
  simp only [Bool.or_eq_true, Bool.and_eq_true, beq_iff_eq, decide_eq_true_eq]
  by_cases h0 : i = 0
  · simp [h0]
  by_cases h1 : i ≤ 1
  · have : i = 1 := by omega
    simp [this]
  by_cases h3 : i ≤ 3
  · rw [if_neg h0, if_neg h1, if_pos h3]
    omega
  by_cases h7 : i ≤ 7
  · rw [if_neg h0, if_neg h1, if_neg h3, if_pos h7]
    omega
  · rw [if_neg h0, if_neg h1, if_neg h3, if_neg h7]
    omega
theorem md_yes {i : Nat} (h : wantB i = true) : mt (i + 1) = mt i + 1 ∧ md (i + 1) = i + mor (mt i) := by
  have h' := (md_due i).2 h
  unfold wantB at h
  simp only [Bool.or_eq_true, Bool.and_eq_true, beq_iff_eq, decide_eq_true_eq] at h
  rcases h with (((rfl | rfl) | rfl) | rfl) | ⟨h1, h2⟩
  · exact ⟨by decide, by decide⟩
  · exact ⟨by decide, by decide⟩
  · exact ⟨by decide, by decide⟩
  · exact ⟨by decide, by decide⟩
  · have e1 : mt i = 4 + (i / 16 : Nat) := by unfold mt; rw [if_neg (by omega), if_neg (by omega), if_neg (by omega), if_neg (by omega)]
    have e2 : mt (i + 1) = 4 + ((i + 1) / 16 : Nat) := by unfold mt; rw [if_neg (by omega), if_neg (by omega), if_neg (by omega), if_neg (by omega)]
    have e3 : md (i + 1) = 15 + 16 * ((i + 1) / 16 : Nat) := by unfold md; rw [if_neg (by omega), if_neg (by omega), if_neg (by omega), if_neg (by omega)]
    have e4 : mor (mt i) = 16 := by rw [e1]; unfold mor; rw [if_neg (by omega), if_neg (by omega), if_neg (by omega), if_neg (by omega)]
    rw [e4, e1, e2, e3]
    constructor <;> omega
theorem md_no {i : Nat} (h : wantB i = false) : mt (i + 1) = mt i ∧ md (i + 1) = md i := by
  unfold wantB at h
  simp only [Bool.or_eq_false_iff, Bool.and_eq_false_iff, beq_eq_false_iff_ne, decide_eq_false_iff_not] at h
  obtain ⟨⟨⟨⟨h0, h1⟩, h3⟩, h7⟩, h15⟩ := h
  unfold mt md
  rw [if_neg (by omega), if_neg (by omega)]
  by_cases h2 : i = 2
  · subst h2
    exact ⟨by decide, by decide⟩
  by_cases h6 : i ≤ 6
  · have : i = 4 ∨ i = 5 ∨ i = 6 := by omega
    rcases this with rfl | rfl | rfl <;> exact ⟨by decide, by decide⟩
  · rw [if_neg (by omega), if_neg (by omega), if_neg (by omega), if_neg (by omega), if_neg (by omega), if_neg (by omega), if_neg (by omega), if_neg (by omega), if_neg (by omega), if_neg (by omega), if_neg (by omega), if_neg (by omega), if_neg (by omega), if_neg (by omega)]
    constructor <;> omega
theorem min_step (m : Ms) {a i : Nat} (ha : a ≤ 1000000) (hi : i ≤ 300) : sendL (minL m a i) ((a : Int) + i) = minL m a (i + 1) ∧ (sendO (minL m a i) ((a : Int) + i)).length = if wantB i then 1 else 0 := by
  have hm : minB ((a : Int) + i) = true := by unfold minB; simp; omega
  unfold sendL sendO
  rw [hm, if_pos rfl, if_pos rfl]
  unfold minL pumpL pumpO
  have hd := md_due i
  cases hw : wantB i with
  | true =>
    obtain ⟨h1, h2⟩ := md_yes hw
    have h3 := hd.2 hw
    have h4 : (a : Int) + md i ≤ a + i := by omega
    simp [h4, pmX, h1, h2]
    omega
  | false =>
    obtain ⟨h1, h2⟩ := md_no hw
    have h4 : ¬ (a : Int) + md i ≤ a + i := fun h => by
      have := hd.1 (by omega)
      rw [hw] at this
      cases this
    simp [h1, h2]
    omega
theorem min_tr (m : Ms) (a : Int) {i : Nat} (hi : i ≤ 300) : TrOk (minL m a i) := by
  intro x hx
  unfold minL at hx
  obtain rfl := List.mem_singleton.1 hx
  show 0 ≤ mt i ∧ mt i ≤ _
  unfold mt
  split
  · omega
  split
  · omega
  split
  · omega
  split <;> omega
theorem want_eq {k : Nat} {b0 b1 b3 b7 b15 br : Bool} (h0 : ((k : Int) == 0) = b0) (h1 : ((k : Int) == 1) = b1) (h3 : ((k : Int) == 3) = b3) (h7 : ((k : Int) == 7) = b7) (h15 : decide (15 ≤ (k : Int)) = b15) (hr : (((k : Int) - 15).tmod 16 == 0) = br) :
    wantB k = (b0 || b1 || b3 || b7 || (b15 && br)) := by
  subst h0 h1 h3 h7 h15 hr
  rw [Bool.eq_iff_iff]
  unfold wantB
  simp only [Bool.or_eq_true, Bool.and_eq_true, beq_iff_eq, decide_eq_true_eq]
  constructor
  · rintro ((((h | h) | h) | h) | ⟨h, h'⟩)
    · exact .inl (.inl (.inl (.inl (by omega))))
    · exact .inl (.inl (.inl (.inr (by omega))))
    · exact .inl (.inl (.inr (by omega)))
    · exact .inl (.inr (by omega))
    · refine .inr ⟨by omega, ?_⟩
      rw [Int.tmod_eq_emod_of_nonneg (by omega)]
      omega
  · rintro ((((h | h) | h) | h) | ⟨h, h'⟩)
    · exact .inl (.inl (.inl (.inl (by omega))))
    · exact .inl (.inl (.inl (.inr (by omega))))
    · exact .inl (.inl (.inr (by omega)))
    · exact .inl (.inr (by omega))
    · refine .inr ⟨by omega, ?_⟩
      rw [Int.tmod_eq_emod_of_nonneg (by omega)] at h'
      omega
set_option maxRecDepth 100000 in
set_option maxHeartbeats 4000000 in
theorem outboxMinutes_any {r : Mr} {at_ behind : Int} {w : World} (h : Mo (fun _ => True) w r) (hz : r.m.ks.length * 16 ≤ reachBytes ∧ r.m.ss.length * 8 ≤ reachBytes) (_ : (Lit.int .i64 at_).wf = true) (_ : (Lit.int .i64 behind).wf = true) : Calls Try.prog 4 #[mv r, .int .i64 at_, .int .i64 behind] w (Tells (.bool true) w) := by
  obtain ⟨q1, d1, q2, d2, hr⟩ := h.open
  obtain ⟨m, hmm⟩ : ∃ m, m = r.m := ⟨_, rfl⟩
  rw [← hmm] at hr
  rw [← hmm] at hz
  unfold reachBytes at hz
  subst hr
  clear hmm
  have hb0 : Below w.heap.size w (w.alloc (.cells (mc ⟨.slice q1 m.ks.length d1, .slice q2 m.ss.length d2, m⟩) 31)) := (Below.refl _ w).alloc (Nat.le_refl _) _
  have b3 := Box.new w (mc ⟨.slice q1 m.ks.length d1, .slice q2 m.ss.length d2, m⟩) 31
  have HM := Lib.hid (h.below hb0)
  have HB0 := Lib.hid hb0
  have HX := Lib.hid b3
  have hl1 := hz.1
  have hl2 := hz.2
  have hww : wrap64 ((m.ks.length : Int) + (m.ss.length : Int)) = (m.ks.length : Int) + (m.ss.length : Int) := IntWalk.wrap64_in _ ⟨by omega, by omega⟩
  by_cases hbig : (m.ks.length : Int) + (m.ss.length : Int) ≤ 100
  · have hbig' : ¬ 100 < (m.ks.length : Int) + (m.ss.length : Int) := by omega
    obtain ⟨a, ha, ha1⟩ := mod_u64 at_ 1000001 (by omega) (by omega)
    obtain ⟨bb, hbb, hbb1⟩ := mod_u64 behind 201 (by omega) (by omega)
    have ha' : wrap64 ((IntKind.u64.wrap at_).tmod 1000001) = (a : Int) := ha
    have hbb' : wrap64 ((IntKind.u64.wrap behind).tmod 201) = (bb : Int) := hbb
    have HF : Hid (Few m) := Lib.hid ⟨by omega, by omega⟩
    clear h hb0 b3 ha hbb hl1 hl2 hz
    obtain ⟨c3, z3⟩ := HX.out.rd
    go_enter Try.func4, Try.ntmps4
    go_wp2_with fail
    obtain ⟨W0, hW0⟩ : ∃ W0, (w.alloc (.cells (mc ⟨.slice q1 m.ks.length d1, .slice q2 m.ss.length d2, m⟩) 31)) = W0 := ⟨_, rfl⟩
    rw [hW0] at HM HB0 HX ⊢
    clear hW0 c3 z3
    refine (new_m W0).mono ?_
    rintro e w1 ⟨rfl, hN, hb⟩
    obtain ⟨p, hp⟩ : ∃ p, p = W0.heap.size := ⟨_, rfl⟩
    have hN0 : BxM (fun b => b < W0.heap.size) p w1 [] := by
      rw [hp]
      exact hN.turn (fun b _ m => .inl m)
    have hx1 := HX.out.below hb
    have hl1 := hx1.lt
    obtain ⟨c3, z3⟩ := hx1.rd
    have HB1 := Lib.hid hb
    have hM1 := HM.out.below hb
    have HAD := Lib.hid (add_m (at_ := (a : Int)) hN0 (fun b m => Nat.lt_of_lt_of_le m HB1.out.size) hM1 HF.out (by simp))
    rw [← hp]
    clear hp hb hN ha' hbb' hx1 hN0 hM1
    go_wp2_with fail
    refine HAD.out.mono ?_
    rintro e w2 ⟨rfl, hN2, hk2⟩
    have e1 : addE [] m (a : Int) = 0 := by
      have : minB (a : Int) = true := by unfold minB; simp; omega
      unfold addE hasM
      simp [this]
    have e2 : addL [] m (a : Int) = minL m a 0 := by
      have : minB (a : Int) = true := by unfold minB; simp; omega
      unfold addL hasM minL
      simp [this, mt, md]
    have hN2' : BxM (fun b => b < W0.heap.size) p w2 (minL m a 0) := by
      rw [← e2]
      exact hN2
    rw [show addE [] _ _ = 0 from e1]
    have HB2 := Lib.hid (Kept.first HB1.out hk2)
    clear hN2 hk2 e1 e2 c3 z3 HAD
    go_wp2_with fail
    go_loopw [8, 9] (fun iv_ _ wr => ∃ k : Nat, iv_ = .int .i64 k ∧ k ≤ bb + 1 ∧ BxM (fun b => b < W0.heap.size) p wr (minL m a k) ∧ Kept (fun b => ¬ b < W0.heap.size) W0 wr) (fun iv_ _ _ => bb + 1 - (intOf iv_).toNat)
    · exact ⟨0, rfl, by omega, hN2', HB2.out⟩
    clear hN2'
    obtain ⟨k, rfl, hk, hN, hB⟩ := hrel
    have HN := Lib.hid hN
    have HB := Lib.hid hB
    clear hN hB
    by_cases hlt : k ≤ bb
    · have hkk : (k : Int) ≤ (bb : Int) := by omega
      have hwa : wrap64 ((a : Int) + (k : Int)) = (a : Int) + (k : Int) := IntWalk.wrap64_in _ ⟨by omega, by omega⟩
      obtain ⟨s1, s2⟩ := min_step m (a := a) (i := k) (by omega) (by omega)
      have S1 := Lib.hid s1
      have S2 := Lib.hid s2
      have HG := Lib.hid (pump_m (at_ := (a : Int) + k) HN.out (by unfold minL; simp) (by unfold minL; intro x hx; obtain rfl := List.mem_singleton.1 hx; exact HF.out) (min_tr m a (by omega)))
      clear s1 s2
      obtain ⟨b0, hb0⟩ : ∃ b0, ((k : Int) == 0) = b0 := ⟨_, rfl⟩
      obtain ⟨b1, hb1⟩ : ∃ b1, ((k : Int) == 1) = b1 := ⟨_, rfl⟩
      obtain ⟨b3, hb3⟩ : ∃ b3, ((k : Int) == 3) = b3 := ⟨_, rfl⟩
      obtain ⟨b7, hb7⟩ : ∃ b7, ((k : Int) == 7) = b7 := ⟨_, rfl⟩
      obtain ⟨b15, hb15⟩ : ∃ b15, decide (15 ≤ (k : Int)) = b15 := ⟨_, rfl⟩
      obtain ⟨br, hbr⟩ : ∃ br, (((k : Int) - 15).tmod 16 == 0) = br := ⟨_, rfl⟩
      have hW : wantB k = (b0 || b1 || b3 || b7 || (b15 && br)) := want_eq hb0 hb1 hb3 hb7 hb15 hbr
      have hws : b15 = true → wrap64 ((k : Int) - 15) = (k : Int) - 15 := fun _ => IntWalk.wrap64_in _ ⟨by omega, by omega⟩
      rw [hW] at S2
      cases b0 with
      | true =>
        go_wp2_with fail
        refine HG.out.mono ?_
        rintro e w3 ⟨v, os, rfl, hos, hR, hN3, hk3⟩
        obtain ⟨pv, cv, rfl⟩ := owns_slice hR.own
        have hol : os.length = 1 := by rw [← List.length_map (f := Mr.m), hos, S2.out]; rfl
        rw [hol]
        have HN3 : Hid (BxM (fun b => b < W0.heap.size) p w3 (minL m a (k + 1))) := Lib.hid (by rw [← S1.out]; exact hN3.turn (fun b _ m => .inl m))
        have HB3 := Lib.hid (HB.out.trans hk3 (fun _ _ x => x) (fun _ _ x => x))
        clear hos hR hN3 hk3 HG hol
        go_wp2_with fail
        exact ⟨⟨k + 1, by simp, by omega, HN3.out, HB3.out⟩, by simp [intOf]; omega⟩
      | false =>
        cases b1 with
        | true =>
          go_wp2_with fail
          refine HG.out.mono ?_
          rintro e w3 ⟨v, os, rfl, hos, hR, hN3, hk3⟩
          obtain ⟨pv, cv, rfl⟩ := owns_slice hR.own
          have hol : os.length = 1 := by rw [← List.length_map (f := Mr.m), hos, S2.out]; rfl
          rw [hol]
          have HN3 : Hid (BxM (fun b => b < W0.heap.size) p w3 (minL m a (k + 1))) := Lib.hid (by rw [← S1.out]; exact hN3.turn (fun b _ m => .inl m))
          have HB3 := Lib.hid (HB.out.trans hk3 (fun _ _ x => x) (fun _ _ x => x))
          clear hos hR hN3 hk3 HG hol
          go_wp2_with fail
          exact ⟨⟨k + 1, by simp, by omega, HN3.out, HB3.out⟩, by simp [intOf]; omega⟩
        | false =>
          cases b3 with
          | true =>
            go_wp2_with fail
            refine HG.out.mono ?_
            rintro e w3 ⟨v, os, rfl, hos, hR, hN3, hk3⟩
            obtain ⟨pv, cv, rfl⟩ := owns_slice hR.own
            have hol : os.length = 1 := by rw [← List.length_map (f := Mr.m), hos, S2.out]; rfl
            rw [hol]
            have HN3 : Hid (BxM (fun b => b < W0.heap.size) p w3 (minL m a (k + 1))) := Lib.hid (by rw [← S1.out]; exact hN3.turn (fun b _ m => .inl m))
            have HB3 := Lib.hid (HB.out.trans hk3 (fun _ _ x => x) (fun _ _ x => x))
            clear hos hR hN3 hk3 HG hol
            go_wp2_with fail
            exact ⟨⟨k + 1, by simp, by omega, HN3.out, HB3.out⟩, by simp [intOf]; omega⟩
          | false =>
            cases b7 with
            | true =>
              go_wp2_with fail
              refine HG.out.mono ?_
              rintro e w3 ⟨v, os, rfl, hos, hR, hN3, hk3⟩
              obtain ⟨pv, cv, rfl⟩ := owns_slice hR.own
              have hol : os.length = 1 := by rw [← List.length_map (f := Mr.m), hos, S2.out]; rfl
              rw [hol]
              have HN3 : Hid (BxM (fun b => b < W0.heap.size) p w3 (minL m a (k + 1))) := Lib.hid (by rw [← S1.out]; exact hN3.turn (fun b _ m => .inl m))
              have HB3 := Lib.hid (HB.out.trans hk3 (fun _ _ x => x) (fun _ _ x => x))
              clear hos hR hN3 hk3 HG hol
              go_wp2_with fail
              exact ⟨⟨k + 1, by simp, by omega, HN3.out, HB3.out⟩, by simp [intOf]; omega⟩
            | false =>
              cases b15 with
              | false =>
                go_wp2_with fail
                refine HG.out.mono ?_
                rintro e w3 ⟨v, os, rfl, hos, hR, hN3, hk3⟩
                obtain ⟨pv, cv, rfl⟩ := owns_slice hR.own
                have hol : os.length = 0 := by rw [← List.length_map (f := Mr.m), hos, S2.out]; rfl
                rw [hol]
                have HN3 : Hid (BxM (fun b => b < W0.heap.size) p w3 (minL m a (k + 1))) := Lib.hid (by rw [← S1.out]; exact hN3.turn (fun b _ m => .inl m))
                have HB3 := Lib.hid (HB.out.trans hk3 (fun _ _ x => x) (fun _ _ x => x))
                clear hos hR hN3 hk3 HG hol
                go_wp2_with fail
                exact ⟨⟨k + 1, by simp, by omega, HN3.out, HB3.out⟩, by simp [intOf]; omega⟩
              | true =>
                have hwq := hws rfl
                cases br with
                | true =>
                  go_wp2_with fail
                  refine HG.out.mono ?_
                  rintro e w3 ⟨v, os, rfl, hos, hR, hN3, hk3⟩
                  obtain ⟨pv, cv, rfl⟩ := owns_slice hR.own
                  have hol : os.length = 1 := by rw [← List.length_map (f := Mr.m), hos, S2.out]; rfl
                  rw [hol]
                  have HN3 : Hid (BxM (fun b => b < W0.heap.size) p w3 (minL m a (k + 1))) := Lib.hid (by rw [← S1.out]; exact hN3.turn (fun b _ m => .inl m))
                  have HB3 := Lib.hid (HB.out.trans hk3 (fun _ _ x => x) (fun _ _ x => x))
                  clear hos hR hN3 hk3 HG hol
                  go_wp2_with fail
                  exact ⟨⟨k + 1, by simp, by omega, HN3.out, HB3.out⟩, by simp [intOf]; omega⟩
                | false =>
                  go_wp2_with fail
                  refine HG.out.mono ?_
                  rintro e w3 ⟨v, os, rfl, hos, hR, hN3, hk3⟩
                  obtain ⟨pv, cv, rfl⟩ := owns_slice hR.own
                  have hol : os.length = 0 := by rw [← List.length_map (f := Mr.m), hos, S2.out]; rfl
                  rw [hol]
                  have HN3 : Hid (BxM (fun b => b < W0.heap.size) p w3 (minL m a (k + 1))) := Lib.hid (by rw [← S1.out]; exact hN3.turn (fun b _ m => .inl m))
                  have HB3 := Lib.hid (HB.out.trans hk3 (fun _ _ x => x) (fun _ _ x => x))
                  clear hos hR hN3 hk3 HG hol
                  go_wp2_with fail
                  exact ⟨⟨k + 1, by simp, by omega, HN3.out, HB3.out⟩, by simp [intOf]; omega⟩
    · obtain rfl : k = bb + 1 := by omega
      have e1 : hasR (minL m a (bb + 1)) m.rule m.at_ = true := by unfold hasR minL isM; simp
      have e2 : ackL (minL m a (bb + 1)) m.rule m.at_ = [] := by unfold ackL minL isM; simp
      have HX2 := Lib.hid (HX.out.kept HB.out (fun h => h HX.out.lt))
      obtain ⟨c3, z3⟩ := HX2.out.rd
      have hl3 := HX2.out.lt
      have HLN := Lib.hid (len_m HN.out)
      have HAK := Lib.hid (ack_m (r := m.rule) (i := m.at_) HN.out (by unfold minL; simp))
      have E1 := Lib.hid e1
      have E2 := Lib.hid e2
      have hkk : ¬ ((bb + 1 : Nat) : Int) ≤ (bb : Int) := by omega
      clear e1 e2
      go_wp2_with fail
      refine HLN.out.mono ?_
      rintro e w3 ⟨rfl, rfl⟩
      have hl1 : (minL m a (bb + 1)).length = 1 := rfl
      rw [hl1]
      go_wp2_with fail
      refine HAK.out.mono ?_
      rintro e w4 ⟨he, hN4, hk4⟩
      rw [E1.out] at he
      subst he
      have hN4' : BxM (fun b => b < W0.heap.size) p w4 [] := by
        rw [← E2.out]
        exact hN4
      have HLN4 := Lib.hid (len_m hN4')
      have HB4 := Lib.hid (HB.out.trans hk4 (fun _ _ x => x) (fun _ _ x => x))
      clear hN4 hk4 hN4' c3 z3
      go_wp2_with fail
      refine HLN4.out.mono ?_
      rintro e w5 ⟨rfl, rfl⟩
      go_wp2_with fail
      go_ret
      exact ⟨rfl, HB0.out.trans (HB4.out.below (fun b h => Nat.le_trans HB0.out.size (Nat.le_of_not_lt h)) HB0.out.size)⟩
  · have hbig' : 100 < (m.ks.length : Int) + (m.ss.length : Int) := by omega
    obtain ⟨c3, z3⟩ := b3.rd
    clear hbig h hb0 b3 hl1 hl2 hz
    go_enter Try.func4, Try.ntmps4
    go_wp2_with fail
    go_ret
    exact ⟨rfl, HB0.out⟩
end Go.Proofs.Ytfaafndaelmbfaa
